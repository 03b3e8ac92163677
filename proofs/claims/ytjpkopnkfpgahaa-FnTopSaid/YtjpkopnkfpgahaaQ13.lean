import Derived.Test.YtjpkopnkfpgahaaQ12
import Derived.Test.YtjpkopnkfpgahaaQ11
import Derived.Test.YtjpkopnkfpgahaaQ7
/- Forms of actions: both walks. -/
namespace Go.Proofs.Ytjpkopnkfpgahaa
open Go.RowKit

/-- The places of the points in a list, after k rounds. -/
def posL (M : List Nat) (n : Nat) : Nat → List Int
  | 0 => List.replicate n 0
  | k + 1 => (posL M n k).set (M.getD k 0) (k : Int)
theorem posL_len (M : List Nat) (n k : Nat) : (posL M n k).length = n := by
  induction k with
  | zero => simp [posL]
  | succ k ih => simp [posL, ih]
theorem posL_pts {M : List Nat} {n : Nat} (h0 : 1 ≤ n) (k : Nat) (hk : k ≤ n) : ∀ a, a < n → ∃ q : Nat, q < n ∧ (posL M n k)[a]? = some (q : Int) := by
  induction k with
  | zero => exact fun a ha => ⟨0, by omega, by simp [posL, ha]⟩
  | succ k ih =>
    intro a ha
    simp only [posL, List.getElem?_set, posL_len]
    by_cases e : M.getD k 0 = a
    · rw [if_pos e, if_pos (by omega)]
      exact ⟨k, by omega, rfl⟩
    · rw [if_neg e]
      exact ih (by omega) a ha
theorem posL_ptsB {M : List Nat} {n k : Nat} (h0 : 1 ≤ n) (hk : k ≤ n) : ptsB (posL M n k) n :=
  ⟨posL_len M n k, fun a ha => by
    obtain ⟨q, hq, e⟩ := posL_pts (M := M) h0 k hk a ha
    have : fn (posL M n k) a = q := by
      unfold fn
      rw [List.getD, e]
      simp
    rw [this]
    exact ⟨e, hq⟩⟩
/-- The points' places in the order in which they are met from i on. -/
def posOf (S T : List Int) (i n : Nat) : List Int := posL (metL (fn S) (fn T) i n) n (metL (fn S) (fn T) i n).length
def formOf (S T : List Int) (i n : Nat) : Act := ⟨rnL (posOf S T i n) S n n, rnL (posOf S T i n) T n n⟩

end Go.Proofs.Ytjpkopnkfpgahaa

/- Forms of actions: the reference's walk. -/
namespace Go.Proofs.Ytjpkopnkfpgahaa
open Go.RowKit

end Go.Proofs.Ytjpkopnkfpgahaa

/- FormFrom: both. -/
namespace Go.Proofs.Ytjpkopnkfpgahaa
open Go.RowKit

def ptB (i : Int) (n : Nat) : Bool := inB i 0 ((n : Int) - 1)
def formCode (S T : List Int) (i : Int) : Int := if isA S T then (if ptB i S.length then 0 else 2) else 1
def formAct (S T : List Int) (i : Int) : Act := if isA S T then (if ptB i S.length then formOf S T i.toNat S.length else ⟨[], []⟩) else ⟨[], []⟩
theorem formAct_len (S T : List Int) (i : Int) : (formAct S T i).S.length ≤ 1048576 ∧ (formAct S T i).T.length ≤ 1048576 := by
  unfold formAct
  split
  · rename_i h
    have := (isA_spec h).1
    split
    · simp only [formOf, rnL_len]; omega
    · simp
  · simp

set_option maxHeartbeats 1000000 in
theorem isPoint_any (s t : Value) (S T : List Int) (i : Int) (w : World) (h : SlIn w .i64 s S ∧ SlIn w .i64 t T) (hl : S.length ≤ 1048576) :
    Calls Try.prog 38 #[.agg #[s, t], .int .i64 i] w fun e w' => e = .returned (.bool (ptB i S.length)) ∧ Below w.heap.size w w' := by
  obtain ⟨sa, sc, hs, -⟩ := h.1.form
  subst hs
  clear h
  go_enter Try.func38, Try.ntmps38
  go_wp2_with (go_at_call 58; refine (within_any _ _ _ _).mono ?_; rintro e w' ⟨rfl, rfl⟩)
  go_ret
  exact ⟨ret_bool rfl, (by repeat (first | (with_reducible exact Below.refl _ _) | (with_reducible assumption) | (with_reducible refine Below.drew ?_) | (with_reducible refine Below.drewN ?_) | ((with_reducible refine Below.al ?_ ?_); · first | omega | (simp; done) | (simp; omega)) | ((with_reducible refine Below.sc ?_ ?_); · first | omega | (simp; done) | (simp; omega)) | ((with_reducible refine Below.thru hb ?_ ?_); · first | omega | (simp; done) | (simp; omega))))⟩

end Go.Proofs.Ytjpkopnkfpgahaa

/- LeadByMatrix: the program's walk. -/
namespace Go.Proofs.Ytjpkopnkfpgahaa
open Go.RowKit

/-- The point behind k numbers of a chain. -/
def ldAt (S T : List Int) (n : Nat) (xs : List Int) (i : Nat) : Nat → Nat
  | 0 => i
  | k + 1 => it (fn T) (xs.getD k 0 % (per (fn T) (if k = 0 then ldAt S T n xs i k else fn S (ldAt S T n xs i k)) n : Int)).toNat (if k = 0 then ldAt S T n xs i k else fn S (ldAt S T n xs i k))
theorem ldAt_lt {S T : List Int} {n i : Nat} {xs : List Int} (hS : permB S n) (hT : permB T n) (hi : i < n) (k : Nat) : ldAt S T n xs i k < n := by
  induction k with
  | zero => exact hi
  | succ k ih =>
    refine it_lt (fun a h => fn_lt hT h) ?_ _
    split
    · exact ih
    · exact fn_lt hS ih
def chL (m : M) (k : Nat) : List Int := chQs m k ++ [(chM m k).a * (chM m k).b]
/-- What LeadByMatrix says. -/
def LeadM (S T : List Int) (m : M) (i : Int) (r : Int × Int) : Prop :=
  ((isA S T && m.ok) = false → r = (0, 1)) ∧ ((isA S T && m.ok) = true → ptB i S.length = false → r = (0, 2)) ∧
  ((isA S T && m.ok) = true → ptB i S.length = true → ∃ k, ChEnds m k ∧ r = ((ldAt S T S.length (chL m k) i.toNat (chL m k).length : Int), 0))
theorem LeadM.unique {S T : List Int} {m : M} {i : Int} {r r' : Int × Int} (h : LeadM S T m i r) (h' : LeadM S T m i r') : r = r' := by
  cases h1 : (isA S T && m.ok) with
  | false => rw [h.1 h1, h'.1 h1]
  | true =>
    cases h2 : ptB i S.length with
    | false => rw [h.2.1 h1 h2, h'.2.1 h1 h2]
    | true =>
      obtain ⟨k, e, rfl⟩ := h.2.2 h1 h2
      obtain ⟨k', e', rfl⟩ := h'.2.2 h1 h2
      obtain rfl := e.unique e'
      rfl

set_option maxRecDepth 8000 in
set_option maxHeartbeats 1500000 in
theorem LeadByMatrix_any (s t : Value) (S T : List Int) (m : M) (i : Int) (w : World) (h : SlIn w .i64 s S ∧ SlIn w .i64 t T) (hl : S.length ≤ 1048576 ∧ T.length ≤ 1048576) :
    Calls Try.prog 16 #[.agg #[s, t], .agg #[.int .i64 m.a, .int .i64 m.b, .int .i64 m.c, .int .i64 m.d], .int .i64 i] w fun e w' => ∃ r, e = .returned (.tuple #[.int .i64 r.1, .int .i64 r.2]) ∧ LeadM S T m i r ∧ Below w.heap.size w w' := by
  have HI := Lib.hid h
  have HL := Lib.hid hl
  obtain ⟨sa, sc, hsa, -⟩ := h.1.form
  obtain ⟨ta, tc, hta, -⟩ := h.2.form
  subst hsa hta
  clear h hl
  cases hq : isA S T with
  | false =>
    have HF := Lib.hid (show LeadM S T m i (0, 1) by unfold LeadM; rw [hq, Bool.false_and]; exact ⟨fun _ => rfl, fun h => by simp at h, fun h => by simp at h⟩)
    go_enter Try.func16, Try.ntmps16
    go_wp2_with fail
    refine (IsAction_any _ _ S T _ (SlIn2.below HI.out (by repeat (first | (with_reducible exact Below.refl _ _) | (with_reducible assumption) | (with_reducible refine Below.drew ?_) | (with_reducible refine Below.drewN ?_) | ((with_reducible refine Below.al ?_ ?_); · first | omega | (simp; done) | (simp; omega)) | ((with_reducible refine Below.sc ?_ ?_); · first | omega | (simp; done) | (simp; omega)) | ((with_reducible refine Below.thru hb ?_ ?_); · first | omega | (simp; done) | (simp; omega))))) HL.out).mono ?_
    rw [hq]
    clear hq
    rintro e w1 ⟨rfl, hb⟩
    have kw1 : Below w.heap.size w w1 := (by repeat (first | (with_reducible exact Below.refl _ _) | (with_reducible assumption) | (with_reducible refine Below.drew ?_) | (with_reducible refine Below.drewN ?_) | ((with_reducible refine Below.al ?_ ?_); · first | omega | (simp; done) | (simp; omega)) | ((with_reducible refine Below.sc ?_ ?_); · first | omega | (simp; done) | (simp; omega)) | ((with_reducible refine Below.thru hb ?_ ?_); · first | omega | (simp; done) | (simp; omega))))
    clear hb
    go_wp2
    go_ret2
    exact ⟨(0, 1), rfl, HF.out, kw1⟩
  | true =>
    have HP := Lib.hid (isA_spec hq)
    have h72 := HP.out.1
    cases hm : m.ok with
    | false =>
      have HF := Lib.hid (show LeadM S T m i (0, 1) by unfold LeadM; rw [hq, hm, Bool.and_false]; exact ⟨fun _ => rfl, fun h => by simp at h, fun h => by simp at h⟩)
      go_enter Try.func16, Try.ntmps16
      go_wp2_with fail
      refine (IsAction_any _ _ S T _ (SlIn2.below HI.out (by repeat (first | (with_reducible exact Below.refl _ _) | (with_reducible assumption) | (with_reducible refine Below.drew ?_) | (with_reducible refine Below.drewN ?_) | ((with_reducible refine Below.al ?_ ?_); · first | omega | (simp; done) | (simp; omega)) | ((with_reducible refine Below.sc ?_ ?_); · first | omega | (simp; done) | (simp; omega)) | ((with_reducible refine Below.thru hb ?_ ?_); · first | omega | (simp; done) | (simp; omega))))) HL.out).mono ?_
      rw [hq]
      clear hq
      rintro e w1 ⟨rfl, hb⟩
      have M1 : Blk w1 (w.heap.size + 1) 30 (mcs m) := (by repeat (first | (with_reducible assumption) | ((with_reducible refine Blk.new ?_); · first | omega | (simp; done) | (simp; omega)) | (with_reducible apply Blk.set4) | (with_reducible apply Blk.set3) | (with_reducible apply Blk.set2) | ((with_reducible refine Blk.put ?_ ?_); · first | omega | (simp; omega)) | (with_reducible refine Blk.old ?_) | (with_reducible refine Blk.drew ?_) | (with_reducible refine Blk.drewN ?_) | ((with_reducible refine Blk.below hb ?_ ?_); · first | omega | (simp; done) | (simp; omega))))
      have kw1 : Below w.heap.size w w1 := (by repeat (first | (with_reducible exact Below.refl _ _) | (with_reducible assumption) | (with_reducible refine Below.drew ?_) | (with_reducible refine Below.drewN ?_) | ((with_reducible refine Below.al ?_ ?_); · first | omega | (simp; done) | (simp; omega)) | ((with_reducible refine Below.sc ?_ ?_); · first | omega | (simp; done) | (simp; omega)) | ((with_reducible refine Below.thru hb ?_ ?_); · first | omega | (simp; done) | (simp; omega))))
      have sw1 := kw1.size
      have q1 := M1.m
      clear hb
      go_wp2_with fail
      refine (IsMatrix_any m _).mono ?_
      rw [hm]
      clear hm
      rintro e w2 ⟨rfl, hb⟩
      have kw2 : Below w.heap.size w w2 := (by repeat (first | (with_reducible exact Below.refl _ _) | (with_reducible assumption) | (with_reducible refine Below.drew ?_) | (with_reducible refine Below.drewN ?_) | ((with_reducible refine Below.al ?_ ?_); · first | omega | (simp; done) | (simp; omega)) | ((with_reducible refine Below.sc ?_ ?_); · first | omega | (simp; done) | (simp; omega)) | ((with_reducible refine Below.thru hb ?_ ?_); · first | omega | (simp; done) | (simp; omega))))
      clear hb
      go_wp2
      go_ret2
      exact ⟨(0, 1), rfl, HF.out, kw2⟩
    | true =>
      have HCH := Lib.hid (M.ok_ch hm)
      have HLM := Lib.hid (show (isA S T && m.ok) = true by rw [hq, hm]; rfl)
      go_enter Try.func16, Try.ntmps16
      go_wp2_with fail
      refine (IsAction_any _ _ S T _ (SlIn2.below HI.out (by repeat (first | (with_reducible exact Below.refl _ _) | (with_reducible assumption) | (with_reducible refine Below.drew ?_) | (with_reducible refine Below.drewN ?_) | ((with_reducible refine Below.al ?_ ?_); · first | omega | (simp; done) | (simp; omega)) | ((with_reducible refine Below.sc ?_ ?_); · first | omega | (simp; done) | (simp; omega)) | ((with_reducible refine Below.thru hb ?_ ?_); · first | omega | (simp; done) | (simp; omega))))) HL.out).mono ?_
      rw [hq]
      clear hq
      rintro e w1 ⟨rfl, hb⟩
      have B1 : Blk w1 w.heap.size 44 #[.slice sa S.length sc, .slice ta T.length tc] := (by repeat (first | (with_reducible assumption) | ((with_reducible refine Blk.new ?_); · first | omega | (simp; done) | (simp; omega)) | (with_reducible apply Blk.set4) | (with_reducible apply Blk.set3) | (with_reducible apply Blk.set2) | ((with_reducible refine Blk.put ?_ ?_); · first | omega | (simp; omega)) | (with_reducible refine Blk.old ?_) | (with_reducible refine Blk.drew ?_) | (with_reducible refine Blk.drewN ?_) | ((with_reducible refine Blk.below hb ?_ ?_); · first | omega | (simp; done) | (simp; omega))))
      have M1 : Blk w1 (w.heap.size + 1) 30 (mcs m) := (by repeat (first | (with_reducible assumption) | ((with_reducible refine Blk.new ?_); · first | omega | (simp; done) | (simp; omega)) | (with_reducible apply Blk.set4) | (with_reducible apply Blk.set3) | (with_reducible apply Blk.set2) | ((with_reducible refine Blk.put ?_ ?_); · first | omega | (simp; omega)) | (with_reducible refine Blk.old ?_) | (with_reducible refine Blk.drew ?_) | (with_reducible refine Blk.drewN ?_) | ((with_reducible refine Blk.below hb ?_ ?_); · first | omega | (simp; done) | (simp; omega))))
      have kw1 : Below w.heap.size w w1 := (by repeat (first | (with_reducible exact Below.refl _ _) | (with_reducible assumption) | (with_reducible refine Below.drew ?_) | (with_reducible refine Below.drewN ?_) | ((with_reducible refine Below.al ?_ ?_); · first | omega | (simp; done) | (simp; omega)) | ((with_reducible refine Below.sc ?_ ?_); · first | omega | (simp; done) | (simp; omega)) | ((with_reducible refine Below.thru hb ?_ ?_); · first | omega | (simp; done) | (simp; omega))))
      have sw1 := kw1.size
      have q1 := M1.m
      have lB1 := B1.lt
      have lM1 := M1.lt
      clear hb
      go_wp2_with fail
      refine (IsMatrix_any m _).mono ?_
      rw [hm]
      clear hm
      rintro e w2 ⟨rfl, hb⟩
      have B2 : Blk w2 w.heap.size 44 #[.slice sa S.length sc, .slice ta T.length tc] := (by repeat (first | (with_reducible assumption) | ((with_reducible refine Blk.new ?_); · first | omega | (simp; done) | (simp; omega)) | (with_reducible apply Blk.set4) | (with_reducible apply Blk.set3) | (with_reducible apply Blk.set2) | ((with_reducible refine Blk.put ?_ ?_); · first | omega | (simp; omega)) | (with_reducible refine Blk.old ?_) | (with_reducible refine Blk.drew ?_) | (with_reducible refine Blk.drewN ?_) | ((with_reducible refine Blk.below hb ?_ ?_); · first | omega | (simp; done) | (simp; omega))))
      have M2 : Blk w2 (w.heap.size + 1) 30 (mcs m) := (by repeat (first | (with_reducible assumption) | ((with_reducible refine Blk.new ?_); · first | omega | (simp; done) | (simp; omega)) | (with_reducible apply Blk.set4) | (with_reducible apply Blk.set3) | (with_reducible apply Blk.set2) | ((with_reducible refine Blk.put ?_ ?_); · first | omega | (simp; omega)) | (with_reducible refine Blk.old ?_) | (with_reducible refine Blk.drew ?_) | (with_reducible refine Blk.drewN ?_) | ((with_reducible refine Blk.below hb ?_ ?_); · first | omega | (simp; done) | (simp; omega))))
      have kw2 : Below w.heap.size w w2 := (by repeat (first | (with_reducible exact Below.refl _ _) | (with_reducible assumption) | (with_reducible refine Below.drew ?_) | (with_reducible refine Below.drewN ?_) | ((with_reducible refine Below.al ?_ ?_); · first | omega | (simp; done) | (simp; omega)) | ((with_reducible refine Below.sc ?_ ?_); · first | omega | (simp; done) | (simp; omega)) | ((with_reducible refine Below.thru hb ?_ ?_); · first | omega | (simp; done) | (simp; omega))))
      have sw2 := kw2.size
      have b2 := B2.p2
      have lB2 := B2.lt
      have lM2 := M2.lt
      clear hb B1 M1 q1 kw1
      go_wp2_with fail
      refine (isPoint_any _ _ S T i _ (SlIn2.below HI.out (by repeat (first | (with_reducible exact Below.refl _ _) | (with_reducible assumption) | (with_reducible refine Below.drew ?_) | (with_reducible refine Below.drewN ?_) | ((with_reducible refine Below.al ?_ ?_); · first | omega | (simp; done) | (simp; omega)) | ((with_reducible refine Below.sc ?_ ?_); · first | omega | (simp; done) | (simp; omega)) | ((with_reducible refine Below.thru hb ?_ ?_); · first | omega | (simp; done) | (simp; omega))))) HL.out.1).mono ?_
      cases hp : ptB i S.length with
      | false =>
        have HF := Lib.hid (show LeadM S T m i (0, 2) from ⟨fun h => by rw [HLM.out] at h; simp at h, fun _ _ => rfl, fun _ h => by rw [hp] at h; simp at h⟩)
        clear hp
        rintro e w3 ⟨rfl, hb⟩
        have kw3 : Below w.heap.size w w3 := (by repeat (first | (with_reducible exact Below.refl _ _) | (with_reducible assumption) | (with_reducible refine Below.drew ?_) | (with_reducible refine Below.drewN ?_) | ((with_reducible refine Below.al ?_ ?_); · first | omega | (simp; done) | (simp; omega)) | ((with_reducible refine Below.sc ?_ ?_); · first | omega | (simp; done) | (simp; omega)) | ((with_reducible refine Below.thru hb ?_ ?_); · first | omega | (simp; done) | (simp; omega))))
        clear hb
        go_wp2
        go_ret2
        exact ⟨(0, 2), rfl, HF.out, kw3⟩
      | true =>
        obtain ⟨p, hpi⟩ : ∃ p : Nat, i = (p : Int) := ⟨i.toNat, by unfold ptB at hp; have := inB_true hp; omega⟩
        have hpn : p < S.length := by unfold ptB at hp; have := inB_true hp; omega
        subst hpi
        have HR := Lib.hid (fun k (hk : ChEnds m k) => (show LeadM S T m (p : Int) ((ldAt S T S.length (chL m k) p (chL m k).length : Int), 0) from ⟨fun h => by rw [HLM.out] at h; simp at h, fun _ h => by rw [hp] at h; simp at h, fun _ _ => ⟨k, hk, rfl⟩⟩))
        clear hp
        rintro e w3 ⟨rfl, hb⟩
        have B3 : Blk w3 w.heap.size 44 #[.slice sa S.length sc, .slice ta T.length tc] := (by repeat (first | (with_reducible assumption) | ((with_reducible refine Blk.new ?_); · first | omega | (simp; done) | (simp; omega)) | (with_reducible apply Blk.set4) | (with_reducible apply Blk.set3) | (with_reducible apply Blk.set2) | ((with_reducible refine Blk.put ?_ ?_); · first | omega | (simp; omega)) | (with_reducible refine Blk.old ?_) | (with_reducible refine Blk.drew ?_) | (with_reducible refine Blk.drewN ?_) | ((with_reducible refine Blk.below hb ?_ ?_); · first | omega | (simp; done) | (simp; omega))))
        have M3 : Blk w3 (w.heap.size + 1) 30 (mcs m) := (by repeat (first | (with_reducible assumption) | ((with_reducible refine Blk.new ?_); · first | omega | (simp; done) | (simp; omega)) | (with_reducible apply Blk.set4) | (with_reducible apply Blk.set3) | (with_reducible apply Blk.set2) | ((with_reducible refine Blk.put ?_ ?_); · first | omega | (simp; omega)) | (with_reducible refine Blk.old ?_) | (with_reducible refine Blk.drew ?_) | (with_reducible refine Blk.drewN ?_) | ((with_reducible refine Blk.below hb ?_ ?_); · first | omega | (simp; done) | (simp; omega))))
        have kw3 : Below w.heap.size w w3 := (by repeat (first | (with_reducible exact Below.refl _ _) | (with_reducible assumption) | (with_reducible refine Below.drew ?_) | (with_reducible refine Below.drewN ?_) | ((with_reducible refine Below.al ?_ ?_); · first | omega | (simp; done) | (simp; omega)) | ((with_reducible refine Below.sc ?_ ?_); · first | omega | (simp; done) | (simp; omega)) | ((with_reducible refine Below.thru hb ?_ ?_); · first | omega | (simp; done) | (simp; omega))))
        have sw3 := kw3.size
        have q3 := M3.m
        have lB3 := B3.lt
        clear hb B2 M2 b2 kw2
        go_wp2_with fail
        refine (chain_any m _ HCH.out).mono ?_
        rintro e w4 ⟨v, ke, rfl, hke, O, hb⟩
        have HKE := Lib.hid (HR.out ke hke)
        change Own w4 w3.heap.size v (chL m ke) at O
        generalize (chM m ke).a = sg
        generalize chL m ke = xs at *
        obtain ⟨xo, xc, hx, hxa⟩ := O.slIn.form
        subst hx
        have B4 : Blk w4 w.heap.size 44 #[.slice sa S.length sc, .slice ta T.length tc] := (by repeat (first | (with_reducible assumption) | ((with_reducible refine Blk.new ?_); · first | omega | (simp; done) | (simp; omega)) | (with_reducible apply Blk.set4) | (with_reducible apply Blk.set3) | (with_reducible apply Blk.set2) | ((with_reducible refine Blk.put ?_ ?_); · first | omega | (simp; omega)) | (with_reducible refine Blk.old ?_) | (with_reducible refine Blk.drew ?_) | (with_reducible refine Blk.drewN ?_) | ((with_reducible refine Blk.below hb ?_ ?_); · first | omega | (simp; done) | (simp; omega))))
        have kw4 : Below w.heap.size w w4 := (by repeat (first | (with_reducible exact Below.refl _ _) | (with_reducible assumption) | (with_reducible refine Below.drew ?_) | (with_reducible refine Below.drewN ?_) | ((with_reducible refine Below.al ?_ ?_); · first | omega | (simp; done) | (simp; omega)) | ((with_reducible refine Below.sc ?_ ?_); · first | omega | (simp; done) | (simp; omega)) | ((with_reducible refine Below.thru hb ?_ ?_); · first | omega | (simp; done) | (simp; omega))))
        have sw4 := kw4.size
        have lB4 := B4.lt
        have HXA := Lib.hid hxa
        have H4 := Lib.hid (And.intro B4 kw4)
        have hxl : xs.length ≤ maxLen := O.slIn.le
        unfold maxLen at hxl
        clear hb O hxa B3 M3 q3 kw3 B4 kw4
        go_wp2
        go_loopw [2, 33] (fun x k wr => ∃ j : Nat, j ≤ xs.length ∧ k = .int .i64 j ∧ x = .int .i64 (ldAt S T S.length xs p j : Nat) ∧ Below w4.heap.size w4 wr) (fun _ k _ => xs.length - (intOf k).toNat)
        case atStart => exact ⟨0, Nat.zero_le _, rfl, rfl, (by repeat (first | (with_reducible exact Below.refl _ _) | (with_reducible assumption) | (with_reducible refine Below.drew ?_) | (with_reducible refine Below.drewN ?_) | ((with_reducible refine Below.al ?_ ?_); · first | omega | (simp; done) | (simp; omega)) | ((with_reducible refine Below.sc ?_ ?_); · first | omega | (simp; done) | (simp; omega)) | ((with_reducible refine Below.thru hb ?_ ?_); · first | omega | (simp; done) | (simp; omega))))⟩
        case round =>
          obtain ⟨j, hj, rfl, rfl, kw5⟩ := hrel
          have sw5 := kw5.size
          have B5 : Blk wr w.heap.size 44 #[.slice sa S.length sc, .slice ta T.length tc] := H4.out.1.below kw5 (by omega)
          have k5 : Below w.heap.size w wr := Below.thru kw5 (by omega) H4.out.2
          have b5 := B5.p2
          have lB5 := B5.lt
          have ss5 := k5.size
          by_cases hjl : j < xs.length
          · obtain ⟨xad, rfl, hxc⟩ := HXA.out (by omega)
            have cx : wr.cell? (xad.add j) = some (.int .i64 xs[j]) := by
              have e := hxc j hjl
              rw [kw5.cell (block_lt_of_cell e :)]
              exact e
            have HN := Lib.hid (show ldAt S T S.length xs p (j + 1) = it (fn T) (xs.getD j 0 % (per (fn T) (if j = 0 then ldAt S T S.length xs p j else fn S (ldAt S T S.length xs p j)) S.length : Int)).toNat (if j = 0 then ldAt S T S.length xs p j else fn S (ldAt S T S.length xs p j)) from rfl)
            have hpl := ldAt_lt (xs := xs) HP.out.2.1 HP.out.2.2.1 hpn j
            have hgd : xs.getD j 0 = xs[j] := by rw [List.getD, List.getElem?_eq_getElem hjl]; rfl
            rw [hgd] at HN
            generalize xs[j] = q at *
            generalize ldAt S T S.length xs p j = x at *
            have j0 : (0 : Int) ≤ (j : Int) := by omega
            have j1 : (j : Int) < (xs.length : Int) := by omega
            have K := Lib.hid (And.intro B5 (And.intro k5 kw5))
            clear hxc hgd
            by_cases hz : j = 0
            · rw [if_pos hz] at HN
              subst hz
              rw [Addr.add_zero'] at cx
              go_wp2_with fail
              refine (turn_any _ _ S T S.length x q _ (SlIn2.below HI.out k5) HP.out.2.2.1 hpl h72.2).mono ?_
              rintro e w6 ⟨rfl, hb⟩
              have kw6 : Below w4.heap.size w4 w6 := (by repeat (first | (with_reducible exact Below.refl _ _) | (with_reducible assumption) | (with_reducible refine Below.drew ?_) | (with_reducible refine Below.drewN ?_) | ((with_reducible refine Below.al ?_ ?_); · first | omega | (simp; done) | (simp; omega)) | ((with_reducible refine Below.sc ?_ ?_); · first | omega | (simp; done) | (simp; omega)) | ((with_reducible refine Below.thru hb ?_ ?_); · first | omega | (simp; done) | (simp; omega))))
              clear hb
              go_wp2
              go_roundw
              case rel => exact ⟨0 + 1, by omega, rfl, by rw [HN.out], kw6⟩
              case measure => simp [intOf]; omega
            · rw [if_neg hz] at HN
              obtain ⟨sb, sd, hsb, hA⟩ := perm_open HI.out.1 HP.out.2.1 (by omega)
              cases hsb
              have cs : wr.cell? (sb.add x) = some (.int .i64 (fn S x : Int)) := by
                have e := hA x hpl
                rw [k5.cell (block_lt_of_cell e :)]
                exact e
              have hsl := fn_lt HP.out.2.1 hpl
              have x0 : (0 : Int) ≤ (x : Int) := by omega
              have x1 : (x : Int) < (S.length : Int) := by omega
              have hz2 : (0 : Int) < (j : Int) := by omega
              clear hA
              generalize fn S x = y at *
              go_wp2_with fail
              refine (turn_any _ _ S T S.length y q _ (SlIn2.below HI.out k5) HP.out.2.2.1 hsl h72.2).mono ?_
              rintro e w6 ⟨rfl, hb⟩
              have kw6 : Below w4.heap.size w4 w6 := (by repeat (first | (with_reducible exact Below.refl _ _) | (with_reducible assumption) | (with_reducible refine Below.drew ?_) | (with_reducible refine Below.drewN ?_) | ((with_reducible refine Below.al ?_ ?_); · first | omega | (simp; done) | (simp; omega)) | ((with_reducible refine Below.sc ?_ ?_); · first | omega | (simp; done) | (simp; omega)) | ((with_reducible refine Below.thru hb ?_ ?_); · first | omega | (simp; done) | (simp; omega))))
              clear hb
              go_wp2
              go_roundw
              case rel => exact ⟨j + 1, by omega, by go_num, by rw [HN.out], kw6⟩
              case measure => simp [intOf]; omega
          · obtain rfl : j = xs.length := by omega
            go_wp2
            go_ret2
            exact ⟨_, rfl, HKE.out, k5⟩

end Go.Proofs.Ytjpkopnkfpgahaa

/- LeadByMatrix: the reference's walks. -/
namespace Go.Proofs.Ytjpkopnkfpgahaa
open Go.RowKit

end Go.Proofs.Ytjpkopnkfpgahaa
