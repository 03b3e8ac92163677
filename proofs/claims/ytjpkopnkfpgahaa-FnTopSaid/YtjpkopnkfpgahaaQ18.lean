import Derived.Test.YtjpkopnkfpgahaaQ7
import Derived.Test.YtjpkopnkfpgahaaQ13
/- LeadPoint: both. -/
namespace Go.Proofs.Ytjpkopnkfpgahaa
open Go.RowKit

def letN (b : Nat) : Bool := b == 83 || b == 84 || b == 116 || b == 76 || b == 108
theorem letN_eq (c : UInt8) : letN c.toNat = letB c := by
  have key : ∀ v : UInt8, (c.toNat == v.toNat) = (c == v) := fun v => by
    rw [Bool.eq_iff_iff, beq_iff_eq, beq_iff_eq]
    exact UInt8.toNat_inj
  unfold letN letB
  rw [← key 83, ← key 84, ← key 116, ← key 76, ← key 108]
  rfl
/-- The point behind k letters. -/
def lpAll (S T : List Int) (n : Nat) (s : ByteArray) (i : Nat) : Nat → Nat
  | 0 => i
  | k + 1 => lp S T n s[k]!.toNat (lpAll S T n s i k)
theorem lp_lt {S T : List Int} {n b i : Nat} (hS : permB S n) (hT : permB T n) (hi : i < n) : lp S T n b i < n := by
  unfold lp
  have h1 := fn_lt hS hi
  split
  · exact h1
  split
  · exact fn_lt hT hi
  split
  · exact bk_lt (fun a h => fn_lt hT h) hi
  split
  · exact fn_lt hS (bk_lt (fun a h => fn_lt hT h) h1)
  · exact fn_lt hS (fn_lt hT h1)
theorem lpAll_lt {S T : List Int} {n i : Nat} {s : ByteArray} (hS : permB S n) (hT : permB T n) (hi : i < n) (k : Nat) : lpAll S T n s i k < n := by
  induction k with
  | zero => exact hi
  | succ k ih => exact lp_lt hS hT ih
def lead2 (S T : List Int) (s : ByteArray) (i : Int) : Int × Int := if isA S T then (if wordB s && ptB i S.length then ((lpAll S T S.length s i.toNat s.size : Int), 0) else (0, 2)) else (0, 1)

set_option maxRecDepth 8000 in
set_option maxHeartbeats 1000000 in
theorem l02Letter_any (b : Nat) (w : World) :
    Calls Try.prog 19 #[.int .u8 (b : Int)] w fun e w' => ∃ m : M, e = .returned (.tuple #[mv m, .bool (letN b)]) ∧ Below w.heap.size w w' := by
  by_cases h1 : b = 83
  · subst h1
    go_enter Try.func19, Try.ntmps19
    go_wp2
    refine ret_at (v := .tuple #[mv ⟨0, -1, 1, 0⟩, .bool true]) (fun w' => Blk w' (w.heap.size) 30 (mcs ⟨0, -1, 1, 0⟩)) (by repeat (first | (with_reducible assumption) | ((with_reducible refine Blk.new ?_); · first | omega | (simp; done) | (simp; omega)) | (with_reducible apply Blk.set4) | (with_reducible apply Blk.set3) | (with_reducible apply Blk.set2) | ((with_reducible refine Blk.put ?_ ?_); · first | omega | (simp; omega)) | (with_reducible refine Blk.old ?_) | (with_reducible refine Blk.drew ?_) | (with_reducible refine Blk.drewN ?_) | ((with_reducible refine Blk.below hb ?_ ?_); · first | omega | (simp; done) | (simp; omega)))) (fun w' hB => by have q := hB.m; simp [results, Try.results19, go_sem, q]) rfl ?_
    exact ⟨⟨0, -1, 1, 0⟩, rfl, (by repeat (first | (with_reducible exact Below.refl _ _) | (with_reducible assumption) | (with_reducible refine Below.drew ?_) | (with_reducible refine Below.drewN ?_) | ((with_reducible refine Below.al ?_ ?_); · first | omega | (simp; done) | (simp; omega)) | ((with_reducible refine Below.sc ?_ ?_); · first | omega | (simp; done) | (simp; omega)) | ((with_reducible refine Below.thru hb ?_ ?_); · first | omega | (simp; done) | (simp; omega))))⟩
  by_cases h2 : b = 84
  · subst h2
    go_enter Try.func19, Try.ntmps19
    go_wp2
    refine ret_at (v := .tuple #[mv ⟨1, 1, 0, 1⟩, .bool true]) (fun w' => Blk w' (w.heap.size) 30 (mcs ⟨1, 1, 0, 1⟩)) (by repeat (first | (with_reducible assumption) | ((with_reducible refine Blk.new ?_); · first | omega | (simp; done) | (simp; omega)) | (with_reducible apply Blk.set4) | (with_reducible apply Blk.set3) | (with_reducible apply Blk.set2) | ((with_reducible refine Blk.put ?_ ?_); · first | omega | (simp; omega)) | (with_reducible refine Blk.old ?_) | (with_reducible refine Blk.drew ?_) | (with_reducible refine Blk.drewN ?_) | ((with_reducible refine Blk.below hb ?_ ?_); · first | omega | (simp; done) | (simp; omega)))) (fun w' hB => by have q := hB.m; simp [results, Try.results19, go_sem, q]) rfl ?_
    exact ⟨⟨1, 1, 0, 1⟩, rfl, (by repeat (first | (with_reducible exact Below.refl _ _) | (with_reducible assumption) | (with_reducible refine Below.drew ?_) | (with_reducible refine Below.drewN ?_) | ((with_reducible refine Below.al ?_ ?_); · first | omega | (simp; done) | (simp; omega)) | ((with_reducible refine Below.sc ?_ ?_); · first | omega | (simp; done) | (simp; omega)) | ((with_reducible refine Below.thru hb ?_ ?_); · first | omega | (simp; done) | (simp; omega))))⟩
  by_cases h3 : b = 116
  · subst h3
    go_enter Try.func19, Try.ntmps19
    go_wp2
    refine ret_at (v := .tuple #[mv ⟨1, -1, 0, 1⟩, .bool true]) (fun w' => Blk w' (w.heap.size) 30 (mcs ⟨1, -1, 0, 1⟩)) (by repeat (first | (with_reducible assumption) | ((with_reducible refine Blk.new ?_); · first | omega | (simp; done) | (simp; omega)) | (with_reducible apply Blk.set4) | (with_reducible apply Blk.set3) | (with_reducible apply Blk.set2) | ((with_reducible refine Blk.put ?_ ?_); · first | omega | (simp; omega)) | (with_reducible refine Blk.old ?_) | (with_reducible refine Blk.drew ?_) | (with_reducible refine Blk.drewN ?_) | ((with_reducible refine Blk.below hb ?_ ?_); · first | omega | (simp; done) | (simp; omega)))) (fun w' hB => by have q := hB.m; simp [results, Try.results19, go_sem, q]) rfl ?_
    exact ⟨⟨1, -1, 0, 1⟩, rfl, (by repeat (first | (with_reducible exact Below.refl _ _) | (with_reducible assumption) | (with_reducible refine Below.drew ?_) | (with_reducible refine Below.drewN ?_) | ((with_reducible refine Below.al ?_ ?_); · first | omega | (simp; done) | (simp; omega)) | ((with_reducible refine Below.sc ?_ ?_); · first | omega | (simp; done) | (simp; omega)) | ((with_reducible refine Below.thru hb ?_ ?_); · first | omega | (simp; done) | (simp; omega))))⟩
  by_cases h4 : b = 76
  · subst h4
    go_enter Try.func19, Try.ntmps19
    go_wp2
    refine ret_at (v := .tuple #[mv ⟨1, 0, 1, 1⟩, .bool true]) (fun w' => Blk w' (w.heap.size) 30 (mcs ⟨1, 0, 1, 1⟩)) (by repeat (first | (with_reducible assumption) | ((with_reducible refine Blk.new ?_); · first | omega | (simp; done) | (simp; omega)) | (with_reducible apply Blk.set4) | (with_reducible apply Blk.set3) | (with_reducible apply Blk.set2) | ((with_reducible refine Blk.put ?_ ?_); · first | omega | (simp; omega)) | (with_reducible refine Blk.old ?_) | (with_reducible refine Blk.drew ?_) | (with_reducible refine Blk.drewN ?_) | ((with_reducible refine Blk.below hb ?_ ?_); · first | omega | (simp; done) | (simp; omega)))) (fun w' hB => by have q := hB.m; simp [results, Try.results19, go_sem, q]) rfl ?_
    exact ⟨⟨1, 0, 1, 1⟩, rfl, (by repeat (first | (with_reducible exact Below.refl _ _) | (with_reducible assumption) | (with_reducible refine Below.drew ?_) | (with_reducible refine Below.drewN ?_) | ((with_reducible refine Below.al ?_ ?_); · first | omega | (simp; done) | (simp; omega)) | ((with_reducible refine Below.sc ?_ ?_); · first | omega | (simp; done) | (simp; omega)) | ((with_reducible refine Below.thru hb ?_ ?_); · first | omega | (simp; done) | (simp; omega))))⟩
  by_cases h5 : b = 108
  · subst h5
    go_enter Try.func19, Try.ntmps19
    go_wp2
    refine ret_at (v := .tuple #[mv ⟨1, 0, -1, 1⟩, .bool true]) (fun w' => Blk w' (w.heap.size) 30 (mcs ⟨1, 0, -1, 1⟩)) (by repeat (first | (with_reducible assumption) | ((with_reducible refine Blk.new ?_); · first | omega | (simp; done) | (simp; omega)) | (with_reducible apply Blk.set4) | (with_reducible apply Blk.set3) | (with_reducible apply Blk.set2) | ((with_reducible refine Blk.put ?_ ?_); · first | omega | (simp; omega)) | (with_reducible refine Blk.old ?_) | (with_reducible refine Blk.drew ?_) | (with_reducible refine Blk.drewN ?_) | ((with_reducible refine Blk.below hb ?_ ?_); · first | omega | (simp; done) | (simp; omega)))) (fun w' hB => by have q := hB.m; simp [results, Try.results19, go_sem, q]) rfl ?_
    exact ⟨⟨1, 0, -1, 1⟩, rfl, (by repeat (first | (with_reducible exact Below.refl _ _) | (with_reducible assumption) | (with_reducible refine Below.drew ?_) | (with_reducible refine Below.drewN ?_) | ((with_reducible refine Below.al ?_ ?_); · first | omega | (simp; done) | (simp; omega)) | ((with_reducible refine Below.sc ?_ ?_); · first | omega | (simp; done) | (simp; omega)) | ((with_reducible refine Below.thru hb ?_ ?_); · first | omega | (simp; done) | (simp; omega))))⟩
  have HF := Lib.hid (show letN b = false by
    unfold letN
    simp only [beq_eq_false_iff_ne.2 h1, beq_eq_false_iff_ne.2 h2, beq_eq_false_iff_ne.2 h3, beq_eq_false_iff_ne.2 h4, beq_eq_false_iff_ne.2 h5]
    rfl)
  have e1 : ¬ (b : Int) = 83 := by omega
  have e2 : ¬ (b : Int) = 84 := by omega
  have e3 : ¬ (b : Int) = 116 := by omega
  have e4 : ¬ (b : Int) = 76 := by omega
  have e5 : ¬ (b : Int) = 108 := by omega
  clear h1 h2 h3 h4 h5
  go_enter Try.func19, Try.ntmps19
  go_wp2
  refine ret_at (v := .tuple #[mv ⟨0, 0, 0, 0⟩, .bool false]) (fun w' => Blk w' (w.heap.size) 30 (mcs ⟨0, 0, 0, 0⟩)) (by repeat (first | (with_reducible assumption) | ((with_reducible refine Blk.new ?_); · first | omega | (simp; done) | (simp; omega)) | (with_reducible apply Blk.set4) | (with_reducible apply Blk.set3) | (with_reducible apply Blk.set2) | ((with_reducible refine Blk.put ?_ ?_); · first | omega | (simp; omega)) | (with_reducible refine Blk.old ?_) | (with_reducible refine Blk.drew ?_) | (with_reducible refine Blk.drewN ?_) | ((with_reducible refine Blk.below hb ?_ ?_); · first | omega | (simp; done) | (simp; omega)))) (fun w' hB => by have q := hB.m; simp [results, Try.results19, go_sem, q]) rfl ?_
  exact ⟨⟨0, 0, 0, 0⟩, by rw [HF.out], (by repeat (first | (with_reducible exact Below.refl _ _) | (with_reducible assumption) | (with_reducible refine Below.drew ?_) | (with_reducible refine Below.drewN ?_) | ((with_reducible refine Below.al ?_ ?_); · first | omega | (simp; done) | (simp; omega)) | ((with_reducible refine Below.sc ?_ ?_); · first | omega | (simp; done) | (simp; omega)) | ((with_reducible refine Below.thru hb ?_ ?_); · first | omega | (simp; done) | (simp; omega))))⟩

set_option maxRecDepth 8000 in
set_option maxHeartbeats 1500000 in
theorem LeadPoint_any (s t : Value) (S T : List Int) (ws : ByteArray) (i : Int) (w : World) (h : SlIn w .i64 s S ∧ SlIn w .i64 t T) (hl : S.length ≤ 1048576 ∧ T.length ≤ 1048576) (hw : ws.size ≤ 140737488351232) :
    Calls Try.prog 15 #[.agg #[s, t], .string ws, .int .i64 i] w fun e w' => e = .returned (.tuple #[.int .i64 (lead2 S T ws i).1, .int .i64 (lead2 S T ws i).2]) ∧ Below w.heap.size w w' := by
  have HI := Lib.hid h
  have HL := Lib.hid hl
  obtain ⟨sa, sc, hsa, -⟩ := h.1.form
  obtain ⟨ta, tc, hta, -⟩ := h.2.form
  subst hsa hta
  clear h hl
  cases hq : isA S T with
  | false =>
    have HF := Lib.hid (show lead2 S T ws i = (0, 1) by unfold lead2; rw [hq]; rfl)
    go_enter Try.func15, Try.ntmps15
    go_wp2_with fail
    refine (IsAction_any _ _ S T _ (SlIn2.below HI.out (by repeat (first | (with_reducible exact Below.refl _ _) | (with_reducible assumption) | (with_reducible refine Below.drew ?_) | (with_reducible refine Below.drewN ?_) | ((with_reducible refine Below.al ?_ ?_); · first | omega | (simp; done) | (simp; omega)) | ((with_reducible refine Below.sc ?_ ?_); · first | omega | (simp; done) | (simp; omega)) | ((with_reducible refine Below.thru hb ?_ ?_); · first | omega | (simp; done) | (simp; omega))))) HL.out).mono ?_
    rw [hq]
    clear hq
    rintro e w1 ⟨rfl, hb⟩
    have kw1 : Below w.heap.size w w1 := (by repeat (first | (with_reducible exact Below.refl _ _) | (with_reducible assumption) | (with_reducible refine Below.drew ?_) | (with_reducible refine Below.drewN ?_) | ((with_reducible refine Below.al ?_ ?_); · first | omega | (simp; done) | (simp; omega)) | ((with_reducible refine Below.sc ?_ ?_); · first | omega | (simp; done) | (simp; omega)) | ((with_reducible refine Below.thru hb ?_ ?_); · first | omega | (simp; done) | (simp; omega))))
    clear hb
    go_wp2
    go_ret2
    exact ⟨by rw [HF.out]; rfl, kw1⟩
  | true =>
    have HP := Lib.hid (isA_spec hq)
    have h72 := HP.out.1
    cases hwb : wordB ws with
    | false =>
      have HF := Lib.hid (show lead2 S T ws i = (0, 2) by unfold lead2; rw [hq, hwb]; rfl)
      go_enter Try.func15, Try.ntmps15
      go_wp2_with fail
      refine (IsAction_any _ _ S T _ (SlIn2.below HI.out (by repeat (first | (with_reducible exact Below.refl _ _) | (with_reducible assumption) | (with_reducible refine Below.drew ?_) | (with_reducible refine Below.drewN ?_) | ((with_reducible refine Below.al ?_ ?_); · first | omega | (simp; done) | (simp; omega)) | ((with_reducible refine Below.sc ?_ ?_); · first | omega | (simp; done) | (simp; omega)) | ((with_reducible refine Below.thru hb ?_ ?_); · first | omega | (simp; done) | (simp; omega))))) HL.out).mono ?_
      rw [hq]
      clear hq
      rintro e w1 ⟨rfl, hb⟩
      have kw1 : Below w.heap.size w w1 := (by repeat (first | (with_reducible exact Below.refl _ _) | (with_reducible assumption) | (with_reducible refine Below.drew ?_) | (with_reducible refine Below.drewN ?_) | ((with_reducible refine Below.al ?_ ?_); · first | omega | (simp; done) | (simp; omega)) | ((with_reducible refine Below.sc ?_ ?_); · first | omega | (simp; done) | (simp; omega)) | ((with_reducible refine Below.thru hb ?_ ?_); · first | omega | (simp; done) | (simp; omega))))
      have sw1 := kw1.size
      clear hb
      go_wp2_with fail
      refine (isWord_any ws _ hw).mono ?_
      rw [hwb]
      clear hwb
      rintro e w2 ⟨rfl, hb⟩
      have kw2 : Below w.heap.size w w2 := (by repeat (first | (with_reducible exact Below.refl _ _) | (with_reducible assumption) | (with_reducible refine Below.drew ?_) | (with_reducible refine Below.drewN ?_) | ((with_reducible refine Below.al ?_ ?_); · first | omega | (simp; done) | (simp; omega)) | ((with_reducible refine Below.sc ?_ ?_); · first | omega | (simp; done) | (simp; omega)) | ((with_reducible refine Below.thru hb ?_ ?_); · first | omega | (simp; done) | (simp; omega))))
      clear hb
      go_wp2
      go_ret2
      exact ⟨by rw [HF.out]; rfl, kw2⟩
    | true =>
      cases hp : ptB i S.length with
      | false =>
        have HF := Lib.hid (show lead2 S T ws i = (0, 2) by unfold lead2; rw [hq, hwb, hp]; rfl)
        go_enter Try.func15, Try.ntmps15
        go_wp2_with fail
        refine (IsAction_any _ _ S T _ (SlIn2.below HI.out (by repeat (first | (with_reducible exact Below.refl _ _) | (with_reducible assumption) | (with_reducible refine Below.drew ?_) | (with_reducible refine Below.drewN ?_) | ((with_reducible refine Below.al ?_ ?_); · first | omega | (simp; done) | (simp; omega)) | ((with_reducible refine Below.sc ?_ ?_); · first | omega | (simp; done) | (simp; omega)) | ((with_reducible refine Below.thru hb ?_ ?_); · first | omega | (simp; done) | (simp; omega))))) HL.out).mono ?_
        rw [hq]
        clear hq
        rintro e w1 ⟨rfl, hb⟩
        have B1 : Blk w1 w.heap.size 44 #[.slice sa S.length sc, .slice ta T.length tc] := (by repeat (first | (with_reducible assumption) | ((with_reducible refine Blk.new ?_); · first | omega | (simp; done) | (simp; omega)) | (with_reducible apply Blk.set4) | (with_reducible apply Blk.set3) | (with_reducible apply Blk.set2) | ((with_reducible refine Blk.put ?_ ?_); · first | omega | (simp; omega)) | (with_reducible refine Blk.old ?_) | (with_reducible refine Blk.drew ?_) | (with_reducible refine Blk.drewN ?_) | ((with_reducible refine Blk.below hb ?_ ?_); · first | omega | (simp; done) | (simp; omega))))
        have kw1 : Below w.heap.size w w1 := (by repeat (first | (with_reducible exact Below.refl _ _) | (with_reducible assumption) | (with_reducible refine Below.drew ?_) | (with_reducible refine Below.drewN ?_) | ((with_reducible refine Below.al ?_ ?_); · first | omega | (simp; done) | (simp; omega)) | ((with_reducible refine Below.sc ?_ ?_); · first | omega | (simp; done) | (simp; omega)) | ((with_reducible refine Below.thru hb ?_ ?_); · first | omega | (simp; done) | (simp; omega))))
        have sw1 := kw1.size
        have lB1 := B1.lt
        clear hb
        go_wp2_with fail
        refine (isWord_any ws _ hw).mono ?_
        rw [hwb]
        clear hwb
        rintro e w2 ⟨rfl, hb⟩
        have B2 : Blk w2 w.heap.size 44 #[.slice sa S.length sc, .slice ta T.length tc] := (by repeat (first | (with_reducible assumption) | ((with_reducible refine Blk.new ?_); · first | omega | (simp; done) | (simp; omega)) | (with_reducible apply Blk.set4) | (with_reducible apply Blk.set3) | (with_reducible apply Blk.set2) | ((with_reducible refine Blk.put ?_ ?_); · first | omega | (simp; omega)) | (with_reducible refine Blk.old ?_) | (with_reducible refine Blk.drew ?_) | (with_reducible refine Blk.drewN ?_) | ((with_reducible refine Blk.below hb ?_ ?_); · first | omega | (simp; done) | (simp; omega))))
        have kw2 : Below w.heap.size w w2 := (by repeat (first | (with_reducible exact Below.refl _ _) | (with_reducible assumption) | (with_reducible refine Below.drew ?_) | (with_reducible refine Below.drewN ?_) | ((with_reducible refine Below.al ?_ ?_); · first | omega | (simp; done) | (simp; omega)) | ((with_reducible refine Below.sc ?_ ?_); · first | omega | (simp; done) | (simp; omega)) | ((with_reducible refine Below.thru hb ?_ ?_); · first | omega | (simp; done) | (simp; omega))))
        have sw2 := kw2.size
        have b2 := B2.p2
        clear hb B1
        go_wp2_with fail
        refine (isPoint_any _ _ S T i _ (SlIn2.below HI.out (by repeat (first | (with_reducible exact Below.refl _ _) | (with_reducible assumption) | (with_reducible refine Below.drew ?_) | (with_reducible refine Below.drewN ?_) | ((with_reducible refine Below.al ?_ ?_); · first | omega | (simp; done) | (simp; omega)) | ((with_reducible refine Below.sc ?_ ?_); · first | omega | (simp; done) | (simp; omega)) | ((with_reducible refine Below.thru hb ?_ ?_); · first | omega | (simp; done) | (simp; omega))))) HL.out.1).mono ?_
        rw [hp]
        clear hp
        rintro e w3 ⟨rfl, hb⟩
        have kw3 : Below w.heap.size w w3 := (by repeat (first | (with_reducible exact Below.refl _ _) | (with_reducible assumption) | (with_reducible refine Below.drew ?_) | (with_reducible refine Below.drewN ?_) | ((with_reducible refine Below.al ?_ ?_); · first | omega | (simp; done) | (simp; omega)) | ((with_reducible refine Below.sc ?_ ?_); · first | omega | (simp; done) | (simp; omega)) | ((with_reducible refine Below.thru hb ?_ ?_); · first | omega | (simp; done) | (simp; omega))))
        clear hb
        go_wp2
        go_ret2
        exact ⟨by rw [HF.out]; rfl, kw3⟩
      | true =>
        obtain ⟨p, hpi⟩ : ∃ p : Nat, i = (p : Int) := ⟨i.toNat, by unfold ptB at hp; have := inB_true hp; omega⟩
        have hpn : p < S.length := by unfold ptB at hp; have := inB_true hp; omega
        subst hpi
        have HF := Lib.hid (show lead2 S T ws (p : Int) = ((lpAll S T S.length ws p ws.size : Int), 0) by unfold lead2; rw [hq, hwb, hp]; rfl)
        go_enter Try.func15, Try.ntmps15
        go_wp2_with fail
        refine (IsAction_any _ _ S T _ (SlIn2.below HI.out (by repeat (first | (with_reducible exact Below.refl _ _) | (with_reducible assumption) | (with_reducible refine Below.drew ?_) | (with_reducible refine Below.drewN ?_) | ((with_reducible refine Below.al ?_ ?_); · first | omega | (simp; done) | (simp; omega)) | ((with_reducible refine Below.sc ?_ ?_); · first | omega | (simp; done) | (simp; omega)) | ((with_reducible refine Below.thru hb ?_ ?_); · first | omega | (simp; done) | (simp; omega))))) HL.out).mono ?_
        rw [hq]
        clear hq
        rintro e w1 ⟨rfl, hb⟩
        have B1 : Blk w1 w.heap.size 44 #[.slice sa S.length sc, .slice ta T.length tc] := (by repeat (first | (with_reducible assumption) | ((with_reducible refine Blk.new ?_); · first | omega | (simp; done) | (simp; omega)) | (with_reducible apply Blk.set4) | (with_reducible apply Blk.set3) | (with_reducible apply Blk.set2) | ((with_reducible refine Blk.put ?_ ?_); · first | omega | (simp; omega)) | (with_reducible refine Blk.old ?_) | (with_reducible refine Blk.drew ?_) | (with_reducible refine Blk.drewN ?_) | ((with_reducible refine Blk.below hb ?_ ?_); · first | omega | (simp; done) | (simp; omega))))
        have kw1 : Below w.heap.size w w1 := (by repeat (first | (with_reducible exact Below.refl _ _) | (with_reducible assumption) | (with_reducible refine Below.drew ?_) | (with_reducible refine Below.drewN ?_) | ((with_reducible refine Below.al ?_ ?_); · first | omega | (simp; done) | (simp; omega)) | ((with_reducible refine Below.sc ?_ ?_); · first | omega | (simp; done) | (simp; omega)) | ((with_reducible refine Below.thru hb ?_ ?_); · first | omega | (simp; done) | (simp; omega))))
        have sw1 := kw1.size
        have lB1 := B1.lt
        clear hb
        go_wp2_with fail
        refine (isWord_any ws _ hw).mono ?_
        rw [hwb]
        clear hwb
        rintro e w2 ⟨rfl, hb⟩
        have B2 : Blk w2 w.heap.size 44 #[.slice sa S.length sc, .slice ta T.length tc] := (by repeat (first | (with_reducible assumption) | ((with_reducible refine Blk.new ?_); · first | omega | (simp; done) | (simp; omega)) | (with_reducible apply Blk.set4) | (with_reducible apply Blk.set3) | (with_reducible apply Blk.set2) | ((with_reducible refine Blk.put ?_ ?_); · first | omega | (simp; omega)) | (with_reducible refine Blk.old ?_) | (with_reducible refine Blk.drew ?_) | (with_reducible refine Blk.drewN ?_) | ((with_reducible refine Blk.below hb ?_ ?_); · first | omega | (simp; done) | (simp; omega))))
        have kw2 : Below w.heap.size w w2 := (by repeat (first | (with_reducible exact Below.refl _ _) | (with_reducible assumption) | (with_reducible refine Below.drew ?_) | (with_reducible refine Below.drewN ?_) | ((with_reducible refine Below.al ?_ ?_); · first | omega | (simp; done) | (simp; omega)) | ((with_reducible refine Below.sc ?_ ?_); · first | omega | (simp; done) | (simp; omega)) | ((with_reducible refine Below.thru hb ?_ ?_); · first | omega | (simp; done) | (simp; omega))))
        have sw2 := kw2.size
        have lB2 := B2.lt
        have b2 := B2.p2
        clear hb B1
        go_wp2_with fail
        refine (isPoint_any _ _ S T (p : Int) _ (SlIn2.below HI.out (by repeat (first | (with_reducible exact Below.refl _ _) | (with_reducible assumption) | (with_reducible refine Below.drew ?_) | (with_reducible refine Below.drewN ?_) | ((with_reducible refine Below.al ?_ ?_); · first | omega | (simp; done) | (simp; omega)) | ((with_reducible refine Below.sc ?_ ?_); · first | omega | (simp; done) | (simp; omega)) | ((with_reducible refine Below.thru hb ?_ ?_); · first | omega | (simp; done) | (simp; omega))))) HL.out.1).mono ?_
        rw [hp]
        clear hp
        rintro e w3 ⟨rfl, hb⟩
        have B3 : Blk w3 w.heap.size 44 #[.slice sa S.length sc, .slice ta T.length tc] := (by repeat (first | (with_reducible assumption) | ((with_reducible refine Blk.new ?_); · first | omega | (simp; done) | (simp; omega)) | (with_reducible apply Blk.set4) | (with_reducible apply Blk.set3) | (with_reducible apply Blk.set2) | ((with_reducible refine Blk.put ?_ ?_); · first | omega | (simp; omega)) | (with_reducible refine Blk.old ?_) | (with_reducible refine Blk.drew ?_) | (with_reducible refine Blk.drewN ?_) | ((with_reducible refine Blk.below hb ?_ ?_); · first | omega | (simp; done) | (simp; omega))))
        have kw3 : Below w.heap.size w w3 := (by repeat (first | (with_reducible exact Below.refl _ _) | (with_reducible assumption) | (with_reducible refine Below.drew ?_) | (with_reducible refine Below.drewN ?_) | ((with_reducible refine Below.al ?_ ?_); · first | omega | (simp; done) | (simp; omega)) | ((with_reducible refine Below.sc ?_ ?_); · first | omega | (simp; done) | (simp; omega)) | ((with_reducible refine Below.thru hb ?_ ?_); · first | omega | (simp; done) | (simp; omega))))
        clear hb B2 b2 kw2 kw1
        go_wp2
        go_loopw [2, 25] (fun x i wr => ∃ k : Nat, k ≤ ws.size ∧ i = .int .i64 k ∧ x = .int .i64 (lpAll S T S.length ws p k : Nat) ∧ Blk wr w.heap.size 44 #[.slice sa S.length sc, .slice ta T.length tc] ∧ Below w.heap.size w wr) (fun _ i _ => ws.size - (intOf i).toNat)
        case atStart => exact ⟨0, Nat.zero_le _, rfl, rfl, (by repeat (first | (with_reducible assumption) | ((with_reducible refine Blk.new ?_); · first | omega | (simp; done) | (simp; omega)) | (with_reducible apply Blk.set4) | (with_reducible apply Blk.set3) | (with_reducible apply Blk.set2) | ((with_reducible refine Blk.put ?_ ?_); · first | omega | (simp; omega)) | (with_reducible refine Blk.old ?_) | (with_reducible refine Blk.drew ?_) | (with_reducible refine Blk.drewN ?_) | ((with_reducible refine Blk.below hb ?_ ?_); · first | omega | (simp; done) | (simp; omega)))), (by repeat (first | (with_reducible exact Below.refl _ _) | (with_reducible assumption) | (with_reducible refine Below.drew ?_) | (with_reducible refine Below.drewN ?_) | ((with_reducible refine Below.al ?_ ?_); · first | omega | (simp; done) | (simp; omega)) | ((with_reducible refine Below.sc ?_ ?_); · first | omega | (simp; done) | (simp; omega)) | ((with_reducible refine Below.thru hb ?_ ?_); · first | omega | (simp; done) | (simp; omega))))⟩
        case round =>
          obtain ⟨k, hk, rfl, rfl, B, kwr⟩ := hrel
          have b0 := B.p2
          have lB := B.lt
          have swr := kwr.size
          by_cases hlt : k < ws.size
          · have j0 : (0 : Int) ≤ (k : Int) := by omega
            have j1 : (k : Int) < (ws.size : Int) := by omega
            have HX := Lib.hid (show lpAll S T S.length ws p (k + 1) = lp S T S.length ws[k].toNat (lpAll S T S.length ws p k) by show lp S T S.length ws[k]!.toNat _ = _; rw [getElem!_pos ws k hlt])
            have hx := lpAll_lt (s := ws) HP.out.2.1 HP.out.2.2.1 hpn k
            generalize lpAll S T S.length ws p k = x at *
            go_wp2_with fail
            go_region_held3 (fun w' => w'.cell? ⟨w.heap.size, 0, none⟩ = some (.slice sa S.length sc) ∧ w'.cell? ⟨w.heap.size, 1, none⟩ = some (.slice ta T.length tc)) (first | go_keep | exact B3.p2) (first
              | (go_at_call 39; refine (step_any _ _ S T S.length ws[k].toNat x _ (SlIn2.below HI.out (by repeat (first | (with_reducible exact Below.refl _ _) | (with_reducible assumption) | (with_reducible refine Below.drew ?_) | (with_reducible refine Below.drewN ?_) | ((with_reducible refine Below.al ?_ ?_); · first | omega | (simp; done) | (simp; omega)) | ((with_reducible refine Below.sc ?_ ?_); · first | omega | (simp; done) | (simp; omega)) | ((with_reducible refine Below.thru hb ?_ ?_); · first | omega | (simp; done) | (simp; omega))))) HP.out.2.1 HP.out.2.2.1 hx HP.out.1.2).mono ?_; rintro e w3 ⟨rfl, hb⟩; have B3 : Blk w3 w.heap.size 44 #[.slice sa S.length sc, .slice ta T.length tc] := (by repeat (first | (with_reducible assumption) | ((with_reducible refine Blk.new ?_); · first | omega | (simp; done) | (simp; omega)) | (with_reducible apply Blk.set4) | (with_reducible apply Blk.set3) | (with_reducible apply Blk.set2) | ((with_reducible refine Blk.put ?_ ?_); · first | omega | (simp; omega)) | (with_reducible refine Blk.old ?_) | (with_reducible refine Blk.drew ?_) | (with_reducible refine Blk.drewN ?_) | ((with_reducible refine Blk.below hb ?_ ?_); · first | omega | (simp; done) | (simp; omega)))); have kw3 : Below w.heap.size w w3 := (by repeat (first | (with_reducible exact Below.refl _ _) | (with_reducible assumption) | (with_reducible refine Below.drew ?_) | (with_reducible refine Below.drewN ?_) | ((with_reducible refine Below.al ?_ ?_); · first | omega | (simp; done) | (simp; omega)) | ((with_reducible refine Below.sc ?_ ?_); · first | omega | (simp; done) | (simp; omega)) | ((with_reducible refine Below.thru hb ?_ ?_); · first | omega | (simp; done) | (simp; omega)))); clear hb))
            go_wp2
            go_roundw
            case rel => exact ⟨k + 1, by omega, by go_num, by rw [HX.out], (by repeat (first | (with_reducible assumption) | ((with_reducible refine Blk.new ?_); · first | omega | (simp; done) | (simp; omega)) | (with_reducible apply Blk.set4) | (with_reducible apply Blk.set3) | (with_reducible apply Blk.set2) | ((with_reducible refine Blk.put ?_ ?_); · first | omega | (simp; omega)) | (with_reducible refine Blk.old ?_) | (with_reducible refine Blk.drew ?_) | (with_reducible refine Blk.drewN ?_) | ((with_reducible refine Blk.below hb ?_ ?_); · first | omega | (simp; done) | (simp; omega)))), (by repeat (first | (with_reducible exact Below.refl _ _) | (with_reducible assumption) | (with_reducible refine Below.drew ?_) | (with_reducible refine Below.drewN ?_) | ((with_reducible refine Below.al ?_ ?_); · first | omega | (simp; done) | (simp; omega)) | ((with_reducible refine Below.sc ?_ ?_); · first | omega | (simp; done) | (simp; omega)) | ((with_reducible refine Below.thru hb ?_ ?_); · first | omega | (simp; done) | (simp; omega))))⟩
            case measure => simp [intOf]; omega
          · obtain rfl : k = ws.size := by omega
            go_wp2
            go_ret2
            exact ⟨by rw [HF.out]; rfl, kwr⟩

end Go.Proofs.Ytjpkopnkfpgahaa
