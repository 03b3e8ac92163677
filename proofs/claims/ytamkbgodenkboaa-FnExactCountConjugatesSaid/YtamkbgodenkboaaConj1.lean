/- The different forms of an action: slices of actions, the reference's walk. -/
import Derived.Test.YtamkbgodenkboaaHeg
import Derived.Test.YtamkbgodenkboaaCysS
namespace Go.Proofs.Ytamkbgodenkboaa
open Go.RowKit

/-- The different forms from the first k points. -/
def conjL (S T : List Int) (n : Nat) : Nat → List Act
  | 0 => []
  | k + 1 => if (conjL S T n k).any (sameB (formOf S T k n)) then conjL S T n k else conjL S T n k ++ [formOf S T k n]
theorem conjL_len (S T : List Int) (n k : Nat) : (conjL S T n k).length ≤ k ∧ ∀ X ∈ conjL S T n k, X.S.length = n ∧ X.T.length = n := by
  induction k with
  | zero => exact ⟨Nat.le_refl _, fun X h => by cases h⟩
  | succ k ih =>
    simp only [conjL]
    split
    · exact ⟨by omega, ih.2⟩
    · refine ⟨by simp; omega, fun X h => ?_⟩
      rcases List.mem_append.1 h with h | h
      · exact ih.2 X h
      · simp at h
        subst h
        exact formOf_len S T k n
def conj2 (S T : List Int) : Int × Int := if isA S T then (((conjL S T S.length S.length).length : Int), 0) else (0, 1)

def encA : Enc (Sl × Sl) := ⟨2, fun x => [x.1.v, x.2.v], fun _ => rfl, by decide, fun x u hu => by simp at hu; rcases hu with rfl | rfl <;> rfl⟩
theorem infoAct : (Try.prog.info? 27).map (fun i => (i.zero, i.size, i.bytes)) = some (some (.agg #[.slice none 0 0, .slice none 0 0]), 2, 48) := by kernel_rfl
/-- The actions lie in rows of their own. -/
def Fms (w : World) (B : Nat) : List (Sl × Sl) → List Act → Prop
  | [], [] => True
  | s :: vs, X :: Xs => (Own w B s.1.v X.S ∧ Own w B s.2.v X.T) ∧ Fms w B vs Xs
  | [], _ :: _ => False
  | _ :: _, [] => False
theorem Fms.len {w : World} {B : Nat} : ∀ {vs : List (Sl × Sl)} {cs : List Act}, Fms w B vs cs → vs.length = cs.length
  | [], [], _ => rfl
  | _ :: _, _ :: _, h => by simp [Fms.len h.2]
  | [], _ :: _, h => h.elim
  | _ :: _, [], h => h.elim
theorem Fms.below {w w' : World} {B : Nat} (hb : Below w.heap.size w w') : ∀ {vs : List (Sl × Sl)} {cs : List Act}, Fms w B vs cs → Fms w' B vs cs
  | [], [], _ => trivial
  | _ :: _, _ :: _, h => ⟨⟨h.1.1.below hb, h.1.2.below hb⟩, Fms.below hb h.2⟩
  | [], _ :: _, h => h.elim
  | _ :: _, [], h => h.elim
theorem Fms.snoc {w : World} {B : Nat} {s : Sl × Sl} {X : Act} (hs : Own w B s.1.v X.S ∧ Own w B s.2.v X.T) : ∀ {vs : List (Sl × Sl)} {cs : List Act}, Fms w B vs cs → Fms w B (vs ++ [s]) (cs ++ [X])
  | [], [], _ => ⟨hs, trivial⟩
  | _ :: _, _ :: _, h => ⟨h.1, Fms.snoc hs h.2⟩
  | [], _ :: _, h => h.elim
  | _ :: _, [], h => h.elim
theorem Own.grownE {α : Type} {e : Enc α} {E : TypeId} {w w' : World} {B B' : Nat} {v u : Value} {xs : List α} {ys : List Int} (hg : w.grownBy w' v.ownBlock) (hv : OwnK e E w B' v xs) (hE : E ≠ 2) (h : Own w B u ys) : Own w' B u ys :=
  h.same fun g hk => hg.block g (h.lt hk).2 fun e => hv.ne_own h hE g e.symm hk
theorem Fms.grown {α : Type} {e : Enc α} {E : TypeId} {w w' : World} {B B' : Nat} {v : Value} {xs : List α} (hg : w.grownBy w' v.ownBlock) (hv : OwnK e E w B' v xs) (hE : E ≠ 2) : ∀ {vs : List (Sl × Sl)} {cs : List Act}, Fms w B vs cs → Fms w' B vs cs
  | [], [], _ => trivial
  | _ :: _, _ :: _, h => ⟨⟨h.1.1.grownE hg hv hE, h.1.2.grownE hg hv hE⟩, Fms.grown hg hv hE h.2⟩
  | [], _ :: _, h => h.elim
  | _ :: _, [], h => h.elim
theorem Fms.get {w : World} {B : Nat} : ∀ {vs : List (Sl × Sl)} {cs : List Act}, Fms w B vs cs → ∀ j (h1 : j < vs.length) (h2 : j < cs.length), Own w B vs[j].1.v cs[j].S ∧ Own w B vs[j].2.v cs[j].T
  | [], [], _ => fun j h => absurd h (by simp)
  | _ :: _, _ :: _, h => fun j h1 h2 => by
    cases j with
    | zero => exact h.1
    | succ j => exact Fms.get h.2 j (by simpa using h1) (by simpa using h2)
  | [], _ :: _, h => h.elim
  | _ :: _, [], h => h.elim
/-- A slice of actions of the call's own. -/
def OwnF (w : World) (B : Nat) (v : Value) (vs : List (Sl × Sl)) (cs : List Act) : Prop := OwnK encA 27 w B v vs ∧ Fms w B vs cs
theorem OwnF.below {w w' : World} {B : Nat} {v : Value} {vs : List (Sl × Sl)} {cs : List Act} (h : OwnF w B v vs cs) (hb : Below w.heap.size w w') : OwnF w' B v vs cs := ⟨h.1.below hb, h.2.below hb⟩
/-- Action j, ready to be read. -/
theorem OwnF.row {w : World} {B : Nat} {v : Value} {vs : List (Sl × Sl)} {cs : List Act} (h : OwnF w B v vs cs) {j : Nat} (hj : j < cs.length) :
    ∃ g c s, v = .slice (some ⟨g, 0, none⟩) cs.length c ∧ w.cell? ⟨g, j * 2, none⟩ = some (Sl.v (Prod.fst s)) ∧ w.cell? ⟨g, j * 2 + 1, none⟩ = some (Sl.v (Prod.snd s)) ∧ Own w B s.1.v cs[j].S ∧ Own w B s.2.v cs[j].T := by
  have hl := h.2.len
  have hj' : j < vs.length := by omega
  rcases h.1.form with ⟨rfl, e⟩ | ⟨g, cap, rfl, _, _, _, _, _⟩
  · subst e; exact absurd hj' (by simp)
  · have a0 := h.1.at (j := j) (i := 0) (x := vs[j]) (u := vs[j].1.v) rfl (List.getElem?_eq_getElem hj') rfl
    have a1 := h.1.at (j := j) (i := 1) (x := vs[j]) (u := vs[j].2.v) rfl (List.getElem?_eq_getElem hj') rfl
    have hg := h.2.get j hj' hj
    exact ⟨g, cap, vs[j], by rw [hl], by simpa [encA] using a0, by simpa [encA] using a1, hg.1, hg.2⟩
theorem any_take {α : Type} (p : α → Bool) (l : List α) (k : Nat) (h : k < l.length) : (l.take (k + 1)).any p = ((l.take k).any p || p l[k]) := by
  rw [List.take_add_one, List.getElem?_eq_getElem h, List.any_append]
  simp
theorem any_true {α : Type} (p : α → Bool) (l : List α) (k : Nat) (h : (l.take k).any p = true) : l.any p = true := by
  rw [List.any_eq_true] at *
  obtain ⟨x, hx, hp⟩ := h
  exact ⟨x, List.mem_of_mem_take hx, hp⟩

set_option maxRecDepth 8000 in
set_option maxHeartbeats 1000000 in
theorem specConjAt (s t : Value) (S T : List Int) (w : World) (h : SlIn w .i64 s S ∧ SlIn w .i64 t T) (hl : S.length ≤ 1048576 ∧ T.length ≤ 1048576) :
    Calls Try.prog 38 #[.agg #[s, t]] w fun e w' => e = .returned (.tuple #[.int .i64 (conj2 S T).1, .int .i64 (conj2 S T).2]) ∧ Below w.heap.size w w' := by
  have HI := Lib.hid h
  have HL := Lib.hid hl
  obtain ⟨sa, sc, hsa, -⟩ := h.1.form
  obtain ⟨ta, tc, hta, -⟩ := h.2.form
  subst hsa hta
  clear h hl
  cases hq : isA S T with
  | false =>
    have HF := Lib.hid (show conj2 S T = (0, 1) by unfold conj2; rw [hq]; rfl)
    go_enter Try.func38, Try.ntmps38
    go_wp2_with fail
    refine (l10Is_any _ _ S T _ (SlIn2.below HI.out (by repeat (first | (with_reducible exact Below.refl _ _) | (with_reducible assumption) | (with_reducible refine Below.drew ?_) | (with_reducible refine Below.drewN ?_) | ((with_reducible refine Below.al ?_ ?_); · first | omega | (simp; done) | (simp; omega)) | ((with_reducible refine Below.sc ?_ ?_); · first | omega | (simp; done) | (simp; omega)) | ((with_reducible refine Below.thru hb ?_ ?_); · first | omega | (simp; done) | (simp; omega))))) HL.out).mono ?_
    rw [hq]
    clear hq
    rintro e w1 ⟨rfl, hb⟩
    have kw1 : Below w.heap.size w w1 := (by repeat (first | (with_reducible exact Below.refl _ _) | (with_reducible assumption) | (with_reducible refine Below.drew ?_) | (with_reducible refine Below.drewN ?_) | ((with_reducible refine Below.al ?_ ?_); · first | omega | (simp; done) | (simp; omega)) | ((with_reducible refine Below.sc ?_ ?_); · first | omega | (simp; done) | (simp; omega)) | ((with_reducible refine Below.thru hb ?_ ?_); · first | omega | (simp; done) | (simp; omega))))
    clear hb
    go_wp2
    go_ret2
    exact ⟨by rw [HF.out]; rfl, kw1⟩
  | true =>
    have HP := Lib.hid (isA_spec hq)
    have HF := Lib.hid (show conj2 S T = (((conjL S T S.length S.length).length : Int), 0) by unfold conj2; rw [hq]; rfl)
    have HINF := Lib.hid (info_parts infoAct)
    have h72 := HP.out.1
    generalize hn : S.length = n at *
    have HN := Lib.hid hn
    clear hn
    go_enter Try.func38, Try.ntmps38
    go_wp2_with fail
    refine (l10Is_any _ _ S T _ (SlIn2.below HI.out (by repeat (first | (with_reducible exact Below.refl _ _) | (with_reducible assumption) | (with_reducible refine Below.drew ?_) | (with_reducible refine Below.drewN ?_) | ((with_reducible refine Below.al ?_ ?_); · first | omega | (simp; done) | (simp; omega)) | ((with_reducible refine Below.sc ?_ ?_); · first | omega | (simp; done) | (simp; omega)) | ((with_reducible refine Below.thru hb ?_ ?_); · first | omega | (simp; done) | (simp; omega))))) (by have := HL.out; have := HN.out; omega)).mono ?_
    rw [hq]
    clear hq
    rintro e w1 ⟨rfl, hb⟩
    have B1 : Blk w1 w.heap.size 27 #[.slice sa n sc, .slice ta T.length tc] := (by repeat (first | (with_reducible assumption) | ((with_reducible refine Blk.new ?_); · first | omega | (simp; done) | (simp; omega)) | (with_reducible apply Blk.set4) | (with_reducible apply Blk.set3) | (with_reducible apply Blk.set2) | ((with_reducible refine Blk.put ?_ ?_); · first | omega | (simp; omega)) | (with_reducible refine Blk.old ?_) | (with_reducible refine Blk.drew ?_) | (with_reducible refine Blk.drewN ?_) | ((with_reducible refine Blk.below hb ?_ ?_); · first | omega | (simp; done) | (simp; omega))))
    have kw1 : Below w.heap.size w w1 := (by repeat (first | (with_reducible exact Below.refl _ _) | (with_reducible assumption) | (with_reducible refine Below.drew ?_) | (with_reducible refine Below.drewN ?_) | ((with_reducible refine Below.al ?_ ?_); · first | omega | (simp; done) | (simp; omega)) | ((with_reducible refine Below.sc ?_ ?_); · first | omega | (simp; done) | (simp; omega)) | ((with_reducible refine Below.thru hb ?_ ?_); · first | omega | (simp; done) | (simp; omega))))
    have b1 := B1.p2
    have sw1 := kw1.size
    have lB1 := B1.lt
    clear hb
    go_wp2_with fail
    refine forget (fun W_ => OwnF W_ (w.heap.size + 1) (.slice (some ⟨w1.heap.size, 0, none⟩) 0 0) [] (conjL S T n 0) ∧ Blk W_ w.heap.size 27 #[.slice sa n sc, .slice ta T.length tc] ∧ Below w.heap.size w W_) ⟨⟨OwnK.of_blk (xs := []) (Blk.new (by simp)) (by omega) rfl (by simp [maxLen]), trivial⟩, (by repeat (first | (with_reducible assumption) | ((with_reducible refine Blk.new ?_); · first | omega | (simp; done) | (simp; omega)) | (with_reducible apply Blk.set4) | (with_reducible apply Blk.set3) | (with_reducible apply Blk.set2) | ((with_reducible refine Blk.put ?_ ?_); · first | omega | (simp; omega)) | (with_reducible refine Blk.old ?_) | (with_reducible refine Blk.drew ?_) | (with_reducible refine Blk.drewN ?_) | ((with_reducible refine Blk.below hb ?_ ?_); · first | omega | (simp; done) | (simp; omega)))), (by repeat (first | (with_reducible exact Below.refl _ _) | (with_reducible assumption) | (with_reducible refine Below.drew ?_) | (with_reducible refine Below.drewN ?_) | ((with_reducible refine Below.al ?_ ?_); · first | omega | (simp; done) | (simp; omega)) | ((with_reducible refine Below.sc ?_ ?_); · first | omega | (simp; done) | (simp; omega)) | ((with_reducible refine Below.thru hb ?_ ?_); · first | omega | (simp; done) | (simp; omega))))⟩ ?_
    rintro w2 ⟨O2, B2, kw2⟩
    clear B1 kw1 b1 sw1 lB1
    go_loopw [4, 5] (fun v i wr => ∃ (k : Nat) (vs : List (Sl × Sl)), k ≤ n ∧ i = .int .i64 k ∧ OwnF wr (w.heap.size + 1) v vs (conjL S T n k) ∧ Blk wr w.heap.size 27 #[.slice sa n sc, .slice ta T.length tc] ∧ Below w.heap.size w wr) (fun _ i _ => n - (intOf i).toNat)
    case atStart => exact ⟨0, [], Nat.zero_le _, rfl, O2, B2, kw2⟩
    case round =>
      clear O2 B2 kw2
      obtain ⟨k, vs, hk, rfl, O, B, kwr⟩ := hrel
      have HCL := Lib.hid (conjL_len S T n k)
      have HX := Lib.hid (show conjL S T n (k + 1) = if (conjL S T n k).any (sameB (formOf S T k n)) then conjL S T n k else conjL S T n k ++ [formOf S T k n] from rfl)
      obtain ⟨vo, vc, hv⟩ := O.1.len
      rw [O.2.len] at hv
      subst hv
      generalize hcs : conjL S T n k = cs at *
      replace hcs := Lib.hid hcs
      have hcl := HCL.out.1
      have b0 := B.p2
      have lB := B.lt
      have swr := kwr.size
      by_cases hlt : k < n
      · have H := Lib.hid (And.intro O (And.intro B kwr))
        clear O B kwr
        go_wp2_with fail
        refine (l10Form_any _ _ S T n k _ (SlIn2.below HI.out H.out.2.2) HP.out.2.1 HP.out.2.2.1 hlt h72.2).mono ?_
        rintro e w3 ⟨fs, ft, rfl, OF, hb⟩
        obtain ⟨xa, xc, hx, -⟩ := OF.1.slIn.form
        obtain ⟨ya, yc, hy, -⟩ := OF.2.1.slIn.form
        rw [(formOf_len S T k n).1] at hx
        rw [(formOf_len S T k n).2] at hy
        subst hx hy
        have HFL := Lib.hid (formOf_len S T k n)
        have z3 := hb.size
        have HO := Lib.hid (show Own w3 (w.heap.size + 1) (.slice xa n xc) (formOf S T k n).S ∧ Own w3 (w.heap.size + 1) (.slice ya n yc) (formOf S T k n).T from ⟨OF.1.mono (by omega), OF.2.1.mono (by omega)⟩)
        have H3 := Lib.hid (And.intro (H.out.1.below hb) (And.intro (show Blk w3 w.heap.size 27 #[.slice sa n sc, .slice ta T.length tc] by have B := H.out.2.1; exact (by repeat (first | (with_reducible assumption) | ((with_reducible refine Blk.new ?_); · first | omega | (simp; done) | (simp; omega)) | (with_reducible apply Blk.set4) | (with_reducible apply Blk.set3) | (with_reducible apply Blk.set2) | ((with_reducible refine Blk.put ?_ ?_); · first | omega | (simp; omega)) | (with_reducible refine Blk.old ?_) | (with_reducible refine Blk.drew ?_) | (with_reducible refine Blk.drewN ?_) | ((with_reducible refine Blk.below hb ?_ ?_); · first | omega | (simp; done) | (simp; omega))))) (show Below w.heap.size w w3 by have kk := H.out.2.2; exact (by repeat (first | (with_reducible exact Below.refl _ _) | (with_reducible assumption) | (with_reducible refine Below.drew ?_) | (with_reducible refine Below.drewN ?_) | ((with_reducible refine Below.al ?_ ?_); · first | omega | (simp; done) | (simp; omega)) | ((with_reducible refine Below.sc ?_ ?_); · first | omega | (simp; done) | (simp; omega)) | ((with_reducible refine Below.thru hb ?_ ?_); · first | omega | (simp; done) | (simp; omega)))))))
        clear hb H OF b0
        generalize formOf S T k n = F at *
        go_wp2_with fail
        refine forget (fun W_ => OwnF W_ (w.heap.size + 1) (.slice vo cs.length vc) vs cs ∧ (Own W_ (w.heap.size + 1) (.slice xa n xc) F.S ∧ Own W_ (w.heap.size + 1) (.slice ya n yc) F.T) ∧ Blk W_ w.heap.size 27 #[.slice sa n sc, .slice ta T.length tc] ∧ Blk W_ w3.heap.size 27 #[.slice xa n xc, .slice ya n yc] ∧ Below w.heap.size w W_) ⟨H3.out.1.below (by repeat (first | (with_reducible exact Below.refl _ _) | (with_reducible assumption) | (with_reducible refine Below.drew ?_) | (with_reducible refine Below.drewN ?_) | ((with_reducible refine Below.al ?_ ?_); · first | omega | (simp; done) | (simp; omega)) | ((with_reducible refine Below.sc ?_ ?_); · first | omega | (simp; done) | (simp; omega)) | ((with_reducible refine Below.thru hb ?_ ?_); · first | omega | (simp; done) | (simp; omega)))), ⟨HO.out.1.below (by repeat (first | (with_reducible exact Below.refl _ _) | (with_reducible assumption) | (with_reducible refine Below.drew ?_) | (with_reducible refine Below.drewN ?_) | ((with_reducible refine Below.al ?_ ?_); · first | omega | (simp; done) | (simp; omega)) | ((with_reducible refine Below.sc ?_ ?_); · first | omega | (simp; done) | (simp; omega)) | ((with_reducible refine Below.thru hb ?_ ?_); · first | omega | (simp; done) | (simp; omega)))), HO.out.2.below (by repeat (first | (with_reducible exact Below.refl _ _) | (with_reducible assumption) | (with_reducible refine Below.drew ?_) | (with_reducible refine Below.drewN ?_) | ((with_reducible refine Below.al ?_ ?_); · first | omega | (simp; done) | (simp; omega)) | ((with_reducible refine Below.sc ?_ ?_); · first | omega | (simp; done) | (simp; omega)) | ((with_reducible refine Below.thru hb ?_ ?_); · first | omega | (simp; done) | (simp; omega))))⟩, by have B := H3.out.2.1; exact (by repeat (first | (with_reducible assumption) | ((with_reducible refine Blk.new ?_); · first | omega | (simp; done) | (simp; omega)) | (with_reducible apply Blk.set4) | (with_reducible apply Blk.set3) | (with_reducible apply Blk.set2) | ((with_reducible refine Blk.put ?_ ?_); · first | omega | (simp; omega)) | (with_reducible refine Blk.old ?_) | (with_reducible refine Blk.drew ?_) | (with_reducible refine Blk.drewN ?_) | ((with_reducible refine Blk.below hb ?_ ?_); · first | omega | (simp; done) | (simp; omega)))), (by repeat (first | (with_reducible assumption) | ((with_reducible refine Blk.new ?_); · first | omega | (simp; done) | (simp; omega)) | (with_reducible apply Blk.set4) | (with_reducible apply Blk.set3) | (with_reducible apply Blk.set2) | ((with_reducible refine Blk.put ?_ ?_); · first | omega | (simp; omega)) | (with_reducible refine Blk.old ?_) | (with_reducible refine Blk.drew ?_) | (with_reducible refine Blk.drewN ?_) | ((with_reducible refine Blk.below hb ?_ ?_); · first | omega | (simp; done) | (simp; omega)))), by have kk := H3.out.2.2; have ss := kk.size; exact (by repeat (first | (with_reducible exact Below.refl _ _) | (with_reducible assumption) | (with_reducible refine Below.drew ?_) | (with_reducible refine Below.drewN ?_) | ((with_reducible refine Below.al ?_ ?_); · first | omega | (simp; done) | (simp; omega)) | ((with_reducible refine Below.sc ?_ ?_); · first | omega | (simp; done) | (simp; omega)) | ((with_reducible refine Below.thru hb ?_ ?_); · first | omega | (simp; done) | (simp; omega))))⟩ ?_
        rintro w4 ⟨O4, OF4, B4, X4, kw4⟩
        have HH := Lib.hid (And.intro O4 (And.intro OF4 (And.intro B4 (And.intro X4 kw4))))
        have sw4 := kw4.size
        have lB4 := B4.lt
        have lX4 := X4.lt
        clear H3 HO O4 OF4 B4 X4 kw4
        go_loopw [7, 8] (fun b i wr => ∃ j : Nat, j ≤ cs.length ∧ i = .int .i64 j ∧ b = .bool ((cs.take j).any (sameB F)) ∧ Below w4.heap.size w4 wr) (fun _ i _ => cs.length - (intOf i).toNat)
        case atStart => exact ⟨0, Nat.zero_le _, rfl, rfl, Below.refl _ _⟩
        case round =>
          obtain ⟨j, hj, rfl, rfl, kw5⟩ := hrel
          have sw5 := kw5.size
          have X5 : Blk wr w3.heap.size 27 #[.slice xa n xc, .slice ya n yc] := by have X := HH.out.2.2.2.1; exact X.below kw5 (by omega)
          have B5 : Blk wr w.heap.size 27 #[.slice sa n sc, .slice ta T.length tc] := by have X := HH.out.2.2.1; exact X.below kw5 (by omega)
          have O5 := HH.out.1.below kw5
          have F5 := Lib.hid (And.intro (HH.out.2.1.1.below kw5) (HH.out.2.1.2.below kw5))
          have k5 : Below w.heap.size w wr := Below.thru kw5 (by omega) HH.out.2.2.2.2
          have x5 := X5.p2
          have b5 := B5.p2
          have lX5 := X5.lt
          have lB5 := B5.lt
          by_cases hjl : j < cs.length
          · have HT := Lib.hid (any_take (sameB F) cs j hjl)
            have HT2 := Lib.hid (any_true (sameB F) cs j)
            cases hbb : (cs.take j).any (sameB F) with
            | true =>
              rw [hbb] at HT2
              have HE := Lib.hid (HT2.out rfl)
              have K := Lib.hid (And.intro O5 (And.intro B5 k5))
              clear hbb O5 B5 k5 X5
              go_wp2
              go_roundw
              case rel => exact ⟨k + 1, vs, by omega, by go_num, by rw [HX.out, HE.out, if_pos rfl]; exact K.out.1, K.out.2.1, K.out.2.2⟩
              case measure => simp [intOf]; omega
            | false =>
              rw [hbb] at HT
              clear hbb
              obtain ⟨g, c, sl, e1, c1, c2, OS, OT⟩ := O5.row hjl
              cases e1
              have hml := HCL.out.2 _ (List.getElem_mem hjl)
              have HS := Lib.hid (And.intro OS.slIn OT.slIn)
              have HML := Lib.hid hml
              obtain ⟨y0, y1, hy0, -⟩ := OS.slIn.form
              obtain ⟨z0, z1, hz0, -⟩ := OT.slIn.form
              rw [hy0] at c1 HS
              rw [hz0] at c2 HS
              have l1 := block_lt_of_cell c1
              have i0 : (0 : Int) ≤ (j : Int) := by omega
              have i1 : (j : Int) < (cs.length : Int) := by omega
              have K := Lib.hid (And.intro k5 kw5)
              clear OS OT O5 B5 k5 kw5 hml hy0 hz0
              generalize cs[j] = G at *
              rw [HML.out.1] at c1 HS
              rw [HML.out.2] at c2 HS
              go_wp2_with fail
              go_region_held3 (fun w' => w'.cell? ⟨w3.heap.size, 0, none⟩ = some (.slice xa n xc) ∧ w'.cell? ⟨w3.heap.size, 1, none⟩ = some (.slice ya n yc) ∧ w'.cell? ⟨g, j * 2, none⟩ = some (.slice y0 n y1) ∧ w'.cell? ⟨g, j * 2 + 1, none⟩ = some (.slice z0 n z1)) (first | go_keep | exact ⟨d1, d2, d3, d4⟩) (first
                | (go_at_call 73; refine (l10Equal_any _ _ _ _ F G n n _ (SlIn2.below ⟨F5.out.1.slIn, F5.out.2.slIn⟩ (by repeat (first | (with_reducible exact Below.refl _ _) | (with_reducible assumption) | (with_reducible refine Below.drew ?_) | (with_reducible refine Below.drewN ?_) | ((with_reducible refine Below.al ?_ ?_); · first | omega | (simp; done) | (simp; omega)) | ((with_reducible refine Below.sc ?_ ?_); · first | omega | (simp; done) | (simp; omega)) | ((with_reducible refine Below.thru hb ?_ ?_); · first | omega | (simp; done) | (simp; omega))))) (SlIn2.below HS.out (by repeat (first | (with_reducible exact Below.refl _ _) | (with_reducible assumption) | (with_reducible refine Below.drew ?_) | (with_reducible refine Below.drewN ?_) | ((with_reducible refine Below.al ?_ ?_); · first | omega | (simp; done) | (simp; omega)) | ((with_reducible refine Below.sc ?_ ?_); · first | omega | (simp; done) | (simp; omega)) | ((with_reducible refine Below.thru hb ?_ ?_); · first | omega | (simp; done) | (simp; omega))))) HFL.out HML.out (by omega) (by omega) ⟨h72.2, h72.2⟩).mono ?_; rintro e w6 ⟨rfl, hb⟩; have X6 : Blk w6 w3.heap.size 27 #[.slice xa n xc, .slice ya n yc] := (by repeat (first | (with_reducible assumption) | ((with_reducible refine Blk.new ?_); · first | omega | (simp; done) | (simp; omega)) | (with_reducible apply Blk.set4) | (with_reducible apply Blk.set3) | (with_reducible apply Blk.set2) | ((with_reducible refine Blk.put ?_ ?_); · first | omega | (simp; omega)) | (with_reducible refine Blk.old ?_) | (with_reducible refine Blk.drew ?_) | (with_reducible refine Blk.drewN ?_) | ((with_reducible refine Blk.below hb ?_ ?_); · first | omega | (simp; done) | (simp; omega)))); have d1 := X6.p2.1; have d2 := X6.p2.2; have d3 : w6.cell? ⟨g, j * 2, none⟩ = some (.slice y0 n y1) := (hb.cell (p := ⟨g, j * 2, none⟩) (by first | exact l1 | (simpa using l1))).trans c1; have d4 : w6.cell? ⟨g, j * 2 + 1, none⟩ = some (.slice z0 n z1) := (hb.cell (p := ⟨g, j * 2 + 1, none⟩) (by first | exact l1 | (simpa using l1))).trans c2; have kk := K.out.2; have kw6 : Below w4.heap.size w4 w6 := (by repeat (first | (with_reducible exact Below.refl _ _) | (with_reducible assumption) | (with_reducible refine Below.drew ?_) | (with_reducible refine Below.drewN ?_) | ((with_reducible refine Below.al ?_ ?_); · first | omega | (simp; done) | (simp; omega)) | ((with_reducible refine Below.sc ?_ ?_); · first | omega | (simp; done) | (simp; omega)) | ((with_reducible refine Below.thru hb ?_ ?_); · first | omega | (simp; done) | (simp; omega)))); clear hb))
              go_wp2
              go_roundw
              case rel => exact ⟨j + 1, by omega, by go_num, by rw [HT.out, Bool.false_or], kw6⟩
              case measure => simp [intOf]; omega
          · obtain rfl : j = cs.length := by omega
            rw [List.take_length]
            cases hbb : cs.any (sameB F) with
            | true =>
              have HE := Lib.hid hbb
              have K := Lib.hid (And.intro O5 (And.intro B5 k5))
              clear hbb O5 B5 k5 X5
              go_wp2
              go_roundw
              case rel => exact ⟨k + 1, vs, by omega, by go_num, by rw [HX.out, HE.out, if_pos rfl]; exact K.out.1, K.out.2.1, K.out.2.2⟩
              case measure => simp [intOf]; omega
            | false =>
              have HE := Lib.hid hbb
              have hvl := O5.2.len
              have O6 := O5.1
              rw [← hvl] at O6
              have K := Lib.hid (And.intro O6 (And.intro O5.2 (And.intro B5 k5)))
              have HVL := Lib.hid hvl
              have hvb : vs.length ≤ k := by omega
              clear hbb O5 B5 k5 O6 hvl
              obtain ⟨jI, hinf⟩ := HINF.out
              replace hinf := Lib.hid hinf
              go_wp2_with (at_builtin; refine wpList_app encA rfl _ _ 103 27 48 rfl Try.underlying103 jI _ hinf.out.1 hinf.out.2.1 hinf.out.2.2.1 hinf.out.2.2.2 rfl (.slice vo cs.length vc) vs (w.heap.size + 1) wr.heap.size 1 #[.slice xa n xc, .slice ya n yc] [(⟨xa, n, xc⟩, ⟨ya, n, yc⟩)] rfl ?o1 rfl ?b1 rfl ?l1 ?l2 (by first | omega | (simp; done) | (simp; omega)) ?_)
              case o1 =>
                have O1 := K.out.1
                rw [HVL.out] at O1
                exact (by repeat (first | (with_reducible assumption) | (with_reducible refine Own.drew ?_) | (with_reducible refine Own.drewN ?_) | (with_reducible refine Own.alloc ?_) | (with_reducible refine OwnK.drew ?_) | (with_reducible refine OwnK.drewN ?_) | (with_reducible refine OwnK.alloc ?_) | ((with_reducible refine OwnK.put ?_ ?_); · first | omega | (simp; done) | (simp; omega)) | ((with_reducible refine Own.below hb ?_)) | ((with_reducible refine OwnK.below hb ?_))))
              case b1 => exact Blk.new (by simp)
              case l1 => (try simp only [List.length_cons, List.length_nil]); unfold maxLen; omega
              case l2 => (try simp only [List.length_cons, List.length_nil]); omega
              intro v' w7 O7 hg
              have O1 := K.out.1
              have kk := K.out.2.2.2
              have ss := kk.size
              rw [← HVL.out] at hg
              have B7 : Blk w7 w.heap.size 27 #[.slice sa n sc, .slice ta T.length tc] := Blk.grownK hg (e := encA) (E := 27) (B := w.heap.size + 1) (xs := vs) (by repeat (first | (with_reducible assumption) | (with_reducible refine Own.drew ?_) | (with_reducible refine Own.drewN ?_) | (with_reducible refine Own.alloc ?_) | (with_reducible refine OwnK.drew ?_) | (with_reducible refine OwnK.drewN ?_) | (with_reducible refine OwnK.alloc ?_) | ((with_reducible refine OwnK.put ?_ ?_); · first | omega | (simp; done) | (simp; omega)) | ((with_reducible refine Own.below hb ?_)) | ((with_reducible refine OwnK.below hb ?_)))) (by omega) (Blk.old K.out.2.2.1)
              have kw7 : Below w.heap.size w w7 := Below.grownK hg (e := encA) (E := 27) (B := w.heap.size + 1) (xs := vs) (by repeat (first | (with_reducible assumption) | (with_reducible refine Own.drew ?_) | (with_reducible refine Own.drewN ?_) | (with_reducible refine Own.alloc ?_) | (with_reducible refine OwnK.drew ?_) | (with_reducible refine OwnK.drewN ?_) | (with_reducible refine OwnK.alloc ?_) | ((with_reducible refine OwnK.put ?_ ?_); · first | omega | (simp; done) | (simp; omega)) | ((with_reducible refine Own.below hb ?_)) | ((with_reducible refine OwnK.below hb ?_)))) (by omega) (by simp; omega) (by repeat (first | (with_reducible exact Below.refl _ _) | (with_reducible assumption) | (with_reducible refine Below.drew ?_) | (with_reducible refine Below.drewN ?_) | ((with_reducible refine Below.al ?_ ?_); · first | omega | (simp; done) | (simp; omega)) | ((with_reducible refine Below.sc ?_ ?_); · first | omega | (simp; done) | (simp; omega)) | ((with_reducible refine Below.thru hb ?_ ?_); · first | omega | (simp; done) | (simp; omega))))
              have R7 : Fms w7 (w.heap.size + 1) (vs ++ [(⟨xa, n, xc⟩, ⟨ya, n, yc⟩)]) (cs ++ [F]) :=
                Fms.grown hg (e := encA) (E := 27) (B' := w.heap.size + 1) (xs := vs) (by repeat (first | (with_reducible assumption) | (with_reducible refine Own.drew ?_) | (with_reducible refine Own.drewN ?_) | (with_reducible refine Own.alloc ?_) | (with_reducible refine OwnK.drew ?_) | (with_reducible refine OwnK.drewN ?_) | (with_reducible refine OwnK.alloc ?_) | ((with_reducible refine OwnK.put ?_ ?_); · first | omega | (simp; done) | (simp; omega)) | ((with_reducible refine Own.below hb ?_)) | ((with_reducible refine OwnK.below hb ?_)))) (by decide) (Fms.below ((Below.refl _ _).alloc (Nat.le_refl _) _) (Fms.snoc (s := (⟨xa, n, xc⟩, ⟨ya, n, yc⟩)) F5.out K.out.2.1))
              clear hg O1 kk K
              go_wp2
              go_roundw
              case rel => exact ⟨k + 1, vs ++ [(⟨xa, n, xc⟩, ⟨ya, n, yc⟩)], by omega, by go_num, by rw [HX.out, HE.out, if_neg (by simp)]; exact ⟨O7, R7⟩, B7, kw7⟩
              case measure => simp [intOf]; omega
      · obtain rfl : k = n := by omega
        go_wp2
        go_ret2
        exact ⟨by rw [HF.out, hcs.out]; rfl, kwr⟩

end Go.Proofs.Ytamkbgodenkboaa
