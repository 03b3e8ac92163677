/- A map from places to rows: what is found in it (plain law). -/
import Derived.Test.YtjjbaebddkejnaaSp3
import Derived.Maps.OwnSet
import Derived.Maps.Views
namespace Go.Proofs.Ytjjbaebddkejnaa
open Go.RowKit Go.Maps
set_option linter.unusedSimpArgs false

/-- The map of a list, its newest entry first. -/
def mapD : List (Nat × Value) → DataW Value
  | [] => .map []
  | a :: T => (mapD T).put (.int .i64 (a.1 : Int)) (.held a.2)
theorem mapD_key (k : Nat) : WideAt.IsKeyLit (.int .i64 (k : Int)) := by
  trivial
theorem mapD_tidy (T : List (Nat × Value)) : Tidy (mapD T) := by
  induction T with
  | nil => exact tidy_empty
  | cons a T ih => exact ih.put (mapD_key _) _
theorem lit_ne {a b : Nat} (h : a ≠ b) : (Lit.int .i64 (a : Int)) ≠ Lit.int .i64 (b : Int) := by
  intro e
  injection e with _ e
  omega
theorem mapD_has (T : List (Nat × Value)) (k : Nat) : has (mapD T) (.int .i64 (k : Int)) = decide (k ∈ T.map Prod.fst) := by
  induction T with
  | nil => rfl
  | cons a T ih =>
    rw [mapD]
    by_cases h : k = a.1
    · subst h
      rw [has_put_same (mapD_tidy T).isMap (mapD_key _)]
      simp
    · rw [has_put_other (lit_ne h), ih]
      simp [h]
theorem mapD_size (T : List (Nat × Value)) (hd : (T.map Prod.fst).Nodup) : size (mapD T) = T.length := by
  induction T with
  | nil => rfl
  | cons a T ih =>
    have hn := List.nodup_cons.1 hd
    rw [mapD, size_put (mapD_tidy T), mapD_has, if_neg (by simpa using hn.1), ih hn.2]
    rfl
theorem mapD_at (T : List (Nat × Value)) (hd : (T.map Prod.fst).Nodup) {a : Nat × Value} (ha : a ∈ T) (z : DataW Value) : (mapD T).atKey (.int .i64 (a.1 : Int)) z = .held a.2 := by
  induction T with
  | nil => exact absurd ha (by simp)
  | cons b T ih =>
    have hn := List.nodup_cons.1 hd
    rw [mapD]
    rcases List.mem_cons.1 ha with rfl | ha
    · exact atKey_put_same (mapD_tidy T).isMap (mapD_key _) _ _
    · have hne : a.1 ≠ b.1 := fun e => hn.1 (e ▸ List.mem_map.2 ⟨a, ha, rfl⟩)
      rw [atKey_put_other (lit_ne hne)]
      exact ih hn.2 ha
theorem mapD_none (T : List (Nat × Value)) {k : Nat} (hk : k ∉ T.map Prod.fst) (z : DataW Value) : (mapD T).atKey (.int .i64 (k : Int)) z = z :=
  atKey_of_not_has (by rw [mapD_has]; simpa using hk) z

end Go.Proofs.Ytjjbaebddkejnaa

/- A map of rows in a world, and what is left of a mix on the way (plain law). -/
namespace Go.Proofs.Ytjjbaebddkejnaa
open Go.RowKit Go.Maps
set_option linter.unusedSimpArgs false

/-- The rows of a map, each behind a slice of its own. -/
def RowsAt (w : World) (B : Nat) : List (Nat × Value) → List (Nat × List Int) → Prop
  | [], [] => True
  | s :: S, t :: T => s.1 = t.1 ∧ Own w B s.2 t.2 ∧ RowsAt w B S T
  | _, _ => False
theorem RowsAt.keys {w : World} {B : Nat} {S : List (Nat × Value)} {T : List (Nat × List Int)} (h : RowsAt w B S T) : S.map Prod.fst = T.map Prod.fst := by
  induction S generalizing T with
  | nil => cases T with
    | nil => rfl
    | cons t T => exact h.elim
  | cons s S ih => cases T with
    | nil => exact h.elim
    | cons t T => rw [List.map_cons, List.map_cons, h.1, ih h.2.2]
theorem RowsAt.mem {w : World} {B : Nat} {S : List (Nat × Value)} {T : List (Nat × List Int)} (h : RowsAt w B S T) {i : Nat} {r : List Int} (ht : (i, r) ∈ T) : ∃ v, (i, v) ∈ S ∧ Own w B v r := by
  induction S generalizing T with
  | nil => cases T with
    | nil => exact absurd ht (by simp)
    | cons t T => exact h.elim
  | cons s S ih => cases T with
    | nil => exact h.elim
    | cons t T =>
      rcases List.mem_cons.1 ht with e | ht
      · refine ⟨s.2, ?_, ?_⟩
        · have := h.1
          rw [← e] at this
          simp only at this
          rw [← this]
          exact List.mem_cons_self
        · have := h.2.1
          rw [← e] at this
          exact this
      · obtain ⟨v, h1, h2⟩ := ih h.2.2 ht
        exact ⟨v, List.mem_cons_of_mem _ h1, h2⟩
theorem RowsAt.same {w w' : World} {B : Nat} {S : List (Nat × Value)} {T : List (Nat × List Int)} (h : RowsAt w B S T) (hs : ∀ g, B ≤ g → g < w.heap.size → w'.heap[g]? = w.heap[g]?) : RowsAt w' B S T := by
  induction S generalizing T with
  | nil => cases T with
    | nil => trivial
    | cons t T => exact h.elim
  | cons s S ih => cases T with
    | nil => exact h.elim
    | cons t T => exact ⟨h.1, h.2.1.same fun g hg => hs g (h.2.1.lt hg).1 (h.2.1.lt hg).2, ih h.2.2⟩
theorem RowsAt.below {w w' : World} {B : Nat} {S : List (Nat × Value)} {T : List (Nat × List Int)} (hb : Below w.heap.size w w') (h : RowsAt w B S T) : RowsAt w' B S T :=
  h.same fun g _ hg => hb.block g hg

/-- How a row in a map reads: as itself. -/
def heldR (v : Value) : Option (DataW Value × List MemPlace) := some (.held v, [])
theorem law3 : Keyed Try.prog 3 := int_keyed Try.underlying3
theorem zeroRow (w : World) : (zeroValue 25).run Try.prog w = .ok (.slice none 0 0) w := by kernel_rfl
abbrev MapB (w : World) (b n : Nat) (S : List (Nat × Value)) : Prop := w.ownsMap Try.prog 3 heldR b n (mapD S)
theorem MapB.below {w w' : World} {b n : Nat} {S : List (Nat × Value)} (hb : Below w.heap.size w w') (h : MapB w b n S) : MapB w' b n S := by
  obtain ⟨es, c, h1, h2⟩ := h
  exact ⟨es, c, (hb.block b (lt_of_block h1)).trans h1, h2⟩
/-- What a look-up gives. -/
def Look (S : List (Nat × Value)) (i : Nat) (v : Value) (ok : Bool) : Prop := (ok = true ∧ (i, v) ∈ S) ∨ (ok = false ∧ i ∉ S.map Prod.fst ∧ v = .slice none 0 0)
theorem RowsAt.look {w : World} {B : Nat} {S : List (Nat × Value)} {T : List (Nat × List Int)} (h : RowsAt w B S T) (i : Nat) : ∃ v ok, Look S i v ok ∧ (ok = true → ∃ r, (i, r) ∈ T ∧ Own w B v r) ∧ (ok = false → i ∉ T.map Prod.fst) := by
  by_cases hm : i ∈ T.map Prod.fst
  · obtain ⟨⟨j, r⟩, ht, rfl⟩ := List.mem_map.1 hm
    obtain ⟨v, h1, h2⟩ := h.mem ht
    exact ⟨v, true, .inl ⟨rfl, h1⟩, fun _ => ⟨r, ht, h2⟩, fun e => by cases e⟩
  · exact ⟨.slice none 0 0, false, .inr ⟨rfl, by rw [h.keys]; exact hm, rfl⟩, (by rintro ⟨⟩), fun _ => hm⟩
theorem wpList_look (w : World) {ops : Array Oper} {rest : List Oper} {o : Oper} {a : Act} {Q : Exit → Act → World → Prop} (hg : o.guard = none) (m x : Operand) (hop : o.op = Op.lookup 43 m x true)
    (S : List (Nat × Value)) (b n i : Nat) (v : Value) (ok : Bool) (hl : Look S i v ok) (hd : (S.map Prod.fst).Nodup) (hm : a.eval m = .map (some b)) (hown : MapB w b n S) (hx : a.eval x = .int .i64 i) (hi : i ≤ 1000000)
    (hK : wpList Try.prog ops Q rest (a.put o.dst (.tuple #[v, .bool ok])) w) : wpList Try.prog ops Q (o :: rest) a w := by
  refine wpList_lookup_own_ok w hg m x 43 hop 3 25 law3 Try.underlying43 heldR (zeroRow w) (.held (.slice none 0 0)) [] rfl b n (mapD S) hm hown (.int .i64 i) (.int .i64 i) hx
    (keyOf_int_mk Try.underlying3 (by simp [Lit.wf, IntKind.min, IntKind.max, IntKind.bits, IntKind.signed]; omega)) fun u ps hu => ?_
  have e1 := congrArg (fun z => z.map Prod.fst) hu
  simp only [heldR, Option.map_some, Option.some.injEq] at e1
  rcases hl with ⟨rfl, hin⟩ | ⟨rfl, hin, rfl⟩
  · rw [mapD_at S hd hin] at e1
    injection e1 with e1
    subst e1
    rw [mapD_has, decide_eq_true (List.mem_map.2 ⟨_, hin, rfl⟩)]
    exact hK
  · rw [mapD_none S hin] at e1
    injection e1 with e1
    subst e1
    rw [mapD_has, decide_eq_false hin]
    exact hK

theorem Own.set {w : World} {B g j n cap : Nat} {xs : List Int} {x : Int} (h : Own w B (.slice (some ⟨g, 0, none⟩) n cap) xs) (hn : xs.length = n) : Own (w.setCell ⟨g, j, none⟩ (.int .i64 x)) B (.slice (some ⟨g, 0, none⟩) n cap) (xs.set j x) := by
  subst hn
  have := (World.ownsRow.stored h j (.int .i64 x)).1
  unfold Own
  rw [List.length_set, List.map_set]
  exact this
theorem Own.free {w : World} {B g n cap : Nat} {xs : List Int} (h : Own w B (.slice (some ⟨g, 0, none⟩) n cap) xs) (hn : xs.length = n) (j : Nat) : w.frozen? ⟨g, j, none⟩ = false := by
  subst hn
  exact World.ownsRow.frozenAt h j
theorem Own.rd {w : World} {B g j n cap : Nat} {xs : List Int} (h : Own w B (.slice (some ⟨g, 0, none⟩) n cap) xs) (hn : xs.length = n) (hj : j < n) : w.cell? ⟨g, j, none⟩ = some (.int .i64 (vec xs j)) := by
  refine Own.at h rfl ?_
  rw [vec, List.getD_eq_getElem?_getD, List.getElem?_eq_getElem (by omega)]
  rfl

theorem keepC_drew {w : World} {a : Addr} {v : Option Value} (h : w.cell? a = v) : w.drew.cell? a = v := h
theorem keepF_drew {w : World} {a : Addr} {v : Bool} (h : w.frozen? a = v) : w.drew.frozen? a = v := h
theorem keepC_drewN {w : World} {a : Addr} {m : Nat} {v : Option Value} (h : w.cell? a = v) : (w.drewN m).cell? a = v := h
theorem keepF_drewN {w : World} {a : Addr} {m : Nat} {v : Bool} (h : w.frozen? a = v) : (w.drewN m).frozen? a = v := h
/-- What is left of a mix on the way: nothing is left before place i. -/
structure LeftS (p : Int) (N : Nat) (T : List (Nat × List Int)) (x : List Int) (ys : List Int) (i : Nat) : Prop where
  good : GoodV p N ys
  sp : Sp p N (In (T.map vr)) fun k => vec x k - vec ys k
  zero : ∀ j, j < i → vec ys j = 0
theorem vec_map (p : Int) (x : List Int) (k : Nat) (hk : k < x.length) : vec (x.map (· % p)) k = vec x k % p := by
  simp [vec, List.getD_eq_getElem?_getD, hk]
theorem LeftS.start {p : Int} {T : List (Nat × List Int)} (x : List Int) (hp : PrimeP p) : LeftS p x.length T x (x.map (· % p)) 0 := by
  have hb := hp.bd
  refine ⟨⟨by simp, fun k hk => ?_⟩, .zero fun k hk => ?_, fun j hj => absurd hj (by omega)⟩
  · rw [vec_map p x k hk]
    exact mod_bd _ (by omega)
  · simp only [vec_map p x k hk]
    obtain ⟨u, hu⟩ := mod_dvd (vec x k) p
    exact ⟨-u, by grind⟩
theorem LeftS.next {p : Int} {N : Nat} {T : List (Nat × List Int)} {x ys : List Int} {i : Nat} (h : LeftS p N T x ys i) (h0 : vec ys i = 0) : LeftS p N T x ys (i + 1) :=
  ⟨h.good, h.sp, fun j hj => by
    by_cases e : j = i
    · rw [e]; exact h0
    · exact h.zero j (by omega)⟩
/-- A multiple of a row is taken from a mix, up to place k. -/
structure Mid (p : Int) (N : Nat) (ys r : List Int) (c : Int) (k : Nat) (zs : List Int) : Prop where
  good : GoodV p N zs
  lo : ∀ j, j < k → vec zs j = (vec ys j - c * vec r j) % p
  hi : ∀ j, k ≤ j → vec zs j = vec ys j
theorem Mid.start {p : Int} {N : Nat} {ys r : List Int} {c : Int} (h : GoodV p N ys) : Mid p N ys r c 0 ys := ⟨h, fun j hj => absurd hj (by omega), fun _ _ => rfl⟩
theorem Mid.step {p : Int} {N : Nat} {ys r zs : List Int} {c : Int} {k : Nat} (hp : PrimeP p) (h : Mid p N ys r c k zs) (hk : k < N) : Mid p N ys r c (k + 1) (zs.set k ((vec zs k - c * vec r k) % p)) := by
  have hb := hp.bd
  have hl := h.good.1
  refine ⟨h.good.set k (mod_bd _ (by omega)), fun j hj => ?_, fun j hj => ?_⟩
  · rw [vec_set _ _ _ _ (by omega)]
    by_cases e : j = k
    · subst e
      rw [if_pos rfl, h.hi j (Nat.le_refl _)]
    · rw [if_neg e]
      exact h.lo j (by omega)
  · rw [vec_set _ _ _ _ (by omega), if_neg (by omega)]
    exact h.hi j (by omega)
theorem LeftS.row {p : Int} {N : Nat} {T : List (Nat × List Int)} {x ys zs r : List Int} {i : Nat} (h : LeftS p N T x ys i) (ht : (i, r) ∈ T) (hr : GoodR p N (i, r)) (hm : Mid p N ys r (vec ys i) N zs) : LeftS p N T x zs (i + 1) := by
  have hi : i < N := hr.lt
  refine ⟨hm.good, ?_, fun j hj => ?_⟩
  · refine (h.sp.lin (Sp.row (r := vec r) ⟨i, List.mem_map.2 ⟨_, ht, rfl⟩⟩) (vec ys i)).cong fun k hk => ?_
    simp only [hm.lo k hk]
    obtain ⟨u, hu⟩ := mod_dvd (vec ys k - vec ys i * vec r k) p
    exact ⟨-u, by grind⟩
  · rw [hm.lo j (by omega)]
    by_cases e : j = i
    · subst e
      have := hr.one
      simp only at this
      rw [this]
      simp
    · have h2 := hr.lead j (by simp only; omega)
      simp only at h2
      rw [h2, h.zero j (by omega)]
      simp
/-- What is left in the end, and where it begins. -/
def LeftR (p : Int) (N : Nat) (T : List (Nat × List Int)) (x ys : List Int) (r : Int) : Prop :=
  GoodV p N ys ∧ Sp p N (In (T.map vr)) (fun k => vec x k - vec ys k) ∧ ((r = -1 ∧ ∀ k, k < N → vec ys k = 0) ∨ ∃ i : Nat, r = i ∧ i < N ∧ vec ys i ≠ 0 ∧ (∀ j, j < i → vec ys j = 0) ∧ i ∉ T.map Prod.fst)
theorem LeftS.done {p : Int} {N : Nat} {T : List (Nat × List Int)} {x ys : List Int} (h : LeftS p N T x ys N) : LeftR p N T x ys (-1) := ⟨h.good, h.sp, .inl ⟨rfl, h.zero⟩⟩
theorem LeftS.stop {p : Int} {N : Nat} {T : List (Nat × List Int)} {x ys : List Int} {i : Nat} (h : LeftS p N T x ys i) (hi : i < N) (hn : vec ys i ≠ 0) (ht : i ∉ T.map Prod.fst) : LeftR p N T x ys i := ⟨h.good, h.sp, .inr ⟨i, rfl, hi, hn, h.zero, ht⟩⟩
/-- Nothing is left just of the sums of multiples of the rows. -/
theorem LeftR.iff {p : Int} {N : Nat} {rows : List (List Int)} {T : List (Nat × List Int)} {x ys : List Int} {r : Int} (hR : Red p N rows T) (h : LeftR p N T x ys r) : r < 0 ↔ Sp p N (In (T.map vr)) (vec x) := by
  obtain ⟨hg, hs, h⟩ := h
  rcases h with ⟨rfl, h0⟩ | ⟨i, rfl, hi, hn, hz, ht⟩
  · refine ⟨fun _ => hs.cong fun k hk => ?_, fun _ => by decide⟩
    rw [h0 k hk]
    exact ⟨0, by simp⟩
  · refine ⟨fun h => absurd h (by omega), fun hx => absurd ?_ ht⟩
    have hy : Sp p N (In (T.map vr)) (vec ys) := (hx.lin hs (-1)).cong fun k _ => ⟨0, by grind⟩
    have := hR.bas.lead hy hi (fun k hk => by rw [hz k hk]; exact ⟨0, by simp⟩) (fun ⟨u, hu⟩ => by
      have hb := hg.2 i hi
      have hu0 : u < 1 := by
        rcases Int.lt_or_le u 1 with h | h
        · exact h
        · exfalso
          have := Int.mul_le_mul_of_nonneg_left h (show 0 ≤ p by omega)
          omega
      have hu1 : -1 < u := by
        rcases Int.lt_or_le (-1) u with h | h
        · exact h
        · exfalso
          have := Int.mul_le_mul_of_nonneg_left h (show 0 ≤ p by omega)
          omega
      have : u = 0 := by omega
      subst this
      simp at hu
      exact hn hu)
    rwa [map_fst_vr] at this
set_option maxRecDepth 8000 in
set_option maxHeartbeats 400000 in
theorem rest_same (a n : Int) (w : World) (hn : 1 ≤ n) (hn2 : n ≤ 1000000000) :
    Calls Try.prog 54 #[.int .i64 a, .int .i64 n] w fun e w' => e = .returned (.int .i64 (a % n)) ∧ w = w' := by
  have hb := tmod_bd a n hn
  have HR := Lib.hid (show (a.tmod n + n) % n = a % n by rw [← Int.tmod_eq_emod_of_nonneg (by omega)]; exact rest_eq a n hn)
  go_enter Try.func54, Try.ntmps54
  go_wp2
  go_ret
  exact ⟨ret_int HR.out, rfl⟩

end Go.Proofs.Ytjjbaebddkejnaa
