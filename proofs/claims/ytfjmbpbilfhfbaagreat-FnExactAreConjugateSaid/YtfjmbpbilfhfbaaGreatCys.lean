/- Cyclic words: the reference's walk. -/
import Derived.Test.YtfjmbpbilfhfbaaGreatCyl
import Derived.Test.YtfjmbpbilfhfbaaGreatFreeS
namespace Go.Proofs.YtfjmbpbilfhfbaaGreat
open Go.RowKit
open Go.Proofs.YtfjmbpbilfhfbaaGreat.PFnExactCyclicWord Go.Proofs.YtfjmbpbilfhfbaaGreatW.PrintWords
set_option linter.unusedSimpArgs false

/-- A string of letters. -/
def stB (l : List UInt8) : ByteArray := ⟨l.toArray⟩
theorem stB_list (l : List UInt8) : (stB l).toList = l := by rw [ByteArray.toList_eq]; rfl
theorem stB_size (l : List UInt8) : (stB l).size = l.length := by unfold stB; simp [ByteArray.size]
theorem stB_from (l : List UInt8) (k : Nat) : (stB l).extract k (stB l).size = stB (l.drop k) := by
  apply ByteArray.ext
  rw [stB_size]
  unfold stB
  simp only [ByteArray.data_extract, List.extract_toArray, List.extract_eq_take_drop]
  rw [List.take_of_length_le (by simp)]
theorem stB_to (l : List UInt8) (k : Nat) : (stB l).extract 0 k = stB (l.take k) := by
  apply ByteArray.ext
  unfold stB
  simp only [ByteArray.data_extract, List.extract_toArray, List.extract_eq_take_drop]
  simp
theorem stB_app (a b : List UInt8) : stB a ++ stB b = stB (a ++ b) := by
  apply ByteArray.ext
  unfold stB
  simp
theorem rot_len (k : Nat) (l : List UInt8) : (rot k l).length = l.length := by
  unfold rot
  rw [List.length_append, List.length_drop, List.length_take]
  omega
/-- The least of the first j turns. -/
def Low (l : List UInt8) (j : Nat) (b : List UInt8) : Prop := (∃ k, k < l.length ∧ b = rot k l) ∧ ∀ k, k < j → Go.Op.bytesLess (rot k l) b = false
theorem Low.one {l : List UInt8} (h : 0 < l.length) : Low l 1 l := by
  have e : rot 0 l = l := by unfold rot; simp
  refine ⟨⟨0, h, e.symm⟩, fun k hk => ?_⟩
  obtain rfl : k = 0 := by omega
  rw [e]
  exact less_irrefl l
theorem Low.keep {l b : List UInt8} {j : Nat} (h : Low l j b) (hn : Go.Op.bytesLess (rot j l) b = false) : Low l (j + 1) b := by
  refine ⟨h.1, fun k hk => ?_⟩
  by_cases e : k < j
  · exact h.2 k e
  · obtain rfl : k = j := by omega
    exact hn
theorem Low.new {l b : List UInt8} {j : Nat} (hj : j < l.length) (h : Low l j b) (hy : Go.Op.bytesLess (rot j l) b = true) : Low l (j + 1) (rot j l) := by
  refine ⟨⟨j, hj, rfl⟩, fun k hk => ?_⟩
  by_cases e : k < j
  · exact less_low (h.2 k e) hy
  · obtain rfl : k = j := by omega
    exact less_irrefl _
theorem Low.least {l b : List UInt8} (h : Low l l.length b) : Least l b := h
theorem least_l0 (l : List UInt8) (hl : l.length ≤ 1000) (n : Nat) : ∀ (j : Nat) (b : List UInt8), j + n = l.length → Low l j b → ∃ r, spec_l04Least.l0 (n + 1) (stB l) (stB b) (j : Int) = some (stB r) ∧ Least l r := by
  induction n with
  | zero =>
    intro j b hj h
    refine ⟨b, ?_, ?_⟩
    · unfold spec_l04Least.l0
      rw [stB_size, if_neg (by omega)]
    · rw [show j = l.length by omega] at h; exact h.least
  | succ n ih =>
    intro j b hj h
    have e1 : ((stB l).extract j (stB l).size) ++ ((stB l).extract 0 j) = stB (rot j l) := by
      rw [stB_from, stB_to, stB_app]; rfl
    have e2 : ((stB l).extract j (stB l).size).size + ((stB l).extract 0 j).size = l.length := by
      rw [stB_from, stB_to, stB_size, stB_size, List.length_drop, List.length_take]; omega
    have e3 : wrap64 ((j : Int) + 1) = ((j + 1 : Nat) : Int) := by unfold wrap64; omega
    unfold spec_l04Least.l0
    rw [stB_size, if_pos (by omega), if_pos (by omega), if_pos (by omega), Int.toNat_natCast, ← stB_size l, e2, e1, e3, stB_list, stB_list, if_pos (by omega)]
    cases hc : Go.Op.bytesLess (rot j l) b with
    | true =>
      rw [if_pos rfl]
      exact ih (j + 1) (rot j l) (by omega) (h.new (by omega) hc)
    | false =>
      rw [if_neg Bool.false_ne_true]
      exact ih (j + 1) b (by omega) (h.keep hc)
/-- What least gives. -/
def GivesT (l : List UInt8) (w : World) (e : Ending) (w' : World) : Prop := (∃ r, Least l r ∧ e = .returned (.string (stB r))) ∧ Below w.heap.size w w'
theorem l04Least_any (l : List UInt8) (w : World) (hl : l.length ≤ 1000) (h0 : 0 < l.length) : Calls Tryz.prog 33 #[.string (stB l)] w (GivesT l w) := by
  obtain ⟨r, h1, h2⟩ := least_l0 l hl (l.length - 1) 1 l (by omega) (Low.one h0)
  refine (spec_l04Least.calls _ (stB l) (stB r) w h1).mono ?_
  rintro e w' ⟨rfl, hd⟩
  exact ⟨⟨r, h2, rfl⟩, hd.below⟩

/-- A slice whose cells are bytes. -/
def BytesIn (w : World) (v : Value) (l : List UInt8) : Prop := ∃ g c, v = .slice (some ⟨g, 0, none⟩) l.length c ∧ ∀ j (hj : j < l.length), w.cell? ⟨g, j, none⟩ = some (.int .u8 (tI l[j]))
/-- A row of bytes of the call's own, perhaps with a mark behind its cells. -/
structure RowM (w : World) (B g cap : Nat) (l : List UInt8) : Prop where
  low : B ≤ g
  lt : g < w.heap.size
  room : l.length ≤ cap
  cells : ∀ j (hj : j < l.length), w.cell? ⟨g, j, none⟩ = some (.int .u8 (tI l[j]))
  is : ∀ j, j < cap → (w.cell? ⟨g, j, none⟩).isSome = true
  fr : ∀ j, j < cap → w.frozen? ⟨g, j, none⟩ = false
theorem setCells_one (w : World) (g i : Nat) (v : Value) : w.setCells g i [v] = w.setCell ⟨g, i, none⟩ v := rfl

def GivesR (l : List UInt8) (w0 : World) (e : Ending) (w' : World) : Prop := ∃ v, e = .returned v ∧ BytesIn w' v l ∧ Below w0.heap.size w0 w'

set_option maxRecDepth 8000 in
set_option maxHeartbeats 2000000 in
theorem l02Put_row (b x : UInt8) (z : List UInt8) (g cap : Nat) (w0 w : World) (hB : Below w0.heap.size w0 w) (h : RowM w w0.heap.size g cap (z ++ [x])) (hx : L3 x) (hb : L3 b) (ht : (x == 83) = (b == 83)) (hl : z.length < 1000) :
    Calls Tryz.prog 32 #[.slice (some ⟨g, 0, none⟩) (z.length + 1) cap, .int .u8 (tI b)] w (GivesR (putL (z ++ [x]) b) w0) := by
  have c1 := h.cells z.length (by simp)
  rw [List.getElem_append_right (Nat.le_refl _)] at c1
  simp only [Nat.sub_self, List.getElem_singleton] at c1
  have e83 : tI 83 = 83 := rfl
  have e85 : tI 85 = 85 := rfl
  have e86 : tI 86 = 86 := rfl
  have HZ := Lib.hid (fun j (hj : j < z.length) => (h.cells j (by simp; omega)).trans (by rw [List.getElem_append_left hj]))
  have HI := Lib.hid h.is
  have HF := Lib.hid h.fr
  have hgl := h.lt
  have hcap : z.length + 1 ≤ cap := by have := h.room; simpa using this
  have hlow := h.low
  have HP := Lib.hid (putL_snoc z x b)
  clear h
  obtain ⟨n, hn⟩ : ∃ n, z.length = n := ⟨_, rfl⟩
  rw [hn] at c1 hl hcap ⊢
  replace hn := Lib.hid hn
  have h0 : ¬ ((n : Int) + 1 = 0) := by omega
  have hz0 : ((n : Int) + 1 == 0) = false := by rw [beq_eq_false_iff_ne]; omega
  have w1 : wrap64 ((n : Int) + 1 - 1) = (n : Int) := by unfold wrap64; omega
  have w2 : IntKind.i64.wrap ((n : Int) + 1 - 1) = (n : Int) := by rw [IntKind.wrap_i64]; omega
  have HEX : Hid (∀ v w', BytesIn w' v (putL (z ++ [x]) b) → Below w0.heap.size w0 w' → GivesR (putL (z ++ [x]) b) w0 (.returned v) w') := Lib.hid (fun v w' h1 h2 => ⟨v, rfl, h1, h2⟩)
  generalize GivesR (putL (z ++ [x]) b) w0 = GF at *
  have HSET : Hid (∀ (y : UInt8) (o : Obj), putL (z ++ [x]) b = z ++ [y] → BytesIn ((w.setCell ⟨g, n, none⟩ (.int .u8 (tI y))).alloc o) (.slice (some ⟨g, 0, none⟩) (n + 1) cap) (putL (z ++ [x]) b) ∧ Below w0.heap.size w0 ((w.setCell ⟨g, n, none⟩ (.int .u8 (tI y))).alloc o)) := Lib.hid (fun y o e => by
    have hs := hB.size
    refine ⟨⟨g, cap, by rw [e, List.length_append, hn.out, List.length_singleton], fun j hj => ?_⟩, Below.al (by rw [World.size_setCell]; exact hs) (Below.sc hlow hB)⟩
    have hlt : g < (w.setCell ⟨g, n, none⟩ (.int .u8 (tI y))).heap.size := by rw [World.size_setCell]; exact hgl
    rw [World.cell?_alloc_past _ _ _ hlt]
    have hj2 : j < n + 1 := by rw [e, List.length_append, hn.out] at hj; simpa using hj
    by_cases hjn : j < n
    · rw [World.cell?_setCell_other _ _ _ _ (by first | (simp; done) | (simp; omega))]
      have := HZ.out j (by rw [hn.out]; exact hjn)
      rw [this]
      simp only [e]
      rw [List.getElem_append_left (by rw [hn.out]; exact hjn)]
    · obtain rfl : j = n := by omega
      rw [World.cell?_setCell_same _ _ _ c1]
      simp only [e]
      rw [List.getElem_append_right (by rw [hn.out]; exact Nat.le_refl _)]
      simp)
  have hfr : w.frozen? ⟨g, n, none⟩ = false := HF.out n (by omega)
  clear HI HF
  rcases hx with rfl | rfl | rfl <;> rcases hb with rfl | rfl | rfl <;> first | (exfalso; revert ht; decide) | skip
  all_goals (simp only [e83, e85, e86] at c1 ⊢)
  case inl.inl =>
    have HP2 := Lib.hid (show putL (z ++ [83]) 83 = z from HP.out.trans rfl)
    go_enter Tryz.func32, Tryz.ntmps32
    go_wp2
    refine HEX.out _ _ ?_ hB
    rw [HP2.out]
    exact ⟨g, cap, by rw [hn.out] <;> rfl, HZ.out⟩
  case inr.inl.inr.inr =>
    have HP2 := Lib.hid (show putL (z ++ [85]) 86 = z from HP.out.trans rfl)
    go_enter Tryz.func32, Tryz.ntmps32
    go_wp2
    refine HEX.out _ _ ?_ hB
    rw [HP2.out]
    exact ⟨g, cap, by rw [hn.out] <;> rfl, HZ.out⟩
  case inr.inr.inr.inl =>
    have HP2 := Lib.hid (show putL (z ++ [86]) 85 = z from HP.out.trans rfl)
    go_enter Tryz.func32, Tryz.ntmps32
    go_wp2
    refine HEX.out _ _ ?_ hB
    rw [HP2.out]
    exact ⟨g, cap, by rw [hn.out] <;> rfl, HZ.out⟩
  case inr.inl.inr.inl =>
    have HP2 := Lib.hid (HSET.out 86 (.cells #[.int .u8 86] 5) (show putL (z ++ [85]) 85 = z ++ [86] from HP.out.trans rfl))
    go_enter Tryz.func32, Tryz.ntmps32
    go_wp2
    exact HEX.out _ _ HP2.out.1 HP2.out.2
  case inr.inr.inr.inr =>
    have HP2 := Lib.hid (HSET.out 85 (.cells #[.int .u8 85] 5) (show putL (z ++ [86]) 86 = z ++ [85] from HP.out.trans rfl))
    go_enter Tryz.func32, Tryz.ntmps32
    go_wp2
    exact HEX.out _ _ HP2.out.1 HP2.out.2

theorem stB_at (l : List UInt8) (j : Nat) (hj : j < l.length) (w_ : World) : (Instr.index 9 (.string (stB l)) (.int .i64 (j : Int))).run Tryz.prog w_ = .ok (.int .u8 (tI l[j])) w_ := by
  rw [run_index_string w_ _ _ _ _ (by kernel_rfl), dif_pos (by rw [stB_size]; omega)]
  have e : (j : Int).toNat = j := Int.toNat_natCast j
  simp only [e]
  unfold stB tI
  simp [ByteArray.getElem_eq_getElem_data]
theorem stB_first (x : UInt8) (l : List UInt8) (w_ : World) : (Instr.index 9 (.string (stB (x :: l))) (.int .i64 0)).run Tryz.prog w_ = .ok (.int .u8 (tI x)) w_ := stB_at (x :: l) 0 (by simp) w_
theorem stB_last (x : UInt8) (m : List UInt8) (y : UInt8) (w_ : World) : (Instr.index 9 (.string (stB (x :: (m ++ [y])))) (.int .i64 ((m.length : Int) + 1))).run Tryz.prog w_ = .ok (.int .u8 (tI y)) w_ := by
  have := stB_at (x :: (m ++ [y])) (m.length + 1) (by simp) w_
  simpa using this
theorem stB_add (a b : List UInt8) (h : a.length + b.length ≤ 1000) (w_ : World) : (Op.stringOp .add (stB a) (stB b)).run Tryz.prog w_ = .ok (.string (stB (a ++ b))) w_ := by
  unfold Op.stringOp
  simp only
  rw [if_neg (by rw [stB_size, stB_size]; simp [IntKind.max, IntKind.bits, IntKind.signed]; omega), stB_app]
  rfl
/-- The world behind []byte(s), and what the new slice can take. -/
def cvCap (w : World) (l : List UInt8) : Nat := grownCap w l.length 0 5
def cvW (w : World) (l : List UInt8) : World := w.drew.alloc (.cells (bytesRow (stB l) (cvCap w l)) 5 ((bytesRow (stB l) (cvCap w l)).size, (bytesRow (stB l) (cvCap w l)).size + 1))
theorem cv_run (l : List UInt8) (w : World) : (convert 9 42 (.string (stB l))).run Tryz.prog w = .ok (.slice (some ⟨w.heap.size, 0, none⟩) l.length (cvCap w l)) (cvW w l) := by
  have := run_bytes_of_string (P := Tryz.prog) w 9 42 5 (stB l) (by kernel_rfl) Tryz.underlying42 Tryz.underlying5
  rw [stB_size] at this
  exact this
theorem bytesRow_size (l : List UInt8) (cap : Nat) (h : l.length ≤ cap) : (bytesRow (stB l) cap).size = cap := by
  unfold bytesRow
  rw [Array.size_append, Array.size_map, Array.size_replicate, stB_size]
  show l.toArray.size + _ = _
  simp only [List.size_toArray]
  omega
theorem bytesRow_get (l : List UInt8) (cap j : Nat) (h : j < l.length) : (bytesRow (stB l) cap)[j]? = some (.int .u8 (tI l[j])) := by
  unfold bytesRow stB
  rw [Array.getElem?_append_left (by simp; exact h)]
  simp [h, tI]
theorem cvW_row (l : List UInt8) (w : World) {B : Nat} (hB : B ≤ w.heap.size) : RowM (cvW w l) B w.heap.size (cvCap w l) l := by
  have hc : l.length ≤ cvCap w l := grownCap_ge _ _ _ _
  have hh : (cvW w l).heap[w.heap.size]? = some (.cells (bytesRow (stB l) (cvCap w l)) 5 ((bytesRow (stB l) (cvCap w l)).size, (bytesRow (stB l) (cvCap w l)).size + 1)) := heap_new (w := w.drew) rfl
  have hsz := bytesRow_size l (cvCap w l) hc
  refine ⟨hB, lt_of_block hh, hc, fun j hj => (blk_cell hh).trans (bytesRow_get l _ j hj), fun j hj => ?_, fun j hj => ?_⟩
  · rw [blk_cell hh, Array.getElem?_eq_getElem (by omega)]; rfl
  · unfold World.frozen?
    rw [hh]
    simp only
    rw [hsz]
    simp
    omega
theorem cvW_below (l : List UInt8) {w a : World} {B : Nat} (hB : B ≤ w.heap.size) (h : Below B a w) : Below B a (cvW w l) := Below.al (w := w.drew) hB (Below.trans h ⟨rfl, rfl, rfl, Nat.le_refl _, fun _ _ => rfl⟩)
theorem RowM.drewN {w : World} {B g cap n : Nat} {l : List UInt8} (h : RowM w B g cap l) : RowM (w.drewN n) B g cap l := ⟨h.low, h.lt, h.room, h.cells, h.is, h.fr⟩
theorem addr_add0 (g j : Nat) : (⟨g, 0, none⟩ : Addr).add j = ⟨g, j, none⟩ := by simp [Addr.add]; exact Eq.symm
theorem BytesIn.conv {w : World} {v : Value} {l : List UInt8} (h : BytesIn w v l) : (convert 42 9 v).run Tryz.prog w = .ok (.string (stB l)) w := by
  obtain ⟨g, c, rfl, hc⟩ := h
  exact run_convert_bytes_back (P := Tryz.prog) w 42 9 5 ⟨g, 0, none⟩ c l Tryz.underlying42 Tryz.underlying5 (by kernel_rfl) (fun j hj => by rw [addr_add0]; exact hc j hj)
theorem BytesIn.drewN {w : World} {v : Value} {l : List UInt8} (h : BytesIn w v l) (n : Nat) : BytesIn (w.drewN n) v l := h
/-- l02Put at a new row. -/
theorem l02Put_new (b x : UInt8) (z : List UInt8) (w0 wr : World) (hB : Below w0.heap.size w0 wr) (hx : L3 x) (hb : L3 b) (ht : (x == 83) = (b == 83)) (hl : z.length < 1000) (k k2 : Nat) :
    Calls Tryz.prog 32 #[.slice (some ⟨wr.heap.size, 0, none⟩) (z.length + 1) (cvCap (wr.drewN k) (z ++ [x])), .int .u8 (tI b)] ((cvW (wr.drewN k) (z ++ [x])).drewN k2) (GivesR (putL (z ++ [x]) b) w0) :=
  l02Put_row b x z wr.heap.size _ w0 _ (Below.drewN (cvW_below (z ++ [x]) (w := wr.drewN k) hB.size (Below.drewN hB))) (cvW_row (z ++ [x]) (wr.drewN k) hB.size).drewN hx hb ht hl
def strLen : Value → Nat
  | .string s => s.size
  | _ => 0
/-- What l04Cyclic gives. -/
def GivesY (m : M) (w : World) (e : Ending) (w' : World) : Prop := (∃ k, ChEnds m k ∧ ∃ r : ByteArray × Bool, ((l02R (chAll m k)).2 = false → r = (⟨#[]⟩, false)) ∧ ((l02R (chAll m k)).2 = true → ∃ c, CycI (freeL (chAll m k)) c ∧ r = (stB c, true)) ∧ e = .returned (.tuple #[.string r.1, .bool r.2])) ∧ Below w.heap.size w w'

set_option maxRecDepth 8000 in
set_option maxHeartbeats 4000000 in
theorem l04Cyclic_any (m : M) (w : World) (h : m.ok = true) (hg : ∀ k, ChEnds m k → Good (freeL (chAll m k))) :
    Calls Tryz.prog 17 #[.agg #[.int .i64 m.a, .int .i64 m.b, .int .i64 m.c, .int .i64 m.d]] w (GivesY m w) := by
  have HLF := Lib.hid (fun w' : World => l02Free_any m w' h)
  have HGD := Lib.hid hg
  clear h hg
  go_enter Tryz.func17, Tryz.ntmps17
  go_wp2_with fail
  refine (HLF.out _).mono ?_
  rintro e w2 ⟨⟨k, he, rfl⟩, hb⟩
  have k2 : Below w.heap.size w w2 := (by repeat (first | (with_reducible exact Below.refl _ _) | (with_reducible assumption) | (with_reducible refine Below.drew ?_) | (with_reducible refine Below.drewN ?_) | ((with_reducible refine Below.al ?_ ?_); · first | omega | (simp; done) | (simp; omega)) | ((with_reducible refine Below.sc ?_ ?_); · first | omega | (simp; done) | (simp; omega)) | ((with_reducible refine Below.thru hb ?_ ?_); · first | omega | (simp; done) | (simp; omega))))
  have HE := Lib.hid he
  have HG := Lib.hid (HGD.out k he)
  clear hb he HGD
  have HX : Hid (∀ r : ByteArray × Bool, ((l02R (chAll m k)).2 = false → r = (⟨#[]⟩, false)) → ((l02R (chAll m k)).2 = true → ∃ c, CycI (freeL (chAll m k)) c ∧ r = (stB c, true)) → ∀ w', Below w.heap.size w w' → GivesY m w (.returned (.tuple #[.string r.1, .bool r.2])) w') := Lib.hid (fun r h1 h2 w' hb => ⟨⟨k, HE.out, r, h1, h2, rfl⟩, hb⟩)
  generalize GivesY m w = GF at *
  have HL2 : Hid ((l02R (chAll m k)).2 = true → (l02R (chAll m k)).1 = stB (freeL (chAll m k)) ∧ (freeL (chAll m k)).length ≤ 200) := Lib.hid (fun h => by
    by_cases hs : 600 < sumA (chAll m k) (chAll m k).length
    · rw [l02R_big hs] at h; exact absurd h (by decide)
    · rw [l02R_ok hs] at h ⊢
      exact ⟨rfl, by simpa using h⟩)
  generalize l02R (chAll m k) = lr at *
  generalize freeL (chAll m k) = f at *
  obtain ⟨ls, lb⟩ := lr
  cases lb with
  | false =>
    have HX2 := Lib.hid (HX.out (⟨#[]⟩, false) (fun _ => rfl) (fun h => absurd h Bool.false_ne_true))
    clear HX HL2
    go_wp2
    exact HX2.out _ k2
  | true =>
    obtain ⟨hls, hfl⟩ := HL2.out rfl
    have HX2 : Hid (∀ c, CycI f c → ∀ w', Below w.heap.size w w' → GF (.returned (.tuple #[.string (stB c), .bool true])) w') := Lib.hid (fun c hc => HX.out (stB c, true) (fun h => Bool.noConfusion h) (fun _ => ⟨c, hc, rfl⟩))
    simp only at hls
    subst hls
    clear HX HL2
    go_upto_block 0 with fail
    go_cut [4] (fun v wx => ∃ l, v = .string (stB l) ∧ Hid (EndS3 f l ∧ Good l) ∧ l.length ≤ 200 ∧ Below w2.heap.size w2 wx)
    case first =>
      go_wp2_with fail
      go_loopw [4] (fun v wr => ∃ (n : Nat) (l : List UInt8), v = .string (stB l) ∧ Hid (l = runS n f) ∧ l.length ≤ 200 ∧ Below w2.heap.size w2 wr) (fun v _ => strLen v)
      case atStart => exact ⟨0, f, rfl, Lib.hid rfl, hfl, Below.refl _ _⟩
      case round =>
        obtain ⟨n, l, rfl, hl, hl2, kwr⟩ := hrel
        have HGL : Hid (Good l) := Lib.hid (by rw [hl.out]; exact (runs_both HG.out n).2.1)
        have h2 := HGL.out.two
        by_cases ho : l.length % 2 = 1
        · obtain ⟨x, m1, y, rfl, hm1, hxy, ha, lx, ly, lm⟩ := HGL.out.form ho
          have HRUN : Hid (putL (m1 ++ [y]) x = runS (n + 1) f) := Lib.hid (by
            show _ = if (runS n f).length % 2 = 1 then rdS (runS n f) else runS n f
            rw [← hl.out, if_pos ho, rdS_form])
          have HM : Hid (strLen (.string (stB (putL (m1 ++ [y]) x))) < strLen (.string (stB (x :: (m1 ++ [y])))) ∧ (putL (m1 ++ [y]) x).length ≤ 200) := Lib.hid (by
            have h5 := (HGL.out.rdS ho).2
            rw [rdS_form] at h5
            show (stB _).size < (stB _).size ∧ _
            rw [stB_size, stB_size]
            exact ⟨h5, by omega⟩)
          simp only [List.length_cons, List.length_append, List.length_nil] at hl2
          have HC := Lib.hid (l02Put_new x y m1 w2 wr kwr ly lx hxy.symm (by omega))
          have hbx : (tI x == 83) = (y == 83) := by rw [beq_tI, hxy]
          have hby : (tI y == 83) = (y == 83) := beq_tI y
          have i0 : ∀ w_ : World, (Instr.index 9 (.string (stB (x :: (m1 ++ [y])))) (.int .i64 0)).run Tryz.prog w_ = .ok (.int .u8 (tI x)) w_ := fun w_ => stB_first x (m1 ++ [y]) w_
          have iN : ∀ w_ : World, (Instr.index 9 (.string (stB (x :: (m1 ++ [y])))) (.int .i64 ((m1.length : Int) + 1))).run Tryz.prog w_ = .ok (.int .u8 (tI y)) w_ := fun w_ => stB_last x m1 y w_
          have hsz : ((stB (x :: (m1 ++ [y]))).size : Int) = (m1.length : Int) + 2 := by rw [stB_size]; simp; omega
          have hgt : (1 : Int) < (m1.length : Int) + 2 := by omega
          have hge : (1 : Int) ≤ (m1.length : Int) + 2 := by omega
          have hwr : IntKind.i64.wrap ((m1.length : Int) + 2 - 1) = (m1.length : Int) + 1 := by rw [IntKind.wrap_i64]; omega
          have hex : (stB (x :: (m1 ++ [y]))).extract 1 (stB (x :: (m1 ++ [y]))).size = stB (m1 ++ [y]) := stB_from _ 1
          generalize (y == 83) = bt at *
          generalize stB (x :: (m1 ++ [y])) = sw at *
          have hcv : ∀ w_ : World, (convert 9 42 (.string (stB (m1 ++ [y])))).run Tryz.prog w_ = .ok (.slice (some ⟨w_.heap.size, 0, none⟩) (m1.length + 1) (cvCap w_ (m1 ++ [y]))) (cvW w_ (m1 ++ [y])) := fun w_ => by
            have := cv_run (m1 ++ [y]) w_
            rw [List.length_append] at this
            exact this
          have swr := kwr.size
          go_wp2_with fail
          go_quiet (fail)
          go_wp2_with fail
          clear hl HGL
          clear ly lx hm1 ha lm swr
          generalize putL (m1 ++ [y]) x = l5 at *
          generalize stB (m1 ++ [y]) = s5 at *
          generalize m1 ++ [y] = l4 at *
          generalize tI x = xi at *
          generalize tI y = yi at *
          go_region_law (first | (go_simp; go_at_call 32; refine Calls.mono (HC.out _ 0) ?_; rintro e w5 ⟨v, rfl, hB5, hb5⟩; have hcv2 := hB5.conv; dsimp only) | (go_simp; go_at_call 32; refine Calls.mono (HC.out _ _) ?_; rintro e w5 ⟨v, rfl, hB5, hb5⟩; have hcv2 := hB5.conv; dsimp only))
          all_goals simp only [List.getElem_toArray, List.getElem_cons_succ, List.getElem_cons_zero, Act.put, List.setIfInBounds_toArray, List.set_cons_zero, List.set_cons_succ]
          all_goals go_wp2_with fail
          all_goals go_roundw
          all_goals first | exact HM.out.1 | exact ⟨n + 1, l5, rfl, HRUN, HM.out.2, hb5⟩
        · obtain ⟨x, m1, y, rfl, hxy, -, -⟩ := HGL.out.even (by omega)
          have HEND : Hid (EndS3 f (x :: (m1 ++ [y])) ∧ Good (x :: (m1 ++ [y]))) := Lib.hid ⟨⟨⟨n, hl.out.symm⟩, by omega⟩, HGL.out⟩
          simp only [List.length_cons, List.length_append, List.length_nil] at hl2
          have hbx : (tI x == 83) = (x == 83) := beq_tI x
          have hby : (tI y == 83) = !(x == 83) := by rw [beq_tI, hxy]
          have i0 : ∀ w_ : World, (Instr.index 9 (.string (stB (x :: (m1 ++ [y])))) (.int .i64 0)).run Tryz.prog w_ = .ok (.int .u8 (tI x)) w_ := fun w_ => stB_first x (m1 ++ [y]) w_
          have iN : ∀ w_ : World, (Instr.index 9 (.string (stB (x :: (m1 ++ [y])))) (.int .i64 ((m1.length : Int) + 1))).run Tryz.prog w_ = .ok (.int .u8 (tI y)) w_ := fun w_ => stB_last x m1 y w_
          have hsz : ((stB (x :: (m1 ++ [y]))).size : Int) = (m1.length : Int) + 2 := by rw [stB_size]; simp; omega
          have hgt : (1 : Int) < (m1.length : Int) + 2 := by omega
          have hge : (1 : Int) ≤ (m1.length : Int) + 2 := by omega
          have hwr : IntKind.i64.wrap ((m1.length : Int) + 2 - 1) = (m1.length : Int) + 1 := by rw [IntKind.wrap_i64]; omega
          have hne : ((x == 83) == !(x == 83)) = false := by cases (x == 83) <;> rfl
          have hl3 : (x :: (m1 ++ [y])).length ≤ 200 := by simp; omega
          have HL3 := Lib.hid hl3
          clear hl HGL hxy ho h2 hl3
          generalize (x == 83) = bt at *
          generalize hbn : (!bt) = bn at *
          clear hbn
          generalize x :: (m1 ++ [y]) = l6 at *
          generalize hsw : stB l6 = sw at *
          replace hsw := Lib.hid hsw
          go_wp2_with fail
          go_quiet (fail)
          go_wp2_with fail
          go_meet
          exact ⟨l6, by rw [hsw.out], HEND, HL3.out, Below.drewN kwr⟩
    case rest =>
      obtain ⟨l, rfl, hl, hl2, k3⟩ := hcut
      have HE := Lib.hid hl.out.1
      have HGL := Lib.hid hl.out.2
      obtain ⟨x, m1, y, rfl, hxy, hf0, hf1⟩ := hl.out.2.even hl.out.1.2
      have HL2 := Lib.hid hl2
      simp only [List.length_cons, List.length_append, List.length_nil] at hl2
      have hbx : (tI x == 83) = (x == 83) := beq_tI x
      have i0 : ∀ w_ : World, (Instr.index 9 (.string (stB (x :: (m1 ++ [y])))) (.int .i64 0)).run Tryz.prog w_ = .ok (.int .u8 (tI x)) w_ := fun w_ => stB_first x (m1 ++ [y]) w_
      have hsz : ((stB (x :: (m1 ++ [y]))).size : Int) = (m1.length : Int) + 2 := by rw [stB_size]; simp; omega
      have hge : (1 : Int) ≤ (m1.length : Int) + 2 := by omega
      go_upto_if 39 with fail
      go_cut [4] (fun v wx => ∃ p, v = .string (stB p) ∧ Hid (altB false p ∧ p.length % 2 = 0 ∧ 0 < p.length ∧ p.length ≤ 200 ∧ ltr p = ltr (x :: (m1 ++ [y]))) ∧ Below w2.heap.size w2 wx)
      case first =>
        by_cases hx : x = 83
        · have hx' : (x == 83) = true := by rw [hx]; rfl
          have HP : Hid (altB false ((m1 ++ [y]) ++ [x]) ∧ ((m1 ++ [y]) ++ [x]).length % 2 = 0 ∧ 0 < ((m1 ++ [y]) ++ [x]).length ∧ ((m1 ++ [y]) ++ [x]).length ≤ 200 ∧ ltr ((m1 ++ [y]) ++ [x]) = ltr (x :: (m1 ++ [y]))) := Lib.hid (by
            have h0 := HE.out.2
            simp only [List.length_cons, List.length_append, List.length_nil] at h0 ⊢
            exact ⟨hf1 hx', by omega, by omega, by omega, ltr_turn hx⟩)
          rw [hx']
          clear hbx hf0 hf1 hx hx' hxy
          have e1 : (stB (x :: (m1 ++ [y]))).extract 1 (stB (x :: (m1 ++ [y]))).size = stB (m1 ++ [y]) := stB_from _ 1
          have e2 : (stB (x :: (m1 ++ [y]))).extract 0 1 = stB [x] := stB_to _ 1
          have e3 : ∀ w_ : World, (Op.stringOp .add (stB (m1 ++ [y])) (stB [x])).run Tryz.prog w_ = .ok (.string (stB ((m1 ++ [y]) ++ [x]))) w_ := stB_add _ _ (by simp; omega)
          generalize (m1 ++ [y]) ++ [x] = p6 at *
          generalize ltr (x :: (m1 ++ [y])) = L6 at *
          clear HL2 hl
          generalize stB (x :: (m1 ++ [y])) = sw at *
          generalize stB (m1 ++ [y]) = sa at *
          generalize stB [x] = sb at *
          go_wp2
          go_quiet (fail)
          go_wp2
          go_meet
          exact ⟨p6, rfl, HP, Below.drewN k3⟩
        · have hx' : (x == 83) = false := beq_eq_false_iff_ne.2 hx
          have HP : Hid (altB false (x :: (m1 ++ [y])) ∧ (x :: (m1 ++ [y])).length % 2 = 0 ∧ 0 < (x :: (m1 ++ [y])).length ∧ (x :: (m1 ++ [y])).length ≤ 200 ∧ ltr (x :: (m1 ++ [y])) = ltr (x :: (m1 ++ [y]))) := Lib.hid ⟨hf0 hx', HE.out.2, by simp, HL2.out, rfl⟩
          rw [hx']
          clear hbx hf0 hf1 hx hx' hxy
          go_wp2
          go_meet
          exact ⟨x :: (m1 ++ [y]), rfl, Lib.hid ⟨HP.out.1, HP.out.2.1, HP.out.2.2.1, HP.out.2.2.2.1, rfl⟩, k3⟩
      case rest =>
        obtain ⟨p6, rfl, hp6, k6⟩ := hcut
        clear HL2 hl i0 hbx hsz hge hf0 hf1 hxy k3
        have HCY : Hid (∀ r, Least (ltr p6) r → CycI f r) := Lib.hid (fun r hr => CycI.ofS HG.out HE.out (by rw [← hp6.out.2.2.2.2]; exact hr))
        generalize x :: (m1 ++ [y]) = l6 at *
        obtain ⟨n6, hn6⟩ : ∃ n, p6.length = 2 * n := ⟨p6.length / 2, by have := hp6.out.2.1; omega⟩
        have hn0 : 0 < n6 := by have := hp6.out.2.2.1; omega
        have hn1 : n6 ≤ 100 := by have := hp6.out.2.2.2.1; omega
        have hsz : ((stB p6).size : Int) = 2 * (n6 : Int) := by rw [stB_size, hn6]; omega
        replace hn6 := Lib.hid hn6
        go_wp2_with fail
        go_loopw [6, 7] (fun o i wr => ∃ k : Nat, k ≤ n6 ∧ i = .int .i64 (2 * (k : Int)) ∧ o = .string (stB (ltr (p6.take (2 * k)))) ∧ Below w2.heap.size w2 wr) (fun _ i _ => 2 * n6 - (intOf i).toNat)
        case atStart => exact ⟨0, Nat.zero_le _, rfl, rfl, k6⟩
        case round =>
          obtain ⟨k7, hk7, rfl, rfl, kwr⟩ := hrel
          by_cases hlt : k7 < n6
          · have hj : 2 * k7 < p6.length := by rw [hn6.out]; omega
            have i0 : (0 : Int) ≤ 2 * (k7 : Int) := by omega
            have i1 : 2 * (k7 : Int) < 2 * (n6 : Int) := by omega
            have iK : ∀ w_ : World, (Instr.index 9 (.string (stB p6)) (.int .i64 (2 * (k7 : Int)))).run Tryz.prog w_ = .ok (.int .u8 (tI p6[2 * k7])) w_ := fun w_ => by
              have := stB_at p6 (2 * k7) hj w_
              rw [show ((2 * k7 : Nat) : Int) = 2 * (k7 : Int) by omega] at this
              exact this
            have hwr : IntKind.i64.wrap (2 * (k7 : Int) + 2) = 2 * ((k7 + 1 : Nat) : Int) := by rw [IntKind.wrap_i64]; omega
            have HLS := Lib.hid (ltr_step hp6.out.1 hp6.out.2.1 k7 hj)
            have hll := ltr_len hp6.out.1 hp6.out.2.1 k7 (by omega)
            have hcb : (tI p6[2 * k7] == 85) = (p6[2 * k7] == 85) := by
              rw [Bool.eq_iff_iff, beq_iff_eq, beq_iff_eq]
              exact tI_inj (b := 85)
            have eT : (⟨#[84]⟩ : ByteArray) = stB [84] := rfl
            have eL : (⟨#[76]⟩ : ByteArray) = stB [76] := rfl
            have aT := fun w_ => stB_add (ltr (p6.take (2 * k7))) [84] (by rw [hll]; simp; omega) w_
            have aL := fun w_ => stB_add (ltr (p6.take (2 * k7))) [76] (by rw [hll]; simp; omega) w_
            rw [← eT] at aT
            rw [← eL] at aL
            clear eT eL
            by_cases hc : p6[2 * k7] = 85
            · have hc' : (p6[2 * k7] == 85) = true := by rw [hc]; rfl
              have HL8 : Hid (ltr (p6.take (2 * k7)) ++ [84] = ltr (p6.take (2 * (k7 + 1)))) := Lib.hid (by
                rw [show 2 * (k7 + 1) = 2 * k7 + 2 by omega, HLS.out, if_pos hc])
              rw [hc'] at hcb
              clear hll hc hc'
              generalize ltr (p6.take (2 * k7)) = la at *
              generalize la ++ [84] = lb8 at *
              generalize tI p6[2 * k7] = ci at *
              go_wp2
              go_roundw
              case rel => exact ⟨k7 + 1, by omega, by go_num, by rw [HL8.out], kwr⟩
              case measure => simp [intOf]; omega
            · have hc' : (p6[2 * k7] == 85) = false := beq_eq_false_iff_ne.2 hc
              have HL8 : Hid (ltr (p6.take (2 * k7)) ++ [76] = ltr (p6.take (2 * (k7 + 1)))) := Lib.hid (by
                rw [show 2 * (k7 + 1) = 2 * k7 + 2 by omega, HLS.out, if_neg hc])
              rw [hc'] at hcb
              clear hll hc hc'
              generalize ltr (p6.take (2 * k7)) = la at *
              generalize la ++ [76] = lb8 at *
              generalize tI p6[2 * k7] = ci at *
              go_wp2
              go_roundw
              case rel => exact ⟨k7 + 1, by omega, by go_num, by rw [HL8.out], kwr⟩
              case measure => simp [intOf]; omega
          · obtain rfl : k7 = n6 := by omega
            have hfull : p6.take (2 * k7) = p6 := List.take_of_length_le (by rw [hn6.out]; exact Nat.le_refl _)
            have hll := ltr_len hp6.out.1 hp6.out.2.1 k7 (by rw [hn6.out]; exact Nat.le_refl _)
            rw [hfull] at hll ⊢
            have swr := kwr.size
            have HT := Lib.hid (fun w_ => l04Least_any (ltr p6) w_ (by omega) (by omega))
            have kf : Below w.heap.size w wr := Below.thru kwr (by have := k2.size; omega) k2
            have HCX : Hid (∀ r, Least (ltr p6) r → ∀ w', Below w.heap.size w w' → GF (.returned (.tuple #[.string (stB r), .bool true])) w') := Lib.hid (fun r hr => HX2.out r (HCY.out r hr))
            clear hll HX2 HCY
            generalize ltr p6 = lf at *
            go_wp2_with fail
            refine (HT.out _).mono ?_
            rintro e w9 ⟨⟨r, hr, rfl⟩, hb⟩
            have k9 : Below w.heap.size w w9 := Below.thru hb kf.size kf
            have HR := Lib.hid (HCX.out r hr)
            clear hb hr HCX kf HT
            go_wp2
            exact HR.out _ k9

end Go.Proofs.YtfjmbpbilfhfbaaGreat
