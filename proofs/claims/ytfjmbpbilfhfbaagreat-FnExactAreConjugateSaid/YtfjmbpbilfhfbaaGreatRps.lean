/- strings.Replacer: what it makes of a free word. -/
import Derived.Test.YtfjmbpbilfhfbaaGreatRpl
import Derived.Lib.Bytealg
import Derived.Laws.Externs
import Derived.Laws.CopyOwn
namespace Go.Proofs.YtfjmbpbilfhfbaaGreat
open Go.RowKit
set_option linter.unusedSimpArgs false

set_option maxRecDepth 100000 in
set_option maxHeartbeats 1000000 in
theorem count_any (l : List UInt8) (b : UInt8) (w : World) :
    Calls Tryz.prog 127 #[.string (stB l), .string ⟨#[b]⟩] w fun e w' => e = .returned (.int .i64 ((l.count b : Nat) : Int)) ∧ w = w' := by
  have hsz : (({ data := #[b] } : ByteArray).size : Int) = 1 := rfl
  have hix := ix_run b
  have i1 : ((({ data := #[b] } : ByteArray)[0]'(Nat.zero_lt_one)).toNat : Int) = tI b := rfl
  have hc := fun w_ : World => Lib.run_countString (P := Tryz.prog) (stB l) (tI b) w_
  have e0 : (tI b).toNat.toUInt8 = b := by unfold tI; simp
  have e1 : (stB l).data.toList = l := rfl
  rw [e0, e1] at hc
  unfold Lib.countByte at hc
  clear e0 e1
  generalize tI b = bi at *
  go_enter Tryz.func127, Tryz.ntmps127
  go_wp2
  rw [run_callFunc_extern Tryz.func129 (by kernel_rfl) (by kernel_rfl) (by kernel_rfl) (e := Extern.BytealgCount.count) (by kernel_rfl), hc]
  simp only [Result.andThen]
  rw [Oper.upon_value]
  go_wp2
  go_ret
  exact ⟨rfl, rfl⟩

/-- How often the first k of the letters V, U, S stand in a word. -/
def cntTo (l : List UInt8) : Nat → Nat
  | 0 => 0
  | 1 => l.count 86
  | 2 => l.count 86 + l.count 85
  | _ => l.count 86 + l.count 85 + l.count 83
theorem cnt_all {l : List UInt8} (h : Let3 l) : cntTo l 3 = l.length := by
  show l.count 86 + l.count 85 + l.count 83 = l.length
  induction l with
  | nil => rfl
  | cons x l ih =>
    have := ih h.tail
    rw [List.count_cons, List.count_cons, List.count_cons, List.length_cons]
    rcases h.head with rfl | rfl | rfl <;> simp <;> omega
theorem ltr_cnt (l : List UInt8) : (ltr l).length + l.count 83 = l.length := by
  induction l with
  | nil => rfl
  | cons x l ih =>
    rw [show x :: l = [x] ++ l from rfl, ltr_app, List.length_append, List.count_append, List.length_append]
    by_cases hx : x = 83
    · subst hx
      rw [ltr_S]
      simp
      omega
    · rw [ltr_one hx, List.count_eq_zero.2 (by simpa using Ne.symm hx)]
      simp
      omega

/-- The length behind the first k of the three letters. -/
def szTo (l : List UInt8) : Nat → Int
  | 3 => (l.length : Int) - (l.count 83 : Nat)
  | _ => (l.length : Int)
def anyTo (l : List UInt8) (k : Nat) : Bool := decide (0 < cntTo l k)
def szAt (l : List UInt8) (k : Nat) : Int := (l.length : Int) - ((l.take k).count 83 : Nat)
theorem szAt_S {l : List UInt8} {k : Nat} (hk : k < l.length) (e : l[k] = 83) : szAt l (k + 1) = szAt l k - 1 := by
  unfold szAt
  rw [List.take_succ_eq_append_getElem hk, List.count_append, e]
  simp
  omega
theorem szAt_N {l : List UInt8} {k : Nat} (hk : k < l.length) (e : l[k] ≠ 83) : szAt l (k + 1) = szAt l k := by
  unfold szAt
  have h0 : List.count 83 [l[k]] = 0 := List.count_eq_zero.2 (by simpa using Ne.symm e)
  rw [List.take_succ_eq_append_getElem hk, List.count_append, h0, Nat.add_zero]
theorem szAt_bd (l : List UInt8) (k : Nat) : 0 ≤ szAt l k ∧ szAt l k ≤ l.length := by
  have h1 := List.count_le_length (a := (83 : UInt8)) (l := l.take k)
  have h2 := List.length_take (i := k) (l := l)
  unfold szAt
  omega

theorem mk_bytes (n : Nat) (hn : n ≤ 1000) (w : World) : (Instr.makeSlice 42 (.int .i64 (n : Int)) (.int .i64 (n : Int))).run Tryz.prog w = .ok (.slice (some ⟨w.heap.size, 0, none⟩) n n) (w.alloc (.cells (Array.replicate n (.int .u8 0)) 5)) := by
  have h : (Tryz.prog.info? 5).map (fun i => (i.zero, i.size, i.bytes)) = some (some (.int .u8 0), 1, 1) := by kernel_rfl
  obtain ⟨i, hi, hzz⟩ := Option.map_eq_some_iff.1 h
  simp only [Prod.mk.injEq] at hzz
  obtain ⟨hz, hs, hb⟩ := hzz
  have hr := run_make (P := Tryz.prog) w 42 5 i (.int .u8 0) Tryz.underlying42 hi hz .i64 .i64 n n (by omega) (by omega) (by rw [hb]; omega) (by omega)
  rw [hs, Int.toNat_natCast, Nat.mul_one] at hr
  have e : madeCells (Value.int .u8 0).cells n = Array.replicate n (.int .u8 0) := by
    apply Array.ext
    · rw [size_madeCells, Array.size_replicate]
    · intro j h1 h2
      simp [madeCells, Value.cells, Nat.mod_one]
  rw [e] at hr
  exact hr

/-- The first cells of a row are these bytes. -/
def Pre (cur : List Value) (m : List UInt8) : Prop := ∀ j (hj : j < m.length), cur[j]? = some (.int .u8 (tI m[j]))
theorem Pre.nil (cur : List Value) : Pre cur [] := fun _ hj => absurd hj (Nat.not_lt_zero _)
theorem splice_nil (cur : List Value) (off : Nat) : splice cur off [] = cur := by simp [splice]
theorem Pre.snoc {cur : List Value} {m : List UInt8} (b : UInt8) (h : Pre cur m) (hl : m.length < cur.length) : Pre (splice cur m.length [.int .u8 (tI b)]) (m ++ [b]) := fun j hj => by
  rw [List.length_append, List.length_singleton] at hj
  unfold splice
  by_cases e : j < m.length
  · rw [List.getElem?_append_left (by rw [List.length_take]; omega), List.getElem?_take_of_lt e, List.getElem_append_left e]
    exact h j e
  · obtain rfl : j = m.length := by omega
    rw [List.getElem?_append_right (by rw [List.length_take]; omega), List.length_take, Nat.min_eq_left (by omega), Nat.sub_self, List.getElem_append_right (Nat.le_refl _)]
    simp
theorem ltr_take {l : List UInt8} {k : Nat} (hk : k < l.length) : ltr (l.take (k + 1)) = ltr (l.take k) ++ ltr [l[k]] := by
  rw [List.take_succ_eq_append_getElem hk, ltr_app]
theorem ltr_take_le (l : List UInt8) (k : Nat) : (ltr (l.take k)).length ≤ (ltr l).length := by
  have : ltr l = ltr (l.take k) ++ ltr (l.drop k) := by rw [← ltr_app, List.take_append_drop]
  rw [this, List.length_append]
  omega
/-- What Replace gives. -/
def GivesZ (l : List UInt8) (w : World) (e : Ending) (w' : World) : Prop := e = .returned (.string (stB (ltr l))) ∧ Below w.heap.size w w'

set_option maxRecDepth 100000 in
set_option maxHeartbeats 4000000 in
theorem bsr_any (r : Nat) (l : List UInt8) (w : World) (hR : Rep w r) (hl : Let3 l) (h0 : 0 < l.length) (hm : l.length ≤ 200) :
    Calls Tryz.prog 125 #[.pointer (some ⟨r, 0, none⟩), .string (stB l)] w (GivesZ l w) := by
  have HRP := Lib.hid hR
  obtain ⟨cs, tr, gs, a, b, c, n, h1, h2, h3, h4, h5, h6, h7⟩ := hR
  have q256 := h1.at h2.h256
  have q83 := h1.at h2.h83
  have q85 := h1.at h2.h85
  have q86 := h1.at h2.h86
  have t0 : w.cell? ⟨gs, 0, none⟩ = some (.string ⟨#[86]⟩) := h3.at (by have := congrArg (fun x => x[0]?) h4; simpa using this)
  have t1 : w.cell? ⟨gs, 1, none⟩ = some (.string ⟨#[85]⟩) := h3.at (by have := congrArg (fun x => x[1]?) h4; simpa using this)
  have t2 : w.cell? ⟨gs, 2, none⟩ = some (.string ⟨#[83]⟩) := h3.at (by have := congrArg (fun x => x[2]?) h4; simpa using this)
  obtain ⟨ga, ca, csa, fra, rfl, a1, -⟩ := h5
  obtain ⟨gb, cb, csb, frb, rfl, b1, b2⟩ := h6
  obtain ⟨gc, cc, csc, frc, rfl, c1, c2⟩ := h7
  have hsz : ((stB l).size : Int) = (l.length : Int) := by rw [stB_size]
  have HLT := ltr_cnt l
  have HC3 := Lib.hid (cnt_all hl)
  have HL := Lib.hid hl
  have HB := Lib.hid b1
  have HCC := Lib.hid c1
  have HA := Lib.hid a1
  have HB2 := Lib.hid (b2 0 (by decide))
  have HC2 := Lib.hid (c2 0 (by decide))
  have H4 := Lib.hid h4
  have H1 := Lib.hid h1
  have H2 := Lib.hid h2
  have H3 := Lib.hid h3
  clear h1 h2 h3 h4 a1 b1 c1 b2 c2 hl
  simp only [List.length_cons, List.length_nil, Nat.zero_add] at q83 q85 q86 H2
  go_enter Tryz.func125, Tryz.ntmps125
  go_upto_if 26 with fail
  go_cut [5, 6] (fun v u wx => v = .int .i64 ((ltr l).length : Int) ∧ u = .bool true ∧ Below w.heap.size w wx)
  case first =>
    by_cases h24 : 24 ≤ l.length
    · have e24 : decide ((24 : Int) ≤ (l.length : Int)) = true := decide_eq_true (by omega)
      rw [e24]
      clear e24
      go_wp2_with fail
      go_loopw [5, 6, 32] (fun v u i wr => ∃ k n : Nat, k ≤ 3 ∧ i = .int .i64 (k : Int) ∧ v = .int .i64 (szTo l k) ∧ u = .bool (anyTo l k) ∧ wr = w.drewN n) (fun _ _ i _ => 3 - (intOf i).toNat)
      case atStart => exact ⟨0, 0, by omega, rfl, rfl, rfl, rfl⟩
      case round =>
        obtain ⟨k, nd, hk, rfl, rfl, rfl, rfl⟩ := hrel
        rcases (show k = 0 ∨ k = 1 ∨ k = 2 ∨ k = 3 by omega) with rfl | rfl | rfl | rfl
        · have hz0 : szTo l 0 = (l.length : Int) := rfl
          have HZ1 : Hid (szTo l 1 = (l.length : Int)) := Lib.hid rfl
          have hle := List.count_le_length (a := (86 : UInt8)) (l := l)
          have HCN : Hid (cntTo l 1 = cntTo l 0 + l.count 86) := Lib.hid (by simp [cntTo])
          have i1 : ((({ data := #[86] } : ByteArray)[0]'(by decide)).toNat : Int) = 86 := by decide
          have x1 : ∀ w_ : World, (Instr.index 9 (.string ⟨#[86]⟩) (.int .i64 0)).run Tryz.prog w_ = .ok (.int .u8 86) w_ := ix_run 86
          rw [hz0]
          clear hz0
          have HCT := Lib.hid (count_any l 86)
          by_cases hc0 : l.count 86 = 0
          · have HAN : Hid (anyTo l 0 = anyTo l 1) := Lib.hid (by unfold anyTo; rw [HCN.out, hc0, Nat.add_zero])
            have HZ2 : Hid ((l.length : Int) = szTo l 1) := Lib.hid (by rw [HZ1.out])
            generalize anyTo l 0 = u0 at *
            go_wp2_with fail
            refine (HCT.out _).mono ?_
            rintro e w5 ⟨rfl, rfl⟩
            rw [hc0]
            clear HCT hc0 hle
            go_wp2
            go_roundw
            case rel => exact ⟨1, _, by omega, by go_num, by rw [HZ2.out], by rw [HAN.out], rfl⟩
            case measure => simp [intOf]
          · have HAN : Hid (true = anyTo l 1) := Lib.hid (by unfold anyTo; rw [HCN.out]; exact (decide_eq_true (by omega)).symm)
            have hcb : (((l.count 86 : Nat) : Int) != 0) = true := by rw [bne_iff_ne]; omega
            have y1 : IntKind.i64.wrap (((l.count 86 : Nat) : Int) * 0) = 0 := by rw [Int.mul_zero]; decide
            have y3 : IntKind.i64.wrap ((l.length : Int) + 0) = (l.length : Int) := by rw [IntKind.wrap_i64]; omega
            have y4 : IntKind.i64.wrap (l.length : Int) = (l.length : Int) := by rw [IntKind.wrap_i64]; omega
            generalize anyTo l 0 = u0 at *
            go_wp2_with fail
            refine (HCT.out _).mono ?_
            rintro e w5 ⟨rfl, rfl⟩
            clear HCT hc0
            go_wp2_with fail
            go_quiet (fail)
            go_wp2
            go_roundw
            case rel => exact ⟨1, nd + nq, by omega, by go_num, by rw [HZ1.out], by rw [← HAN.out], rfl⟩
            case measure => simp [intOf]
        · have hz0 : szTo l 1 = (l.length : Int) := rfl
          have HZ1 : Hid (szTo l 2 = (l.length : Int)) := Lib.hid rfl
          have hle := List.count_le_length (a := (85 : UInt8)) (l := l)
          have HCN : Hid (cntTo l 2 = cntTo l 1 + l.count 85) := Lib.hid (by simp [cntTo])
          have i1 : ((({ data := #[85] } : ByteArray)[0]'(by decide)).toNat : Int) = 85 := by decide
          have x1 : ∀ w_ : World, (Instr.index 9 (.string ⟨#[85]⟩) (.int .i64 0)).run Tryz.prog w_ = .ok (.int .u8 85) w_ := ix_run 85
          rw [hz0]
          clear hz0
          have HCT := Lib.hid (count_any l 85)
          by_cases hc0 : l.count 85 = 0
          · have HAN : Hid (anyTo l 1 = anyTo l 2) := Lib.hid (by unfold anyTo; rw [HCN.out, hc0, Nat.add_zero])
            have HZ2 : Hid ((l.length : Int) = szTo l 2) := Lib.hid (by rw [HZ1.out])
            generalize anyTo l 1 = u0 at *
            go_wp2_with fail
            refine (HCT.out _).mono ?_
            rintro e w5 ⟨rfl, rfl⟩
            rw [hc0]
            clear HCT hc0 hle
            go_wp2
            go_roundw
            case rel => exact ⟨2, _, by omega, by go_num, by rw [HZ2.out], by rw [HAN.out], rfl⟩
            case measure => simp [intOf]
          · have HAN : Hid (true = anyTo l 2) := Lib.hid (by unfold anyTo; rw [HCN.out]; exact (decide_eq_true (by omega)).symm)
            have hcb : (((l.count 85 : Nat) : Int) != 0) = true := by rw [bne_iff_ne]; omega
            have y1 : IntKind.i64.wrap (((l.count 85 : Nat) : Int) * 0) = 0 := by rw [Int.mul_zero]; decide
            have y3 : IntKind.i64.wrap ((l.length : Int) + 0) = (l.length : Int) := by rw [IntKind.wrap_i64]; omega
            have y4 : IntKind.i64.wrap (l.length : Int) = (l.length : Int) := by rw [IntKind.wrap_i64]; omega
            generalize anyTo l 1 = u0 at *
            go_wp2_with fail
            refine (HCT.out _).mono ?_
            rintro e w5 ⟨rfl, rfl⟩
            clear HCT hc0
            go_wp2_with fail
            go_quiet (fail)
            go_wp2
            go_roundw
            case rel => exact ⟨2, nd + nq, by omega, by go_num, by rw [HZ1.out], by rw [← HAN.out], rfl⟩
            case measure => simp [intOf]
        · have hz0 : szTo l 2 = (l.length : Int) := rfl
          have HZ1 : Hid (szTo l 3 = (l.length : Int) - (l.count 83 : Nat)) := Lib.hid rfl
          have hle := List.count_le_length (a := (83 : UInt8)) (l := l)
          have HCN : Hid (cntTo l 3 = cntTo l 2 + l.count 83) := Lib.hid (by simp [cntTo])
          have i1 : ((({ data := #[83] } : ByteArray)[0]'(by decide)).toNat : Int) = 83 := by decide
          have x1 : ∀ w_ : World, (Instr.index 9 (.string ⟨#[83]⟩) (.int .i64 0)).run Tryz.prog w_ = .ok (.int .u8 83) w_ := ix_run 83
          rw [hz0]
          clear hz0
          have HCT := Lib.hid (count_any l 83)
          by_cases hc0 : l.count 83 = 0
          · have HAN : Hid (anyTo l 2 = anyTo l 3) := Lib.hid (by unfold anyTo; rw [HCN.out, hc0, Nat.add_zero])
            have HZ2 : Hid ((l.length : Int) = szTo l 3) := Lib.hid (by rw [HZ1.out]; omega)
            generalize anyTo l 2 = u0 at *
            go_wp2_with fail
            refine (HCT.out _).mono ?_
            rintro e w5 ⟨rfl, rfl⟩
            rw [hc0]
            clear HCT hc0 hle
            go_wp2
            go_roundw
            case rel => exact ⟨3, _, by omega, by go_num, by rw [HZ2.out], by rw [HAN.out], rfl⟩
            case measure => simp [intOf]
          · have HAN : Hid (true = anyTo l 3) := Lib.hid (by unfold anyTo; rw [HCN.out]; exact (decide_eq_true (by omega)).symm)
            have hcb : (((l.count 83 : Nat) : Int) != 0) = true := by rw [bne_iff_ne]; omega
            have y1 : IntKind.i64.wrap (((l.count 83 : Nat) : Int) * -1) = -((l.count 83 : Nat) : Int) := by rw [IntKind.wrap_i64]; omega
            have y3 : IntKind.i64.wrap ((l.length : Int) + -((l.count 83 : Nat) : Int)) = (l.length : Int) - (l.count 83 : Nat) := by rw [IntKind.wrap_i64]; omega
            generalize anyTo l 2 = u0 at *
            go_wp2_with fail
            refine (HCT.out _).mono ?_
            rintro e w5 ⟨rfl, rfl⟩
            clear HCT hc0
            go_wp2_with fail
            go_quiet (fail)
            go_wp2
            go_roundw
            case rel => exact ⟨3, nd + nq, by omega, by go_num, by rw [HZ1.out], by rw [← HAN.out], rfl⟩
            case measure => simp [intOf]
        · have HZ : Hid (szTo l 3 = ((ltr l).length : Int)) := Lib.hid (by show (l.length : Int) - (l.count 83 : Nat) = _; omega)
          have HAN : Hid (anyTo l 3 = true) := Lib.hid (by unfold anyTo; rw [HC3.out]; exact decide_eq_true h0)
          have hb : Below w.heap.size w (w.drewN nd) := Below.drewN (Below.refl _ _)
          go_wp2_with fail
          go_meet
          exact ⟨by rw [HZ.out], by rw [HAN.out], hb⟩
    · have e24 : decide ((24 : Int) ≤ (l.length : Int)) = false := decide_eq_false (by omega)
      rw [e24]
      clear e24
      go_wp2_with fail
      go_loopw [5, 6, 10] (fun v u i wr => ∃ k n : Nat, k ≤ l.length ∧ i = .int .i64 (k : Int) ∧ v = .int .i64 (szAt l k) ∧ u = .bool (decide (0 < k)) ∧ wr = w.drewN n) (fun _ _ i _ => l.length - (intOf i).toNat)
      case atStart => exact ⟨0, 0, by omega, rfl, by show Value.int .i64 (l.length : Int) = .int .i64 ((l.length : Int) - 0); rw [Int.sub_zero], rfl, rfl⟩
      case round =>
        obtain ⟨k, nd, hk, rfl, rfl, rfl, rfl⟩ := hrel
        by_cases hlt : k < l.length
        · have i0 : (0 : Int) ≤ (k : Int) := by omega
          have i1 : (k : Int) < (l.length : Int) := by omega
          have iK := stB_at l k hlt
          have hbd := szAt_bd l k
          have HT : Hid (decide (0 < k + 1) = true) := Lib.hid (decide_eq_true (by omega))
          have HAS := Lib.hid (fun e => szAt_S (l := l) hlt e)
          have HAN := Lib.hid (fun e => szAt_N (l := l) hlt e)
          rcases HL.out l[k] (List.getElem_mem hlt) with e | e | e
          · have HZ := Lib.hid (HAS.out e)
            rw [e] at iK
            replace iK : ∀ w_ : World, (Instr.index 9 (.string (stB l)) (.int .i64 (k : Int))).run Tryz.prog w_ = .ok (.int .u8 83) w_ := iK
            have y3 : IntKind.i64.wrap (szAt l k + -1) = szAt l k - 1 := by rw [IntKind.wrap_i64]; omega
            clear e HAS HAN hbd
            generalize szAt l k = z at *
            go_wp2
            go_roundw
            case rel => exact ⟨k + 1, nd, by omega, by go_num, by rw [HZ.out], by rw [HT.out], rfl⟩
            case measure => simp [intOf]; omega
          · have HZ := Lib.hid (HAN.out (by rw [e]; decide))
            rw [e] at iK
            replace iK : ∀ w_ : World, (Instr.index 9 (.string (stB l)) (.int .i64 (k : Int))).run Tryz.prog w_ = .ok (.int .u8 85) w_ := iK
            have y3 : IntKind.i64.wrap (szAt l k) = szAt l k := by rw [IntKind.wrap_i64]; omega
            clear e HAS HAN hbd
            generalize szAt l k = z at *
            go_wp2
            go_roundw
            case rel => exact ⟨k + 1, nd, by omega, by go_num, by rw [HZ.out], by rw [HT.out], rfl⟩
            case measure => simp [intOf]; omega
          · have HZ := Lib.hid (HAN.out (by rw [e]; decide))
            rw [e] at iK
            replace iK : ∀ w_ : World, (Instr.index 9 (.string (stB l)) (.int .i64 (k : Int))).run Tryz.prog w_ = .ok (.int .u8 86) w_ := iK
            have y3 : IntKind.i64.wrap (szAt l k) = szAt l k := by rw [IntKind.wrap_i64]; omega
            clear e HAS HAN hbd
            generalize szAt l k = z at *
            go_wp2
            go_roundw
            case rel => exact ⟨k + 1, nd, by omega, by go_num, by rw [HZ.out], by rw [HT.out], rfl⟩
            case measure => simp [intOf]; omega
        · obtain rfl : k = l.length := by omega
          have HZ : Hid (szAt l l.length = ((ltr l).length : Int)) := Lib.hid (by unfold szAt; rw [List.take_length]; omega)
          have HT : Hid (decide (0 < l.length) = true) := Lib.hid (decide_eq_true h0)
          have hb : Below w.heap.size w (w.drewN nd) := Below.drewN (Below.refl _ _)
          go_wp2_with fail
          go_meet
          exact ⟨by rw [HZ.out], by rw [HT.out], hb⟩
  case rest =>
    obtain ⟨rfl, rfl, k1⟩ := hcut
    have hmk := mk_bytes (ltr l).length (by have := ltr_cnt l; omega)
    have HX : Hid (∀ w', Below w.heap.size w w' → GivesZ l w (.returned (.string (stB (ltr l)))) w') := Lib.hid (fun w' hb => ⟨rfl, hb⟩)
    generalize GivesZ l w = GF at *
    have lr := H1.out.lt
    have lga := lt_of_block HA.out
    have lgb := lt_of_block HB.out
    have lgc := lt_of_block HCC.out
    have Q83 := Lib.hid q83
    have Q85 := Lib.hid q85
    have Q86 := Lib.hid q86
    have CB := Lib.hid ((blk_cell (i := 0) HB.out).trans HB2.out)
    have CC := Lib.hid ((blk_cell (i := 0) HCC.out).trans HC2.out)
    clear q256 q83 q85 q86 t0 t1 t2 HA HB HCC HB2 HC2 H1 H2 H3 H4 HRP HC3
    have s1 := k1.size
    go_wp2_with fail
    obtain ⟨N, hN⟩ : ∃ N, (ltr l).length = N := ⟨_, rfl⟩
    rw [hN] at HLT ⊢
    replace hN := Lib.hid hN
    have hN2 : N ≤ 200 := by omega
    go_loopw [13, 14] (fun jv iv wr => ∃ (k : Nat) (cur : List Value), k ≤ l.length ∧ iv = .int .i64 (k : Int) ∧ jv = .int .i64 ((ltr (l.take k)).length : Nat) ∧ Hid (wr.heap[wc.heap.size]? = some (.cells cur.toArray 5 (0, 0)) ∧ cur.length = N ∧ Pre cur (ltr (l.take k))) ∧ Below w.heap.size w wr) (fun _ iv _ => l.length - (intOf iv).toNat)
    case atStart => exact ⟨0, List.replicate N (.int .u8 0), Nat.zero_le _, rfl, rfl, Lib.hid ⟨by rw [show (List.replicate N (Value.int .u8 0)).toArray = Array.replicate N (.int .u8 0) by simp]; exact heap_new rfl, List.length_replicate, Pre.nil _⟩, Below.al s1 k1⟩
    case round =>
      clear hmk
      obtain ⟨k, cur, hk, rfl, rfl, hcur, kwr⟩ := hrel
      have kd : Below w.heap.size w wr.drew := Below.trans kwr ⟨rfl, rfl, rfl, Nat.le_refl _, fun _ _ => rfl⟩
      by_cases hlt : k < l.length
      · have i0 : (0 : Int) ≤ (k : Int) := by omega
        have i1 : (k : Int) < (l.length : Int) := by omega
        have iK := stB_at l k hlt
        have hjn := ltr_take_le l k
        rw [hN.out] at hjn
        have HTK := Lib.hid (ltr_take hlt)
        have hj1 := ltr_take_le l (k + 1)
        rw [hN.out, HTK.out, List.length_append] at hj1
        rcases HL.out l[k] (List.getElem_mem hlt) with e | e | e
        · rw [e] at iK HTK hj1
          replace iK : ∀ w_ : World, (Instr.index 9 (.string (stB l)) (.int .i64 (k : Int))).run Tryz.prog w_ = .ok (.int .u8 83) w_ := iK
          have q := (kwr.cell (p := ⟨r, 83, none⟩) lr).trans Q83.out
          clear e
          have hl1 : (ltr [(83 : UInt8)]).length = 0 := rfl
          rw [hl1] at hj1
          have hj2 : ((ltr (l.take k)).length : Int) ≤ (N : Int) := by omega
          have hj0 : (0 : Int) ≤ ((ltr (l.take k)).length : Int) := by omega
          have y3 : IntKind.i64.wrap ((ltr (l.take k)).length : Int) = ((ltr (l.take k)).length : Int) := by rw [IntKind.wrap_i64]; omega
          have HNX : Hid ((ltr (l.take (k + 1))) = ltr (l.take k)) := Lib.hid (by rw [HTK.out, ltr_S, List.append_nil])
          obtain ⟨J, hJ⟩ : ∃ J, (ltr (l.take k)).length = J := ⟨_, rfl⟩
          have HCUR := hcur.out
          have HPRE := Lib.hid HCUR.2.2
          have HCL := Lib.hid HCUR.2.1
          have HCH := Lib.hid HCUR.1
          clear hl1 HTK HCUR hcur
          generalize ltr (l.take k) = mk at *
          rw [hJ] at y3 hj0 hj2 hj1 hjn ⊢
          replace hJ := Lib.hid hJ
          go_wp2_with fail
          go_region_law (refine step_copy_splice rfl (.tmp 105) (.tmp 111) 42 42 rfl 5 Tryz.underlying42 (by kernel_rfl) _ _ _ _ _ _ rfl rfl wc.heap.size J cur 5 HCH.out [] (by simp) (by intro h; simp at h) (by have := HCL.out; simp; omega) (by intro v hv; simp at hv) w.heap.size w kd s1 ?_; intro w4 hg4 hb4)
          all_goals simp only [List.getElem_toArray, List.getElem_cons_succ, List.getElem_cons_zero, Act.put, List.setIfInBounds_toArray, List.set_cons_zero, List.set_cons_succ]
          all_goals go_wp2_with fail
          all_goals go_roundw
          all_goals first | exact ⟨k + 1, splice cur J [], by omega, by go_num, by rw [HNX.out, hJ.out], Lib.hid ⟨hg4.out, by rw [splice_nil]; exact HCL.out, by rw [splice_nil, HNX.out]; exact HPRE.out⟩, hb4⟩ | (simp [intOf]; omega)
        · rw [e] at iK HTK hj1
          replace iK : ∀ w_ : World, (Instr.index 9 (.string (stB l)) (.int .i64 (k : Int))).run Tryz.prog w_ = .ok (.int .u8 85) w_ := iK
          have q := (kwr.cell (p := ⟨r, 85, none⟩) lr).trans Q85.out
          have qv := (kwr.cell (p := ⟨gb, 0, none⟩) lgb).trans CB.out
          replace qv : wr.cell? ⟨gb, 0, none⟩ = some (.int .u8 84) := qv
          have QV := Lib.hid qv
          clear e qv
          have hl1 : (ltr [(85 : UInt8)]).length = 1 := rfl
          rw [hl1] at hj1
          have hj2 : ((ltr (l.take k)).length : Int) ≤ (N : Int) := by omega
          have hj0 : (0 : Int) ≤ ((ltr (l.take k)).length : Int) := by omega
          have y3 : IntKind.i64.wrap ((ltr (l.take k)).length + 1 : Int) = ((ltr (l.take k)).length + 1 : Int) := by rw [IntKind.wrap_i64]; omega
          have HNX : Hid ((ltr (l.take (k + 1))) = ltr (l.take k) ++ [84]) := Lib.hid (by rw [HTK.out]; rfl)
          obtain ⟨J, hJ⟩ : ∃ J, (ltr (l.take k)).length = J := ⟨_, rfl⟩
          have HCUR := hcur.out
          have HPRE := Lib.hid HCUR.2.2
          have HCL := Lib.hid HCUR.2.1
          have HCH := Lib.hid HCUR.1
          clear hl1 HTK HCUR hcur
          generalize ltr (l.take k) = mk at *
          rw [hJ] at y3 hj0 hj2 hj1 hjn ⊢
          have HPS : Hid (Pre (splice cur J [.int .u8 84]) (mk ++ [84])) := Lib.hid (by
            have := HPRE.out.snoc 84 (by rw [hJ, HCL.out]; omega)
            rw [hJ] at this
            exact this)
          replace hJ := Lib.hid hJ
          have hne : ¬ N = J := by omega
          go_wp2_with fail
          go_region_law (refine step_copy_splice rfl (.tmp 105) (.tmp 111) 42 42 rfl 5 Tryz.underlying42 (by kernel_rfl) _ _ _ _ _ _ rfl rfl wc.heap.size J cur 5 HCH.out [.int .u8 84] (by simp [Nat.min_def]; omega) (fun _ => ⟨rfl, ⟨gb, 0, none⟩, rfl, fun j v hv => match j, hv with | 0, hv => by rw [addr_add0]; exact QV.out.trans hv | _ + 1, hv => by simp at hv⟩) (by have := HCL.out; simp; omega) (by intro v hv; simp at hv; subst hv; rfl) w.heap.size w kd s1 ?_; intro w4 hg4 hb4)
          all_goals simp only [List.getElem_toArray, List.getElem_cons_succ, List.getElem_cons_zero, Act.put, List.setIfInBounds_toArray, List.set_cons_zero, List.set_cons_succ]
          all_goals go_wp2_with fail
          all_goals go_roundw
          all_goals first | exact ⟨k + 1, splice cur J [.int .u8 84], by omega, by go_num, by rw [HNX.out, List.length_append, hJ.out]; rfl, Lib.hid ⟨hg4.out, by rw [length_splice _ _ _ (by have := HCL.out; simp; omega)]; exact HCL.out, by rw [HNX.out]; exact HPS.out⟩, hb4⟩ | (simp [intOf]; omega)
        · rw [e] at iK HTK hj1
          replace iK : ∀ w_ : World, (Instr.index 9 (.string (stB l)) (.int .i64 (k : Int))).run Tryz.prog w_ = .ok (.int .u8 86) w_ := iK
          have q := (kwr.cell (p := ⟨r, 86, none⟩) lr).trans Q86.out
          have qv := (kwr.cell (p := ⟨gc, 0, none⟩) lgc).trans CC.out
          replace qv : wr.cell? ⟨gc, 0, none⟩ = some (.int .u8 76) := qv
          have QV := Lib.hid qv
          clear e qv
          have hl1 : (ltr [(86 : UInt8)]).length = 1 := rfl
          rw [hl1] at hj1
          have hj2 : ((ltr (l.take k)).length : Int) ≤ (N : Int) := by omega
          have hj0 : (0 : Int) ≤ ((ltr (l.take k)).length : Int) := by omega
          have y3 : IntKind.i64.wrap ((ltr (l.take k)).length + 1 : Int) = ((ltr (l.take k)).length + 1 : Int) := by rw [IntKind.wrap_i64]; omega
          have HNX : Hid ((ltr (l.take (k + 1))) = ltr (l.take k) ++ [76]) := Lib.hid (by rw [HTK.out]; rfl)
          obtain ⟨J, hJ⟩ : ∃ J, (ltr (l.take k)).length = J := ⟨_, rfl⟩
          have HCUR := hcur.out
          have HPRE := Lib.hid HCUR.2.2
          have HCL := Lib.hid HCUR.2.1
          have HCH := Lib.hid HCUR.1
          clear hl1 HTK HCUR hcur
          generalize ltr (l.take k) = mk at *
          rw [hJ] at y3 hj0 hj2 hj1 hjn ⊢
          have HPS : Hid (Pre (splice cur J [.int .u8 76]) (mk ++ [76])) := Lib.hid (by
            have := HPRE.out.snoc 76 (by rw [hJ, HCL.out]; omega)
            rw [hJ] at this
            exact this)
          replace hJ := Lib.hid hJ
          have hne : ¬ N = J := by omega
          go_wp2_with fail
          go_region_law (refine step_copy_splice rfl (.tmp 105) (.tmp 111) 42 42 rfl 5 Tryz.underlying42 (by kernel_rfl) _ _ _ _ _ _ rfl rfl wc.heap.size J cur 5 HCH.out [.int .u8 76] (by simp [Nat.min_def]; omega) (fun _ => ⟨rfl, ⟨gc, 0, none⟩, rfl, fun j v hv => match j, hv with | 0, hv => by rw [addr_add0]; exact QV.out.trans hv | _ + 1, hv => by simp at hv⟩) (by have := HCL.out; simp; omega) (by intro v hv; simp at hv; subst hv; rfl) w.heap.size w kd s1 ?_; intro w4 hg4 hb4)
          all_goals simp only [List.getElem_toArray, List.getElem_cons_succ, List.getElem_cons_zero, Act.put, List.setIfInBounds_toArray, List.set_cons_zero, List.set_cons_succ]
          all_goals go_wp2_with fail
          all_goals go_roundw
          all_goals first | exact ⟨k + 1, splice cur J [.int .u8 76], by omega, by go_num, by rw [HNX.out, List.length_append, hJ.out]; rfl, Lib.hid ⟨hg4.out, by rw [length_splice _ _ _ (by have := HCL.out; simp; omega)]; exact HCL.out, by rw [HNX.out]; exact HPS.out⟩, hb4⟩ | (simp [intOf]; omega)
      · obtain rfl : k = l.length := by omega
        rw [List.take_length] at hcur
        have HV : Hid ((convert 42 9 (.slice (some ⟨wc.heap.size, 0, none⟩) N N)).run Tryz.prog wr = .ok (.string (stB (ltr l))) wr) := Lib.hid (by
          have hB : BytesIn wr (.slice (some ⟨wc.heap.size, 0, none⟩) N N) (ltr l) := ⟨wc.heap.size, N, by rw [hN.out], fun j hj => by
            rw [blk_cell hcur.out.1, ← Array.getElem?_toList]
            exact hcur.out.2.2 j hj⟩
          exact hB.conv)
        have hv := HV.out
        clear hcur
        generalize ltr (l.take l.length) = lz at *
        generalize stB (ltr l) = sz at *
        go_wp2
        exact HX.out _ kwr

end Go.Proofs.YtfjmbpbilfhfbaaGreat
