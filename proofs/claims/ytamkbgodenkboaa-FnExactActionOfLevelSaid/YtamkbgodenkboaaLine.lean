/- The line of a level: both walks. -/
import Derived.Test.YtamkbgodenkboaaNrmS
import Derived.Test.YtamkbgodenkboaaSS
namespace Go.Proofs.Ytamkbgodenkboaa
open Go.RowKit
set_option linter.unusedSimpArgs false

def isLn (n c d : Nat) : Bool := isPr n c d && decide (nrmN n c d = (c, d))
/-- One row of the line: the normal pairs with the first rest c, the second one less than d. -/
def lnRow (n c : Nat) : Nat → List (Nat × Nat)
  | 0 => []
  | d + 1 => lnRow n c d ++ (if isLn n c d then [(c, d)] else [])
def lnTo (n : Nat) : Nat → List (Nat × Nat)
  | 0 => []
  | c + 1 => lnTo n c ++ lnRow n c n
def lineL (n : Nat) : List (Nat × Nat) := lnTo n n
theorem lnRow_len (n c d : Nat) : (lnRow n c d).length ≤ d := by
  induction d with
  | zero => exact Nat.le_refl _
  | succ d ih =>
    simp only [lnRow, List.length_append]
    split <;> simp <;> omega
theorem lnTo_len (n c : Nat) : (lnTo n c).length ≤ c * n := by
  induction c with
  | zero => simp [lnTo]
  | succ c ih =>
    simp only [lnTo, List.length_append, Nat.add_mul, Nat.one_mul]
    have := lnRow_len n c n
    omega
theorem lnRow_mem {n c d : Nat} {p : Nat × Nat} : p ∈ lnRow n c d ↔ p.1 = c ∧ p.2 < d ∧ isLn n p.1 p.2 = true := by
  induction d with
  | zero => simp [lnRow]
  | succ d ih =>
    simp only [lnRow, List.mem_append, ih]
    constructor
    · rintro (⟨h1, h2, h3⟩ | h)
      · exact ⟨h1, by omega, h3⟩
      · split at h
        · rename_i hl
          simp at h
          subst h
          exact ⟨rfl, Nat.lt_succ_self _, hl⟩
        · cases h
    · rintro ⟨h1, h2, h3⟩
      by_cases e : p.2 < d
      · exact .inl ⟨h1, e, h3⟩
      · right
        obtain ⟨x, y⟩ := p
        simp only at h1 h2 h3 e
        obtain rfl : y = d := by omega
        subst h1
        rw [if_pos h3]
        simp
theorem lnTo_mem {n c : Nat} {p : Nat × Nat} : p ∈ lnTo n c ↔ p.1 < c ∧ p.2 < n ∧ isLn n p.1 p.2 = true := by
  induction c with
  | zero => simp [lnTo]
  | succ c ih =>
    simp only [lnTo, List.mem_append, ih, lnRow_mem]
    constructor
    · rintro (⟨h1, h2, h3⟩ | ⟨h1, h2, h3⟩)
      · exact ⟨by omega, h2, h3⟩
      · exact ⟨by omega, h2, h3⟩
    · rintro ⟨h1, h2, h3⟩
      by_cases e : p.1 < c
      · exact .inl ⟨e, h2, h3⟩
      · exact .inr ⟨by omega, h2, h3⟩

def encP : Enc (Nat × Nat) := ⟨2, fun x => [.int .i64 (x.1 : Int), .int .i64 (x.2 : Int)], fun _ => rfl, by decide, fun x u hu => by simp at hu; rcases hu with rfl | rfl <;> rfl⟩
theorem infoP : (Try.prog.info? 142).map (fun i => (i.zero, i.size, i.bytes)) = some (some (.agg #[.int .i64 0, .int .i64 0]), 2, 16) := by kernel_rfl
abbrev OwnP (w : World) (B : Nat) (v : Value) (xs : List (Nat × Nat)) : Prop := OwnK encP 142 w B v xs
/-- The pairs in a slice of the call's own. -/
def GivesP (xs : List (Nat × Nat)) (w : World) (e : Ending) (w' : World) : Prop := ∃ v, e = .returned v ∧ OwnK encP 142 w' w.heap.size v xs ∧ Below w.heap.size w w'

set_option maxRecDepth 8000 in
set_option maxHeartbeats 2000000 in
theorem line_any (n : Nat) (w : World) (hn : 1 ≤ n ∧ n ≤ 60) :
    Calls Try.prog 87 #[.int .i64 (n : Int)] w (GivesP (lineL n) w) := by
  have HINF := Lib.hid (info_parts infoP)
  go_enter Try.func87, Try.ntmps87
  go_wp2_with fail
  refine forget (fun W_ => OwnK encP 142 W_ w.heap.size (.slice (some ⟨w.heap.size, 0, none⟩) 0 0) [] ∧ Below w.heap.size w W_) ⟨OwnK.of_blk (xs := []) (by repeat (first | (with_reducible assumption) | ((with_reducible refine Blk.new ?_); · first | omega | (simp; done) | (simp; omega)) | (with_reducible apply Blk.set4) | (with_reducible apply Blk.set3) | (with_reducible apply Blk.set2) | ((with_reducible refine Blk.put ?_ ?_); · first | omega | (simp; omega)) | (with_reducible refine Blk.old ?_) | (with_reducible refine Blk.drew ?_) | (with_reducible refine Blk.drewN ?_) | ((with_reducible refine Blk.below hb ?_ ?_); · first | omega | (simp; done) | (simp; omega)))) (Nat.le_refl _) rfl (by simp [maxLen]), (by repeat (first | (with_reducible exact Below.refl _ _) | (with_reducible assumption) | (with_reducible refine Below.drew ?_) | (with_reducible refine Below.drewN ?_) | ((with_reducible refine Below.al ?_ ?_); · first | omega | (simp; done) | (simp; omega)) | ((with_reducible refine Below.sc ?_ ?_); · first | omega | (simp; done) | (simp; omega)) | ((with_reducible refine Below.thru hb ?_ ?_); · first | omega | (simp; done) | (simp; omega))))⟩ ?_
  rintro w0 ⟨O0, k0⟩
  go_loopw [3, 9] (fun v cc wr => ∃ c : Nat, c ≤ n ∧ cc = .int .i64 c ∧ OwnK encP 142 wr w.heap.size v (lnTo n c) ∧ Below w.heap.size w wr) (fun _ cc _ => n - (intOf cc).toNat)
  case atStart => exact ⟨0, Nat.zero_le _, rfl, O0, k0⟩
  case round =>
    clear O0 k0
    obtain ⟨c, hc, rfl, O, kwr⟩ := hrel
    obtain ⟨vo, vc, rfl⟩ := O.len
    by_cases hlt : c < n
    · have HX := Lib.hid (show lnTo n (c + 1) = lnTo n c ++ lnRow n c n from rfl)
      have hlen := lnTo_len n c
      have hcn : c * n ≤ 60 * 60 := Nat.mul_le_mul (by omega) (by omega)
      go_wp2_with fail
      go_loopw [3, 13] (fun v dd wr => ∃ d : Nat, d ≤ n ∧ dd = .int .i64 d ∧ OwnK encP 142 wr w.heap.size v (lnTo n c ++ lnRow n c d) ∧ Below w.heap.size w wr) (fun _ dd _ => n - (intOf dd).toNat)
      case atStart => exact ⟨0, Nat.zero_le _, rfl, by rw [show lnRow n c 0 = [] from rfl, List.append_nil]; exact O, kwr⟩
      case round =>
        clear O kwr
        obtain ⟨d, hd, rfl, O, kwr⟩ := hrel
        obtain ⟨vo, vc, rfl⟩ := O.len
        have swr := kwr.size
        by_cases hdl : d < n
        · have hl2 : (lnTo n c ++ lnRow n c d).length ≤ 3660 := by rw [List.length_append]; have := lnRow_len n c d; omega
          have HY := Lib.hid (show lnTo n c ++ lnRow n c (d + 1) = (lnTo n c ++ lnRow n c d) ++ (if isLn n c d then [(c, d)] else []) by rw [List.append_assoc]; rfl)
          generalize lnTo n c ++ lnRow n c d = L at *
          obtain ⟨N, hN⟩ : ∃ N, L.length = N := ⟨_, rfl⟩
          rw [hN] at hl2
          replace hN := Lib.hid hN
          by_cases hp : Nat.gcd (Nat.gcd c d) n = 1
          rotate_left
          · have HP := Lib.hid (fun w' : World => isPair_any n c d w' hn hlt hdl)
            rw [decide_eq_false hp] at HP
            have HI := Lib.hid (show isLn n c d = false by unfold isLn isPr; rw [decide_eq_false hp, Bool.false_and])
            clear hp
            go_wp2_with fail
            refine forget (fun W_ => Below w.heap.size w W_ ∧ Blk W_ (wr.heap.size) 142 (pcs (c, d)) ∧ OwnP W_ (w.heap.size) (.slice vo L.length vc) (L)) ⟨(by repeat (first | (with_reducible exact Below.refl _ _) | (with_reducible assumption) | (with_reducible refine Below.drew ?_) | (with_reducible refine Below.drewN ?_) | ((with_reducible refine Below.al ?_ ?_); · first | omega | (simp; done) | (simp; omega)) | ((with_reducible refine Below.sc ?_ ?_); · first | omega | (simp; done) | (simp; omega)) | ((with_reducible refine Below.thru hb ?_ ?_); · first | omega | (simp; done) | (simp; omega)))), (by repeat (first | (with_reducible assumption) | ((with_reducible refine Blk.new ?_); · first | omega | (simp; done) | (simp; omega)) | (with_reducible apply Blk.set4) | (with_reducible apply Blk.set3) | (with_reducible apply Blk.set2) | ((with_reducible refine Blk.put ?_ ?_); · first | omega | (simp; omega)) | (with_reducible refine Blk.old ?_) | (with_reducible refine Blk.drew ?_) | (with_reducible refine Blk.drewN ?_) | ((with_reducible refine Blk.below hb ?_ ?_); · first | omega | (simp; done) | (simp; omega)))), (by repeat (first | (with_reducible assumption) | (with_reducible refine Own.drew ?_) | (with_reducible refine Own.drewN ?_) | (with_reducible refine Own.alloc ?_) | (with_reducible refine OwnK.drew ?_) | (with_reducible refine OwnK.drewN ?_) | (with_reducible refine OwnK.alloc ?_) | ((with_reducible refine OwnK.put ?_ ?_); · first | omega | (simp; done) | (simp; omega)) | ((with_reducible refine Own.below hb ?_)) | ((with_reducible refine OwnK.below hb ?_))))⟩ ?_
            rintro w3 ⟨kw3, B3, O3⟩
            have sw3 := kw3.size
            have lB3 := B3.lt
            obtain ⟨b30, b31⟩ := B3.later2
            clear O kwr
            refine wp_region_calm (by kernel_rfl) (by kernel_rfl) ?_
            repeat (go_big_quiet_step (first | (go_at_call 129; with_reducible exact Calls.calm (HP.out _))))
            refine wpQuiet_nil ?_
            rintro w4 ⟨⟨_, hb⟩, rfl⟩
            have B4 : Blk w4 (wr.heap.size) 142 (pcs (c, d)) := (by repeat (first | (with_reducible assumption) | ((with_reducible refine Blk.new ?_); · first | omega | (simp; done) | (simp; omega)) | (with_reducible apply Blk.set4) | (with_reducible apply Blk.set3) | (with_reducible apply Blk.set2) | ((with_reducible refine Blk.put ?_ ?_); · first | omega | (simp; omega)) | (with_reducible refine Blk.old ?_) | (with_reducible refine Blk.drew ?_) | (with_reducible refine Blk.drewN ?_) | ((with_reducible refine Blk.below hb ?_ ?_); · first | omega | (simp; done) | (simp; omega))))
            have lB4 := B4.lt
            have O4 : OwnP w4 (w.heap.size) (.slice vo L.length vc) (L) := (by repeat (first | (with_reducible assumption) | (with_reducible refine Own.drew ?_) | (with_reducible refine Own.drewN ?_) | (with_reducible refine Own.alloc ?_) | (with_reducible refine OwnK.drew ?_) | (with_reducible refine OwnK.drewN ?_) | (with_reducible refine OwnK.alloc ?_) | ((with_reducible refine OwnK.put ?_ ?_); · first | omega | (simp; done) | (simp; omega)) | ((with_reducible refine Own.below hb ?_)) | ((with_reducible refine OwnK.below hb ?_))))
            have kw4 : Below w.heap.size w w4 := (by repeat (first | (with_reducible exact Below.refl _ _) | (with_reducible assumption) | (with_reducible refine Below.drew ?_) | (with_reducible refine Below.drewN ?_) | ((with_reducible refine Below.al ?_ ?_); · first | omega | (simp; done) | (simp; omega)) | ((with_reducible refine Below.sc ?_ ?_); · first | omega | (simp; done) | (simp; omega)) | ((with_reducible refine Below.thru hb ?_ ?_); · first | omega | (simp; done) | (simp; omega))))
            have sw4 := kw4.size
            clear hb
            have b4 := B4.p2n
            go_wp2
            go_roundw
            case rel => exact ⟨d + 1, by omega, by go_num, by rw [HY.out, HI.out, if_neg Bool.false_ne_true, List.append_nil]; exact O4, kw4⟩
            case measure => simp [intOf]; omega
          have HP := Lib.hid (fun w' : World => isPair_any n c d w' hn hlt hdl)
          rw [decide_eq_true hp] at HP
          by_cases hq : nrmN n c d = (c, d)
          · have HQ := Lib.hid (fun w' : World => normal_any n c d w' hn hlt hdl)
            rw [hq] at HQ
            simp only at HQ
            have hE := fun w' : World => run_equalInP (c, d) (c, d) w'
            rw [decide_eq_true rfl] at hE
            simp only at hE
            have HI := Lib.hid (show isLn n c d = true by unfold isLn isPr; rw [decide_eq_true hp, decide_eq_true hq]; rfl)
            clear hp hq
            go_wp2_with fail
            refine forget (fun W_ => Below w.heap.size w W_ ∧ Blk W_ (wr.heap.size) 142 (pcs (c, d)) ∧ OwnP W_ (w.heap.size) (.slice vo L.length vc) (L)) ⟨(by repeat (first | (with_reducible exact Below.refl _ _) | (with_reducible assumption) | (with_reducible refine Below.drew ?_) | (with_reducible refine Below.drewN ?_) | ((with_reducible refine Below.al ?_ ?_); · first | omega | (simp; done) | (simp; omega)) | ((with_reducible refine Below.sc ?_ ?_); · first | omega | (simp; done) | (simp; omega)) | ((with_reducible refine Below.thru hb ?_ ?_); · first | omega | (simp; done) | (simp; omega)))), (by repeat (first | (with_reducible assumption) | ((with_reducible refine Blk.new ?_); · first | omega | (simp; done) | (simp; omega)) | (with_reducible apply Blk.set4) | (with_reducible apply Blk.set3) | (with_reducible apply Blk.set2) | ((with_reducible refine Blk.put ?_ ?_); · first | omega | (simp; omega)) | (with_reducible refine Blk.old ?_) | (with_reducible refine Blk.drew ?_) | (with_reducible refine Blk.drewN ?_) | ((with_reducible refine Blk.below hb ?_ ?_); · first | omega | (simp; done) | (simp; omega)))), (by repeat (first | (with_reducible assumption) | (with_reducible refine Own.drew ?_) | (with_reducible refine Own.drewN ?_) | (with_reducible refine Own.alloc ?_) | (with_reducible refine OwnK.drew ?_) | (with_reducible refine OwnK.drewN ?_) | (with_reducible refine OwnK.alloc ?_) | ((with_reducible refine OwnK.put ?_ ?_); · first | omega | (simp; done) | (simp; omega)) | ((with_reducible refine Own.below hb ?_)) | ((with_reducible refine OwnK.below hb ?_))))⟩ ?_
            rintro w3 ⟨kw3, B3, O3⟩
            have sw3 := kw3.size
            have lB3 := B3.lt
            obtain ⟨b30, b31⟩ := B3.later2
            clear O kwr
            refine wp_region_calm (by kernel_rfl) (by kernel_rfl) ?_
            repeat (go_big_quiet_step (first | (go_at_call 129; with_reducible exact Calls.calm (HP.out _)) | (go_at_call 130; with_reducible exact Calls.calm (HQ.out _))))
            refine wpQuiet_nil ?_
            rintro w4 ⟨⟨_, hb⟩, rfl⟩
            have B4 : Blk w4 (wr.heap.size) 142 (pcs (c, d)) := (by repeat (first | (with_reducible assumption) | ((with_reducible refine Blk.new ?_); · first | omega | (simp; done) | (simp; omega)) | (with_reducible apply Blk.set4) | (with_reducible apply Blk.set3) | (with_reducible apply Blk.set2) | ((with_reducible refine Blk.put ?_ ?_); · first | omega | (simp; omega)) | (with_reducible refine Blk.old ?_) | (with_reducible refine Blk.drew ?_) | (with_reducible refine Blk.drewN ?_) | ((with_reducible refine Blk.below hb ?_ ?_); · first | omega | (simp; done) | (simp; omega))))
            have lB4 := B4.lt
            have O4 : OwnP w4 (w.heap.size) (.slice vo L.length vc) (L) := (by repeat (first | (with_reducible assumption) | (with_reducible refine Own.drew ?_) | (with_reducible refine Own.drewN ?_) | (with_reducible refine Own.alloc ?_) | (with_reducible refine OwnK.drew ?_) | (with_reducible refine OwnK.drewN ?_) | (with_reducible refine OwnK.alloc ?_) | ((with_reducible refine OwnK.put ?_ ?_); · first | omega | (simp; done) | (simp; omega)) | ((with_reducible refine Own.below hb ?_)) | ((with_reducible refine OwnK.below hb ?_))))
            have kw4 : Below w.heap.size w w4 := (by repeat (first | (with_reducible exact Below.refl _ _) | (with_reducible assumption) | (with_reducible refine Below.drew ?_) | (with_reducible refine Below.drewN ?_) | ((with_reducible refine Below.al ?_ ?_); · first | omega | (simp; done) | (simp; omega)) | ((with_reducible refine Below.sc ?_ ?_); · first | omega | (simp; done) | (simp; omega)) | ((with_reducible refine Below.thru hb ?_ ?_); · first | omega | (simp; done) | (simp; omega))))
            have sw4 := kw4.size
            clear hb
            have b4 := B4.p2n
            obtain ⟨jP, hinf⟩ := HINF.out
            replace hinf := Lib.hid hinf
            go_wp2_with (at_builtin; refine wpList_app encP rfl _ _ 99 142 16 rfl Try.underlying99 jP _ hinf.out.1 hinf.out.2.1 hinf.out.2.2.1 hinf.out.2.2.2 rfl (.slice vo L.length vc) L w.heap.size w4.heap.size 1 #[.int .i64 (c : Int), .int .i64 (d : Int)] [(c, d)] rfl ?o1 rfl ?b1 rfl ?l1 ?l2 (by simp; omega) ?_)
            case o1 => exact O4.alloc
            case b1 => exact Blk.new (by simp)
            case l1 => (try simp only [List.length_cons, List.length_nil]); have := hN.out; unfold maxLen; omega
            case l2 => (try simp only [List.length_cons, List.length_nil]); have := hN.out; omega
            intro v' w5 O5 hg
            have k5 : Below w.heap.size w w5 := Below.grownK hg (e := encP) (E := 142) (B := w.heap.size) (xs := L) O4.alloc (Nat.le_refl _) (by simp; omega) (by repeat (first | (with_reducible exact Below.refl _ _) | (with_reducible assumption) | (with_reducible refine Below.drew ?_) | (with_reducible refine Below.drewN ?_) | ((with_reducible refine Below.al ?_ ?_); · first | omega | (simp; done) | (simp; omega)) | ((with_reducible refine Below.sc ?_ ?_); · first | omega | (simp; done) | (simp; omega)) | ((with_reducible refine Below.thru hb ?_ ?_); · first | omega | (simp; done) | (simp; omega))))
            clear hg
            go_wp2
            go_roundw
            case rel => exact ⟨d + 1, by omega, by go_num, by rw [HY.out, HI.out, if_pos rfl]; exact O5, k5⟩
            case measure => simp [intOf]; omega
          · have HQ := Lib.hid (fun w' : World => normal_any n c d w' hn hlt hdl)
            have hE := fun w' : World => run_equalInP (nrmN n c d) (c, d) w'
            rw [decide_eq_false hq] at hE
            simp only at hE
            have HI := Lib.hid (show isLn n c d = false by unfold isLn; rw [decide_eq_false hq, Bool.and_false])
            clear hp hq
            generalize nrmN n c d = y at *
            obtain ⟨y1, y2⟩ := y
            simp only at HQ hE
            go_wp2_with fail
            refine forget (fun W_ => Below w.heap.size w W_ ∧ Blk W_ (wr.heap.size) 142 (pcs (c, d)) ∧ OwnP W_ (w.heap.size) (.slice vo L.length vc) (L)) ⟨(by repeat (first | (with_reducible exact Below.refl _ _) | (with_reducible assumption) | (with_reducible refine Below.drew ?_) | (with_reducible refine Below.drewN ?_) | ((with_reducible refine Below.al ?_ ?_); · first | omega | (simp; done) | (simp; omega)) | ((with_reducible refine Below.sc ?_ ?_); · first | omega | (simp; done) | (simp; omega)) | ((with_reducible refine Below.thru hb ?_ ?_); · first | omega | (simp; done) | (simp; omega)))), (by repeat (first | (with_reducible assumption) | ((with_reducible refine Blk.new ?_); · first | omega | (simp; done) | (simp; omega)) | (with_reducible apply Blk.set4) | (with_reducible apply Blk.set3) | (with_reducible apply Blk.set2) | ((with_reducible refine Blk.put ?_ ?_); · first | omega | (simp; omega)) | (with_reducible refine Blk.old ?_) | (with_reducible refine Blk.drew ?_) | (with_reducible refine Blk.drewN ?_) | ((with_reducible refine Blk.below hb ?_ ?_); · first | omega | (simp; done) | (simp; omega)))), (by repeat (first | (with_reducible assumption) | (with_reducible refine Own.drew ?_) | (with_reducible refine Own.drewN ?_) | (with_reducible refine Own.alloc ?_) | (with_reducible refine OwnK.drew ?_) | (with_reducible refine OwnK.drewN ?_) | (with_reducible refine OwnK.alloc ?_) | ((with_reducible refine OwnK.put ?_ ?_); · first | omega | (simp; done) | (simp; omega)) | ((with_reducible refine Own.below hb ?_)) | ((with_reducible refine OwnK.below hb ?_))))⟩ ?_
            rintro w3 ⟨kw3, B3, O3⟩
            have sw3 := kw3.size
            have lB3 := B3.lt
            obtain ⟨b30, b31⟩ := B3.later2
            clear O kwr
            refine wp_region_calm (by kernel_rfl) (by kernel_rfl) ?_
            repeat (go_big_quiet_step (first | (go_at_call 129; with_reducible exact Calls.calm (HP.out _)) | (go_at_call 130; with_reducible exact Calls.calm (HQ.out _))))
            refine wpQuiet_nil ?_
            rintro w4 ⟨⟨_, hb⟩, rfl⟩
            have B4 : Blk w4 (wr.heap.size) 142 (pcs (c, d)) := (by repeat (first | (with_reducible assumption) | ((with_reducible refine Blk.new ?_); · first | omega | (simp; done) | (simp; omega)) | (with_reducible apply Blk.set4) | (with_reducible apply Blk.set3) | (with_reducible apply Blk.set2) | ((with_reducible refine Blk.put ?_ ?_); · first | omega | (simp; omega)) | (with_reducible refine Blk.old ?_) | (with_reducible refine Blk.drew ?_) | (with_reducible refine Blk.drewN ?_) | ((with_reducible refine Blk.below hb ?_ ?_); · first | omega | (simp; done) | (simp; omega))))
            have lB4 := B4.lt
            have O4 : OwnP w4 (w.heap.size) (.slice vo L.length vc) (L) := (by repeat (first | (with_reducible assumption) | (with_reducible refine Own.drew ?_) | (with_reducible refine Own.drewN ?_) | (with_reducible refine Own.alloc ?_) | (with_reducible refine OwnK.drew ?_) | (with_reducible refine OwnK.drewN ?_) | (with_reducible refine OwnK.alloc ?_) | ((with_reducible refine OwnK.put ?_ ?_); · first | omega | (simp; done) | (simp; omega)) | ((with_reducible refine Own.below hb ?_)) | ((with_reducible refine OwnK.below hb ?_))))
            have kw4 : Below w.heap.size w w4 := (by repeat (first | (with_reducible exact Below.refl _ _) | (with_reducible assumption) | (with_reducible refine Below.drew ?_) | (with_reducible refine Below.drewN ?_) | ((with_reducible refine Below.al ?_ ?_); · first | omega | (simp; done) | (simp; omega)) | ((with_reducible refine Below.sc ?_ ?_); · first | omega | (simp; done) | (simp; omega)) | ((with_reducible refine Below.thru hb ?_ ?_); · first | omega | (simp; done) | (simp; omega))))
            have sw4 := kw4.size
            clear hb
            have b4 := B4.p2n
            go_wp2
            go_roundw
            case rel => exact ⟨d + 1, by omega, by go_num, by rw [HY.out, HI.out, if_neg Bool.false_ne_true, List.append_nil]; exact O4, kw4⟩
            case measure => simp [intOf]; omega
        · obtain rfl : d = n := by omega
          go_wp2
          go_roundw
          case rel => exact ⟨c + 1, by omega, by go_num, by rw [HX.out]; exact O, kwr⟩
          case measure => simp [intOf]; omega
    · obtain rfl : c = n := by omega
      go_wp2
      refine bodyPost_ret (v := .slice vo (lnTo c c).length vc) (by simp [results, Try.results87, go_sem]) rfl ?_
      exact ⟨_, rfl, O, kwr⟩

end Go.Proofs.Ytamkbgodenkboaa
