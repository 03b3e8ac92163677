/- The line of a level: the reference's walk. -/
import Derived.Test.YtamkbgodenkboaaLine
import Derived.Test.YtamkbgodenkboaaCysS
namespace Go.Proofs.Ytamkbgodenkboaa
open Go.RowKit
set_option linter.unusedSimpArgs false

def rowsP (xs : List (Nat × Nat)) : List (List Nat) := xs.map fun p => [p.1, p.2]

theorem nrmV_ln {n c d : Nat} (h : isLn n c d = true) : nrmV n c d = ((c : Int), (d : Int), true) := by
  unfold isLn at h
  rw [Bool.and_eq_true] at h
  have h2 := of_decide_eq_true h.2
  unfold nrmV
  rw [if_pos h.1, h2]
theorem nrmV_no {n c d : Nat} (h : isLn n c d = false) : nrmV n c d = (0, 0, false) ∨ ∃ x y : Nat, nrmV n c d = ((x : Int), (y : Int), true) ∧ (¬ (x : Int) = (c : Int) ∨ ¬ (y : Int) = (d : Int)) := by
  unfold nrmV
  cases hp : isPr n c d with
  | false => left; rfl
  | true =>
    right
    refine ⟨(nrmN n c d).1, (nrmN n c d).2, by rw [if_pos rfl], ?_⟩
    unfold isLn at h
    rw [hp, Bool.true_and] at h
    have h2 := of_decide_eq_false h
    generalize nrmN n c d = y at *
    obtain ⟨y1, y2⟩ := y
    simp only [Prod.mk.injEq, not_and] at h2
    by_cases e : y1 = c
    · right; have := h2 e; simp only; omega
    · left; simp only; omega

set_option maxRecDepth 8000 in
set_option maxHeartbeats 2000000 in
theorem l06Line_any (n : Nat) (w : World) (hn : 1 ≤ n ∧ n ≤ 60) :
    Calls Try.prog 84 #[.int .i64 (n : Int)] w (GivesSS (rowsP (lineL n)) w) := by
  have HINF := Lib.hid (info_parts infoSl)
  go_enter Try.func84, Try.ntmps84
  go_wp2_with fail
  refine forget (fun W_ => OwnK encV 22 W_ w.heap.size (.slice (some ⟨w.heap.size, 0, none⟩) 0 0) [] ∧ Below w.heap.size w W_) ⟨OwnK.of_blk (xs := []) (by repeat (first | (with_reducible assumption) | ((with_reducible refine Blk.new ?_); · first | omega | (simp; done) | (simp; omega)) | (with_reducible apply Blk.set4) | (with_reducible apply Blk.set3) | (with_reducible apply Blk.set2) | ((with_reducible refine Blk.put ?_ ?_); · first | omega | (simp; omega)) | (with_reducible refine Blk.old ?_) | (with_reducible refine Blk.drew ?_) | (with_reducible refine Blk.drewN ?_) | ((with_reducible refine Blk.below hb ?_ ?_); · first | omega | (simp; done) | (simp; omega)))) (Nat.le_refl _) rfl (by simp [maxLen]), (by repeat (first | (with_reducible exact Below.refl _ _) | (with_reducible assumption) | (with_reducible refine Below.drew ?_) | (with_reducible refine Below.drewN ?_) | ((with_reducible refine Below.al ?_ ?_); · first | omega | (simp; done) | (simp; omega)) | ((with_reducible refine Below.sc ?_ ?_); · first | omega | (simp; done) | (simp; omega)) | ((with_reducible refine Below.thru hb ?_ ?_); · first | omega | (simp; done) | (simp; omega))))⟩ ?_
  rintro w0 ⟨O0, k0⟩
  go_loopw [3, 4] (fun v cc wr => ∃ (c : Nat) (vs : List Sl), c ≤ n ∧ cc = .int .i64 c ∧ OwnK encV 22 wr w.heap.size v vs ∧ RowS wr w.heap.size vs (rowsP (lnTo n c)) ∧ Below w.heap.size w wr) (fun _ cc _ => n - (intOf cc).toNat)
  case atStart => exact ⟨0, [], Nat.zero_le _, rfl, O0, trivial, k0⟩
  case round =>
    clear O0 k0
    obtain ⟨c, vs, hc, rfl, O, R, kwr⟩ := hrel
    obtain ⟨vo, vc, rfl⟩ := O.len
    by_cases hlt : c < n
    · have HX := Lib.hid (show lnTo n (c + 1) = lnTo n c ++ lnRow n c n from rfl)
      have hlen := lnTo_len n c
      have hcn : c * n ≤ 60 * 60 := Nat.mul_le_mul (by omega) (by omega)
      go_wp2_with fail
      go_loopw [3, 5] (fun v dd wr => ∃ (d : Nat) (vs : List Sl), d ≤ n ∧ dd = .int .i64 d ∧ OwnK encV 22 wr w.heap.size v vs ∧ RowS wr w.heap.size vs (rowsP (lnTo n c ++ lnRow n c d)) ∧ Below w.heap.size w wr) (fun _ dd _ => n - (intOf dd).toNat)
      case atStart => exact ⟨0, vs, Nat.zero_le _, rfl, O, by rw [show lnRow n c 0 = [] from rfl, List.append_nil]; exact R, kwr⟩
      case round =>
        clear O R kwr
        obtain ⟨d, vs, hd, rfl, O, R, kwr⟩ := hrel
        obtain ⟨vo, vc, rfl⟩ := O.len
        have swr := kwr.size
        by_cases hdl : d < n
        · have hl2 : vs.length ≤ 3660 := by
            have := lnRow_len n c d
            have h1 := R.len
            unfold rowsP at h1
            rw [List.length_map, List.length_append] at h1
            omega
          have HY := Lib.hid (show lnTo n c ++ lnRow n c (d + 1) = (lnTo n c ++ lnRow n c d) ++ (if isLn n c d then [(c, d)] else []) by rw [List.append_assoc]; rfl)
          generalize lnTo n c ++ lnRow n c d = L at *
          have HQ := Lib.hid (fun w' : World => l06Normal_any n c d w' hn hlt hdl)
          cases hi : isLn n c d with
          | true =>
            have HI := Lib.hid hi
            rw [nrmV_ln hi] at HQ
            simp only at HQ
            clear hi
            go_wp2_with fail
            refine (HQ.out _).mono ?_
            rintro e w1 ⟨rfl, hb⟩
            have k1 : Below w.heap.size w w1 := (by repeat (first | (with_reducible exact Below.refl _ _) | (with_reducible assumption) | (with_reducible refine Below.drew ?_) | (with_reducible refine Below.drewN ?_) | ((with_reducible refine Below.al ?_ ?_); · first | omega | (simp; done) | (simp; omega)) | ((with_reducible refine Below.sc ?_ ?_); · first | omega | (simp; done) | (simp; omega)) | ((with_reducible refine Below.thru hb ?_ ?_); · first | omega | (simp; done) | (simp; omega))))
            have O1 : OwnK encV 22 w1 w.heap.size (.slice vo vs.length vc) vs := (by repeat (first | (with_reducible assumption) | (with_reducible refine Own.drew ?_) | (with_reducible refine Own.drewN ?_) | (with_reducible refine Own.alloc ?_) | (with_reducible refine OwnK.drew ?_) | (with_reducible refine OwnK.drewN ?_) | (with_reducible refine OwnK.alloc ?_) | ((with_reducible refine OwnK.put ?_ ?_); · first | omega | (simp; done) | (simp; omega)) | ((with_reducible refine Own.below hb ?_)) | ((with_reducible refine OwnK.below hb ?_))))
            have R1 := R.below hb
            have s1 := k1.size
            clear hb O R kwr
            obtain ⟨jP, hinf⟩ := HINF.out
            replace hinf := Lib.hid hinf
            go_wp2_with (at_builtin; refine wpList_app encV rfl _ _ 49 22 24 rfl Try.underlying49 jP _ hinf.out.1 hinf.out.2.1 hinf.out.2.2.1 hinf.out.2.2.2 rfl (.slice vo vs.length vc) vs w.heap.size (w1.heap.size + 1) 1 #[.slice (some ⟨w1.heap.size, 0, none⟩) 2 2] [⟨some ⟨w1.heap.size, 0, none⟩, 2, 2⟩] rfl ?o1 rfl ?b1 rfl ?l1 ?l2 (by simp; omega) ?_)
            case o1 => exact O1.alloc.alloc
            case b1 => exact Blk.new (by simp)
            case l1 => (try simp only [List.length_cons, List.length_nil]); unfold maxLen; omega
            case l2 => (try simp only [List.length_cons, List.length_nil]); omega
            intro v' w5 O5 hg
            have k5 : Below w.heap.size w w5 := Below.grownK hg (e := encV) (E := 22) (B := w.heap.size) (xs := vs) O1.alloc.alloc (Nat.le_refl _) (by simp; omega) (by repeat (first | (with_reducible exact Below.refl _ _) | (with_reducible assumption) | (with_reducible refine Below.drew ?_) | (with_reducible refine Below.drewN ?_) | ((with_reducible refine Below.al ?_ ?_); · first | omega | (simp; done) | (simp; omega)) | ((with_reducible refine Below.sc ?_ ?_); · first | omega | (simp; done) | (simp; omega)) | ((with_reducible refine Below.thru hb ?_ ?_); · first | omega | (simp; done) | (simp; omega))))
            have R5 : RowS w5 w.heap.size (vs ++ [⟨some ⟨w1.heap.size, 0, none⟩, 2, 2⟩]) (rowsP L ++ [[c, d]]) := by
              refine RowS.grown hg (e := encV) (E := 22) (B' := w.heap.size) (xs := vs) O1.alloc.alloc (by decide) ((RowS.snoc (s := ⟨some ⟨w1.heap.size, 0, none⟩, 2, 2⟩) (w := w1.alloc (.cells #[.int .i64 (c : Int), .int .i64 (d : Int)] 2)) ?_ (R1.below ((Below.refl _ _).alloc (Nat.le_refl _) _)) (fun t ht g hg e => ?_)).below ((Below.refl _ _).alloc (Nat.le_refl _) _))
              · exact Own.of_blk (xs := [(c : Int), (d : Int)]) (Blk.new rfl) (by omega) rfl (by simp [maxLen])
              · have h1 := (R1.lt t ht g hg).2
                simp only [Value.ownBlock, Option.some.injEq] at e
                omega
            clear hg
            go_wp2
            go_roundw
            case rel => exact ⟨d + 1, _, by omega, by go_num, O5, by rw [HY.out, HI.out, if_pos rfl]; unfold rowsP at *; rw [List.map_append]; exact R5, k5⟩
            case measure => simp [intOf]; omega
          | false =>
            have HI := Lib.hid (show lnTo n c ++ lnRow n c (d + 1) = L by rw [HY.out, hi, if_neg Bool.false_ne_true, List.append_nil])
            rcases nrmV_no hi with hv | ⟨x, y, hv, hne⟩
            · rw [hv] at HQ
              simp only at HQ
              clear hi hv
              go_wp2_with fail
              refine (HQ.out _).mono ?_
              rintro e w1 ⟨rfl, hb⟩
              have k1 : Below w.heap.size w w1 := (by repeat (first | (with_reducible exact Below.refl _ _) | (with_reducible assumption) | (with_reducible refine Below.drew ?_) | (with_reducible refine Below.drewN ?_) | ((with_reducible refine Below.al ?_ ?_); · first | omega | (simp; done) | (simp; omega)) | ((with_reducible refine Below.sc ?_ ?_); · first | omega | (simp; done) | (simp; omega)) | ((with_reducible refine Below.thru hb ?_ ?_); · first | omega | (simp; done) | (simp; omega))))
              have O1 : OwnK encV 22 w1 w.heap.size (.slice vo vs.length vc) vs := (by repeat (first | (with_reducible assumption) | (with_reducible refine Own.drew ?_) | (with_reducible refine Own.drewN ?_) | (with_reducible refine Own.alloc ?_) | (with_reducible refine OwnK.drew ?_) | (with_reducible refine OwnK.drewN ?_) | (with_reducible refine OwnK.alloc ?_) | ((with_reducible refine OwnK.put ?_ ?_); · first | omega | (simp; done) | (simp; omega)) | ((with_reducible refine Own.below hb ?_)) | ((with_reducible refine OwnK.below hb ?_))))
              have R1 := R.below hb
              clear hb O R kwr
              go_wp2
              go_roundw
              case rel => exact ⟨d + 1, vs, by omega, by go_num, O1, by rw [HI.out]; exact R1, k1⟩
              case measure => simp [intOf]; omega
            · rw [hv] at HQ
              simp only at HQ
              clear hi hv
              by_cases hxc : (x : Int) = (c : Int)
              · have hyd : ¬ (y : Int) = (d : Int) := by rcases hne with h | h; exact absurd hxc h; exact h
                clear hne
                rw [hxc] at HQ
                clear hxc
                go_wp2_with fail
                refine (HQ.out _).mono ?_
                rintro e w1 ⟨rfl, hb⟩
                have k1 : Below w.heap.size w w1 := (by repeat (first | (with_reducible exact Below.refl _ _) | (with_reducible assumption) | (with_reducible refine Below.drew ?_) | (with_reducible refine Below.drewN ?_) | ((with_reducible refine Below.al ?_ ?_); · first | omega | (simp; done) | (simp; omega)) | ((with_reducible refine Below.sc ?_ ?_); · first | omega | (simp; done) | (simp; omega)) | ((with_reducible refine Below.thru hb ?_ ?_); · first | omega | (simp; done) | (simp; omega))))
                have O1 : OwnK encV 22 w1 w.heap.size (.slice vo vs.length vc) vs := (by repeat (first | (with_reducible assumption) | (with_reducible refine Own.drew ?_) | (with_reducible refine Own.drewN ?_) | (with_reducible refine Own.alloc ?_) | (with_reducible refine OwnK.drew ?_) | (with_reducible refine OwnK.drewN ?_) | (with_reducible refine OwnK.alloc ?_) | ((with_reducible refine OwnK.put ?_ ?_); · first | omega | (simp; done) | (simp; omega)) | ((with_reducible refine Own.below hb ?_)) | ((with_reducible refine OwnK.below hb ?_))))
                have R1 := R.below hb
                clear hb O R kwr
                go_wp2
                go_roundw
                case rel => exact ⟨d + 1, vs, by omega, by go_num, O1, by rw [HI.out]; exact R1, k1⟩
                case measure => simp [intOf]; omega
              · clear hne
                go_wp2_with fail
                refine (HQ.out _).mono ?_
                rintro e w1 ⟨rfl, hb⟩
                have k1 : Below w.heap.size w w1 := (by repeat (first | (with_reducible exact Below.refl _ _) | (with_reducible assumption) | (with_reducible refine Below.drew ?_) | (with_reducible refine Below.drewN ?_) | ((with_reducible refine Below.al ?_ ?_); · first | omega | (simp; done) | (simp; omega)) | ((with_reducible refine Below.sc ?_ ?_); · first | omega | (simp; done) | (simp; omega)) | ((with_reducible refine Below.thru hb ?_ ?_); · first | omega | (simp; done) | (simp; omega))))
                have O1 : OwnK encV 22 w1 w.heap.size (.slice vo vs.length vc) vs := (by repeat (first | (with_reducible assumption) | (with_reducible refine Own.drew ?_) | (with_reducible refine Own.drewN ?_) | (with_reducible refine Own.alloc ?_) | (with_reducible refine OwnK.drew ?_) | (with_reducible refine OwnK.drewN ?_) | (with_reducible refine OwnK.alloc ?_) | ((with_reducible refine OwnK.put ?_ ?_); · first | omega | (simp; done) | (simp; omega)) | ((with_reducible refine Own.below hb ?_)) | ((with_reducible refine OwnK.below hb ?_))))
                have R1 := R.below hb
                clear hb O R kwr
                go_wp2
                go_roundw
                case rel => exact ⟨d + 1, vs, by omega, by go_num, O1, by rw [HI.out]; exact R1, k1⟩
                case measure => simp [intOf]; omega
        · obtain rfl : d = n := by omega
          go_wp2
          go_roundw
          case rel => exact ⟨c + 1, vs, by omega, by go_num, O, by rw [HX.out]; exact R, kwr⟩
          case measure => simp [intOf]; omega
    · obtain rfl : c = n := by omega
      go_wp2
      refine bodyPost_ret (v := .slice vo vs.length vc) (by simp [results, Try.results84, go_sem]) rfl ?_
      exact ⟨_, vs, rfl, O, R, kwr⟩

end Go.Proofs.Ytamkbgodenkboaa
