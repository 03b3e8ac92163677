import Derived.Test.YtjpkopnkfpgahaaQ16
import Derived.Test.YtjpkopnkfpgahaaQ13
/- Actions of levels: both walks. -/
namespace Go.Proofs.Ytjpkopnkfpgahaa
open Go.RowKit
set_option linter.unusedSimpArgs false

theorem isPr_iff {n c d : Nat} : isPr n c d = true ↔ ∀ g, g ∣ c → g ∣ d → g ∣ n → g = 1 := by
  unfold isPr
  rw [decide_eq_true_iff]
  constructor
  · intro h g h1 h2 h3
    exact Nat.dvd_one.1 (h ▸ Nat.dvd_gcd (Nat.dvd_gcd h1 h2) h3)
  · intro h
    exact h _ (Nat.dvd_trans (Nat.gcd_dvd_left _ _) (Nat.gcd_dvd_left _ _)) (Nat.dvd_trans (Nat.gcd_dvd_left _ _) (Nat.gcd_dvd_right _ _)) (Nat.gcd_dvd_right _ _)
/-- The rest of a number by n, as a natural number. -/
theorem md_dvd {n g : Nat} {c : Int} (hn : 1 ≤ n) (hg : g ∣ n) (h : g ∣ (c % (n : Int)).toNat) : (g : Int) ∣ c := by
  obtain ⟨x, hx, -, hx2⟩ := mod_nat c n hn
  rw [hx2] at h
  have h1 : (g : Int) ∣ (x : Int) := Int.ofNat_dvd.2 h
  have h2 : (g : Int) ∣ (n : Int) := Int.ofNat_dvd.2 hg
  have h3 := Int.mul_ediv_add_emod c (n : Int)
  rw [← h3, hx]
  exact Int.dvd_add (Int.dvd_trans h2 (Int.dvd_mul_right _ _)) h1
theorem isPrC_of {n c d : Nat} {x y : Int} (hn : 1 ≤ n) (h : isPr n c d = true) (hd : ∀ g : Int, g ∣ x → g ∣ y → g ∣ (c : Int) ∧ g ∣ (d : Int)) : isPrC n x y = true := by
  unfold isPrC
  rw [isPr_iff] at *
  intro g h1 h2 h3
  have k := hd g (md_dvd hn h3 h1) (md_dvd hn h3 h2)
  exact h g (Int.ofNat_dvd.1 k.1) (Int.ofNat_dvd.1 k.2) h3
theorem isPrC_S {n c d : Nat} (hn : 1 ≤ n) (h : isPr n c d = true) : isPrC n (d : Int) (-(c : Int)) = true :=
  isPrC_of hn h fun _ h1 h2 => ⟨by rwa [Int.dvd_neg] at h2, h1⟩
theorem isPrC_T {n c d : Nat} (hn : 1 ≤ n) (h : isPr n c d = true) : isPrC n (c : Int) ((c : Int) + (d : Int)) = true :=
  isPrC_of hn h fun _ h1 h2 => ⟨h1, (Int.dvd_add_right h1).1 h2⟩

abbrev matS : M := ⟨0, -1, 1, 0⟩
abbrev matT : M := ⟨1, 1, 0, 1⟩
def lvlCode (n : Int) : Int := if inB n 1 60 = false then 2 else if (lineL n.toNat).length > 72 then 3 else 0
def lvlAct (n : Int) : Act := if lvlCode n = 0 then ⟨movL n.toNat matS, movL n.toNat matT⟩ else ⟨[], []⟩

set_option maxHeartbeats 400000 in
theorem isLevel_any (n : Int) (w : World) :
    Calls Try.prog 33 #[.int .i64 n] w fun e w' => e = .returned (.bool (inB n 1 60)) ∧ w = w' := by
  go_enter Try.func33, Try.ntmps33
  go_wp2_with (go_at_call 58; refine (within_any _ _ _ _).mono ?_; rintro e w' ⟨rfl, rfl⟩)
  go_ret
  exact ⟨rfl, rfl⟩

theorem mv1_S (n : Nat) (x : Nat × Nat) : mv1 n matS x = idxP (lineL n) (nrmC n (x.2 : Int) (-(x.1 : Int))) := by
  unfold mv1; simp
theorem mv1_T (n : Nat) (x : Nat × Nat) : mv1 n matT x = idxP (lineL n) (nrmC n (x.1 : Int) ((x.1 : Int) + (x.2 : Int))) := by
  unfold mv1; simp
theorem line_pr {n k : Nat} (h : k < (lineL n).length) : isPr n (lineL n)[k].1 (lineL n)[k].2 = true := by
  have := (lnTo_mem.1 (List.getElem_mem h)).2.2
  unfold isLn at this
  rw [Bool.and_eq_true] at this
  exact this.1
/-- A slice that has grown lies apart from another one. -/
theorem apart_grown {w : World} {B : Nat} {v v' u : Value} {xs : List Int} (h : v'.ownBlock = v.ownBlock ∨ v'.ownBlock = some w.heap.size) (hu : Own w B u xs) (hd : ∀ g, v.ownBlock = some g → u.ownBlock ≠ some g) : ∀ g, v'.ownBlock = some g → u.ownBlock ≠ some g := by
  intro g hg hug
  rcases h with h | h
  · exact hd g (h ▸ hg) hug
  · rw [h] at hg
    simp only [Option.some.injEq] at hg
    have := (hu.lt hug).2
    omega

theorem movL_len (n : Nat) (m : M) : (movL n m).length = (lineL n).length := by simp [movL]
theorem line_le (n : Nat) (hn : n ≤ 60) : (lineL n).length ≤ 3600 := by
  have := lnTo_len n n
  have h2 : n * n ≤ 60 * 60 := Nat.mul_le_mul hn hn
  unfold lineL
  omega
theorem lvl_no {n : Int} (h : inB n 1 60 = false) : lvlCode n = 2 ∧ lvlAct n = ⟨[], []⟩ := by
  have e : lvlCode n = 2 := by unfold lvlCode; rw [if_pos h]
  exact ⟨e, by unfold lvlAct; rw [e]; rfl⟩
theorem lvl_big {n : Nat} (h : inB (n : Int) 1 60 = true) (hl : (lineL n).length > 72) : lvlCode (n : Int) = 3 ∧ lvlAct (n : Int) = ⟨[], []⟩ := by
  have e : lvlCode (n : Int) = 3 := by unfold lvlCode; rw [if_neg (by rw [h]; decide), Int.toNat_natCast, if_pos hl]
  exact ⟨e, by unfold lvlAct; rw [e]; rfl⟩
theorem lvl_ok {n : Nat} (h : inB (n : Int) 1 60 = true) (hl : (lineL n).length ≤ 72) : lvlCode (n : Int) = 0 ∧ lvlAct (n : Int) = ⟨movL n matS, movL n matT⟩ := by
  have e : lvlCode (n : Int) = 0 := by unfold lvlCode; rw [if_neg (by rw [h]; decide), Int.toNat_natCast, if_neg (by omega)]
  exact ⟨e, by unfold lvlAct; rw [e, if_pos rfl, Int.toNat_natCast]⟩

set_option maxRecDepth 8000 in
set_option maxHeartbeats 2000000 in
theorem ActionOfLevel_in (n : Nat) (w : World) (hn : 1 ≤ n ∧ n ≤ 60) (hl : (lineL n).length ≤ 72) :
    Calls Try.prog 13 #[.int .i64 (n : Int)] w (GivesAct (movL n matS) (movL n matT) 0 w) := by
  have hq : inB (n : Int) 1 60 = true := inB_mk (by omega)
  have HLL := Lib.hid (line_any n)
  have HM1 := Lib.hid (fun w' : World => moved_any n matS w' hn (by decide))
  have HM2 := Lib.hid (fun w' : World => moved_any n matT w' hn (by decide))
  have HS := Lib.hid (movL_len n matS)
  have HT := Lib.hid (movL_len n matT)
  generalize movL n matS = X at *
  generalize movL n matT = Y at *
  generalize lineL n = L at *
  go_enter Try.func13, Try.ntmps13
  go_wp2_with fail
  refine (isLevel_any _ _).mono ?_
  rw [hq]
  rintro e w1 ⟨rfl, rfl⟩
  clear hq
  go_wp2_with fail
  refine (HLL.out _ hn).mono ?_
  rintro e w1 ⟨v, rfl, O1, hb⟩
  have B1 : Blk w1 w.heap.size 44 #[.slice none 0 0, .slice none 0 0] := (by repeat (first | (with_reducible assumption) | ((with_reducible refine Blk.new ?_); · first | omega | (simp; done) | (simp; omega)) | (with_reducible apply Blk.set4) | (with_reducible apply Blk.set3) | (with_reducible apply Blk.set2) | ((with_reducible refine Blk.put ?_ ?_); · first | omega | (simp; omega)) | (with_reducible refine Blk.old ?_) | (with_reducible refine Blk.drew ?_) | (with_reducible refine Blk.drewN ?_) | ((with_reducible refine Blk.below hb ?_ ?_); · first | omega | (simp; done) | (simp; omega))))
  have k1 : Below w.heap.size w w1 := (by repeat (first | (with_reducible exact Below.refl _ _) | (with_reducible assumption) | (with_reducible refine Below.drew ?_) | (with_reducible refine Below.drewN ?_) | ((with_reducible refine Below.al ?_ ?_); · first | omega | (simp; done) | (simp; omega)) | ((with_reducible refine Below.sc ?_ ?_); · first | omega | (simp; done) | (simp; omega)) | ((with_reducible refine Below.thru hb ?_ ?_); · first | omega | (simp; done) | (simp; omega))))
  have s1 := k1.size
  have lB1 := B1.lt
  obtain ⟨vo, vc, rfl⟩ := O1.len
  clear hb O1
  go_wp2_with fail
  refine (HM1.out _).mono ?_
  rintro e w2 ⟨u, rfl, O2, hb⟩
  have B2 : Blk w2 w.heap.size 44 #[.slice none 0 0, .slice none 0 0] := (by repeat (first | (with_reducible assumption) | ((with_reducible refine Blk.new ?_); · first | omega | (simp; done) | (simp; omega)) | (with_reducible apply Blk.set4) | (with_reducible apply Blk.set3) | (with_reducible apply Blk.set2) | ((with_reducible refine Blk.put ?_ ?_); · first | omega | (simp; omega)) | (with_reducible refine Blk.old ?_) | (with_reducible refine Blk.drew ?_) | (with_reducible refine Blk.drewN ?_) | ((with_reducible refine Blk.below hb ?_ ?_); · first | omega | (simp; done) | (simp; omega))))
  have k2 : Below w.heap.size w w2 := (by repeat (first | (with_reducible exact Below.refl _ _) | (with_reducible assumption) | (with_reducible refine Below.drew ?_) | (with_reducible refine Below.drewN ?_) | ((with_reducible refine Below.al ?_ ?_); · first | omega | (simp; done) | (simp; omega)) | ((with_reducible refine Below.sc ?_ ?_); · first | omega | (simp; done) | (simp; omega)) | ((with_reducible refine Below.thru hb ?_ ?_); · first | omega | (simp; done) | (simp; omega))))
  have s2 := k2.size
  have lB2 := B2.lt
  obtain ⟨uo, uc, hu, -⟩ := O2.slIn.form
  subst hu
  clear hb B1 k1
  go_wp2_with fail
  refine (HM2.out _).mono ?_
  rintro e w3 ⟨x, rfl, O3, hb⟩
  have B3 : Blk w3 w.heap.size 44 #[.slice none 0 0, .slice none 0 0] := (by repeat (first | (with_reducible assumption) | ((with_reducible refine Blk.new ?_); · first | omega | (simp; done) | (simp; omega)) | (with_reducible apply Blk.set4) | (with_reducible apply Blk.set3) | (with_reducible apply Blk.set2) | ((with_reducible refine Blk.put ?_ ?_); · first | omega | (simp; omega)) | (with_reducible refine Blk.old ?_) | (with_reducible refine Blk.drew ?_) | (with_reducible refine Blk.drewN ?_) | ((with_reducible refine Blk.below hb ?_ ?_); · first | omega | (simp; done) | (simp; omega))))
  have k3 : Below w.heap.size w w3 := (by repeat (first | (with_reducible exact Below.refl _ _) | (with_reducible assumption) | (with_reducible refine Below.drew ?_) | (with_reducible refine Below.drewN ?_) | ((with_reducible refine Below.al ?_ ?_); · first | omega | (simp; done) | (simp; omega)) | ((with_reducible refine Below.sc ?_ ?_); · first | omega | (simp; done) | (simp; omega)) | ((with_reducible refine Below.thru hb ?_ ?_); · first | omega | (simp; done) | (simp; omega))))
  have s3 := k3.size
  obtain ⟨xo, xc, hx, -⟩ := O3.slIn.form
  subst hx
  have OA : OwnA w3 (w.heap.size + 1) (.slice uo X.length uc) (.slice xo Y.length xc) ⟨X, Y⟩ := ⟨(O2.below hb).mono (by omega), O3.mono (by omega), fun g h1 h2 => by have := (O2.lt h1).2; have := (O3.lt h2).1; omega⟩
  have b3 := B3.p2
  have f0 := B3.free 0
  have f1 := B3.free 1
  have lB3 := B3.lt
  clear hb B2 k2 O2 O3
  go_wp2
  refine ret_at (v := .tuple #[.agg #[.slice uo X.length uc, .slice xo Y.length xc], .int .i64 0]) (fun w' => Blk w' (w.heap.size) 44 (#[.slice uo X.length uc, .slice xo Y.length xc])) (by repeat (first | (with_reducible assumption) | ((with_reducible refine Blk.new ?_); · first | omega | (simp; done) | (simp; omega)) | (with_reducible apply Blk.set4) | (with_reducible apply Blk.set3) | (with_reducible apply Blk.set2) | ((with_reducible refine Blk.put ?_ ?_); · first | omega | (simp; omega)) | (with_reducible refine Blk.old ?_) | (with_reducible refine Blk.drew ?_) | (with_reducible refine Blk.drewN ?_) | ((with_reducible refine Blk.below hb ?_ ?_); · first | omega | (simp; done) | (simp; omega)))) (fun w' hB => by have q := hB.p2; simp [results, Try.results13, go_sem, q]) rfl ?_
  exact ⟨_, _, rfl, ((OA.put (by omega)).put (by omega)).mono (by omega), (by repeat (first | (with_reducible exact Below.refl _ _) | (with_reducible assumption) | (with_reducible refine Below.drew ?_) | (with_reducible refine Below.drewN ?_) | ((with_reducible refine Below.al ?_ ?_); · first | omega | (simp; done) | (simp; omega)) | ((with_reducible refine Below.sc ?_ ?_); · first | omega | (simp; done) | (simp; omega)) | ((with_reducible refine Below.thru hb ?_ ?_); · first | omega | (simp; done) | (simp; omega))))⟩

set_option maxRecDepth 8000 in
set_option maxHeartbeats 2000000 in
theorem ActionOfLevel_R (n : Int) (X Y : List Int) (c : Int) (w : World) (hR : lvlAct n = ⟨X, Y⟩) (hC : lvlCode n = c) :
    Calls Try.prog 13 #[.int .i64 n] w (GivesAct X Y c w) := by
  cases hq : inB n 1 60 with
  | false =>
    rw [(lvl_no hq).1] at hC
    rw [(lvl_no hq).2] at hR
    cases hR
    subst hC
    go_enter Try.func13, Try.ntmps13
    go_wp2_with fail
    refine (isLevel_any _ _).mono ?_
    rw [hq]
    rintro e w1 ⟨rfl, rfl⟩
    clear hq
    go_wp2
    refine ret_at (v := .tuple #[.agg #[.slice none 0 0, .slice none 0 0], .int .i64 2]) (fun w' => Blk w' (w.heap.size) 44 (#[.slice none 0 0, .slice none 0 0])) (by repeat (first | (with_reducible assumption) | ((with_reducible refine Blk.new ?_); · first | omega | (simp; done) | (simp; omega)) | (with_reducible apply Blk.set4) | (with_reducible apply Blk.set3) | (with_reducible apply Blk.set2) | ((with_reducible refine Blk.put ?_ ?_); · first | omega | (simp; omega)) | (with_reducible refine Blk.old ?_) | (with_reducible refine Blk.drew ?_) | (with_reducible refine Blk.drewN ?_) | ((with_reducible refine Blk.below hb ?_ ?_); · first | omega | (simp; done) | (simp; omega)))) (fun w' hB => by have q := hB.p2; simp [results, Try.results13, go_sem, q]) rfl ?_
    exact ⟨_, _, rfl, OwnA.nil _ _, (by repeat (first | (with_reducible exact Below.refl _ _) | (with_reducible assumption) | (with_reducible refine Below.drew ?_) | (with_reducible refine Below.drewN ?_) | ((with_reducible refine Below.al ?_ ?_); · first | omega | (simp; done) | (simp; omega)) | ((with_reducible refine Below.sc ?_ ?_); · first | omega | (simp; done) | (simp; omega)) | ((with_reducible refine Below.thru hb ?_ ?_); · first | omega | (simp; done) | (simp; omega))))⟩
  | true =>
    obtain ⟨m, rfl⟩ : ∃ m : Nat, n = (m : Int) := ⟨n.toNat, by have := inB_true hq; omega⟩
    have hn : 1 ≤ m ∧ m ≤ 60 := by have := inB_true hq; omega
    by_cases hl : (lineL m).length ≤ 72
    · rw [(lvl_ok hq hl).1] at hC
      rw [(lvl_ok hq hl).2] at hR
      cases hR
      subst hC
      exact ActionOfLevel_in m w hn hl
    · have hl2 : (lineL m).length > 72 := by omega
      rw [(lvl_big hq hl2).1] at hC
      rw [(lvl_big hq hl2).2] at hR
      cases hR
      subst hC
      have hl3 := line_le m hn.2
      have HLL := Lib.hid (line_any m)
      generalize lineL m = L at *
      go_enter Try.func13, Try.ntmps13
      go_wp2_with fail
      refine (isLevel_any _ _).mono ?_
      rw [hq]
      rintro e w1 ⟨rfl, rfl⟩
      clear hq
      go_wp2_with fail
      refine (HLL.out _ hn).mono ?_
      rintro e w1 ⟨v, rfl, O1, hb⟩
      have B1 : Blk w1 w.heap.size 44 #[.slice none 0 0, .slice none 0 0] := (by repeat (first | (with_reducible assumption) | ((with_reducible refine Blk.new ?_); · first | omega | (simp; done) | (simp; omega)) | (with_reducible apply Blk.set4) | (with_reducible apply Blk.set3) | (with_reducible apply Blk.set2) | ((with_reducible refine Blk.put ?_ ?_); · first | omega | (simp; omega)) | (with_reducible refine Blk.old ?_) | (with_reducible refine Blk.drew ?_) | (with_reducible refine Blk.drewN ?_) | ((with_reducible refine Blk.below hb ?_ ?_); · first | omega | (simp; done) | (simp; omega))))
      have k1 : Below w.heap.size w w1 := (by repeat (first | (with_reducible exact Below.refl _ _) | (with_reducible assumption) | (with_reducible refine Below.drew ?_) | (with_reducible refine Below.drewN ?_) | ((with_reducible refine Below.al ?_ ?_); · first | omega | (simp; done) | (simp; omega)) | ((with_reducible refine Below.sc ?_ ?_); · first | omega | (simp; done) | (simp; omega)) | ((with_reducible refine Below.thru hb ?_ ?_); · first | omega | (simp; done) | (simp; omega))))
      have s1 := k1.size
      have lB1 := B1.lt
      have b1 := B1.p2
      have f0 := B1.free 0
      have f1 := B1.free 1
      obtain ⟨vo, vc, rfl⟩ := O1.len
      clear hb O1
      go_wp2
      refine ret_at (v := .tuple #[.agg #[.slice none 0 0, .slice none 0 0], .int .i64 3]) (fun w' => Blk w' (w.heap.size) 44 (#[.slice none 0 0, .slice none 0 0])) (by repeat (first | (with_reducible assumption) | ((with_reducible refine Blk.new ?_); · first | omega | (simp; done) | (simp; omega)) | (with_reducible apply Blk.set4) | (with_reducible apply Blk.set3) | (with_reducible apply Blk.set2) | ((with_reducible refine Blk.put ?_ ?_); · first | omega | (simp; omega)) | (with_reducible refine Blk.old ?_) | (with_reducible refine Blk.drew ?_) | (with_reducible refine Blk.drewN ?_) | ((with_reducible refine Blk.below hb ?_ ?_); · first | omega | (simp; done) | (simp; omega)))) (fun w' hB => by have q := hB.p2; simp [results, Try.results13, go_sem, q]) rfl ?_
      exact ⟨_, _, rfl, OwnA.nil _ _, (by repeat (first | (with_reducible exact Below.refl _ _) | (with_reducible assumption) | (with_reducible refine Below.drew ?_) | (with_reducible refine Below.drewN ?_) | ((with_reducible refine Below.al ?_ ?_); · first | omega | (simp; done) | (simp; omega)) | ((with_reducible refine Below.sc ?_ ?_); · first | omega | (simp; done) | (simp; omega)) | ((with_reducible refine Below.thru hb ?_ ?_); · first | omega | (simp; done) | (simp; omega))))⟩

end Go.Proofs.Ytjpkopnkfpgahaa
