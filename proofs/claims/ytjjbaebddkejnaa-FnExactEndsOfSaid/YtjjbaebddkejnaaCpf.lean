/- The cusp of a fraction: the program's walks. -/
import Derived.Test.YtjjbaebddkejnaaOrb
import Derived.Test.YtjjbaebddkejnaaFrc
import Derived.Test.YtjjbaebddkejnaaInv
namespace Go.Proofs.Ytjjbaebddkejnaa
open Go.RowKit
set_option linter.unusedSimpArgs false

set_option maxRecDepth 8000 in
set_option maxHeartbeats 1000000 in
theorem cusps_any (n : Nat) (w : World) (HV : Lvl n) : Calls Try.prog 36 #[.int .i64 (n : Int)] w (GivesO (movL n tM) (lineL n).length w) := by
  have HM := Lib.hid (show ∀ w' : World, Calls Try.prog 58 #[.int .i64 (n : Int), .agg #[.int .i64 1, .int .i64 1, .int .i64 0, .int .i64 1]] w' (GivesI (movL n tM) w') from fun w' => moved_any n tM w' HV.n1 (by decide))
  have HO := Lib.hid (fun (v : Value) (w' : World) (h : SlIn w' .i64 v (movL n tM)) => orbits_any v (movL n tM) (lineL n).length w' h (movL_len n tM) HV.l0 HV.l72 (fun k hk => by
    have := HV.inL k hk
    rw [movL_getD hk]
    refine ⟨this, ?_⟩
    unfold mv1 at this ⊢
    exact idxP_lt this))
  obtain ⟨GF, hGF⟩ : ∃ GF, GivesO (movL n tM) (lineL n).length w = GF := ⟨_, rfl⟩
  rw [hGF]
  have HGF := Lib.hid hGF
  clear hGF HV
  generalize movL n tM = P at *
  generalize (lineL n).length = N at *
  go_enter Try.func36, Try.ntmps36
  go_wp2_with fail
  refine (HM.out _).mono ?_
  rintro e w1 ⟨v1, rfl, O1, k1⟩
  have s1 := k1.size
  go_wp2_with fail
  refine (HO.out v1 w1 O1.slIn).mono ?_
  rintro e w2 ⟨v2, vs, css, rfl, O2, R2, hob, hc, k2⟩
  go_wp2
  rw [← HGF.out]
  exact ⟨v2, vs, css, rfl, O2.mono s1, R2.mono s1, hob, hc, k1.trans (k2.mono s1)⟩
theorem SlIn.le {w : World} {k : IntKind} {v : Value} {xs : List Int} (h : SlIn w k v xs) : xs.length ≤ maxLen := by
  rcases h with ⟨rfl, rfl⟩ | ⟨a, c, rfl, h1, h2, _⟩
  · simp
  · omega
/-- An index, or -1: in a slice that is read. -/
theorem indexS_any (v : Value) (xs : List Int) (x : Int) (w : World) (B : SlIn w .i64 v xs) :
    Calls Try.prog 69 #[v, .int .i64 x] w fun e w' => ∃ r, e = .returned (.int .i64 r) ∧ IdxR (fun y => x == y) xs r ∧ Below w.heap.size w w' := by
  obtain ⟨ao, c, rfl, hx⟩ := B.form
  have HB := Lib.hid hx
  have hl := B.le
  unfold maxLen at hl
  clear hx B
  go_enter Try.func69, Try.ntmps69
  go_wp2_with fail
  go_loopw [8] (fun i wr => ∃ k : Nat, k ≤ xs.length ∧ i = .int .i64 k ∧ Hid ((xs.take k).any (fun y => x == y) = false) ∧ Below w.heap.size w wr) (fun i _ => xs.length - (intOf i).toNat)
  case atStart => exact ⟨0, Nat.zero_le _, rfl, by rfl, (by repeat (first | (with_reducible exact Below.refl _ _) | (with_reducible assumption) | (with_reducible refine Below.drew ?_) | (with_reducible refine Below.drewN ?_) | ((with_reducible refine Below.al ?_ ?_); · first | omega | (simp; done) | (simp; omega)) | ((with_reducible refine Below.sc ?_ ?_); · first | omega | (simp; done) | (simp; omega)) | ((with_reducible refine Below.thru hb ?_ ?_); · first | omega | (simp; done) | (simp; omega)) | ((with_reducible refine Below.thru hb4 ?_ ?_); · first | omega | (simp; done) | (simp; omega)) | ((with_reducible refine Below.thru hb5 ?_ ?_); · first | omega | (simp; done) | (simp; omega))))⟩
  case round =>
    obtain ⟨k, hk, rfl, hall, kwr⟩ := hrel
    by_cases hlt : k < xs.length
    · have i0 : (0 : Int) ≤ (k : Int) := by omega
      have i1 : (k : Int) < (xs.length : Int) := by omega
      obtain ⟨a, rfl, ha⟩ := HB.out (by omega)
      have c1 : wr.cell? (a.add k) = some (.int .i64 xs[k]) := by
        have e := ha k hlt
        rw [kwr.cell (block_lt_of_cell e :)]
        exact e
      have HT := Lib.hid (any_take_succ (fun y => x == y) xs k hlt)
      have HG := Lib.hid (any_of_get (fun y => x == y) xs k hlt)
      clear ha
      generalize xs[k] = y at *
      by_cases hq : x = y
      · subst hq
        go_wp2
        go_ret
        exact ⟨(k : Int), rfl, ⟨by omega, by omega, by rw [HG.out (by simp)]; simp⟩, (by repeat (first | (with_reducible exact Below.refl _ _) | (with_reducible assumption) | (with_reducible refine Below.drew ?_) | (with_reducible refine Below.drewN ?_) | ((with_reducible refine Below.al ?_ ?_); · first | omega | (simp; done) | (simp; omega)) | ((with_reducible refine Below.sc ?_ ?_); · first | omega | (simp; done) | (simp; omega)) | ((with_reducible refine Below.thru hb ?_ ?_); · first | omega | (simp; done) | (simp; omega)) | ((with_reducible refine Below.thru hb4 ?_ ?_); · first | omega | (simp; done) | (simp; omega)) | ((with_reducible refine Below.thru hb5 ?_ ?_); · first | omega | (simp; done) | (simp; omega))))⟩
      · have HQ := Lib.hid hq
        go_wp2
        go_roundw
        case rel => exact ⟨k + 1, by omega, by go_num, Lib.hid (by rw [HT.out, hall.out]; simp [HQ.out]), (by repeat (first | (with_reducible exact Below.refl _ _) | (with_reducible assumption) | (with_reducible refine Below.drew ?_) | (with_reducible refine Below.drewN ?_) | ((with_reducible refine Below.al ?_ ?_); · first | omega | (simp; done) | (simp; omega)) | ((with_reducible refine Below.sc ?_ ?_); · first | omega | (simp; done) | (simp; omega)) | ((with_reducible refine Below.thru hb ?_ ?_); · first | omega | (simp; done) | (simp; omega)) | ((with_reducible refine Below.thru hb4 ?_ ?_); · first | omega | (simp; done) | (simp; omega)) | ((with_reducible refine Below.thru hb5 ?_ ?_); · first | omega | (simp; done) | (simp; omega))))⟩
        case measure => first | (simp [intOf]; done) | (simp [intOf]; omega)
    · have HF := Lib.hid (show xs.any (fun y => x == y) = false by have := hall.out; rwa [List.take_of_length_le (by omega)] at this)
      go_wp2
      go_ret
      exact ⟨-1, rfl, ⟨by omega, by omega, by rw [HF.out]; rfl⟩, (by repeat (first | (with_reducible exact Below.refl _ _) | (with_reducible assumption) | (with_reducible refine Below.drew ?_) | (with_reducible refine Below.drewN ?_) | ((with_reducible refine Below.al ?_ ?_); · first | omega | (simp; done) | (simp; omega)) | ((with_reducible refine Below.sc ?_ ?_); · first | omega | (simp; done) | (simp; omega)) | ((with_reducible refine Below.thru hb ?_ ?_); · first | omega | (simp; done) | (simp; omega)) | ((with_reducible refine Below.thru hb4 ?_ ?_); · first | omega | (simp; done) | (simp; omega)) | ((with_reducible refine Below.thru hb5 ?_ ?_); · first | omega | (simp; done) | (simp; omega))))⟩
theorem containsS_any (v : Value) (xs : List Int) (x : Int) (w : World) (B : SlIn w .i64 v xs) :
    Calls Try.prog 46 #[v, .int .i64 x] w fun e w' => e = .returned (.bool (xs.any (fun y => x == y))) ∧ Below w.heap.size w w' := by
  have HI := Lib.hid (indexS_any v xs x w B)
  clear B
  go_enter Try.func46, Try.ntmps46
  go_wp2_with fail
  refine HI.out.mono ?_
  rintro e w1 ⟨r, rfl, hr, k1⟩
  have HR := Lib.hid hr.2.2
  clear hr
  go_wp2
  go_ret
  exact ⟨by rw [← HR.out]; rfl, (by repeat (first | (with_reducible exact Below.refl _ _) | (with_reducible assumption) | (with_reducible refine Below.drew ?_) | (with_reducible refine Below.drewN ?_) | ((with_reducible refine Below.al ?_ ?_); · first | omega | (simp; done) | (simp; omega)) | ((with_reducible refine Below.sc ?_ ?_); · first | omega | (simp; done) | (simp; omega)) | ((with_reducible refine Below.thru hb ?_ ?_); · first | omega | (simp; done) | (simp; omega)) | ((with_reducible refine Below.thru hb4 ?_ ?_); · first | omega | (simp; done) | (simp; omega)) | ((with_reducible refine Below.thru hb5 ?_ ?_); · first | omega | (simp; done) | (simp; omega))))⟩
set_option maxHeartbeats 1000000 in
theorem hasI_any (v : Value) (xs : List Int) (x : Int) (g : Nat) (w : World) (B : SlIn w .i64 v xs) (hg : w.cell? ⟨g, 0, none⟩ = some (.int .i64 x)) :
    Calls Try.prog 66 #[v, .pointer (some ⟨g, 0, none⟩)] w fun e w' => e = .returned (.bool (xs.any (fun y => x == y))) ∧ Below w.heap.size w w' := by
  have HI := Lib.hid (containsS_any v xs x w B)
  clear B
  go_enter Try.func66, Try.ntmps66
  go_wp2_with fail
  refine HI.out.mono ?_
  rintro e w1 ⟨rfl, k1⟩
  go_wp2
  go_ret
  exact ⟨rfl, (by repeat (first | (with_reducible exact Below.refl _ _) | (with_reducible assumption) | (with_reducible refine Below.drew ?_) | (with_reducible refine Below.drewN ?_) | ((with_reducible refine Below.al ?_ ?_); · first | omega | (simp; done) | (simp; omega)) | ((with_reducible refine Below.sc ?_ ?_); · first | omega | (simp; done) | (simp; omega)) | ((with_reducible refine Below.thru hb ?_ ?_); · first | omega | (simp; done) | (simp; omega)) | ((with_reducible refine Below.thru hb4 ?_ ?_); · first | omega | (simp; done) | (simp; omega)) | ((with_reducible refine Below.thru hb5 ?_ ?_); · first | omega | (simp; done) | (simp; omega))))⟩
/-- The place of the row that has the number. -/
theorem atV {w : World} {B g : Nat} {vs : List Sl} {c : Nat} (O : OwnK encV 25 w B (.slice (some ⟨g, 0, none⟩) vs.length c) vs) {k : Nat} (hk : k < vs.length) : w.cell? ⟨g, k, none⟩ = some vs[k].v := by
  have := OwnK.at (j := k) (i := 0) O rfl (List.getElem?_eq_getElem hk) rfl
  rwa [show k * encV.k + 0 = k by show k * 1 + 0 = k; omega] at this
set_option maxRecDepth 8000 in
set_option maxHeartbeats 1000000 in
theorem indexC_any (v : Value) (vs : List Sl) (css : List (List Nat)) (x : Int) (t g B B2 : Nat) (w : World) (O : OwnK encV 25 w B v vs) (R : RowS w B2 vs css) (hg : w.cell? ⟨g, 0, none⟩ = some (.int .i64 x)) (ht : t < css.length) (hit : ∀ k (hk : k < css.length), ((css[k].map Int.ofNat).any fun y => x == y) = decide (k = t)) :
    Calls Try.prog 65 #[v, .func (.func 66) #[] #[.pointer (some ⟨g, 0, none⟩)]] w fun e w' => e = .returned (.int .i64 (t : Int)) ∧ Below w.heap.size w w' := by
  have hvl := R.len
  have hml : vs.length ≤ maxLen := by
    rcases O.form with ⟨-, rfl⟩ | ⟨_, _, -, -, -, h1, h2, -⟩
    · simp
    · omega
  unfold maxLen at hml
  obtain ⟨gv, c, rfl⟩ : ∃ gv c, v = .slice (some ⟨gv, 0, none⟩) vs.length c := by
    rcases O.form with ⟨rfl, rfl⟩ | ⟨gv, c, h, -⟩
    · simp at hvl; omega
    · exact ⟨gv, c, h⟩
  have HC := Lib.hid (show ∀ k (hk : k < vs.length), w.cell? ⟨gv, k, none⟩ = some vs[k].v ∧ ∀ w', Below w.heap.size w w' → Calls Try.prog 66 #[vs[k].v, .pointer (some ⟨g, 0, none⟩)] w' fun e w'' => e = .returned (.bool (decide (k = t))) ∧ Below w'.heap.size w' w'' from fun k hk => ⟨atV O hk, fun w' hw => by
    have h1 := (R.at k hk (by omega)).slIn.below hw
    have := hasI_any _ _ x g w' h1 ((hw.cell (block_lt_of_cell hg :)).trans hg)
    rwa [hit k (by omega)] at this⟩)
  obtain ⟨N, hN⟩ : ∃ N, vs.length = N := ⟨_, rfl⟩
  have HN := Lib.hid hN
  rw [← hvl] at ht
  rw [hN] at ht hml ⊢
  clear R O hit hvl hg hN
  go_enter Try.func65, Try.ntmps65
  go_wp2_with fail
  go_loopw [8] (fun i wr => ∃ k : Nat, k ≤ t ∧ i = .int .i64 k ∧ Below w.heap.size w wr) (fun i _ => N - (intOf i).toNat)
  case atStart => exact ⟨0, Nat.zero_le _, rfl, (by repeat (first | (with_reducible exact Below.refl _ _) | (with_reducible assumption) | (with_reducible refine Below.drew ?_) | (with_reducible refine Below.drewN ?_) | ((with_reducible refine Below.al ?_ ?_); · first | omega | (simp; done) | (simp; omega)) | ((with_reducible refine Below.sc ?_ ?_); · first | omega | (simp; done) | (simp; omega)) | ((with_reducible refine Below.thru hb ?_ ?_); · first | omega | (simp; done) | (simp; omega)) | ((with_reducible refine Below.thru hb4 ?_ ?_); · first | omega | (simp; done) | (simp; omega)) | ((with_reducible refine Below.thru hb5 ?_ ?_); · first | omega | (simp; done) | (simp; omega))))⟩
  case round =>
    obtain ⟨k, hk, rfl, kwr⟩ := hrel
    have hlt : k < N := by omega
    obtain ⟨c0, hcall⟩ := HC.out k (by rw [HN.out]; exact hlt)
    have c1 : wr.cell? ⟨gv, k, none⟩ = some (vs[k]'(by rw [HN.out]; exact hlt)).v := (kwr.cell (block_lt_of_cell c0 :)).trans c0
    have HCC := Lib.hid (hcall wr kwr)
    have i0 : (0 : Int) ≤ (k : Int) := by omega
    have i1 : (k : Int) < (N : Int) := by omega
    clear hcall c0
    generalize vs[k]'(by rw [HN.out]; exact hlt) = s at *
    have swr := kwr.size
    by_cases hq : k = t
    · rw [decide_eq_true hq] at HCC
      subst hq
      go_wp2_with fail
      refine HCC.out.mono ?_
      rintro e w2 ⟨rfl, k2⟩
      have k3 : Below w.heap.size w w2 := kwr.trans (k2.mono swr)
      clear k2 c1 kwr
      go_wp2
      go_ret
      exact ⟨rfl, (by repeat (first | (with_reducible exact Below.refl _ _) | (with_reducible assumption) | (with_reducible refine Below.drew ?_) | (with_reducible refine Below.drewN ?_) | ((with_reducible refine Below.al ?_ ?_); · first | omega | (simp; done) | (simp; omega)) | ((with_reducible refine Below.sc ?_ ?_); · first | omega | (simp; done) | (simp; omega)) | ((with_reducible refine Below.thru hb ?_ ?_); · first | omega | (simp; done) | (simp; omega)) | ((with_reducible refine Below.thru hb4 ?_ ?_); · first | omega | (simp; done) | (simp; omega)) | ((with_reducible refine Below.thru hb5 ?_ ?_); · first | omega | (simp; done) | (simp; omega))))⟩
    · rw [decide_eq_false hq] at HCC
      have HQ := Lib.hid hq
      clear hq
      go_wp2_with fail
      refine HCC.out.mono ?_
      rintro e w2 ⟨rfl, k2⟩
      have k3 : Below w.heap.size w w2 := kwr.trans (k2.mono swr)
      clear k2 c1 kwr
      go_wp2
      go_roundw
      case rel => exact ⟨k + 1, by have := HQ.out; omega, by go_num, (by repeat (first | (with_reducible exact Below.refl _ _) | (with_reducible assumption) | (with_reducible refine Below.drew ?_) | (with_reducible refine Below.drewN ?_) | ((with_reducible refine Below.al ?_ ?_); · first | omega | (simp; done) | (simp; omega)) | ((with_reducible refine Below.sc ?_ ?_); · first | omega | (simp; done) | (simp; omega)) | ((with_reducible refine Below.thru hb ?_ ?_); · first | omega | (simp; done) | (simp; omega)) | ((with_reducible refine Below.thru hb4 ?_ ?_); · first | omega | (simp; done) | (simp; omega)) | ((with_reducible refine Below.thru hb5 ?_ ?_); · first | omega | (simp; done) | (simp; omega))))⟩
      case measure => first | (simp [intOf]; done) | (simp [intOf]; omega)

set_option maxRecDepth 8000 in
set_option maxHeartbeats 1000000 in
theorem cuspOf_any (n : Nat) (p : Int) (q j : Nat) (h : cfQ n (lineL n) p q = some j) (HV : Lvl n) (hp : -1000000 ≤ p ∧ p ≤ 1000000) (hq : q ≤ 1000000) (hf : fracB p (q : Int) = true) (w : World) :
    Calls Try.prog 39 #[.int .i64 (n : Int), .agg #[.int .i64 p, .int .i64 (q : Int)]] w fun e w' => e = .returned (.tuple #[.int .i64 ((numL (movL n tM) (lineL n).length).getD j 0), .int .i64 0]) ∧ Below w.heap.size w w' := by
  have hmf : ∀ (fn : Fn) (first cap : Array Value) (w : World), (Instr.makeFunc fn first cap).run Try.prog w = .ok (.func fn first cap) w := fun _ _ _ _ => rfl
  obtain ⟨rs, hb, hi⟩ := cfQ_eq h
  have hj := cfQ_lt h
  have hn := HV.n1
  have hl := HV.l72
  have HIS := Lib.hid (fun w' => IsFraction_any p (q : Int) w')
  rw [hf] at HIS
  have HLV := Lib.hid (fun w' => isLevel_any (n : Int) w')
  rw [inB_mk (by omega)] at HLV
  have HBZ := Lib.hid (fun w' => bezout_any p (q : Int) rs hb hp (by omega) w')
  have HLN := Lib.hid (fun w' => line_any n w' hn)
  have HCO := Lib.hid (fun v B w' O => coset_any n (q : Int) rs.2 (lineL n) v B w' O (by omega) hn)
  rw [hi] at HCO
  have HCU := Lib.hid (fun w' => cusps_any n w' HV)
  have hbd := numL_bd (movL n tM) hj
  have hnl := numL_len (movL n tM) (lineL n).length
  obtain ⟨t, htt⟩ := Int.eq_ofNat_of_zero_le hbd.1
  have HIX := Lib.hid (show ∀ (v : Value) (vs : List Sl) (css : List (List Nat)) (g B B2 : Nat) (w' : World), OwnK encV 25 w' B v vs → RowS w' B2 vs css → w'.cell? ⟨g, 0, none⟩ = some (.int .i64 (j : Int)) → OrbOf css (numL (movL n tM) (lineL n).length) → css.length = numC (movL n tM) (lineL n).length → Calls Try.prog 65 #[v, .func (.func 66) #[] #[.pointer (some ⟨g, 0, none⟩)]] w' fun e w'' => e = .returned (.int .i64 (t : Int)) ∧ Below w'.heap.size w' w'' from
    fun v vs css g B B2 w' O R hg ho hc => indexC_any v vs css (j : Int) t g B B2 w' O R hg (by rw [hc]; omega) (fun k hk => by
      rw [Bool.eq_iff_iff, decide_eq_true_iff, List.any_eq_true]
      constructor
      · rintro ⟨y, hy, e⟩
        obtain ⟨z, hz, rfl⟩ := List.mem_map.1 hy
        have e2 : (j : Int) = (z : Int) := eq_of_beq e
        have e3 : z = j := by omega
        subst e3
        have := ((ho k hk z).1 hz).2
        omega
      · rintro rfl
        exact ⟨Int.ofNat j, List.mem_map.2 ⟨j, (ho k hk j).2 ⟨by rw [hnl]; exact hj, htt⟩, rfl⟩, by simp⟩))
  rw [htt]
  clear hf h hb hi hj hbd hnl htt HV hl hn hp hq
  generalize movL n tM = P at *
  generalize lineL n = L at *
  obtain ⟨r1, r2⟩ := rs
  go_enter Try.func39, Try.ntmps39
  go_wp2_with fail
  refine (HIS.out _).mono ?_
  rintro e w1 ⟨rfl, hb⟩
  have B1 : Blk w1 (w.heap.size) 59 (#[.int .i64 p, .int .i64 (q : Int)]) := (by repeat (first | (with_reducible assumption) | ((with_reducible refine Blk.new ?_); · first | omega | (simp; done) | (simp; omega)) | (with_reducible apply Blk.set4) | (with_reducible apply Blk.set3) | (with_reducible apply Blk.set2) | ((with_reducible refine Blk.put ?_ ?_); · first | omega | (simp; omega)) | (with_reducible refine Blk.old ?_) | (with_reducible refine Blk.drew ?_) | (with_reducible refine Blk.drewN ?_) | ((with_reducible refine Blk.below hb ?_ ?_); · first | omega | (simp; done) | (simp; omega)) | ((with_reducible refine Blk.below hb4 ?_ ?_); · first | omega | (simp; done) | (simp; omega)) | ((with_reducible refine Blk.below hb5 ?_ ?_); · first | omega | (simp; done) | (simp; omega))))
  have lB1 := B1.lt
  have kw1 : Below w.heap.size w w1 := (by repeat (first | (with_reducible exact Below.refl _ _) | (with_reducible assumption) | (with_reducible refine Below.drew ?_) | (with_reducible refine Below.drewN ?_) | ((with_reducible refine Below.al ?_ ?_); · first | omega | (simp; done) | (simp; omega)) | ((with_reducible refine Below.sc ?_ ?_); · first | omega | (simp; done) | (simp; omega)) | ((with_reducible refine Below.thru hb ?_ ?_); · first | omega | (simp; done) | (simp; omega)) | ((with_reducible refine Below.thru hb4 ?_ ?_); · first | omega | (simp; done) | (simp; omega)) | ((with_reducible refine Below.thru hb5 ?_ ?_); · first | omega | (simp; done) | (simp; omega))))
  have sw1 := kw1.size
  clear hb
  go_wp2_with fail
  refine (HLV.out _).mono ?_
  rintro e w2 ⟨rfl, rfl⟩
  have c0 := B1.at (i := 0) rfl
  have c1 := B1.at (i := 1) rfl
  go_wp2_with fail
  refine (HBZ.out _).mono ?_
  rintro e w3 ⟨rfl, hb⟩
  have B3 : Blk w3 (w.heap.size) 59 (#[.int .i64 p, .int .i64 (q : Int)]) := (by repeat (first | (with_reducible assumption) | ((with_reducible refine Blk.new ?_); · first | omega | (simp; done) | (simp; omega)) | (with_reducible apply Blk.set4) | (with_reducible apply Blk.set3) | (with_reducible apply Blk.set2) | ((with_reducible refine Blk.put ?_ ?_); · first | omega | (simp; omega)) | (with_reducible refine Blk.old ?_) | (with_reducible refine Blk.drew ?_) | (with_reducible refine Blk.drewN ?_) | ((with_reducible refine Blk.below hb ?_ ?_); · first | omega | (simp; done) | (simp; omega)) | ((with_reducible refine Blk.below hb4 ?_ ?_); · first | omega | (simp; done) | (simp; omega)) | ((with_reducible refine Blk.below hb5 ?_ ?_); · first | omega | (simp; done) | (simp; omega))))
  have lB3 := B3.lt
  have kw3 : Below w.heap.size w w3 := (by repeat (first | (with_reducible exact Below.refl _ _) | (with_reducible assumption) | (with_reducible refine Below.drew ?_) | (with_reducible refine Below.drewN ?_) | ((with_reducible refine Below.al ?_ ?_); · first | omega | (simp; done) | (simp; omega)) | ((with_reducible refine Below.sc ?_ ?_); · first | omega | (simp; done) | (simp; omega)) | ((with_reducible refine Below.thru hb ?_ ?_); · first | omega | (simp; done) | (simp; omega)) | ((with_reducible refine Below.thru hb4 ?_ ?_); · first | omega | (simp; done) | (simp; omega)) | ((with_reducible refine Below.thru hb5 ?_ ?_); · first | omega | (simp; done) | (simp; omega))))
  have sw3 := kw3.size
  clear hb
  have d0 := B3.at (i := 0) rfl
  have d1 := B3.at (i := 1) rfl
  go_wp2_with fail
  go_cut [8] (fun s8 wx => ∃ g : Nat, Blk wx g 2 #[.int .i64 (j : Int)] ∧ w.heap.size ≤ g ∧ s8 = .pointer (some ⟨g, 0, none⟩) ∧ Below w3.heap.size w3 wx)
  case first =>
    go_region_held3 (fun w' => w'.cell? ⟨w.heap.size, 0, none⟩ = some (.int .i64 p) ∧ w'.cell? ⟨w.heap.size, 1, none⟩ = some (.int .i64 (q : Int))) (first | go_keep | exact ⟨e0, e1⟩ | exact ⟨(cell_put (by omega)).trans f0, (cell_put (by omega)).trans f1⟩) (first | (go_at_call 29; refine (HLN.out _).mono ?_; rintro e w4 ⟨v4, rfl, O4, hb4⟩; have hbc4 := bcell hb4; have hbs4 := hb4.size; (try simp at hbs4); have t2 : w3.heap.size < w4.heap.size + 1 := (by omega); (try have t1 : w3.heap.size < w4.heap.size := (by omega)); have E0 : Blk w4 w.heap.size 59 #[.int .i64 p, .int .i64 (q : Int)] := (by repeat (first | (with_reducible assumption) | ((with_reducible refine Blk.new ?_); · first | omega | (simp; done) | (simp; omega)) | (with_reducible apply Blk.set4) | (with_reducible apply Blk.set3) | (with_reducible apply Blk.set2) | ((with_reducible refine Blk.put ?_ ?_); · first | omega | (simp; omega)) | (with_reducible refine Blk.old ?_) | (with_reducible refine Blk.drew ?_) | (with_reducible refine Blk.drewN ?_) | ((with_reducible refine Blk.below hb ?_ ?_); · first | omega | (simp; done) | (simp; omega)) | ((with_reducible refine Blk.below hb4 ?_ ?_); · first | omega | (simp; done) | (simp; omega)) | ((with_reducible refine Blk.below hb5 ?_ ?_); · first | omega | (simp; done) | (simp; omega)))); have l0 := E0.lt; have e0 := E0.at (i := 0) rfl; have e1 := E0.at (i := 1) rfl) | (go_at_call 64; refine (HCO.out v4 _ _ (by first | exact O4 | exact O4.alloc)).mono ?_; rintro e w5 ⟨rfl, hb5⟩; have hbc5 := bcell hb5; have hbs5 := hb5.size; (try simp at hbs5); (try have t3 : w4.heap.size < w5.heap.size := (by omega)); (try have t5 : w3.heap.size < w5.heap.size := (by omega)); have G0 : Blk w5 w.heap.size 59 #[.int .i64 p, .int .i64 (q : Int)] := (by repeat (first | (with_reducible assumption) | ((with_reducible refine Blk.new ?_); · first | omega | (simp; done) | (simp; omega)) | (with_reducible apply Blk.set4) | (with_reducible apply Blk.set3) | (with_reducible apply Blk.set2) | ((with_reducible refine Blk.put ?_ ?_); · first | omega | (simp; omega)) | (with_reducible refine Blk.old ?_) | (with_reducible refine Blk.drew ?_) | (with_reducible refine Blk.drewN ?_) | ((with_reducible refine Blk.below hb ?_ ?_); · first | omega | (simp; done) | (simp; omega)) | ((with_reducible refine Blk.below hb4 ?_ ?_); · first | omega | (simp; done) | (simp; omega)) | ((with_reducible refine Blk.below hb5 ?_ ?_); · first | omega | (simp; done) | (simp; omega)))); have m0 := G0.lt; have f0 := G0.at (i := 0) rfl; have f1 := G0.at (i := 1) rfl))
    all_goals go_wp2_with fail
    all_goals go_meet
    all_goals first | exact ⟨_, Blk.new rfl, by omega, rfl, (by repeat (first | (with_reducible exact Below.refl _ _) | (with_reducible assumption) | (with_reducible refine Below.drew ?_) | (with_reducible refine Below.drewN ?_) | ((with_reducible refine Below.al ?_ ?_); · first | omega | (simp; done) | (simp; omega)) | ((with_reducible refine Below.sc ?_ ?_); · first | omega | (simp; done) | (simp; omega)) | ((with_reducible refine Below.thru hb ?_ ?_); · first | omega | (simp; done) | (simp; omega)) | ((with_reducible refine Below.thru hb4 ?_ ?_); · first | omega | (simp; done) | (simp; omega)) | ((with_reducible refine Below.thru hb5 ?_ ?_); · first | omega | (simp; done) | (simp; omega))))⟩ | exact ⟨_, Blk.set (cs := #[.int .i64 0]) (by repeat (first | (with_reducible assumption) | ((with_reducible refine Blk.new ?_); · first | omega | (simp; done) | (simp; omega)) | (with_reducible apply Blk.set4) | (with_reducible apply Blk.set3) | (with_reducible apply Blk.set2) | ((with_reducible refine Blk.put ?_ ?_); · first | omega | (simp; omega)) | (with_reducible refine Blk.old ?_) | (with_reducible refine Blk.drew ?_) | (with_reducible refine Blk.drewN ?_) | ((with_reducible refine Blk.below hb ?_ ?_); · first | omega | (simp; done) | (simp; omega)) | ((with_reducible refine Blk.below hb4 ?_ ?_); · first | omega | (simp; done) | (simp; omega)) | ((with_reducible refine Blk.below hb5 ?_ ?_); · first | omega | (simp; done) | (simp; omega)))), by omega, rfl, (by repeat (first | (with_reducible exact Below.refl _ _) | (with_reducible assumption) | (with_reducible refine Below.drew ?_) | (with_reducible refine Below.drewN ?_) | ((with_reducible refine Below.al ?_ ?_); · first | omega | (simp; done) | (simp; omega)) | ((with_reducible refine Below.sc ?_ ?_); · first | omega | (simp; done) | (simp; omega)) | ((with_reducible refine Below.thru hb ?_ ?_); · first | omega | (simp; done) | (simp; omega)) | ((with_reducible refine Below.thru hb4 ?_ ?_); · first | omega | (simp; done) | (simp; omega)) | ((with_reducible refine Below.thru hb5 ?_ ?_); · first | omega | (simp; done) | (simp; omega))))⟩
  case rest =>
    obtain ⟨g, B5, hg, rfl, hb⟩ := hcut
    have kw5 : Below w.heap.size w wc := (by repeat (first | (with_reducible exact Below.refl _ _) | (with_reducible assumption) | (with_reducible refine Below.drew ?_) | (with_reducible refine Below.drewN ?_) | ((with_reducible refine Below.al ?_ ?_); · first | omega | (simp; done) | (simp; omega)) | ((with_reducible refine Below.sc ?_ ?_); · first | omega | (simp; done) | (simp; omega)) | ((with_reducible refine Below.thru hb ?_ ?_); · first | omega | (simp; done) | (simp; omega)) | ((with_reducible refine Below.thru hb4 ?_ ?_); · first | omega | (simp; done) | (simp; omega)) | ((with_reducible refine Below.thru hb5 ?_ ?_); · first | omega | (simp; done) | (simp; omega))))
    have sw5 := kw5.size
    have lB5 := B5.lt
    clear hb
    go_wp2_with fail
    refine (HCU.out _).mono ?_
    rintro e w6 ⟨v6, vs, css, rfl, O6, R6, ho, hc, hb⟩
    have B6 : Blk w6 g 2 #[.int .i64 (j : Int)] := (by repeat (first | (with_reducible assumption) | ((with_reducible refine Blk.new ?_); · first | omega | (simp; done) | (simp; omega)) | (with_reducible apply Blk.set4) | (with_reducible apply Blk.set3) | (with_reducible apply Blk.set2) | ((with_reducible refine Blk.put ?_ ?_); · first | omega | (simp; omega)) | (with_reducible refine Blk.old ?_) | (with_reducible refine Blk.drew ?_) | (with_reducible refine Blk.drewN ?_) | ((with_reducible refine Blk.below hb ?_ ?_); · first | omega | (simp; done) | (simp; omega)) | ((with_reducible refine Blk.below hb4 ?_ ?_); · first | omega | (simp; done) | (simp; omega)) | ((with_reducible refine Blk.below hb5 ?_ ?_); · first | omega | (simp; done) | (simp; omega))))
    have lB6 := B6.lt
    have kw6 : Below w.heap.size w w6 := (by repeat (first | (with_reducible exact Below.refl _ _) | (with_reducible assumption) | (with_reducible refine Below.drew ?_) | (with_reducible refine Below.drewN ?_) | ((with_reducible refine Below.al ?_ ?_); · first | omega | (simp; done) | (simp; omega)) | ((with_reducible refine Below.sc ?_ ?_); · first | omega | (simp; done) | (simp; omega)) | ((with_reducible refine Below.thru hb ?_ ?_); · first | omega | (simp; done) | (simp; omega)) | ((with_reducible refine Below.thru hb4 ?_ ?_); · first | omega | (simp; done) | (simp; omega)) | ((with_reducible refine Below.thru hb5 ?_ ?_); · first | omega | (simp; done) | (simp; omega))))
    have sw6 := kw6.size
    clear hb
    go_wp2_with fail
    refine (HIX.out v6 vs css g _ _ _ O6 R6 (B6.at rfl) ho hc).mono ?_
    rintro e w7 ⟨rfl, hb⟩
    go_wp2
    go_ret2
    exact ⟨rfl, (by repeat (first | (with_reducible exact Below.refl _ _) | (with_reducible assumption) | (with_reducible refine Below.drew ?_) | (with_reducible refine Below.drewN ?_) | ((with_reducible refine Below.al ?_ ?_); · first | omega | (simp; done) | (simp; omega)) | ((with_reducible refine Below.sc ?_ ?_); · first | omega | (simp; done) | (simp; omega)) | ((with_reducible refine Below.thru hb ?_ ?_); · first | omega | (simp; done) | (simp; omega)) | ((with_reducible refine Below.thru hb4 ?_ ?_); · first | omega | (simp; done) | (simp; omega)) | ((with_reducible refine Below.thru hb5 ?_ ?_); · first | omega | (simp; done) | (simp; omega))))⟩

end Go.Proofs.Ytjjbaebddkejnaa
