import Derived.Test.YtjjbaebddkejnaaOrb
import Derived.Test.YtjjbaebddkejnaaFrc
import Derived.Test.YtjjbaebddkejnaaInv
import Derived.Test.YtjjbaebddkejnaaSrk
import Derived.Test.YtjjbaebddkejnaaTail
import Derived.Deep.OwnRows
import Derived.Test.YtjjbaebddkejnaaMv
/- The cusp of a fraction: the program's walks. -/
namespace Go.Proofs.Ytjjbaebddkejnaa
open Go.RowKit
set_option linter.unusedSimpArgs false

set_option maxRecDepth 8000 in
set_option maxHeartbeats 1000000 in
theorem cusps_any (n : Nat) (w : World) (HV : Lvl n) : Calls Try.prog 36 #[.int .i64 (n : Int)] w (GivesO (movL n tM) (lineL n).length w) := by
  have HM := Lib.hid (show ∀ w' : World, Calls Try.prog 58 #[.int .i64 (n : Int), .agg #[.int .i64 1, .int .i64 1, .int .i64 0, .int .i64 1]] w' (GivesI (movL n tM) w') from fun w' => moved_any n tM w' HV.n1 (by decide))
  have HO := Lib.hid (fun (v : Value) (w' : World) (h : SlIn w' .i64 v (movL n tM)) => orbits_any v (movL n tM) (lineL n).length w' h (movL_len n tM) HV.l0 HV.l72 (fun k hk => by
    have := HV.inL k hk
    rw [movL_getD hk]
    refine ⟨this, ?_⟩
    unfold mv1 at this ⊢
    exact idxP_lt this))
  obtain ⟨GF, hGF⟩ : ∃ GF, GivesO (movL n tM) (lineL n).length w = GF := ⟨_, rfl⟩
  rw [hGF]
  have HGF := Lib.hid hGF
  clear hGF HV
  generalize movL n tM = P at *
  generalize (lineL n).length = N at *
  go_enter Try.func36, Try.ntmps36
  go_wp2_with fail
  refine (HM.out _).mono ?_
  rintro e w1 ⟨v1, rfl, O1, k1⟩
  have s1 := k1.size
  go_wp2_with fail
  refine (HO.out v1 w1 O1.slIn).mono ?_
  rintro e w2 ⟨v2, vs, css, rfl, O2, R2, hob, hc, k2⟩
  go_wp2
  rw [← HGF.out]
  exact ⟨v2, vs, css, rfl, O2.mono s1, R2.mono s1, hob, hc, k1.trans (k2.mono s1)⟩
theorem SlIn.le {w : World} {k : IntKind} {v : Value} {xs : List Int} (h : SlIn w k v xs) : xs.length ≤ maxLen := by
  rcases h with ⟨rfl, rfl⟩ | ⟨a, c, rfl, h1, h2, _⟩
  · simp
  · omega
/-- An index, or -1: in a slice that is read. -/
theorem indexS_any (v : Value) (xs : List Int) (x : Int) (w : World) (B : SlIn w .i64 v xs) :
    Calls Try.prog 69 #[v, .int .i64 x] w fun e w' => ∃ r, e = .returned (.int .i64 r) ∧ IdxR (fun y => x == y) xs r ∧ Below w.heap.size w w' := by
  obtain ⟨ao, c, rfl, hx⟩ := B.form
  have HB := Lib.hid hx
  have hl := B.le
  unfold maxLen at hl
  clear hx B
  go_enter Try.func69, Try.ntmps69
  go_wp2_with fail
  go_loopw [8] (fun i wr => ∃ k : Nat, k ≤ xs.length ∧ i = .int .i64 k ∧ Hid ((xs.take k).any (fun y => x == y) = false) ∧ Below w.heap.size w wr) (fun i _ => xs.length - (intOf i).toNat)
  case atStart => exact ⟨0, Nat.zero_le _, rfl, by rfl, (by repeat (first | (with_reducible exact Below.refl _ _) | (with_reducible assumption) | (with_reducible refine Below.drew ?_) | (with_reducible refine Below.drewN ?_) | ((with_reducible refine Below.al ?_ ?_); · first | omega | (simp; done) | (simp; omega)) | ((with_reducible refine Below.sc ?_ ?_); · first | omega | (simp; done) | (simp; omega)) | ((with_reducible refine Below.thru hb ?_ ?_); · first | omega | (simp; done) | (simp; omega)) | ((with_reducible refine Below.thru hb4 ?_ ?_); · first | omega | (simp; done) | (simp; omega)) | ((with_reducible refine Below.thru hb5 ?_ ?_); · first | omega | (simp; done) | (simp; omega))))⟩
  case round =>
    obtain ⟨k, hk, rfl, hall, kwr⟩ := hrel
    by_cases hlt : k < xs.length
    · have i0 : (0 : Int) ≤ (k : Int) := by omega
      have i1 : (k : Int) < (xs.length : Int) := by omega
      obtain ⟨a, rfl, ha⟩ := HB.out (by omega)
      have c1 : wr.cell? (a.add k) = some (.int .i64 xs[k]) := by
        have e := ha k hlt
        rw [kwr.cell (block_lt_of_cell e :)]
        exact e
      have HT := Lib.hid (any_take_succ (fun y => x == y) xs k hlt)
      have HG := Lib.hid (any_of_get (fun y => x == y) xs k hlt)
      clear ha
      generalize xs[k] = y at *
      by_cases hq : x = y
      · subst hq
        go_wp2
        go_ret
        exact ⟨(k : Int), rfl, ⟨by omega, by omega, by rw [HG.out (by simp)]; simp⟩, (by repeat (first | (with_reducible exact Below.refl _ _) | (with_reducible assumption) | (with_reducible refine Below.drew ?_) | (with_reducible refine Below.drewN ?_) | ((with_reducible refine Below.al ?_ ?_); · first | omega | (simp; done) | (simp; omega)) | ((with_reducible refine Below.sc ?_ ?_); · first | omega | (simp; done) | (simp; omega)) | ((with_reducible refine Below.thru hb ?_ ?_); · first | omega | (simp; done) | (simp; omega)) | ((with_reducible refine Below.thru hb4 ?_ ?_); · first | omega | (simp; done) | (simp; omega)) | ((with_reducible refine Below.thru hb5 ?_ ?_); · first | omega | (simp; done) | (simp; omega))))⟩
      · have HQ := Lib.hid hq
        go_wp2
        go_roundw
        case rel => exact ⟨k + 1, by omega, by go_num, Lib.hid (by rw [HT.out, hall.out]; simp [HQ.out]), (by repeat (first | (with_reducible exact Below.refl _ _) | (with_reducible assumption) | (with_reducible refine Below.drew ?_) | (with_reducible refine Below.drewN ?_) | ((with_reducible refine Below.al ?_ ?_); · first | omega | (simp; done) | (simp; omega)) | ((with_reducible refine Below.sc ?_ ?_); · first | omega | (simp; done) | (simp; omega)) | ((with_reducible refine Below.thru hb ?_ ?_); · first | omega | (simp; done) | (simp; omega)) | ((with_reducible refine Below.thru hb4 ?_ ?_); · first | omega | (simp; done) | (simp; omega)) | ((with_reducible refine Below.thru hb5 ?_ ?_); · first | omega | (simp; done) | (simp; omega))))⟩
        case measure => first | (simp [intOf]; done) | (simp [intOf]; omega)
    · have HF := Lib.hid (show xs.any (fun y => x == y) = false by have := hall.out; rwa [List.take_of_length_le (by omega)] at this)
      go_wp2
      go_ret
      exact ⟨-1, rfl, ⟨by omega, by omega, by rw [HF.out]; rfl⟩, (by repeat (first | (with_reducible exact Below.refl _ _) | (with_reducible assumption) | (with_reducible refine Below.drew ?_) | (with_reducible refine Below.drewN ?_) | ((with_reducible refine Below.al ?_ ?_); · first | omega | (simp; done) | (simp; omega)) | ((with_reducible refine Below.sc ?_ ?_); · first | omega | (simp; done) | (simp; omega)) | ((with_reducible refine Below.thru hb ?_ ?_); · first | omega | (simp; done) | (simp; omega)) | ((with_reducible refine Below.thru hb4 ?_ ?_); · first | omega | (simp; done) | (simp; omega)) | ((with_reducible refine Below.thru hb5 ?_ ?_); · first | omega | (simp; done) | (simp; omega))))⟩
theorem containsS_any (v : Value) (xs : List Int) (x : Int) (w : World) (B : SlIn w .i64 v xs) :
    Calls Try.prog 46 #[v, .int .i64 x] w fun e w' => e = .returned (.bool (xs.any (fun y => x == y))) ∧ Below w.heap.size w w' := by
  have HI := Lib.hid (indexS_any v xs x w B)
  clear B
  go_enter Try.func46, Try.ntmps46
  go_wp2_with fail
  refine HI.out.mono ?_
  rintro e w1 ⟨r, rfl, hr, k1⟩
  have HR := Lib.hid hr.2.2
  clear hr
  go_wp2
  go_ret
  exact ⟨by rw [← HR.out]; rfl, (by repeat (first | (with_reducible exact Below.refl _ _) | (with_reducible assumption) | (with_reducible refine Below.drew ?_) | (with_reducible refine Below.drewN ?_) | ((with_reducible refine Below.al ?_ ?_); · first | omega | (simp; done) | (simp; omega)) | ((with_reducible refine Below.sc ?_ ?_); · first | omega | (simp; done) | (simp; omega)) | ((with_reducible refine Below.thru hb ?_ ?_); · first | omega | (simp; done) | (simp; omega)) | ((with_reducible refine Below.thru hb4 ?_ ?_); · first | omega | (simp; done) | (simp; omega)) | ((with_reducible refine Below.thru hb5 ?_ ?_); · first | omega | (simp; done) | (simp; omega))))⟩
set_option maxHeartbeats 1000000 in
theorem hasI_any (v : Value) (xs : List Int) (x : Int) (g : Nat) (w : World) (B : SlIn w .i64 v xs) (hg : w.cell? ⟨g, 0, none⟩ = some (.int .i64 x)) :
    Calls Try.prog 66 #[v, .pointer (some ⟨g, 0, none⟩)] w fun e w' => e = .returned (.bool (xs.any (fun y => x == y))) ∧ Below w.heap.size w w' := by
  have HI := Lib.hid (containsS_any v xs x w B)
  clear B
  go_enter Try.func66, Try.ntmps66
  go_wp2_with fail
  refine HI.out.mono ?_
  rintro e w1 ⟨rfl, k1⟩
  go_wp2
  go_ret
  exact ⟨rfl, (by repeat (first | (with_reducible exact Below.refl _ _) | (with_reducible assumption) | (with_reducible refine Below.drew ?_) | (with_reducible refine Below.drewN ?_) | ((with_reducible refine Below.al ?_ ?_); · first | omega | (simp; done) | (simp; omega)) | ((with_reducible refine Below.sc ?_ ?_); · first | omega | (simp; done) | (simp; omega)) | ((with_reducible refine Below.thru hb ?_ ?_); · first | omega | (simp; done) | (simp; omega)) | ((with_reducible refine Below.thru hb4 ?_ ?_); · first | omega | (simp; done) | (simp; omega)) | ((with_reducible refine Below.thru hb5 ?_ ?_); · first | omega | (simp; done) | (simp; omega))))⟩
/-- The place of the row that has the number. -/
theorem atV {w : World} {B g : Nat} {vs : List Sl} {c : Nat} (O : OwnK encV 25 w B (.slice (some ⟨g, 0, none⟩) vs.length c) vs) {k : Nat} (hk : k < vs.length) : w.cell? ⟨g, k, none⟩ = some vs[k].v := by
  have := OwnK.at (j := k) (i := 0) O rfl (List.getElem?_eq_getElem hk) rfl
  rwa [show k * encV.k + 0 = k by show k * 1 + 0 = k; omega] at this
set_option maxRecDepth 8000 in
set_option maxHeartbeats 1000000 in
theorem indexC_any (v : Value) (vs : List Sl) (css : List (List Nat)) (x : Int) (t g B B2 : Nat) (w : World) (O : OwnK encV 25 w B v vs) (R : RowS w B2 vs css) (hg : w.cell? ⟨g, 0, none⟩ = some (.int .i64 x)) (ht : t < css.length) (hit : ∀ k (hk : k < css.length), ((css[k].map Int.ofNat).any fun y => x == y) = decide (k = t)) :
    Calls Try.prog 65 #[v, .func (.func 66) #[] #[.pointer (some ⟨g, 0, none⟩)]] w fun e w' => e = .returned (.int .i64 (t : Int)) ∧ Below w.heap.size w w' := by
  have hvl := R.len
  have hml : vs.length ≤ maxLen := by
    rcases O.form with ⟨-, rfl⟩ | ⟨_, _, -, -, -, h1, h2, -⟩
    · simp
    · omega
  unfold maxLen at hml
  obtain ⟨gv, c, rfl⟩ : ∃ gv c, v = .slice (some ⟨gv, 0, none⟩) vs.length c := by
    rcases O.form with ⟨rfl, rfl⟩ | ⟨gv, c, h, -⟩
    · simp at hvl; omega
    · exact ⟨gv, c, h⟩
  have HC := Lib.hid (show ∀ k (hk : k < vs.length), w.cell? ⟨gv, k, none⟩ = some vs[k].v ∧ ∀ w', Below w.heap.size w w' → Calls Try.prog 66 #[vs[k].v, .pointer (some ⟨g, 0, none⟩)] w' fun e w'' => e = .returned (.bool (decide (k = t))) ∧ Below w'.heap.size w' w'' from fun k hk => ⟨atV O hk, fun w' hw => by
    have h1 := (R.at k hk (by omega)).slIn.below hw
    have := hasI_any _ _ x g w' h1 ((hw.cell (block_lt_of_cell hg :)).trans hg)
    rwa [hit k (by omega)] at this⟩)
  obtain ⟨N, hN⟩ : ∃ N, vs.length = N := ⟨_, rfl⟩
  have HN := Lib.hid hN
  rw [← hvl] at ht
  rw [hN] at ht hml ⊢
  clear R O hit hvl hg hN
  go_enter Try.func65, Try.ntmps65
  go_wp2_with fail
  go_loopw [8] (fun i wr => ∃ k : Nat, k ≤ t ∧ i = .int .i64 k ∧ Below w.heap.size w wr) (fun i _ => N - (intOf i).toNat)
  case atStart => exact ⟨0, Nat.zero_le _, rfl, (by repeat (first | (with_reducible exact Below.refl _ _) | (with_reducible assumption) | (with_reducible refine Below.drew ?_) | (with_reducible refine Below.drewN ?_) | ((with_reducible refine Below.al ?_ ?_); · first | omega | (simp; done) | (simp; omega)) | ((with_reducible refine Below.sc ?_ ?_); · first | omega | (simp; done) | (simp; omega)) | ((with_reducible refine Below.thru hb ?_ ?_); · first | omega | (simp; done) | (simp; omega)) | ((with_reducible refine Below.thru hb4 ?_ ?_); · first | omega | (simp; done) | (simp; omega)) | ((with_reducible refine Below.thru hb5 ?_ ?_); · first | omega | (simp; done) | (simp; omega))))⟩
  case round =>
    obtain ⟨k, hk, rfl, kwr⟩ := hrel
    have hlt : k < N := by omega
    obtain ⟨c0, hcall⟩ := HC.out k (by rw [HN.out]; exact hlt)
    have c1 : wr.cell? ⟨gv, k, none⟩ = some (vs[k]'(by rw [HN.out]; exact hlt)).v := (kwr.cell (block_lt_of_cell c0 :)).trans c0
    have HCC := Lib.hid (hcall wr kwr)
    have i0 : (0 : Int) ≤ (k : Int) := by omega
    have i1 : (k : Int) < (N : Int) := by omega
    clear hcall c0
    generalize vs[k]'(by rw [HN.out]; exact hlt) = s at *
    have swr := kwr.size
    by_cases hq : k = t
    · rw [decide_eq_true hq] at HCC
      subst hq
      go_wp2_with fail
      refine HCC.out.mono ?_
      rintro e w2 ⟨rfl, k2⟩
      have k3 : Below w.heap.size w w2 := kwr.trans (k2.mono swr)
      clear k2 c1 kwr
      go_wp2
      go_ret
      exact ⟨rfl, (by repeat (first | (with_reducible exact Below.refl _ _) | (with_reducible assumption) | (with_reducible refine Below.drew ?_) | (with_reducible refine Below.drewN ?_) | ((with_reducible refine Below.al ?_ ?_); · first | omega | (simp; done) | (simp; omega)) | ((with_reducible refine Below.sc ?_ ?_); · first | omega | (simp; done) | (simp; omega)) | ((with_reducible refine Below.thru hb ?_ ?_); · first | omega | (simp; done) | (simp; omega)) | ((with_reducible refine Below.thru hb4 ?_ ?_); · first | omega | (simp; done) | (simp; omega)) | ((with_reducible refine Below.thru hb5 ?_ ?_); · first | omega | (simp; done) | (simp; omega))))⟩
    · rw [decide_eq_false hq] at HCC
      have HQ := Lib.hid hq
      clear hq
      go_wp2_with fail
      refine HCC.out.mono ?_
      rintro e w2 ⟨rfl, k2⟩
      have k3 : Below w.heap.size w w2 := kwr.trans (k2.mono swr)
      clear k2 c1 kwr
      go_wp2
      go_roundw
      case rel => exact ⟨k + 1, by have := HQ.out; omega, by go_num, (by repeat (first | (with_reducible exact Below.refl _ _) | (with_reducible assumption) | (with_reducible refine Below.drew ?_) | (with_reducible refine Below.drewN ?_) | ((with_reducible refine Below.al ?_ ?_); · first | omega | (simp; done) | (simp; omega)) | ((with_reducible refine Below.sc ?_ ?_); · first | omega | (simp; done) | (simp; omega)) | ((with_reducible refine Below.thru hb ?_ ?_); · first | omega | (simp; done) | (simp; omega)) | ((with_reducible refine Below.thru hb4 ?_ ?_); · first | omega | (simp; done) | (simp; omega)) | ((with_reducible refine Below.thru hb5 ?_ ?_); · first | omega | (simp; done) | (simp; omega))))⟩
      case measure => first | (simp [intOf]; done) | (simp [intOf]; omega)

set_option maxRecDepth 8000 in
set_option maxHeartbeats 1000000 in
theorem cuspOf_any (n : Nat) (p : Int) (q j : Nat) (h : cfQ n (lineL n) p q = some j) (HV : Lvl n) (hp : -1000000 ≤ p ∧ p ≤ 1000000) (hq : q ≤ 1000000) (hf : fracB p (q : Int) = true) (w : World) :
    Calls Try.prog 39 #[.int .i64 (n : Int), .agg #[.int .i64 p, .int .i64 (q : Int)]] w fun e w' => e = .returned (.tuple #[.int .i64 ((numL (movL n tM) (lineL n).length).getD j 0), .int .i64 0]) ∧ Below w.heap.size w w' := by
  have hmf : ∀ (fn : Fn) (first cap : Array Value) (w : World), (Instr.makeFunc fn first cap).run Try.prog w = .ok (.func fn first cap) w := fun _ _ _ _ => rfl
  obtain ⟨rs, hb, hi⟩ := cfQ_eq h
  have hj := cfQ_lt h
  have hn := HV.n1
  have hl := HV.l72
  have HIS := Lib.hid (fun w' => IsFraction_any p (q : Int) w')
  rw [hf] at HIS
  have HLV := Lib.hid (fun w' => isLevel_any (n : Int) w')
  rw [inB_mk (by omega)] at HLV
  have HBZ := Lib.hid (fun w' => bezout_any p (q : Int) rs hb hp (by omega) w')
  have HLN := Lib.hid (fun w' => line_any n w' hn)
  have HCO := Lib.hid (fun v B w' O => coset_any n (q : Int) rs.2 (lineL n) v B w' O (by omega) hn)
  rw [hi] at HCO
  have HCU := Lib.hid (fun w' => cusps_any n w' HV)
  have hbd := numL_bd (movL n tM) hj
  have hnl := numL_len (movL n tM) (lineL n).length
  obtain ⟨t, htt⟩ := Int.eq_ofNat_of_zero_le hbd.1
  have HIX := Lib.hid (show ∀ (v : Value) (vs : List Sl) (css : List (List Nat)) (g B B2 : Nat) (w' : World), OwnK encV 25 w' B v vs → RowS w' B2 vs css → w'.cell? ⟨g, 0, none⟩ = some (.int .i64 (j : Int)) → OrbOf css (numL (movL n tM) (lineL n).length) → css.length = numC (movL n tM) (lineL n).length → Calls Try.prog 65 #[v, .func (.func 66) #[] #[.pointer (some ⟨g, 0, none⟩)]] w' fun e w'' => e = .returned (.int .i64 (t : Int)) ∧ Below w'.heap.size w' w'' from
    fun v vs css g B B2 w' O R hg ho hc => indexC_any v vs css (j : Int) t g B B2 w' O R hg (by rw [hc]; omega) (fun k hk => by
      rw [Bool.eq_iff_iff, decide_eq_true_iff, List.any_eq_true]
      constructor
      · rintro ⟨y, hy, e⟩
        obtain ⟨z, hz, rfl⟩ := List.mem_map.1 hy
        have e2 : (j : Int) = (z : Int) := eq_of_beq e
        have e3 : z = j := by omega
        subst e3
        have := ((ho k hk z).1 hz).2
        omega
      · rintro rfl
        exact ⟨Int.ofNat j, List.mem_map.2 ⟨j, (ho k hk j).2 ⟨by rw [hnl]; exact hj, htt⟩, rfl⟩, by simp⟩))
  rw [htt]
  clear hf h hb hi hj hbd hnl htt HV hl hn hp hq
  generalize movL n tM = P at *
  generalize lineL n = L at *
  obtain ⟨r1, r2⟩ := rs
  go_enter Try.func39, Try.ntmps39
  go_wp2_with fail
  refine (HIS.out _).mono ?_
  rintro e w1 ⟨rfl, hb⟩
  have B1 : Blk w1 (w.heap.size) 59 (#[.int .i64 p, .int .i64 (q : Int)]) := (by repeat (first | (with_reducible assumption) | ((with_reducible refine Blk.new ?_); · first | omega | (simp; done) | (simp; omega)) | (with_reducible apply Blk.set4) | (with_reducible apply Blk.set3) | (with_reducible apply Blk.set2) | ((with_reducible refine Blk.put ?_ ?_); · first | omega | (simp; omega)) | (with_reducible refine Blk.old ?_) | (with_reducible refine Blk.drew ?_) | (with_reducible refine Blk.drewN ?_) | ((with_reducible refine Blk.below hb ?_ ?_); · first | omega | (simp; done) | (simp; omega)) | ((with_reducible refine Blk.below hb4 ?_ ?_); · first | omega | (simp; done) | (simp; omega)) | ((with_reducible refine Blk.below hb5 ?_ ?_); · first | omega | (simp; done) | (simp; omega))))
  have lB1 := B1.lt
  have kw1 : Below w.heap.size w w1 := (by repeat (first | (with_reducible exact Below.refl _ _) | (with_reducible assumption) | (with_reducible refine Below.drew ?_) | (with_reducible refine Below.drewN ?_) | ((with_reducible refine Below.al ?_ ?_); · first | omega | (simp; done) | (simp; omega)) | ((with_reducible refine Below.sc ?_ ?_); · first | omega | (simp; done) | (simp; omega)) | ((with_reducible refine Below.thru hb ?_ ?_); · first | omega | (simp; done) | (simp; omega)) | ((with_reducible refine Below.thru hb4 ?_ ?_); · first | omega | (simp; done) | (simp; omega)) | ((with_reducible refine Below.thru hb5 ?_ ?_); · first | omega | (simp; done) | (simp; omega))))
  have sw1 := kw1.size
  clear hb
  go_wp2_with fail
  refine (HLV.out _).mono ?_
  rintro e w2 ⟨rfl, rfl⟩
  have c0 := B1.at (i := 0) rfl
  have c1 := B1.at (i := 1) rfl
  go_wp2_with fail
  refine (HBZ.out _).mono ?_
  rintro e w3 ⟨rfl, hb⟩
  have B3 : Blk w3 (w.heap.size) 59 (#[.int .i64 p, .int .i64 (q : Int)]) := (by repeat (first | (with_reducible assumption) | ((with_reducible refine Blk.new ?_); · first | omega | (simp; done) | (simp; omega)) | (with_reducible apply Blk.set4) | (with_reducible apply Blk.set3) | (with_reducible apply Blk.set2) | ((with_reducible refine Blk.put ?_ ?_); · first | omega | (simp; omega)) | (with_reducible refine Blk.old ?_) | (with_reducible refine Blk.drew ?_) | (with_reducible refine Blk.drewN ?_) | ((with_reducible refine Blk.below hb ?_ ?_); · first | omega | (simp; done) | (simp; omega)) | ((with_reducible refine Blk.below hb4 ?_ ?_); · first | omega | (simp; done) | (simp; omega)) | ((with_reducible refine Blk.below hb5 ?_ ?_); · first | omega | (simp; done) | (simp; omega))))
  have lB3 := B3.lt
  have kw3 : Below w.heap.size w w3 := (by repeat (first | (with_reducible exact Below.refl _ _) | (with_reducible assumption) | (with_reducible refine Below.drew ?_) | (with_reducible refine Below.drewN ?_) | ((with_reducible refine Below.al ?_ ?_); · first | omega | (simp; done) | (simp; omega)) | ((with_reducible refine Below.sc ?_ ?_); · first | omega | (simp; done) | (simp; omega)) | ((with_reducible refine Below.thru hb ?_ ?_); · first | omega | (simp; done) | (simp; omega)) | ((with_reducible refine Below.thru hb4 ?_ ?_); · first | omega | (simp; done) | (simp; omega)) | ((with_reducible refine Below.thru hb5 ?_ ?_); · first | omega | (simp; done) | (simp; omega))))
  have sw3 := kw3.size
  clear hb
  have d0 := B3.at (i := 0) rfl
  have d1 := B3.at (i := 1) rfl
  go_wp2_with fail
  go_cut [8] (fun s8 wx => ∃ g : Nat, Blk wx g 2 #[.int .i64 (j : Int)] ∧ w.heap.size ≤ g ∧ s8 = .pointer (some ⟨g, 0, none⟩) ∧ Below w3.heap.size w3 wx)
  case first =>
    go_region_held3 (fun w' => w'.cell? ⟨w.heap.size, 0, none⟩ = some (.int .i64 p) ∧ w'.cell? ⟨w.heap.size, 1, none⟩ = some (.int .i64 (q : Int))) (first | go_keep | exact ⟨e0, e1⟩ | exact ⟨(cell_put (by omega)).trans f0, (cell_put (by omega)).trans f1⟩) (first | (go_at_call 29; refine (HLN.out _).mono ?_; rintro e w4 ⟨v4, rfl, O4, hb4⟩; have hbc4 := bcell hb4; have hbs4 := hb4.size; (try simp at hbs4); have t2 : w3.heap.size < w4.heap.size + 1 := (by omega); (try have t1 : w3.heap.size < w4.heap.size := (by omega)); have E0 : Blk w4 w.heap.size 59 #[.int .i64 p, .int .i64 (q : Int)] := (by repeat (first | (with_reducible assumption) | ((with_reducible refine Blk.new ?_); · first | omega | (simp; done) | (simp; omega)) | (with_reducible apply Blk.set4) | (with_reducible apply Blk.set3) | (with_reducible apply Blk.set2) | ((with_reducible refine Blk.put ?_ ?_); · first | omega | (simp; omega)) | (with_reducible refine Blk.old ?_) | (with_reducible refine Blk.drew ?_) | (with_reducible refine Blk.drewN ?_) | ((with_reducible refine Blk.below hb ?_ ?_); · first | omega | (simp; done) | (simp; omega)) | ((with_reducible refine Blk.below hb4 ?_ ?_); · first | omega | (simp; done) | (simp; omega)) | ((with_reducible refine Blk.below hb5 ?_ ?_); · first | omega | (simp; done) | (simp; omega)))); have l0 := E0.lt; have e0 := E0.at (i := 0) rfl; have e1 := E0.at (i := 1) rfl) | (go_at_call 64; refine (HCO.out v4 _ _ (by first | exact O4 | exact O4.alloc)).mono ?_; rintro e w5 ⟨rfl, hb5⟩; have hbc5 := bcell hb5; have hbs5 := hb5.size; (try simp at hbs5); (try have t3 : w4.heap.size < w5.heap.size := (by omega)); (try have t5 : w3.heap.size < w5.heap.size := (by omega)); have G0 : Blk w5 w.heap.size 59 #[.int .i64 p, .int .i64 (q : Int)] := (by repeat (first | (with_reducible assumption) | ((with_reducible refine Blk.new ?_); · first | omega | (simp; done) | (simp; omega)) | (with_reducible apply Blk.set4) | (with_reducible apply Blk.set3) | (with_reducible apply Blk.set2) | ((with_reducible refine Blk.put ?_ ?_); · first | omega | (simp; omega)) | (with_reducible refine Blk.old ?_) | (with_reducible refine Blk.drew ?_) | (with_reducible refine Blk.drewN ?_) | ((with_reducible refine Blk.below hb ?_ ?_); · first | omega | (simp; done) | (simp; omega)) | ((with_reducible refine Blk.below hb4 ?_ ?_); · first | omega | (simp; done) | (simp; omega)) | ((with_reducible refine Blk.below hb5 ?_ ?_); · first | omega | (simp; done) | (simp; omega)))); have m0 := G0.lt; have f0 := G0.at (i := 0) rfl; have f1 := G0.at (i := 1) rfl))
    all_goals go_wp2_with fail
    all_goals go_meet
    all_goals first | exact ⟨_, Blk.new rfl, by omega, rfl, (by repeat (first | (with_reducible exact Below.refl _ _) | (with_reducible assumption) | (with_reducible refine Below.drew ?_) | (with_reducible refine Below.drewN ?_) | ((with_reducible refine Below.al ?_ ?_); · first | omega | (simp; done) | (simp; omega)) | ((with_reducible refine Below.sc ?_ ?_); · first | omega | (simp; done) | (simp; omega)) | ((with_reducible refine Below.thru hb ?_ ?_); · first | omega | (simp; done) | (simp; omega)) | ((with_reducible refine Below.thru hb4 ?_ ?_); · first | omega | (simp; done) | (simp; omega)) | ((with_reducible refine Below.thru hb5 ?_ ?_); · first | omega | (simp; done) | (simp; omega))))⟩ | exact ⟨_, Blk.set (cs := #[.int .i64 0]) (by repeat (first | (with_reducible assumption) | ((with_reducible refine Blk.new ?_); · first | omega | (simp; done) | (simp; omega)) | (with_reducible apply Blk.set4) | (with_reducible apply Blk.set3) | (with_reducible apply Blk.set2) | ((with_reducible refine Blk.put ?_ ?_); · first | omega | (simp; omega)) | (with_reducible refine Blk.old ?_) | (with_reducible refine Blk.drew ?_) | (with_reducible refine Blk.drewN ?_) | ((with_reducible refine Blk.below hb ?_ ?_); · first | omega | (simp; done) | (simp; omega)) | ((with_reducible refine Blk.below hb4 ?_ ?_); · first | omega | (simp; done) | (simp; omega)) | ((with_reducible refine Blk.below hb5 ?_ ?_); · first | omega | (simp; done) | (simp; omega)))), by omega, rfl, (by repeat (first | (with_reducible exact Below.refl _ _) | (with_reducible assumption) | (with_reducible refine Below.drew ?_) | (with_reducible refine Below.drewN ?_) | ((with_reducible refine Below.al ?_ ?_); · first | omega | (simp; done) | (simp; omega)) | ((with_reducible refine Below.sc ?_ ?_); · first | omega | (simp; done) | (simp; omega)) | ((with_reducible refine Below.thru hb ?_ ?_); · first | omega | (simp; done) | (simp; omega)) | ((with_reducible refine Below.thru hb4 ?_ ?_); · first | omega | (simp; done) | (simp; omega)) | ((with_reducible refine Below.thru hb5 ?_ ?_); · first | omega | (simp; done) | (simp; omega))))⟩
  case rest =>
    obtain ⟨g, B5, hg, rfl, hb⟩ := hcut
    have kw5 : Below w.heap.size w wc := (by repeat (first | (with_reducible exact Below.refl _ _) | (with_reducible assumption) | (with_reducible refine Below.drew ?_) | (with_reducible refine Below.drewN ?_) | ((with_reducible refine Below.al ?_ ?_); · first | omega | (simp; done) | (simp; omega)) | ((with_reducible refine Below.sc ?_ ?_); · first | omega | (simp; done) | (simp; omega)) | ((with_reducible refine Below.thru hb ?_ ?_); · first | omega | (simp; done) | (simp; omega)) | ((with_reducible refine Below.thru hb4 ?_ ?_); · first | omega | (simp; done) | (simp; omega)) | ((with_reducible refine Below.thru hb5 ?_ ?_); · first | omega | (simp; done) | (simp; omega))))
    have sw5 := kw5.size
    have lB5 := B5.lt
    clear hb
    go_wp2_with fail
    refine (HCU.out _).mono ?_
    rintro e w6 ⟨v6, vs, css, rfl, O6, R6, ho, hc, hb⟩
    have B6 : Blk w6 g 2 #[.int .i64 (j : Int)] := (by repeat (first | (with_reducible assumption) | ((with_reducible refine Blk.new ?_); · first | omega | (simp; done) | (simp; omega)) | (with_reducible apply Blk.set4) | (with_reducible apply Blk.set3) | (with_reducible apply Blk.set2) | ((with_reducible refine Blk.put ?_ ?_); · first | omega | (simp; omega)) | (with_reducible refine Blk.old ?_) | (with_reducible refine Blk.drew ?_) | (with_reducible refine Blk.drewN ?_) | ((with_reducible refine Blk.below hb ?_ ?_); · first | omega | (simp; done) | (simp; omega)) | ((with_reducible refine Blk.below hb4 ?_ ?_); · first | omega | (simp; done) | (simp; omega)) | ((with_reducible refine Blk.below hb5 ?_ ?_); · first | omega | (simp; done) | (simp; omega))))
    have lB6 := B6.lt
    have kw6 : Below w.heap.size w w6 := (by repeat (first | (with_reducible exact Below.refl _ _) | (with_reducible assumption) | (with_reducible refine Below.drew ?_) | (with_reducible refine Below.drewN ?_) | ((with_reducible refine Below.al ?_ ?_); · first | omega | (simp; done) | (simp; omega)) | ((with_reducible refine Below.sc ?_ ?_); · first | omega | (simp; done) | (simp; omega)) | ((with_reducible refine Below.thru hb ?_ ?_); · first | omega | (simp; done) | (simp; omega)) | ((with_reducible refine Below.thru hb4 ?_ ?_); · first | omega | (simp; done) | (simp; omega)) | ((with_reducible refine Below.thru hb5 ?_ ?_); · first | omega | (simp; done) | (simp; omega))))
    have sw6 := kw6.size
    clear hb
    go_wp2_with fail
    refine (HIX.out v6 vs css g _ _ _ O6 R6 (B6.at rfl) ho hc).mono ?_
    rintro e w7 ⟨rfl, hb⟩
    go_wp2
    go_ret2
    exact ⟨rfl, (by repeat (first | (with_reducible exact Below.refl _ _) | (with_reducible assumption) | (with_reducible refine Below.drew ?_) | (with_reducible refine Below.drewN ?_) | ((with_reducible refine Below.al ?_ ?_); · first | omega | (simp; done) | (simp; omega)) | ((with_reducible refine Below.sc ?_ ?_); · first | omega | (simp; done) | (simp; omega)) | ((with_reducible refine Below.thru hb ?_ ?_); · first | omega | (simp; done) | (simp; omega)) | ((with_reducible refine Below.thru hb4 ?_ ?_); · first | omega | (simp; done) | (simp; omega)) | ((with_reducible refine Below.thru hb5 ?_ ?_); · first | omega | (simp; done) | (simp; omega))))⟩

end Go.Proofs.Ytjjbaebddkejnaa

/- The error of a level, a prime and mixes: what the reference's l08Prime computes (plain law over the printed functions). -/
namespace Go.Proofs.Ytjjbaebddkejnaa
open Go.RowKit Go.Proofs.Ytjjbaebddkejnaa.Pl08Prime Go.Proofs.YtjjbaebddkejnaaW.PrintWords
set_option linter.unusedSimpArgs false

theorem rd_nat (xs : List Int) (k : Nat) : rd xs (k : Int) = vec xs k := rfl
theorem rd_L1_nat (xs : List (List Int)) (k : Nat) : rd_L1 xs (k : Int) = xs.getD k [] := rfl
theorem Ev.of {α : Type} {g : Nat → Option α} {r : α} {K : Nat} (hm : ∀ k, LeO (g k) (g (k + 1))) (h : g K = some r) : Ev g r := by
  refine ⟨K, fun k hk => ?_⟩
  obtain ⟨d, rfl⟩ := Nat.le.dest hk
  clear hk
  induction d with
  | zero => exact h
  | succ d ih => exact hm _ r ih
def entM (a : Int) : Bool := decide (-1000000 ≤ a ∧ a ≤ 1000000)
/-- A mix of a line of N places. -/
def okX (N : Nat) (x : List Int) : Bool := x.length == N && x.all entM
theorem sums_l1 {xs : List (List Int)} {N i : Nat} {x : List Int} (hi : i < xs.length) (hx : xs.getD i [] = x) (hN : x.length ≤ 1000) (hs : xs.length ≤ 1000) (R : Int) (h : Ev (fun g => spec_l08Sums.l0 g xs (N : Int) ((i + 1 : Nat) : Int)) R) :
    ∀ m j, x.length - j = m → j ≤ x.length → Ev (fun g => spec_l08Sums.l1 g xs (N : Int) (i : Int) (j : Int)) (if (x.drop j).all entM = true then R else 2) := by
  intro m
  induction m with
  | zero =>
    intro j hm hj
    have : j = x.length := by omega
    subst this
    rw [List.drop_length, List.all_nil, if_pos rfl]
    refine h.step fun g => ?_
    rw [spec_l08Sums.l1, if_pos (by omega), if_pos (by omega), rd_L1_nat, hx, if_neg (by omega), IntWalk.wrap64_in _ (by omega)]
    rfl
  | succ m ih =>
    intro j hm hj
    have hjt : j < x.length := by omega
    have e : vec x j = x[j] := by rw [vec, List.getD_eq_getElem?_getD, List.getElem?_eq_getElem hjt]; rfl
    have hd : (x.drop j).all entM = (entM x[j] && (x.drop (j + 1)).all entM) := by rw [List.drop_eq_getElem_cons hjt, List.all_cons]
    by_cases hb : -1000000 ≤ x[j] ∧ x[j] ≤ 1000000
    · have := ih (j + 1) (by omega) (by omega)
      rw [hd, show entM x[j] = true from decide_eq_true hb, Bool.true_and]
      refine this.step fun g => ?_
      rw [spec_l08Sums.l1, if_pos (by omega), if_pos (by omega), rd_L1_nat, hx, if_pos (by omega), if_pos (by omega), rd_nat, in_f, Option.bind_some, e, if_pos (decide_eq_true hb), IntWalk.wrap64_in _ (by omega)]
      rfl
    · rw [hd, show entM x[j] = false from decide_eq_false hb, Bool.false_and, if_neg (by simp)]
      refine (Ev.const (2 : Int)).step fun g => ?_
      rw [spec_l08Sums.l1, if_pos (by omega), if_pos (by omega), rd_L1_nat, hx, if_pos (by omega), if_pos (by omega), rd_nat, in_f, Option.bind_some, e, if_neg (by simpa using hb)]
theorem sums_l0 {xs : List (List Int)} {N : Nat} (hN : N ≤ 1000) (hs : xs.length ≤ 1000) :
    ∀ m i, xs.length - i = m → i ≤ xs.length → Ev (fun g => spec_l08Sums.l0 g xs (N : Int) (i : Int)) (if (xs.drop i).all (okX N) = true then 0 else 2) := by
  intro m
  induction m with
  | zero =>
    intro i hm hi
    have : i = xs.length := by omega
    subst this
    rw [List.drop_length, List.all_nil, if_pos rfl]
    refine (Ev.const (0 : Int)).step fun g => ?_
    rw [spec_l08Sums.l0, if_neg (by omega)]
  | succ m ih =>
    intro i hm hi
    have hit : i < xs.length := by omega
    have e : xs.getD i [] = xs[i] := by rw [List.getD_eq_getElem?_getD, List.getElem?_eq_getElem hit]; rfl
    have hd : (xs.drop i).all (okX N) = (okX N xs[i] && (xs.drop (i + 1)).all (okX N)) := by rw [List.drop_eq_getElem_cons hit, List.all_cons]
    by_cases hl : xs[i].length = N
    · have h1 := sums_l1 hit e (by omega) hs _ (ih (i + 1) (by omega) (by omega)) xs[i].length 0 (by omega) (by omega)
      rw [List.drop_zero] at h1
      have e2 : (if (xs.drop i).all (okX N) = true then (0 : Int) else 2) = if xs[i].all entM = true then (if (xs.drop (i + 1)).all (okX N) = true then 0 else 2) else 2 := by
        rw [hd, okX, show (xs[i].length == N) = true by simpa using hl, Bool.true_and]
        cases xs[i].all entM <;> simp
      rw [e2]
      refine h1.step fun g => ?_
      rw [spec_l08Sums.l0, if_pos (by omega), if_pos (by omega), rd_L1_nat, e, if_pos (by omega)]
      rfl
    · rw [hd, okX, show (xs[i].length == N) = false by simpa using hl, Bool.false_and, Bool.false_and, if_neg (by simp)]
      refine (Ev.const (2 : Int)).step fun g => ?_
      rw [spec_l08Sums.l0, if_pos (by omega), if_pos (by omega), rd_L1_nat, e, if_neg (by omega)]
/-- The error of a level and mixes. -/
def sumC (n : Int) (xs : List (List Int)) : Int := if lvCode n = 0 then (if xs.all (okX (lineL n.toNat).length) = true then 0 else 2) else lvCode n
/-- The error of a level, a prime and mixes. -/
def goC (n p : Int) (xs : List (List Int)) : Int := if PrimeP p then sumC n xs else 2
theorem lv_zero {n : Int} (h : lvCode n = 0) : (1 ≤ n ∧ n ≤ 60) ∧ (lineL n.toNat).length ≤ 72 := by
  unfold lvCode at h
  split at h
  · rename_i h2
    split at h
    · cases h
    · exact ⟨h2, by omega⟩
  · cases h
theorem sumC_ev (n : Int) (xs : List (List Int)) (hs : xs.length ≤ 1000) : Ev (fun g => spec_l08Sums.f g n xs) (sumC n xs) := by
  have hc : Ev (fun g => spec_l08Code.f g n) (lvCode n) := Ev.of (fun k => spec_l08Code.mono n k) (code_f n)
  have H : Ev (fun g => (spec_l08Code.f g n).bind fun t113 => (if t113 = 0 then ((spec_IndexOf.f g 0 n).bind fun bt114 => (spec_l08Sums.l0 g xs bt114.1 0)) else (some t113))) (sumC n xs) := by
    refine Ev.bind (g := fun g t113 => if t113 = 0 then ((spec_IndexOf.f g 0 n).bind fun bt114 => (spec_l08Sums.l0 g xs bt114.1 0)) else (some t113)) hc ?_
    by_cases h : lvCode n = 0
    · obtain ⟨hn, hl⟩ := lv_zero h
      obtain ⟨m, rfl⟩ := Int.eq_ofNat_of_zero_le (by omega : 0 ≤ n)
      rw [Int.toNat_natCast] at hl
      have hx : Ev (fun g => spec_IndexOf.f g 0 (m : Int)) (((lineL m).length : Int), 0) := Ev.of (fun k => spec_IndexOf.mono 0 m k) (index_f (by omega))
      simp only [h, if_true]
      refine Ev.bind (g := fun g bt114 => spec_l08Sums.l0 g xs bt114.1 0) hx ?_
      rw [sumC, if_pos h, Int.toNat_natCast]
      exact sums_l0 (N := (lineL m).length) (by omega) hs xs.length 0 (by omega) (by omega)
    · simp only [h, if_false]
      rw [sumC, if_neg h]
      exact Ev.const _
  exact H
theorem goC_ev (n p : Int) (xs : List (List Int)) (hs : xs.length ≤ 1000) : Ev (fun g => spec_l08Prime.f g n p xs) (goC n p xs) := by
  have h := sumC_ev n xs hs
  have hb : ∀ g, ((spec_l08Sums.f g n xs).bind fun t => some t) = spec_l08Sums.f g n xs := fun g => by cases spec_l08Sums.f g n xs <;> rfl
  unfold spec_l08Prime.f goC PrimeP
  simp only [hb]
  by_cases h1 : p = 5
  · simp only [h1, if_true, true_or]; exact h
  · by_cases h2 : p = 7
    · simp only [h1, h2, if_true, if_false, true_or, or_true]; exact h
    · by_cases h3 : p = 11
      · simp only [h1, h2, h3, if_true, if_false, true_or, or_true]; exact h
      · by_cases h4 : p = 101
        · simp only [h1, h2, h3, h4, if_true, if_false, true_or, or_true]; exact h
        · by_cases h5 : p = 10007
          · simp only [h1, h2, h3, h4, h5, if_true, if_false, true_or, or_true]; exact h
          · simp only [h1, h2, h3, h4, h5, if_false, or_false]; exact Ev.const _

end Go.Proofs.Ytjjbaebddkejnaa

/- The program's isMix. -/
namespace Go.Proofs.Ytjjbaebddkejnaa
open Go.RowKit
set_option linter.unusedSimpArgs false

def offM (a : Int) : Bool := !entM a
set_option maxHeartbeats 1000000 in
theorem offM_any (a : Int) (w : World) :
    Calls Try.prog 52 #[.int .i64 a] w fun e w' => e = .returned (.bool (offM a)) ∧ Below w.heap.size w w' := by
  have HW := Lib.hid (fun w' => within_any a (-1000000) 1000000 w')
  have HB := Lib.hid (show offM a = !inB a (-1000000) 1000000 by rw [offM, entM, inB]; by_cases h1 : -1000000 ≤ a <;> by_cases h2 : a ≤ 1000000 <;> simp [h1, h2])
  rw [HB.out]
  clear HB
  generalize inB a (-1000000) 1000000 = b at *
  go_enter Try.func52, Try.ntmps52
  go_wp2_with fail
  refine (HW.out _).mono ?_
  rintro e w1 ⟨rfl, rfl⟩
  go_wp2
  go_ret
  exact ⟨rfl, (by repeat (first | (with_reducible exact Below.refl _ _) | (with_reducible assumption) | (with_reducible refine Below.drew ?_) | (with_reducible refine Below.drewN ?_) | ((with_reducible refine Below.al ?_ ?_); · first | omega | (simp; done) | (simp; omega)) | ((with_reducible refine Below.sc ?_ ?_); · first | omega | (simp; done) | (simp; omega)) | ((with_reducible refine Below.thru hb ?_ ?_); · first | omega | (simp; done) | (simp; omega))))⟩
set_option maxRecDepth 8000 in
set_option maxHeartbeats 1000000 in
theorem indexFuncM_any (v : Value) (xs : List Int) (w : World) (B : SlIn w .i64 v xs) (hl : xs.length ≤ 1000) :
    Calls Try.prog 68 #[v, .func (.func 52) #[] #[]] w fun e w' => ∃ r, e = .returned (.int .i64 r) ∧ IdxR offM xs r ∧ Below w.heap.size w w' := by
  obtain ⟨ao, c, rfl, hx⟩ := B.form
  have HX := Lib.hid hx
  have HC := Lib.hid offM_any
  clear B hx
  go_enter Try.func68, Try.ntmps68
  go_wp2_with fail
  go_loopw [8] (fun i wr => ∃ k : Nat, k ≤ xs.length ∧ i = .int .i64 k ∧ Hid ((xs.take k).any offM = false) ∧ Below w.heap.size w wr) (fun i _ => xs.length - (intOf i).toNat)
  case atStart => exact ⟨0, Nat.zero_le _, rfl, by rfl, (by repeat (first | (with_reducible exact Below.refl _ _) | (with_reducible assumption) | (with_reducible refine Below.drew ?_) | (with_reducible refine Below.drewN ?_) | ((with_reducible refine Below.al ?_ ?_); · first | omega | (simp; done) | (simp; omega)) | ((with_reducible refine Below.sc ?_ ?_); · first | omega | (simp; done) | (simp; omega)) | ((with_reducible refine Below.thru hb ?_ ?_); · first | omega | (simp; done) | (simp; omega))))⟩
  case round =>
    obtain ⟨k, hk, rfl, hall, kwr⟩ := hrel
    by_cases hlt : k < xs.length
    · obtain ⟨a, rfl, hcx⟩ := HX.out (by omega)
      have c1 : wr.cell? (a.add k) = some (.int .i64 xs[k]) := by
        have e := hcx k hlt
        rw [kwr.cell (block_lt_of_cell e :)]
        exact e
      have i0 : (0 : Int) ≤ (k : Int) := by omega
      have i1 : (k : Int) < (xs.length : Int) := by omega
      have HT := Lib.hid (any_take_succ offM xs k hlt)
      have HG := Lib.hid (any_of_get offM xs k hlt)
      clear hcx
      generalize xs[k] = x at *
      have HCx := Lib.hid (HC.out x)
      have swr := kwr.size
      generalize offM x = b at *
      go_wp2_with fail
      refine (HCx.out _).mono ?_
      rintro e w2 ⟨rfl, k2⟩
      have k3 : Below w.heap.size w w2 := kwr.trans (k2.mono swr)
      clear k2 c1 kwr
      cases b with
      | true =>
        go_wp2
        go_ret
        exact ⟨(k : Int), rfl, ⟨by omega, by omega, by rw [HG.out (by first | rfl | trivial)]; simp⟩, (by repeat (first | (with_reducible exact Below.refl _ _) | (with_reducible assumption) | (with_reducible refine Below.drew ?_) | (with_reducible refine Below.drewN ?_) | ((with_reducible refine Below.al ?_ ?_); · first | omega | (simp; done) | (simp; omega)) | ((with_reducible refine Below.sc ?_ ?_); · first | omega | (simp; done) | (simp; omega)) | ((with_reducible refine Below.thru hb ?_ ?_); · first | omega | (simp; done) | (simp; omega))))⟩
      | false =>
        go_wp2
        go_roundw
        case rel => exact ⟨k + 1, by omega, by go_num, Lib.hid (by rw [HT.out, hall.out]; rfl), (by repeat (first | (with_reducible exact Below.refl _ _) | (with_reducible assumption) | (with_reducible refine Below.drew ?_) | (with_reducible refine Below.drewN ?_) | ((with_reducible refine Below.al ?_ ?_); · first | omega | (simp; done) | (simp; omega)) | ((with_reducible refine Below.sc ?_ ?_); · first | omega | (simp; done) | (simp; omega)) | ((with_reducible refine Below.thru hb ?_ ?_); · first | omega | (simp; done) | (simp; omega))))⟩
        case measure => first | (simp [intOf]; done) | (simp [intOf]; omega)
    · have HF := Lib.hid (show xs.any offM = false by have := hall.out; rwa [List.take_of_length_le (by omega)] at this)
      go_wp2
      go_ret
      exact ⟨-1, rfl, ⟨by omega, by omega, by rw [HF.out]; rfl⟩, (by repeat (first | (with_reducible exact Below.refl _ _) | (with_reducible assumption) | (with_reducible refine Below.drew ?_) | (with_reducible refine Below.drewN ?_) | ((with_reducible refine Below.al ?_ ?_); · first | omega | (simp; done) | (simp; omega)) | ((with_reducible refine Below.sc ?_ ?_); · first | omega | (simp; done) | (simp; omega)) | ((with_reducible refine Below.thru hb ?_ ?_); · first | omega | (simp; done) | (simp; omega))))⟩
set_option maxHeartbeats 1000000 in
theorem containsFuncM_any (v : Value) (xs : List Int) (w : World) (B : SlIn w .i64 v xs) (hl : xs.length ≤ 1000) :
    Calls Try.prog 44 #[v, .func (.func 52) #[] #[]] w fun e w' => e = .returned (.bool (xs.any offM)) ∧ Below w.heap.size w w' := by
  have HI := Lib.hid (indexFuncM_any v xs w B hl)
  clear B
  go_enter Try.func44, Try.ntmps44
  go_wp2_with fail
  refine HI.out.mono ?_
  rintro e w1 ⟨r, rfl, hr, k1⟩
  have HR := Lib.hid hr.2.2
  clear hr
  go_wp2
  go_ret
  exact ⟨by rw [← HR.out]; rfl, (by repeat (first | (with_reducible exact Below.refl _ _) | (with_reducible assumption) | (with_reducible refine Below.drew ?_) | (with_reducible refine Below.drewN ?_) | ((with_reducible refine Below.al ?_ ?_); · first | omega | (simp; done) | (simp; omega)) | ((with_reducible refine Below.sc ?_ ?_); · first | omega | (simp; done) | (simp; omega)) | ((with_reducible refine Below.thru hb ?_ ?_); · first | omega | (simp; done) | (simp; omega))))⟩
set_option maxRecDepth 8000 in
set_option maxHeartbeats 1000000 in
theorem isMix_any (m : Nat) (v : Value) (xs : List Int) (w : World) (hm : 1 ≤ m ∧ m ≤ 60) (hl : (lineL m).length ≤ 1000) (B : SlIn w .i64 v xs) :
    Calls Try.prog 31 #[.int .i64 (m : Int), v] w fun e w' => e = .returned (.bool (okX (lineL m).length xs)) ∧ Below w.heap.size w w' := by
  have hmf : ∀ (fn : Fn) (first cap : Array Value) (w : World), (Instr.makeFunc fn first cap).run Try.prog w = .ok (.func fn first cap) w := fun _ _ _ _ => rfl
  have HL := Lib.hid (fun w' => line_any m w' hm)
  have HC := Lib.hid (fun w' h hl => containsFuncM_any v xs w' h hl)
  have HB := Lib.hid B
  have HE := Lib.hid (show ∀ xs : List Int, xs.all entM = !xs.any offM by intro xs; induction xs with
    | nil => rfl
    | cons x xs ih => rw [List.all_cons, List.any_cons, ih, offM]; cases entM x <;> simp)
  generalize lineL m = L at *
  have HOK := Lib.hid (show okX L.length xs = (xs.length == L.length && !xs.any offM) by rw [okX, HE.out])
  rw [HOK.out]
  clear HOK HE
  obtain ⟨ao, c, rfl, -⟩ := B.form
  clear B
  go_enter Try.func31, Try.ntmps31
  go_wp2_with fail
  refine (HL.out _).mono ?_
  rintro e w1 ⟨v, rfl, O, k1⟩
  obtain ⟨lo, lc, rfl⟩ := O.len
  clear O
  by_cases he : xs.length = L.length
  · have HCC := Lib.hid (HC.out w1 (SlIn.below k1 HB.out) (by omega))
    have HQ := Lib.hid (show (xs.length == L.length) = true by simpa using he)
    rw [he] at HCC
    obtain ⟨b, hb⟩ : ∃ b, xs.any offM = b := ⟨_, rfl⟩
    rw [hb] at HCC
    have HBB := Lib.hid hb
    clear hb
    go_wp2_with fail
    refine HCC.out.mono ?_
    rintro e w2 ⟨rfl, k2⟩
    have s1 := k1.size
    go_wp2
    go_ret
    exact ⟨by rw [HQ.out, HBB.out]; rfl, k1.trans (k2.mono s1)⟩
  · have HQ := Lib.hid (show (xs.length == L.length) = false by simpa using he)
    go_wp2
    go_ret
    exact ⟨by rw [HQ.out]; rfl, k1⟩

end Go.Proofs.Ytjjbaebddkejnaa

/- The ends of a mix: the program's walk. -/
namespace Go.Proofs.Ytjjbaebddkejnaa
open Go.RowKit
set_option linter.unusedSimpArgs false

theorem indexFunc0_any (w : World) :
    Calls Try.prog 68 #[.slice none 0 0, .func (.func 45) #[] #[]] w fun e w' => e = .returned (.int .i64 (-1)) ∧ Below w.heap.size w w' := by
  go_enter Try.func68, Try.ntmps68
  go_wp2_with fail
  refine wp_loop_rounds 1 ?_
  rw [rounds_succ]
  go_wp2
  go_ret
  exact ⟨rfl, (by repeat (first | (with_reducible exact Below.refl _ _) | (with_reducible assumption) | (with_reducible refine Below.drew ?_) | (with_reducible refine Below.drewN ?_) | ((with_reducible refine Below.al ?_ ?_); · first | omega | (simp; done) | (simp; omega)) | ((with_reducible refine Below.sc ?_ ?_); · first | omega | (simp; done) | (simp; omega)) | ((with_reducible refine Below.thru hb ?_ ?_); · first | omega | (simp; done) | (simp; omega)) | ((with_reducible refine Below.thru hb4 ?_ ?_); · first | omega | (simp; done) | (simp; omega)) | ((with_reducible refine Below.thru hb5 ?_ ?_); · first | omega | (simp; done) | (simp; omega))))⟩
theorem containsFunc0_any (w : World) :
    Calls Try.prog 44 #[.slice none 0 0, .func (.func 45) #[] #[]] w fun e w' => e = .returned (.bool false) ∧ Below w.heap.size w w' := by
  go_enter Try.func44, Try.ntmps44
  go_wp2_with fail
  refine (indexFunc0_any _).mono ?_
  rintro e w1 ⟨rfl, k1⟩
  go_wp2
  go_ret
  exact ⟨rfl, (by repeat (first | (with_reducible exact Below.refl _ _) | (with_reducible assumption) | (with_reducible refine Below.drew ?_) | (with_reducible refine Below.drewN ?_) | ((with_reducible refine Below.al ?_ ?_); · first | omega | (simp; done) | (simp; omega)) | ((with_reducible refine Below.sc ?_ ?_); · first | omega | (simp; done) | (simp; omega)) | ((with_reducible refine Below.thru hb ?_ ?_); · first | omega | (simp; done) | (simp; omega)) | ((with_reducible refine Below.thru hb4 ?_ ?_); · first | omega | (simp; done) | (simp; omega)) | ((with_reducible refine Below.thru hb5 ?_ ?_); · first | omega | (simp; done) | (simp; omega))))⟩
set_option maxRecDepth 8000 in
set_option maxHeartbeats 2000000 in
theorem levelCode0_any (n : Int) (w : World) :
    Calls Try.prog 26 #[.int .i64 n, .slice none 0 0] w fun e w' => e = .returned (.int .i64 (lvCode n)) ∧ Below w.heap.size w w' := by
  have hmf : ∀ (fn : Fn) (first cap : Array Value) (w : World), (Instr.makeFunc fn first cap).run Try.prog w = .ok (.func fn first cap) w := fun _ _ _ _ => rfl
  have HCF := Lib.hid containsFunc0_any
  obtain ⟨r, hr⟩ : ∃ r, lvCode n = r := ⟨_, rfl⟩
  rw [hr]
  have HR := Lib.hid hr
  clear hr
  go_enter Try.func26, Try.ntmps26
  go_wp2_with fail
  refine (isLevel_any _ _).mono ?_
  rintro e w1 ⟨rfl, rfl⟩
  cases hq : inB n 1 60 with
  | false =>
    have h2 : ¬ (1 ≤ n ∧ n ≤ 60) := fun h => by rw [inB_mk h] at hq; cases hq
    have HE := Lib.hid (show r = 2 by rw [← HR.out]; unfold lvCode; rw [if_neg h2])
    clear hq h2
    go_wp2
    go_ret
    exact ⟨by rw [HE.out]; rfl, (by repeat (first | (with_reducible exact Below.refl _ _) | (with_reducible assumption) | (with_reducible refine Below.drew ?_) | (with_reducible refine Below.drewN ?_) | ((with_reducible refine Below.al ?_ ?_); · first | omega | (simp; done) | (simp; omega)) | ((with_reducible refine Below.sc ?_ ?_); · first | omega | (simp; done) | (simp; omega)) | ((with_reducible refine Below.thru hb ?_ ?_); · first | omega | (simp; done) | (simp; omega)) | ((with_reducible refine Below.thru hb4 ?_ ?_); · first | omega | (simp; done) | (simp; omega)) | ((with_reducible refine Below.thru hb5 ?_ ?_); · first | omega | (simp; done) | (simp; omega))))⟩
  | true =>
    have h2 : 1 ≤ n ∧ n ≤ 60 := by simpa [inB] using hq
    obtain ⟨m, rfl⟩ := Int.eq_ofNat_of_zero_le (by omega : 0 ≤ n)
    have hm : 1 ≤ m ∧ m ≤ 60 := by omega
    have HLL := Lib.hid (fun w' : World => line_any m w' hm)
    have HE := Lib.hid (show r = if 72 < (lineL m).length then 3 else 0 by rw [← HR.out]; unfold lvCode; rw [if_pos h2, Int.toNat_natCast])
    clear hq h2
    generalize lineL m = LL at *
    go_wp2_with fail
    refine (HCF.out _).mono ?_
    rintro e w2 ⟨rfl, k2⟩
    have s2 := k2.size
    go_wp2_with fail
    refine (HLL.out _).mono ?_
    rintro e w3 ⟨v, rfl, O3, k3⟩
    have k4 : Below w.heap.size w w3 := k2.trans (k3.mono s2)
    obtain ⟨vo, vc, rfl⟩ := O3.len
    clear O3 k2 k3
    by_cases hl : 72 < LL.length
    · rw [if_pos hl] at HE
      go_wp2
      go_ret
      exact ⟨by rw [HE.out]; rfl, k4⟩
    · rw [if_neg hl] at HE
      go_wp2
      go_ret
      exact ⟨by rw [HE.out]; rfl, k4⟩
/-- The numbers of the cusps that a mix's symbols lead to and come from, and its ends. -/
def hereF (n k : Nat) : Int := (numL (movL n tM) (lineL n).length).getD k 0
def thereF (n k : Nat) : Int := (numL (movL n tM) (lineL n).length).getD (sQ n (lineL n) ((lineL n).getD k (0, 0))) 0
def endL (n : Nat) (x : List Int) : List Int := endTo (hereF n) (thereF n) x (numC (movL n tM) (lineL n).length) (lineL n).length
def endR (n : Int) (x : List Int) : List Int := if sumC n [x] = 0 then endL n.toNat x else []
def GivesEn (n : Int) (x : List Int) (w : World) (e : Ending) (w' : World) : Prop := ∃ v, e = .returned (.tuple #[v, .int .i64 (sumC n [x])]) ∧ Own w' w.heap.size v (endR n x) ∧ Below w.heap.size w w'
theorem addAt_get (out : List Int) (c a : Int) (j : Nat) : (addAt out c a).getD j 0 = out.getD j 0 ∨ (addAt out c a).getD j 0 = out.getD j 0 + a := by
  unfold addAt
  by_cases hj : j < out.length
  · rw [set_getD hj]
    split
    · rename_i e; rw [e]; exact .inr rfl
    · exact .inl rfl
  · left
    rw [List.getD_eq_getElem?_getD, List.getElem?_eq_none (by rw [List.length_set]; omega), List.getD_eq_getElem?_getD, List.getElem?_eq_none (by omega)]
theorem okX_ent {N : Nat} {x : List Int} (h : okX N x = true) : x.length = N ∧ ∀ k, k < N → -1000000 ≤ x.getD k 0 ∧ x.getD k 0 ≤ 1000000 := by
  unfold okX at h
  rw [Bool.and_eq_true] at h
  have hl : x.length = N := by simpa using h.1
  refine ⟨hl, fun k hk => ?_⟩
  rw [getD_lt (by omega)]
  have := List.all_eq_true.1 h.2 _ (List.getElem_mem (show k < x.length by omega))
  exact of_decide_eq_true this
theorem made_zero (n : Nat) : (madeCells #[Value.int .i64 0] n).toList = (List.replicate n (0 : Int)).map (Value.int .i64) := by
  apply List.ext_getElem
  · simp [size_madeCells]
  · intro j h1 h2
    simp [madeCells, Nat.mod_one]
/-- What one symbol of a mix needs. -/
def SymF (n : Nat) (C k : Nat) (x : Nat × Nat) : Prop := ∃ (a b c d p1 p2 : Int) (h t : Nat), h < C ∧ t < C ∧ hereF n k = (h : Int) ∧ thereF n k = (t : Int) ∧
  (∀ w : World, Calls Try.prog 37 #[.int .i64 (n : Int), .agg #[.int .i64 (x.1 : Int), .int .i64 (x.2 : Int)]] w fun e w' => e = .returned (.agg #[.int .i64 a, .int .i64 b, .int .i64 c, .int .i64 d]) ∧ Below w.heap.size w w') ∧
  (∀ w : World, Calls Try.prog 38 #[.int .i64 a, .int .i64 c] w fun e w' => e = .returned (.tuple #[.agg #[.int .i64 p1, .int .i64 c], .int .i64 0]) ∧ Below w.heap.size w w') ∧
  (∀ w : World, Calls Try.prog 38 #[.int .i64 b, .int .i64 d] w fun e w' => e = .returned (.tuple #[.agg #[.int .i64 p2, .int .i64 d], .int .i64 0]) ∧ Below w.heap.size w w') ∧
  (∀ w : World, Calls Try.prog 39 #[.int .i64 (n : Int), .agg #[.int .i64 p1, .int .i64 c]] w fun e w' => e = .returned (.tuple #[.int .i64 (h : Int), .int .i64 0]) ∧ Below w.heap.size w w') ∧
  (∀ w : World, Calls Try.prog 39 #[.int .i64 (n : Int), .agg #[.int .i64 p2, .int .i64 d]] w fun e w' => e = .returned (.tuple #[.int .i64 (t : Int), .int .i64 0]) ∧ Below w.heap.size w w')
theorem sym_of {n k : Nat} {q : Nat × Nat} {j1 j2 : Nat} (HV : Lvl n) (hk : k < (lineL n).length) (F : EndF n k q j1 j2 (lineL n)[k]) : SymF n (numC (movL n tM) (lineL n).length) k (lineL n)[k] := by
  have hx := line_lt hk
  have hn := HV.n1
  have b1 := F.b1
  have b2 := F.b2
  have e1 := numL_bd (movL n tM) hk
  have e2 := numL_bd (movL n tM) F.s
  obtain ⟨h, hh⟩ := Int.eq_ofNat_of_zero_le e1.1
  obtain ⟨t, ht⟩ := Int.eq_ofNat_of_zero_le e2.1
  have hT : thereF n k = (t : Int) := by
    unfold thereF
    rw [show (lineL n).getD k (0, 0) = (lineL n)[k] by rw [List.getD_eq_getElem?_getD, List.getElem?_eq_getElem hk]; rfl]
    exact ht
  refine ⟨(q.1 : Int), bQ (lineL n)[k].1 q, ((lineL n)[k].1 : Int), (q.2 : Int), nfQ (q.1 : Int) (lineL n)[k].1, nfQ (bQ (lineL n)[k].1 q) q.2, h, t, by omega, by omega, hh, hT, fun w => ?_, fun w => ?_, fun w => ?_, fun w => ?_, fun w => ?_⟩
  · exact cosetMatrix_any n _ _ q F.cos hn hx.1 hx.2 w
  · exact fraction_any _ _ F.g1 (by omega) (by omega) w
  · exact fraction_any _ _ F.g2 F.bb (by omega) w
  · have := cuspOf_any n _ _ j1 F.c1 HV F.f1.2 (by omega) F.f1.1 w
    rwa [F.n1, hh] at this
  · have := cuspOf_any n _ _ j2 F.c2 HV F.f2.2 (by omega) F.f2.1 w
    rwa [F.n2, ht] at this
set_option maxRecDepth 8000 in
set_option maxHeartbeats 4000000 in
theorem EndsOf_any (n : Int) (v : Value) (x : List Int) (w : World) (hv : SlIn w .i64 v x) : Calls Try.prog 19 #[.int .i64 n, v] w (GivesEn n x w) := by
  obtain ⟨GF, hGF⟩ : ∃ GF, GivesEn n x w = GF := ⟨_, rfl⟩
  rw [hGF]
  have HGF := Lib.hid hGF
  have HLV := Lib.hid (fun w' => levelCode0_any n w')
  have HV := Lib.hid hv
  obtain ⟨xo, xc, rfl, hxc⟩ := hv.form
  have HXC := Lib.hid hxc
  clear hGF hv hxc
  go_enter Try.func19, Try.ntmps19
  go_wp2_with fail
  refine (HLV.out _).mono ?_
  rintro e w1 ⟨rfl, k1⟩
  have s1 := k1.size
  by_cases h0 : lvCode n = 0
  · obtain ⟨hn, hl⟩ := lv_zero h0
    obtain ⟨m, rfl⟩ := Int.eq_ofNat_of_zero_le (by omega : 0 ≤ n)
    rw [Int.toNat_natCast] at hl
    have hm : 1 ≤ m ∧ m ≤ 60 := by omega
    obtain ⟨HVL, HEF⟩ := lev_ok hm hl (line_pos hm.1)
    have HMX := Lib.hid (fun w' h => isMix_any m (.slice xo x.length xc) x w' hm (by omega) h)
    have HC := Lib.hid (show sumC (m : Int) [x] = if okX (lineL m).length x = true then 0 else 2 by
      unfold sumC
      rw [if_pos h0, Int.toNat_natCast]
      simp)
    have HCU := Lib.hid (fun w' => cusps_any m w' HVL)
    have HLN := Lib.hid (fun w' => line_any m w' hm)
    rw [h0]
    go_wp2_with fail
    refine (HMX.out _ (SlIn.below k1 HV.out)).mono ?_
    rintro e w2 ⟨rfl, k2⟩
    have kw2 : Below w.heap.size w w2 := k1.trans (k2.mono s1)
    have s2 := k2.size
    clear k2
    obtain ⟨b, hb⟩ : ∃ b, okX (lineL m).length x = b := ⟨_, rfl⟩
    rw [hb]
    have HB := Lib.hid hb
    clear hb
    cases b with
    | false =>
      go_wp2
      rw [← HGF.out]
      exact ⟨_, by rw [HC.out, HB.out]; rfl, by unfold endR; rw [HC.out, HB.out]; exact Own.nil _ _, kw2⟩
    | true =>
      have HXE := Lib.hid (okX_ent HB.out)
      have HSY := Lib.hid (show ∀ k (hk : k < (lineL m).length), SymF m (numC (movL m tM) (lineL m).length) k (lineL m)[k] from fun k hk => by
        obtain ⟨q, j1, j2, F⟩ := HEF k hk
        exact sym_of HVL hk F)
      have HR := Lib.hid (show endR (m : Int) x = endTo (hereF m) (thereF m) x (numC (movL m tM) (lineL m).length) (lineL m).length by
        unfold endR
        rw [HC.out, HB.out, Int.toNat_natCast]
        rfl)
      have HC0 := Lib.hid (show sumC (m : Int) [x] = 0 by rw [HC.out, HB.out]; rfl)
      have hC72 : numC (movL m tM) (lineL m).length ≤ 72 := Nat.le_trans (numTo_cnt _ _ _) hl
      obtain ⟨FH, hFH⟩ : ∃ f, hereF m = f := ⟨_, rfl⟩
      obtain ⟨FT, hFT⟩ : ∃ f, thereF m = f := ⟨_, rfl⟩
      rw [hFH, hFT] at HR
      have HFH := Lib.hid hFH
      have HFT := Lib.hid hFT
      clear hFH hFT
      generalize movL m tM = P at *
      generalize lineL m = L at *
      obtain ⟨N, hN⟩ : ∃ N, L.length = N := ⟨_, rfl⟩
      have HN := Lib.hid hN
      obtain ⟨C, hCe⟩ : ∃ C, numC P L.length = C := ⟨_, rfl⟩
      rw [hCe] at HR HSY hC72
      rw [hN] at HR HXE hl
      have HCE := Lib.hid hCe
      clear hCe hN HVL HEF HC HB
      have hix0 : ∀ w : World, (Instr.index 54 (.agg #[.int .i64 1, .int .i64 (-1)]) (.int .i64 0)).run Try.prog w = .ok (.int .i64 1) w := fun _ => by kernel_rfl
      have hix1 : ∀ w : World, (Instr.index 54 (.agg #[.int .i64 1, .int .i64 (-1)]) (.int .i64 1)).run Try.prog w = .ok (.int .i64 (-1)) w := fun _ => by kernel_rfl
      have hmk := run_make_row' (P := Try.prog) 25 2 (.int .i64 0) 8 Try.underlying25 infoI rfl .i64 .i64 C (by omega) (by omega)
      go_wp2_with fail
      refine (HCU.out _).mono ?_
      rintro e w3 ⟨v3, vs, css, rfl, O3, R3, ho, hc, hb3⟩
      have kw3 : Below w.heap.size w w3 := kw2.trans (hb3.mono (by omega))
      have s3 := kw3.size
      have hvl : vs.length = C := by rw [R3.len, hc, HCE.out]
      obtain ⟨co, cc, rfl⟩ := O3.len
      rw [hvl]
      clear O3 R3 ho hc hb3 hvl
      go_wp2_with fail
      refine (HLN.out _).mono ?_
      rintro e w5 ⟨v5, rfl, O5, hb⟩
      obtain ⟨lo, lc, rfl⟩ := O5.len
      rw [HN.out]
      have OP1 : OwnP w5 (w3.heap.size + 1) (.slice lo N lc) L := by
        have := OwnK.mono (B' := w3.heap.size + 1) (by simp) O5
        rwa [HN.out] at this
      have OO1 : Own w5 w.heap.size (.slice (some ⟨w3.heap.size, 0, none⟩) C C) (endTo FH FT x C 0) := by
        have := Own.below hb (Own.of_blk (B := w.heap.size) (xs := List.replicate C 0) (Blk.new rfl) (by omega) (made_zero C) (by rw [List.length_replicate]; unfold maxLen; omega))
        rwa [List.length_replicate] at this
      have kw5 : Below w.heap.size w w5 := (by repeat (first | (with_reducible exact Below.refl _ _) | (with_reducible assumption) | (with_reducible refine Below.drew ?_) | (with_reducible refine Below.drewN ?_) | ((with_reducible refine Below.al ?_ ?_); · first | omega | (simp; done) | (simp; omega)) | ((with_reducible refine Below.sc ?_ ?_); · first | omega | (simp; done) | (simp; omega)) | ((with_reducible refine Below.thru hb ?_ ?_); · first | omega | (simp; done) | (simp; omega)) | ((with_reducible refine Below.thru hb4 ?_ ?_); · first | omega | (simp; done) | (simp; omega)) | ((with_reducible refine Below.thru hb5 ?_ ?_); · first | omega | (simp; done) | (simp; omega))))
      have H1 := Lib.hid (And.intro OP1 OO1)
      clear hb O5 OP1 OO1 HCU HLN hmk HLV HMX
      generalize w3.heap.size = g0 at *
      go_wp2_with fail
      go_loopw [33] (fun ii wr => ∃ k : Nat, k ≤ N ∧ ii = .int .i64 k ∧ Hid (OwnP wr (g0 + 1) (.slice lo N lc) L ∧ Own wr w.heap.size (.slice (some ⟨g0, 0, none⟩) C C) (endTo FH FT x C k)) ∧ Below w.heap.size w wr) (fun ii _ => N - (intOf ii).toNat)
      case atStart => exact ⟨0, Nat.zero_le _, rfl, H1, kw5⟩
      case round =>
        clear H1 kw5
        obtain ⟨k, hk, rfl, H1, kwr⟩ := hrel
        have swr := kwr.size
        by_cases hlt : k < N
        · obtain ⟨a, b, c, d, p1, p2, h, t, hh, ht, eh, et, HM1, HF1, HF2, HK1, HK2⟩ := HSY.out k (by rw [HN.out]; exact hlt)
          obtain ⟨g, cap, hvg, hg1, hg2⟩ : ∃ g cap, Value.slice lo N lc = .slice (some ⟨g, 0, none⟩) N cap ∧ g0 + 1 ≤ g ∧ g < wr.heap.size := by
            rcases H1.out.1.form with ⟨h1, h2⟩ | ⟨g, cap, h1, h2, h3, -⟩
            · have := HN.out
              rw [h2] at this
              simp at this
              omega
            · exact ⟨g, cap, by rw [h1, HN.out], h2, h3⟩
          simp only [Value.slice.injEq, true_and] at hvg
          obtain ⟨rfl, rfl⟩ := hvg
          obtain ⟨c1, c2⟩ := OwnP.at2 H1.out.1 (show k < L.length by rw [HN.out]; exact hlt)
          have i0 : (0 : Int) ≤ (k : Int) := by omega
          have i1 : (k : Int) < (N : Int) := by omega
          have HM := Lib.hid HM1
          have HG1 := Lib.hid HF1
          have HG2 := Lib.hid HF2
          have HU1 := Lib.hid HK1
          have HU2 := Lib.hid HK2
          rw [HFH.out] at eh
          rw [HFT.out] at et
          have HEH := Lib.hid eh
          have HET := Lib.hid et
          clear HM1 HF1 HF2 HK1 HK2 eh et
          generalize L[k]'(by rw [HN.out]; exact hlt) = xx at *
          obtain ⟨x1, x2⟩ := xx
          simp only at c1 c2 HM
          go_wp2_with fail
          refine (HM.out _).mono ?_
          rintro e w6 ⟨rfl, hb⟩
          have kk : Below wr.heap.size wr w6 := (by repeat (first | (with_reducible exact Below.refl _ _) | (with_reducible assumption) | (with_reducible refine Below.drew ?_) | (with_reducible refine Below.drewN ?_) | ((with_reducible refine Below.al ?_ ?_); · first | omega | (simp; done) | (simp; omega)) | ((with_reducible refine Below.sc ?_ ?_); · first | omega | (simp; done) | (simp; omega)) | ((with_reducible refine Below.thru hb ?_ ?_); · first | omega | (simp; done) | (simp; omega)) | ((with_reducible refine Below.thru hb4 ?_ ?_); · first | omega | (simp; done) | (simp; omega)) | ((with_reducible refine Below.thru hb5 ?_ ?_); · first | omega | (simp; done) | (simp; omega))))
          have s6 := kk.size
          clear hb c1 c2
          go_wp2_with fail
          refine forget (fun W_ => Blk W_ w6.heap.size 57 #[.int .i64 a, .int .i64 b, .int .i64 c, .int .i64 d] ∧ Below wr.heap.size wr W_) ⟨Blk.new rfl, (by repeat (first | (with_reducible exact Below.refl _ _) | (with_reducible assumption) | (with_reducible refine Below.drew ?_) | (with_reducible refine Below.drewN ?_) | ((with_reducible refine Below.al ?_ ?_); · first | omega | (simp; done) | (simp; omega)) | ((with_reducible refine Below.sc ?_ ?_); · first | omega | (simp; done) | (simp; omega)) | ((with_reducible refine Below.thru hb ?_ ?_); · first | omega | (simp; done) | (simp; omega)) | ((with_reducible refine Below.thru hb4 ?_ ?_); · first | omega | (simp; done) | (simp; omega)) | ((with_reducible refine Below.thru hb5 ?_ ?_); · first | omega | (simp; done) | (simp; omega))))⟩ ?_
          rintro W0 ⟨MW0, kr0⟩
          have kW0 : Below w.heap.size w W0 := kwr.trans (kr0.mono swr)
          have SW0 := Lib.hid (show OwnP W0 (g0 + 1) (.slice (some ⟨g, 0, none⟩) N lc) L ∧ Own W0 w.heap.size (.slice (some ⟨g0, 0, none⟩) C C) (endTo FH FT x C k) from ⟨H1.out.1.below kr0, H1.out.2.below kr0⟩)
          have gmr : wr.heap.size ≤ w6.heap.size := s6
          have r0 : (0 : Int) ≤ (h : Int) := by omega
          have r1 : (h : Int) < (C : Int) := by omega
          have t0 : (0 : Int) ≤ (t : Int) := by omega
          have t1 : (t : Int) < (C : Int) := by omega
          have xi1 : (k : Int) < (x.length : Int) := by rw [HXE.out.1]; exact i1
          obtain ⟨xa, rfl, hxa⟩ := HXC.out (by omega)
          have hxk := hxa k (by omega)
          rw [show x[k]'(by omega) = x.getD k 0 from (getD_lt (by omega)).symm] at hxk
          have hxb := HXE.out.2 k hlt
          obtain ⟨xk, hxke⟩ : ∃ z, x.getD k 0 = z := ⟨_, rfl⟩
          rw [hxke] at hxk hxb
          have HXK := Lib.hid hxke
          clear hxa hxke
          obtain ⟨y1, hy1⟩ : ∃ z, (endTo FH FT x C k).getD h 0 = z := ⟨_, rfl⟩
          have HY1 := Lib.hid (show (endTo FH FT x C k)[h]? = some y1 by rw [← hy1]; exact get_getD (by rw [endTo_len]; exact hh))
          have hb1 := endTo_bd (H := FH) (T := FT) (x := x) (n := C) (k := k) (fun j hj => HXE.out.2 j (by omega)) h
          rw [hy1] at hb1
          clear hy1
          generalize w6.heap.size = gm at *
          obtain ⟨s1, hs1⟩ : ∃ z, y1 + xk = z := ⟨_, rfl⟩
          have HE1 := Lib.hid (show (endTo FH FT x C k).set h s1 = addAt (endTo FH FT x C k) (FH k) (x.getD k 0) by
            unfold addAt
            rw [HEH.out, HXK.out, Int.toNat_natCast, ← hs1]
            congr 2
            rw [List.getD_eq_getElem?_getD, HY1.out]
            rfl)
          obtain ⟨y2, hy2⟩ : ∃ z, ((endTo FH FT x C k).set h s1).getD t 0 = z := ⟨_, rfl⟩
          have HY2 := Lib.hid (show ((endTo FH FT x C k).set h s1)[t]? = some y2 by rw [← hy2]; exact get_getD (by rw [List.length_set, endTo_len]; exact ht))
          have hb2 : -200000000 ≤ y2 ∧ y2 ≤ 200000000 := by
            have h3 := endTo_bd (H := FH) (T := FT) (x := x) (n := C) (k := k) (fun j hj => HXE.out.2 j (by omega)) t
            rw [HE1.out] at hy2
            rcases addAt_get (endTo FH FT x C k) (FH k) (x.getD k 0) t with h4 | h4
            · rw [h4] at hy2; omega
            · rw [h4, HXK.out] at hy2; omega
          obtain ⟨s2, hs2⟩ : ∃ z, y2 + -xk = z := ⟨_, rfl⟩
          have HE2 := Lib.hid (show ((endTo FH FT x C k).set h s1).set t s2 = endTo FH FT x C (k + 1) by
            rw [endTo, ← HE1.out, addAt, HET.out, HXK.out, Int.toNat_natCast, hy2, hs2])
          have hq1 : IntKind.i64.wrap xk = xk := by rw [IntKind.wrap_i64]; omega
          have hq2 : IntKind.i64.wrap (-xk) = -xk := by rw [IntKind.wrap_i64]; omega
          have hq3 : IntKind.i64.wrap (y1 + xk) = s1 := by rw [IntKind.wrap_i64]; omega
          have hq4 : IntKind.i64.wrap (y2 + -xk) = s2 := by rw [IntKind.wrap_i64]; omega
          have hq5 : IntKind.i64.wrap (1 * xk) = xk := by rw [IntKind.wrap_i64]; omega
          have hq6 : IntKind.i64.wrap (-1 * xk) = -xk := by rw [IntKind.wrap_i64]; omega
          clear hs1 hs2 hy2 hb1 hb2 hxb
          have hwa : IntKind.i64.wrap 2 = 2 := by decide
          have hwb : IntKind.i64.wrap 3 = 3 := by decide
          have hwc : IntKind.i64.wrap (2 + 0) = 2 := by decide
          have hwd : IntKind.i64.wrap (2 + 1) = 3 := by decide
          --ROUND
          refine wp_loop_rounds 3 ?_
          rw [rounds_succ]
          go_wp2_with fail
          have ma0 := MW0.at (i := 0) rfl
          have ma1 := MW0.at (i := 2) rfl
          have lMa := MW0.lt
          go_cut [13] (fun s13 wx => ∃ g13 : Nat, Blk wx g13 59 #[.int .i64 p1, .int .i64 c] ∧ s13 = .pointer (some ⟨g13, 0, none⟩) ∧ Below W0.heap.size W0 wx)
          case first =>
            go_region_held3 (fun w' => w'.cell? ⟨gm, 0, none⟩ = some (.int .i64 a) ∧ w'.cell? ⟨gm, 2, none⟩ = some (.int .i64 c)) (first | go_keep | exact ⟨e0, e1⟩ | (refine ⟨?_, ?_⟩ <;> ((repeat rw [cell_put (by omega)]); first | exact e0 | exact e1))) (first | (go_at_call 38; refine (HG1.out _).mono ?_; rintro e wz ⟨rfl, hb4⟩; have hbc4 := bcell hb4; have hbs4 := hb4.size; (try simp at hbs4); have G0 : Blk wz gm 57 #[.int .i64 a, .int .i64 b, .int .i64 c, .int .i64 d] := (by repeat (first | (with_reducible assumption) | ((with_reducible refine Blk.new ?_); · first | omega | (simp; done) | (simp; omega)) | (with_reducible apply Blk.set4) | (with_reducible apply Blk.set3) | (with_reducible apply Blk.set2) | ((with_reducible refine Blk.put ?_ ?_); · first | omega | (simp; omega)) | (with_reducible refine Blk.old ?_) | (with_reducible refine Blk.drew ?_) | (with_reducible refine Blk.drewN ?_) | ((with_reducible refine Blk.below hb ?_ ?_); · first | omega | (simp; done) | (simp; omega)) | ((with_reducible refine Blk.below hb4 ?_ ?_); · first | omega | (simp; done) | (simp; omega)) | ((with_reducible refine Blk.below hb5 ?_ ?_); · first | omega | (simp; done) | (simp; omega)))); have m0 := G0.lt; have e0 := G0.at (i := 0) rfl; have e1 := G0.at (i := 2) rfl))
            all_goals go_wp2_with fail
            all_goals go_meet
            all_goals first | exact ⟨_, Blk.new rfl, rfl, (by repeat (first | (with_reducible exact Below.refl _ _) | (with_reducible assumption) | (with_reducible refine Below.drew ?_) | (with_reducible refine Below.drewN ?_) | ((with_reducible refine Below.al ?_ ?_); · first | omega | (simp; done) | (simp; omega)) | ((with_reducible refine Below.sc ?_ ?_); · first | omega | (simp; done) | (simp; omega)) | ((with_reducible refine Below.thru hb ?_ ?_); · first | omega | (simp; done) | (simp; omega)) | ((with_reducible refine Below.thru hb4 ?_ ?_); · first | omega | (simp; done) | (simp; omega)) | ((with_reducible refine Below.thru hb5 ?_ ?_); · first | omega | (simp; done) | (simp; omega))))⟩ | exact ⟨_, Blk.set2 (by repeat (first | (with_reducible assumption) | ((with_reducible refine Blk.new ?_); · first | omega | (simp; done) | (simp; omega)) | (with_reducible apply Blk.set4) | (with_reducible apply Blk.set3) | (with_reducible apply Blk.set2) | ((with_reducible refine Blk.put ?_ ?_); · first | omega | (simp; omega)) | (with_reducible refine Blk.old ?_) | (with_reducible refine Blk.drew ?_) | (with_reducible refine Blk.drewN ?_) | ((with_reducible refine Blk.below hb ?_ ?_); · first | omega | (simp; done) | (simp; omega)) | ((with_reducible refine Blk.below hb4 ?_ ?_); · first | omega | (simp; done) | (simp; omega)) | ((with_reducible refine Blk.below hb5 ?_ ?_); · first | omega | (simp; done) | (simp; omega)))), rfl, (by repeat (first | (with_reducible exact Below.refl _ _) | (with_reducible assumption) | (with_reducible refine Below.drew ?_) | (with_reducible refine Below.drewN ?_) | ((with_reducible refine Below.al ?_ ?_); · first | omega | (simp; done) | (simp; omega)) | ((with_reducible refine Below.sc ?_ ?_); · first | omega | (simp; done) | (simp; omega)) | ((with_reducible refine Below.thru hb ?_ ?_); · first | omega | (simp; done) | (simp; omega)) | ((with_reducible refine Below.thru hb4 ?_ ?_); · first | omega | (simp; done) | (simp; omega)) | ((with_reducible refine Below.thru hb5 ?_ ?_); · first | omega | (simp; done) | (simp; omega))))⟩
          case rest =>
          obtain ⟨g13, Fa, rfl, hb⟩ := hcut
          have fa0 := Fa.at (i := 0) rfl
          have fa1 := Fa.at (i := 1) rfl
          go_wp2_with fail
          refine (HU1.out _).mono ?_
          rintro e w9a ⟨rfl, hb4⟩
          have kca : Below W0.heap.size W0 w9a := hb.trans (hb4.mono hb.size)
          have kda : Below w.heap.size w w9a := kW0.trans (kca.mono kW0.size)
          have sda := kda.size
          have Za := Lib.hid (show OwnP w9a (g0 + 1) (.slice (some ⟨g, 0, none⟩) N lc) L ∧ Own w9a w.heap.size (.slice (some ⟨g0, 0, none⟩) C C) (endTo FH FT x C k) ∧ Blk w9a gm 57 #[.int .i64 a, .int .i64 b, .int .i64 c, .int .i64 d] from ⟨SW0.out.1.below kca, SW0.out.2.below kca, MW0.below kca lMa⟩)
          clear hb hb4 fa0 fa1 Fa ma0 ma1
          have ya0 : w9a.cell? ⟨g0, h, none⟩ = some (.int .i64 y1) := Za.out.2.1.at rfl HY1.out
          have ya1 := Za.out.2.1.fr.1 h
          have xa0 : w9a.cell? (xa.add k) = some (.int .i64 xk) := (kda.cell (block_lt_of_cell hxk :)).trans hxk
          go_wp2_with fail
          have Ya := cell_later ya0
          have Xa := cell_later xa0
          refine wp_region_calm_tail 12 (by kernel_rfl) (by kernel_rfl) ?_; simp only [List.take_succ_cons, List.take_zero, List.drop_succ_cons, List.drop_zero]
          repeat (go_big_quiet_step (fail))
          refine wpQuiet_nil ?_
          rintro w8a ⟨⟨_, hb⟩, rfl⟩
          have kqa : Below w9a.heap.size w9a w8a := (by repeat (first | (with_reducible exact Below.refl _ _) | (with_reducible assumption) | (with_reducible refine Below.drew ?_) | (with_reducible refine Below.drewN ?_) | ((with_reducible refine Below.al ?_ ?_); · first | omega | (simp; done) | (simp; omega)) | ((with_reducible refine Below.sc ?_ ?_); · first | omega | (simp; done) | (simp; omega)) | ((with_reducible refine Below.thru hb ?_ ?_); · first | omega | (simp; done) | (simp; omega)) | ((with_reducible refine Below.thru hb4 ?_ ?_); · first | omega | (simp; done) | (simp; omega)) | ((with_reducible refine Below.thru hb5 ?_ ?_); · first | omega | (simp; done) | (simp; omega))))
          have kw8a : Below w.heap.size w w8a := (by repeat (first | (with_reducible exact Below.refl _ _) | (with_reducible assumption) | (with_reducible refine Below.drew ?_) | (with_reducible refine Below.drewN ?_) | ((with_reducible refine Below.al ?_ ?_); · first | omega | (simp; done) | (simp; omega)) | ((with_reducible refine Below.sc ?_ ?_); · first | omega | (simp; done) | (simp; omega)) | ((with_reducible refine Below.thru hb ?_ ?_); · first | omega | (simp; done) | (simp; omega)) | ((with_reducible refine Below.thru hb4 ?_ ?_); · first | omega | (simp; done) | (simp; omega)) | ((with_reducible refine Below.thru hb5 ?_ ?_); · first | omega | (simp; done) | (simp; omega))))
          have sw8a := kw8a.size
          clear hb
          clear Ya Xa
          have Va := Lib.hid (show OwnP w8a (g0 + 1) (.slice (some ⟨g, 0, none⟩) N lc) L ∧ Own w8a w.heap.size (.slice (some ⟨g0, 0, none⟩) C C) (endTo FH FT x C k) ∧ Blk w8a gm 57 #[.int .i64 a, .int .i64 b, .int .i64 c, .int .i64 d] from ⟨Za.out.1.below kqa, Za.out.2.1.below kqa, Za.out.2.2.below kqa Za.out.2.2.lt⟩)
          clear ya0 ya1 xa0 kqa Za
          have ya0 : w8a.cell? ⟨g0, h, none⟩ = some (.int .i64 y1) := Va.out.2.1.at rfl HY1.out
          have ya1 := Va.out.2.1.fr.1 h
          go_wp2_with fail
          rw [rounds_succ]
          refine forget (fun W_ => (OwnP W_ (g0 + 1) (.slice (some ⟨g, 0, none⟩) N lc) L ∧ Own W_ w.heap.size (.slice (some ⟨g0, 0, none⟩) C C) ((endTo FH FT x C k).set h s1) ∧ Blk W_ gm 57 #[.int .i64 a, .int .i64 b, .int .i64 c, .int .i64 d]) ∧ Below w.heap.size w W_) ⟨⟨OwnK.put (by omega) Va.out.1, OwnI.set Va.out.2.1 (endTo_len _ _ _ _ _), Blk.put (by omega) Va.out.2.2⟩, (by repeat (first | (with_reducible exact Below.refl _ _) | (with_reducible assumption) | (with_reducible refine Below.drew ?_) | (with_reducible refine Below.drewN ?_) | ((with_reducible refine Below.al ?_ ?_); · first | omega | (simp; done) | (simp; omega)) | ((with_reducible refine Below.sc ?_ ?_); · first | omega | (simp; done) | (simp; omega)) | ((with_reducible refine Below.thru hb ?_ ?_); · first | omega | (simp; done) | (simp; omega)) | ((with_reducible refine Below.thru hb4 ?_ ?_); · first | omega | (simp; done) | (simp; omega)) | ((with_reducible refine Below.thru hb5 ?_ ?_); · first | omega | (simp; done) | (simp; omega))))⟩ ?_
          rintro W1 ⟨hSW1, kW1⟩
          have SW1 := Lib.hid (And.intro hSW1.1 hSW1.2.1)
          have MW1 := hSW1.2.2
          clear hSW1 ya0 ya1 Va kw8a sw8a kca kda sda lMa
          go_wp2_with fail
          have mb0 := MW1.at (i := 1) rfl
          have mb1 := MW1.at (i := 3) rfl
          have lMb := MW1.lt
          go_cut [13] (fun s13 wx => ∃ g13 : Nat, Blk wx g13 59 #[.int .i64 p2, .int .i64 d] ∧ s13 = .pointer (some ⟨g13, 0, none⟩) ∧ Below W1.heap.size W1 wx)
          case first =>
            go_region_held3 (fun w' => w'.cell? ⟨gm, 1, none⟩ = some (.int .i64 b) ∧ w'.cell? ⟨gm, 3, none⟩ = some (.int .i64 d)) (first | go_keep | exact ⟨e0, e1⟩ | (refine ⟨?_, ?_⟩ <;> ((repeat rw [cell_put (by omega)]); first | exact e0 | exact e1))) (first | (go_at_call 38; refine (HG2.out _).mono ?_; rintro e wz ⟨rfl, hb4⟩; have hbc4 := bcell hb4; have hbs4 := hb4.size; (try simp at hbs4); have G0 : Blk wz gm 57 #[.int .i64 a, .int .i64 b, .int .i64 c, .int .i64 d] := (by repeat (first | (with_reducible assumption) | ((with_reducible refine Blk.new ?_); · first | omega | (simp; done) | (simp; omega)) | (with_reducible apply Blk.set4) | (with_reducible apply Blk.set3) | (with_reducible apply Blk.set2) | ((with_reducible refine Blk.put ?_ ?_); · first | omega | (simp; omega)) | (with_reducible refine Blk.old ?_) | (with_reducible refine Blk.drew ?_) | (with_reducible refine Blk.drewN ?_) | ((with_reducible refine Blk.below hb ?_ ?_); · first | omega | (simp; done) | (simp; omega)) | ((with_reducible refine Blk.below hb4 ?_ ?_); · first | omega | (simp; done) | (simp; omega)) | ((with_reducible refine Blk.below hb5 ?_ ?_); · first | omega | (simp; done) | (simp; omega)))); have m0 := G0.lt; have e0 := G0.at (i := 1) rfl; have e1 := G0.at (i := 3) rfl))
            all_goals go_wp2_with fail
            all_goals go_meet
            all_goals first | exact ⟨_, Blk.new rfl, rfl, (by repeat (first | (with_reducible exact Below.refl _ _) | (with_reducible assumption) | (with_reducible refine Below.drew ?_) | (with_reducible refine Below.drewN ?_) | ((with_reducible refine Below.al ?_ ?_); · first | omega | (simp; done) | (simp; omega)) | ((with_reducible refine Below.sc ?_ ?_); · first | omega | (simp; done) | (simp; omega)) | ((with_reducible refine Below.thru hb ?_ ?_); · first | omega | (simp; done) | (simp; omega)) | ((with_reducible refine Below.thru hb4 ?_ ?_); · first | omega | (simp; done) | (simp; omega)) | ((with_reducible refine Below.thru hb5 ?_ ?_); · first | omega | (simp; done) | (simp; omega))))⟩ | exact ⟨_, Blk.set2 (by repeat (first | (with_reducible assumption) | ((with_reducible refine Blk.new ?_); · first | omega | (simp; done) | (simp; omega)) | (with_reducible apply Blk.set4) | (with_reducible apply Blk.set3) | (with_reducible apply Blk.set2) | ((with_reducible refine Blk.put ?_ ?_); · first | omega | (simp; omega)) | (with_reducible refine Blk.old ?_) | (with_reducible refine Blk.drew ?_) | (with_reducible refine Blk.drewN ?_) | ((with_reducible refine Blk.below hb ?_ ?_); · first | omega | (simp; done) | (simp; omega)) | ((with_reducible refine Blk.below hb4 ?_ ?_); · first | omega | (simp; done) | (simp; omega)) | ((with_reducible refine Blk.below hb5 ?_ ?_); · first | omega | (simp; done) | (simp; omega)))), rfl, (by repeat (first | (with_reducible exact Below.refl _ _) | (with_reducible assumption) | (with_reducible refine Below.drew ?_) | (with_reducible refine Below.drewN ?_) | ((with_reducible refine Below.al ?_ ?_); · first | omega | (simp; done) | (simp; omega)) | ((with_reducible refine Below.sc ?_ ?_); · first | omega | (simp; done) | (simp; omega)) | ((with_reducible refine Below.thru hb ?_ ?_); · first | omega | (simp; done) | (simp; omega)) | ((with_reducible refine Below.thru hb4 ?_ ?_); · first | omega | (simp; done) | (simp; omega)) | ((with_reducible refine Below.thru hb5 ?_ ?_); · first | omega | (simp; done) | (simp; omega))))⟩
          case rest =>
          obtain ⟨g13, Fb, rfl, hb⟩ := hcut
          have fb0 := Fb.at (i := 0) rfl
          have fb1 := Fb.at (i := 1) rfl
          go_wp2_with fail
          refine (HU2.out _).mono ?_
          rintro e w9b ⟨rfl, hb4⟩
          have kcb : Below W1.heap.size W1 w9b := hb.trans (hb4.mono hb.size)
          have kdb : Below w.heap.size w w9b := kW1.trans (kcb.mono kW1.size)
          have sdb := kdb.size
          have Zb := Lib.hid (show OwnP w9b (g0 + 1) (.slice (some ⟨g, 0, none⟩) N lc) L ∧ Own w9b w.heap.size (.slice (some ⟨g0, 0, none⟩) C C) ((endTo FH FT x C k).set h s1) ∧ Blk w9b gm 57 #[.int .i64 a, .int .i64 b, .int .i64 c, .int .i64 d] from ⟨SW1.out.1.below kcb, SW1.out.2.below kcb, MW1.below kcb lMb⟩)
          clear hb hb4 fb0 fb1 Fb mb0 mb1
          have yb0 : w9b.cell? ⟨g0, t, none⟩ = some (.int .i64 y2) := Zb.out.2.1.at rfl HY2.out
          have yb1 := Zb.out.2.1.fr.1 t
          have xb0 : w9b.cell? (xa.add k) = some (.int .i64 xk) := (kdb.cell (block_lt_of_cell hxk :)).trans hxk
          go_wp2_with fail
          have Yb := cell_later yb0
          have Xb := cell_later xb0
          refine wp_region_calm_tail 12 (by kernel_rfl) (by kernel_rfl) ?_; simp only [List.take_succ_cons, List.take_zero, List.drop_succ_cons, List.drop_zero]
          repeat (go_big_quiet_step (fail))
          refine wpQuiet_nil ?_
          rintro w8b ⟨⟨_, hb⟩, rfl⟩
          have kqb : Below w9b.heap.size w9b w8b := (by repeat (first | (with_reducible exact Below.refl _ _) | (with_reducible assumption) | (with_reducible refine Below.drew ?_) | (with_reducible refine Below.drewN ?_) | ((with_reducible refine Below.al ?_ ?_); · first | omega | (simp; done) | (simp; omega)) | ((with_reducible refine Below.sc ?_ ?_); · first | omega | (simp; done) | (simp; omega)) | ((with_reducible refine Below.thru hb ?_ ?_); · first | omega | (simp; done) | (simp; omega)) | ((with_reducible refine Below.thru hb4 ?_ ?_); · first | omega | (simp; done) | (simp; omega)) | ((with_reducible refine Below.thru hb5 ?_ ?_); · first | omega | (simp; done) | (simp; omega))))
          have kw8b : Below w.heap.size w w8b := (by repeat (first | (with_reducible exact Below.refl _ _) | (with_reducible assumption) | (with_reducible refine Below.drew ?_) | (with_reducible refine Below.drewN ?_) | ((with_reducible refine Below.al ?_ ?_); · first | omega | (simp; done) | (simp; omega)) | ((with_reducible refine Below.sc ?_ ?_); · first | omega | (simp; done) | (simp; omega)) | ((with_reducible refine Below.thru hb ?_ ?_); · first | omega | (simp; done) | (simp; omega)) | ((with_reducible refine Below.thru hb4 ?_ ?_); · first | omega | (simp; done) | (simp; omega)) | ((with_reducible refine Below.thru hb5 ?_ ?_); · first | omega | (simp; done) | (simp; omega))))
          have sw8b := kw8b.size
          clear hb
          clear Yb Xb
          have Vb := Lib.hid (show OwnP w8b (g0 + 1) (.slice (some ⟨g, 0, none⟩) N lc) L ∧ Own w8b w.heap.size (.slice (some ⟨g0, 0, none⟩) C C) ((endTo FH FT x C k).set h s1) ∧ Blk w8b gm 57 #[.int .i64 a, .int .i64 b, .int .i64 c, .int .i64 d] from ⟨Zb.out.1.below kqb, Zb.out.2.1.below kqb, Zb.out.2.2.below kqb Zb.out.2.2.lt⟩)
          clear yb0 yb1 xb0 kqb Zb
          have yb0 : w8b.cell? ⟨g0, t, none⟩ = some (.int .i64 y2) := Vb.out.2.1.at rfl HY2.out
          have yb1 := Vb.out.2.1.fr.1 t
          go_wp2_with fail
          rw [rounds_succ]
          refine forget (fun W_ => (OwnP W_ (g0 + 1) (.slice (some ⟨g, 0, none⟩) N lc) L ∧ Own W_ w.heap.size (.slice (some ⟨g0, 0, none⟩) C C) (((endTo FH FT x C k).set h s1).set t s2) ∧ Blk W_ gm 57 #[.int .i64 a, .int .i64 b, .int .i64 c, .int .i64 d]) ∧ Below w.heap.size w W_) ⟨⟨OwnK.put (by omega) Vb.out.1, OwnI.set Vb.out.2.1 (by rw [List.length_set, endTo_len]), Blk.put (by omega) Vb.out.2.2⟩, (by repeat (first | (with_reducible exact Below.refl _ _) | (with_reducible assumption) | (with_reducible refine Below.drew ?_) | (with_reducible refine Below.drewN ?_) | ((with_reducible refine Below.al ?_ ?_); · first | omega | (simp; done) | (simp; omega)) | ((with_reducible refine Below.sc ?_ ?_); · first | omega | (simp; done) | (simp; omega)) | ((with_reducible refine Below.thru hb ?_ ?_); · first | omega | (simp; done) | (simp; omega)) | ((with_reducible refine Below.thru hb4 ?_ ?_); · first | omega | (simp; done) | (simp; omega)) | ((with_reducible refine Below.thru hb5 ?_ ?_); · first | omega | (simp; done) | (simp; omega))))⟩ ?_
          rintro W2 ⟨hSW2, kW2⟩
          have SW2 := Lib.hid (And.intro hSW2.1 hSW2.2.1)
          have MW2 := hSW2.2.2
          clear hSW2 yb0 yb1 Vb kw8b sw8b kcb kdb sdb lMb
          go_wp2_with fail
          go_roundw
          case rel => exact ⟨k + 1, by omega, by go_num, Lib.hid ⟨SW2.out.1, by rw [← HE2.out]; exact SW2.out.2⟩, kW2⟩
          case measure => first | (simp [intOf]; done) | (simp [intOf]; omega)
          --ENDROUND
        · obtain rfl : k = N := by omega
          go_wp2
          rw [← HGF.out]
          exact ⟨_, by rw [HC0.out]; rfl, by rw [HR.out]; exact H1.out.2, kwr⟩
  · have H0 := Lib.hid h0
    have HC := Lib.hid (show sumC n [x] = lvCode n by unfold sumC; rw [if_neg h0])
    go_wp2
    rw [← HGF.out]
    exact ⟨_, by rw [HC.out]; rfl, by unfold endR; rw [HC.out, if_neg H0.out]; exact Own.nil _ _, k1⟩

end Go.Proofs.Ytjjbaebddkejnaa

/- The ends of a mix: the reference's walk. -/
namespace Go.Proofs.Ytjjbaebddkejnaa
open Go.RowKit Go.Proofs.Ytjjbaebddkejnaa.Pl08Prime Go.Proofs.YtjjbaebddkejnaaW.PrintWords
set_option linter.unusedSimpArgs false

/-- A slice that came in, as the printed functions read it. -/
theorem kd_slInE {w : World} {ao : Option Addr} {c : Nat} {xs : List Int} (h : SlIn w .i64 (.slice ao xs.length c) xs) : xs.length ≤ c ∧ Kd.C (Kd.int .i64) w ao xs.length xs := by
  rcases h with ⟨h1, rfl⟩ | ⟨a, cap, h1, h2, h3, h4⟩
  · cases h1
    exact ⟨Nat.le_refl _, rfl, by decide, fun h => absurd h (by decide)⟩
  · injection h1 with h1 _ h5
    subst h1 h5
    refine ⟨h2, rfl, by unfold maxLen at h3; omega, fun _ => ⟨a, rfl, fun j q hq => ?_⟩⟩
    obtain ⟨hj, e⟩ := List.getElem?_eq_some_iff.1 hq
    refine ⟨[.int .i64 q], rfl, rfl, fun i u hu => ?_⟩
    match i, hu with
    | 0, hu =>
      simp only [List.getElem?_cons_zero, Option.some.injEq] at hu
      subst hu
      show w.cell? (a.add (j * 1 + 0)) = _
      rw [show j * 1 + 0 = j by omega, h4 j hj, e]
/-- A block of one slice, as the printed functions read it. -/
theorem kd_oneE {w : World} {g : Nat} {v : Value} {x : List Int} (hv : SlIn w .i64 v x) (hb : Blk w g 25 #[v]) : Kd.C (Kd.slice 2 (Kd.int .i64)) w (some ⟨g, 0, none⟩) [x].length [x] := by
  obtain ⟨xo, xc, rfl, -⟩ := hv.form
  refine ⟨rfl, by simp, fun _ => ⟨⟨g, 0, none⟩, rfl, fun j q hq => ?_⟩⟩
  match j, hq with
  | 0, hq =>
    simp only [List.getElem?_cons_zero, Option.some.injEq] at hq
    subst hq
    have h := kd_slInE hv
    refine ⟨[.slice xo x.length xc], rfl, ⟨xo, xc, rfl, h.1, h.2⟩, fun i u hu => ?_⟩
    match i, hu with
    | 0, hu =>
      simp only [List.getElem?_cons_zero, Option.some.injEq] at hu
      subst hu
      exact hb.at (i := 0) rfl
/-- What one symbol of a mix needs on the reference's side. -/
def SymG (n C k : Nat) (ns : List Int) (L : List (Nat × Nat)) (x : Nat × Nat) : Prop := ∃ h t s : Nat, h < C ∧ t < C ∧ s < ns.length ∧ hereF n k = (h : Int) ∧ thereF n k = (t : Int) ∧ ns[k]? = some (h : Int) ∧ ns[s]? = some (t : Int) ∧ x.1 < 60 ∧ x.2 < 60 ∧
  ∀ (v : Value) (mm : Nat) (w' : World), LineC w' mm v L → mm ≤ w'.heap.size → Calls Try.prog 35 #[.int .i64 (n : Int), v, .int .i64 (x.2 : Int), .int .i64 (-(x.1 : Int))] w' fun e w'' => e = .returned (.int .i64 (s : Int)) ∧ Below w'.heap.size w' w''
theorem symg_of {n k : Nat} {q : Nat × Nat} {j1 j2 : Nat} (HV : Lvl n) (hk : k < (lineL n).length) (F : EndF n k q j1 j2 (lineL n)[k]) : SymG n (numC (movL n tM) (lineL n).length) k (numL (movL n tM) (lineL n).length) (lineL n) (lineL n)[k] := by
  have hx := line_lt hk
  have hn := HV.n1
  have hl := HV.l72
  have e1 := numL_bd (movL n tM) hk
  have e2 := numL_bd (movL n tM) F.s
  have hnl := numL_len (movL n tM) (lineL n).length
  obtain ⟨h, hh⟩ := Int.eq_ofNat_of_zero_le e1.1
  obtain ⟨t, ht⟩ := Int.eq_ofNat_of_zero_le e2.1
  have hT : thereF n k = (t : Int) := by
    unfold thereF
    rw [show (lineL n).getD k (0, 0) = (lineL n)[k] by rw [List.getD_eq_getElem?_getD, List.getElem?_eq_getElem hk]; rfl]
    exact ht
  refine ⟨h, t, sQ n (lineL n) (lineL n)[k], by omega, by omega, by rw [hnl]; exact F.s, hh, hT, by rw [← hh]; exact get_getD (by rw [hnl]; exact hk), by rw [← ht]; exact get_getD (by rw [hnl]; exact F.s), by omega, by omega, fun v mm w' h1 h2 => ?_⟩
  have := l06Number_any n ((lineL n)[k].2 : Int) (-((lineL n)[k].1 : Int)) (lineL n) v mm w' h1 h2 (by omega) hn (isPrC_s (List.getElem_mem hk))
  rwa [F.si] at this
set_option maxRecDepth 8000 in
set_option maxHeartbeats 4000000 in
theorem specEndsOf_any (n : Int) (v : Value) (x : List Int) (w : World) (hv : SlIn w .i64 v x) : Calls Try.prog 18 #[.int .i64 n, v] w (GivesEn n x w) := by
  obtain ⟨GF, hGF⟩ : ∃ GF, GivesEn n x w = GF := ⟨_, rfl⟩
  rw [hGF]
  have HGF := Lib.hid hGF
  obtain ⟨K, hK⟩ := sumC_ev n [x] (by simp)
  have HP := Lib.hid (fun (g c : Nat) (w' : World) h1 h2 => spec_l08Sums.calls K n (some ⟨g, 0, none⟩) c [x] (sumC n [x]) w' h1 h2 (hK K (Nat.le_refl _)))
  have HV := Lib.hid hv
  obtain ⟨xo, xc, rfl, hxc⟩ := hv.form
  have HXC := Lib.hid hxc
  clear hGF hK hv hxc
  go_enter Try.func18, Try.ntmps18
  go_wp2_with fail
  refine (HP.out _ _ _ (kd_oneE (SlIn.alloc HV.out) (Blk.new rfl)) (Nat.le_refl _)).mono ?_
  rintro e w1 ⟨rfl, d1⟩
  have k1 : Below w.heap.size w w1 := ((Below.refl w.heap.size w).alloc (Nat.le_refl _) _).trans (d1.below.mono (by simp))
  have s1 := k1.size
  clear d1
  obtain ⟨c, hc⟩ : ∃ c, sumC n [x] = c := ⟨_, rfl⟩
  rw [hc]
  have HC := Lib.hid hc
  by_cases h0 : c = 0
  · subst h0
    have hlv : lvCode n = 0 := by
      unfold sumC at hc
      split at hc
      · assumption
      · exact hc
    have hok : okX (lineL n.toNat).length x = true := by
      unfold sumC at hc
      rw [if_pos hlv] at hc
      split at hc
      · rename_i h
        simpa using h
      · cases hc
    obtain ⟨hn, hl⟩ := lv_zero hlv
    obtain ⟨m, rfl⟩ := Int.eq_ofNat_of_zero_le (by omega : 0 ≤ n)
    rw [Int.toNat_natCast] at hl hok
    have hm : 1 ≤ m ∧ m ≤ 60 := by omega
    obtain ⟨HVL, HEF⟩ := lev_ok hm hl (line_pos hm.1)
    have HXE := Lib.hid (okX_ent hok)
    have HSY := Lib.hid (show ∀ k (hk : k < (lineL m).length), SymG m (numC (movL m tM) (lineL m).length) k (numL (movL m tM) (lineL m).length) (lineL m) (lineL m)[k] from fun k hk => by
      obtain ⟨q, j1, j2, F⟩ := HEF k hk
      exact symg_of HVL hk F)
    have HR := Lib.hid (show endR (m : Int) x = endTo (hereF m) (thereF m) x (numC (movL m tM) (lineL m).length) (lineL m).length by
      unfold endR
      rw [hc, if_pos rfl, Int.toNat_natCast]
      rfl)
    have HLN := Lib.hid (fun w' : World => l06Line_any m w' hm)
    have HLC := Lib.hid (fun (B : Nat) (w' : World) (v : Value) (vs : List Sl) O R => LineC.of (w := w') (B := B) (v := v) (vs := vs) (xs := lineL m) O R)
    have HCU := Lib.hid (fun (v : Value) (mm : Nat) (w' : World) h1 h2 => l06Cusps_any m v mm w' h1 h2 HVL)
    have hC72 : numC (movL m tM) (lineL m).length ≤ 72 := Nat.le_trans (numTo_cnt _ _ _) hl
    unfold GivesU at HCU
    have HN1 := Lib.hid (line_pos hm.1)
    have HNL := Lib.hid (numL_len (movL m tM) (lineL m).length)
    obtain ⟨FH, hFH⟩ : ∃ f, hereF m = f := ⟨_, rfl⟩
    obtain ⟨FT, hFT⟩ : ∃ f, thereF m = f := ⟨_, rfl⟩
    rw [hFH, hFT] at HR
    have HFH := Lib.hid hFH
    have HFT := Lib.hid hFT
    clear hFH hFT HVL HEF hlv hok hc
    generalize movL m tM = P at *
    generalize lineL m = L at *
    obtain ⟨C, hCe⟩ : ∃ C, numC P L.length = C := ⟨_, rfl⟩
    obtain ⟨ns, hns⟩ : ∃ ns, numL P L.length = ns := ⟨_, rfl⟩
    rw [hCe] at HR HSY hC72 HCU
    rw [hns] at HSY HCU HNL
    obtain ⟨N, hN⟩ : ∃ N, L.length = N := ⟨_, rfl⟩
    rw [hN] at HR HXE hl HNL HN1
    have HN := Lib.hid hN
    clear hN hCe hns
    have hmk := run_make_row' (P := Try.prog) 25 2 (.int .i64 0) 8 Try.underlying25 infoI rfl .i64 .i64 C (by omega) (by omega)
    go_wp2_with fail
    refine (HLN.out _).mono ?_
    rintro e w2 ⟨v2, vs2, rfl, O2, R2, k2⟩
    have LC2 := Lib.hid (HLC.out _ _ _ _ O2 R2)
    have kw2 : Below w.heap.size w w2 := k1.trans (k2.mono s1)
    have s2 := kw2.size
    obtain ⟨lo, lc, hlv, -⟩ := LC2.out
    rw [HN.out] at hlv
    subst hlv
    clear O2 R2 k2 k1 s1
    go_wp2_with fail
    refine (HCU.out _ _ _ LC2.out (Nat.le_refl _)).mono ?_
    rintro e w3 ⟨v3, rfl, O3, k3⟩
    have kw3 : Below w.heap.size w w3 := kw2.trans (k3.mono s2)
    have s3 := k3.size
    have H3 := Lib.hid (And.intro O3 (LC2.out.below k3))
    obtain ⟨gb, nc, rfl⟩ : ∃ gb nc, v3 = .slice (some ⟨gb, 0, none⟩) N nc := by
      rcases O3.toK.form with ⟨-, h2⟩ | ⟨g, cap, h1, -⟩
      · have := HNL.out
        rw [h2] at this
        have h1 := HN1.out
        simp at this
        omega
      · exact ⟨g, cap, by rw [h1, HNL.out]⟩
    clear O3 k3 LC2 kw2
    have OO1 : Own (w3.alloc (Obj.cells (madeCells #[Value.int .i64 0] C) 2)) w.heap.size (.slice (some ⟨w3.heap.size, 0, none⟩) C C) (endTo FH FT x C 0) := by
      have := Own.of_blk (B := w.heap.size) (xs := List.replicate C 0) (Blk.new (w := w3) (E := 2) rfl) (by have := kw3.size; omega) (made_zero C) (by rw [List.length_replicate]; unfold maxLen; omega)
      rwa [List.length_replicate] at this
    have HO1 := Lib.hid OO1
    have sg0 := kw3.size
    clear OO1
    go_wp2_with fail
    clear hmk
    go_loopw [11] (fun ii wr => ∃ k : Nat, k ≤ N ∧ ii = .int .i64 k ∧ Hid (Own wr w.heap.size (.slice (some ⟨w3.heap.size, 0, none⟩) C C) (endTo FH FT x C k)) ∧ Below w3.heap.size w3 wr) (fun ii _ => N - (intOf ii).toNat)
    case atStart => exact ⟨0, Nat.zero_le _, rfl, HO1, (by repeat (first | (with_reducible exact Below.refl _ _) | (with_reducible assumption) | (with_reducible refine Below.drew ?_) | (with_reducible refine Below.drewN ?_) | ((with_reducible refine Below.al ?_ ?_); · first | omega | (simp; done) | (simp; omega)) | ((with_reducible refine Below.sc ?_ ?_); · first | omega | (simp; done) | (simp; omega)) | ((with_reducible refine Below.thru hb ?_ ?_); · first | omega | (simp; done) | (simp; omega)) | ((with_reducible refine Below.thru hb4 ?_ ?_); · first | omega | (simp; done) | (simp; omega)) | ((with_reducible refine Below.thru hb5 ?_ ?_); · first | omega | (simp; done) | (simp; omega))))⟩
    case round =>
      clear HO1
      obtain ⟨k, hk, rfl, SW, klwr⟩ := hrel
      have kwr : Below w.heap.size w wr := kw3.trans (klwr.mono sg0)
      have swr := klwr.size
      by_cases hlt : k < N
      · obtain ⟨h, t, s, hh, ht, hsN, eh, et, nk, nsx, b1, b2, hcall⟩ := HSY.out k (by rw [HN.out]; exact hlt)
        rw [HFH.out] at eh
        rw [HFT.out] at et
        have HEH := Lib.hid eh
        have HET := Lib.hid et
        have HC1 := Lib.hid hcall
        rw [HNL.out] at hsN
        have hNN := Own.below klwr H3.out.1
        have c0 := hNN.at (g := gb) rfl nk
        have c1 := hNN.at (g := gb) rfl nsx
        have hL := LineC.below H3.out.2 (klwr.mono s3)
        have HL3 := Lib.hid (LineC.later hL (by omega))
        have HZ := Lib.hid (later_size (W := wr) (m := w2.heap.size) (by omega))
        obtain ⟨ao2, c2, hv2, hcs⟩ := hL
        rw [HN.out] at hv2
        simp only [Value.slice.injEq, true_and] at hv2
        obtain ⟨rfl, rfl⟩ := hv2
        obtain ⟨g, rfl, hg, hcs⟩ := hcs (by rw [HN.out]; omega)
        obtain ⟨g2, cc2, hg2, d0, d1, d2⟩ := hcs k (by rw [HN.out]; exact hlt)
        clear hcs eh et hcall nk nsx hNN
        have r0 : (0 : Int) ≤ (h : Int) := by omega
        have r1 : (h : Int) < (C : Int) := by omega
        have t0 : (0 : Int) ≤ (t : Int) := by omega
        have t1 : (t : Int) < (C : Int) := by omega
        have i0 : (0 : Int) ≤ (k : Int) := by omega
        have i1 : (k : Int) < (N : Int) := by omega
        have u0 : (0 : Int) ≤ (s : Int) := by omega
        have u1 : (s : Int) < (N : Int) := by omega
        have xi1 : (k : Int) < (x.length : Int) := by rw [HXE.out.1]; exact i1
        obtain ⟨xa, rfl, hxa⟩ := HXC.out (by omega)
        have hxk := hxa k (by omega)
        rw [show x[k]'(by omega) = x.getD k 0 from (getD_lt (by omega)).symm] at hxk
        have hxb := HXE.out.2 k hlt
        obtain ⟨xk, hxke⟩ : ∃ z, x.getD k 0 = z := ⟨_, rfl⟩
        rw [hxke] at hxk hxb
        have HXK := Lib.hid hxke
        clear hxa hxke
        obtain ⟨y1, hy1⟩ : ∃ z, (endTo FH FT x C k).getD h 0 = z := ⟨_, rfl⟩
        have HY1 := Lib.hid (show (endTo FH FT x C k)[h]? = some y1 by rw [← hy1]; exact get_getD (by rw [endTo_len]; exact hh))
        have hb1 := endTo_bd (H := FH) (T := FT) (x := x) (n := C) (k := k) (fun j hj => HXE.out.2 j (by omega)) h
        rw [hy1] at hb1
        clear hy1
        obtain ⟨s1, hs1⟩ : ∃ z, y1 + xk = z := ⟨_, rfl⟩
        have HE1 := Lib.hid (show (endTo FH FT x C k).set h s1 = addAt (endTo FH FT x C k) (FH k) (x.getD k 0) by
          unfold addAt
          rw [HEH.out, HXK.out, Int.toNat_natCast, ← hs1]
          congr 2
          rw [List.getD_eq_getElem?_getD, HY1.out]
          rfl)
        obtain ⟨y2, hy2⟩ : ∃ z, ((endTo FH FT x C k).set h s1).getD t 0 = z := ⟨_, rfl⟩
        have HY2 := Lib.hid (show ((endTo FH FT x C k).set h s1)[t]? = some y2 by rw [← hy2]; exact get_getD (by rw [List.length_set, endTo_len]; exact ht))
        have hb2 : -200000000 ≤ y2 ∧ y2 ≤ 200000000 := by
          have h3 := endTo_bd (H := FH) (T := FT) (x := x) (n := C) (k := k) (fun j hj => HXE.out.2 j (by omega)) t
          rw [HE1.out] at hy2
          rcases addAt_get (endTo FH FT x C k) (FH k) (x.getD k 0) t with h4 | h4
          · rw [h4] at hy2; omega
          · rw [h4, HXK.out] at hy2; omega
        obtain ⟨s2, hs2⟩ : ∃ z, y2 + -xk = z := ⟨_, rfl⟩
        have HE2 := Lib.hid (show ((endTo FH FT x C k).set h s1).set t s2 = endTo FH FT x C (k + 1) by
          rw [endTo, ← HE1.out, addAt, HET.out, HXK.out, Int.toNat_natCast, hy2, hs2])
        have hq3 : IntKind.i64.wrap (y1 + xk) = s1 := by rw [IntKind.wrap_i64]; omega
        have hq4 : IntKind.i64.wrap (y2 - xk) = s2 := by rw [IntKind.wrap_i64]; omega
        clear hs1 hs2 hy2 hb1 hb2 hxb
        generalize L[k]'(by rw [HN.out]; exact hlt) = xx at *
        obtain ⟨x1, x2⟩ := xx
        simp only at d1 d2 b1 b2 HC1
        have hneg : IntKind.i64.wrap (-(x1 : Int)) = -(x1 : Int) := by rw [IntKind.wrap_i64]; omega
        go_wp2_with fail
        have D0 := cell_later d0
        have D1 := cell_later d1
        have D2 := cell_later d2
        have D3 := cell_later c0
        have D4 := cell_later c1
        refine wp_region_calm (by kernel_rfl) (by kernel_rfl) ?_
        repeat (go_big_quiet_step (first | (go_at_call 35; with_reducible exact Calls.calm ((HC1.out _ _ _ (HL3.out _) (HZ.out _))))))
        refine wpQuiet_nil ?_
        rintro w4 ⟨⟨_, hb⟩, rfl⟩
        have kq4 : Below wr.heap.size wr w4 := (by repeat (first | (with_reducible exact Below.refl _ _) | (with_reducible assumption) | (with_reducible refine Below.drew ?_) | (with_reducible refine Below.drewN ?_) | ((with_reducible refine Below.al ?_ ?_); · first | omega | (simp; done) | (simp; omega)) | ((with_reducible refine Below.sc ?_ ?_); · first | omega | (simp; done) | (simp; omega)) | ((with_reducible refine Below.thru hb ?_ ?_); · first | omega | (simp; done) | (simp; omega)) | ((with_reducible refine Below.thru hb4 ?_ ?_); · first | omega | (simp; done) | (simp; omega)) | ((with_reducible refine Below.thru hb5 ?_ ?_); · first | omega | (simp; done) | (simp; omega))))
        have kw4 : Below w.heap.size w w4 := (by repeat (first | (with_reducible exact Below.refl _ _) | (with_reducible assumption) | (with_reducible refine Below.drew ?_) | (with_reducible refine Below.drewN ?_) | ((with_reducible refine Below.al ?_ ?_); · first | omega | (simp; done) | (simp; omega)) | ((with_reducible refine Below.sc ?_ ?_); · first | omega | (simp; done) | (simp; omega)) | ((with_reducible refine Below.thru hb ?_ ?_); · first | omega | (simp; done) | (simp; omega)) | ((with_reducible refine Below.thru hb4 ?_ ?_); · first | omega | (simp; done) | (simp; omega)) | ((with_reducible refine Below.thru hb5 ?_ ?_); · first | omega | (simp; done) | (simp; omega))))
        have sw4 := kw4.size
        clear hb
        clear D0 D1 D2 D3 D4 HL3 HZ c0 c1 d0 d1 d2
        have Sw4 := Lib.hid (SW.out.below kq4)
        have klw4 : Below w3.heap.size w3 w4 := klwr.trans (kq4.mono swr)
        clear kq4
        go_wp2_with fail
        have ya0 : w4.cell? ⟨w3.heap.size, h, none⟩ = some (.int .i64 y1) := Sw4.out.at rfl HY1.out
        have xa0 : w4.cell? (xa.add k) = some (.int .i64 xk) := (kw4.cell (block_lt_of_cell hxk :)).trans hxk
        have Ya := cell_later ya0
        have Xa := cell_later xa0
        refine wp_region_calm_tail 12 (by kernel_rfl) (by kernel_rfl) ?_; simp only [List.take_succ_cons, List.take_zero, List.drop_succ_cons, List.drop_zero]
        repeat (go_big_quiet_step (fail))
        refine wpQuiet_nil ?_
        rintro w8a ⟨⟨_, hb⟩, rfl⟩
        have kqa : Below w4.heap.size w4 w8a := (by repeat (first | (with_reducible exact Below.refl _ _) | (with_reducible assumption) | (with_reducible refine Below.drew ?_) | (with_reducible refine Below.drewN ?_) | ((with_reducible refine Below.al ?_ ?_); · first | omega | (simp; done) | (simp; omega)) | ((with_reducible refine Below.sc ?_ ?_); · first | omega | (simp; done) | (simp; omega)) | ((with_reducible refine Below.thru hb ?_ ?_); · first | omega | (simp; done) | (simp; omega)) | ((with_reducible refine Below.thru hb4 ?_ ?_); · first | omega | (simp; done) | (simp; omega)) | ((with_reducible refine Below.thru hb5 ?_ ?_); · first | omega | (simp; done) | (simp; omega))))
        have kw8a : Below w.heap.size w w8a := (by repeat (first | (with_reducible exact Below.refl _ _) | (with_reducible assumption) | (with_reducible refine Below.drew ?_) | (with_reducible refine Below.drewN ?_) | ((with_reducible refine Below.al ?_ ?_); · first | omega | (simp; done) | (simp; omega)) | ((with_reducible refine Below.sc ?_ ?_); · first | omega | (simp; done) | (simp; omega)) | ((with_reducible refine Below.thru hb ?_ ?_); · first | omega | (simp; done) | (simp; omega)) | ((with_reducible refine Below.thru hb4 ?_ ?_); · first | omega | (simp; done) | (simp; omega)) | ((with_reducible refine Below.thru hb5 ?_ ?_); · first | omega | (simp; done) | (simp; omega))))
        have sw8a := kw8a.size
        clear hb
        clear Ya Xa ya0 xa0
        have Va := Lib.hid (Sw4.out.below kqa)
        have kla : Below w3.heap.size w3 w8a := klw4.trans (kqa.mono klw4.size)
        have ya0 : w8a.cell? ⟨w3.heap.size, h, none⟩ = some (.int .i64 y1) := Va.out.at rfl HY1.out
        have ya1 := Va.out.fr.1 h
        clear kqa
        go_wp2_with fail
        refine forget (fun W_ => Own W_ w.heap.size (.slice (some ⟨w3.heap.size, 0, none⟩) C C) ((endTo FH FT x C k).set h s1) ∧ Below w.heap.size w W_ ∧ Below w3.heap.size w3 W_) ⟨OwnI.set Va.out (endTo_len _ _ _ _ _), (by repeat (first | (with_reducible exact Below.refl _ _) | (with_reducible assumption) | (with_reducible refine Below.drew ?_) | (with_reducible refine Below.drewN ?_) | ((with_reducible refine Below.al ?_ ?_); · first | omega | (simp; done) | (simp; omega)) | ((with_reducible refine Below.sc ?_ ?_); · first | omega | (simp; done) | (simp; omega)) | ((with_reducible refine Below.thru hb ?_ ?_); · first | omega | (simp; done) | (simp; omega)) | ((with_reducible refine Below.thru hb4 ?_ ?_); · first | omega | (simp; done) | (simp; omega)) | ((with_reducible refine Below.thru hb5 ?_ ?_); · first | omega | (simp; done) | (simp; omega)))), kla.setCell (Nat.le_refl _) _⟩ ?_
        rintro w5 ⟨S5, kw5, klw5⟩
        have Sw5 := Lib.hid S5
        clear S5 ya0 ya1 Va kla kw8a
        have sw5 := kw5.size
        have yb0 : w5.cell? ⟨w3.heap.size, t, none⟩ = some (.int .i64 y2) := Sw5.out.at rfl HY2.out
        have xb0 : w5.cell? (xa.add k) = some (.int .i64 xk) := (kw5.cell (block_lt_of_cell hxk :)).trans hxk
        have Yb := cell_later yb0
        have Xb := cell_later xb0
        refine wp_region_calm_tail 12 (by kernel_rfl) (by kernel_rfl) ?_; simp only [List.take_succ_cons, List.take_zero, List.drop_succ_cons, List.drop_zero]
        repeat (go_big_quiet_step (fail))
        refine wpQuiet_nil ?_
        rintro w8b ⟨⟨_, hb⟩, rfl⟩
        have kqb : Below w5.heap.size w5 w8b := (by repeat (first | (with_reducible exact Below.refl _ _) | (with_reducible assumption) | (with_reducible refine Below.drew ?_) | (with_reducible refine Below.drewN ?_) | ((with_reducible refine Below.al ?_ ?_); · first | omega | (simp; done) | (simp; omega)) | ((with_reducible refine Below.sc ?_ ?_); · first | omega | (simp; done) | (simp; omega)) | ((with_reducible refine Below.thru hb ?_ ?_); · first | omega | (simp; done) | (simp; omega)) | ((with_reducible refine Below.thru hb4 ?_ ?_); · first | omega | (simp; done) | (simp; omega)) | ((with_reducible refine Below.thru hb5 ?_ ?_); · first | omega | (simp; done) | (simp; omega))))
        have kw8b : Below w.heap.size w w8b := (by repeat (first | (with_reducible exact Below.refl _ _) | (with_reducible assumption) | (with_reducible refine Below.drew ?_) | (with_reducible refine Below.drewN ?_) | ((with_reducible refine Below.al ?_ ?_); · first | omega | (simp; done) | (simp; omega)) | ((with_reducible refine Below.sc ?_ ?_); · first | omega | (simp; done) | (simp; omega)) | ((with_reducible refine Below.thru hb ?_ ?_); · first | omega | (simp; done) | (simp; omega)) | ((with_reducible refine Below.thru hb4 ?_ ?_); · first | omega | (simp; done) | (simp; omega)) | ((with_reducible refine Below.thru hb5 ?_ ?_); · first | omega | (simp; done) | (simp; omega))))
        have sw8b := kw8b.size
        clear hb
        clear Yb Xb yb0 xb0
        have Vb := Lib.hid (Sw5.out.below kqb)
        have klb : Below w3.heap.size w3 w8b := klw5.trans (kqb.mono klw5.size)
        have yb0 : w8b.cell? ⟨w3.heap.size, t, none⟩ = some (.int .i64 y2) := Vb.out.at rfl HY2.out
        have yb1 := Vb.out.fr.1 t
        clear kqb
        go_wp2_with fail
        go_roundw
        case rel => exact ⟨k + 1, by omega, by go_num, Lib.hid (by rw [← HE2.out]; exact OwnI.set Vb.out (by rw [List.length_set, endTo_len])), klb.setCell (Nat.le_refl _) _⟩
        case measure => first | (simp [intOf]; done) | (simp [intOf]; omega)
      · obtain rfl : k = N := by omega
        go_wp2
        rw [← HGF.out]
        exact ⟨_, by rw [HC.out]; rfl, by rw [HR.out]; exact SW.out, kwr⟩
  · have H0 := Lib.hid h0
    go_wp2
    rw [← HGF.out]
    exact ⟨_, by rw [HC.out]; rfl, by unfold endR; rw [HC.out, if_neg H0.out]; exact Own.nil _ _, k1⟩

end Go.Proofs.Ytjjbaebddkejnaa

/- Copies of numbers that came in. -/
namespace Go.Proofs.Ytjjbaebddkejnaa
open Go.RowKit
set_option linter.unusedSimpArgs false

/-- The first k of the numbers, and zeros. -/
def cpy (xs : List Int) (k : Nat) : Array Value := ((xs.take k).map (Value.int .i64) ++ List.replicate (xs.length - k) (Value.int .i64 0)).toArray
theorem cpy_size (xs : List Int) (k : Nat) (h : k ≤ xs.length) : (cpy xs k).size = xs.length := by simp [cpy]; omega
theorem cpy_set (xs : List Int) (k : Nat) (h : k < xs.length) : (cpy xs k).setIfInBounds k (.int .i64 xs[k]) = cpy xs (k + 1) := by
  apply Array.toList_inj.1
  apply List.ext_getElem?
  intro j
  simp only [cpy, Array.toList_setIfInBounds, List.getElem?_set, List.length_append, List.length_map, List.length_take, List.length_replicate]
  rcases Nat.lt_trichotomy j k with e | e | e
  · rw [if_neg (by omega), List.getElem?_append_left (by simp; omega), List.getElem?_append_left (by simp; omega)]
    simp [e, show j < k + 1 by omega]
  · subst e
    rw [if_pos rfl, if_pos (by omega), List.getElem?_append_left (by simp; omega)]
    simp [List.getElem?_eq_getElem h]
  · rw [if_neg (by omega), List.getElem?_append_right (by simp; omega), List.getElem?_append_right (by simp; omega)]
    simp only [List.length_map, List.length_take, List.getElem?_replicate]
    by_cases hj : j < xs.length
    · rw [if_pos (by omega), if_pos (by omega)]
    · rw [if_neg (by omega), if_neg (by omega)]
theorem made_cpy (xs : List Int) : madeCells #[Value.int .i64 0] xs.length = cpy xs 0 := by
  apply Array.ext
  · rw [size_madeCells, cpy_size xs 0 (by omega)]
  · intro j h1 h2
    simp [madeCells, cpy, Nat.mod_one]
theorem cpy_all (xs : List Int) : (cpy xs xs.length).toList = xs.map (Value.int .i64) := by simp [cpy]
set_option maxHeartbeats 1000000 in
theorem toInt64S_any (v : Value) (xs : List Int) (w : World) (h : SlIn w .i64 v xs) (hl : xs.length ≤ 1048576) :
    Calls Try.prog 13 #[v] w fun e w' => ∃ v', e = .returned v' ∧ Own w' w.heap.size v' xs ∧ Below w.heap.size w w' := by
  obtain ⟨ao, c, rfl, ha⟩ := h.form
  have HA := Lib.hid ha
  have HS := Lib.hid h
  clear ha h
  have hmk := run_make_row' (P := Try.prog) 25 2 (.int .i64 0) 8 Try.underlying25 infoI rfl .i64 .i64 xs.length (by omega) (by omega)
  go_enter Try.func13, Try.ntmps13
  go_wp2
  go_loopw [4] (fun i wr => ∃ k : Nat, k ≤ xs.length ∧ i = .int .i64 k ∧ Blk wr w.heap.size 2 (cpy xs k) ∧ Below w.heap.size w wr) (fun i _ => xs.length - (intOf i).toNat)
  case atStart => exact ⟨0, Nat.zero_le _, rfl, by rw [made_cpy]; exact (by repeat (first | (with_reducible assumption) | ((with_reducible refine Blk.new ?_); · first | omega | (simp; done) | (simp; omega)) | (with_reducible apply Blk.set4) | (with_reducible apply Blk.set3) | (with_reducible apply Blk.set2) | ((with_reducible refine Blk.put ?_ ?_); · first | omega | (simp; omega)) | (with_reducible refine Blk.old ?_) | (with_reducible refine Blk.drew ?_) | (with_reducible refine Blk.drewN ?_) | ((with_reducible refine Blk.below hb ?_ ?_); · first | omega | (simp; done) | (simp; omega)))), (by repeat (first | (with_reducible exact Below.refl _ _) | (with_reducible assumption) | (with_reducible refine Below.drew ?_) | (with_reducible refine Below.drewN ?_) | ((with_reducible refine Below.al ?_ ?_); · first | omega | (simp; done) | (simp; omega)) | ((with_reducible refine Below.sc ?_ ?_); · first | omega | (simp; done) | (simp; omega)) | ((with_reducible refine Below.thru hb ?_ ?_); · first | omega | (simp; done) | (simp; omega))))⟩
  case round =>
    obtain ⟨k, hk, rfl, B, kwr⟩ := hrel
    by_cases hlt : k < xs.length
    · obtain ⟨a, rfl, hx⟩ := HA.out (by omega)
      have c1 : wr.cell? (a.add k) = some (.int .i64 xs[k]) := by
        have e := hx k hlt
        rw [kwr.cell (block_lt_of_cell e :)]
        exact e
      have hz : k < (cpy xs k).size := by rw [cpy_size xs k hk]; exact hlt
      have c0 := B.at (i := k) (Array.getElem?_eq_getElem hz)
      have f0 := B.free k
      have i0 : (0 : Int) ≤ (k : Int) := by omega
      have i1 : (k : Int) < (xs.length : Int) := by omega
      have H := Lib.hid (And.intro B kwr)
      clear B kwr hx
      go_wp2
      go_roundw
      case rel => exact ⟨k + 1, by omega, by go_num, by rw [← cpy_set xs k hlt]; exact H.out.1.set, H.out.2.setCell (Nat.le_refl _) _⟩
      case measure => simp [intOf]; omega
    · obtain rfl : k = xs.length := by omega
      go_wp2
      go_ret
      exact ⟨_, rfl, Own.of_blk B (Nat.le_refl _) (cpy_all xs) (by unfold maxLen; omega), kwr⟩

end Go.Proofs.Ytjjbaebddkejnaa

/- The walk of the law FnExactEndsOf. -/
namespace Go.Proofs.Ytjjbaebddkejnaa
open Go.RowKit
set_option linter.unusedSimpArgs false

theorem endR_len (n : Int) (x : List Int) : (endR n x).length ≤ 72 := by
  unfold endR
  split
  · rename_i h
    have hlv : lvCode n = 0 := by
      unfold sumC at h
      split at h
      · assumption
      · exact h
    obtain ⟨-, hl⟩ := lv_zero hlv
    unfold endL
    rw [endTo_len]
    exact Nat.le_trans (numTo_cnt _ _ _) hl
  · simp
theorem Own.newer {w w' W : World} {B Bn : Nat} {v u : Value} {xs zs : List Int} (hg : w.grownBy w' u.ownBlock) (hu : Own W B u zs) (hB : W.heap.size ≤ Bn) (h : Own w Bn v xs) : Own w' Bn v xs :=
  h.same fun g hk => hg.block g (h.lt hk).2 fun e => by
    have := (hu.lt e.symm).2
    have := (h.lt hk).1
    omega
set_option maxRecDepth 8000 in
set_option maxHeartbeats 1000000 in
theorem FnExactEndsOf_walk (n : Int) (v : Value) (xs : List Int) (w : World) (_ : (Lit.int .i64 n).wf = true) (hv : SlIn w .i64 v xs) (_ : ∀ n ∈ xs, (Lit.int .i64 n).wf = true) (_ : xs.length * 8 ≤ 140737488351232) :
    Calls Try.prog 7 #[.int .i64 n, v] w fun e w' => e = .returned (.bool true) ∧ Below w.heap.size w w' := by
  obtain ⟨ao, c, rfl, -⟩ := hv.form
  have HV := Lib.hid hv
  clear hv
  by_cases hl : xs.length ≤ 1048576
  · have HT := Lib.hid (fun w' h => toInt64S_any (.slice ao xs.length c) xs w' h hl)
    have HS : Hid (∀ v w', SlIn w' .i64 v xs → Calls Try.prog 18 #[.int .i64 n, v] w' fun e w'' => ∃ u, e = .returned (.tuple #[u, .int .i64 (sumC n [xs])]) ∧ Own w'' w'.heap.size u (endR n xs) ∧ Below w'.heap.size w' w'') := Lib.hid (fun v w' h => specEndsOf_any n v xs w' h)
    have HI : Hid (∀ v w', SlIn w' .i64 v xs → Calls Try.prog 19 #[.int .i64 n, v] w' fun e w'' => ∃ u, e = .returned (.tuple #[u, .int .i64 (sumC n [xs])]) ∧ Own w'' w'.heap.size u (endR n xs) ∧ Below w'.heap.size w' w'') := Lib.hid (fun v w' h => EndsOf_any n v xs w' h)
    have hyl := endR_len n xs
    have hqq : ∀ ys : List Int, (ys == ys) = true := fun ys => beq_self_eq_true ys
    generalize endR n xs = ys at *
    generalize sumC n [xs] = d at *
    go_enter Try.func7, Try.ntmps7
    go_wp2_with fail
    refine (HT.out _ HV.out).mono ?_
    rintro e w1 ⟨v1, rfl, o1, k1⟩
    have s1 := k1.size
    go_wp2_with fail
    refine (HS.out v1 _ o1.slIn).mono ?_
    rintro e w2 ⟨u, rfl, ou, k2⟩
    have kw2 : Below w.heap.size w w2 := k1.trans (k2.mono s1)
    have s2 := k2.size
    have t2 := kw2.size
    clear o1 k1 k2
    go_wp2_with fail
    refine (HT.out _ (SlIn.below kw2 HV.out)).mono ?_
    rintro e w3 ⟨x1, rfl, ox, k3⟩
    have kw3 : Below w.heap.size w w3 := kw2.trans (k3.mono t2)
    have s3 := k3.size
    have ou3 := ou.below k3
    clear k3
    go_wp2_with fail
    refine (HI.out x1 _ ox.slIn).mono ?_
    rintro e w4 ⟨g, rfl, og, k4⟩
    have kw4 : Below w.heap.size w w4 := kw3.trans (k4.mono (by omega))
    have s4 := k4.size
    have ou4 := ou3.below k4
    have ox4 := ox.below k4
    clear k4 ou3
    go_wp2_with fail
    refine (eqInt64S_any g u ys ys _ og.slIn ou4.slIn (by unfold maxLen; omega) (by unfold maxLen; omega)).mono ?_
    rintro e w5 ⟨rfl, k5⟩
    rw [hqq]
    have kw5 : Below w.heap.size w w5 := kw4.trans (k5.mono (by omega))
    have s5 := k5.size
    have ou5 := ou4.below k5
    have ox5 := ox4.below k5
    have og5 := og.below k5
    clear k5 ou4 ox4 og
    go_wp2_with fail
    refine (HT.out _ (SlIn.below kw5 HV.out)).mono ?_
    rintro e w6 ⟨v6, rfl, o6, k6⟩
    have kw6 : Below w.heap.size w w6 := kw5.trans (k6.mono (by omega))
    have s6 := k6.size
    have ou6 := ou5.below k6
    have ox6 := ox5.below k6
    have og6 := og5.below k6
    clear k6 ou5 ox5 og5
    go_wp2_with fail
    refine (eqInt64S_any x1 v6 xs xs _ ox6.slIn o6.slIn (by unfold maxLen; omega) (by unfold maxLen; omega)).mono ?_
    rintro e w7 ⟨rfl, k7⟩
    rw [hqq]
    have kw7 : Below w.heap.size w w7 := kw6.trans (k7.mono (by omega))
    have s7 := k7.size
    have ou7 := ou6.below k7
    have ox7 := ox6.below k7
    have og7 := og6.below k7
    clear k7 ou6 ox6 og6 o6
    go_wp2_with fail
    refine (markInt64S_any x1 xs _ 1 _ ox7 (by omega) (by omega) (by omega)).mono ?_
    rintro e w8 ⟨rfl, -, hg, hs⟩
    have ou8 : Own w8 w1.heap.size u ys := Own.apart hg ox7 ou (Nat.le_refl _) ou7
    have og8 : Own w8 w3.heap.size g ys := Own.newer hg ox (Nat.le_refl _) og7
    have kw8 : Below w.heap.size w w8 := Below.grownO hg ox7 (by omega) (by omega) kw7
    have s8 := kw8.size
    clear hg ou7 og7 ox7 kw7
    go_wp2_with fail
    refine (eqInt64S_any g u ys ys _ og8.slIn ou8.slIn (by unfold maxLen; omega) (by unfold maxLen; omega)).mono ?_
    rintro e w9 ⟨rfl, k9⟩
    rw [hqq]
    have kw9 : Below w.heap.size w w9 := kw8.trans (k9.mono (by omega))
    have s9 := k9.size
    have ou9 := ou8.below k9
    have og9 := og8.below k9
    clear k9 ou8 og8
    go_wp2_with fail
    refine (markInt64S_any g ys _ 1 _ og9 (by omega) (by omega) (by omega)).mono ?_
    rintro e w10 ⟨rfl, og10, hg, hs2⟩
    have ou10 : Own w10 w1.heap.size u ys := Own.apart hg og9 ou s3 ou9
    have kw10 : Below w.heap.size w w10 := Below.grownO hg og9 (by omega) (by omega) kw9
    have s10 := kw10.size
    clear hg ou9 og9 kw9
    go_wp2_with fail
    refine (heldInt64S_any g ys.length 1 _ og10.slIn (by omega) (by omega) (by omega)).mono ?_
    rintro e w' ⟨rfl, rfl⟩
    go_wp2_with fail
    refine (HT.out _ (SlIn.below kw10 HV.out)).mono ?_
    rintro e w12 ⟨v12, rfl, o12, k12⟩
    have kw12 : Below w.heap.size w w12 := kw10.trans (k12.mono (by omega))
    have s12 := k12.size
    have ou12 := ou10.below k12
    have og12 := og10.below k12
    clear k12 ou10 og10
    go_wp2_with fail
    refine (HI.out v12 _ o12.slIn).mono ?_
    rintro e w13 ⟨h, rfl, oh, k13⟩
    have kw13 : Below w.heap.size w w13 := kw12.trans (k13.mono (by omega))
    have s13 := k13.size
    have ou13 := ou12.below k13
    have og13 := og12.below k13
    clear k13 ou12 og12 o12
    go_wp2_with fail
    refine (eqInt64S_any h u ys ys _ oh.slIn ou13.slIn (by unfold maxLen; omega) (by unfold maxLen; omega)).mono ?_
    rintro e w14 ⟨rfl, k14⟩
    rw [hqq]
    have kw14 : Below w.heap.size w w14 := kw13.trans (k14.mono (by omega))
    have og14 := og13.below k14
    clear k14 ou13 og13 oh
    go_wp2_with fail
    refine (heldInt64S_any g ys.length 1 _ og14.slIn (by omega) (by omega) (by omega)).mono ?_
    rintro e w' ⟨rfl, rfl⟩
    go_wp2
    go_ret
    exact ⟨rfl, kw14⟩
  · go_enter Try.func7, Try.ntmps7
    go_wp2
    go_ret
    exact ⟨rfl, (by repeat (first | (with_reducible exact Below.refl _ _) | (with_reducible assumption) | (with_reducible refine Below.drew ?_) | (with_reducible refine Below.drewN ?_) | ((with_reducible refine Below.al ?_ ?_); · first | omega | (simp; done) | (simp; omega)) | ((with_reducible refine Below.sc ?_ ?_); · first | omega | (simp; done) | (simp; omega)) | ((with_reducible refine Below.thru hb ?_ ?_); · first | omega | (simp; done) | (simp; omega))))⟩

end Go.Proofs.Ytjjbaebddkejnaa
