import Derived.Test.YtjpkopnkfpgahaaQ19
import Derived.Test.YtjpkopnkfpgahaaPoftenx
import Derived.Deep.OwnRows
/- The runs of a positive matrix: the program's walk. -/
namespace Go.Proofs.Ytjpkopnkfpgahaa
open Go.RowKit Go.Proofs.Ytjpkopnkfpgahaa.Poften Go.Proofs.YtjpkopnkfpgahaaW.PrintWords
set_option linter.unusedSimpArgs false

def smR (z : Int) : Bool := decide (0 ≤ z) && decide (z ≤ 1000)
/-- The runs, as the program takes them; none where numbers are great. -/
def rnF : Nat → M → Bool → Option (List Int)
  | 0, _, _ => none
  | r + 1, m, ev => bif decide (m = M.one) then some [] else
    bif smR m.a && smR m.b && smR m.c && smR m.d then
      (bif ev then
        (impl_often.f m.a m.b m.c m.d).bind fun x => bif smR x then (rnF r ⟨m.a - x * m.c, m.b - x * m.d, m.c, m.d⟩ false).map fun l => x :: l else none
      else
        (impl_often.f m.c m.d m.a m.b).bind fun x => bif smR x then (rnF r ⟨m.a, m.b, m.c - x * m.a, m.d - x * m.b⟩ true).map fun l => x :: l else none)
    else none
theorem smR_bd {z : Int} (h : smR z = true) : 0 ≤ z ∧ z ≤ 1000 := by simpa [smR] using h
theorem mul_sm {x y : Int} (hx : 0 ≤ x ∧ x ≤ 1000) (hy : 0 ≤ y ∧ y ≤ 1000) : 0 ≤ x * y ∧ x * y ≤ 1000000 := by
  refine ⟨Int.mul_nonneg hx.1 hy.1, ?_⟩
  have := Int.mul_le_mul hx.2 hy.2 hy.1 (by decide : (0 : Int) ≤ 1000)
  omega
/-- One round. -/
theorem rnF_step {r : Nat} {m : M} {ev : Bool} {ns : List Int} (h : rnF (r + 1) m ev = some ns) (hm : m ≠ M.one) :
    (0 ≤ m.a ∧ m.a ≤ 1000) ∧ (0 ≤ m.b ∧ m.b ≤ 1000) ∧ (0 ≤ m.c ∧ m.c ≤ 1000) ∧ (0 ≤ m.d ∧ m.d ≤ 1000) ∧ ∃ x l, (0 ≤ x ∧ x ≤ 1000) ∧ ns = x :: l ∧
      ((ev = true ∧ impl_often.f m.a m.b m.c m.d = some x ∧ rnF r ⟨m.a - x * m.c, m.b - x * m.d, m.c, m.d⟩ false = some l) ∨
       (ev = false ∧ impl_often.f m.c m.d m.a m.b = some x ∧ rnF r ⟨m.a, m.b, m.c - x * m.a, m.d - x * m.b⟩ true = some l)) := by
  rw [rnF, decide_eq_false hm] at h
  simp only [cond_false] at h
  cases hs : (smR m.a && smR m.b && smR m.c && smR m.d) with
  | false => rw [hs] at h; cases h
  | true =>
    rw [hs] at h
    simp only [Bool.and_eq_true] at hs
    refine ⟨smR_bd hs.1.1.1, smR_bd hs.1.1.2, smR_bd hs.1.2, smR_bd hs.2, ?_⟩
    cases ev with
    | true =>
      obtain ⟨x, hx, h⟩ := Option.bind_eq_some_iff.1 (show ((impl_often.f m.a m.b m.c m.d).bind fun x => bif smR x then (rnF r ⟨m.a - x * m.c, m.b - x * m.d, m.c, m.d⟩ false).map fun l => x :: l else none) = some ns from h)
      cases hx2 : smR x with
      | false => rw [hx2] at h; cases h
      | true =>
        rw [hx2] at h
        obtain ⟨l, hl, rfl⟩ := Option.map_eq_some_iff.1 (show ((rnF r ⟨m.a - x * m.c, m.b - x * m.d, m.c, m.d⟩ false).map fun l => x :: l) = some ns from h)
        exact ⟨x, l, smR_bd hx2, rfl, .inl ⟨rfl, hx, hl⟩⟩
    | false =>
      obtain ⟨x, hx, h⟩ := Option.bind_eq_some_iff.1 (show ((impl_often.f m.c m.d m.a m.b).bind fun x => bif smR x then (rnF r ⟨m.a, m.b, m.c - x * m.a, m.d - x * m.b⟩ true).map fun l => x :: l else none) = some ns from h)
      cases hx2 : smR x with
      | false => rw [hx2] at h; cases h
      | true =>
        rw [hx2] at h
        obtain ⟨l, hl, rfl⟩ := Option.map_eq_some_iff.1 (show ((rnF r ⟨m.a, m.b, m.c - x * m.a, m.d - x * m.b⟩ true).map fun l => x :: l) = some ns from h)
        exact ⟨x, l, smR_bd hx2, rfl, .inr ⟨rfl, hx, hl⟩⟩
theorem run_equalInW (m n : M) (w : World) : (Op.equalIn 10000 30 (mv m) (mv n)).run Try.prog w = .ok (decide (m = n)) w := by
  have e := run_equalIn_ints w 9998 30 2 4 Try.underlying30 Try.underlying2 Try.sizeOf2 [m.a, m.b, m.c, m.d] [n.a, n.b, n.c, n.d] rfl rfl
  rw [show ([m.a, m.b, m.c, m.d] == [n.a, n.b, n.c, n.d]) = decide (m = n) by
    rw [Bool.eq_iff_iff]
    obtain ⟨a, b, c, d⟩ := m
    obtain ⟨a', b', c', d'⟩ := n
    simp] at e
  exact e
theorem wrap_sm {z : Int} (h : 0 ≤ z ∧ z ≤ 1000000) : wrap64 z = z := by unfold wrap64; omega
theorem wrap_sb {y z : Int} (hy : 0 ≤ y ∧ y ≤ 1000) (h : 0 ≤ z ∧ z ≤ 1000000) : wrap64 (y - z) = y - z := by unfold wrap64; omega
set_option maxRecDepth 8000 in
set_option maxHeartbeats 4000000 in
theorem runs_any (m : M) (r : Nat) (ns : List Int) (w : World) (h : rnF r m true = some ns) (hr : r ≤ 100) :
    Calls Try.prog 23 #[mv m] w (GivesI ns w) := by
  obtain ⟨GF, hGF⟩ : ∃ GF, GivesI ns w = GF := ⟨_, rfl⟩
  rw [hGF]
  have HGF := Lib.hid hGF
  have H0 := Lib.hid h
  clear hGF h
  have HINI := Lib.hid (info_parts infoI)
  go_enter Try.func23, Try.ntmps23
  go_wp2_with fail
  refine forget (fun W_ => Own W_ (w.heap.size + 1) (.slice (some ⟨w.heap.size + 1, 0, none⟩) 0 0) [] ∧ Blk W_ w.heap.size 30 (mcs m) ∧ Below w.heap.size w W_) ⟨Own.of_blk (xs := []) (by repeat (first | (with_reducible assumption) | ((with_reducible refine Blk.new ?_); · first | omega | (simp; done) | (simp; omega)) | (with_reducible apply Blk.set4) | (with_reducible apply Blk.set3) | (with_reducible apply Blk.set2) | ((with_reducible refine Blk.put ?_ ?_); · first | omega | (simp; omega)) | (with_reducible refine Blk.old ?_) | (with_reducible refine Blk.drew ?_) | (with_reducible refine Blk.drewN ?_) | ((with_reducible refine Blk.below hb ?_ ?_); · first | omega | (simp; done) | (simp; omega)) | ((with_reducible refine Blk.below hb4 ?_ ?_); · first | omega | (simp; done) | (simp; omega)) | ((with_reducible refine Blk.below hb5 ?_ ?_); · first | omega | (simp; done) | (simp; omega)))) (Nat.le_refl _) rfl (by simp [maxLen]), (by repeat (first | (with_reducible assumption) | ((with_reducible refine Blk.new ?_); · first | omega | (simp; done) | (simp; omega)) | (with_reducible apply Blk.set4) | (with_reducible apply Blk.set3) | (with_reducible apply Blk.set2) | ((with_reducible refine Blk.put ?_ ?_); · first | omega | (simp; omega)) | (with_reducible refine Blk.old ?_) | (with_reducible refine Blk.drew ?_) | (with_reducible refine Blk.drewN ?_) | ((with_reducible refine Blk.below hb ?_ ?_); · first | omega | (simp; done) | (simp; omega)) | ((with_reducible refine Blk.below hb4 ?_ ?_); · first | omega | (simp; done) | (simp; omega)) | ((with_reducible refine Blk.below hb5 ?_ ?_); · first | omega | (simp; done) | (simp; omega)))), (by repeat (first | (with_reducible exact Below.refl _ _) | (with_reducible assumption) | (with_reducible refine Below.drew ?_) | (with_reducible refine Below.drewN ?_) | ((with_reducible refine Below.al ?_ ?_); · first | omega | (simp; done) | (simp; omega)) | ((with_reducible refine Below.sc ?_ ?_); · first | omega | (simp; done) | (simp; omega)) | ((with_reducible refine Below.thru hb ?_ ?_); · first | omega | (simp; done) | (simp; omega)) | ((with_reducible refine Below.thru hb4 ?_ ?_); · first | omega | (simp; done) | (simp; omega)) | ((with_reducible refine Below.thru hb5 ?_ ?_); · first | omega | (simp; done) | (simp; omega))))⟩ ?_
  rintro w0 ⟨O0, B0, k0⟩
  go_loopg [3] r (fun gk v wr => ∃ (q : M) (pre l : List Int) (ev : Bool), Hid (rnF gk q ev = some l) ∧ Hid (ns = pre ++ l) ∧ Hid ((pre.length % 2 = 0) ↔ ev = true) ∧ Hid (Own wr (w.heap.size + 1) v pre) ∧ Hid (pre.length + gk ≤ 100) ∧ Blk wr w.heap.size 30 (mcs q) ∧ Below w.heap.size w wr)
  case atStart => exact ⟨m, [], ns, true, H0, Lib.hid rfl, Lib.hid (by simp), Lib.hid O0, Lib.hid (by simpa using hr), B0, k0⟩
  case round =>
    clear O0 B0 k0
    obtain ⟨q, pre, l, ev, HR, HP, HEV, HO, HL, B, kwr⟩ := hrel
    have swr := kwr.size
    have lB := B.lt
    have hgk : gk ≠ 0 := fun e => by have := HR.out; rw [e] at this; cases this
    obtain ⟨gk, rfl⟩ : ∃ g, gk = g + 1 := ⟨gk - 1, by omega⟩
    have HE := fun w' : World => run_equalInW q M.one w'
    obtain ⟨vo, vc, rfl, -⟩ := HO.out.slIn.form
    have HI := Lib.hid (fun w' : World => identity_any w')
    have L0 := B.later4
    by_cases hq : q = M.one
    · have HF := Lib.hid (show ns = pre by
        have h := HR.out
        rw [rnF, decide_eq_true hq] at h
        simp only [cond_true, Option.some.injEq] at h
        rw [HP.out, ← h, List.append_nil])
      rw [decide_eq_true hq] at HE
      clear hq
      go_wp2_with fail
      refine wp_region_calm (by kernel_rfl) (by kernel_rfl) ?_
      repeat (go_big_quiet_step (first | (go_at_call 44; with_reducible exact Calls.calm ((HI.out _)))))
      refine wpQuiet_nil ?_
      rintro w1 ⟨⟨_, hb⟩, rfl⟩
      have kq1 : Below wr.heap.size wr w1 := (by repeat (first | (with_reducible exact Below.refl _ _) | (with_reducible assumption) | (with_reducible refine Below.drew ?_) | (with_reducible refine Below.drewN ?_) | ((with_reducible refine Below.al ?_ ?_); · first | omega | (simp; done) | (simp; omega)) | ((with_reducible refine Below.sc ?_ ?_); · first | omega | (simp; done) | (simp; omega)) | ((with_reducible refine Below.thru hb ?_ ?_); · first | omega | (simp; done) | (simp; omega)) | ((with_reducible refine Below.thru hb4 ?_ ?_); · first | omega | (simp; done) | (simp; omega)) | ((with_reducible refine Below.thru hb5 ?_ ?_); · first | omega | (simp; done) | (simp; omega))))
      have kw1 : Below w.heap.size w w1 := (by repeat (first | (with_reducible exact Below.refl _ _) | (with_reducible assumption) | (with_reducible refine Below.drew ?_) | (with_reducible refine Below.drewN ?_) | ((with_reducible refine Below.al ?_ ?_); · first | omega | (simp; done) | (simp; omega)) | ((with_reducible refine Below.sc ?_ ?_); · first | omega | (simp; done) | (simp; omega)) | ((with_reducible refine Below.thru hb ?_ ?_); · first | omega | (simp; done) | (simp; omega)) | ((with_reducible refine Below.thru hb4 ?_ ?_); · first | omega | (simp; done) | (simp; omega)) | ((with_reducible refine Below.thru hb5 ?_ ?_); · first | omega | (simp; done) | (simp; omega))))
      have sw1 := kw1.size
      clear hb
      go_wp2
      rw [← HGF.out]
      exact ⟨_, rfl, by rw [HF.out]; exact (HO.out.below kq1).mono (by omega), kw1⟩
    · obtain ⟨hba, hbb, hbc, hbd, x, l', hx, hl, hcase⟩ := rnF_step HR.out hq
      rw [decide_eq_false hq] at HE
      obtain ⟨K, hKe⟩ : ∃ K, pre.length = K := ⟨_, rfl⟩
      rw [hKe] at HEV HL HO ⊢
      have HKL := Lib.hid hKe
      clear hKe
      go_wp2_with fail
      refine wp_region_calm (by kernel_rfl) (by kernel_rfl) ?_
      repeat (go_big_quiet_step (first | (go_at_call 44; with_reducible exact Calls.calm ((HI.out _)))))
      refine wpQuiet_nil ?_
      rintro w1 ⟨⟨_, hb⟩, rfl⟩
      have kq1 : Below wr.heap.size wr w1 := (by repeat (first | (with_reducible exact Below.refl _ _) | (with_reducible assumption) | (with_reducible refine Below.drew ?_) | (with_reducible refine Below.drewN ?_) | ((with_reducible refine Below.al ?_ ?_); · first | omega | (simp; done) | (simp; omega)) | ((with_reducible refine Below.sc ?_ ?_); · first | omega | (simp; done) | (simp; omega)) | ((with_reducible refine Below.thru hb ?_ ?_); · first | omega | (simp; done) | (simp; omega)) | ((with_reducible refine Below.thru hb4 ?_ ?_); · first | omega | (simp; done) | (simp; omega)) | ((with_reducible refine Below.thru hb5 ?_ ?_); · first | omega | (simp; done) | (simp; omega))))
      have kw1 : Below w.heap.size w w1 := (by repeat (first | (with_reducible exact Below.refl _ _) | (with_reducible assumption) | (with_reducible refine Below.drew ?_) | (with_reducible refine Below.drewN ?_) | ((with_reducible refine Below.al ?_ ?_); · first | omega | (simp; done) | (simp; omega)) | ((with_reducible refine Below.sc ?_ ?_); · first | omega | (simp; done) | (simp; omega)) | ((with_reducible refine Below.thru hb ?_ ?_); · first | omega | (simp; done) | (simp; omega)) | ((with_reducible refine Below.thru hb4 ?_ ?_); · first | omega | (simp; done) | (simp; omega)) | ((with_reducible refine Below.thru hb5 ?_ ?_); · first | omega | (simp; done) | (simp; omega))))
      have sw1 := kw1.size
      clear hb
      have B1 : Blk w1 w.heap.size 30 (mcs q) := B.below kq1 lB
      have HO1 := Lib.hid (HO.out.below kq1)
      have lB1 := B1.lt
      clear kq1 B HO kwr
      rcases hcase with ⟨rfl, hof, hrn⟩ | ⟨rfl, hof, hrn⟩
      · have HOF := Lib.hid (fun w' => impl_often.calls q.a q.b q.c q.d x w' hof)
        have hpar : ((K : Int) % 2 == 0) = true := by have := HEV.out.2 rfl; rw [beq_iff_eq]; omega
        have hz1 := mul_sm hx (show 0 ≤ q.c ∧ q.c ≤ 1000 from by omega)
        have hz2 := mul_sm hx (show 0 ≤ q.d ∧ q.d ≤ 1000 from by omega)
        obtain ⟨z1, e1⟩ : ∃ z, x * q.c = z := ⟨_, rfl⟩
        obtain ⟨z2, e2⟩ : ∃ z, x * q.d = z := ⟨_, rfl⟩
        rw [e1, e2] at hrn
        rw [e1] at hz1
        rw [e2] at hz2
        have v1 : wrap64 (x * q.c) = z1 := by rw [e1]; exact wrap_sm hz1
        have v2 : wrap64 (x * q.d) = z2 := by rw [e2]; exact wrap_sm hz2
        have v3 : wrap64 (q.a - z1) = q.a - z1 := wrap_sb (by omega) hz1
        have v4 : wrap64 (q.b - z2) = q.b - z2 := wrap_sb (by omega) hz2
        have HRN := Lib.hid hrn
        clear e1 e2 hof hrn hx hz1 hz2 hba hbb hbc hbd L0 HE HI
        have q0 := B1.m
        go_wp2_with fail
        refine (HOF.out _).mono ?_
        rintro e w2 ⟨rfl, d2⟩
        have hb := d2
        have B2 : Blk w2 w.heap.size 30 (mcs q) := (by repeat (first | (with_reducible assumption) | ((with_reducible refine Blk.new ?_); · first | omega | (simp; done) | (simp; omega)) | (with_reducible apply Blk.set4) | (with_reducible apply Blk.set3) | (with_reducible apply Blk.set2) | ((with_reducible refine Blk.put ?_ ?_); · first | omega | (simp; omega)) | (with_reducible refine Blk.old ?_) | (with_reducible refine Blk.drew ?_) | (with_reducible refine Blk.drewN ?_) | ((with_reducible refine Blk.below hb ?_ ?_); · first | omega | (simp; done) | (simp; omega)) | ((with_reducible refine Blk.below hb4 ?_ ?_); · first | omega | (simp; done) | (simp; omega)) | ((with_reducible refine Blk.below hb5 ?_ ?_); · first | omega | (simp; done) | (simp; omega))))
        have kw2 : Below w.heap.size w w2 := (by repeat (first | (with_reducible exact Below.refl _ _) | (with_reducible assumption) | (with_reducible refine Below.drew ?_) | (with_reducible refine Below.drewN ?_) | ((with_reducible refine Below.al ?_ ?_); · first | omega | (simp; done) | (simp; omega)) | ((with_reducible refine Below.sc ?_ ?_); · first | omega | (simp; done) | (simp; omega)) | ((with_reducible refine Below.thru hb ?_ ?_); · first | omega | (simp; done) | (simp; omega)) | ((with_reducible refine Below.thru hb4 ?_ ?_); · first | omega | (simp; done) | (simp; omega)) | ((with_reducible refine Below.thru hb5 ?_ ?_); · first | omega | (simp; done) | (simp; omega))))
        have sw2 := kw2.size
        have lB2 := B2.lt
        have HO2 := Lib.hid (HO1.out.below hb)
        have s12 := hb.size
        clear hb d2 B1 HO1 q0
        obtain ⟨jI, hinf⟩ := HINI.out
        replace hinf := Lib.hid hinf
        have hK100 : K ≤ 100 := by have := HL.out; omega
        have q0 := B2.m
        have q1 := B2.mf
        have hneB : (Value.slice vo K vc).ownBlock ≠ some w.heap.size := fun e => by have := (HO2.out.lt e).1; omega
        go_wp2_with (at_builtin; refine wpList_app encI rfl _ _ 35 2 8 rfl Try.underlying35 jI _ hinf.out.1 hinf.out.2.1 hinf.out.2.2.1 hinf.out.2.2.2 rfl (.slice vo K vc) pre (w.heap.size + 1) w2.heap.size 1 #[.int .i64 x] [x] rfl ?o1 rfl ?b1 rfl ?l1 ?m1 (by first | omega | (simp; done) | (simp; omega)) ?_)
        case o1 => exact (Own.alloc (Own.put hneB (Own.put hneB (Own.put hneB (Own.put hneB HO2.out))))).toK
        case b1 => exact Blk.new (by simp)
        case l1 => (try simp only [List.length_cons, List.length_nil]); have := HKL.out; unfold maxLen; omega
        case m1 => (try simp only [List.length_cons, List.length_nil]); have := HKL.out; omega
        intro v' w6 O6 hg
        have B6 : Blk w6 w.heap.size 30 (mcs ⟨q.a - z1, q.b - z2, q.c, q.d⟩) := Blk.grownN hg hneB (Blk.old (by repeat (first | (with_reducible assumption) | ((with_reducible refine Blk.new ?_); · first | omega | (simp; done) | (simp; omega)) | (with_reducible apply Blk.set4) | (with_reducible apply Blk.set3) | (with_reducible apply Blk.set2) | ((with_reducible refine Blk.put ?_ ?_); · first | omega | (simp; omega)) | (with_reducible refine Blk.old ?_) | (with_reducible refine Blk.drew ?_) | (with_reducible refine Blk.drewN ?_) | ((with_reducible refine Blk.below hb ?_ ?_); · first | omega | (simp; done) | (simp; omega)) | ((with_reducible refine Blk.below hb4 ?_ ?_); · first | omega | (simp; done) | (simp; omega)) | ((with_reducible refine Blk.below hb5 ?_ ?_); · first | omega | (simp; done) | (simp; omega)))))
        have kw6 : Below w.heap.size w w6 := Below.grownO hg (Own.alloc (Own.put hneB (Own.put hneB (Own.put hneB (Own.put hneB HO2.out))))) (Nat.le_succ _) (by simp; omega) (by repeat (first | (with_reducible exact Below.refl _ _) | (with_reducible assumption) | (with_reducible refine Below.drew ?_) | (with_reducible refine Below.drewN ?_) | ((with_reducible refine Below.al ?_ ?_); · first | omega | (simp; done) | (simp; omega)) | ((with_reducible refine Below.sc ?_ ?_); · first | omega | (simp; done) | (simp; omega)) | ((with_reducible refine Below.thru hb ?_ ?_); · first | omega | (simp; done) | (simp; omega)) | ((with_reducible refine Below.thru hb4 ?_ ?_); · first | omega | (simp; done) | (simp; omega)) | ((with_reducible refine Below.thru hb5 ?_ ?_); · first | omega | (simp; done) | (simp; omega))))
        have O7 := OwnK.toOwn O6
        clear hg O6
        go_wp2
        go_roundg gk
        case rel => exact ⟨⟨q.a - z1, q.b - z2, q.c, q.d⟩, pre ++ [x], l', false, HRN, Lib.hid (by rw [HP.out, hl, List.append_assoc]; rfl), Lib.hid (by rw [List.length_append, List.length_singleton, HKL.out]; have := HEV.out; simp at this; constructor <;> intro h <;> first | omega | cases h), Lib.hid O7, Lib.hid (by rw [List.length_append, List.length_singleton, HKL.out]; have := HL.out; omega), B6, kw6⟩
        case measure => omega
      · have HOF := Lib.hid (fun w' => impl_often.calls q.c q.d q.a q.b x w' hof)
        have hpar : ((K : Int) % 2 == 0) = false := by have := HEV.out; rw [beq_eq_false_iff_ne]; intro h; have := this.1 (by omega); cases this
        have hz1 := mul_sm hx (show 0 ≤ q.a ∧ q.a ≤ 1000 from by omega)
        have hz2 := mul_sm hx (show 0 ≤ q.b ∧ q.b ≤ 1000 from by omega)
        obtain ⟨z1, e1⟩ : ∃ z, x * q.a = z := ⟨_, rfl⟩
        obtain ⟨z2, e2⟩ : ∃ z, x * q.b = z := ⟨_, rfl⟩
        rw [e1, e2] at hrn
        rw [e1] at hz1
        rw [e2] at hz2
        have v1 : wrap64 (x * q.a) = z1 := by rw [e1]; exact wrap_sm hz1
        have v2 : wrap64 (x * q.b) = z2 := by rw [e2]; exact wrap_sm hz2
        have v3 : wrap64 (q.c - z1) = q.c - z1 := wrap_sb (by omega) hz1
        have v4 : wrap64 (q.d - z2) = q.d - z2 := wrap_sb (by omega) hz2
        have HRN := Lib.hid hrn
        clear e1 e2 hof hrn hx hz1 hz2 hba hbb hbc hbd L0 HE HI
        have q0 := B1.m
        go_wp2_with fail
        refine (HOF.out _).mono ?_
        rintro e w2 ⟨rfl, d2⟩
        have hb := d2
        have B2 : Blk w2 w.heap.size 30 (mcs q) := (by repeat (first | (with_reducible assumption) | ((with_reducible refine Blk.new ?_); · first | omega | (simp; done) | (simp; omega)) | (with_reducible apply Blk.set4) | (with_reducible apply Blk.set3) | (with_reducible apply Blk.set2) | ((with_reducible refine Blk.put ?_ ?_); · first | omega | (simp; omega)) | (with_reducible refine Blk.old ?_) | (with_reducible refine Blk.drew ?_) | (with_reducible refine Blk.drewN ?_) | ((with_reducible refine Blk.below hb ?_ ?_); · first | omega | (simp; done) | (simp; omega)) | ((with_reducible refine Blk.below hb4 ?_ ?_); · first | omega | (simp; done) | (simp; omega)) | ((with_reducible refine Blk.below hb5 ?_ ?_); · first | omega | (simp; done) | (simp; omega))))
        have kw2 : Below w.heap.size w w2 := (by repeat (first | (with_reducible exact Below.refl _ _) | (with_reducible assumption) | (with_reducible refine Below.drew ?_) | (with_reducible refine Below.drewN ?_) | ((with_reducible refine Below.al ?_ ?_); · first | omega | (simp; done) | (simp; omega)) | ((with_reducible refine Below.sc ?_ ?_); · first | omega | (simp; done) | (simp; omega)) | ((with_reducible refine Below.thru hb ?_ ?_); · first | omega | (simp; done) | (simp; omega)) | ((with_reducible refine Below.thru hb4 ?_ ?_); · first | omega | (simp; done) | (simp; omega)) | ((with_reducible refine Below.thru hb5 ?_ ?_); · first | omega | (simp; done) | (simp; omega))))
        have sw2 := kw2.size
        have lB2 := B2.lt
        have HO2 := Lib.hid (HO1.out.below hb)
        have s12 := hb.size
        clear hb d2 B1 HO1 q0
        obtain ⟨jI, hinf⟩ := HINI.out
        replace hinf := Lib.hid hinf
        have hK100 : K ≤ 100 := by have := HL.out; omega
        have q0 := B2.m
        have q1 := B2.mf
        have hneB : (Value.slice vo K vc).ownBlock ≠ some w.heap.size := fun e => by have := (HO2.out.lt e).1; omega
        go_wp2_with (at_builtin; refine wpList_app encI rfl _ _ 35 2 8 rfl Try.underlying35 jI _ hinf.out.1 hinf.out.2.1 hinf.out.2.2.1 hinf.out.2.2.2 rfl (.slice vo K vc) pre (w.heap.size + 1) w2.heap.size 1 #[.int .i64 x] [x] rfl ?o2 rfl ?b2 rfl ?l2 ?m2 (by first | omega | (simp; done) | (simp; omega)) ?_)
        case o2 => exact (Own.alloc (Own.put hneB (Own.put hneB (Own.put hneB (Own.put hneB HO2.out))))).toK
        case b2 => exact Blk.new (by simp)
        case l2 => (try simp only [List.length_cons, List.length_nil]); have := HKL.out; unfold maxLen; omega
        case m2 => (try simp only [List.length_cons, List.length_nil]); have := HKL.out; omega
        intro v' w6 O6 hg
        have B6 : Blk w6 w.heap.size 30 (mcs ⟨q.a, q.b, q.c - z1, q.d - z2⟩) := Blk.grownN hg hneB (Blk.old (by repeat (first | (with_reducible assumption) | ((with_reducible refine Blk.new ?_); · first | omega | (simp; done) | (simp; omega)) | (with_reducible apply Blk.set4) | (with_reducible apply Blk.set3) | (with_reducible apply Blk.set2) | ((with_reducible refine Blk.put ?_ ?_); · first | omega | (simp; omega)) | (with_reducible refine Blk.old ?_) | (with_reducible refine Blk.drew ?_) | (with_reducible refine Blk.drewN ?_) | ((with_reducible refine Blk.below hb ?_ ?_); · first | omega | (simp; done) | (simp; omega)) | ((with_reducible refine Blk.below hb4 ?_ ?_); · first | omega | (simp; done) | (simp; omega)) | ((with_reducible refine Blk.below hb5 ?_ ?_); · first | omega | (simp; done) | (simp; omega)))))
        have kw6 : Below w.heap.size w w6 := Below.grownO hg (Own.alloc (Own.put hneB (Own.put hneB (Own.put hneB (Own.put hneB HO2.out))))) (Nat.le_succ _) (by simp; omega) (by repeat (first | (with_reducible exact Below.refl _ _) | (with_reducible assumption) | (with_reducible refine Below.drew ?_) | (with_reducible refine Below.drewN ?_) | ((with_reducible refine Below.al ?_ ?_); · first | omega | (simp; done) | (simp; omega)) | ((with_reducible refine Below.sc ?_ ?_); · first | omega | (simp; done) | (simp; omega)) | ((with_reducible refine Below.thru hb ?_ ?_); · first | omega | (simp; done) | (simp; omega)) | ((with_reducible refine Below.thru hb4 ?_ ?_); · first | omega | (simp; done) | (simp; omega)) | ((with_reducible refine Below.thru hb5 ?_ ?_); · first | omega | (simp; done) | (simp; omega))))
        have O7 := OwnK.toOwn O6
        clear hg O6
        go_wp2
        go_roundg gk
        case rel => exact ⟨⟨q.a, q.b, q.c - z1, q.d - z2⟩, pre ++ [x], l', true, HRN, Lib.hid (by rw [HP.out, hl, List.append_assoc]; rfl), Lib.hid (by rw [List.length_append, List.length_singleton, HKL.out]; have := HEV.out; simp at this; constructor <;> intro h <;> first | rfl | omega), Lib.hid O7, Lib.hid (by rw [List.length_append, List.length_singleton, HKL.out]; have := HL.out; omega), B6, kw6⟩
        case measure => omega

end Go.Proofs.Ytjpkopnkfpgahaa
