import Derived.Test.YtjpkopnkfpgahaaQ22
import Derived.Test.YtjpkopnkfpgahaaTail
import Derived.Test.YtjpkopnkfpgahaaQ2
/- The walk of the law FnTop. -/
namespace Go.Proofs.Ytjpkopnkfpgahaa
open Go.RowKit
set_option linter.unusedSimpArgs false

theorem run_equalInM (m n : M) (w : World) : (Op.equalIn 10000 30 (mv m) (mv n)).run Try.prog w = .ok (decide (m = n)) w := by
  have e := run_equalIn_ints w 9998 30 2 4 Try.underlying30 Try.underlying2 Try.sizeOf2 [m.a, m.b, m.c, m.d] [n.a, n.b, n.c, n.d] rfl rfl
  rw [show ([m.a, m.b, m.c, m.d] == [n.a, n.b, n.c, n.d]) = decide (m = n) by
    rw [Bool.eq_iff_iff]
    obtain ⟨a, b, c, d⟩ := m
    obtain ⟨a', b', c', d'⟩ := n
    simp] at e
  exact e
theorem mul_bd5 {x y : Int} (hx : 0 ≤ x ∧ x ≤ 100000) (hy : 0 ≤ y ∧ y ≤ 100000) : 0 ≤ x * y ∧ x * y ≤ 10000000000 := by
  refine ⟨Int.mul_nonneg hx.1 hy.1, ?_⟩
  have := Int.mul_le_mul hx.2 hy.2 hy.1 (by decide : (0 : Int) ≤ 100000)
  omega
theorem nf_wraps {s : ByteArray} {m : M} (g : MatG s m) : IntKind.i64.wrap (nfF m.a m.c.toNat * m.d) = nfF m.a m.c.toNat * m.d ∧ IntKind.i64.wrap (m.c * nfF m.b m.d.toNat) = m.c * nfF m.b m.d.toNat ∧ IntKind.i64.wrap (nfF m.a m.c.toNat * m.d - m.c * nfF m.b m.d.toNat) = 1 := by
  have h1 := g.nn
  have h2 := g.le
  have h3 := g.nf
  have e1 := mul_bd5 (nf_bd m.a m.c.toNat ⟨h1.1, h2.1⟩) ⟨h1.2.2.2, h2.2.2.2⟩
  have e2 := mul_bd5 ⟨h1.2.2.1, h2.2.2.1⟩ (nf_bd m.b m.d.toNat ⟨h1.2.1, h2.2.1⟩)
  clear h1 h2
  generalize nfF m.a m.c.toNat * m.d = X at *
  generalize m.c * nfF m.b m.d.toNat = Y at *
  refine ⟨by rw [IntKind.wrap_i64]; omega, by rw [IntKind.wrap_i64]; omega, by rw [IntKind.wrap_i64, h3]; rfl⟩
theorem lt_app {W : ByteArray} {b : UInt8} (h : ∀ b ∈ W.data.toList, LT1 b) (hb : LT1 b) : ∀ c ∈ (W ++ (⟨#[b]⟩ : ByteArray)).data.toList, LT1 c := by
  intro c hc
  rw [ByteArray.data_append, Array.toList_append, List.mem_append] at hc
  rcases hc with hc | hc
  · exact h c hc
  · obtain rfl : c = b := by simpa using hc
    exact hb
theorem wordLT_of {W : ByteArray} (h : ∀ b ∈ W.data.toList, LT1 b) (hs : W.size ≤ 8) : WordLT W := by
  refine ⟨hs, fun j hj => ?_⟩
  rw [← bytesW_get hj]
  exact h _ (List.getElem_mem _)
set_option maxRecDepth 8000 in
set_option maxHeartbeats 4000000 in
theorem FnTop_walk (v : Value) (code : List Int) (w : World) (hv : SlIn w .u8 v code) (hw : ∀ n ∈ code, (Lit.int .u8 n).wf = true) (_ : code.length * 1 ≤ 140737488351232) :
    Calls Try.prog 3 #[v] w fun e w' => e = .returned (.bool true) ∧ Below w.heap.size w w' := by
  have HV := Lib.hid hv
  have HW := Lib.hid (show ∀ x ∈ code, 0 ≤ x ∧ x ≤ 255 from fun x hx => by
    have := hw x hx
    simp [Lit.wf] at this
    have e1 : IntKind.u8.min = 0 := rfl
    have e2 : IntKind.u8.max = 255 := rfl
    omega)
  by_cases hbig : (code.length : Int) > 4096
  · have hb1 := big_any hv
    rw [decide_eq_true hbig] at hb1
    clear hv hw
    go_enter Try.func3, Try.ntmps3
    go_wp2_with fail
    refine hb1.mono ?_
    rintro e w1 ⟨rfl, hb⟩
    go_wp2
    go_ret
    exact ⟨rfl, hb⟩
  have HC := Lib.hid (show CodeOk code from ⟨by omega, HW.out⟩)
  have hb1 := big_any hv
  rw [decide_eq_false hbig] at hb1
  clear hv hw hbig HW
  obtain ⟨GF, hGF⟩ : ∃ GF : Ending → World → Prop, (fun e w' => e = .returned (.bool true) ∧ Below w.heap.size w w') = GF := ⟨_, rfl⟩
  rw [hGF]
  have HGF := Lib.hid hGF
  clear hGF
  go_enter Try.func3, Try.ntmps3
  go_wp2_with fail
  refine (hb1).mono ?_
  rintro e w1 ⟨rfl, hb⟩
  have kw1 : Below w.heap.size w w1 := (by repeat (first | (with_reducible exact Below.refl _ _) | (with_reducible assumption) | (with_reducible refine Below.drew ?_) | (with_reducible refine Below.drewN ?_) | ((with_reducible refine Below.al ?_ ?_); · first | omega | (simp; done) | (simp; omega)) | ((with_reducible refine Below.sc ?_ ?_); · first | omega | (simp; done) | (simp; omega)) | ((with_reducible refine Below.thru hb ?_ ?_); · first | omega | (simp; done) | (simp; omega)) | ((with_reducible refine Below.thru hb ?_ ?_); · first | omega | (simp; done) | (simp; omega))))
  have sw1 := kw1.size
  clear hb
  clear hb1
  go_wp2_with fail
  refine (from_src HC.out (HV.out.below kw1)).mono ?_
  rintro e w2 ⟨g, rfl, S2, hb⟩
  have K0 : Kpt w1 w2 w2 g code := Kpt.refl S2 hb
  have s2 := hb.size
  clear hb
  go_wp2_with fail
  refine (next_src (w0 := w1) (wa := w2) (code := code) 8 (by repeat (first | (with_reducible assumption) | (with_reducible refine Kpt.drew ?_) | (with_reducible refine Kpt.drewN ?_) | (with_reducible refine Kpt.alloc ?_) | ((with_reducible refine Kpt.put ?_ ?_ ?_); (· omega); (· omega)))) (by decide)).mono ?_
  rintro e w3 ⟨r, rfl, hr, kp⟩
  have K3 : Kpt w1 w2 w3 g code := Kpt.step K0 kp
  have s3 := kp.size
  clear K0 kp S2
  have x1 : IntKind.i64.wrap (1 + r) = 1 + r := by rw [IntKind.wrap_i64]; omega
  go_wp2_with fail
  go_loopw [4, 5] (fun vs vk wr => ∃ (j : Nat) (W : ByteArray), vk = .int .i64 (j : Int) ∧ vs = .string W ∧ W.size + j ≤ 8 ∧ Hid (∀ b ∈ W.data.toList, LT1 b) ∧ Kpt w1 w2 wr g code) (fun _ vk _ => (intOf vk).toNat)
  case atStart => exact ⟨(1 + r).toNat, ⟨#[]⟩, by rw [Int.toNat_of_nonneg (by omega)], rfl, by show 0 + _ ≤ 8; omega, Lib.hid (fun b h => absurd h (by simp)), K3⟩
  case round =>
    clear K3 hr x1
    obtain ⟨j, W, rfl, rfl, hW, HLT, KA⟩ := hrel
    have s0 := KA.size
    by_cases hz : 0 < j
    · have z1 : 0 < (j : Int) := by omega
      go_wp2_with fail
      refine (next_src (w0 := w1) (wa := w2) (code := code) 2 (by repeat (first | (with_reducible assumption) | (with_reducible refine Kpt.drew ?_) | (with_reducible refine Kpt.drewN ?_) | (with_reducible refine Kpt.alloc ?_) | ((with_reducible refine Kpt.put ?_ ?_ ?_); (· omega); (· omega)))) (by decide)).mono ?_
      rintro e w4 ⟨i, rfl, hi, kp⟩
      obtain ⟨i, rfl⟩ := Int.eq_ofNat_of_zero_le hi.1
      have K4 : Kpt w1 w2 w4 g code := Kpt.step (by repeat (first | (with_reducible assumption) | (with_reducible refine Kpt.drew ?_) | (with_reducible refine Kpt.drewN ?_) | (with_reducible refine Kpt.alloc ?_) | ((with_reducible refine Kpt.put ?_ ?_ ?_); (· omega); (· omega)))) kp
      have s4 := kp.size
      (try simp at s4)
      have hg := KA.1.lt
      have B4 : Blk w4 wr.heap.size 9 #[.string ⟨#[76]⟩, .string ⟨#[84]⟩] := Blk.keep kp.2.2 (by omega) (Blk.new rfl)
      obtain ⟨b, hb, c1⟩ : ∃ b : UInt8, (b = 76 ∨ b = 84) ∧ w4.cell? ⟨wr.heap.size, i, none⟩ = some (.string ⟨#[b]⟩) := by
        rcases (show i = 0 ∨ i = 1 by omega) with rfl | rfl
        · exact ⟨76, .inl rfl, B4.at rfl⟩
        · exact ⟨84, .inr rfl, B4.at rfl⟩
      have i0 : (0 : Int) ≤ (i : Int) := by omega
      have i1 : (i : Int) < 2 := by omega
      have HB := Lib.hid (show LT1 b from hb)
      have hcat : ¬ 9223372036854775807 < W.size + 1 := by omega
      have hone : (⟨#[b]⟩ : ByteArray).size = 1 := rfl
      have x2 : IntKind.i64.wrap ((j : Int) - 1) = (j : Int) - 1 := by rw [IntKind.wrap_i64]; omega
      clear kp B4 KA hg hi hb
      generalize hU : (⟨#[b]⟩ : ByteArray) = U at *
      replace hU := Lib.hid hU
      go_wp2_with fail
      refine ⟨⟨j - 1, W ++ U, by rw [show ((j - 1 : Nat) : Int) = (j : Int) - 1 by omega], rfl, by rw [ByteArray.size_append, hone]; omega, Lib.hid (by rw [← hU.out]; exact lt_app HLT.out HB.out), K4⟩, by simp [intOf]; omega⟩
    · obtain rfl : j = 0 := by omega
      have hWL : WordLT W := wordLT_of HLT.out (by omega)
      obtain ⟨m, hm, gm, hmul⟩ := word_good hWL
      have HWL := Lib.hid hWL
      have HGM := Lib.hid gm
      have HMU := Lib.hid hmul
      have HW1 := Lib.hid (show ∀ w' : World, Calls Try.prog 7 #[.string W] w' fun e w2 => e = .returned (.tuple #[mv m, .int .i64 0]) ∧ Below w'.heap.size w' w2 from fun w' => by
        have := MatrixOfWord_any W w' hWL
        rw [hm] at this
        exact this)
      have HW2 := Lib.hid (show ∀ w' : World, Calls Try.prog 8 #[.string W] w' fun e w2 => e = .returned (.tuple #[mv m, .int .i64 0]) ∧ Below w'.heap.size w' w2 from fun w' => by
        have := specMatrixOfWord_any W w' hWL
        rw [hm] at this
        exact this)
      have kwr : Below w.heap.size w wr := kw1.trans (KA.2.1.mono sw1)
      have swr := kwr.size
      have HBK := fun w' : World => run_equalInM m m w'
      have hde : decide (m = m) = true := decide_eq_true rfl
      rw [hde] at HBK
      have HK1 := Lib.hid kw1
      clear HLT hW hz kw1 hde hWL gm hmul hm
      go_wp2_with fail
      refine (HW1.out _).mono ?_
      rintro e w5 ⟨rfl, hb⟩
      have kw5 : Below w.heap.size w w5 := (by repeat (first | (with_reducible exact Below.refl _ _) | (with_reducible assumption) | (with_reducible refine Below.drew ?_) | (with_reducible refine Below.drewN ?_) | ((with_reducible refine Below.al ?_ ?_); · first | omega | (simp; done) | (simp; omega)) | ((with_reducible refine Below.sc ?_ ?_); · first | omega | (simp; done) | (simp; omega)) | ((with_reducible refine Below.thru hb ?_ ?_); · first | omega | (simp; done) | (simp; omega)) | ((with_reducible refine Below.thru hb ?_ ?_); · first | omega | (simp; done) | (simp; omega))))
      have K5 : Kpt w1 w2 w5 g code := Kpt.below hb (by repeat (first | (with_reducible assumption) | (with_reducible refine Kpt.drew ?_) | (with_reducible refine Kpt.drewN ?_) | (with_reducible refine Kpt.alloc ?_) | ((with_reducible refine Kpt.put ?_ ?_ ?_); (· omega); (· omega))))
      have s5 := kw5.size
      clear hb KA kwr
      go_wp2_with fail
      refine (HW2.out _).mono ?_
      rintro e w6 ⟨rfl, hb⟩
      have kw6 : Below w.heap.size w w6 := (by repeat (first | (with_reducible exact Below.refl _ _) | (with_reducible assumption) | (with_reducible refine Below.drew ?_) | (with_reducible refine Below.drewN ?_) | ((with_reducible refine Below.al ?_ ?_); · first | omega | (simp; done) | (simp; omega)) | ((with_reducible refine Below.sc ?_ ?_); · first | omega | (simp; done) | (simp; omega)) | ((with_reducible refine Below.thru hb ?_ ?_); · first | omega | (simp; done) | (simp; omega)) | ((with_reducible refine Below.thru hb ?_ ?_); · first | omega | (simp; done) | (simp; omega))))
      have K6 : Kpt w1 w2 w6 g code := Kpt.below hb (by repeat (first | (with_reducible assumption) | (with_reducible refine Kpt.drew ?_) | (with_reducible refine Kpt.drewN ?_) | (with_reducible refine Kpt.alloc ?_) | ((with_reducible refine Kpt.put ?_ ?_ ?_); (· omega); (· omega))))
      have s6 := kw6.size
      have A6 : Blk w6 w5.heap.size 30 (mcs m) := (by repeat (first | (with_reducible assumption) | ((with_reducible refine Blk.new ?_); · first | omega | (simp; done) | (simp; omega)) | (with_reducible apply Blk.set4) | (with_reducible apply Blk.set3) | (with_reducible apply Blk.set2) | ((with_reducible refine Blk.put ?_ ?_); · first | omega | (simp; omega)) | (with_reducible refine Blk.old ?_) | (with_reducible refine Blk.drew ?_) | (with_reducible refine Blk.drewN ?_) | ((with_reducible refine Blk.below hb ?_ ?_); · first | omega | (simp; done) | (simp; omega)) | ((with_reducible refine Blk.below hb ?_ ?_); · first | omega | (simp; done) | (simp; omega))))
      have lA6 := A6.lt
      have q0 := A6.m
      have q1 := A6.mf
      clear hb K5 kw5
      go_wp2_with fail
      refine (pos_call HGM.out _).mono ?_
      rintro e w7 ⟨rfl, hb⟩
      have kw7 : Below w.heap.size w w7 := (by repeat (first | (with_reducible exact Below.refl _ _) | (with_reducible assumption) | (with_reducible refine Below.drew ?_) | (with_reducible refine Below.drewN ?_) | ((with_reducible refine Below.al ?_ ?_); · first | omega | (simp; done) | (simp; omega)) | ((with_reducible refine Below.sc ?_ ?_); · first | omega | (simp; done) | (simp; omega)) | ((with_reducible refine Below.thru hb ?_ ?_); · first | omega | (simp; done) | (simp; omega)) | ((with_reducible refine Below.thru hb ?_ ?_); · first | omega | (simp; done) | (simp; omega))))
      have K7 : Kpt w1 w2 w7 g code := Kpt.below hb (by repeat (first | (with_reducible assumption) | (with_reducible refine Kpt.drew ?_) | (with_reducible refine Kpt.drewN ?_) | (with_reducible refine Kpt.alloc ?_) | ((with_reducible refine Kpt.put ?_ ?_ ?_); (· omega); (· omega))))
      have s7 := kw7.size
      have A7 : Blk w7 w5.heap.size 30 (mcs m) := (by repeat (first | (with_reducible assumption) | ((with_reducible refine Blk.new ?_); · first | omega | (simp; done) | (simp; omega)) | (with_reducible apply Blk.set4) | (with_reducible apply Blk.set3) | (with_reducible apply Blk.set2) | ((with_reducible refine Blk.put ?_ ?_); · first | omega | (simp; omega)) | (with_reducible refine Blk.old ?_) | (with_reducible refine Blk.drew ?_) | (with_reducible refine Blk.drewN ?_) | ((with_reducible refine Blk.below hb ?_ ?_); · first | omega | (simp; done) | (simp; omega)) | ((with_reducible refine Blk.below hb ?_ ?_); · first | omega | (simp; done) | (simp; omega))))
      have lA7 := A7.lt
      clear hb K6 kw6 A6 lA6 q0 q1
      have q0 := A7.m
      have q1 := A7.mf
      go_wp2_with fail
      refine (chain_call HGM.out _).mono ?_
      rintro e w8 ⟨sg, vq, qs, rfl, hq, hback, hb⟩
      have kw8 : Below w.heap.size w w8 := (by repeat (first | (with_reducible exact Below.refl _ _) | (with_reducible assumption) | (with_reducible refine Below.drew ?_) | (with_reducible refine Below.drewN ?_) | ((with_reducible refine Below.al ?_ ?_); · first | omega | (simp; done) | (simp; omega)) | ((with_reducible refine Below.sc ?_ ?_); · first | omega | (simp; done) | (simp; omega)) | ((with_reducible refine Below.thru hb ?_ ?_); · first | omega | (simp; done) | (simp; omega)) | ((with_reducible refine Below.thru hb ?_ ?_); · first | omega | (simp; done) | (simp; omega))))
      have K8 : Kpt w1 w2 w8 g code := Kpt.below hb (by repeat (first | (with_reducible assumption) | (with_reducible refine Kpt.drew ?_) | (with_reducible refine Kpt.drewN ?_) | (with_reducible refine Kpt.alloc ?_) | ((with_reducible refine Kpt.put ?_ ?_ ?_); (· omega); (· omega))))
      have s8 := kw8.size
      have A8 : Blk w8 w5.heap.size 30 (mcs m) := (by repeat (first | (with_reducible assumption) | ((with_reducible refine Blk.new ?_); · first | omega | (simp; done) | (simp; omega)) | (with_reducible apply Blk.set4) | (with_reducible apply Blk.set3) | (with_reducible apply Blk.set2) | ((with_reducible refine Blk.put ?_ ?_); · first | omega | (simp; omega)) | (with_reducible refine Blk.old ?_) | (with_reducible refine Blk.drew ?_) | (with_reducible refine Blk.drewN ?_) | ((with_reducible refine Blk.below hb ?_ ?_); · first | omega | (simp; done) | (simp; omega)) | ((with_reducible refine Blk.below hb ?_ ?_); · first | omega | (simp; done) | (simp; omega))))
      have lA8 := A8.lt
      clear hb K7 kw7 A7 lA7 q0 q1
      replace hback := Lib.hid hback
      replace hq := Lib.hid hq
      have q0 := A8.m
      have q1 := A8.mf
      go_wp2_with fail
      have hq8 := hback.out w8 vq hq.out
      clear hback
      refine hq8.mono ?_
      rintro e w9 ⟨rfl, hb⟩
      have kw9 : Below w.heap.size w w9 := (by repeat (first | (with_reducible exact Below.refl _ _) | (with_reducible assumption) | (with_reducible refine Below.drew ?_) | (with_reducible refine Below.drewN ?_) | ((with_reducible refine Below.al ?_ ?_); · first | omega | (simp; done) | (simp; omega)) | ((with_reducible refine Below.sc ?_ ?_); · first | omega | (simp; done) | (simp; omega)) | ((with_reducible refine Below.thru hb ?_ ?_); · first | omega | (simp; done) | (simp; omega)) | ((with_reducible refine Below.thru hb ?_ ?_); · first | omega | (simp; done) | (simp; omega))))
      have K9 : Kpt w1 w2 w9 g code := Kpt.below hb (by repeat (first | (with_reducible assumption) | (with_reducible refine Kpt.drew ?_) | (with_reducible refine Kpt.drewN ?_) | (with_reducible refine Kpt.alloc ?_) | ((with_reducible refine Kpt.put ?_ ?_ ?_); (· omega); (· omega))))
      have s9 := kw9.size
      have A9 : Blk w9 w5.heap.size 30 (mcs m) := (by repeat (first | (with_reducible assumption) | ((with_reducible refine Blk.new ?_); · first | omega | (simp; done) | (simp; omega)) | (with_reducible apply Blk.set4) | (with_reducible apply Blk.set3) | (with_reducible apply Blk.set2) | ((with_reducible refine Blk.put ?_ ?_); · first | omega | (simp; omega)) | (with_reducible refine Blk.old ?_) | (with_reducible refine Blk.drew ?_) | (with_reducible refine Blk.drewN ?_) | ((with_reducible refine Blk.below hb ?_ ?_); · first | omega | (simp; done) | (simp; omega)) | ((with_reducible refine Blk.below hb ?_ ?_); · first | omega | (simp; done) | (simp; omega))))
      have lA9 := A9.lt
      clear hb K8 kw8 A8 lA8 q0 q1 hq
      have q0 := A9.m
      have q1 := A9.mf
      go_wp2_with fail
      refine (left_call HGM.out _).mono ?_
      rintro e w10 ⟨rfl, hb⟩
      have kw10 : Below w.heap.size w w10 := (by repeat (first | (with_reducible exact Below.refl _ _) | (with_reducible assumption) | (with_reducible refine Below.drew ?_) | (with_reducible refine Below.drewN ?_) | ((with_reducible refine Below.al ?_ ?_); · first | omega | (simp; done) | (simp; omega)) | ((with_reducible refine Below.sc ?_ ?_); · first | omega | (simp; done) | (simp; omega)) | ((with_reducible refine Below.thru hb ?_ ?_); · first | omega | (simp; done) | (simp; omega)) | ((with_reducible refine Below.thru hb ?_ ?_); · first | omega | (simp; done) | (simp; omega))))
      have K10 : Kpt w1 w2 w10 g code := Kpt.below hb (by repeat (first | (with_reducible assumption) | (with_reducible refine Kpt.drew ?_) | (with_reducible refine Kpt.drewN ?_) | (with_reducible refine Kpt.alloc ?_) | ((with_reducible refine Kpt.put ?_ ?_ ?_); (· omega); (· omega))))
      have s10 := kw10.size
      have A10 : Blk w10 w5.heap.size 30 (mcs m) := (by repeat (first | (with_reducible assumption) | ((with_reducible refine Blk.new ?_); · first | omega | (simp; done) | (simp; omega)) | (with_reducible apply Blk.set4) | (with_reducible apply Blk.set3) | (with_reducible apply Blk.set2) | ((with_reducible refine Blk.put ?_ ?_); · first | omega | (simp; omega)) | (with_reducible refine Blk.old ?_) | (with_reducible refine Blk.drew ?_) | (with_reducible refine Blk.drewN ?_) | ((with_reducible refine Blk.below hb ?_ ?_); · first | omega | (simp; done) | (simp; omega)) | ((with_reducible refine Blk.below hb ?_ ?_); · first | omega | (simp; done) | (simp; omega))))
      have lA10 := A10.lt
      clear hb K9 kw9 A9 lA9 q0 q1 HBK
      have q0 := A10.m
      have q1 := A10.mf
      go_wp2_with fail
      refine (right_call HGM.out _).mono ?_
      rintro e w11 ⟨rfl, hb⟩
      have kw11 : Below w.heap.size w w11 := (by repeat (first | (with_reducible exact Below.refl _ _) | (with_reducible assumption) | (with_reducible refine Below.drew ?_) | (with_reducible refine Below.drewN ?_) | ((with_reducible refine Below.al ?_ ?_); · first | omega | (simp; done) | (simp; omega)) | ((with_reducible refine Below.sc ?_ ?_); · first | omega | (simp; done) | (simp; omega)) | ((with_reducible refine Below.thru hb ?_ ?_); · first | omega | (simp; done) | (simp; omega)) | ((with_reducible refine Below.thru hb ?_ ?_); · first | omega | (simp; done) | (simp; omega))))
      have K11 : Kpt w1 w2 w11 g code := Kpt.below hb (by repeat (first | (with_reducible assumption) | (with_reducible refine Kpt.drew ?_) | (with_reducible refine Kpt.drewN ?_) | (with_reducible refine Kpt.alloc ?_) | ((with_reducible refine Kpt.put ?_ ?_ ?_); (· omega); (· omega))))
      have s11 := kw11.size
      have A11 : Blk w11 w5.heap.size 30 (mcs m) := (by repeat (first | (with_reducible assumption) | ((with_reducible refine Blk.new ?_); · first | omega | (simp; done) | (simp; omega)) | (with_reducible apply Blk.set4) | (with_reducible apply Blk.set3) | (with_reducible apply Blk.set2) | ((with_reducible refine Blk.put ?_ ?_); · first | omega | (simp; omega)) | (with_reducible refine Blk.old ?_) | (with_reducible refine Blk.drew ?_) | (with_reducible refine Blk.drewN ?_) | ((with_reducible refine Blk.below hb ?_ ?_); · first | omega | (simp; done) | (simp; omega)) | ((with_reducible refine Blk.below hb ?_ ?_); · first | omega | (simp; done) | (simp; omega))))
      have lA11 := A11.lt
      have C11 : Blk w11 w10.heap.size 40 (#[.int .i64 (nfF m.a m.c.toNat), .int .i64 m.c]) := (by repeat (first | (with_reducible assumption) | ((with_reducible refine Blk.new ?_); · first | omega | (simp; done) | (simp; omega)) | (with_reducible apply Blk.set4) | (with_reducible apply Blk.set3) | (with_reducible apply Blk.set2) | ((with_reducible refine Blk.put ?_ ?_); · first | omega | (simp; omega)) | (with_reducible refine Blk.old ?_) | (with_reducible refine Blk.drew ?_) | (with_reducible refine Blk.drewN ?_) | ((with_reducible refine Blk.below hb ?_ ?_); · first | omega | (simp; done) | (simp; omega)) | ((with_reducible refine Blk.below hb ?_ ?_); · first | omega | (simp; done) | (simp; omega))))
      have lC11 := C11.lt
      clear hb K10 kw10 A10 lA10 q0 q1
      have q0 := A11.m
      have q1 := A11.mf
      have c0 := C11.at (i := 0) rfl
      have c1 := C11.at (i := 1) rfl
      obtain ⟨y1, y2, y3⟩ := nf_wraps HGM.out
      go_wp2_with fail
      refine (next_src (w0 := w1) (wa := w2) (code := code) 12 (by repeat (first | (with_reducible assumption) | (with_reducible refine Kpt.drew ?_) | (with_reducible refine Kpt.drewN ?_) | (with_reducible refine Kpt.alloc ?_) | ((with_reducible refine Kpt.put ?_ ?_ ?_); (· omega); (· omega)))) (by decide)).mono ?_
      rintro e w12 ⟨r2, rfl, hr2, kp⟩
      have K12 : Kpt w1 w2 w12 g code := Kpt.step (by repeat (first | (with_reducible assumption) | (with_reducible refine Kpt.drew ?_) | (with_reducible refine Kpt.drewN ?_) | (with_reducible refine Kpt.alloc ?_) | ((with_reducible refine Kpt.put ?_ ?_ ?_); (· omega); (· omega)))) kp
      have hg := K11.1.lt
      have s12 := kp.size
      (try simp at s12)
      have A12 : Blk w12 w5.heap.size 30 (mcs m) := Blk.keep kp.2.2 (K11.1.ne A11 (by decide)) (by repeat (first | (with_reducible assumption) | ((with_reducible refine Blk.new ?_); · first | omega | (simp; done) | (simp; omega)) | (with_reducible apply Blk.set4) | (with_reducible apply Blk.set3) | (with_reducible apply Blk.set2) | ((with_reducible refine Blk.put ?_ ?_); · first | omega | (simp; omega)) | (with_reducible refine Blk.old ?_) | (with_reducible refine Blk.drew ?_) | (with_reducible refine Blk.drewN ?_) | ((with_reducible refine Blk.below hb ?_ ?_); · first | omega | (simp; done) | (simp; omega)) | ((with_reducible refine Blk.below hb ?_ ?_); · first | omega | (simp; done) | (simp; omega))))
      have lA12 := A12.lt
      have kw12 : Below w.heap.size w w12 := HK1.out.trans (K12.2.1.mono sw1)
      obtain ⟨n, hn1, hn2, rfl⟩ : ∃ n : Nat, 1 ≤ n ∧ n ≤ 12 ∧ r2 = (n : Int) - 1 := ⟨(r2 + 1).toNat, by omega, by omega, by omega⟩
      have x3 : IntKind.i64.wrap (1 + ((n : Int) - 1)) = (n : Int) := by rw [IntKind.wrap_i64]; omega
      obtain ⟨S, T, L⟩ := lev_good n hn1 hn2
      have hln : (lineL n).length ≤ 72 := by rw [← movL_len n matS, L.hS]; have := L.pos; omega
      obtain ⟨p, hp⟩ := top_good HWL.out HGM.out HMU.out L hln
      have HAC := Lib.hid (show ∀ w' : World, Calls Try.prog 13 #[.int .i64 (n : Int)] w' (GivesAct S T 0 w') from fun w' => by
        have := ActionOfLevel_in n w' ⟨hn1, by omega⟩ hln
        rw [L.hS, L.hT] at this
        exact this)
      have HCO := Lib.hid (show ∀ w' : World, Calls Try.prog 14 #[.int .i64 (n : Int), mv m] w' fun e w2 => e = .returned (.tuple #[.int .i64 p, .int .i64 0]) ∧ Below w'.heap.size w' w2 from fun w' => by
        have := CosetOf_any n m w' HGM.out.ok ⟨hn1, by omega⟩
        rw [hp.cos] at this
        exact this)
      have HLP := Lib.hid (show ∀ (s t : Value) (w' : World), SlIn w' .i64 s S ∧ SlIn w' .i64 t T → Calls Try.prog 15 #[.agg #[s, t], .string W, .int .i64 0] w' fun e w2 => e = .returned (.tuple #[.int .i64 p, .int .i64 0]) ∧ Below w'.heap.size w' w2 from fun s t w' h => by
        have := LeadPoint_any s t S T W 0 w' h ⟨by have := L.pos; omega, by have := L.pos; omega⟩ (by have := HWL.out.1; omega)
        rw [hp.lead] at this
        exact this)
      have HLM := Lib.hid (show ∀ (s t : Value) (w' : World), SlIn w' .i64 s S ∧ SlIn w' .i64 t T → Calls Try.prog 16 #[.agg #[s, t], mv m, .int .i64 0] w' fun e w2 => e = .returned (.tuple #[.int .i64 p, .int .i64 0]) ∧ Below w'.heap.size w' w2 from fun s t w' h => by
        refine (LeadByMatrix_any s t S T m 0 w' h ⟨by have := L.pos; omega, by have := L.pos; omega⟩).mono ?_
        rintro e w2 ⟨r, rfl, hr, hb⟩
        rw [hp.mat r hr]
        exact ⟨rfl, hb⟩)
      clear hp L hln hn1 hn2 hr2 kp K12 K11 A11 C11 c0 c1 y1 y2 y3 hg q0 q1 HGM HMU HWL HW1 HW2
      have q0 := A12.m
      have q1 := A12.mf
      go_wp2_with fail
      refine (HAC.out _).mono ?_
      rintro e w13 ⟨s', t', rfl, hO, hb⟩
      have kw13 : Below w.heap.size w w13 := (by repeat (first | (with_reducible exact Below.refl _ _) | (with_reducible assumption) | (with_reducible refine Below.drew ?_) | (with_reducible refine Below.drewN ?_) | ((with_reducible refine Below.al ?_ ?_); · first | omega | (simp; done) | (simp; omega)) | ((with_reducible refine Below.sc ?_ ?_); · first | omega | (simp; done) | (simp; omega)) | ((with_reducible refine Below.thru hb ?_ ?_); · first | omega | (simp; done) | (simp; omega)) | ((with_reducible refine Below.thru hb ?_ ?_); · first | omega | (simp; done) | (simp; omega))))
      have s13 := kw13.size
      have A13 : Blk w13 w5.heap.size 30 (mcs m) := (by repeat (first | (with_reducible assumption) | ((with_reducible refine Blk.new ?_); · first | omega | (simp; done) | (simp; omega)) | (with_reducible apply Blk.set4) | (with_reducible apply Blk.set3) | (with_reducible apply Blk.set2) | ((with_reducible refine Blk.put ?_ ?_); · first | omega | (simp; omega)) | (with_reducible refine Blk.old ?_) | (with_reducible refine Blk.drew ?_) | (with_reducible refine Blk.drewN ?_) | ((with_reducible refine Blk.below hb ?_ ?_); · first | omega | (simp; done) | (simp; omega)) | ((with_reducible refine Blk.below hb ?_ ?_); · first | omega | (simp; done) | (simp; omega))))
      have lA13 := A13.lt
      have hs := hO.sl
      obtain ⟨so, sc, rfl, -⟩ := hs.1.form
      obtain ⟨ta, tc, rfl, -⟩ := hs.2.form
      have HSL := Lib.hid hs
      clear hb hO q0 q1 A12 lA12 hs
      have q0 := A13.m
      have q1 := A13.mf
      generalize S.length = sn at *
      generalize T.length = tn at *
      go_wp2_with fail
      refine (HCO.out _).mono ?_
      rintro e w14 ⟨rfl, hb⟩
      have kw14 : Below w.heap.size w w14 := (by repeat (first | (with_reducible exact Below.refl _ _) | (with_reducible assumption) | (with_reducible refine Below.drew ?_) | (with_reducible refine Below.drewN ?_) | ((with_reducible refine Below.al ?_ ?_); · first | omega | (simp; done) | (simp; omega)) | ((with_reducible refine Below.sc ?_ ?_); · first | omega | (simp; done) | (simp; omega)) | ((with_reducible refine Below.thru hb ?_ ?_); · first | omega | (simp; done) | (simp; omega)) | ((with_reducible refine Below.thru hb ?_ ?_); · first | omega | (simp; done) | (simp; omega))))
      have s14 := kw14.size
      have A14 : Blk w14 w5.heap.size 30 (mcs m) := (by repeat (first | (with_reducible assumption) | ((with_reducible refine Blk.new ?_); · first | omega | (simp; done) | (simp; omega)) | (with_reducible apply Blk.set4) | (with_reducible apply Blk.set3) | (with_reducible apply Blk.set2) | ((with_reducible refine Blk.put ?_ ?_); · first | omega | (simp; omega)) | (with_reducible refine Blk.old ?_) | (with_reducible refine Blk.drew ?_) | (with_reducible refine Blk.drewN ?_) | ((with_reducible refine Blk.below hb ?_ ?_); · first | omega | (simp; done) | (simp; omega)) | ((with_reducible refine Blk.below hb ?_ ?_); · first | omega | (simp; done) | (simp; omega))))
      have lA14 := A14.lt
      have X14 : Blk w14 w13.heap.size 44 #[.slice so sn sc, .slice ta tn tc] := (by repeat (first | (with_reducible assumption) | ((with_reducible refine Blk.new ?_); · first | omega | (simp; done) | (simp; omega)) | (with_reducible apply Blk.set4) | (with_reducible apply Blk.set3) | (with_reducible apply Blk.set2) | ((with_reducible refine Blk.put ?_ ?_); · first | omega | (simp; omega)) | (with_reducible refine Blk.old ?_) | (with_reducible refine Blk.drew ?_) | (with_reducible refine Blk.drewN ?_) | ((with_reducible refine Blk.below hb ?_ ?_); · first | omega | (simp; done) | (simp; omega)) | ((with_reducible refine Blk.below hb ?_ ?_); · first | omega | (simp; done) | (simp; omega))))
      have lX14 := X14.lt
      have HS14 := Lib.hid (SlIn2.below (SlIn2.below HSL.out ((Below.refl _ _).alloc (Nat.le_refl _) _)) hb)
      clear hb q0 q1 A13 lA13 HSL kw13
      have x0 := X14.at (i := 0) rfl
      have x1 := X14.at (i := 1) rfl
      go_wp2_with fail
      refine (HLP.out _ _ _ HS14.out).mono ?_
      rintro e w15 ⟨rfl, hb⟩
      have kw15 : Below w.heap.size w w15 := (by repeat (first | (with_reducible exact Below.refl _ _) | (with_reducible assumption) | (with_reducible refine Below.drew ?_) | (with_reducible refine Below.drewN ?_) | ((with_reducible refine Below.al ?_ ?_); · first | omega | (simp; done) | (simp; omega)) | ((with_reducible refine Below.sc ?_ ?_); · first | omega | (simp; done) | (simp; omega)) | ((with_reducible refine Below.thru hb ?_ ?_); · first | omega | (simp; done) | (simp; omega)) | ((with_reducible refine Below.thru hb ?_ ?_); · first | omega | (simp; done) | (simp; omega))))
      have s15 := kw15.size
      have A15 : Blk w15 w5.heap.size 30 (mcs m) := (by repeat (first | (with_reducible assumption) | ((with_reducible refine Blk.new ?_); · first | omega | (simp; done) | (simp; omega)) | (with_reducible apply Blk.set4) | (with_reducible apply Blk.set3) | (with_reducible apply Blk.set2) | ((with_reducible refine Blk.put ?_ ?_); · first | omega | (simp; omega)) | (with_reducible refine Blk.old ?_) | (with_reducible refine Blk.drew ?_) | (with_reducible refine Blk.drewN ?_) | ((with_reducible refine Blk.below hb ?_ ?_); · first | omega | (simp; done) | (simp; omega)) | ((with_reducible refine Blk.below hb ?_ ?_); · first | omega | (simp; done) | (simp; omega))))
      have lA15 := A15.lt
      have X15 : Blk w15 w13.heap.size 44 #[.slice so sn sc, .slice ta tn tc] := (by repeat (first | (with_reducible assumption) | ((with_reducible refine Blk.new ?_); · first | omega | (simp; done) | (simp; omega)) | (with_reducible apply Blk.set4) | (with_reducible apply Blk.set3) | (with_reducible apply Blk.set2) | ((with_reducible refine Blk.put ?_ ?_); · first | omega | (simp; omega)) | (with_reducible refine Blk.old ?_) | (with_reducible refine Blk.drew ?_) | (with_reducible refine Blk.drewN ?_) | ((with_reducible refine Blk.below hb ?_ ?_); · first | omega | (simp; done) | (simp; omega)) | ((with_reducible refine Blk.below hb ?_ ?_); · first | omega | (simp; done) | (simp; omega))))
      have lX15 := X15.lt
      have HS15 := Lib.hid (SlIn2.below HS14.out hb)
      clear hb x0 x1 A14 lA14 X14 lX14 HS14 kw14
      have x0 := X15.at (i := 0) rfl
      have x1 := X15.at (i := 1) rfl
      have q0 := A15.m
      have q1 := A15.mf
      go_wp2_with fail
      refine (HLM.out _ _ _ HS15.out).mono ?_
      rintro e w16 ⟨rfl, hb⟩
      have kw16 : Below w.heap.size w w16 := (by repeat (first | (with_reducible exact Below.refl _ _) | (with_reducible assumption) | (with_reducible refine Below.drew ?_) | (with_reducible refine Below.drewN ?_) | ((with_reducible refine Below.al ?_ ?_); · first | omega | (simp; done) | (simp; omega)) | ((with_reducible refine Below.sc ?_ ?_); · first | omega | (simp; done) | (simp; omega)) | ((with_reducible refine Below.thru hb ?_ ?_); · first | omega | (simp; done) | (simp; omega)) | ((with_reducible refine Below.thru hb ?_ ?_); · first | omega | (simp; done) | (simp; omega))))
      clear hb x0 x1 A15 lA15 X15 lX15 HS15 kw15 q0 q1
      go_wp2
      rw [← HGF.out]
      exact ⟨rfl, (by repeat (first | (with_reducible exact Below.refl _ _) | (with_reducible assumption) | (with_reducible refine Below.drew ?_) | (with_reducible refine Below.drewN ?_) | ((with_reducible refine Below.al ?_ ?_); · first | omega | (simp; done) | (simp; omega)) | ((with_reducible refine Below.sc ?_ ?_); · first | omega | (simp; done) | (simp; omega)) | ((with_reducible refine Below.thru hb ?_ ?_); · first | omega | (simp; done) | (simp; omega)) | ((with_reducible refine Below.thru hb ?_ ?_); · first | omega | (simp; done) | (simp; omega))))⟩

end Go.Proofs.Ytjpkopnkfpgahaa
