/- The text that a free word's matrix is asked for, drawn; walked by hand. -/
import Derived.Test.YtcapmljnhflopaaSrh
namespace Go.Proofs.Ytcapmljnhflopaa
open Go.RowKit
set_option linter.unusedSimpArgs false

/-- A text drawn: not long. -/
def DrawT (w : World) (e : Ending) (w' : World) : Prop := ∃ s : ByteArray, e = .returned (.string s) ∧ s.size ≤ 100 ∧ Below w.heap.size w w'
set_option maxRecDepth 8000 in
set_option maxHeartbeats 1000000 in
/-- The text is some text, not long. -/
theorem drawFree_any {w : World} {v : Value} {code : List Int} (hc : CodeOk code) (hv : SlIn w .u8 v code) :
    Calls Try.prog 8 #[v] w fun e w' => ∃ s : ByteArray, e = .returned (.string s) ∧ s.size ≤ 100 ∧ Below w.heap.size w w' := by
  show Calls Try.prog 8 #[v] w (DrawT w)
  obtain ⟨GF, hGF⟩ : ∃ GF, DrawT w = GF := ⟨_, rfl⟩
  rw [hGF]
  have HGF := Lib.hid hGF
  clear hGF
  go_enter Try.func8, Try.ntmps8
  go_wp2_with fail
  refine (from_src hc hv).mono ?_
  rintro e w1 ⟨g, rfl, hS, kB⟩
  have K1 := Kpt.refl hS kB
  clear kB hS hv
  go_wp2_with fail
  refine (next_src (w0 := w) (wa := w1) (code := code) 2 K1 (by decide)).mono ?_
  rintro e w2 ⟨st, rfl, hst, kp⟩
  have K2 := kp.1
  have B2 := kp.2.1
  have KK := Kpt.refl K2 B2
  clear kp K1 K2 B2
  go_wp2_with fail
  go_loopw [4, 6] (fun o i wr => ∃ (s : ByteArray) (k : Nat), o = .string s ∧ i = .int .i64 k ∧ k ≤ 60 ∧ s.size ≤ k ∧ Src w wr g code ∧ Below w.heap.size w wr) (fun _ i _ => 60 - (intOf i).toNat)
  case atStart => exact ⟨_, 0, rfl, rfl, by decide, by decide, KK.1, KK.2.1⟩
  case round =>
    clear KK
    obtain ⟨s, k, rfl, rfl, hk, hs, KS, KB⟩ := hrel
    have K := Kpt.refl KS KB
    clear KS KB
    have hg := K.1.lt
    go_wp2_with fail
    refine (pick_src (w0 := w) (wa := wr) (code := code) (b := wr.heap.size) [6, 20, 60] #[.int .i64 6, .int .i64 20, .int .i64 60] K.alloc (Blk.new rfl) rfl (by simp) (by simp [maxLen]) 3 rfl).mono ?_
    rintro e w4 ⟨r, rfl, hr, kp⟩
    have hr2 : 1 ≤ r ∧ r ≤ 60 := by simp at hr; omega
    have K4 := Kpt.refl kp.1 kp.2.1
    clear kp hr K
    go_wp2_with fail
    refine (next_src (w0 := w) (wa := w4) (code := code) r K4 hr2.1).mono ?_
    rintro e w5 ⟨r2, rfl, hr3, kp⟩
    have K5 := Kpt.refl kp.1 kp.2.1
    have hr4 : r2 < 60 := by omega
    clear kp K4 hr2 hr3
    by_cases hlt : (k : Int) < r2
    · by_cases hp : ((k : Int) + st) % 2 = 0
      · have e2 : (((k : Int) + st) % 2 == 0) = true := by simp [hp]
        have HK := Lib.hid K5
        clear K5
        go_wp2
        refine ⟨⟨_, k + 1, rfl, by go_num, by omega, by rw [ByteArray.size_append]; show s.size + 1 ≤ k + 1; omega, HK.out.1, HK.out.2.1⟩, ?_⟩
        first | (simp [intOf]; done) | (simp [intOf]; omega)
      · have e2 : (((k : Int) + st) % 2 == 0) = false := by simp [hp]
        go_wp2_with fail
        refine (next_src (w0 := w) (wa := w5) (code := code) 2 K5.alloc (by decide)).mono ?_
        rintro e w6 ⟨q, rfl, hq, kp⟩
        have hne := (Src.ne (K5.alloc (o := .cells #[.string ⟨#[85]⟩, .string ⟨#[86]⟩] 9)).1 (Blk.new rfl : Blk _ w5.heap.size 9 #[.string ⟨#[85]⟩, .string ⟨#[86]⟩]) (by decide))
        have B6 : Blk w6 w5.heap.size 9 #[.string ⟨#[85]⟩, .string ⟨#[86]⟩] := Blk.keep kp.2.2 hne (Blk.new rfl)
        have HK := Lib.hid (Kpt.refl kp.1 kp.2.1)
        clear kp K5 hne
        rcases (show q = 0 ∨ q = 1 by omega) with rfl | rfl
        · have c0 : w6.cell? ⟨w5.heap.size, 0, none⟩ = some (.string ⟨#[85]⟩) := B6.at rfl
          clear B6
          go_wp2
          refine ⟨⟨_, k + 1, rfl, by go_num, by omega, by rw [ByteArray.size_append]; show s.size + 1 ≤ k + 1; omega, HK.out.1, HK.out.2.1⟩, ?_⟩
          first | (simp [intOf]; done) | (simp [intOf]; omega)
        · have c0 : w6.cell? ⟨w5.heap.size, 1, none⟩ = some (.string ⟨#[86]⟩) := B6.at rfl
          clear B6
          go_wp2
          refine ⟨⟨_, k + 1, rfl, by go_num, by omega, by rw [ByteArray.size_append]; show s.size + 1 ≤ k + 1; omega, HK.out.1, HK.out.2.1⟩, ?_⟩
          first | (simp [intOf]; done) | (simp [intOf]; omega)
    · go_wp2_with fail
      refine (next_src (w0 := w) (wa := w5) (code := code) 12 K5 (by decide)).mono ?_
      rintro e w6 ⟨q, rfl, -, kp⟩
      have K6 := Kpt.refl kp.1 kp.2.1
      clear kp K5
      by_cases hq : q = 0
      · subst hq
        go_wp2_with fail
        refine (next_src (w0 := w) (wa := w6) (code := code) 4 K6.alloc (by decide)).mono ?_
        rintro e w7 ⟨q, rfl, hq, kp⟩
        have hne := (Src.ne (K6.alloc (o := .cells #[.string ⟨#[83]⟩, .string ⟨#[85]⟩, .string ⟨#[84]⟩, .string ⟨#[]⟩] 9)).1 (Blk.new rfl : Blk _ w6.heap.size 9 #[.string ⟨#[83]⟩, .string ⟨#[85]⟩, .string ⟨#[84]⟩, .string ⟨#[]⟩]) (by decide))
        have B7 : Blk w7 w6.heap.size 9 #[.string ⟨#[83]⟩, .string ⟨#[85]⟩, .string ⟨#[84]⟩, .string ⟨#[]⟩] := Blk.keep kp.2.2 hne (Blk.new rfl)
        have HK := Lib.hid kp.2.1
        clear kp K6 hne
        obtain ⟨y, c0, hy⟩ : ∃ y : ByteArray, w7.cell? ⟨w6.heap.size, q.toNat, none⟩ = some (.string y) ∧ y.size ≤ 1 := by
          rcases (show q = 0 ∨ q = 1 ∨ q = 2 ∨ q = 3 by omega) with rfl | rfl | rfl | rfl
          · exact ⟨_, B7.at rfl, by decide⟩
          · exact ⟨_, B7.at rfl, by decide⟩
          · exact ⟨_, B7.at rfl, by decide⟩
          · exact ⟨_, B7.at rfl, by decide⟩
        obtain ⟨m, rfl⟩ := Int.eq_ofNat_of_zero_le hq.1
        rw [Int.toNat_natCast] at c0
        have i0 : (0 : Int) ≤ (m : Int) := by omega
        have i1 : (m : Int) < 4 := hq.2
        have hov : ¬ 9223372036854775807 < s.size + y.size := by omega
        clear B7
        go_wp2
        rw [← HGF.out]
        exact ⟨_, rfl, by rw [ByteArray.size_append]; omega, HK.out⟩
      · have HK := Lib.hid K6.2.1
        clear K6
        go_wp2
        rw [← HGF.out]
        exact ⟨_, rfl, by omega, HK.out⟩

end Go.Proofs.Ytcapmljnhflopaa
