import Derived.Test.YtjpkopnkfpgahaaQ1
import Derived.Test.YtjpkopnkfpgahaaQ2
import Derived.Test.YtjpkopnkfpgahaaQ7
import Derived.Deep.OwnRows
/- The matrices of words of L and T: the program's walk. -/
namespace Go.Proofs.Ytjpkopnkfpgahaa
open Go.RowKit
set_option linter.unusedSimpArgs false

/-- The letters L and T, and their matrices. -/
def LT1 (b : UInt8) : Prop := b = 76 ∨ b = 84
def lmW (b : UInt8) : M := if b = 76 then ⟨1, 0, 1, 1⟩ else ⟨1, 1, 0, 1⟩
set_option maxRecDepth 100000 in
set_option maxHeartbeats 1000000 in
theorem namedL_any (w : World) :
    Calls Try.prog 54 #[.string ⟨#[76]⟩] w fun e w' => e = .returned (.tuple #[mv ⟨1, 0, 1, 1⟩, .bool true]) ∧ Below w.heap.size w w' := by
  go_enter Try.func54, Try.ntmps54
  go_wp2
  refine ret_at (v := .tuple #[mv ⟨1, 0, 1, 1⟩, .bool true]) (fun w' => Blk w' (w.heap.size) 30 (mcs ⟨1, 0, 1, 1⟩)) (by repeat (first | (with_reducible assumption) | ((with_reducible refine Blk.new ?_); · first | omega | (simp; done) | (simp; omega)) | (with_reducible apply Blk.set4) | (with_reducible apply Blk.set3) | (with_reducible apply Blk.set2) | ((with_reducible refine Blk.put ?_ ?_); · first | omega | (simp; omega)) | (with_reducible refine Blk.old ?_) | (with_reducible refine Blk.drew ?_) | (with_reducible refine Blk.drewN ?_) | ((with_reducible refine Blk.below hb ?_ ?_); · first | omega | (simp; done) | (simp; omega)))) (fun w' hB => by have q := hB.m; simp [results, Try.results54, go_sem, q]) rfl ?_
  exact ⟨rfl, (by repeat (first | (with_reducible exact Below.refl _ _) | (with_reducible assumption) | (with_reducible refine Below.drew ?_) | (with_reducible refine Below.drewN ?_) | ((with_reducible refine Below.al ?_ ?_); · first | omega | (simp; done) | (simp; omega)) | ((with_reducible refine Below.sc ?_ ?_); · first | omega | (simp; done) | (simp; omega)) | ((with_reducible refine Below.thru hb ?_ ?_); · first | omega | (simp; done) | (simp; omega))))⟩
set_option maxRecDepth 100000 in
set_option maxHeartbeats 1000000 in
theorem namedT_any (w : World) :
    Calls Try.prog 54 #[.string ⟨#[84]⟩] w fun e w' => e = .returned (.tuple #[mv ⟨1, 1, 0, 1⟩, .bool true]) ∧ Below w.heap.size w w' := by
  go_enter Try.func54, Try.ntmps54
  go_wp2
  refine ret_at (v := .tuple #[mv ⟨1, 1, 0, 1⟩, .bool true]) (fun w' => Blk w' (w.heap.size) 30 (mcs ⟨1, 1, 0, 1⟩)) (by repeat (first | (with_reducible assumption) | ((with_reducible refine Blk.new ?_); · first | omega | (simp; done) | (simp; omega)) | (with_reducible apply Blk.set4) | (with_reducible apply Blk.set3) | (with_reducible apply Blk.set2) | ((with_reducible refine Blk.put ?_ ?_); · first | omega | (simp; omega)) | (with_reducible refine Blk.old ?_) | (with_reducible refine Blk.drew ?_) | (with_reducible refine Blk.drewN ?_) | ((with_reducible refine Blk.below hb ?_ ?_); · first | omega | (simp; done) | (simp; omega)))) (fun w' hB => by have q := hB.m; simp [results, Try.results54, go_sem, q]) rfl ?_
  exact ⟨rfl, (by repeat (first | (with_reducible exact Below.refl _ _) | (with_reducible assumption) | (with_reducible refine Below.drew ?_) | (with_reducible refine Below.drewN ?_) | ((with_reducible refine Below.al ?_ ?_); · first | omega | (simp; done) | (simp; omega)) | ((with_reducible refine Below.sc ?_ ?_); · first | omega | (simp; done) | (simp; omega)) | ((with_reducible refine Below.thru hb ?_ ?_); · first | omega | (simp; done) | (simp; omega))))⟩
set_option maxRecDepth 100000 in
set_option maxHeartbeats 1000000 in
theorem letter_any (b : UInt8) (w : World) (hb : LT1 b) :
    Calls Try.prog 29 #[.int .u8 (b.toNat : Int)] w fun e w' => e = .returned (mv (lmW b)) ∧ Below w.heap.size w w' := by
  rcases hb with rfl | rfl
  · go_enter Try.func29, Try.ntmps29
    go_wp2_with fail
    rw [show Utf8.encode 76 = (⟨#[76]⟩ : ByteArray) from rfl]
    go_wp2_with fail
    refine (namedL_any _).mono ?_
    rintro e w1 ⟨rfl, hb⟩
    have B1 : Blk w1 (w.heap.size) 30 (mcs ⟨0, 0, 0, 0⟩) := (by repeat (first | (with_reducible assumption) | ((with_reducible refine Blk.new ?_); · first | omega | (simp; done) | (simp; omega)) | (with_reducible apply Blk.set4) | (with_reducible apply Blk.set3) | (with_reducible apply Blk.set2) | ((with_reducible refine Blk.put ?_ ?_); · first | omega | (simp; omega)) | (with_reducible refine Blk.old ?_) | (with_reducible refine Blk.drew ?_) | (with_reducible refine Blk.drewN ?_) | ((with_reducible refine Blk.below hb ?_ ?_); · first | omega | (simp; done) | (simp; omega))))
    have lB1 := B1.lt
    have kw1 : Below w.heap.size w w1 := (by repeat (first | (with_reducible exact Below.refl _ _) | (with_reducible assumption) | (with_reducible refine Below.drew ?_) | (with_reducible refine Below.drewN ?_) | ((with_reducible refine Below.al ?_ ?_); · first | omega | (simp; done) | (simp; omega)) | ((with_reducible refine Below.sc ?_ ?_); · first | omega | (simp; done) | (simp; omega)) | ((with_reducible refine Below.thru hb ?_ ?_); · first | omega | (simp; done) | (simp; omega))))
    have sw1 := kw1.size
    clear hb
    have q0 := B1.m
    have q1 := B1.mf
    go_wp2
    refine ret_at (v := mv ⟨1, 0, 1, 1⟩) (fun w' => Blk w' (w.heap.size) 30 (mcs ⟨1, 0, 1, 1⟩)) (by repeat (first | (with_reducible assumption) | ((with_reducible refine Blk.new ?_); · first | omega | (simp; done) | (simp; omega)) | (with_reducible apply Blk.set4) | (with_reducible apply Blk.set3) | (with_reducible apply Blk.set2) | ((with_reducible refine Blk.put ?_ ?_); · first | omega | (simp; omega)) | (with_reducible refine Blk.old ?_) | (with_reducible refine Blk.drew ?_) | (with_reducible refine Blk.drewN ?_) | ((with_reducible refine Blk.below hb ?_ ?_); · first | omega | (simp; done) | (simp; omega)))) (fun w' hB => by have q := hB.m; simp [results, Try.results29, go_sem, q]) rfl ?_
    exact ⟨rfl, (by repeat (first | (with_reducible exact Below.refl _ _) | (with_reducible assumption) | (with_reducible refine Below.drew ?_) | (with_reducible refine Below.drewN ?_) | ((with_reducible refine Below.al ?_ ?_); · first | omega | (simp; done) | (simp; omega)) | ((with_reducible refine Below.sc ?_ ?_); · first | omega | (simp; done) | (simp; omega)) | ((with_reducible refine Below.thru hb ?_ ?_); · first | omega | (simp; done) | (simp; omega))))⟩
  · go_enter Try.func29, Try.ntmps29
    go_wp2_with fail
    rw [show Utf8.encode 84 = (⟨#[84]⟩ : ByteArray) from rfl]
    go_wp2_with fail
    refine (namedT_any _).mono ?_
    rintro e w1 ⟨rfl, hb⟩
    have B1 : Blk w1 (w.heap.size) 30 (mcs ⟨0, 0, 0, 0⟩) := (by repeat (first | (with_reducible assumption) | ((with_reducible refine Blk.new ?_); · first | omega | (simp; done) | (simp; omega)) | (with_reducible apply Blk.set4) | (with_reducible apply Blk.set3) | (with_reducible apply Blk.set2) | ((with_reducible refine Blk.put ?_ ?_); · first | omega | (simp; omega)) | (with_reducible refine Blk.old ?_) | (with_reducible refine Blk.drew ?_) | (with_reducible refine Blk.drewN ?_) | ((with_reducible refine Blk.below hb ?_ ?_); · first | omega | (simp; done) | (simp; omega))))
    have lB1 := B1.lt
    have kw1 : Below w.heap.size w w1 := (by repeat (first | (with_reducible exact Below.refl _ _) | (with_reducible assumption) | (with_reducible refine Below.drew ?_) | (with_reducible refine Below.drewN ?_) | ((with_reducible refine Below.al ?_ ?_); · first | omega | (simp; done) | (simp; omega)) | ((with_reducible refine Below.sc ?_ ?_); · first | omega | (simp; done) | (simp; omega)) | ((with_reducible refine Below.thru hb ?_ ?_); · first | omega | (simp; done) | (simp; omega))))
    have sw1 := kw1.size
    clear hb
    have q0 := B1.m
    have q1 := B1.mf
    go_wp2
    refine ret_at (v := mv ⟨1, 1, 0, 1⟩) (fun w' => Blk w' (w.heap.size) 30 (mcs ⟨1, 1, 0, 1⟩)) (by repeat (first | (with_reducible assumption) | ((with_reducible refine Blk.new ?_); · first | omega | (simp; done) | (simp; omega)) | (with_reducible apply Blk.set4) | (with_reducible apply Blk.set3) | (with_reducible apply Blk.set2) | ((with_reducible refine Blk.put ?_ ?_); · first | omega | (simp; omega)) | (with_reducible refine Blk.old ?_) | (with_reducible refine Blk.drew ?_) | (with_reducible refine Blk.drewN ?_) | ((with_reducible refine Blk.below hb ?_ ?_); · first | omega | (simp; done) | (simp; omega)))) (fun w' hB => by have q := hB.m; simp [results, Try.results29, go_sem, q]) rfl ?_
    exact ⟨rfl, (by repeat (first | (with_reducible exact Below.refl _ _) | (with_reducible assumption) | (with_reducible refine Below.drew ?_) | (with_reducible refine Below.drewN ?_) | ((with_reducible refine Below.al ?_ ?_); · first | omega | (simp; done) | (simp; omega)) | ((with_reducible refine Below.sc ?_ ?_); · first | omega | (simp; done) | (simp; omega)) | ((with_reducible refine Below.thru hb ?_ ?_); · first | omega | (simp; done) | (simp; omega))))⟩
theorem prodRes_formW (o : Option M) : ∃ (r : M) (c : Int), prodRes o = .tuple #[mv r, .int .i64 c] := by
  cases o with
  | some r => exact ⟨r, 0, rfl⟩
  | none => exact ⟨⟨0, 0, 0, 0⟩, 3, rfl⟩

def encMW : Enc M := ⟨4, fun m => [.int .i64 m.a, .int .i64 m.b, .int .i64 m.c, .int .i64 m.d], fun _ => rfl, by decide, fun x u hu => by simp at hu; rcases hu with rfl | rfl | rfl | rfl <;> rfl⟩
theorem infoMW : (Try.prog.info? 30).map (fun i => (i.zero, i.size, i.bytes)) = some (some (.agg #[.int .i64 0, .int .i64 0, .int .i64 0, .int .i64 0]), 4, 32) := by kernel_rfl
theorem OwnK.mrowW {w : World} {B g n cap : Nat} {ms : List M} (h : OwnK encMW 30 w B (.slice (some ⟨g, 0, none⟩) n cap) ms) : MRow w g 0 ms := by
  intro j hj
  have e := fun i u hu => OwnK.at (i := i) (u := u) h rfl (List.getElem?_eq_getElem hj) hu
  have e0 := e 0 _ rfl
  have e1 := e 1 _ rfl
  have e2 := e 2 _ rfl
  have e3 := e 3 _ rfl
  rw [Nat.zero_add]
  exact ⟨e0, e1, e2, e3⟩

/-- The letters' matrices, one behind the other. -/
def msW (s : ByteArray) (k : Nat) : List M := (s.data.toList.take k).map lmW
theorem bytesW_get {s : ByteArray} {k : Nat} (h : k < s.size) : s.data.toList[k]'(by rw [Array.length_toList]; exact h) = s[k] := by rw [Array.getElem_toList]; rfl
theorem msW_len (s : ByteArray) {k : Nat} (h : k ≤ s.size) : (msW s k).length = k := by
  unfold msW
  rw [List.length_map, List.length_take, Array.length_toList]
  exact Nat.min_eq_left h
theorem msW_succ (s : ByteArray) {k : Nat} (h : k < s.size) : msW s (k + 1) = msW s k ++ [lmW s[k]] := by
  unfold msW
  rw [List.take_succ_eq_append_getElem (by rw [Array.length_toList]; exact h), List.map_append, bytesW_get h]
  rfl
theorem lmW_ents (b : UInt8) : (lmW b).ents = true := by
  unfold lmW
  split <;> decide
theorem msW_ents (s : ByteArray) (k : Nat) : (msW s k).all M.ents = true := by
  unfold msW
  rw [List.all_map, List.all_eq_true]
  intro b _
  exact lmW_ents b
/-- The product of a word's letters, if its numbers are not too great. -/
def matW (s : ByteArray) : Option M := prodFrom M.one (msW s s.size)
set_option maxRecDepth 8000 in
set_option maxHeartbeats 2000000 in
theorem ofWord_any (s : ByteArray) (w : World) (hs : s.size ≤ 400) (hall : ∀ j (h : j < s.size), LT1 s[j]) :
    Calls Try.prog 18 #[.string s] w fun e w' => e = .returned (prodRes (matW s)) ∧ Below w.heap.size w w' := by
  have HINF := Lib.hid (info_parts infoMW)
  have HA := Lib.hid hall
  have HM := Lib.hid (show matW s = prodFrom M.one (msW s s.size) from rfl)
  obtain ⟨r, cd, hrc⟩ := prodRes_formW (matW s)
  rw [hrc]
  have HRC := Lib.hid hrc
  clear hall hrc
  go_enter Try.func18, Try.ntmps18
  go_wp2_with fail
  refine forget (fun W_ => OwnK encMW 30 W_ (w.heap.size + 1) (.slice (some ⟨w.heap.size + 1, 0, none⟩) 0 0) [] ∧ Blk W_ w.heap.size 30 (mcs ⟨0, 0, 0, 0⟩) ∧ Below w.heap.size w W_) ⟨OwnK.of_blk (xs := []) (cs := #[]) (Blk.new (by simp)) (Nat.le_refl _) rfl (by simp [maxLen]), (by repeat (first | (with_reducible assumption) | ((with_reducible refine Blk.new ?_); · first | omega | (simp; done) | (simp; omega)) | (with_reducible apply Blk.set4) | (with_reducible apply Blk.set3) | (with_reducible apply Blk.set2) | ((with_reducible refine Blk.put ?_ ?_); · first | omega | (simp; omega)) | (with_reducible refine Blk.old ?_) | (with_reducible refine Blk.drew ?_) | (with_reducible refine Blk.drewN ?_) | ((with_reducible refine Blk.below hb ?_ ?_); · first | omega | (simp; done) | (simp; omega)))), (by repeat (first | (with_reducible exact Below.refl _ _) | (with_reducible assumption) | (with_reducible refine Below.drew ?_) | (with_reducible refine Below.drewN ?_) | ((with_reducible refine Below.al ?_ ?_); · first | omega | (simp; done) | (simp; omega)) | ((with_reducible refine Below.sc ?_ ?_); · first | omega | (simp; done) | (simp; omega)) | ((with_reducible refine Below.thru hb ?_ ?_); · first | omega | (simp; done) | (simp; omega))))⟩ ?_
  rintro w0 ⟨O0, B0, k0⟩
  go_loopw [4, 9] (fun v kk wr => ∃ (k g c : Nat), k ≤ s.size ∧ kk = .int .i64 k ∧ v = .slice (some ⟨g, 0, none⟩) k c ∧ OwnK encMW 30 wr (w.heap.size + 1) (.slice (some ⟨g, 0, none⟩) k c) (msW s k) ∧ Blk wr w.heap.size 30 (mcs ⟨0, 0, 0, 0⟩) ∧ Below w.heap.size w wr) (fun _ kk _ => s.size - (intOf kk).toNat)
  case atStart => exact ⟨0, _, _, Nat.zero_le _, rfl, rfl, O0, B0, k0⟩
  case round =>
    clear O0 B0 k0
    obtain ⟨k, g, c, hk, rfl, rfl, O, B, kwr⟩ := hrel
    have swr := kwr.size
    have lB := B.lt
    by_cases hlt : k < s.size
    · have i0 : (0 : Int) ≤ (k : Int) := by omega
      have i1 : (k : Int) < (s.size : Int) := by omega
      have HX := Lib.hid (msW_succ s hlt)
      have HLT := Lib.hid (fun w' => letter_any s[k] w' (HA.out k hlt))
      obtain ⟨jM, hinf⟩ := HINF.out
      replace hinf := Lib.hid hinf
      have HL := Lib.hid (msW_len s hk)
      go_wp2_with fail
      refine (HLT.out _).mono ?_
      rintro e w4 ⟨rfl, hb4⟩
      have O4 := O.below hb4
      have B4 := Blk.below hb4 lB B
      have k4 : Below w.heap.size w w4 := kwr.trans (hb4.mono swr)
      have s4 := k4.size
      have u4 := hb4.size
      clear hb4 O B kwr
      generalize lmW s[k] = lm at *
      obtain ⟨ma, mb, mc, md⟩ := lm
      go_wp2_with (at_builtin; refine wpList_app encMW rfl _ _ 66 30 32 rfl Try.underlying66 jM _ hinf.out.1 hinf.out.2.1 hinf.out.2.2.1 hinf.out.2.2.2 rfl (.slice (some ⟨g, 0, none⟩) k c) (msW s k) (w.heap.size + 1) w4.heap.size 1 #[.int .i64 ma, .int .i64 mb, .int .i64 mc, .int .i64 md] [⟨ma, mb, mc, md⟩] rfl ?o1 rfl ?b1 rfl ?l1 ?l2 (by simp; omega) ?_)
      case o1 => exact O4.alloc
      case b1 => exact Blk.new (by simp)
      case l1 => (try simp only [List.length_cons, List.length_nil]); have := HL.out; unfold maxLen; omega
      case l2 => (try simp only [List.length_cons, List.length_nil]); have := HL.out; omega
      intro v' w5 O5 hg
      rw [← HX.out] at O5
      have B5 : Blk w5 w.heap.size 30 (mcs ⟨0, 0, 0, 0⟩) := Blk.grownK hg (e := encMW) (E := 30) (B := w.heap.size + 1) (xs := msW s k) O4.alloc (by omega) (Blk.old B4)
      have k5 : Below w.heap.size w w5 := Below.grownK hg (e := encMW) (E := 30) (B := w.heap.size + 1) (xs := msW s k) O4.alloc (by omega) (by simp; omega) (by repeat (first | (with_reducible exact Below.refl _ _) | (with_reducible assumption) | (with_reducible refine Below.drew ?_) | (with_reducible refine Below.drewN ?_) | ((with_reducible refine Below.al ?_ ?_); · first | omega | (simp; done) | (simp; omega)) | ((with_reducible refine Below.sc ?_ ?_); · first | omega | (simp; done) | (simp; omega)) | ((with_reducible refine Below.thru hb ?_ ?_); · first | omega | (simp; done) | (simp; omega))))
      rcases O5.form with ⟨-, h2⟩ | ⟨g', c', h1, -⟩
      · rw [HX.out] at h2; simp at h2
      rw [msW_len s hlt] at h1
      subst h1
      clear hg
      go_wp2
      go_roundw
      case rel => exact ⟨k + 1, g', c', by omega, by go_num, rfl, O5, B5, k5⟩
      case measure => simp [intOf]; omega
    · obtain rfl : k = s.size := by omega
      have HR := Lib.hid O.mrowW
      have hle : (msW s s.size).length ≤ 1000000 := by rw [msW_len s (Nat.le_refl _)]; omega
      have HE := Lib.hid (msW_ents s s.size)
      have HC := Lib.hid (fun (w' : World) (hx : MRow w' g 0 (msW s s.size)) => product_any g 0 c (msW s s.size) w' hle hx HE.out)
      rw [← HM.out, msW_len s (Nat.le_refl _)] at HC
      rw [HRC.out] at HC
      clear hle O
      go_wp2_with fail
      refine (HC.out _ HR.out).mono ?_
      rintro e w6 ⟨rfl, hb⟩
      have B6 : Blk w6 w.heap.size 30 (mcs ⟨0, 0, 0, 0⟩) := (by repeat (first | (with_reducible assumption) | ((with_reducible refine Blk.new ?_); · first | omega | (simp; done) | (simp; omega)) | (with_reducible apply Blk.set4) | (with_reducible apply Blk.set3) | (with_reducible apply Blk.set2) | ((with_reducible refine Blk.put ?_ ?_); · first | omega | (simp; omega)) | (with_reducible refine Blk.old ?_) | (with_reducible refine Blk.drew ?_) | (with_reducible refine Blk.drewN ?_) | ((with_reducible refine Blk.below hb ?_ ?_); · first | omega | (simp; done) | (simp; omega))))
      have k6 : Below w.heap.size w w6 := (by repeat (first | (with_reducible exact Below.refl _ _) | (with_reducible assumption) | (with_reducible refine Below.drew ?_) | (with_reducible refine Below.drewN ?_) | ((with_reducible refine Below.al ?_ ?_); · first | omega | (simp; done) | (simp; omega)) | ((with_reducible refine Below.sc ?_ ?_); · first | omega | (simp; done) | (simp; omega)) | ((with_reducible refine Below.thru hb ?_ ?_); · first | omega | (simp; done) | (simp; omega))))
      have b6 := B6.m
      have f6 := B6.mf
      have lB6 := B6.lt
      clear hb
      go_wp2
      refine ret_at (v := .tuple #[mv r, .int .i64 cd]) (fun w' => Blk w' (w.heap.size) 30 (mcs r)) (by repeat (first | (with_reducible assumption) | ((with_reducible refine Blk.new ?_); · first | omega | (simp; done) | (simp; omega)) | (with_reducible apply Blk.set4) | (with_reducible apply Blk.set3) | (with_reducible apply Blk.set2) | ((with_reducible refine Blk.put ?_ ?_); · first | omega | (simp; omega)) | (with_reducible refine Blk.old ?_) | (with_reducible refine Blk.drew ?_) | (with_reducible refine Blk.drewN ?_) | ((with_reducible refine Blk.below hb ?_ ?_); · first | omega | (simp; done) | (simp; omega)))) (fun w' hB => by have q := hB.m; simp [results, Try.results18, go_sem, q]) rfl ?_
      exact ⟨rfl, (by repeat (first | (with_reducible exact Below.refl _ _) | (with_reducible assumption) | (with_reducible refine Below.drew ?_) | (with_reducible refine Below.drewN ?_) | ((with_reducible refine Below.al ?_ ?_); · first | omega | (simp; done) | (simp; omega)) | ((with_reducible refine Below.sc ?_ ?_); · first | omega | (simp; done) | (simp; omega)) | ((with_reducible refine Below.thru hb ?_ ?_); · first | omega | (simp; done) | (simp; omega))))⟩
/-- A word of L and T, not long. -/
def WordLT (s : ByteArray) : Prop := s.size ≤ 8 ∧ ∀ j (h : j < s.size), LT1 s[j]
theorem wordLT_B {s : ByteArray} (h : WordLT s) : wordB s = true := by
  have hw : wordTo s s.size := fun j hj _ => by
    rcases h.2 j hj with e | e <;> rw [e] <;> decide
  rw [wordB_all hw]
  exact decide_eq_true (by have := h.1; omega)
set_option maxRecDepth 8000 in
set_option maxHeartbeats 1000000 in
theorem MatrixOfWord_any (s : ByteArray) (w : World) (h : WordLT s) : Calls Try.prog 7 #[.string s] w fun e w' => e = .returned (prodRes (matW s)) ∧ Below w.heap.size w w' := by
  have hs := h.1
  have HF := Lib.hid (fun w' => isWord_any s w' (by omega))
  rw [wordLT_B h] at HF
  have HO := Lib.hid (fun w' => ofWord_any s w' (by omega) h.2)
  obtain ⟨r, cd, hrc⟩ := prodRes_formW (matW s)
  rw [hrc] at HO ⊢
  clear hrc
  go_enter Try.func7, Try.ntmps7
  go_wp2_with fail
  refine (HF.out _).mono ?_
  rintro e w1 ⟨rfl, hb1⟩
  have B1 : Blk w1 w.heap.size 30 (mcs ⟨0, 0, 0, 0⟩) := Blk.below hb1 (by simp) (Blk.new rfl)
  have k1 : Below w.heap.size w w1 := ((Below.refl w.heap.size w).alloc (Nat.le_refl _) _).trans (hb1.mono (by simp))
  have s1 := k1.size
  have l1 := B1.lt
  clear hb1
  go_wp2_with fail
  refine (HO.out _).mono ?_
  rintro e w2 ⟨rfl, hb⟩
  have B2 : Blk w2 w.heap.size 30 (mcs ⟨0, 0, 0, 0⟩) := (by repeat (first | (with_reducible assumption) | ((with_reducible refine Blk.new ?_); · first | omega | (simp; done) | (simp; omega)) | (with_reducible apply Blk.set4) | (with_reducible apply Blk.set3) | (with_reducible apply Blk.set2) | ((with_reducible refine Blk.put ?_ ?_); · first | omega | (simp; omega)) | (with_reducible refine Blk.old ?_) | (with_reducible refine Blk.drew ?_) | (with_reducible refine Blk.drewN ?_) | ((with_reducible refine Blk.below hb ?_ ?_); · first | omega | (simp; done) | (simp; omega))))
  have k2 : Below w.heap.size w w2 := (by repeat (first | (with_reducible exact Below.refl _ _) | (with_reducible assumption) | (with_reducible refine Below.drew ?_) | (with_reducible refine Below.drewN ?_) | ((with_reducible refine Below.al ?_ ?_); · first | omega | (simp; done) | (simp; omega)) | ((with_reducible refine Below.sc ?_ ?_); · first | omega | (simp; done) | (simp; omega)) | ((with_reducible refine Below.thru hb ?_ ?_); · first | omega | (simp; done) | (simp; omega))))
  have q0 := B2.m
  have q1 := B2.mf
  have l2 := B2.lt
  clear hb
  go_wp2
  refine ret_at (v := .tuple #[mv r, .int .i64 cd]) (fun w' => Blk w' (w.heap.size) 30 (mcs r)) (by repeat (first | (with_reducible assumption) | ((with_reducible refine Blk.new ?_); · first | omega | (simp; done) | (simp; omega)) | (with_reducible apply Blk.set4) | (with_reducible apply Blk.set3) | (with_reducible apply Blk.set2) | ((with_reducible refine Blk.put ?_ ?_); · first | omega | (simp; omega)) | (with_reducible refine Blk.old ?_) | (with_reducible refine Blk.drew ?_) | (with_reducible refine Blk.drewN ?_) | ((with_reducible refine Blk.below hb ?_ ?_); · first | omega | (simp; done) | (simp; omega)))) (fun w' hB => by have q := hB.m; simp [results, Try.results7, go_sem, q]) rfl ?_
  exact ⟨rfl, (by repeat (first | (with_reducible exact Below.refl _ _) | (with_reducible assumption) | (with_reducible refine Below.drew ?_) | (with_reducible refine Below.drewN ?_) | ((with_reducible refine Below.al ?_ ?_); · first | omega | (simp; done) | (simp; omega)) | ((with_reducible refine Below.sc ?_ ?_); · first | omega | (simp; done) | (simp; omega)) | ((with_reducible refine Below.thru hb ?_ ?_); · first | omega | (simp; done) | (simp; omega))))⟩

end Go.Proofs.Ytjpkopnkfpgahaa
