import Derived.Ground.NamesProg
import Derived.Shelf.Strings.Repeat
import Derived.Test.YtjpkopnkfpgahaaProg
import Derived.Test.YtjpkopnkfpgahaaQ20
import Derived.KernelRfl
/-
  DERIVED: THE SHELF's CONTRACTS AT THIS DUMP, IN PLAIN WORDS (tools/lay-plain.mjs out of 'YtjpkopnkfpgahaaShelfRep.lean', which tools/lay-shelf.mjs wrote): THE SAME DECLARATIONS UNDER THE SAME NAMES: 'import', 'namespace', 'open', 'def', 'theorem' AND NOTHING ELSE: no command of the shelf's: FOR A HAND-IN. Each laying: the table of numbers ('.._ren') and one theorem, a field a fact of the dump's own or the kernel's comparison; each contract: ONE APPLICATION.
-/
namespace Go.Proofs
open Go.Shelf
def Try.lays105_ren : Go.Shelf.Ren := ⟨fun | 105 => 24 | 212 => 46 | 99 => 47 | 165 => 48 | 166 => 49 | 170 => 50 | 169 => 51 | 263 => 68 | 264 => 69 | 206 => 70 | 240 => 71 | 241 => 72 | 276 => 75 | 277 => 76 | n => n, fun | 9 => 9 | 3 => 3 | 4 => 4 | 20 => 20 | 0 => 0 | 46 => 53 | 109 => 82 | 5 => 5 | 72 => 86 | 76 => 90 | 51 => 104 | 146 => 105 | 53 => 26 | 148 => 107 | 70 => 84 | 37 => 22 | 75 => 89 | 127 => 109 | 164 => 112 | 80 => 93 | n => n, fun | n => n⟩
theorem Try.lays105 : Go.Proofs.Lays.n105 Try.prog Try.lays105_ren := {
  mixed := by kernel_rfl
  f99 := Try.func47.trans (congrArg some (by kernel_rfl))
  f105 := Try.func24.trans (congrArg some (by kernel_rfl))
  f165 := Try.func48.trans (congrArg some (by kernel_rfl))
  f166 := Try.func49.trans (congrArg some (by kernel_rfl))
  f169 := Try.func51.trans (congrArg some (by kernel_rfl))
  f170 := Try.func50.trans (congrArg some (by kernel_rfl))
  f206 := Try.func70.trans (congrArg some (by kernel_rfl))
  f212 := Try.func46.trans (congrArg some (by kernel_rfl))
  f240 := Try.func71.trans (congrArg some (by kernel_rfl))
  f241 := Try.func72.trans (congrArg some (by kernel_rfl))
  f263 := Try.func68.trans (congrArg some (by kernel_rfl))
  f264 := Try.func69.trans (congrArg some (by kernel_rfl))
  f276 := Try.func75.trans (congrArg some (by kernel_rfl))
  f277 := Try.func76.trans (congrArg some (by kernel_rfl))
  t0 := Try.underlying0
  a0 := Try.isAgg0
  z0 := Try.sizeOf0
  v0 := Try.zeroValue0
  t3 := Try.underlying3
  a3 := Try.isAgg3
  z3 := Try.sizeOf3
  v3 := Try.zeroValue3
  t4 := Try.underlying4
  a4 := Try.isAgg4
  z4 := Try.sizeOf4
  v4 := Try.zeroValue4
  t5 := Try.underlying5
  a5 := Try.isAgg5
  z5 := Try.sizeOf5
  v5 := Try.zeroValue5
  t9 := Try.underlying9
  a9 := Try.isAgg9
  z9 := Try.sizeOf9
  v9 := Try.zeroValue9
  t20 := Try.underlying20
  a20 := Try.isAgg20
  z20 := Try.sizeOf20
  v20 := Try.zeroValue20
  t37 := Try.underlying22
  a37 := Try.isAgg22
  z37 := Try.sizeOf22
  v37 := Try.zeroValue22
  t46 := Try.underlying53
  a46 := Try.isAgg53
  z46 := Try.sizeOf53
  v46 := Try.zeroValue53
  t51 := Try.underlying104
  a51 := Try.isAgg104
  z51 := Try.sizeOf104
  v51 := Try.zeroValue104
  t53 := Try.underlying26
  a53 := Try.isAgg26
  z53 := Try.sizeOf26
  v53 := Try.zeroValue26
  t70 := Try.underlying84
  a70 := Try.isAgg84
  z70 := Try.sizeOf84
  v70 := Try.zeroValue84
  t72 := Try.underlying86
  a72 := Try.isAgg86
  z72 := Try.sizeOf86
  v72 := Try.zeroValue86
  t75 := Try.underlying89
  a75 := Try.isAgg89
  z75 := Try.sizeOf89
  v75 := Try.zeroValue89
  t76 := Try.underlying90
  a76 := Try.isAgg90
  z76 := Try.sizeOf90
  v76 := Try.zeroValue90
  t109 := Try.underlying82
  a109 := Try.isAgg82
  z109 := Try.sizeOf82
  v109 := Try.zeroValue82
  t127 := Try.underlying109
  a127 := Try.isAgg109
  z127 := Try.sizeOf109
  v127 := Try.zeroValue109
  t146 := Try.underlying105
  a146 := Try.isAgg105
  z146 := Try.sizeOf105
  v146 := Try.zeroValue105
  t148 := Try.underlying107
  a148 := Try.isAgg107
  z148 := Try.sizeOf107
  v148 := Try.zeroValue107
  t164 := Try.underlying112
  a164 := Try.isAgg112
  z164 := Try.sizeOf112
  v164 := Try.zeroValue112 }
end Go.Proofs

/- The positive word of a matrix: the program's walk. -/
namespace Go.Proofs.Ytjpkopnkfpgahaa
open Go.RowKit Go.Shelf
set_option linter.unusedSimpArgs false

theorem repExtra : Builder.Extra Try.prog Try.lays105_ren where
  sizeBuilder := by kernel_rfl
  liesBuilder := by kernel_rfl
  t5 := Try.lays105.t5
  a5 := Try.lays105.a5
  z5 := Try.lays105.z5
  v5 := Try.lays105.v5
  infoByte := by kernel_rfl
  cellsByte := by kernel_rfl
  sizeByte := by kernel_rfl
  neB5 := by decide
theorem repeatL_one (b : UInt8) (c : Nat) : Go.Lib.repeatL [b] c = List.replicate c b := by
  induction c with
  | zero => rfl
  | succ c ih => rw [Go.Lib.repeatL, ih]; rfl
theorem repeat_any (b : UInt8) (c : Nat) (w : World) (hc : c ≤ 1000) :
    Calls Try.prog 24 #[.string ⟨#[b]⟩, .int .i64 (c : Int)] w fun e w' => e = .returned (.string ⟨(List.replicate c b).toArray⟩) ∧ Below w.heap.size w w' := by
  have := Any.strings_Repeat Try.lays105 repExtra ⟨#[b]⟩ c w (by omega) (by show 1 * c ≤ _; omega)
  rw [show (⟨#[b]⟩ : ByteArray).data.toList = [b] from rfl, repeatL_one] at this
  exact this
theorem bytes_app {a b : List UInt8} : (⟨a.toArray⟩ : ByteArray) ++ ⟨b.toArray⟩ = ⟨(a ++ b).toArray⟩ := by
  apply ByteArray.ext
  simp
/-- The word of runs. -/
def wdK (ns : List Int) : Nat → List UInt8
  | 0 => []
  | k + 1 => wdK ns k ++ List.replicate (ns.getD k 0).toNat (if k % 2 = 0 then 84 else 76)
theorem min4 {P : Program} (a b c d : Int) (ha : 0 ≤ a) (hb : 0 ≤ b) (hc : 0 ≤ c) (hd : 0 ≤ d) (ts : Array TypeId) (t : TypeId) : ∃ X : Int, 0 ≤ X ∧ ∀ w : World, (Builtin.min_ ts t #[.int .i64 a, .int .i64 b, .int .i64 c, .int .i64 d]).run P w = .ok (.int .i64 X) w := by
  refine ⟨if d < (if c < (if b < a then b else a) then c else (if b < a then b else a)) then d else (if c < (if b < a then b else a) then c else (if b < a then b else a)), ?_, fun w => by simp [Builtin.min_, Builtin.min2]⟩
  repeat' split
  all_goals omega
set_option maxRecDepth 8000 in
set_option maxHeartbeats 1000000 in
theorem isPositive_any (m : M) (w : World) (hp : 0 ≤ m.a ∧ 0 ≤ m.b ∧ 0 ≤ m.c ∧ 0 ≤ m.d) :
    Calls Try.prog 43 #[mv m] w fun e w' => e = .returned (.bool true) ∧ Below w.heap.size w w' := by
  obtain ⟨X, hX, hmin⟩ := min4 (P := Try.prog) m.a m.b m.c m.d hp.1 hp.2.1 hp.2.2.1 hp.2.2.2 #[2, 2, 2, 2] 2
  clear hp
  go_enter Try.func43, Try.ntmps43
  go_wp2
  go_ret
  exact ⟨rfl, (by repeat (first | (with_reducible exact Below.refl _ _) | (with_reducible assumption) | (with_reducible refine Below.drew ?_) | (with_reducible refine Below.drewN ?_) | ((with_reducible refine Below.al ?_ ?_); · first | omega | (simp; done) | (simp; omega)) | ((with_reducible refine Below.sc ?_ ?_); · first | omega | (simp; done) | (simp; omega)) | ((with_reducible refine Below.thru hb ?_ ?_); · first | omega | (simp; done) | (simp; omega)) | ((with_reducible refine Below.thru hb4 ?_ ?_); · first | omega | (simp; done) | (simp; omega)) | ((with_reducible refine Below.thru hb5 ?_ ?_); · first | omega | (simp; done) | (simp; omega))))⟩
set_option maxRecDepth 8000 in
set_option maxHeartbeats 1000000 in
theorem positiveCode_any (m : M) (w : World) (h : m.ok = true) (hp : 0 ≤ m.a ∧ 0 ≤ m.b ∧ 0 ≤ m.c ∧ 0 ≤ m.d) :
    Calls Try.prog 22 #[mv m] w fun e w' => e = .returned (.int .i64 0) ∧ Below w.heap.size w w' := by
  have HI := Lib.hid (fun w' => IsMatrix_any m w')
  rw [h] at HI
  clear h
  have HP := Lib.hid (fun w' => isPositive_any m w' hp)
  go_enter Try.func22, Try.ntmps22
  go_wp2_with fail
  refine (HI.out _).mono ?_
  rintro e w1 ⟨rfl, hb⟩
  have B1 : Blk w1 (w.heap.size) 30 (mcs m) := (by repeat (first | (with_reducible assumption) | ((with_reducible refine Blk.new ?_); · first | omega | (simp; done) | (simp; omega)) | (with_reducible apply Blk.set4) | (with_reducible apply Blk.set3) | (with_reducible apply Blk.set2) | ((with_reducible refine Blk.put ?_ ?_); · first | omega | (simp; omega)) | (with_reducible refine Blk.old ?_) | (with_reducible refine Blk.drew ?_) | (with_reducible refine Blk.drewN ?_) | ((with_reducible refine Blk.below hb ?_ ?_); · first | omega | (simp; done) | (simp; omega)) | ((with_reducible refine Blk.below hb4 ?_ ?_); · first | omega | (simp; done) | (simp; omega)) | ((with_reducible refine Blk.below hb5 ?_ ?_); · first | omega | (simp; done) | (simp; omega))))
  have lB1 := B1.lt
  have kw1 : Below w.heap.size w w1 := (by repeat (first | (with_reducible exact Below.refl _ _) | (with_reducible assumption) | (with_reducible refine Below.drew ?_) | (with_reducible refine Below.drewN ?_) | ((with_reducible refine Below.al ?_ ?_); · first | omega | (simp; done) | (simp; omega)) | ((with_reducible refine Below.sc ?_ ?_); · first | omega | (simp; done) | (simp; omega)) | ((with_reducible refine Below.thru hb ?_ ?_); · first | omega | (simp; done) | (simp; omega)) | ((with_reducible refine Below.thru hb4 ?_ ?_); · first | omega | (simp; done) | (simp; omega)) | ((with_reducible refine Below.thru hb5 ?_ ?_); · first | omega | (simp; done) | (simp; omega))))
  have sw1 := kw1.size
  clear hb
  have q1 := B1.m
  go_wp2_with fail
  refine (HP.out _).mono ?_
  rintro e w2 ⟨rfl, hb⟩
  have k2 : Below w.heap.size w w2 := (by repeat (first | (with_reducible exact Below.refl _ _) | (with_reducible assumption) | (with_reducible refine Below.drew ?_) | (with_reducible refine Below.drewN ?_) | ((with_reducible refine Below.al ?_ ?_); · first | omega | (simp; done) | (simp; omega)) | ((with_reducible refine Below.sc ?_ ?_); · first | omega | (simp; done) | (simp; omega)) | ((with_reducible refine Below.thru hb ?_ ?_); · first | omega | (simp; done) | (simp; omega)) | ((with_reducible refine Below.thru hb4 ?_ ?_); · first | omega | (simp; done) | (simp; omega)) | ((with_reducible refine Below.thru hb5 ?_ ?_); · first | omega | (simp; done) | (simp; omega))))
  clear hb
  go_wp2
  go_ret
  exact ⟨rfl, (by repeat (first | (with_reducible exact Below.refl _ _) | (with_reducible assumption) | (with_reducible refine Below.drew ?_) | (with_reducible refine Below.drewN ?_) | ((with_reducible refine Below.al ?_ ?_); · first | omega | (simp; done) | (simp; omega)) | ((with_reducible refine Below.sc ?_ ?_); · first | omega | (simp; done) | (simp; omega)) | ((with_reducible refine Below.thru hb ?_ ?_); · first | omega | (simp; done) | (simp; omega)) | ((with_reducible refine Below.thru hb4 ?_ ?_); · first | omega | (simp; done) | (simp; omega)) | ((with_reducible refine Below.thru hb5 ?_ ?_); · first | omega | (simp; done) | (simp; omega))))⟩
set_option maxRecDepth 8000 in
set_option maxHeartbeats 2000000 in
theorem PositiveWord_any (m : M) (r : Nat) (ns : List Int) (w : World) (h : m.ok = true) (hp : 0 ≤ m.a ∧ 0 ≤ m.b ∧ 0 ≤ m.c ∧ 0 ≤ m.d) (hrn : rnF r m true = some ns) (hr : r ≤ 100) (hl : ns.length ≤ 100) (hK : ∀ k, k < ns.length → 0 ≤ ns.getD k 0 ∧ (wdK ns k).length + (ns.getD k 0).toNat ≤ 200) :
    Calls Try.prog 9 #[mv m] w fun e w' => e = .returned (.tuple #[.string ⟨(wdK ns ns.length).toArray⟩, .int .i64 0]) ∧ Below w.heap.size w w' := by
  have HP := Lib.hid (fun w' => positiveCode_any m w' h hp)
  have HR := Lib.hid (fun w' => runs_any m r ns w' hrn hr)
  have HK := Lib.hid hK
  clear h hp hrn hr hK
  go_enter Try.func9, Try.ntmps9
  go_wp2_with fail
  refine (HP.out _).mono ?_
  rintro e w1 ⟨rfl, hb⟩
  have B1 : Blk w1 (w.heap.size) 30 (mcs m) := (by repeat (first | (with_reducible assumption) | ((with_reducible refine Blk.new ?_); · first | omega | (simp; done) | (simp; omega)) | (with_reducible apply Blk.set4) | (with_reducible apply Blk.set3) | (with_reducible apply Blk.set2) | ((with_reducible refine Blk.put ?_ ?_); · first | omega | (simp; omega)) | (with_reducible refine Blk.old ?_) | (with_reducible refine Blk.drew ?_) | (with_reducible refine Blk.drewN ?_) | ((with_reducible refine Blk.below hb ?_ ?_); · first | omega | (simp; done) | (simp; omega)) | ((with_reducible refine Blk.below hb4 ?_ ?_); · first | omega | (simp; done) | (simp; omega)) | ((with_reducible refine Blk.below hb5 ?_ ?_); · first | omega | (simp; done) | (simp; omega))))
  have lB1 := B1.lt
  have kw1 : Below w.heap.size w w1 := (by repeat (first | (with_reducible exact Below.refl _ _) | (with_reducible assumption) | (with_reducible refine Below.drew ?_) | (with_reducible refine Below.drewN ?_) | ((with_reducible refine Below.al ?_ ?_); · first | omega | (simp; done) | (simp; omega)) | ((with_reducible refine Below.sc ?_ ?_); · first | omega | (simp; done) | (simp; omega)) | ((with_reducible refine Below.thru hb ?_ ?_); · first | omega | (simp; done) | (simp; omega)) | ((with_reducible refine Below.thru hb4 ?_ ?_); · first | omega | (simp; done) | (simp; omega)) | ((with_reducible refine Below.thru hb5 ?_ ?_); · first | omega | (simp; done) | (simp; omega))))
  have sw1 := kw1.size
  clear hb
  have q1 := B1.m
  go_wp2_with fail
  refine (HR.out _).mono ?_
  rintro e w2 ⟨v, rfl, O, hb⟩
  have k2 : Below w.heap.size w w2 := kw1.trans (hb.mono sw1)
  have s2 := hb.size
  obtain ⟨vo, vc, rfl, hx⟩ := O.slIn.form
  obtain ⟨N, hNe⟩ : ∃ N, ns.length = N := ⟨_, rfl⟩
  have HX := Lib.hid hx
  have HNE := Lib.hid hNe
  rw [hNe] at HK hl ⊢
  clear hx hNe O hb
  go_wp2_with fail
  go_loopw [2, 3, 5, 16] (fun v2 v3 v5 vi wr => ∃ (k : Nat) (W : ByteArray), k ≤ N ∧ v2 = .string ⟨#[]⟩ ∧ v3 = .int .i64 0 ∧ v5 = .string W ∧ vi = .int .i64 (k : Int) ∧ Hid (W = ⟨(wdK ns k).toArray⟩) ∧ Below w.heap.size w wr ∧ Below w2.heap.size w2 wr) (fun _ _ _ vi _ => N - (intOf vi).toNat)
  case atStart => exact ⟨0, ⟨#[]⟩, Nat.zero_le _, rfl, rfl, rfl, rfl, Lib.hid rfl, k2, Below.refl _ _⟩
  case round =>
    obtain ⟨k, W, hk, rfl, rfl, rfl, rfl, HW, kwr, kwr2⟩ := hrel
    have swr := kwr.size
    by_cases hlt : k < N
    · obtain ⟨va, rfl, hx⟩ := HX.out (by rw [HNE.out]; omega)
      have hc := hx k (by rw [HNE.out]; exact hlt)
      have hc1 := (kwr2.cell (block_lt_of_cell hc :)).trans hc
      have hkk := HK.out k hlt
      rw [show ns[k]'(by rw [HNE.out]; exact hlt) = ns.getD k 0 by rw [List.getD_eq_getElem?_getD, List.getElem?_eq_getElem (by rw [HNE.out]; exact hlt)]; rfl] at hc1
      obtain ⟨c, hce⟩ := Int.eq_ofNat_of_zero_le hkk.1
      have HNX := Lib.hid (show wdK ns (k + 1) = wdK ns k ++ List.replicate c (if k % 2 = 0 then 84 else 76) by rw [wdK, hce, Int.toNat_natCast])
      rw [hce] at hc1 hkk
      rw [Int.toNat_natCast] at hkk
      have hWs : W.size = (wdK ns k).length := by rw [HW.out]; simp [ByteArray.size]
      have hsum : W.size + c ≤ 200 := by rw [hWs]; exact hkk.2
      have i0 : (0 : Int) ≤ (k : Int) := by omega
      have i1 : (k : Int) < (N : Int) := by omega
      clear hx hc hkk hce hWs
      by_cases hp : k % 2 = 0
      · have hpi : (k : Int) % 2 = 0 := by omega
        have HRP := Lib.hid (fun w' => repeat_any 84 c w' (by omega))
        rw [if_pos hp] at HNX
        clear hp
        go_wp2_with fail
        rw [show (⟨#[84, 76]⟩ : ByteArray).extract 0 1 = ⟨#[84]⟩ from rfl]
        refine (HRP.out _).mono ?_
        rintro e w3 ⟨rfl, hb3⟩
        have k3 : Below w.heap.size w w3 := kwr.trans (hb3.mono swr)
        have k32 : Below w2.heap.size w2 w3 := kwr2.trans (hb3.mono kwr2.size)
        clear hb3 kwr kwr2
        have hRs : (⟨(List.replicate c 84).toArray⟩ : ByteArray).size = c := by simp [ByteArray.size]
        have HAP := Lib.hid (bytes_app (a := wdK ns k) (b := List.replicate c 84))
        rw [← HNX.out] at HAP
        generalize (⟨(List.replicate c 84).toArray⟩ : ByteArray) = R at *
        have hov : ¬ 9223372036854775807 < W.size + R.size := by omega
        clear hRs
        go_wp2
        go_roundw
        case rel => exact ⟨k + 1, W ++ R, by omega, rfl, rfl, rfl, by go_num, Lib.hid (by rw [HW.out]; exact HAP.out), k3, k32⟩
        case measure => simp [intOf]; omega
      · have hpi : (k : Int) % 2 = 1 := by omega
        have HRP := Lib.hid (fun w' => repeat_any 76 c w' (by omega))
        rw [if_neg hp] at HNX
        clear hp
        go_wp2_with fail
        rw [show (⟨#[84, 76]⟩ : ByteArray).extract 1 2 = ⟨#[76]⟩ from rfl]
        refine (HRP.out _).mono ?_
        rintro e w3 ⟨rfl, hb3⟩
        have k3 : Below w.heap.size w w3 := kwr.trans (hb3.mono swr)
        have k32 : Below w2.heap.size w2 w3 := kwr2.trans (hb3.mono kwr2.size)
        clear hb3 kwr kwr2
        have hRs : (⟨(List.replicate c 76).toArray⟩ : ByteArray).size = c := by simp [ByteArray.size]
        have HAP := Lib.hid (bytes_app (a := wdK ns k) (b := List.replicate c 76))
        rw [← HNX.out] at HAP
        generalize (⟨(List.replicate c 76).toArray⟩ : ByteArray) = R at *
        have hov : ¬ 9223372036854775807 < W.size + R.size := by omega
        clear hRs
        go_wp2
        go_roundw
        case rel => exact ⟨k + 1, W ++ R, by omega, rfl, rfl, rfl, by go_num, Lib.hid (by rw [HW.out]; exact HAP.out), k3, k32⟩
        case measure => simp [intOf]; omega
    · obtain rfl : k = N := by omega
      have he := HW.out
      clear HW
      go_wp2
      go_ret2
      exact ⟨by rw [HNE.out, ← he]; rfl, kwr⟩

end Go.Proofs.Ytjpkopnkfpgahaa

/- The matrix of a chain: the program's walk. -/
namespace Go.Proofs.Ytjpkopnkfpgahaa
open Go.RowKit
set_option linter.unusedSimpArgs false

set_option maxRecDepth 100000 in
set_option maxHeartbeats 1000000 in
theorem namedSW_any (w : World) :
    Calls Try.prog 54 #[.string ⟨#[83]⟩] w fun e w' => e = .returned (.tuple #[mv ⟨0, -1, 1, 0⟩, .bool true]) ∧ Below w.heap.size w w' := by
  go_enter Try.func54, Try.ntmps54
  go_wp2
  refine ret_at (v := .tuple #[mv ⟨0, -1, 1, 0⟩, .bool true]) (fun w' => Blk w' (w.heap.size) 30 (mcs ⟨0, -1, 1, 0⟩)) (by repeat (first | (with_reducible assumption) | ((with_reducible refine Blk.new ?_); · first | omega | (simp; done) | (simp; omega)) | (with_reducible apply Blk.set4) | (with_reducible apply Blk.set3) | (with_reducible apply Blk.set2) | ((with_reducible refine Blk.put ?_ ?_); · first | omega | (simp; omega)) | (with_reducible refine Blk.old ?_) | (with_reducible refine Blk.drew ?_) | (with_reducible refine Blk.drewN ?_) | ((with_reducible refine Blk.below hb ?_ ?_); · first | omega | (simp; done) | (simp; omega)) | ((with_reducible refine Blk.below hb4 ?_ ?_); · first | omega | (simp; done) | (simp; omega)) | ((with_reducible refine Blk.below hb5 ?_ ?_); · first | omega | (simp; done) | (simp; omega)))) (fun w' hB => by have q := hB.m; simp [results, Try.results54, go_sem, q]) rfl ?_
  exact ⟨rfl, (by repeat (first | (with_reducible exact Below.refl _ _) | (with_reducible assumption) | (with_reducible refine Below.drew ?_) | (with_reducible refine Below.drewN ?_) | ((with_reducible refine Below.al ?_ ?_); · first | omega | (simp; done) | (simp; omega)) | ((with_reducible refine Below.sc ?_ ?_); · first | omega | (simp; done) | (simp; omega)) | ((with_reducible refine Below.thru hb ?_ ?_); · first | omega | (simp; done) | (simp; omega)) | ((with_reducible refine Below.thru hb4 ?_ ?_); · first | omega | (simp; done) | (simp; omega)) | ((with_reducible refine Below.thru hb5 ?_ ?_); · first | omega | (simp; done) | (simp; omega))))⟩
set_option maxRecDepth 100000 in
set_option maxHeartbeats 1000000 in
theorem letterS_any (w : World) :
    Calls Try.prog 29 #[.int .u8 83] w fun e w' => e = .returned (mv ⟨0, -1, 1, 0⟩) ∧ Below w.heap.size w w' := by
  go_enter Try.func29, Try.ntmps29
  go_wp2_with fail
  rw [show Utf8.encode 83 = (⟨#[83]⟩ : ByteArray) from rfl]
  go_wp2_with fail
  refine (namedSW_any _).mono ?_
  rintro e w1 ⟨rfl, hb⟩
  have B1 : Blk w1 (w.heap.size) 30 (mcs ⟨0, 0, 0, 0⟩) := (by repeat (first | (with_reducible assumption) | ((with_reducible refine Blk.new ?_); · first | omega | (simp; done) | (simp; omega)) | (with_reducible apply Blk.set4) | (with_reducible apply Blk.set3) | (with_reducible apply Blk.set2) | ((with_reducible refine Blk.put ?_ ?_); · first | omega | (simp; omega)) | (with_reducible refine Blk.old ?_) | (with_reducible refine Blk.drew ?_) | (with_reducible refine Blk.drewN ?_) | ((with_reducible refine Blk.below hb ?_ ?_); · first | omega | (simp; done) | (simp; omega)) | ((with_reducible refine Blk.below hb4 ?_ ?_); · first | omega | (simp; done) | (simp; omega)) | ((with_reducible refine Blk.below hb5 ?_ ?_); · first | omega | (simp; done) | (simp; omega))))
  have lB1 := B1.lt
  have kw1 : Below w.heap.size w w1 := (by repeat (first | (with_reducible exact Below.refl _ _) | (with_reducible assumption) | (with_reducible refine Below.drew ?_) | (with_reducible refine Below.drewN ?_) | ((with_reducible refine Below.al ?_ ?_); · first | omega | (simp; done) | (simp; omega)) | ((with_reducible refine Below.sc ?_ ?_); · first | omega | (simp; done) | (simp; omega)) | ((with_reducible refine Below.thru hb ?_ ?_); · first | omega | (simp; done) | (simp; omega)) | ((with_reducible refine Below.thru hb4 ?_ ?_); · first | omega | (simp; done) | (simp; omega)) | ((with_reducible refine Below.thru hb5 ?_ ?_); · first | omega | (simp; done) | (simp; omega))))
  have sw1 := kw1.size
  clear hb
  have q0 := B1.m
  have q1 := B1.mf
  go_wp2
  refine ret_at (v := mv ⟨0, -1, 1, 0⟩) (fun w' => Blk w' (w.heap.size) 30 (mcs ⟨0, -1, 1, 0⟩)) (by repeat (first | (with_reducible assumption) | ((with_reducible refine Blk.new ?_); · first | omega | (simp; done) | (simp; omega)) | (with_reducible apply Blk.set4) | (with_reducible apply Blk.set3) | (with_reducible apply Blk.set2) | ((with_reducible refine Blk.put ?_ ?_); · first | omega | (simp; omega)) | (with_reducible refine Blk.old ?_) | (with_reducible refine Blk.drew ?_) | (with_reducible refine Blk.drewN ?_) | ((with_reducible refine Blk.below hb ?_ ?_); · first | omega | (simp; done) | (simp; omega)) | ((with_reducible refine Blk.below hb4 ?_ ?_); · first | omega | (simp; done) | (simp; omega)) | ((with_reducible refine Blk.below hb5 ?_ ?_); · first | omega | (simp; done) | (simp; omega)))) (fun w' hB => by have q := hB.m; simp [results, Try.results29, go_sem, q]) rfl ?_
  exact ⟨rfl, (by repeat (first | (with_reducible exact Below.refl _ _) | (with_reducible assumption) | (with_reducible refine Below.drew ?_) | (with_reducible refine Below.drewN ?_) | ((with_reducible refine Below.al ?_ ?_); · first | omega | (simp; done) | (simp; omega)) | ((with_reducible refine Below.sc ?_ ?_); · first | omega | (simp; done) | (simp; omega)) | ((with_reducible refine Below.thru hb ?_ ?_); · first | omega | (simp; done) | (simp; omega)) | ((with_reducible refine Below.thru hb4 ?_ ?_); · first | omega | (simp; done) | (simp; omega)) | ((with_reducible refine Below.thru hb5 ?_ ?_); · first | omega | (simp; done) | (simp; omega))))⟩
/-- The factors of a chain. -/
def fcK (sg : Int) (qs : List Int) : Nat → List M
  | 0 => [⟨sg, 0, 0, sg⟩]
  | k + 1 => (if k = 0 then fcK sg qs k else fcK sg qs k ++ [⟨0, -1, 1, 0⟩]) ++ [⟨1, qs.getD k 0, 0, 1⟩]
theorem fcK_len (sg : Int) (qs : List Int) (k : Nat) : (fcK sg qs k).length ≤ 2 * k + 1 := by
  induction k with
  | zero => exact Nat.le_refl 1
  | succ k ih =>
    unfold fcK
    split
    · rw [List.length_append]; exact Nat.le_trans (Nat.add_le_add_right ih 1) (by omega)
    · rw [List.length_append, List.length_append]; exact Nat.le_trans (Nat.add_le_add_right (Nat.add_le_add_right ih 1) 1) (by omega)
theorem fcK_one (sg : Int) (qs : List Int) {k : Nat} (h : ¬ 0 < k) : fcK sg qs k ++ [⟨1, qs.getD k 0, 0, 1⟩] = fcK sg qs (k + 1) := by
  obtain rfl : k = 0 := by omega
  rfl
theorem fcK_more (sg : Int) (qs : List Int) {k : Nat} (h : 0 < k) : (fcK sg qs k ++ [⟨0, -1, 1, 0⟩]) ++ [⟨1, qs.getD k 0, 0, 1⟩] = fcK sg qs (k + 1) := by
  conv => rhs; unfold fcK
  rw [if_neg (by omega)]
set_option maxRecDepth 8000 in
set_option maxHeartbeats 4000000 in
theorem MatrixOfChain_any (sg : Int) (v : Value) (qs : List Int) (w : World) (hv : SlIn w .i64 v qs) (hsg : sg = 1 ∨ sg = -1) (h1 : 1 ≤ qs.length) (h2 : qs.length ≤ 50) (hq : qs.all entB = true) (he : (fcK sg qs qs.length).all M.ents = true) :
    Calls Try.prog 11 #[.int .i64 sg, v] w fun e w' => e = .returned (prodRes (prodFrom M.one (fcK sg qs qs.length))) ∧ Below w.heap.size w w' := by
  have HINF := Lib.hid (info_parts infoMW)
  obtain ⟨vo, vc, rfl, hx⟩ := hv.form
  obtain ⟨a, rfl, hx2⟩ := hx h1
  clear hx
  have hx := hx2
  clear hx2
  have HV := Lib.hid hv
  have HE := Lib.hid (fun w' hx => areEntries_any a vc qs w' (by omega) hx)
  rw [hq] at HE
  have HFE := Lib.hid he
  clear hq he
  have hcells : ∀ w' : World, Below w.heap.size w w' → ∀ j (h : j < qs.length), w'.cell? (a.add j) = some (.int .i64 qs[j]) := fun w' hb j h => (hb.cell (block_lt_of_cell (hx j h) :)).trans (hx j h)
  replace hcells := Lib.hid hcells
  have HSZ := Lib.hid (fun w' => size_any sg w' (by omega) (by omega))
  rw [show (sg.natAbs : Int) = 1 by omega] at HSZ
  obtain ⟨r, cd, hrc⟩ := prodRes_formW (prodFrom M.one (fcK sg qs qs.length))
  rw [hrc]
  have HRC := Lib.hid hrc
  clear hrc hx hv
  go_enter Try.func11, Try.ntmps11
  go_wp2_with fail
  refine (HSZ.out _).mono ?_
  rintro e w1 ⟨rfl, rfl⟩
  have i1 : ¬ (qs.length : Int) < 1 := by omega
  have i2 : ¬ 100 < (qs.length : Int) := by omega
  go_wp2_with fail
  refine (HE.out _ (hcells.out _ (by repeat (first | (with_reducible exact Below.refl _ _) | (with_reducible assumption) | (with_reducible refine Below.drew ?_) | (with_reducible refine Below.drewN ?_) | ((with_reducible refine Below.al ?_ ?_); · first | omega | (simp; done) | (simp; omega)) | ((with_reducible refine Below.sc ?_ ?_); · first | omega | (simp; done) | (simp; omega)) | ((with_reducible refine Below.thru hb ?_ ?_); · first | omega | (simp; done) | (simp; omega)) | ((with_reducible refine Below.thru hb4 ?_ ?_); · first | omega | (simp; done) | (simp; omega)) | ((with_reducible refine Below.thru hb5 ?_ ?_); · first | omega | (simp; done) | (simp; omega)))))).mono ?_
  rintro e w2 ⟨rfl, rfl⟩
  go_wp2_with fail
  refine forget (fun W_ => OwnK encMW 30 W_ (w.heap.size + 1) (.slice (some ⟨w.heap.size + 1, 0, none⟩) (fcK sg qs 0).length 1) (fcK sg qs 0) ∧ Blk W_ w.heap.size 30 (mcs ⟨0, 0, 0, 0⟩) ∧ Below w.heap.size w W_) ⟨OwnK.of_blk (e := encMW) (xs := [(⟨sg, 0, 0, sg⟩ : M)]) (cs := #[.int .i64 sg, .int .i64 0, .int .i64 0, .int .i64 sg]) (Blk.new (by simp)) (Nat.le_refl _) rfl (by simp [maxLen]), (by repeat (first | (with_reducible assumption) | ((with_reducible refine Blk.new ?_); · first | omega | (simp; done) | (simp; omega)) | (with_reducible apply Blk.set4) | (with_reducible apply Blk.set3) | (with_reducible apply Blk.set2) | ((with_reducible refine Blk.put ?_ ?_); · first | omega | (simp; omega)) | (with_reducible refine Blk.old ?_) | (with_reducible refine Blk.drew ?_) | (with_reducible refine Blk.drewN ?_) | ((with_reducible refine Blk.below hb ?_ ?_); · first | omega | (simp; done) | (simp; omega)) | ((with_reducible refine Blk.below hb4 ?_ ?_); · first | omega | (simp; done) | (simp; omega)) | ((with_reducible refine Blk.below hb5 ?_ ?_); · first | omega | (simp; done) | (simp; omega)))), (by repeat (first | (with_reducible exact Below.refl _ _) | (with_reducible assumption) | (with_reducible refine Below.drew ?_) | (with_reducible refine Below.drewN ?_) | ((with_reducible refine Below.al ?_ ?_); · first | omega | (simp; done) | (simp; omega)) | ((with_reducible refine Below.sc ?_ ?_); · first | omega | (simp; done) | (simp; omega)) | ((with_reducible refine Below.thru hb ?_ ?_); · first | omega | (simp; done) | (simp; omega)) | ((with_reducible refine Below.thru hb4 ?_ ?_); · first | omega | (simp; done) | (simp; omega)) | ((with_reducible refine Below.thru hb5 ?_ ?_); · first | omega | (simp; done) | (simp; omega))))⟩ ?_
  rintro w0 ⟨O0, B0, k0⟩
  go_loopw [6, 34] (fun v kk wr => ∃ (k g c : Nat), k ≤ qs.length ∧ kk = .int .i64 k ∧ v = .slice (some ⟨g, 0, none⟩) (fcK sg qs k).length c ∧ OwnK encMW 30 wr (w.heap.size + 1) (.slice (some ⟨g, 0, none⟩) (fcK sg qs k).length c) (fcK sg qs k) ∧ Blk wr w.heap.size 30 (mcs ⟨0, 0, 0, 0⟩) ∧ Below w.heap.size w wr) (fun _ kk _ => qs.length - (intOf kk).toNat)
  case atStart => exact ⟨0, _, _, Nat.zero_le _, rfl, rfl, O0, B0, k0⟩
  case round =>
    clear O0 B0 k0
    obtain ⟨k, g, c, hk, rfl, rfl, O, B, kwr⟩ := hrel
    have swr := kwr.size
    have lB := B.lt
    by_cases hlt : k < qs.length
    · have hc := hcells.out _ kwr k hlt
      have j0 : (0 : Int) ≤ (k : Int) := by omega
      have j1 : (k : Int) < (qs.length : Int) := by omega
      have j2 : (k : Int).toNat = k := by omega
      have HL := Lib.hid (fcK_len sg qs k)
      obtain ⟨jM, hinf⟩ := HINF.out
      replace hinf := Lib.hid hinf
      have HQ := Lib.hid (show qs[k] = qs.getD k 0 by rw [List.getD_eq_getElem?_getD, List.getElem?_eq_getElem hlt]; rfl)
      rw [HQ.out] at hc
      have HX1 := Lib.hid (fun h => fcK_more sg qs (k := k) h)
      have HX0 := Lib.hid (fun h => fcK_one sg qs (k := k) h)
      have HNX := Lib.hid (show ∀ l, fcK sg qs (k + 1) = l → fcK sg qs (k + 1) = l from fun _ h => h)
      generalize hny : fcK sg qs (k + 1) = zs at *
      replace hny := Lib.hid hny
      generalize qs.getD k 0 = q at *
      clear HNX
      generalize fcK sg qs k = ys at *
      have HLE := Lib.hid hlt
      by_cases hk0 : 0 < k
      · have j3 : (0 : Int) < (k : Int) := by omega
        replace HX1 := Lib.hid (HX1.out hk0)
        clear HX0
        have HS := Lib.hid (fun w' => letterS_any w')
        go_wp2_with fail
        refine (HS.out _).mono ?_
        rintro e w4 ⟨rfl, hb4⟩
        have O4 := O.below hb4
        have B4 := Blk.below hb4 lB B
        have k4 : Below w.heap.size w w4 := kwr.trans (hb4.mono swr)
        have s4 := k4.size
        have u4 := hb4.size
        have c4 := (hb4.cell (block_lt_of_cell hc)).trans hc
        clear hb4 O B kwr hc
        go_wp2_with (at_builtin; refine wpList_app encMW rfl _ _ 66 30 32 rfl Try.underlying66 jM _ hinf.out.1 hinf.out.2.1 hinf.out.2.2.1 hinf.out.2.2.2 rfl (.slice (some ⟨g, 0, none⟩) ys.length c) ys (w.heap.size + 1) w4.heap.size 1 #[.int .i64 0, .int .i64 (-1), .int .i64 1, .int .i64 0] [⟨0, -1, 1, 0⟩] rfl ?o1 rfl ?b1 rfl ?l1 ?m1 (by simp; omega) ?_)
        case o1 => exact O4.alloc
        case b1 => exact Blk.new (by simp)
        case l1 => (try simp only [List.length_cons, List.length_nil]); have := HL.out; unfold maxLen; omega
        case m1 => (try simp only [List.length_cons, List.length_nil]); have := HL.out; omega
        intro v' w5 O5 hg
        have B5 : Blk w5 w.heap.size 30 (mcs ⟨0, 0, 0, 0⟩) := Blk.grownK hg (e := encMW) (E := 30) (B := w.heap.size + 1) (xs := ys) O4.alloc (by omega) (Blk.old B4)
        have k5 : Below w.heap.size w w5 := Below.grownK hg (e := encMW) (E := 30) (B := w.heap.size + 1) (xs := ys) O4.alloc (by omega) (by simp; omega) (by repeat (first | (with_reducible exact Below.refl _ _) | (with_reducible assumption) | (with_reducible refine Below.drew ?_) | (with_reducible refine Below.drewN ?_) | ((with_reducible refine Below.al ?_ ?_); · first | omega | (simp; done) | (simp; omega)) | ((with_reducible refine Below.sc ?_ ?_); · first | omega | (simp; done) | (simp; omega)) | ((with_reducible refine Below.thru hb ?_ ?_); · first | omega | (simp; done) | (simp; omega)) | ((with_reducible refine Below.thru hb4 ?_ ?_); · first | omega | (simp; done) | (simp; omega)) | ((with_reducible refine Below.thru hb5 ?_ ?_); · first | omega | (simp; done) | (simp; omega))))
        clear O4 B4 k4
        have HL2 := Lib.hid (show (ys ++ [(⟨0, -1, 1, 0⟩ : M)]).length ≤ 102 by rw [List.length_append]; have := HL.out; simp only [List.length_cons, List.length_nil]; omega)
        have HNE := Lib.hid (show ys ++ [(⟨0, -1, 1, 0⟩ : M)] ≠ [] by simp)
        generalize ys ++ [(⟨0, -1, 1, 0⟩ : M)] = ts at *
        rcases O5.form with ⟨h1, h2⟩ | ⟨g5, c5, h1, -⟩
        · exact absurd h2 HNE.out
        subst h1
        have s5 := k5.size
        clear hg
        go_wp2_with (at_builtin; refine wpList_app encMW rfl _ _ 66 30 32 rfl Try.underlying66 jM _ hinf.out.1 hinf.out.2.1 hinf.out.2.2.1 hinf.out.2.2.2 rfl (.slice (some ⟨g5, 0, none⟩) ts.length c5) ts (w.heap.size + 1) w5.heap.size 1 #[.int .i64 1, .int .i64 q, .int .i64 0, .int .i64 1] [⟨1, q, 0, 1⟩] rfl ?o2 rfl ?b2 rfl ?l2 ?m2 (by simp; omega) ?_)
        case o2 => exact O5.alloc
        case b2 => exact Blk.new (by simp)
        case l2 => (try simp only [List.length_cons, List.length_nil]); have := HL2.out; unfold maxLen; omega
        case m2 => (try simp only [List.length_cons, List.length_nil]); have := HL2.out; omega
        intro v7 w7 O7 hg
        have B7 : Blk w7 w.heap.size 30 (mcs ⟨0, 0, 0, 0⟩) := Blk.grownK hg (e := encMW) (E := 30) (B := w.heap.size + 1) (xs := ts) O5.alloc (by omega) (Blk.old B5)
        have k7 : Below w.heap.size w w7 := Below.grownK hg (e := encMW) (E := 30) (B := w.heap.size + 1) (xs := ts) O5.alloc (by omega) (by simp; omega) (by repeat (first | (with_reducible exact Below.refl _ _) | (with_reducible assumption) | (with_reducible refine Below.drew ?_) | (with_reducible refine Below.drewN ?_) | ((with_reducible refine Below.al ?_ ?_); · first | omega | (simp; done) | (simp; omega)) | ((with_reducible refine Below.sc ?_ ?_); · first | omega | (simp; done) | (simp; omega)) | ((with_reducible refine Below.thru hb ?_ ?_); · first | omega | (simp; done) | (simp; omega)) | ((with_reducible refine Below.thru hb4 ?_ ?_); · first | omega | (simp; done) | (simp; omega)) | ((with_reducible refine Below.thru hb5 ?_ ?_); · first | omega | (simp; done) | (simp; omega))))
        rw [HX1.out] at O7
        clear hg O5 B5 k5
        rcases O7.form with ⟨-, h2⟩ | ⟨g', c', h1, -⟩
        · exact absurd h2 (by rw [← HX1.out]; simp)
        subst h1
        go_wp2
        go_roundw
        case rel => exact ⟨k + 1, g', c', HLE.out, by go_num, by rw [hny.out], by rw [hny.out]; exact O7, B7, k7⟩
        case measure => have := HLE.out; simp [intOf]; omega
      · have j3 : ¬ (0 : Int) < (k : Int) := by omega
        replace HX0 := Lib.hid (HX0.out hk0)
        clear HX1
        go_wp2_with (at_builtin; refine wpList_app encMW rfl _ _ 66 30 32 rfl Try.underlying66 jM _ hinf.out.1 hinf.out.2.1 hinf.out.2.2.1 hinf.out.2.2.2 rfl (.slice (some ⟨g, 0, none⟩) ys.length c) ys (w.heap.size + 1) wr.heap.size 1 #[.int .i64 1, .int .i64 q, .int .i64 0, .int .i64 1] [⟨1, q, 0, 1⟩] rfl ?o3 rfl ?b3 rfl ?l3 ?m3 (by simp; omega) ?_)
        case o3 => exact O.alloc
        case b3 => exact Blk.new (by simp)
        case l3 => (try simp only [List.length_cons, List.length_nil]); have := HL.out; unfold maxLen; omega
        case m3 => (try simp only [List.length_cons, List.length_nil]); have := HL.out; omega
        intro v7 w7 O7 hg
        have B7 : Blk w7 w.heap.size 30 (mcs ⟨0, 0, 0, 0⟩) := Blk.grownK hg (e := encMW) (E := 30) (B := w.heap.size + 1) (xs := ys) O.alloc (by omega) (Blk.old B)
        have k7 : Below w.heap.size w w7 := Below.grownK hg (e := encMW) (E := 30) (B := w.heap.size + 1) (xs := ys) O.alloc (by omega) (by simp; omega) (by repeat (first | (with_reducible exact Below.refl _ _) | (with_reducible assumption) | (with_reducible refine Below.drew ?_) | (with_reducible refine Below.drewN ?_) | ((with_reducible refine Below.al ?_ ?_); · first | omega | (simp; done) | (simp; omega)) | ((with_reducible refine Below.sc ?_ ?_); · first | omega | (simp; done) | (simp; omega)) | ((with_reducible refine Below.thru hb ?_ ?_); · first | omega | (simp; done) | (simp; omega)) | ((with_reducible refine Below.thru hb4 ?_ ?_); · first | omega | (simp; done) | (simp; omega)) | ((with_reducible refine Below.thru hb5 ?_ ?_); · first | omega | (simp; done) | (simp; omega))))
        rw [HX0.out] at O7
        clear hg O B kwr
        rcases O7.form with ⟨-, h2⟩ | ⟨g', c', h1, -⟩
        · exact absurd h2 (by rw [← HX0.out]; simp)
        subst h1
        go_wp2
        go_roundw
        case rel => exact ⟨k + 1, g', c', HLE.out, by go_num, by rw [hny.out], by rw [hny.out]; exact O7, B7, k7⟩
        case measure => have := HLE.out; simp [intOf]; omega
    · obtain rfl : k = qs.length := by omega
      have HR := Lib.hid O.mrowW
      have hle : (fcK sg qs qs.length).length ≤ 1000000 := by have := fcK_len sg qs qs.length; omega
      have HC := Lib.hid (fun (w' : World) (hx : MRow w' g 0 (fcK sg qs qs.length)) => product_any g 0 c (fcK sg qs qs.length) w' hle hx HFE.out)
      rw [HRC.out] at HC
      clear hle O
      go_wp2_with fail
      refine (HC.out _ HR.out).mono ?_
      rintro e w6 ⟨rfl, hb⟩
      have B6 : Blk w6 w.heap.size 30 (mcs ⟨0, 0, 0, 0⟩) := (by repeat (first | (with_reducible assumption) | ((with_reducible refine Blk.new ?_); · first | omega | (simp; done) | (simp; omega)) | (with_reducible apply Blk.set4) | (with_reducible apply Blk.set3) | (with_reducible apply Blk.set2) | ((with_reducible refine Blk.put ?_ ?_); · first | omega | (simp; omega)) | (with_reducible refine Blk.old ?_) | (with_reducible refine Blk.drew ?_) | (with_reducible refine Blk.drewN ?_) | ((with_reducible refine Blk.below hb ?_ ?_); · first | omega | (simp; done) | (simp; omega)) | ((with_reducible refine Blk.below hb4 ?_ ?_); · first | omega | (simp; done) | (simp; omega)) | ((with_reducible refine Blk.below hb5 ?_ ?_); · first | omega | (simp; done) | (simp; omega))))
      have k6 : Below w.heap.size w w6 := (by repeat (first | (with_reducible exact Below.refl _ _) | (with_reducible assumption) | (with_reducible refine Below.drew ?_) | (with_reducible refine Below.drewN ?_) | ((with_reducible refine Below.al ?_ ?_); · first | omega | (simp; done) | (simp; omega)) | ((with_reducible refine Below.sc ?_ ?_); · first | omega | (simp; done) | (simp; omega)) | ((with_reducible refine Below.thru hb ?_ ?_); · first | omega | (simp; done) | (simp; omega)) | ((with_reducible refine Below.thru hb4 ?_ ?_); · first | omega | (simp; done) | (simp; omega)) | ((with_reducible refine Below.thru hb5 ?_ ?_); · first | omega | (simp; done) | (simp; omega))))
      have b6 := B6.m
      have f6 := B6.mf
      have lB6 := B6.lt
      clear hb
      go_wp2
      refine ret_at (v := .tuple #[mv r, .int .i64 cd]) (fun w' => Blk w' (w.heap.size) 30 (mcs r)) (by repeat (first | (with_reducible assumption) | ((with_reducible refine Blk.new ?_); · first | omega | (simp; done) | (simp; omega)) | (with_reducible apply Blk.set4) | (with_reducible apply Blk.set3) | (with_reducible apply Blk.set2) | ((with_reducible refine Blk.put ?_ ?_); · first | omega | (simp; omega)) | (with_reducible refine Blk.old ?_) | (with_reducible refine Blk.drew ?_) | (with_reducible refine Blk.drewN ?_) | ((with_reducible refine Blk.below hb ?_ ?_); · first | omega | (simp; done) | (simp; omega)) | ((with_reducible refine Blk.below hb4 ?_ ?_); · first | omega | (simp; done) | (simp; omega)) | ((with_reducible refine Blk.below hb5 ?_ ?_); · first | omega | (simp; done) | (simp; omega)))) (fun w' hB => by have q := hB.m; simp [results, Try.results11, go_sem, q]) rfl ?_
      exact ⟨rfl, (by repeat (first | (with_reducible exact Below.refl _ _) | (with_reducible assumption) | (with_reducible refine Below.drew ?_) | (with_reducible refine Below.drewN ?_) | ((with_reducible refine Below.al ?_ ?_); · first | omega | (simp; done) | (simp; omega)) | ((with_reducible refine Below.sc ?_ ?_); · first | omega | (simp; done) | (simp; omega)) | ((with_reducible refine Below.thru hb ?_ ?_); · first | omega | (simp; done) | (simp; omega)) | ((with_reducible refine Below.thru hb4 ?_ ?_); · first | omega | (simp; done) | (simp; omega)) | ((with_reducible refine Below.thru hb5 ?_ ?_); · first | omega | (simp; done) | (simp; omega))))⟩

end Go.Proofs.Ytjpkopnkfpgahaa
