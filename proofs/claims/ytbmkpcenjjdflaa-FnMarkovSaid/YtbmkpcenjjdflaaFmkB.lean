/- The law FnMarkov: from DownPath on. -/
import Derived.Test.YtbmkpcenjjdflaaFmkA
namespace Go.Proofs.Ytbmkpcenjjdflaa
open Go.RowKit
set_option linter.unusedSimpArgs false

set_option linter.unusedVariables false
noncomputable def FnMarkov_tailB_code : Code := sq (sq (sq (sq (sq (sq (sq (Try.f5.body.getD .skip)))))))
set_option maxRecDepth 8000 in
set_option maxHeartbeats 4000000 in
theorem FnMarkov_tailB (v : Value) (code : List Int) (w wc : World) {u1 u2 u3 u4 u5 u6 u7 u8 u9 u10 u11 u12 u13 u14 u15 u16 u17 u18 u19 u20 u21 u22 u23 u24 u25 u26 u27 u28 u29 u30 u31 u32 u33 u34 u35 u36 u37 u38 u39 u40 u41 u42 u43 u44 u45 u46 u47 u48 u49 u50 u51 u52 u53 u54 u55 u56 u57 u58 u59 u60 u61 u62 u63 u64 u65 u66 u67 u68 u69 u70 u71 u72 u73 u74 u75 u76 u77 u78 u79 u80 u81 u82 u83 u84 u85 u86 u87 u88 u89 u90 u91 u92 u93 u94 u95 u96 u97 u98 u99 u100 u101 u102 u103 u104 u105 u106 u107 u108 u109 u110 u111 u112 u113 u114 u115 u116 u117 u118 u119 u120 u121 u122 u123 u124 u125 u126 u127 u128 u129 u130 u131 u132 u133 u134 u135 u136 u137 u138 u139 u140 u141 u142 u143 u144 u145 u146 u147 u148 u149 u150 u151 u152 u153 u154 u155 u156 u157 u158 u159 u160 u161 u162 u163 u164 u165 u166 u167 u168 u169 u170 u171 u172 u173 u174 u175 u176 u177 u178 u179 u180 u181 u182 u183 u184 u185 u186 u187 u188 u189 u190 u191 u192 u193 u194 u195 u196 u197 u198 u199 u200 u201 u202 u203 u204 u205 u206 u207 u208 u209 u210 u211 u212 u213 u214 u215 u216 u217 u218 u219 u220 u221 u222 u223 u224 u225 u226 u227 u228 u229 u230 u231 u232 u233 u234 u235 u236 u237 u238 u239 u240 u241 u242 u243 u244 u245 u246 u247 u248 u249 u250 u251 u252 u253 u254 u255 u256 u257 u258 : Value} (HV : Hid (SlIn w .u8 v code)) (HC : Hid (CodeOk code)) (hcut : Below w.heap.size w wc) :
    Code.wp Try.prog FnMarkov_tailB_code (bodyPost Try.prog Try.f5 fun e w' => e = .returned (.bool true) ∧ Below w.heap.size w w') { tmps := #[v, u1, u2, u3, u4, u5, u6, u7, u8, u9, u10, u11, u12, u13, u14, u15, u16, u17, u18, u19, u20, u21, u22, u23, u24, u25, u26, u27, u28, u29, u30, u31, u32, u33, u34, u35, u36, u37, u38, u39, u40, u41, u42, u43, u44, u45, u46, u47, u48, u49, u50, u51, u52, u53, u54, u55, u56, u57, u58, u59, u60, u61, u62, u63, u64, u65, u66, u67, u68, u69, u70, u71, u72, u73, u74, u75, u76, u77, u78, u79, u80, u81, u82, u83, u84, u85, u86, u87, u88, u89, u90, u91, u92, u93, u94, u95, u96, u97, u98, u99, u100, u101, u102, u103, u104, u105, u106, u107, u108, u109, u110, u111, u112, u113, u114, u115, u116, u117, u118, u119, u120, u121, u122, u123, u124, u125, u126, u127, u128, u129, u130, u131, u132, u133, u134, u135, u136, u137, u138, u139, u140, u141, u142, u143, u144, u145, u146, u147, u148, u149, u150, u151, u152, u153, u154, u155, u156, u157, u158, u159, u160, u161, u162, u163, u164, u165, u166, u167, u168, u169, u170, u171, u172, u173, u174, u175, u176, u177, u178, u179, u180, u181, u182, u183, u184, u185, u186, u187, u188, u189, u190, u191, u192, u193, u194, u195, u196, u197, u198, u199, u200, u201, u202, u203, u204, u205, u206, u207, u208, u209, u210, u211, u212, u213, u214, u215, u216, u217, u218, u219, u220, u221, u222, u223, u224, u225, u226, u227, u228, u229, u230, u231, u232, u233, u234, u235, u236, u237, u238, u239, u240, u241, u242, u243, u244, u245, u246, u247, u248, u249, u250, u251, u252, u253, u254, u255, u256, u257, u258], defers := [] } wc := by
  refine (?_ : let Q' := bodyPost Try.prog Try.f5 fun e w' => e = .returned (.bool true) ∧ Below w.heap.size w w'; Code.wp Try.prog FnMarkov_tailB_code Q' { tmps := #[v, u1, u2, u3, u4, u5, u6, u7, u8, u9, u10, u11, u12, u13, u14, u15, u16, u17, u18, u19, u20, u21, u22, u23, u24, u25, u26, u27, u28, u29, u30, u31, u32, u33, u34, u35, u36, u37, u38, u39, u40, u41, u42, u43, u44, u45, u46, u47, u48, u49, u50, u51, u52, u53, u54, u55, u56, u57, u58, u59, u60, u61, u62, u63, u64, u65, u66, u67, u68, u69, u70, u71, u72, u73, u74, u75, u76, u77, u78, u79, u80, u81, u82, u83, u84, u85, u86, u87, u88, u89, u90, u91, u92, u93, u94, u95, u96, u97, u98, u99, u100, u101, u102, u103, u104, u105, u106, u107, u108, u109, u110, u111, u112, u113, u114, u115, u116, u117, u118, u119, u120, u121, u122, u123, u124, u125, u126, u127, u128, u129, u130, u131, u132, u133, u134, u135, u136, u137, u138, u139, u140, u141, u142, u143, u144, u145, u146, u147, u148, u149, u150, u151, u152, u153, u154, u155, u156, u157, u158, u159, u160, u161, u162, u163, u164, u165, u166, u167, u168, u169, u170, u171, u172, u173, u174, u175, u176, u177, u178, u179, u180, u181, u182, u183, u184, u185, u186, u187, u188, u189, u190, u191, u192, u193, u194, u195, u196, u197, u198, u199, u200, u201, u202, u203, u204, u205, u206, u207, u208, u209, u210, u211, u212, u213, u214, u215, u216, u217, u218, u219, u220, u221, u222, u223, u224, u225, u226, u227, u228, u229, u230, u231, u232, u233, u234, u235, u236, u237, u238, u239, u240, u241, u242, u243, u244, u245, u246, u247, u248, u249, u250, u251, u252, u253, u254, u255, u256, u257, u258], defers := [] } wc)
  intro Q'
  delta FnMarkov_tailB_code
  dsimp only [sq, Try.f5, Option.getD]
  have scut := hcut.size
  go_wp2_with fail
  refine (drawDown_any HC.out (HV.out.below hcut)).mono ?_
  rintro e w8 ⟨x, rfl, hb⟩
  have kw8 : Below w.heap.size w w8 := (by repeat (first | (with_reducible exact Below.refl _ _) | (with_reducible assumption) | (with_reducible refine Below.drew ?_) | (with_reducible refine Below.drewN ?_) | ((with_reducible refine Below.al ?_ ?_); · first | omega | (simp; done) | (simp; omega)) | ((with_reducible refine Below.sc ?_ ?_); · first | omega | (simp; done) | (simp; omega)) | ((with_reducible refine Below.thru hb ?_ ?_); · first | omega | (simp; done) | (simp; omega))))
  have sw8 := kw8.size
  clear hb hcut
  go_wp2_with fail
  refine (DownPath_any x _).mono ?_
  rintro e w9 ⟨v1, xs, c1, rfl, hx1, ow, hb⟩
  have HX1 := Lib.hid hx1
  clear hx1
  replace ow := OwnK.mono (B' := w8.heap.size) (by simp) ow
  have B9 : Blk w9 w8.heap.size 36 (tcs x) := (by repeat (first | (with_reducible assumption) | ((with_reducible refine Blk.new ?_); · first | omega | (simp; done) | (simp; omega)) | (with_reducible apply Blk.set4) | (with_reducible apply Blk.set3) | (with_reducible apply Blk.set2) | ((with_reducible refine Blk.put ?_ ?_); · first | omega | (simp; omega)) | (with_reducible refine Blk.old ?_) | (with_reducible refine Blk.drew ?_) | (with_reducible refine Blk.drewN ?_) | ((with_reducible refine Blk.below hb ?_ ?_); · first | omega | (simp; done) | (simp; omega))))
  have kw9 : Below w.heap.size w w9 := (by repeat (first | (with_reducible exact Below.refl _ _) | (with_reducible assumption) | (with_reducible refine Below.drew ?_) | (with_reducible refine Below.drewN ?_) | ((with_reducible refine Below.al ?_ ?_); · first | omega | (simp; done) | (simp; omega)) | ((with_reducible refine Below.sc ?_ ?_); · first | omega | (simp; done) | (simp; omega)) | ((with_reducible refine Below.thru hb ?_ ?_); · first | omega | (simp; done) | (simp; omega))))
  have sw9 := kw9.size
  have lB9 := B9.lt
  have q9 := B9.t
  clear hb kw8
  go_wp2_with fail
  refine (specDownPath_any x _).mono ?_
  rintro e w10 ⟨v2, ys, c2, rfl, hx2, ow2, hb⟩
  have B10 : Blk w10 w8.heap.size 36 (tcs x) := (by repeat (first | (with_reducible assumption) | ((with_reducible refine Blk.new ?_); · first | omega | (simp; done) | (simp; omega)) | (with_reducible apply Blk.set4) | (with_reducible apply Blk.set3) | (with_reducible apply Blk.set2) | ((with_reducible refine Blk.put ?_ ?_); · first | omega | (simp; omega)) | (with_reducible refine Blk.old ?_) | (with_reducible refine Blk.drew ?_) | (with_reducible refine Blk.drewN ?_) | ((with_reducible refine Blk.below hb ?_ ?_); · first | omega | (simp; done) | (simp; omega))))
  have O1 : OwnT w10 w8.heap.size v1 xs := (by repeat (first | (with_reducible assumption) | (with_reducible refine Own.drew ?_) | (with_reducible refine Own.drewN ?_) | (with_reducible refine Own.alloc ?_) | (with_reducible refine OwnK.drew ?_) | (with_reducible refine OwnK.drewN ?_) | (with_reducible refine OwnK.alloc ?_) | ((with_reducible refine OwnK.put ?_ ?_); · first | omega | (simp; done) | (simp; omega)) | ((with_reducible refine Own.below hb ?_)) | ((with_reducible refine OwnK.below hb ?_))))
  have kw10 : Below w.heap.size w w10 := (by repeat (first | (with_reducible exact Below.refl _ _) | (with_reducible assumption) | (with_reducible refine Below.drew ?_) | (with_reducible refine Below.drewN ?_) | ((with_reducible refine Below.al ?_ ?_); · first | omega | (simp; done) | (simp; omega)) | ((with_reducible refine Below.sc ?_ ?_); · first | omega | (simp; done) | (simp; omega)) | ((with_reducible refine Below.thru hb ?_ ?_); · first | omega | (simp; done) | (simp; omega))))
  have sw10 := kw10.size
  have lB10 := B10.lt
  obtain ⟨rfl, rfl⟩ := path_unique hx2 HX1.out
  clear hb q9 ow hx2 B9 kw9
  go_wp2_with fail
  have HL := Lib.hid (path_len HX1.out)
  refine (triples5_same v1 v2 ys _ _ _ O1 ow2 (Nat.le_trans HL.out (by decide))).mono ?_
  rintro e w11 ⟨rfl, hb⟩
  have B11 : Blk w11 w8.heap.size 36 (tcs x) := (by repeat (first | (with_reducible assumption) | ((with_reducible refine Blk.new ?_); · first | omega | (simp; done) | (simp; omega)) | (with_reducible apply Blk.set4) | (with_reducible apply Blk.set3) | (with_reducible apply Blk.set2) | ((with_reducible refine Blk.put ?_ ?_); · first | omega | (simp; omega)) | (with_reducible refine Blk.old ?_) | (with_reducible refine Blk.drew ?_) | (with_reducible refine Blk.drewN ?_) | ((with_reducible refine Blk.below hb ?_ ?_); · first | omega | (simp; done) | (simp; omega))))
  have O11 : OwnT w11 w8.heap.size v1 ys := (by repeat (first | (with_reducible assumption) | (with_reducible refine Own.drew ?_) | (with_reducible refine Own.drewN ?_) | (with_reducible refine Own.alloc ?_) | (with_reducible refine OwnK.drew ?_) | (with_reducible refine OwnK.drewN ?_) | (with_reducible refine OwnK.alloc ?_) | ((with_reducible refine OwnK.put ?_ ?_); · first | omega | (simp; done) | (simp; omega)) | ((with_reducible refine Own.below hb ?_)) | ((with_reducible refine OwnK.below hb ?_))))
  have kw11 : Below w.heap.size w w11 := (by repeat (first | (with_reducible exact Below.refl _ _) | (with_reducible assumption) | (with_reducible refine Below.drew ?_) | (with_reducible refine Below.drewN ?_) | ((with_reducible refine Below.al ?_ ?_); · first | omega | (simp; done) | (simp; omega)) | ((with_reducible refine Below.sc ?_ ?_); · first | omega | (simp; done) | (simp; omega)) | ((with_reducible refine Below.thru hb ?_ ?_); · first | omega | (simp; done) | (simp; omega))))
  have sw11 := kw11.size
  have lB11 := B11.lt
  clear hb B10 O1 ow2 kw10
  go_upto_if 114 with fail
  go_cut [] (fun wx => Below w.heap.size w wx)
  case first =>
    by_cases hc : c2 = 0
    · have e114 : (c2 == 0) = true := by simp [hc]
      rw [e114]
      obtain ⟨K, h1, hlast, hdec, rfl⟩ := path_zero HX1.out hc
      clear HX1 hc e114
      have q11 := B11.t
      have hq0 := (show 0 < (dns x K).length by rw [dns_length]; omega)
      rcases O11.form with ⟨rfl, e⟩ | ⟨gl, cl, rfl, hgB, hgl, _, _, _⟩
      · exact absurd (by rw [e]; rfl) (Nat.ne_of_gt hq0)
      have hN := Lib.hid (dns_length x K)
      have HO := Lib.hid O11
      have z0 := OwnT.cells O11 rfl hq0
      have z1 := OwnT.cells O11 rfl (j := K) (by rw [dns_length]; omega)
      simp only [dns_get, hlast, show dn x 0 = x from rfl, Nat.zero_mul, Nat.zero_add] at z0 z1
      generalize hNN : (dns x K).length = N at *
      replace hNN := Lib.hid hNN
      have hN2 : N = K + 1 := hN.out
      subst hN2
      have hn1 := run_neqT_same x
      have hn2 := run_neqT_same ⟨1, 1, 1⟩
      dsimp only at hn2
      have hA : decide ((K : Int) + 1 < 1) = false := decide_eq_false (by omega)
      have hI0 : (0 : Int) < (K : Int) + 1 := by omega
      have hI1 : (0 : Int) ≤ (K : Int) := by omega
      have hI2 : (K : Int) < (K : Int) + 1 := by omega
      clear hN
      go_wp2_with fail
      go_quiet (fail)
      go_wp2_with fail
      go_loopw [18] (fun s18 wr => ∃ j : Nat, j ≤ K ∧ s18 = .int .i64 ((j : Int) + 1) ∧ Below w11.heap.size w11 wr) (fun s18 _ => K + 1 - (intOf s18).toNat)
      case atStart => exact ⟨0, Nat.zero_le _, rfl, Below.drewN (Below.refl _ _)⟩
      case round =>
        obtain ⟨j, hj, rfl, kwr⟩ := hrel
        have swr := kwr.size
        clear z0 z1 q11 hn1 hn2 hI0 hI1 hI2 hA B11 O11 hgl hgB
        by_cases hlt : j < K
        · have HT := Lib.hid (fun w' => IsTriple_t (dn x (j + 1)) w')
          have hD := hdec j hlt
          have g0 := fun x_ : Later wr => OwnT.cells (HO.out.below (kwr.trans (x_.h.mono kwr.size))) rfl (show j < (dns x K).length by rw [dns_length]; omega)
          have g1 := fun x_ : Later wr => OwnT.cells (HO.out.below (kwr.trans (x_.h.mono kwr.size))) rfl (show j + 1 < (dns x K).length by rw [dns_length]; omega)
          simp only [dns_get] at g0 g1
          rw [hD.1] at HT
          generalize dn x (j + 1) = a1 at *
          generalize dn x j = a0 at *
          have hgeq : decide (a0.z ≤ a1.z) = false := decide_eq_false (by omega)
          have g02 := fun x_ => (g0 x_).2.2
          have g10 := fun x_ => (g1 x_).1
          have g11 := fun x_ => (g1 x_).2.1
          have g12 := fun x_ => (g1 x_).2.2
          have i0 : (0 : Int) ≤ (j : Int) := by omega
          have i1 : (j : Int) < (K : Int) := by omega
          have i2 : (0 : Int) ≤ (j : Int) + 1 := by omega
          have i3 : (j : Int) + 1 < (K : Int) + 1 := by omega
          have i4 : (j : Int) < (K : Int) + 1 := by omega
          clear g0 g1 hD hdec HO
          go_wp2_with fail
          have kww : Below w.heap.size w wr := Below.thru kwr kw11.size kw11
          refine wp_region_calm (by kernel_rfl) (by kernel_rfl) ?_
          repeat (go_big_quiet_step (first | (go_at_call 20; with_reducible exact Calls.calm (HT.out _))))
          refine wpQuiet_nil ?_
          rintro w12 ⟨⟨_, hb⟩, rfl⟩
          have k12 : Below w11.heap.size w11 w12 := (by repeat (first | (with_reducible exact Below.refl _ _) | (with_reducible assumption) | (with_reducible refine Below.drew ?_) | (with_reducible refine Below.drewN ?_) | ((with_reducible refine Below.al ?_ ?_); · first | omega | (simp; done) | (simp; omega)) | ((with_reducible refine Below.sc ?_ ?_); · first | omega | (simp; done) | (simp; omega)) | ((with_reducible refine Below.thru hb ?_ ?_); · first | omega | (simp; done) | (simp; omega))))
          have kw12 : Below w.heap.size w w12 := (by repeat (first | (with_reducible exact Below.refl _ _) | (with_reducible assumption) | (with_reducible refine Below.drew ?_) | (with_reducible refine Below.drewN ?_) | ((with_reducible refine Below.al ?_ ?_); · first | omega | (simp; done) | (simp; omega)) | ((with_reducible refine Below.sc ?_ ?_); · first | omega | (simp; done) | (simp; omega)) | ((with_reducible refine Below.thru hb ?_ ?_); · first | omega | (simp; done) | (simp; omega))))
          have sw12 := kw12.size
          clear hb
          go_wp2
          go_roundw
          case rel => exact ⟨j + 1, by omega, by go_num, k12⟩
          case measure => simp [intOf]; omega
        · obtain rfl : j = K := by omega
          go_wp2
          go_meet
          exact Below.thru kwr kw11.size kw11
    · have e114 : (c2 == 0) = false := by simp [hc]
      rw [e114]
      go_wp2
      go_meet
      exact kw11
  case rest =>
      clear B11 O11 HX1 HL
      apply_assumption
      exact FnMarkov_tailA v code w _ HV HC hcut

end Go.Proofs.Ytbmkpcenjjdflaa
