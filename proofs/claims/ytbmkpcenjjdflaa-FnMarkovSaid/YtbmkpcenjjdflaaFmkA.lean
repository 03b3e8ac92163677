/- The law FnMarkov: from TriplesBelow on. -/
import Derived.Test.YtbmkpcenjjdflaaSrc
import Derived.Test.YtbmkpcenjjdflaaFmp
import Derived.Test.YtbmkpcenjjdflaaMkw
import Derived.Test.YtbmkpcenjjdflaaLaw
namespace Go.Proofs.Ytbmkpcenjjdflaa
open Go.RowKit
set_option linter.unusedSimpArgs false
set_option linter.unusedVariables false

/-- Does one of the first k neighbours lead back? -/
def fnd (nx t : T3) : Nat → Bool
  | 0 => false
  | k + 1 => fnd nx t k || (decide ((nbR nx k).2 = 0) && decide ((nbR nx k).1 = t))
theorem fnd_at {nx t : T3} {j : Nat} (h : nbR nx j = (t, 0)) : ∀ k, j < k → fnd nx t k = true
  | 0, hk => absurd hk (by omega)
  | k + 1, hk => by
    unfold fnd
    by_cases e : j = k
    · subst e
      rw [h]
      simp
    · rw [fnd_at h k (by omega)]
      rfl
theorem nbR_cases (t : T3) (i : Int) : ((nbR t i).2 = 0 ∧ t.ok = true ∧ (nbR t i).1.ok = true ∧ fnd (nbR t i).1 t 3 = true) ∨ (nbR t i).2 ≠ 0 := by
  by_cases h1 : t.ok = true
  · by_cases h2 : inB i 0 2 = true
    · by_cases h3 : (t.nb i).z ≤ 1000000000
      · left
        have e : nbR t i = (t.nb i, 0) := by simp [nbR, h1, h2, h3]
        have hi := i012 h2
        have ho := nb_okI h1 hi h3
        obtain ⟨k, hk, hb⟩ := nb_back h1 hi
        obtain ⟨j, rfl⟩ : ∃ j : Nat, k = j := ⟨k.toNat, by omega⟩
        have hz := (T3.ok_spec h1).2.2.2.1
        have e2 : nbR (t.nb i) j = (t, 0) := by
          unfold nbR
          rw [if_pos ho, if_pos (by unfold inB; simp; omega), hb, if_pos hz]
        rw [e]
        exact ⟨rfl, h1, ho, fnd_at e2 3 (by omega)⟩
      · right
        simp [nbR, h1, h2, h3]
    · right
      simp [nbR, h1, h2]
  · right
    simp [nbR, h1]

theorem path_unique {t : T3} {xs ys : List T3} {c d : Int} (hx : if t.ok then c = 0 ∧ ∃ k, Ends t k ∧ xs = dns t k else c = 1 ∧ xs = []) (hy : if t.ok then d = 0 ∧ ∃ k, Ends t k ∧ ys = dns t k else d = 1 ∧ ys = []) : xs = ys ∧ c = d := by
  split at hx
  · rw [if_pos (by assumption)] at hy
    obtain ⟨rfl, k, hk, rfl⟩ := hx
    obtain ⟨rfl, l, hl, rfl⟩ := hy
    rw [hk.unique hl]
    exact ⟨rfl, rfl⟩
  · rw [if_neg (by assumption)] at hy
    exact ⟨by rw [hx.2, hy.2], by rw [hx.1, hy.1]⟩
theorem path_len {t : T3} {xs : List T3} {c : Int} (hx : if t.ok then c = 0 ∧ ∃ k, Ends t k ∧ xs = dns t k else c = 1 ∧ xs = []) : xs.length ≤ 1000000000 := by
  split at hx
  · obtain ⟨_, k, hk, rfl⟩ := hx
    rw [dns_length]
    exact (dn_len (by assumption) hk.1).1
  · rw [hx.2]; simp
theorem path_zero {t : T3} {xs : List T3} {c : Int} (hx : if t.ok then c = 0 ∧ ∃ k, Ends t k ∧ xs = dns t k else c = 1 ∧ xs = []) (hc : c = 0) :
    ∃ K, K + 1 ≤ 1000000000 ∧ dn t K = ⟨1, 1, 1⟩ ∧ (∀ j, j < K → (dn t (j + 1)).ok = true ∧ (dn t (j + 1)).z < (dn t j).z) ∧ xs = dns t K := by
  split at hx
  · rename_i h
    obtain ⟨_, k, hk, rfl⟩ := hx
    exact ⟨k, (dn_len h hk.1).1, (ok_one (dn_inv h k hk.1).1).2 hk.2, fun j hj => nb2_ok (dn_inv h j (fun i hi => hk.1 i (by omega))).1 (hk.1 j hj), rfl⟩
  · exact absurd (hx.1.symm.trans hc) (by decide)
theorem specIsTriple_t (t : T3) (w : World) :
    Calls Try.prog 21 #[.agg #[.int .i64 t.x, .int .i64 t.y, .int .i64 t.z]] w fun e w' => e = .returned (.bool t.ok) ∧ Below w.heap.size w w' := specIsTriple_any t.x t.y t.z w
theorem tbk_len (n : Int) : (tbL n).length ≤ 40 := by
  unfold tbL
  split
  · exact tr_len n
  · exact Nat.zero_le _
theorem mk_len (n : Int) : (mkL n).length ≤ 40 := by
  unfold mkL
  split
  · rw [zs_len]; exact tr_len n
  · exact Nat.zero_le _
theorem tb_mem (n : Int) : ∀ t ∈ tbL n, t.ok = true ∧ t.z ≤ n ∧ t.x ∈ mkL n ∧ t.y ∈ mkL n ∧ t.z ∈ mkL n := by
  intro t ht
  unfold tbL at ht
  unfold mkL
  split at ht
  · rename_i h
    rw [if_pos h]
    obtain ⟨h1, h2⟩ := mem_trB.1 ht
    refine ⟨trL_ok h1, h2, xyz_mem.1 ?_, xyz_mem.1 ?_, xyz_mem.1 ?_⟩ <;> exact List.mem_flatMap.2 ⟨t, ht, by simp⟩
  · exact absurd ht (by simp)
/-- A statement's followers. -/
def sq : Code → Code
  | .seq _ b => b
  | c => c
noncomputable def FnMarkov_tailA_code : Code := sq (sq (sq (sq (sq (sq (sq (sq (sq (sq (sq (sq (Try.f5.body.getD .skip))))))))))))
set_option maxRecDepth 8000 in
set_option maxHeartbeats 4000000 in
theorem FnMarkov_tailA (v : Value) (code : List Int) (w wc : World) {u1 u2 u3 u4 u5 u6 u7 u8 u9 u10 u11 u12 u13 u14 u15 u16 u17 u18 u19 u20 u21 u22 u23 u24 u25 u26 u27 u28 u29 u30 u31 u32 u33 u34 u35 u36 u37 u38 u39 u40 u41 u42 u43 u44 u45 u46 u47 u48 u49 u50 u51 u52 u53 u54 u55 u56 u57 u58 u59 u60 u61 u62 u63 u64 u65 u66 u67 u68 u69 u70 u71 u72 u73 u74 u75 u76 u77 u78 u79 u80 u81 u82 u83 u84 u85 u86 u87 u88 u89 u90 u91 u92 u93 u94 u95 u96 u97 u98 u99 u100 u101 u102 u103 u104 u105 u106 u107 u108 u109 u110 u111 u112 u113 u114 u115 u116 u117 u118 u119 u120 u121 u122 u123 u124 u125 u126 u127 u128 u129 u130 u131 u132 u133 u134 u135 u136 u137 u138 u139 u140 u141 u142 u143 u144 u145 u146 u147 u148 u149 u150 u151 u152 u153 u154 u155 u156 u157 u158 u159 u160 u161 u162 u163 u164 u165 u166 u167 u168 u169 u170 u171 u172 u173 u174 u175 u176 u177 u178 u179 u180 u181 u182 u183 u184 u185 u186 u187 u188 u189 u190 u191 u192 u193 u194 u195 u196 u197 u198 u199 u200 u201 u202 u203 u204 u205 u206 u207 u208 u209 u210 u211 u212 u213 u214 u215 u216 u217 u218 u219 u220 u221 u222 u223 u224 u225 u226 u227 u228 u229 u230 u231 u232 u233 u234 u235 u236 u237 u238 u239 u240 u241 u242 u243 u244 u245 u246 u247 u248 u249 u250 u251 u252 u253 u254 u255 u256 u257 u258 : Value} (HV : Hid (SlIn w .u8 v code)) (HC : Hid (CodeOk code)) (hcut : Below w.heap.size w wc) :
    Code.wp Try.prog FnMarkov_tailA_code (bodyPost Try.prog Try.f5 fun e w' => e = .returned (.bool true) ∧ Below w.heap.size w w') { tmps := #[v, u1, u2, u3, u4, u5, u6, u7, u8, u9, u10, u11, u12, u13, u14, u15, u16, u17, u18, u19, u20, u21, u22, u23, u24, u25, u26, u27, u28, u29, u30, u31, u32, u33, u34, u35, u36, u37, u38, u39, u40, u41, u42, u43, u44, u45, u46, u47, u48, u49, u50, u51, u52, u53, u54, u55, u56, u57, u58, u59, u60, u61, u62, u63, u64, u65, u66, u67, u68, u69, u70, u71, u72, u73, u74, u75, u76, u77, u78, u79, u80, u81, u82, u83, u84, u85, u86, u87, u88, u89, u90, u91, u92, u93, u94, u95, u96, u97, u98, u99, u100, u101, u102, u103, u104, u105, u106, u107, u108, u109, u110, u111, u112, u113, u114, u115, u116, u117, u118, u119, u120, u121, u122, u123, u124, u125, u126, u127, u128, u129, u130, u131, u132, u133, u134, u135, u136, u137, u138, u139, u140, u141, u142, u143, u144, u145, u146, u147, u148, u149, u150, u151, u152, u153, u154, u155, u156, u157, u158, u159, u160, u161, u162, u163, u164, u165, u166, u167, u168, u169, u170, u171, u172, u173, u174, u175, u176, u177, u178, u179, u180, u181, u182, u183, u184, u185, u186, u187, u188, u189, u190, u191, u192, u193, u194, u195, u196, u197, u198, u199, u200, u201, u202, u203, u204, u205, u206, u207, u208, u209, u210, u211, u212, u213, u214, u215, u216, u217, u218, u219, u220, u221, u222, u223, u224, u225, u226, u227, u228, u229, u230, u231, u232, u233, u234, u235, u236, u237, u238, u239, u240, u241, u242, u243, u244, u245, u246, u247, u248, u249, u250, u251, u252, u253, u254, u255, u256, u257, u258], defers := [] } wc := by
  refine (?_ : let Q' := bodyPost Try.prog Try.f5 fun e w' => e = .returned (.bool true) ∧ Below w.heap.size w w'; Code.wp Try.prog FnMarkov_tailA_code Q' { tmps := #[v, u1, u2, u3, u4, u5, u6, u7, u8, u9, u10, u11, u12, u13, u14, u15, u16, u17, u18, u19, u20, u21, u22, u23, u24, u25, u26, u27, u28, u29, u30, u31, u32, u33, u34, u35, u36, u37, u38, u39, u40, u41, u42, u43, u44, u45, u46, u47, u48, u49, u50, u51, u52, u53, u54, u55, u56, u57, u58, u59, u60, u61, u62, u63, u64, u65, u66, u67, u68, u69, u70, u71, u72, u73, u74, u75, u76, u77, u78, u79, u80, u81, u82, u83, u84, u85, u86, u87, u88, u89, u90, u91, u92, u93, u94, u95, u96, u97, u98, u99, u100, u101, u102, u103, u104, u105, u106, u107, u108, u109, u110, u111, u112, u113, u114, u115, u116, u117, u118, u119, u120, u121, u122, u123, u124, u125, u126, u127, u128, u129, u130, u131, u132, u133, u134, u135, u136, u137, u138, u139, u140, u141, u142, u143, u144, u145, u146, u147, u148, u149, u150, u151, u152, u153, u154, u155, u156, u157, u158, u159, u160, u161, u162, u163, u164, u165, u166, u167, u168, u169, u170, u171, u172, u173, u174, u175, u176, u177, u178, u179, u180, u181, u182, u183, u184, u185, u186, u187, u188, u189, u190, u191, u192, u193, u194, u195, u196, u197, u198, u199, u200, u201, u202, u203, u204, u205, u206, u207, u208, u209, u210, u211, u212, u213, u214, u215, u216, u217, u218, u219, u220, u221, u222, u223, u224, u225, u226, u227, u228, u229, u230, u231, u232, u233, u234, u235, u236, u237, u238, u239, u240, u241, u242, u243, u244, u245, u246, u247, u248, u249, u250, u251, u252, u253, u254, u255, u256, u257, u258], defers := [] } wc)
  intro Q'
  delta FnMarkov_tailA_code
  dsimp only [sq, Try.f5, Option.getD]
  go_wp2_with fail
  refine (drawBelow_any HC.out (HV.out.below hcut)).mono ?_
  rintro e w1 ⟨n, rfl, hb⟩
  have scut := hcut.size
  have kw1 : Below w.heap.size w w1 := (by repeat (first | (with_reducible exact Below.refl _ _) | (with_reducible assumption) | (with_reducible refine Below.drew ?_) | (with_reducible refine Below.drewN ?_) | ((with_reducible refine Below.al ?_ ?_); · first | omega | (simp; done) | (simp; omega)) | ((with_reducible refine Below.sc ?_ ?_); · first | omega | (simp; done) | (simp; omega)) | ((with_reducible refine Below.thru hb ?_ ?_); · first | omega | (simp; done) | (simp; omega))))
  have sw1 := kw1.size
  clear hb hcut
  go_wp2_with fail
  refine (TriplesBelow_any n _).mono ?_
  rintro e w2 ⟨v1, rfl, o1, hb⟩
  have kw2 : Below w.heap.size w w2 := (by repeat (first | (with_reducible exact Below.refl _ _) | (with_reducible assumption) | (with_reducible refine Below.drew ?_) | (with_reducible refine Below.drewN ?_) | ((with_reducible refine Below.al ?_ ?_); · first | omega | (simp; done) | (simp; omega)) | ((with_reducible refine Below.sc ?_ ?_); · first | omega | (simp; done) | (simp; omega)) | ((with_reducible refine Below.thru hb ?_ ?_); · first | omega | (simp; done) | (simp; omega))))
  have sw2 := kw2.size
  clear hb kw1
  go_wp2_with fail
  refine (specTriplesBelow_any n _).mono ?_
  rintro e w3 ⟨v2, rfl, o2, hb⟩
  have p1 : OwnT w3 w1.heap.size v1 (tbL n) := (by repeat (first | (with_reducible assumption) | (with_reducible refine Own.drew ?_) | (with_reducible refine Own.drewN ?_) | (with_reducible refine Own.alloc ?_) | (with_reducible refine OwnK.drew ?_) | (with_reducible refine OwnK.drewN ?_) | (with_reducible refine OwnK.alloc ?_) | ((with_reducible refine OwnK.put ?_ ?_); · first | omega | (simp; done) | (simp; omega)) | ((with_reducible refine Own.below hb ?_)) | ((with_reducible refine OwnK.below hb ?_))))
  have kw3 : Below w.heap.size w w3 := (by repeat (first | (with_reducible exact Below.refl _ _) | (with_reducible assumption) | (with_reducible refine Below.drew ?_) | (with_reducible refine Below.drewN ?_) | ((with_reducible refine Below.al ?_ ?_); · first | omega | (simp; done) | (simp; omega)) | ((with_reducible refine Below.sc ?_ ?_); · first | omega | (simp; done) | (simp; omega)) | ((with_reducible refine Below.thru hb ?_ ?_); · first | omega | (simp; done) | (simp; omega))))
  have sw3 := kw3.size
  clear hb kw2 o1
  go_wp2_with fail
  refine (MarkovNumbers_any n _).mono ?_
  rintro e w4 ⟨v3, rfl, o3, hb⟩
  have q1 : OwnT w4 w1.heap.size v1 (tbL n) := (by repeat (first | (with_reducible assumption) | (with_reducible refine Own.drew ?_) | (with_reducible refine Own.drewN ?_) | (with_reducible refine Own.alloc ?_) | (with_reducible refine OwnK.drew ?_) | (with_reducible refine OwnK.drewN ?_) | (with_reducible refine OwnK.alloc ?_) | ((with_reducible refine OwnK.put ?_ ?_); · first | omega | (simp; done) | (simp; omega)) | ((with_reducible refine Own.below hb ?_)) | ((with_reducible refine OwnK.below hb ?_))))
  have q2 : OwnT w4 w2.heap.size v2 (tbL n) := (by repeat (first | (with_reducible assumption) | (with_reducible refine Own.drew ?_) | (with_reducible refine Own.drewN ?_) | (with_reducible refine Own.alloc ?_) | (with_reducible refine OwnK.drew ?_) | (with_reducible refine OwnK.drewN ?_) | (with_reducible refine OwnK.alloc ?_) | ((with_reducible refine OwnK.put ?_ ?_); · first | omega | (simp; done) | (simp; omega)) | ((with_reducible refine Own.below hb ?_)) | ((with_reducible refine OwnK.below hb ?_))))
  have kw4 : Below w.heap.size w w4 := (by repeat (first | (with_reducible exact Below.refl _ _) | (with_reducible assumption) | (with_reducible refine Below.drew ?_) | (with_reducible refine Below.drewN ?_) | ((with_reducible refine Below.al ?_ ?_); · first | omega | (simp; done) | (simp; omega)) | ((with_reducible refine Below.sc ?_ ?_); · first | omega | (simp; done) | (simp; omega)) | ((with_reducible refine Below.thru hb ?_ ?_); · first | omega | (simp; done) | (simp; omega))))
  have sw4 := kw4.size
  clear hb kw3 p1 o2
  go_wp2_with fail
  refine (specMarkovNumbers_any n _).mono ?_
  rintro e w5 ⟨v4, rfl, o4, hb⟩
  have r1 : OwnT w5 w1.heap.size v1 (tbL n) := (by repeat (first | (with_reducible assumption) | (with_reducible refine Own.drew ?_) | (with_reducible refine Own.drewN ?_) | (with_reducible refine Own.alloc ?_) | (with_reducible refine OwnK.drew ?_) | (with_reducible refine OwnK.drewN ?_) | (with_reducible refine OwnK.alloc ?_) | ((with_reducible refine OwnK.put ?_ ?_); · first | omega | (simp; done) | (simp; omega)) | ((with_reducible refine Own.below hb ?_)) | ((with_reducible refine OwnK.below hb ?_))))
  have r2 : OwnT w5 w2.heap.size v2 (tbL n) := (by repeat (first | (with_reducible assumption) | (with_reducible refine Own.drew ?_) | (with_reducible refine Own.drewN ?_) | (with_reducible refine Own.alloc ?_) | (with_reducible refine OwnK.drew ?_) | (with_reducible refine OwnK.drewN ?_) | (with_reducible refine OwnK.alloc ?_) | ((with_reducible refine OwnK.put ?_ ?_); · first | omega | (simp; done) | (simp; omega)) | ((with_reducible refine Own.below hb ?_)) | ((with_reducible refine OwnK.below hb ?_))))
  have r3 : Own w5 w3.heap.size v3 (mkL n) := (by repeat (first | (with_reducible assumption) | (with_reducible refine Own.drew ?_) | (with_reducible refine Own.drewN ?_) | (with_reducible refine Own.alloc ?_) | (with_reducible refine OwnK.drew ?_) | (with_reducible refine OwnK.drewN ?_) | (with_reducible refine OwnK.alloc ?_) | ((with_reducible refine OwnK.put ?_ ?_); · first | omega | (simp; done) | (simp; omega)) | ((with_reducible refine Own.below hb ?_)) | ((with_reducible refine OwnK.below hb ?_))))
  have kw5 : Below w.heap.size w w5 := (by repeat (first | (with_reducible exact Below.refl _ _) | (with_reducible assumption) | (with_reducible refine Below.drew ?_) | (with_reducible refine Below.drewN ?_) | ((with_reducible refine Below.al ?_ ?_); · first | omega | (simp; done) | (simp; omega)) | ((with_reducible refine Below.sc ?_ ?_); · first | omega | (simp; done) | (simp; omega)) | ((with_reducible refine Below.thru hb ?_ ?_); · first | omega | (simp; done) | (simp; omega))))
  have sw5 := kw5.size
  clear hb kw4 q1 q2 o3
  have HL1 := Lib.hid (tbk_len n)
  have HL2 := Lib.hid (mk_len n)
  have HM := Lib.hid (tb_mem n)
  generalize tbL n = L at *
  generalize mkL n = M at *
  generalize tbC n = c at *
  go_wp2_with fail
  refine (triples5_same v1 v2 L _ _ _ r1 r2 (Nat.le_trans HL1.out (by decide))).mono ?_
  rintro e w6 ⟨rfl, hb⟩
  have s1 : OwnT w6 w1.heap.size v1 L := (by repeat (first | (with_reducible assumption) | (with_reducible refine Own.drew ?_) | (with_reducible refine Own.drewN ?_) | (with_reducible refine Own.alloc ?_) | (with_reducible refine OwnK.drew ?_) | (with_reducible refine OwnK.drewN ?_) | (with_reducible refine OwnK.alloc ?_) | ((with_reducible refine OwnK.put ?_ ?_); · first | omega | (simp; done) | (simp; omega)) | ((with_reducible refine Own.below hb ?_)) | ((with_reducible refine OwnK.below hb ?_))))
  have s3 : Own w6 w3.heap.size v3 M := (by repeat (first | (with_reducible assumption) | (with_reducible refine Own.drew ?_) | (with_reducible refine Own.drewN ?_) | (with_reducible refine Own.alloc ?_) | (with_reducible refine OwnK.drew ?_) | (with_reducible refine OwnK.drewN ?_) | (with_reducible refine OwnK.alloc ?_) | ((with_reducible refine OwnK.put ?_ ?_); · first | omega | (simp; done) | (simp; omega)) | ((with_reducible refine Own.below hb ?_)) | ((with_reducible refine OwnK.below hb ?_))))
  have s4 : Own w6 w4.heap.size v4 M := (by repeat (first | (with_reducible assumption) | (with_reducible refine Own.drew ?_) | (with_reducible refine Own.drewN ?_) | (with_reducible refine Own.alloc ?_) | (with_reducible refine OwnK.drew ?_) | (with_reducible refine OwnK.drewN ?_) | (with_reducible refine OwnK.alloc ?_) | ((with_reducible refine OwnK.put ?_ ?_); · first | omega | (simp; done) | (simp; omega)) | ((with_reducible refine Own.below hb ?_)) | ((with_reducible refine OwnK.below hb ?_))))
  have kw6 : Below w.heap.size w w6 := (by repeat (first | (with_reducible exact Below.refl _ _) | (with_reducible assumption) | (with_reducible refine Below.drew ?_) | (with_reducible refine Below.drewN ?_) | ((with_reducible refine Below.al ?_ ?_); · first | omega | (simp; done) | (simp; omega)) | ((with_reducible refine Below.sc ?_ ?_); · first | omega | (simp; done) | (simp; omega)) | ((with_reducible refine Below.thru hb ?_ ?_); · first | omega | (simp; done) | (simp; omega))))
  have sw6 := kw6.size
  clear hb kw5 r1 r2 r3 o4
  go_wp2_with fail
  refine (likeInts_same s3.slIn s4.slIn (Nat.le_trans HL2.out (by decide))).mono ?_
  rintro e w7 ⟨rfl, hb⟩
  have t1 : OwnT w7 w1.heap.size v1 L := (by repeat (first | (with_reducible assumption) | (with_reducible refine Own.drew ?_) | (with_reducible refine Own.drewN ?_) | (with_reducible refine Own.alloc ?_) | (with_reducible refine OwnK.drew ?_) | (with_reducible refine OwnK.drewN ?_) | (with_reducible refine OwnK.alloc ?_) | ((with_reducible refine OwnK.put ?_ ?_); · first | omega | (simp; done) | (simp; omega)) | ((with_reducible refine Own.below hb ?_)) | ((with_reducible refine OwnK.below hb ?_))))
  have t3 : Own w7 w3.heap.size v3 M := (by repeat (first | (with_reducible assumption) | (with_reducible refine Own.drew ?_) | (with_reducible refine Own.drewN ?_) | (with_reducible refine Own.alloc ?_) | (with_reducible refine OwnK.drew ?_) | (with_reducible refine OwnK.drewN ?_) | (with_reducible refine OwnK.alloc ?_) | ((with_reducible refine OwnK.put ?_ ?_); · first | omega | (simp; done) | (simp; omega)) | ((with_reducible refine Own.below hb ?_)) | ((with_reducible refine OwnK.below hb ?_))))
  have kw7 : Below w.heap.size w w7 := (by repeat (first | (with_reducible exact Below.refl _ _) | (with_reducible assumption) | (with_reducible refine Below.drew ?_) | (with_reducible refine Below.drewN ?_) | ((with_reducible refine Below.al ?_ ?_); · first | omega | (simp; done) | (simp; omega)) | ((with_reducible refine Below.sc ?_ ?_); · first | omega | (simp; done) | (simp; omega)) | ((with_reducible refine Below.thru hb ?_ ?_); · first | omega | (simp; done) | (simp; omega))))
  have sw7 := kw7.size
  clear hb kw6 s1 s3 s4
  rcases t1.form with ⟨rfl, e⟩ | ⟨g, cp, rfl, -, -, _, _, _⟩
  · subst e
    clear t1 HM HL1
    go_wp2_with fail
    refine wp_loop_rounds 1 ?_
    rw [rounds_succ]
    go_wp2
    go_ret
    exact ⟨rfl, kw7⟩
  · have HO := Lib.hid t1
    have HS := Lib.hid t3.slIn
    clear t1 t3
    go_wp2_with fail
    go_loopw [28] (fun s28 wr => ∃ k : Nat, k ≤ L.length ∧ s28 = .int .i64 k ∧ Below w7.heap.size w7 wr) (fun s28 _ => L.length - (intOf s28).toNat)
    case atStart => exact ⟨0, Nat.zero_le _, rfl, Below.refl _ _⟩
    case round =>
      obtain ⟨k, hk, rfl, kwr⟩ := hrel
      have swr := kwr.size
      by_cases hlt : k < L.length
      · have hm := HM.out L[k] (List.getElem_mem _)
        have HQ := Lib.hid (fun W (hW : Below w7.heap.size w7 W) => OwnT.cells (HO.out.below hW) rfl hlt)
        have HH := Lib.hid (fun W (hW : Below w7.heap.size w7 W) (x : Int) (hx : x ∈ M) => hasInt_mem (w := W) x (HS.out.below hW) (Nat.le_trans HL2.out (by decide)) hx)
        generalize L[k] = t at *
        obtain ⟨m0, m1, m2, m3, m4⟩ := hm
        have HT := Lib.hid (fun w' => IsTriple_t t w')
        rw [m0] at HT
        have hz : decide (n < t.z) = false := decide_eq_false (by omega)
        have i0 : (0 : Int) ≤ (k : Int) := by omega
        have i1 : (k : Int) < (L.length : Int) := by omega
        have M2 := Lib.hid m2
        have M3 := Lib.hid m3
        have M4 := Lib.hid m4
        have HX := Lib.hid hlt
        clear HM HO m0 m1 m2 m3 m4 hk
        have q := HQ.out _ kwr
        go_wp2_with fail
        refine (HT.out _).mono ?_
        rintro e wa ⟨rfl, hb⟩
        have ka : Below w7.heap.size w7 wa := (by repeat (first | (with_reducible exact Below.refl _ _) | (with_reducible assumption) | (with_reducible refine Below.drew ?_) | (with_reducible refine Below.drewN ?_) | ((with_reducible refine Below.al ?_ ?_); · first | omega | (simp; done) | (simp; omega)) | ((with_reducible refine Below.sc ?_ ?_); · first | omega | (simp; done) | (simp; omega)) | ((with_reducible refine Below.thru hb ?_ ?_); · first | omega | (simp; done) | (simp; omega))))
        have sa := ka.size
        clear q hb kwr swr
        have q := HQ.out _ ka
        go_wp2_with fail
        refine (HH.out _ ka _ M2.out).mono ?_
        rintro e wb ⟨rfl, hb⟩
        have kb : Below w7.heap.size w7 wb := (by repeat (first | (with_reducible exact Below.refl _ _) | (with_reducible assumption) | (with_reducible refine Below.drew ?_) | (with_reducible refine Below.drewN ?_) | ((with_reducible refine Below.al ?_ ?_); · first | omega | (simp; done) | (simp; omega)) | ((with_reducible refine Below.sc ?_ ?_); · first | omega | (simp; done) | (simp; omega)) | ((with_reducible refine Below.thru hb ?_ ?_); · first | omega | (simp; done) | (simp; omega))))
        have sb := kb.size
        clear q hb ka sa
        have q := HQ.out _ kb
        go_wp2_with fail
        refine (HH.out _ kb _ M3.out).mono ?_
        rintro e wd ⟨rfl, hb⟩
        have kd : Below w7.heap.size w7 wd := (by repeat (first | (with_reducible exact Below.refl _ _) | (with_reducible assumption) | (with_reducible refine Below.drew ?_) | (with_reducible refine Below.drewN ?_) | ((with_reducible refine Below.al ?_ ?_); · first | omega | (simp; done) | (simp; omega)) | ((with_reducible refine Below.sc ?_ ?_); · first | omega | (simp; done) | (simp; omega)) | ((with_reducible refine Below.thru hb ?_ ?_); · first | omega | (simp; done) | (simp; omega))))
        have sd := kd.size
        clear q hb kb sb
        have q := HQ.out _ kd
        go_wp2_with fail
        refine (HH.out _ kd _ M4.out).mono ?_
        rintro e we ⟨rfl, hb⟩
        have ke : Below w7.heap.size w7 we := (by repeat (first | (with_reducible exact Below.refl _ _) | (with_reducible assumption) | (with_reducible refine Below.drew ?_) | (with_reducible refine Below.drewN ?_) | ((with_reducible refine Below.al ?_ ?_); · first | omega | (simp; done) | (simp; omega)) | ((with_reducible refine Below.sc ?_ ?_); · first | omega | (simp; done) | (simp; omega)) | ((with_reducible refine Below.thru hb ?_ ?_); · first | omega | (simp; done) | (simp; omega))))
        clear q hb kd sd
        have hk40 : (k : Int) + 1 ≤ 1000 := by have h1 := HL1.out; have h2 := HX.out; omega
        go_wp2
        go_roundw
        case rel => exact ⟨k + 1, HX.out, by go_num, ke⟩
        case measure => have h2 := HX.out; simp [intOf]; omega
      · go_wp2
        go_ret
        exact ⟨rfl, Below.thru kwr kw7.size kw7⟩

end Go.Proofs.Ytbmkpcenjjdflaa
