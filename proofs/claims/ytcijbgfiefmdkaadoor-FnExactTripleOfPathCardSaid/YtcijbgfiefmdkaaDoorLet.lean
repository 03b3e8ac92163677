/- Matrices of letters: both walks. -/
import Derived.Test.YtcijbgfiefmdkaaDoorTrim
import Derived.Test.YtcijbgfiefmdkaaDoorRow
import Derived.Test.YtcijbgfiefmdkaaDoor01b
namespace Go.Proofs.YtcijbgfiefmdkaaDoor
open Go.RowKit
open Go.Proofs.YtcijbgfiefmdkaaDoorW.PrintWords
set_option linter.unusedSimpArgs false

/-- The matrix of the letter at a place: b, or else a. -/
def lmb (s : ByteArray) (j : Nat) : M := if bt s (j : Int) = 98 then ⟨3, 2, 4, 3⟩ else ⟨1, 1, 1, 2⟩
def lms (s : ByteArray) (k : Nat) : List M := (List.range k).map (lmb s)
theorem lms_len (s : ByteArray) (k : Nat) : (lms s k).length = k := by simp [lms]
theorem lms_succ (s : ByteArray) (k : Nat) : lms s (k + 1) = lms s k ++ [lmb s k] := by
  unfold lms
  rw [List.range_succ, List.map_append]
  rfl
theorem lmb_ents (s : ByteArray) (j : Nat) : (lmb s j).ents = true := by
  unfold lmb
  split <;> decide
theorem lms_ents (s : ByteArray) (k : Nat) : (lms s k).all M.ents = true := by
  unfold lms
  rw [List.all_map, List.all_eq_true]
  intro j _
  exact lmb_ents s j
theorem lms_get (s : ByteArray) {n k : Nat} (h : k < (lms s n).length) : (lms s n)[k] = lmb s k := by simp [lms]
/-- What the matrix of a word of letters is. -/
def matR (s : ByteArray) : Option M := prodFrom M.one (lms s s.size)
theorem prodRes_form (o : Option M) : ∃ (r : M) (c : Int), prodRes o = .tuple #[mv r, .int .i64 c] := by
  cases o with
  | some r => exact ⟨r, 0, rfl⟩
  | none => exact ⟨⟨0, 0, 0, 0⟩, 3, rfl⟩

def encM : Enc M := ⟨4, fun m => [.int .i64 m.a, .int .i64 m.b, .int .i64 m.c, .int .i64 m.d], fun _ => rfl, by decide, fun x u hu => by simp at hu; rcases hu with rfl | rfl | rfl | rfl <;> rfl⟩
theorem infoM : (Tryd.prog.info? 26).map (fun i => (i.zero, i.size, i.bytes)) = some (some (.agg #[.int .i64 0, .int .i64 0, .int .i64 0, .int .i64 0]), 4, 32) := by kernel_rfl
theorem OwnK.mrow {w : World} {B g n cap : Nat} {ms : List M} (h : OwnK encM 26 w B (.slice (some ⟨g, 0, none⟩) n cap) ms) : MRow w g 0 ms := by
  intro j hj
  have e := fun i u hu => OwnK.at (i := i) (u := u) h rfl (List.getElem?_eq_getElem hj) hu
  have e0 := e 0 _ rfl
  have e1 := e 1 _ rfl
  have e2 := e 2 _ rfl
  have e3 := e 3 _ rfl
  rw [Nat.zero_add]
  exact ⟨e0, e1, e2, e3⟩
theorem Blk.m4 {w : World} {g : Nat} {E : TypeId} {m : M} (h : Blk w g E (mcs m)) : w.frozen? ⟨g, 0, none⟩ = false ∧ w.frozen? ⟨g, 1, none⟩ = false ∧ w.frozen? ⟨g, 2, none⟩ = false ∧ w.frozen? ⟨g, 3, none⟩ = false := h.mf

set_option maxRecDepth 8000 in
set_option maxHeartbeats 2000000 in
theorem ofLetters_any (s : ByteArray) (w : World) (hs : s.size ≤ 400) (hall : allIn s [97, 98] = true) :
    Calls Tryd.prog 22 #[.string s] w fun e w' => e = .returned (prodRes (matR s)) ∧ Below w.heap.size w w' := by
  have HINF := Lib.hid (info_parts infoM)
  have HA := Lib.hid (allIn_iff.1 hall)
  have HM := Lib.hid (show matR s = prodFrom M.one (lms s s.size) from rfl)
  obtain ⟨r, cd, hrc⟩ := prodRes_form (matR s)
  rw [hrc]
  have HRC := Lib.hid hrc
  clear hall hrc
  go_enter Tryd.func22, Tryd.ntmps22
  go_wp2_with fail
  refine forget (fun W_ => OwnK encM 26 W_ (w.heap.size + 1) (.slice (some ⟨w.heap.size + 1, 0, none⟩) 0 0) [] ∧ Blk W_ w.heap.size 26 (mcs ⟨0, 0, 0, 0⟩) ∧ Below w.heap.size w W_) ⟨OwnK.of_blk (xs := []) (cs := #[]) (Blk.new (by simp)) (Nat.le_refl _) rfl (by simp [maxLen]), (by repeat (first | (with_reducible assumption) | ((with_reducible refine Blk.new ?_); · first | omega | (simp; done) | (simp; omega)) | (with_reducible apply Blk.set4) | (with_reducible apply Blk.set3) | (with_reducible apply Blk.set2) | ((with_reducible refine Blk.put ?_ ?_); · first | omega | (simp; omega)) | (with_reducible refine Blk.old ?_) | (with_reducible refine Blk.drew ?_) | (with_reducible refine Blk.drewN ?_) | ((with_reducible refine Blk.below hb ?_ ?_); · first | omega | (simp; done) | (simp; omega)))), (by repeat (first | (with_reducible exact Below.refl _ _) | (with_reducible assumption) | (with_reducible refine Below.drew ?_) | (with_reducible refine Below.drewN ?_) | ((with_reducible refine Below.al ?_ ?_); · first | omega | (simp; done) | (simp; omega)) | ((with_reducible refine Below.sc ?_ ?_); · first | omega | (simp; done) | (simp; omega)) | ((with_reducible refine Below.thru hb ?_ ?_); · first | omega | (simp; done) | (simp; omega))))⟩ ?_
  rintro w0 ⟨O0, B0, k0⟩
  go_loopw [4, 9] (fun v kk wr => ∃ (k g c : Nat), k ≤ s.size ∧ kk = .int .i64 k ∧ v = .slice (some ⟨g, 0, none⟩) k c ∧ OwnK encM 26 wr (w.heap.size + 1) (.slice (some ⟨g, 0, none⟩) k c) (lms s k) ∧ Blk wr w.heap.size 26 (mcs ⟨0, 0, 0, 0⟩) ∧ Below w.heap.size w wr) (fun _ kk _ => s.size - (intOf kk).toNat)
  case atStart => exact ⟨0, _, _, Nat.zero_le _, rfl, rfl, O0, B0, k0⟩
  case round =>
    clear O0 B0 k0
    obtain ⟨k, g, c, hk, rfl, rfl, O, B, kwr⟩ := hrel
    have swr := kwr.size
    have lB := B.lt
    by_cases hlt : k < s.size
    · have i0 : (0 : Int) ≤ (k : Int) := by omega
      have i1 : (k : Int) < (s.size : Int) := by omega
      have HX := Lib.hid (lms_succ s k)
      have hbt := bt_get hlt
      have hor := HA.out k hlt
      rw [hbt] at hor
      obtain ⟨jM, hinf⟩ := HINF.out
      replace hinf := Lib.hid hinf
      have hL := lms_len s k
      have HL := Lib.hid hL
      clear hL
      by_cases h97 : (s[k].toNat : Int) = 97
      · have HV := Lib.hid (show lmb s k = ⟨1, 1, 1, 2⟩ by unfold lmb; rw [hbt, if_neg (by omega)])
        clear hbt hor
        go_wp2_with (at_builtin; refine wpList_app encM rfl _ _ 53 26 32 rfl Tryd.underlying53 jM _ hinf.out.1 hinf.out.2.1 hinf.out.2.2.1 hinf.out.2.2.2 rfl (.slice (some ⟨g, 0, none⟩) k c) (lms s k) (w.heap.size + 1) wr.heap.size 1 #[.int .i64 1, .int .i64 1, .int .i64 1, .int .i64 2] [⟨1, 1, 1, 2⟩] rfl ?o1 rfl ?b1 rfl ?l1 ?l2 (by simp; omega) ?_)
        case o1 => exact O.alloc
        case b1 => exact Blk.new (by simp)
        case l1 => (try simp only [List.length_cons, List.length_nil]); have := HL.out; unfold maxLen; omega
        case l2 => (try simp only [List.length_cons, List.length_nil]); have := HL.out; omega
        intro v' w5 O5 hg
        rw [← HV.out, ← HX.out] at O5
        have B5 : Blk w5 w.heap.size 26 (mcs ⟨0, 0, 0, 0⟩) := Blk.grownK hg (e := encM) (E := 26) (B := w.heap.size + 1) (xs := lms s k) O.alloc (by omega) (Blk.old B)
        have k5 : Below w.heap.size w w5 := Below.grownK hg (e := encM) (E := 26) (B := w.heap.size + 1) (xs := lms s k) O.alloc (by omega) (by simp; omega) (by repeat (first | (with_reducible exact Below.refl _ _) | (with_reducible assumption) | (with_reducible refine Below.drew ?_) | (with_reducible refine Below.drewN ?_) | ((with_reducible refine Below.al ?_ ?_); · first | omega | (simp; done) | (simp; omega)) | ((with_reducible refine Below.sc ?_ ?_); · first | omega | (simp; done) | (simp; omega)) | ((with_reducible refine Below.thru hb ?_ ?_); · first | omega | (simp; done) | (simp; omega))))
        rcases O5.form with ⟨-, h2⟩ | ⟨g', c', h1, -⟩
        · rw [HX.out] at h2; simp at h2
        rw [lms_len] at h1
        subst h1
        clear hg
        go_wp2
        go_roundw
        case rel => exact ⟨k + 1, g', c', by omega, by go_num, rfl, O5, B5, k5⟩
        case measure => simp [intOf]; omega
      · have h98 : (s[k].toNat : Int) = 98 := by rcases hor with h | h; exact absurd h h97; exact h
        have HV := Lib.hid (show lmb s k = ⟨3, 2, 4, 3⟩ by unfold lmb; rw [hbt, if_pos (by omega)])
        clear hbt hor
        go_wp2_with (at_builtin; refine wpList_app encM rfl _ _ 53 26 32 rfl Tryd.underlying53 jM _ hinf.out.1 hinf.out.2.1 hinf.out.2.2.1 hinf.out.2.2.2 rfl (.slice (some ⟨g, 0, none⟩) k c) (lms s k) (w.heap.size + 1) wr.heap.size 1 #[.int .i64 3, .int .i64 2, .int .i64 4, .int .i64 3] [⟨3, 2, 4, 3⟩] rfl ?o2 rfl ?b2 rfl ?l3 ?l4 (by simp; omega) ?_)
        case o2 => exact O.alloc
        case b2 => exact Blk.new (by simp)
        case l3 => (try simp only [List.length_cons, List.length_nil]); have := HL.out; unfold maxLen; omega
        case l4 => (try simp only [List.length_cons, List.length_nil]); have := HL.out; omega
        intro v' w5 O5 hg
        rw [← HV.out, ← HX.out] at O5
        have B5 : Blk w5 w.heap.size 26 (mcs ⟨0, 0, 0, 0⟩) := Blk.grownK hg (e := encM) (E := 26) (B := w.heap.size + 1) (xs := lms s k) O.alloc (by omega) (Blk.old B)
        have k5 : Below w.heap.size w w5 := Below.grownK hg (e := encM) (E := 26) (B := w.heap.size + 1) (xs := lms s k) O.alloc (by omega) (by simp; omega) (by repeat (first | (with_reducible exact Below.refl _ _) | (with_reducible assumption) | (with_reducible refine Below.drew ?_) | (with_reducible refine Below.drewN ?_) | ((with_reducible refine Below.al ?_ ?_); · first | omega | (simp; done) | (simp; omega)) | ((with_reducible refine Below.sc ?_ ?_); · first | omega | (simp; done) | (simp; omega)) | ((with_reducible refine Below.thru hb ?_ ?_); · first | omega | (simp; done) | (simp; omega))))
        rcases O5.form with ⟨-, h2⟩ | ⟨g', c', h1, -⟩
        · rw [HX.out] at h2; simp at h2
        rw [lms_len] at h1
        subst h1
        clear hg
        go_wp2
        go_roundw
        case rel => exact ⟨k + 1, g', c', by omega, by go_num, rfl, O5, B5, k5⟩
        case measure => simp [intOf]; omega
    · obtain rfl : k = s.size := by omega
      have HR := Lib.hid O.mrow
      have hle : (lms s s.size).length ≤ 1000000 := by rw [lms_len]; omega
      have HE := Lib.hid (lms_ents s s.size)
      have HC := Lib.hid (fun (w' : World) (hx : MRow w' g 0 (lms s s.size)) => product_any g 0 c (lms s s.size) w' hle hx HE.out)
      rw [← HM.out, lms_len] at HC
      rw [HRC.out] at HC
      clear hle O
      go_wp2_with fail
      refine (HC.out _ HR.out).mono ?_
      rintro e w6 ⟨rfl, hb⟩
      have B6 : Blk w6 w.heap.size 26 (mcs ⟨0, 0, 0, 0⟩) := (by repeat (first | (with_reducible assumption) | ((with_reducible refine Blk.new ?_); · first | omega | (simp; done) | (simp; omega)) | (with_reducible apply Blk.set4) | (with_reducible apply Blk.set3) | (with_reducible apply Blk.set2) | ((with_reducible refine Blk.put ?_ ?_); · first | omega | (simp; omega)) | (with_reducible refine Blk.old ?_) | (with_reducible refine Blk.drew ?_) | (with_reducible refine Blk.drewN ?_) | ((with_reducible refine Blk.below hb ?_ ?_); · first | omega | (simp; done) | (simp; omega))))
      have k6 : Below w.heap.size w w6 := (by repeat (first | (with_reducible exact Below.refl _ _) | (with_reducible assumption) | (with_reducible refine Below.drew ?_) | (with_reducible refine Below.drewN ?_) | ((with_reducible refine Below.al ?_ ?_); · first | omega | (simp; done) | (simp; omega)) | ((with_reducible refine Below.sc ?_ ?_); · first | omega | (simp; done) | (simp; omega)) | ((with_reducible refine Below.thru hb ?_ ?_); · first | omega | (simp; done) | (simp; omega))))
      have b6 := B6.m
      have f6 := B6.m4
      have lB6 := B6.lt
      clear hb
      go_wp2
      refine ret_at (v := .tuple #[mv r, .int .i64 cd]) (fun w' => Blk w' (w.heap.size) 26 (mcs r)) (by repeat (first | (with_reducible assumption) | ((with_reducible refine Blk.new ?_); · first | omega | (simp; done) | (simp; omega)) | (with_reducible apply Blk.set4) | (with_reducible apply Blk.set3) | (with_reducible apply Blk.set2) | ((with_reducible refine Blk.put ?_ ?_); · first | omega | (simp; omega)) | (with_reducible refine Blk.old ?_) | (with_reducible refine Blk.drew ?_) | (with_reducible refine Blk.drewN ?_) | ((with_reducible refine Blk.below hb ?_ ?_); · first | omega | (simp; done) | (simp; omega)))) (fun w' hB => by have q := hB.m; simp [results, Tryd.results22, go_sem, q]) rfl ?_
      exact ⟨rfl, (by repeat (first | (with_reducible exact Below.refl _ _) | (with_reducible assumption) | (with_reducible refine Below.drew ?_) | (with_reducible refine Below.drewN ?_) | ((with_reducible refine Below.al ?_ ?_); · first | omega | (simp; done) | (simp; omega)) | ((with_reducible refine Below.sc ?_ ?_); · first | omega | (simp; done) | (simp; omega)) | ((with_reducible refine Below.thru hb ?_ ?_); · first | omega | (simp; done) | (simp; omega))))⟩

set_option maxRecDepth 8000 in
set_option maxHeartbeats 2000000 in
theorem l09Matrix_any (s : ByteArray) (w : World) (hs : s.size ≤ 400) :
    Calls Tryd.prog 20 #[.string s] w fun e w' => e = .returned (prodRes (matR s)) ∧ Below w.heap.size w w' := by
  have HM := Lib.hid (show matR s = prodFrom M.one (lms s s.size) from rfl)
  go_enter Tryd.func20, Tryd.ntmps20
  go_wp2_with fail
  refine forget (fun W_ => Blk W_ (w.heap.size + 1) 26 (mcs M.one) ∧ Blk W_ w.heap.size 26 (mcs ⟨0, 0, 0, 0⟩) ∧ Below w.heap.size w W_) ⟨(by repeat (first | (with_reducible assumption) | ((with_reducible refine Blk.new ?_); · first | omega | (simp; done) | (simp; omega)) | (with_reducible apply Blk.set4) | (with_reducible apply Blk.set3) | (with_reducible apply Blk.set2) | ((with_reducible refine Blk.put ?_ ?_); · first | omega | (simp; omega)) | (with_reducible refine Blk.old ?_) | (with_reducible refine Blk.drew ?_) | (with_reducible refine Blk.drewN ?_) | ((with_reducible refine Blk.below hb ?_ ?_); · first | omega | (simp; done) | (simp; omega)))), (by repeat (first | (with_reducible assumption) | ((with_reducible refine Blk.new ?_); · first | omega | (simp; done) | (simp; omega)) | (with_reducible apply Blk.set4) | (with_reducible apply Blk.set3) | (with_reducible apply Blk.set2) | ((with_reducible refine Blk.put ?_ ?_); · first | omega | (simp; omega)) | (with_reducible refine Blk.old ?_) | (with_reducible refine Blk.drew ?_) | (with_reducible refine Blk.drewN ?_) | ((with_reducible refine Blk.below hb ?_ ?_); · first | omega | (simp; done) | (simp; omega)))), (by repeat (first | (with_reducible exact Below.refl _ _) | (with_reducible assumption) | (with_reducible refine Below.drew ?_) | (with_reducible refine Below.drewN ?_) | ((with_reducible refine Below.al ?_ ?_); · first | omega | (simp; done) | (simp; omega)) | ((with_reducible refine Below.sc ?_ ?_); · first | omega | (simp; done) | (simp; omega)) | ((with_reducible refine Below.thru hb ?_ ?_); · first | omega | (simp; done) | (simp; omega))))⟩ ?_
  rintro w0 ⟨B1, B0, k0⟩
  go_loopw [5] (fun kk wr => ∃ (k : Nat) (m : M), k ≤ s.size ∧ kk = .int .i64 k ∧ Hid (matR s = prodFrom m ((lms s s.size).drop k)) ∧ m.ents = true ∧ Blk wr (w.heap.size + 1) 26 (mcs m) ∧ Blk wr w.heap.size 26 (mcs ⟨0, 0, 0, 0⟩) ∧ Below w.heap.size w wr) (fun kk _ => s.size - (intOf kk).toNat)
  case atStart => exact ⟨0, M.one, Nat.zero_le _, rfl, Lib.hid rfl, by decide, B1, B0, k0⟩
  case round =>
    clear B0 B1 k0
    obtain ⟨k, m, hk, rfl, hp, hme, B1, B0, kwr⟩ := hrel
    have swr := kwr.size
    have lB := B1.lt
    have lB0 := B0.lt
    have b1 := B1.m
    have fb1 := B1.m4
    by_cases hlt : k < s.size
    · have i0 : (0 : Int) ≤ (k : Int) := by omega
      have i1 : (k : Int) < (s.size : Int) := by omega
      have hbt := bt_get hlt
      have hdr : (lms s s.size).drop k = lmb s k :: (lms s s.size).drop (k + 1) := by
        rw [List.drop_eq_getElem_cons (by rw [lms_len]; exact hlt), lms_get]
      have HQ := Lib.hid (show matR s = if (m.mul (lmb s k)).ents then prodFrom (m.mul (lmb s k)) ((lms s s.size).drop (k + 1)) else none by rw [hp.out, hdr, prodFrom_cons])
      have hle := lmb_ents s k
      clear hdr hp
      by_cases h98 : (s[k].toNat : Int) = 98
      · have hv : lmb s k = ⟨3, 2, 4, 3⟩ := by unfold lmb; rw [hbt, if_pos h98]
        rw [hv] at HQ hle
        clear hbt hv
        cases he : (m.mul ⟨3, 2, 4, 3⟩).ents with
        | true =>
          have HT := Lib.hid (fun w' : World => l01Times_yes m ⟨3, 2, 4, 3⟩ w' hme hle he)
          rw [he, if_pos rfl] at HQ
          generalize m.mul ⟨3, 2, 4, 3⟩ = m2 at *
          go_wp2_with fail
          refine (HT.out _).mono ?_
          rintro e w2 ⟨rfl, hb⟩
          have C1 : Blk w2 (w.heap.size + 1) 26 (mcs m) := (by repeat (first | (with_reducible assumption) | ((with_reducible refine Blk.new ?_); · first | omega | (simp; done) | (simp; omega)) | (with_reducible apply Blk.set4) | (with_reducible apply Blk.set3) | (with_reducible apply Blk.set2) | ((with_reducible refine Blk.put ?_ ?_); · first | omega | (simp; omega)) | (with_reducible refine Blk.old ?_) | (with_reducible refine Blk.drew ?_) | (with_reducible refine Blk.drewN ?_) | ((with_reducible refine Blk.below hb ?_ ?_); · first | omega | (simp; done) | (simp; omega))))
          have C0 : Blk w2 w.heap.size 26 (mcs ⟨0, 0, 0, 0⟩) := (by repeat (first | (with_reducible assumption) | ((with_reducible refine Blk.new ?_); · first | omega | (simp; done) | (simp; omega)) | (with_reducible apply Blk.set4) | (with_reducible apply Blk.set3) | (with_reducible apply Blk.set2) | ((with_reducible refine Blk.put ?_ ?_); · first | omega | (simp; omega)) | (with_reducible refine Blk.old ?_) | (with_reducible refine Blk.drew ?_) | (with_reducible refine Blk.drewN ?_) | ((with_reducible refine Blk.below hb ?_ ?_); · first | omega | (simp; done) | (simp; omega))))
          have k2 : Below w.heap.size w w2 := (by repeat (first | (with_reducible exact Below.refl _ _) | (with_reducible assumption) | (with_reducible refine Below.drew ?_) | (with_reducible refine Below.drewN ?_) | ((with_reducible refine Below.al ?_ ?_); · first | omega | (simp; done) | (simp; omega)) | ((with_reducible refine Below.sc ?_ ?_); · first | omega | (simp; done) | (simp; omega)) | ((with_reducible refine Below.thru hb ?_ ?_); · first | omega | (simp; done) | (simp; omega))))
          have s2 := k2.size
          have lC := C1.lt
          have hbs := hb.size
          simp at hbs
          have c1 := C1.m
          have g1 := C1.m4
          clear hb B1 B0 kwr b1 fb1
          go_wp2
          go_roundw
          case rel => exact ⟨k + 1, m2, by omega, by go_num, HQ, he, (by repeat (first | (with_reducible assumption) | ((with_reducible refine Blk.new ?_); · first | omega | (simp; done) | (simp; omega)) | (with_reducible apply Blk.set4) | (with_reducible apply Blk.set3) | (with_reducible apply Blk.set2) | ((with_reducible refine Blk.put ?_ ?_); · first | omega | (simp; omega)) | (with_reducible refine Blk.old ?_) | (with_reducible refine Blk.drew ?_) | (with_reducible refine Blk.drewN ?_) | ((with_reducible refine Blk.below hb ?_ ?_); · first | omega | (simp; done) | (simp; omega)))), (by repeat (first | (with_reducible assumption) | ((with_reducible refine Blk.new ?_); · first | omega | (simp; done) | (simp; omega)) | (with_reducible apply Blk.set4) | (with_reducible apply Blk.set3) | (with_reducible apply Blk.set2) | ((with_reducible refine Blk.put ?_ ?_); · first | omega | (simp; omega)) | (with_reducible refine Blk.old ?_) | (with_reducible refine Blk.drew ?_) | (with_reducible refine Blk.drewN ?_) | ((with_reducible refine Blk.below hb ?_ ?_); · first | omega | (simp; done) | (simp; omega)))), (by repeat (first | (with_reducible exact Below.refl _ _) | (with_reducible assumption) | (with_reducible refine Below.drew ?_) | (with_reducible refine Below.drewN ?_) | ((with_reducible refine Below.al ?_ ?_); · first | omega | (simp; done) | (simp; omega)) | ((with_reducible refine Below.sc ?_ ?_); · first | omega | (simp; done) | (simp; omega)) | ((with_reducible refine Below.thru hb ?_ ?_); · first | omega | (simp; done) | (simp; omega))))⟩
          case measure => simp [intOf]; omega
        | false =>
          have HT := Lib.hid (fun w' : World => l01Times_no m ⟨3, 2, 4, 3⟩ w' hme hle he)
          rw [he, if_neg Bool.false_ne_true] at HQ
          clear he
          go_wp2_with fail
          refine (HT.out _).mono ?_
          rintro e w2 ⟨rfl, hb⟩
          have C0 : Blk w2 w.heap.size 26 (mcs ⟨0, 0, 0, 0⟩) := (by repeat (first | (with_reducible assumption) | ((with_reducible refine Blk.new ?_); · first | omega | (simp; done) | (simp; omega)) | (with_reducible apply Blk.set4) | (with_reducible apply Blk.set3) | (with_reducible apply Blk.set2) | ((with_reducible refine Blk.put ?_ ?_); · first | omega | (simp; omega)) | (with_reducible refine Blk.old ?_) | (with_reducible refine Blk.drew ?_) | (with_reducible refine Blk.drewN ?_) | ((with_reducible refine Blk.below hb ?_ ?_); · first | omega | (simp; done) | (simp; omega))))
          have k2 : Below w.heap.size w w2 := (by repeat (first | (with_reducible exact Below.refl _ _) | (with_reducible assumption) | (with_reducible refine Below.drew ?_) | (with_reducible refine Below.drewN ?_) | ((with_reducible refine Below.al ?_ ?_); · first | omega | (simp; done) | (simp; omega)) | ((with_reducible refine Below.sc ?_ ?_); · first | omega | (simp; done) | (simp; omega)) | ((with_reducible refine Below.thru hb ?_ ?_); · first | omega | (simp; done) | (simp; omega))))
          have s2 := k2.size
          have lC0 := C0.lt
          have hbs := hb.size
          simp at hbs
          have c0 := C0.m
          have g0 := C0.m4
          clear hb B1 B0 kwr b1 fb1
          go_wp2
          refine ret_at (v := .tuple #[mv ⟨0, 0, 0, 0⟩, .int .i64 3]) (fun w' => Blk w' (w.heap.size) 26 (mcs ⟨0, 0, 0, 0⟩)) (by repeat (first | (with_reducible assumption) | ((with_reducible refine Blk.new ?_); · first | omega | (simp; done) | (simp; omega)) | (with_reducible apply Blk.set4) | (with_reducible apply Blk.set3) | (with_reducible apply Blk.set2) | ((with_reducible refine Blk.put ?_ ?_); · first | omega | (simp; omega)) | (with_reducible refine Blk.old ?_) | (with_reducible refine Blk.drew ?_) | (with_reducible refine Blk.drewN ?_) | ((with_reducible refine Blk.below hb ?_ ?_); · first | omega | (simp; done) | (simp; omega)))) (fun w' hB => by have q := hB.m; simp [results, Tryd.results20, go_sem, q]) rfl ?_
          exact ⟨by rw [HQ.out]; rfl, (by repeat (first | (with_reducible exact Below.refl _ _) | (with_reducible assumption) | (with_reducible refine Below.drew ?_) | (with_reducible refine Below.drewN ?_) | ((with_reducible refine Below.al ?_ ?_); · first | omega | (simp; done) | (simp; omega)) | ((with_reducible refine Below.sc ?_ ?_); · first | omega | (simp; done) | (simp; omega)) | ((with_reducible refine Below.thru hb ?_ ?_); · first | omega | (simp; done) | (simp; omega))))⟩
      · have hv : lmb s k = ⟨1, 1, 1, 2⟩ := by unfold lmb; rw [hbt, if_neg h98]
        rw [hv] at HQ hle
        clear hbt hv
        cases he : (m.mul ⟨1, 1, 1, 2⟩).ents with
        | true =>
          have HT := Lib.hid (fun w' : World => l01Times_yes m ⟨1, 1, 1, 2⟩ w' hme hle he)
          rw [he, if_pos rfl] at HQ
          generalize m.mul ⟨1, 1, 1, 2⟩ = m2 at *
          go_wp2_with fail
          refine (HT.out _).mono ?_
          rintro e w2 ⟨rfl, hb⟩
          have C1 : Blk w2 (w.heap.size + 1) 26 (mcs m) := (by repeat (first | (with_reducible assumption) | ((with_reducible refine Blk.new ?_); · first | omega | (simp; done) | (simp; omega)) | (with_reducible apply Blk.set4) | (with_reducible apply Blk.set3) | (with_reducible apply Blk.set2) | ((with_reducible refine Blk.put ?_ ?_); · first | omega | (simp; omega)) | (with_reducible refine Blk.old ?_) | (with_reducible refine Blk.drew ?_) | (with_reducible refine Blk.drewN ?_) | ((with_reducible refine Blk.below hb ?_ ?_); · first | omega | (simp; done) | (simp; omega))))
          have C0 : Blk w2 w.heap.size 26 (mcs ⟨0, 0, 0, 0⟩) := (by repeat (first | (with_reducible assumption) | ((with_reducible refine Blk.new ?_); · first | omega | (simp; done) | (simp; omega)) | (with_reducible apply Blk.set4) | (with_reducible apply Blk.set3) | (with_reducible apply Blk.set2) | ((with_reducible refine Blk.put ?_ ?_); · first | omega | (simp; omega)) | (with_reducible refine Blk.old ?_) | (with_reducible refine Blk.drew ?_) | (with_reducible refine Blk.drewN ?_) | ((with_reducible refine Blk.below hb ?_ ?_); · first | omega | (simp; done) | (simp; omega))))
          have k2 : Below w.heap.size w w2 := (by repeat (first | (with_reducible exact Below.refl _ _) | (with_reducible assumption) | (with_reducible refine Below.drew ?_) | (with_reducible refine Below.drewN ?_) | ((with_reducible refine Below.al ?_ ?_); · first | omega | (simp; done) | (simp; omega)) | ((with_reducible refine Below.sc ?_ ?_); · first | omega | (simp; done) | (simp; omega)) | ((with_reducible refine Below.thru hb ?_ ?_); · first | omega | (simp; done) | (simp; omega))))
          have s2 := k2.size
          have lC := C1.lt
          have hbs := hb.size
          simp at hbs
          have c1 := C1.m
          have g1 := C1.m4
          clear hb B1 B0 kwr b1 fb1
          go_wp2
          go_roundw
          case rel => exact ⟨k + 1, m2, by omega, by go_num, HQ, he, (by repeat (first | (with_reducible assumption) | ((with_reducible refine Blk.new ?_); · first | omega | (simp; done) | (simp; omega)) | (with_reducible apply Blk.set4) | (with_reducible apply Blk.set3) | (with_reducible apply Blk.set2) | ((with_reducible refine Blk.put ?_ ?_); · first | omega | (simp; omega)) | (with_reducible refine Blk.old ?_) | (with_reducible refine Blk.drew ?_) | (with_reducible refine Blk.drewN ?_) | ((with_reducible refine Blk.below hb ?_ ?_); · first | omega | (simp; done) | (simp; omega)))), (by repeat (first | (with_reducible assumption) | ((with_reducible refine Blk.new ?_); · first | omega | (simp; done) | (simp; omega)) | (with_reducible apply Blk.set4) | (with_reducible apply Blk.set3) | (with_reducible apply Blk.set2) | ((with_reducible refine Blk.put ?_ ?_); · first | omega | (simp; omega)) | (with_reducible refine Blk.old ?_) | (with_reducible refine Blk.drew ?_) | (with_reducible refine Blk.drewN ?_) | ((with_reducible refine Blk.below hb ?_ ?_); · first | omega | (simp; done) | (simp; omega)))), (by repeat (first | (with_reducible exact Below.refl _ _) | (with_reducible assumption) | (with_reducible refine Below.drew ?_) | (with_reducible refine Below.drewN ?_) | ((with_reducible refine Below.al ?_ ?_); · first | omega | (simp; done) | (simp; omega)) | ((with_reducible refine Below.sc ?_ ?_); · first | omega | (simp; done) | (simp; omega)) | ((with_reducible refine Below.thru hb ?_ ?_); · first | omega | (simp; done) | (simp; omega))))⟩
          case measure => simp [intOf]; omega
        | false =>
          have HT := Lib.hid (fun w' : World => l01Times_no m ⟨1, 1, 1, 2⟩ w' hme hle he)
          rw [he, if_neg Bool.false_ne_true] at HQ
          clear he
          go_wp2_with fail
          refine (HT.out _).mono ?_
          rintro e w2 ⟨rfl, hb⟩
          have C0 : Blk w2 w.heap.size 26 (mcs ⟨0, 0, 0, 0⟩) := (by repeat (first | (with_reducible assumption) | ((with_reducible refine Blk.new ?_); · first | omega | (simp; done) | (simp; omega)) | (with_reducible apply Blk.set4) | (with_reducible apply Blk.set3) | (with_reducible apply Blk.set2) | ((with_reducible refine Blk.put ?_ ?_); · first | omega | (simp; omega)) | (with_reducible refine Blk.old ?_) | (with_reducible refine Blk.drew ?_) | (with_reducible refine Blk.drewN ?_) | ((with_reducible refine Blk.below hb ?_ ?_); · first | omega | (simp; done) | (simp; omega))))
          have k2 : Below w.heap.size w w2 := (by repeat (first | (with_reducible exact Below.refl _ _) | (with_reducible assumption) | (with_reducible refine Below.drew ?_) | (with_reducible refine Below.drewN ?_) | ((with_reducible refine Below.al ?_ ?_); · first | omega | (simp; done) | (simp; omega)) | ((with_reducible refine Below.sc ?_ ?_); · first | omega | (simp; done) | (simp; omega)) | ((with_reducible refine Below.thru hb ?_ ?_); · first | omega | (simp; done) | (simp; omega))))
          have s2 := k2.size
          have lC0 := C0.lt
          have hbs := hb.size
          simp at hbs
          have c0 := C0.m
          have g0 := C0.m4
          clear hb B1 B0 kwr b1 fb1
          go_wp2
          refine ret_at (v := .tuple #[mv ⟨0, 0, 0, 0⟩, .int .i64 3]) (fun w' => Blk w' (w.heap.size) 26 (mcs ⟨0, 0, 0, 0⟩)) (by repeat (first | (with_reducible assumption) | ((with_reducible refine Blk.new ?_); · first | omega | (simp; done) | (simp; omega)) | (with_reducible apply Blk.set4) | (with_reducible apply Blk.set3) | (with_reducible apply Blk.set2) | ((with_reducible refine Blk.put ?_ ?_); · first | omega | (simp; omega)) | (with_reducible refine Blk.old ?_) | (with_reducible refine Blk.drew ?_) | (with_reducible refine Blk.drewN ?_) | ((with_reducible refine Blk.below hb ?_ ?_); · first | omega | (simp; done) | (simp; omega)))) (fun w' hB => by have q := hB.m; simp [results, Tryd.results20, go_sem, q]) rfl ?_
          exact ⟨by rw [HQ.out]; rfl, (by repeat (first | (with_reducible exact Below.refl _ _) | (with_reducible assumption) | (with_reducible refine Below.drew ?_) | (with_reducible refine Below.drewN ?_) | ((with_reducible refine Below.al ?_ ?_); · first | omega | (simp; done) | (simp; omega)) | ((with_reducible refine Below.sc ?_ ?_); · first | omega | (simp; done) | (simp; omega)) | ((with_reducible refine Below.thru hb ?_ ?_); · first | omega | (simp; done) | (simp; omega))))⟩
    · obtain rfl : k = s.size := by omega
      have HQ := Lib.hid (show matR s = some m by rw [hp.out, List.drop_of_length_le (by rw [lms_len]; exact Nat.le_refl _), prodFrom_nil])
      have b0 := B0.m
      have g0 := B0.m4
      clear hp
      go_wp2
      refine ret_at (v := .tuple #[mv m, .int .i64 0]) (fun w' => Blk w' (w.heap.size) 26 (mcs m)) (by repeat (first | (with_reducible assumption) | ((with_reducible refine Blk.new ?_); · first | omega | (simp; done) | (simp; omega)) | (with_reducible apply Blk.set4) | (with_reducible apply Blk.set3) | (with_reducible apply Blk.set2) | ((with_reducible refine Blk.put ?_ ?_); · first | omega | (simp; omega)) | (with_reducible refine Blk.old ?_) | (with_reducible refine Blk.drew ?_) | (with_reducible refine Blk.drewN ?_) | ((with_reducible refine Blk.below hb ?_ ?_); · first | omega | (simp; done) | (simp; omega)))) (fun w' hB => by have q := hB.m; simp [results, Tryd.results20, go_sem, q]) rfl ?_
      exact ⟨by rw [HQ.out]; rfl, (by repeat (first | (with_reducible exact Below.refl _ _) | (with_reducible assumption) | (with_reducible refine Below.drew ?_) | (with_reducible refine Below.drewN ?_) | ((with_reducible refine Below.al ?_ ?_); · first | omega | (simp; done) | (simp; omega)) | ((with_reducible refine Below.sc ?_ ?_); · first | omega | (simp; done) | (simp; omega)) | ((with_reducible refine Below.thru hb ?_ ?_); · first | omega | (simp; done) | (simp; omega))))⟩

end Go.Proofs.YtcijbgfiefmdkaaDoor
