/- The line of a level and the cosets: the walks of the reference -/
import Derived.Test.YtjjbaebddkejnaaMv
namespace Go.Proofs.Ytjjbaebddkejnaa
open Go.RowKit
set_option linter.unusedSimpArgs false

/-- A slice as it lies in a cell. -/
structure Sl where
  ao : Option Addr
  n : Nat
  c : Nat
abbrev Sl.v (s : Sl) : Value := .slice s.ao s.n s.c
def encV : Enc Sl := ⟨1, fun x => [x.v], fun _ => rfl, by decide, fun x u hu => by simp at hu; subst hu; rfl⟩
theorem infoSl : (Try.prog.info? 25).map (fun i => (i.zero, i.size, i.bytes)) = some (some (.slice none 0 0), 1, 24) := by kernel_rfl
/-- The rows lie in blocks of their own, from B on. -/
def RowS (w : World) (B : Nat) : List Sl → List (List Nat) → Prop
  | [], [] => True
  | s :: vs, c :: cs => Own w B s.v (c.map Int.ofNat) ∧ (∀ t ∈ vs, ∀ g, s.v.ownBlock = some g → t.v.ownBlock ≠ some g) ∧ RowS w B vs cs
  | [], _ :: _ => False
  | _ :: _, [] => False
theorem RowS.len {w : World} {B : Nat} : ∀ {vs : List Sl} {cs : List (List Nat)}, RowS w B vs cs → vs.length = cs.length
  | [], [], _ => rfl
  | _ :: _, _ :: _, h => by simp [RowS.len h.2.2]
  | [], _ :: _, h => h.elim
  | _ :: _, [], h => h.elim
theorem RowS.same {w w' : World} {B : Nat} : ∀ {vs : List Sl} {cs : List (List Nat)}, RowS w B vs cs → (∀ t ∈ vs, ∀ g, t.v.ownBlock = some g → w'.heap[g]? = w.heap[g]?) → RowS w' B vs cs
  | [], [], _, _ => trivial
  | _ :: _, _ :: _, h, hs => ⟨h.1.same (hs _ (by simp)), h.2.1, h.2.2.same fun t ht => hs t (by simp [ht])⟩
  | [], _ :: _, h, _ => h.elim
  | _ :: _, [], h, _ => h.elim
theorem RowS.lt {w : World} {B : Nat} : ∀ {vs : List Sl} {cs : List (List Nat)}, RowS w B vs cs → ∀ t ∈ vs, ∀ g, t.v.ownBlock = some g → B ≤ g ∧ g < w.heap.size
  | [], [], _ => fun t ht => by cases ht
  | _ :: _, _ :: _, h => fun t ht g hg => by
    rcases List.mem_cons.1 ht with rfl | ht
    · exact h.1.lt hg
    · exact RowS.lt h.2.2 t ht g hg
  | [], _ :: _, h => h.elim
  | _ :: _, [], h => h.elim
theorem RowS.below {w w' : World} {B : Nat} {vs : List Sl} {cs : List (List Nat)} (h : RowS w B vs cs) (hb : Below w.heap.size w w') : RowS w' B vs cs :=
  h.same fun t ht g hg => hb.block _ (h.lt t ht g hg).2
theorem RowS.mono {w : World} {B B' : Nat} (hB : B' ≤ B) : ∀ {vs : List Sl} {cs : List (List Nat)}, RowS w B vs cs → RowS w B' vs cs
  | [], [], _ => trivial
  | _ :: _, _ :: _, h => ⟨h.1.mono hB, h.2.1, RowS.mono hB h.2.2⟩
  | [], _ :: _, h => h.elim
  | _ :: _, [], h => h.elim
theorem RowS.snoc {w : World} {B : Nat} {s : Sl} {c : List Nat} (hs : Own w B s.v (c.map Int.ofNat)) : ∀ {vs : List Sl} {cs : List (List Nat)}, RowS w B vs cs →
    (∀ t ∈ vs, ∀ g, t.v.ownBlock = some g → s.v.ownBlock ≠ some g) → RowS w B (vs ++ [s]) (cs ++ [c])
  | [], [], _, _ => ⟨hs, fun t ht => (by cases ht), trivial⟩
  | a :: vs, _ :: _, h, hd => ⟨h.1, fun t ht g hg => by
      rcases List.mem_append.1 ht with ht | ht
      · exact h.2.1 t ht g hg
      · simp at ht
        subst ht
        exact hd a (by simp) g hg, RowS.snoc hs h.2.2 fun t ht => hd t (by simp [ht])⟩
  | [], _ :: _, h, _ => h.elim
  | _ :: _, [], h, _ => h.elim
/-- RowS stay when a slice of another type grows. -/
theorem RowS.grown {α : Type} {e : Enc α} {E : TypeId} {w w' : World} {B B' : Nat} {v : Value} {xs : List α} {vs : List Sl} {cs : List (List Nat)} (hg : w.grownBy w' v.ownBlock) (hv : OwnK e E w B' v xs) (hE : E ≠ 2) : RowS w B vs cs → RowS w' B vs cs := by
  intro h
  have key : ∀ {vs : List Sl} {cs : List (List Nat)}, RowS w B vs cs → ∀ t ∈ vs, ∀ g, t.v.ownBlock = some g → v.ownBlock ≠ some g := by
    intro vs
    induction vs with
    | nil => intro cs _ t ht; cases ht
    | cons a vs ih =>
      intro cs h t ht g hgt
      cases cs with
      | nil => exact h.elim
      | cons c cs =>
        rcases List.mem_cons.1 ht with rfl | ht
        · exact fun e => hv.ne_own h.1 hE g e hgt
        · exact ih h.2.2 t ht g hgt
  exact h.same fun t ht g hgt => hg.block g (h.lt t ht g hgt).2 fun e => key h t ht g hgt e.symm
/-- RowS below m stay when a row from m on grows. -/
theorem RowS.apart {w w' : World} {B m : Nat} {u : Value} {xs : List Int} {vs : List Sl} {cs : List (List Nat)} (hg : w.grownBy w' u.ownBlock) (hu : Own w m u xs) (hm : ∀ t ∈ vs, ∀ g, t.v.ownBlock = some g → g < m) (h : RowS w B vs cs) : RowS w' B vs cs :=
  h.same fun t ht g hgt => hg.block g (h.lt t ht g hgt).2 fun e => by
    have := (hu.lt e.symm).1
    have := hm t ht g hgt
    omega
theorem RowS.put {w : World} {B b i : Nat} {u : Value} {vs : List Sl} {cs : List (List Nat)} (hn : ∀ t ∈ vs, t.v.ownBlock ≠ some b) (h : RowS w B vs cs) : RowS (w.setCell ⟨b, i, none⟩ u) B vs cs :=
  h.same fun t ht g hg => Below.heap_setCell _ _ _ _ (fun e => hn t ht (by rw [hg, e]))
theorem RowS.ne_blk {w : World} {B b : Nat} {F : TypeId} {cells : Array Value} (hb : Blk w b F cells) (hF : F ≠ 2) : ∀ {vs : List Sl} {cs : List (List Nat)}, RowS w B vs cs → ∀ t ∈ vs, t.v.ownBlock ≠ some b
  | [], [], _ => fun t ht => by cases ht
  | _ :: _, _ :: _, h => fun t ht => by
    rcases List.mem_cons.1 ht with rfl | ht
    · exact h.1.toK.ne_blk hb (Ne.symm hF)
    · exact RowS.ne_blk hb hF h.2.2 t ht
  | [], _ :: _, h => h.elim
  | _ :: _, [], h => h.elim
/-- What the cycles give. -/
def GivesSS (css : List (List Nat)) (w : World) (e : Ending) (w' : World) : Prop := ∃ v vs, e = .returned v ∧ OwnK encV 25 w' w.heap.size v vs ∧ RowS w' w.heap.size vs css ∧ Below w.heap.size w w'
/-- What l06Normal gives. -/
def nrmV (n c d : Nat) : Int × Int × Bool := if isPr n c d = true then (((nrmN n c d).1 : Int), ((nrmN n c d).2 : Int), true) else (0, 0, false)
theorem gcd_le60 {n c d : Nat} (hn : 1 ≤ n ∧ n ≤ 60) (hc : c < n) (hd : d < n) : Nat.gcd c d ≤ 60 := by
  by_cases h : c = 0
  · subst h; rw [Nat.gcd_zero_left]; omega
  · have := Nat.gcd_le_left d (show 0 < c by omega); omega
set_option maxRecDepth 8000 in
set_option maxHeartbeats 2000000 in
theorem l06Normal_any (n c d : Nat) (w : World) (hn : 1 ≤ n ∧ n ≤ 60) (hc : c < n) (hd : d < n) :
    Calls Try.prog 42 #[.int .i64 (n : Int), .int .i64 (c : Int), .int .i64 (d : Int)] w fun e w' => e = .returned (.tuple #[.int .i64 (nrmV n c d).1, .int .i64 (nrmV n c d).2.1, .bool (nrmV n c d).2.2]) ∧ Below w.heap.size w w' := by
  have hg := gcd_le60 hn hc hd
  have HG1 := Lib.hid (fun w' : World => l01Gcd_any (c : Int) (d : Int) w' (by omega) (by omega) (by omega) (by omega))
  have HG2 := Lib.hid (fun w' : World => l01Gcd_any ((Nat.gcd c d : Nat) : Int) (n : Int) w' (by omega) (by omega) (by omega) (by omega))
  have H1 := Lib.hid (show Int.gcd (c : Int) (d : Int) = Nat.gcd c d from rfl)
  rw [H1.out] at HG1
  have H2 := Lib.hid (show Int.gcd ((Nat.gcd c d : Nat) : Int) (n : Int) = Nat.gcd (Nat.gcd c d) n from rfl)
  rw [H2.out] at HG2
  clear H1 H2
  by_cases hp : Nat.gcd (Nat.gcd c d) n = 1
  · have HV := Lib.hid (show nrmV n c d = (((nrmN n c d).1 : Int), ((nrmN n c d).2 : Int), true) by unfold nrmV; rw [if_pos (show isPr n c d = true from decide_eq_true hp)])
    rw [hp] at HG2
    generalize Nat.gcd c d = g at *
    clear hp
    go_enter Try.func42, Try.ntmps42
    go_wp2_with fail
    refine (HG1.out _).mono ?_
    rintro e w' ⟨rfl, rfl⟩
    go_wp2_with fail
    refine (HG2.out _).mono ?_
    rintro e w' ⟨rfl, rfl⟩
    go_wp2
    go_loopw [9, 10, 11] (fun x y k wr => ∃ j : Nat, 1 ≤ j ∧ j ≤ n ∧ k = .int .i64 (j : Int) ∧ x = .int .i64 ((nrm n c d (j - 1)).1 : Int) ∧ y = .int .i64 ((nrm n c d (j - 1)).2 : Int) ∧ Below w.heap.size w wr) (fun _ _ k _ => n - (intOf k).toNat)
    case atStart => exact ⟨1, by omega, by omega, rfl, rfl, rfl, (by repeat (first | (with_reducible exact Below.refl _ _) | (with_reducible assumption) | (with_reducible refine Below.drew ?_) | (with_reducible refine Below.drewN ?_) | ((with_reducible refine Below.al ?_ ?_); · first | omega | (simp; done) | (simp; omega)) | ((with_reducible refine Below.sc ?_ ?_); · first | omega | (simp; done) | (simp; omega)) | ((with_reducible refine Below.thru hb ?_ ?_); · first | omega | (simp; done) | (simp; omega))))⟩
    case round =>
      clear HG1 HG2
      obtain ⟨j, hj1, hj, rfl, rfl, rfl, kwr⟩ := hrel
      have HN := Lib.hid (show nrm n c d j = nst n c d j (nrm n c d (j - 1)) by obtain ⟨i, rfl⟩ : ∃ i, j = i + 1 := ⟨j - 1, by omega⟩; rfl)
      have hb1 := (nrm_lt hc hd (j - 1)).1
      have hb2 := (nrm_lt hc hd (j - 1)).2
      have hnr := Lib.hid (show n = j → nrmN n c d = nrm n c d (j - 1) from fun h => by subst h; rfl)
      generalize nrm n c d (j - 1) = b at *
      obtain ⟨b1, b2⟩ := b
      simp only at hb1 hb2
      by_cases hlt : j < n
      · have HD := Lib.hid (fun w' : World => l01Gcd_any (j : Int) (n : Int) w' (by omega) (by omega) (by omega) (by omega))
        have H2 := Lib.hid (show Int.gcd (j : Int) (n : Int) = Nat.gcd j n from rfl)
        rw [H2.out] at HD
        clear H2
        by_cases hu : Nat.gcd j n = 1
        · have HX := Lib.hid (nst_unit (c := c) (d := d) (b := (b1, b2)) hu)
          rw [HX.out] at HN
          rw [hu] at HD
          clear HX hu
          have e1 := tmod_nat j c n
          have e2 := tmod_nat j d n
          have m1 : j * c ≤ 60 * 60 := Nat.mul_le_mul (by omega) (by omega)
          have m2 : j * d ≤ 60 * 60 := Nat.mul_le_mul (by omega) (by omega)
          have hw1 : IntKind.i64.wrap ((j : Int) * (c : Int)) = (j : Int) * (c : Int) := by rw [IntKind.wrap_i64, ← Int.natCast_mul]; omega
          have hw2 : IntKind.i64.wrap ((j : Int) * (d : Int)) = (j : Int) * (d : Int) := by rw [IntKind.wrap_i64, ← Int.natCast_mul]; omega
          have hn0 : ¬ n = 0 := by omega
          clear m1 m2
          generalize j * c % n = x at *
          generalize j * d % n = y at *
          go_wp2_with fail
          refine (HD.out _).mono ?_
          rintro e w' ⟨rfl, rfl⟩
          go_wp2_with fail
          go_quiet (fail)
          by_cases hl1 : x < b1
          · have HE := Lib.hid (show nrm n c d j = (x, y) by rw [HN.out, if_pos (.inl hl1)])
            clear HN
            go_wp2
            go_roundw
            case rel => exact ⟨j + 1, by omega, by omega, by go_num, by rw [Nat.add_sub_cancel, HE.out], by rw [Nat.add_sub_cancel, HE.out], (by repeat (first | (with_reducible exact Below.refl _ _) | (with_reducible assumption) | (with_reducible refine Below.drew ?_) | (with_reducible refine Below.drewN ?_) | ((with_reducible refine Below.al ?_ ?_); · first | omega | (simp; done) | (simp; omega)) | ((with_reducible refine Below.sc ?_ ?_); · first | omega | (simp; done) | (simp; omega)) | ((with_reducible refine Below.thru hb ?_ ?_); · first | omega | (simp; done) | (simp; omega))))⟩
            case measure => simp [intOf]; omega
          · by_cases hl2 : x = b1
            · subst hl2
              by_cases hl3 : y < b2
              · have HE := Lib.hid (show nrm n c d j = (x, y) by rw [HN.out, if_pos (.inr ⟨rfl, hl3⟩)])
                clear HN
                go_wp2
                go_roundw
                case rel => exact ⟨j + 1, by omega, by omega, by go_num, by rw [Nat.add_sub_cancel, HE.out], by rw [Nat.add_sub_cancel, HE.out], (by repeat (first | (with_reducible exact Below.refl _ _) | (with_reducible assumption) | (with_reducible refine Below.drew ?_) | (with_reducible refine Below.drewN ?_) | ((with_reducible refine Below.al ?_ ?_); · first | omega | (simp; done) | (simp; omega)) | ((with_reducible refine Below.sc ?_ ?_); · first | omega | (simp; done) | (simp; omega)) | ((with_reducible refine Below.thru hb ?_ ?_); · first | omega | (simp; done) | (simp; omega))))⟩
                case measure => simp [intOf]; omega
              · have HE := Lib.hid (show nrm n c d j = (x, b2) by rw [HN.out, if_neg (fun h => by rcases h with h | h <;> simp only at h <;> omega)])
                clear HN
                go_wp2
                go_roundw
                case rel => exact ⟨j + 1, by omega, by omega, by go_num, by rw [Nat.add_sub_cancel, HE.out], by rw [Nat.add_sub_cancel, HE.out], (by repeat (first | (with_reducible exact Below.refl _ _) | (with_reducible assumption) | (with_reducible refine Below.drew ?_) | (with_reducible refine Below.drewN ?_) | ((with_reducible refine Below.al ?_ ?_); · first | omega | (simp; done) | (simp; omega)) | ((with_reducible refine Below.sc ?_ ?_); · first | omega | (simp; done) | (simp; omega)) | ((with_reducible refine Below.thru hb ?_ ?_); · first | omega | (simp; done) | (simp; omega))))⟩
                case measure => simp [intOf]; omega
            · have HE := Lib.hid (show nrm n c d j = (b1, b2) by rw [HN.out, if_neg (fun h => by rcases h with h | h <;> simp only at h <;> omega)])
              clear HN
              go_wp2
              go_roundw
              case rel => exact ⟨j + 1, by omega, by omega, by go_num, by rw [Nat.add_sub_cancel, HE.out], by rw [Nat.add_sub_cancel, HE.out], (by repeat (first | (with_reducible exact Below.refl _ _) | (with_reducible assumption) | (with_reducible refine Below.drew ?_) | (with_reducible refine Below.drewN ?_) | ((with_reducible refine Below.al ?_ ?_); · first | omega | (simp; done) | (simp; omega)) | ((with_reducible refine Below.sc ?_ ?_); · first | omega | (simp; done) | (simp; omega)) | ((with_reducible refine Below.thru hb ?_ ?_); · first | omega | (simp; done) | (simp; omega))))⟩
              case measure => simp [intOf]; omega
        · have HE := Lib.hid (show nrm n c d j = (b1, b2) by rw [HN.out]; unfold nst; rw [if_neg (fun h => hu h.1)])
          have hu1 : ¬ (Nat.gcd j n : Int) = 1 := by omega
          generalize Nat.gcd j n = g at *
          clear HN
          go_wp2_with fail
          refine (HD.out _).mono ?_
          rintro e w' ⟨rfl, rfl⟩
          go_wp2
          go_roundw
          case rel => exact ⟨j + 1, by omega, by omega, by go_num, by rw [Nat.add_sub_cancel, HE.out], by rw [Nat.add_sub_cancel, HE.out], (by repeat (first | (with_reducible exact Below.refl _ _) | (with_reducible assumption) | (with_reducible refine Below.drew ?_) | (with_reducible refine Below.drewN ?_) | ((with_reducible refine Below.al ?_ ?_); · first | omega | (simp; done) | (simp; omega)) | ((with_reducible refine Below.sc ?_ ?_); · first | omega | (simp; done) | (simp; omega)) | ((with_reducible refine Below.thru hb ?_ ?_); · first | omega | (simp; done) | (simp; omega))))⟩
          case measure => simp [intOf]; omega
      · have HE := Lib.hid (show nrmN n c d = (b1, b2) from hnr.out (by omega))
        go_wp2
        go_ret3
        exact ⟨by rw [HV.out, HE.out]; rfl, kwr⟩
  · have HV := Lib.hid (show nrmV n c d = (0, 0, false) by unfold nrmV; rw [if_neg (by rw [show isPr n c d = false from decide_eq_false hp]; exact Bool.false_ne_true)])
    have hp1 : ¬ (Nat.gcd (Nat.gcd c d) n : Int) = 1 := by omega
    generalize Nat.gcd (Nat.gcd c d) n = g2 at *
    generalize Nat.gcd c d = g at *
    go_enter Try.func42, Try.ntmps42
    go_wp2_with fail
    refine (HG1.out _).mono ?_
    rintro e w' ⟨rfl, rfl⟩
    go_wp2_with fail
    refine (HG2.out _).mono ?_
    rintro e w' ⟨rfl, rfl⟩
    go_wp2
    go_ret3
    exact ⟨by rw [HV.out]; rfl, (by repeat (first | (with_reducible exact Below.refl _ _) | (with_reducible assumption) | (with_reducible refine Below.drew ?_) | (with_reducible refine Below.drewN ?_) | ((with_reducible refine Below.al ?_ ?_); · first | omega | (simp; done) | (simp; omega)) | ((with_reducible refine Below.sc ?_ ?_); · first | omega | (simp; done) | (simp; omega)) | ((with_reducible refine Below.thru hb ?_ ?_); · first | omega | (simp; done) | (simp; omega))))⟩
def rowsP (xs : List (Nat × Nat)) : List (List Nat) := xs.map fun p => [p.1, p.2]
theorem nrmV_ln {n c d : Nat} (h : isLn n c d = true) : nrmV n c d = ((c : Int), (d : Int), true) := by
  unfold isLn at h
  rw [Bool.and_eq_true] at h
  have h2 := of_decide_eq_true h.2
  unfold nrmV
  rw [if_pos h.1, h2]
theorem nrmV_no {n c d : Nat} (h : isLn n c d = false) : nrmV n c d = (0, 0, false) ∨ ∃ x y : Nat, nrmV n c d = ((x : Int), (y : Int), true) ∧ (¬ (x : Int) = (c : Int) ∨ ¬ (y : Int) = (d : Int)) := by
  unfold nrmV
  cases hp : isPr n c d with
  | false => left; rfl
  | true =>
    right
    refine ⟨(nrmN n c d).1, (nrmN n c d).2, by rw [if_pos rfl], ?_⟩
    unfold isLn at h
    rw [hp, Bool.true_and] at h
    have h2 := of_decide_eq_false h
    generalize nrmN n c d = y at *
    obtain ⟨y1, y2⟩ := y
    simp only [Prod.mk.injEq, not_and] at h2
    by_cases e : y1 = c
    · right; have := h2 e; simp only; omega
    · left; simp only; omega
set_option maxRecDepth 8000 in
set_option maxHeartbeats 2000000 in
theorem l06Line_any (n : Nat) (w : World) (hn : 1 ≤ n ∧ n ≤ 60) :
    Calls Try.prog 25 #[.int .i64 (n : Int)] w (GivesSS (rowsP (lineL n)) w) := by
  have HINF := Lib.hid (info_parts infoSl)
  go_enter Try.func25, Try.ntmps25
  go_wp2_with fail
  refine forget (fun W_ => OwnK encV 25 W_ w.heap.size (.slice (some ⟨w.heap.size, 0, none⟩) 0 0) [] ∧ Below w.heap.size w W_) ⟨OwnK.of_blk (xs := []) (by repeat (first | (with_reducible assumption) | ((with_reducible refine Blk.new ?_); · first | omega | (simp; done) | (simp; omega)) | (with_reducible apply Blk.set4) | (with_reducible apply Blk.set3) | (with_reducible apply Blk.set2) | ((with_reducible refine Blk.put ?_ ?_); · first | omega | (simp; omega)) | (with_reducible refine Blk.old ?_) | (with_reducible refine Blk.drew ?_) | (with_reducible refine Blk.drewN ?_) | ((with_reducible refine Blk.below hb ?_ ?_); · first | omega | (simp; done) | (simp; omega)))) (Nat.le_refl _) rfl (by simp [maxLen]), (by repeat (first | (with_reducible exact Below.refl _ _) | (with_reducible assumption) | (with_reducible refine Below.drew ?_) | (with_reducible refine Below.drewN ?_) | ((with_reducible refine Below.al ?_ ?_); · first | omega | (simp; done) | (simp; omega)) | ((with_reducible refine Below.sc ?_ ?_); · first | omega | (simp; done) | (simp; omega)) | ((with_reducible refine Below.thru hb ?_ ?_); · first | omega | (simp; done) | (simp; omega))))⟩ ?_
  rintro w0 ⟨O0, k0⟩
  go_loopw [3, 4] (fun v cc wr => ∃ (c : Nat) (vs : List Sl), c ≤ n ∧ cc = .int .i64 c ∧ OwnK encV 25 wr w.heap.size v vs ∧ RowS wr w.heap.size vs (rowsP (lnTo n c)) ∧ Below w.heap.size w wr) (fun _ cc _ => n - (intOf cc).toNat)
  case atStart => exact ⟨0, [], Nat.zero_le _, rfl, O0, trivial, k0⟩
  case round =>
    clear O0 k0
    obtain ⟨c, vs, hc, rfl, O, R, kwr⟩ := hrel
    obtain ⟨vo, vc, rfl⟩ := O.len
    by_cases hlt : c < n
    · have HX := Lib.hid (show lnTo n (c + 1) = lnTo n c ++ lnRow n c n from rfl)
      have hlen := lnTo_len n c
      have hcn : c * n ≤ 60 * 60 := Nat.mul_le_mul (by omega) (by omega)
      go_wp2_with fail
      go_loopw [3, 5] (fun v dd wr => ∃ (d : Nat) (vs : List Sl), d ≤ n ∧ dd = .int .i64 d ∧ OwnK encV 25 wr w.heap.size v vs ∧ RowS wr w.heap.size vs (rowsP (lnTo n c ++ lnRow n c d)) ∧ Below w.heap.size w wr) (fun _ dd _ => n - (intOf dd).toNat)
      case atStart => exact ⟨0, vs, Nat.zero_le _, rfl, O, by rw [show lnRow n c 0 = [] from rfl, List.append_nil]; exact R, kwr⟩
      case round =>
        clear O R kwr
        obtain ⟨d, vs, hd, rfl, O, R, kwr⟩ := hrel
        obtain ⟨vo, vc, rfl⟩ := O.len
        have swr := kwr.size
        by_cases hdl : d < n
        · have hl2 : vs.length ≤ 3660 := by
            have := lnRow_len n c d
            have h1 := R.len
            unfold rowsP at h1
            rw [List.length_map, List.length_append] at h1
            omega
          have HY := Lib.hid (show lnTo n c ++ lnRow n c (d + 1) = (lnTo n c ++ lnRow n c d) ++ (if isLn n c d then [(c, d)] else []) by rw [List.append_assoc]; rfl)
          generalize lnTo n c ++ lnRow n c d = L at *
          have HQ := Lib.hid (fun w' : World => l06Normal_any n c d w' hn hlt hdl)
          cases hi : isLn n c d with
          | true =>
            have HI := Lib.hid hi
            rw [nrmV_ln hi] at HQ
            simp only at HQ
            clear hi
            go_wp2_with fail
            refine (HQ.out _).mono ?_
            rintro e w1 ⟨rfl, hb⟩
            have k1 : Below w.heap.size w w1 := (by repeat (first | (with_reducible exact Below.refl _ _) | (with_reducible assumption) | (with_reducible refine Below.drew ?_) | (with_reducible refine Below.drewN ?_) | ((with_reducible refine Below.al ?_ ?_); · first | omega | (simp; done) | (simp; omega)) | ((with_reducible refine Below.sc ?_ ?_); · first | omega | (simp; done) | (simp; omega)) | ((with_reducible refine Below.thru hb ?_ ?_); · first | omega | (simp; done) | (simp; omega))))
            have O1 : OwnK encV 25 w1 w.heap.size (.slice vo vs.length vc) vs := (by repeat (first | (with_reducible assumption) | (with_reducible refine Own.drew ?_) | (with_reducible refine Own.drewN ?_) | (with_reducible refine Own.alloc ?_) | (with_reducible refine OwnK.drew ?_) | (with_reducible refine OwnK.drewN ?_) | (with_reducible refine OwnK.alloc ?_) | ((with_reducible refine OwnK.put ?_ ?_); · first | omega | (simp; done) | (simp; omega)) | ((with_reducible refine Own.below hb ?_)) | ((with_reducible refine OwnK.below hb ?_))))
            have R1 := R.below hb
            have s1 := k1.size
            clear hb O R kwr
            obtain ⟨jP, hinf⟩ := HINF.out
            replace hinf := Lib.hid hinf
            go_wp2_with (at_builtin; refine wpList_app encV rfl _ _ 38 25 24 rfl Try.underlying38 jP _ hinf.out.1 hinf.out.2.1 hinf.out.2.2.1 hinf.out.2.2.2 rfl (.slice vo vs.length vc) vs w.heap.size (w1.heap.size + 1) 1 #[.slice (some ⟨w1.heap.size, 0, none⟩) 2 2] [⟨some ⟨w1.heap.size, 0, none⟩, 2, 2⟩] rfl ?o1 rfl ?b1 rfl ?l1 ?l2 (by simp; omega) ?_)
            case o1 => exact O1.alloc.alloc
            case b1 => exact Blk.new (by simp)
            case l1 => (try simp only [List.length_cons, List.length_nil]); unfold maxLen; omega
            case l2 => (try simp only [List.length_cons, List.length_nil]); omega
            intro v' w5 O5 hg
            have k5 : Below w.heap.size w w5 := Below.grownK hg (e := encV) (E := 25) (B := w.heap.size) (xs := vs) O1.alloc.alloc (Nat.le_refl _) (by simp; omega) (by repeat (first | (with_reducible exact Below.refl _ _) | (with_reducible assumption) | (with_reducible refine Below.drew ?_) | (with_reducible refine Below.drewN ?_) | ((with_reducible refine Below.al ?_ ?_); · first | omega | (simp; done) | (simp; omega)) | ((with_reducible refine Below.sc ?_ ?_); · first | omega | (simp; done) | (simp; omega)) | ((with_reducible refine Below.thru hb ?_ ?_); · first | omega | (simp; done) | (simp; omega))))
            have R5 : RowS w5 w.heap.size (vs ++ [⟨some ⟨w1.heap.size, 0, none⟩, 2, 2⟩]) (rowsP L ++ [[c, d]]) := by
              refine RowS.grown hg (e := encV) (E := 25) (B' := w.heap.size) (xs := vs) O1.alloc.alloc (by decide) ((RowS.snoc (s := ⟨some ⟨w1.heap.size, 0, none⟩, 2, 2⟩) (w := w1.alloc (.cells #[.int .i64 (c : Int), .int .i64 (d : Int)] 2)) ?_ (R1.below ((Below.refl _ _).alloc (Nat.le_refl _) _)) (fun t ht g hg e => ?_)).below ((Below.refl _ _).alloc (Nat.le_refl _) _))
              · exact Own.of_blk (xs := [(c : Int), (d : Int)]) (Blk.new rfl) (by omega) rfl (by simp [maxLen])
              · have h1 := (R1.lt t ht g hg).2
                simp only [Value.ownBlock, Option.some.injEq] at e
                omega
            clear hg
            go_wp2
            go_roundw
            case rel => exact ⟨d + 1, _, by omega, by go_num, O5, by rw [HY.out, HI.out, if_pos rfl]; unfold rowsP at *; rw [List.map_append]; exact R5, k5⟩
            case measure => simp [intOf]; omega
          | false =>
            have HI := Lib.hid (show lnTo n c ++ lnRow n c (d + 1) = L by rw [HY.out, hi, if_neg Bool.false_ne_true, List.append_nil])
            rcases nrmV_no hi with hv | ⟨x, y, hv, hne⟩
            · rw [hv] at HQ
              simp only at HQ
              clear hi hv
              go_wp2_with fail
              refine (HQ.out _).mono ?_
              rintro e w1 ⟨rfl, hb⟩
              have k1 : Below w.heap.size w w1 := (by repeat (first | (with_reducible exact Below.refl _ _) | (with_reducible assumption) | (with_reducible refine Below.drew ?_) | (with_reducible refine Below.drewN ?_) | ((with_reducible refine Below.al ?_ ?_); · first | omega | (simp; done) | (simp; omega)) | ((with_reducible refine Below.sc ?_ ?_); · first | omega | (simp; done) | (simp; omega)) | ((with_reducible refine Below.thru hb ?_ ?_); · first | omega | (simp; done) | (simp; omega))))
              have O1 : OwnK encV 25 w1 w.heap.size (.slice vo vs.length vc) vs := (by repeat (first | (with_reducible assumption) | (with_reducible refine Own.drew ?_) | (with_reducible refine Own.drewN ?_) | (with_reducible refine Own.alloc ?_) | (with_reducible refine OwnK.drew ?_) | (with_reducible refine OwnK.drewN ?_) | (with_reducible refine OwnK.alloc ?_) | ((with_reducible refine OwnK.put ?_ ?_); · first | omega | (simp; done) | (simp; omega)) | ((with_reducible refine Own.below hb ?_)) | ((with_reducible refine OwnK.below hb ?_))))
              have R1 := R.below hb
              clear hb O R kwr
              go_wp2
              go_roundw
              case rel => exact ⟨d + 1, vs, by omega, by go_num, O1, by rw [HI.out]; exact R1, k1⟩
              case measure => simp [intOf]; omega
            · rw [hv] at HQ
              simp only at HQ
              clear hi hv
              by_cases hxc : (x : Int) = (c : Int)
              · have hyd : ¬ (y : Int) = (d : Int) := by rcases hne with h | h; exact absurd hxc h; exact h
                clear hne
                rw [hxc] at HQ
                clear hxc
                go_wp2_with fail
                refine (HQ.out _).mono ?_
                rintro e w1 ⟨rfl, hb⟩
                have k1 : Below w.heap.size w w1 := (by repeat (first | (with_reducible exact Below.refl _ _) | (with_reducible assumption) | (with_reducible refine Below.drew ?_) | (with_reducible refine Below.drewN ?_) | ((with_reducible refine Below.al ?_ ?_); · first | omega | (simp; done) | (simp; omega)) | ((with_reducible refine Below.sc ?_ ?_); · first | omega | (simp; done) | (simp; omega)) | ((with_reducible refine Below.thru hb ?_ ?_); · first | omega | (simp; done) | (simp; omega))))
                have O1 : OwnK encV 25 w1 w.heap.size (.slice vo vs.length vc) vs := (by repeat (first | (with_reducible assumption) | (with_reducible refine Own.drew ?_) | (with_reducible refine Own.drewN ?_) | (with_reducible refine Own.alloc ?_) | (with_reducible refine OwnK.drew ?_) | (with_reducible refine OwnK.drewN ?_) | (with_reducible refine OwnK.alloc ?_) | ((with_reducible refine OwnK.put ?_ ?_); · first | omega | (simp; done) | (simp; omega)) | ((with_reducible refine Own.below hb ?_)) | ((with_reducible refine OwnK.below hb ?_))))
                have R1 := R.below hb
                clear hb O R kwr
                go_wp2
                go_roundw
                case rel => exact ⟨d + 1, vs, by omega, by go_num, O1, by rw [HI.out]; exact R1, k1⟩
                case measure => simp [intOf]; omega
              · clear hne
                go_wp2_with fail
                refine (HQ.out _).mono ?_
                rintro e w1 ⟨rfl, hb⟩
                have k1 : Below w.heap.size w w1 := (by repeat (first | (with_reducible exact Below.refl _ _) | (with_reducible assumption) | (with_reducible refine Below.drew ?_) | (with_reducible refine Below.drewN ?_) | ((with_reducible refine Below.al ?_ ?_); · first | omega | (simp; done) | (simp; omega)) | ((with_reducible refine Below.sc ?_ ?_); · first | omega | (simp; done) | (simp; omega)) | ((with_reducible refine Below.thru hb ?_ ?_); · first | omega | (simp; done) | (simp; omega))))
                have O1 : OwnK encV 25 w1 w.heap.size (.slice vo vs.length vc) vs := (by repeat (first | (with_reducible assumption) | (with_reducible refine Own.drew ?_) | (with_reducible refine Own.drewN ?_) | (with_reducible refine Own.alloc ?_) | (with_reducible refine OwnK.drew ?_) | (with_reducible refine OwnK.drewN ?_) | (with_reducible refine OwnK.alloc ?_) | ((with_reducible refine OwnK.put ?_ ?_); · first | omega | (simp; done) | (simp; omega)) | ((with_reducible refine Own.below hb ?_)) | ((with_reducible refine OwnK.below hb ?_))))
                have R1 := R.below hb
                clear hb O R kwr
                go_wp2
                go_roundw
                case rel => exact ⟨d + 1, vs, by omega, by go_num, O1, by rw [HI.out]; exact R1, k1⟩
                case measure => simp [intOf]; omega
        · obtain rfl : d = n := by omega
          go_wp2
          go_roundw
          case rel => exact ⟨c + 1, vs, by omega, by go_num, O, by rw [HX.out]; exact R, kwr⟩
          case measure => simp [intOf]; omega
    · obtain rfl : c = n := by omega
      go_wp2
      refine bodyPost_ret (v := .slice vo vs.length vc) (by simp [results, Try.results25, go_sem]) rfl ?_
      exact ⟨_, vs, rfl, O, R, kwr⟩
set_option maxRecDepth 8000 in
set_option maxHeartbeats 400000 in
theorem l01Mod_any (a n : Int) (w : World) (hn : 1 ≤ n) (hn2 : n ≤ 1000000000) :
    Calls Try.prog 56 #[.int .i64 a, .int .i64 n] w fun e w' => e = .returned (.int .i64 (a % n)) ∧ Below w.heap.size w w' := by
  have hb := tmod_bd a n hn
  have HR := Lib.hid (show (a.tmod n + n) % n = a % n by rw [← Int.tmod_eq_emod_of_nonneg (by omega)]; exact rest_eq a n hn)
  go_enter Try.func56, Try.ntmps56
  go_wp2
  go_ret
  exact ⟨ret_int HR.out, (by repeat (first | (with_reducible exact Below.refl _ _) | (with_reducible assumption) | (with_reducible refine Below.drew ?_) | (with_reducible refine Below.drewN ?_) | ((with_reducible refine Below.al ?_ ?_); · first | omega | (simp; done) | (simp; omega)) | ((with_reducible refine Below.sc ?_ ?_); · first | omega | (simp; done) | (simp; omega)) | ((with_reducible refine Below.thru hb ?_ ?_); · first | omega | (simp; done) | (simp; omega))))⟩

theorem RowS.at {w : World} {B : Nat} : ∀ {vs : List Sl} {cs : List (List Nat)}, RowS w B vs cs → ∀ j (h1 : j < vs.length) (h2 : j < cs.length), Own w B vs[j].v (cs[j].map Int.ofNat)
  | [], [], _, j, h1, _ => absurd h1 (Nat.not_lt_zero _)
  | _ :: _, _ :: _, h, j, h1, h2 => match j with
    | 0 => h.1
    | j + 1 => RowS.at h.2.2 j (by simpa using h1) (by simpa using h2)
  | [], _ :: _, h, _, _, _ => h.elim
  | _ :: _, [], h, _, _, _ => h.elim
theorem rowsP_len (xs : List (Nat × Nat)) : (rowsP xs).length = xs.length := by simp [rowsP]
/-- A line in memory: rows of two numbers each, all in blocks less than m. -/
def LineC (w : World) (m : Nat) (v : Value) (xs : List (Nat × Nat)) : Prop :=
  ∃ ao c, v = .slice ao xs.length c ∧ (0 < xs.length → ∃ g, ao = some ⟨g, 0, none⟩ ∧ g < m ∧ ∀ j (hj : j < xs.length), ∃ g2 c2, g2 < m ∧ w.cell? ⟨g, j, none⟩ = some (.slice (some ⟨g2, 0, none⟩) 2 c2) ∧ w.cell? ⟨g2, 0, none⟩ = some (.int .i64 (xs[j].1 : Int)) ∧ w.cell? ⟨g2, 1, none⟩ = some (.int .i64 (xs[j].2 : Int)))
theorem LineC.below {w w' : World} {m : Nat} {v : Value} {xs : List (Nat × Nat)} (h : LineC w m v xs) (hb : Below m w w') : LineC w' m v xs := by
  obtain ⟨ao, c, rfl, h⟩ := h
  refine ⟨ao, c, rfl, fun h0 => ?_⟩
  obtain ⟨g, h1, h2, h3⟩ := h h0
  refine ⟨g, h1, h2, fun j hj => ?_⟩
  obtain ⟨g2, c2, k1, k2, k3, k4⟩ := h3 j hj
  exact ⟨g2, c2, k1, (hb.cell (p := ⟨g, j, none⟩) h2).trans k2, (hb.cell (p := ⟨g2, 0, none⟩) k1).trans k3, (hb.cell (p := ⟨g2, 1, none⟩) k1).trans k4⟩
theorem LineC.of {w : World} {B : Nat} {v : Value} {vs : List Sl} {xs : List (Nat × Nat)} (h1 : OwnK encV 25 w B v vs) (h2 : RowS w B vs (rowsP xs)) : LineC w w.heap.size v xs := by
  have hl := h2.len
  rw [rowsP_len] at hl
  rcases h1.form with ⟨rfl, rfl⟩ | ⟨g, cap, rfl, hB, hg, -⟩
  · simp at hl
    exact ⟨none, 0, by rw [← hl], fun h => by omega⟩
  · refine ⟨_, cap, by rw [hl], fun h0 => ⟨g, rfl, hg, fun j hj => ?_⟩⟩
    have hj1 : j < vs.length := by omega
    have hj2 : j < (rowsP xs).length := by rw [rowsP_len]; exact hj
    have O := h2.at j hj1 hj2
    have e := OwnK.at (i := 0) h1 rfl (List.getElem?_eq_getElem hj1) rfl
    have hc : (rowsP xs)[j] = [xs[j].1, xs[j].2] := by simp [rowsP]
    rw [hc] at O
    rcases O.toK.form with ⟨h3, h4⟩ | ⟨g2, cap2, h3, -, h4, -⟩
    · cases h4
    · refine ⟨g2, cap2, h4, ?_, ?_, ?_⟩
      · rw [show (⟨g, j, none⟩ : Addr) = ⟨g, j * encV.k + 0, none⟩ by show _ = (⟨g, j * 1 + 0, none⟩ : Addr); rw [Nat.mul_one, Nat.add_zero], e, h3]
        rfl
      · exact O.at (by rw [h3]; rfl) (j := 0) rfl
      · exact O.at (by rw [h3]; rfl) (j := 1) rfl
theorem nrmV_pr {n c d : Nat} (h : isPr n c d = true) : nrmV n c d = (((nrmN n c d).1 : Int), ((nrmN n c d).2 : Int), true) := by
  unfold nrmV
  rw [if_pos h]
/-- Are the rests of two numbers a pair? -/
def isPrC (n : Nat) (c d : Int) : Bool := isPr n (c % (n : Int)).toNat (d % (n : Int)).toNat
theorem ne_step2 {xs : List (Nat × Nat)} {x y k : Nat} (h : ∀ j (hj : j < xs.length), j < k → xs[j] ≠ (x, y)) (hk : k < xs.length) (e : ¬ (xs[k].1 : Int) = (x : Int) ∨ ¬ (xs[k].2 : Int) = (y : Int)) : ∀ j (hj : j < xs.length), j < k + 1 → xs[j] ≠ (x, y) :=
  ne_step h hk (fun e2 => by rw [e2] at e; simp at e)
set_option maxRecDepth 8000 in
set_option maxHeartbeats 2000000 in
theorem l06Number_any (n : Nat) (c d : Int) (xs : List (Nat × Nat)) (v : Value) (mm : Nat) (w : World) (h : LineC w mm v xs) (hmm : mm ≤ w.heap.size) (hl : xs.length ≤ 3660) (hn : 1 ≤ n ∧ n ≤ 60) (hp : isPrC n c d = true) :
    Calls Try.prog 35 #[.int .i64 (n : Int), v, .int .i64 c, .int .i64 d] w fun e w' => e = .returned (.int .i64 (idxP xs (nrmC n c d))) ∧ Below w.heap.size w w' := by
  obtain ⟨x, hx, hxn, hx2⟩ := mod_nat c n hn.1
  obtain ⟨y, hy, hyn, hy2⟩ := mod_nat d n hn.1
  have HN := Lib.hid (show nrmC n c d = nrmN n x y by unfold nrmC; rw [hx2, hy2])
  have H1 := Lib.hid (fun w' : World => l01Mod_any c (n : Int) w' (by omega) (by omega))
  rw [hx] at H1
  have H2 := Lib.hid (fun w' : World => l01Mod_any d (n : Int) w' (by omega) (by omega))
  rw [hy] at H2
  have H3 := Lib.hid (fun w' : World => l06Normal_any n x y w' hn hxn hyn)
  unfold isPrC at hp
  rw [hx2, hy2] at hp
  rw [nrmV_pr hp] at H3
  simp only at H3
  clear hx hx2 hy hy2 hp
  obtain ⟨vo, vc, hv, HX0⟩ := id h
  subst hv
  have HX := Lib.hid HX0
  have HO := Lib.hid h
  clear h HX0
  generalize nrmN n x y = p at *
  obtain ⟨p1, p2⟩ := p
  simp only at H3
  go_enter Try.func35, Try.ntmps35
  go_wp2_with fail
  refine (H1.out _).mono ?_
  rintro e w1 ⟨rfl, hb⟩
  have k1 : Below w.heap.size w w1 := (by repeat (first | (with_reducible exact Below.refl _ _) | (with_reducible assumption) | (with_reducible refine Below.drew ?_) | (with_reducible refine Below.drewN ?_) | ((with_reducible refine Below.al ?_ ?_); · first | omega | (simp; done) | (simp; omega)) | ((with_reducible refine Below.sc ?_ ?_); · first | omega | (simp; done) | (simp; omega)) | ((with_reducible refine Below.thru hb ?_ ?_); · first | omega | (simp; done) | (simp; omega))))
  have s1 := k1.size
  clear hb
  go_wp2_with fail
  refine (H2.out _).mono ?_
  rintro e w2 ⟨rfl, hb⟩
  have k2 : Below w.heap.size w w2 := (by repeat (first | (with_reducible exact Below.refl _ _) | (with_reducible assumption) | (with_reducible refine Below.drew ?_) | (with_reducible refine Below.drewN ?_) | ((with_reducible refine Below.al ?_ ?_); · first | omega | (simp; done) | (simp; omega)) | ((with_reducible refine Below.sc ?_ ?_); · first | omega | (simp; done) | (simp; omega)) | ((with_reducible refine Below.thru hb ?_ ?_); · first | omega | (simp; done) | (simp; omega))))
  have s2 := k2.size
  clear hb
  go_wp2_with fail
  refine (H3.out _).mono ?_
  rintro e w3 ⟨rfl, hb⟩
  have k3 : Below w.heap.size w w3 := (by repeat (first | (with_reducible exact Below.refl _ _) | (with_reducible assumption) | (with_reducible refine Below.drew ?_) | (with_reducible refine Below.drewN ?_) | ((with_reducible refine Below.al ?_ ?_); · first | omega | (simp; done) | (simp; omega)) | ((with_reducible refine Below.sc ?_ ?_); · first | omega | (simp; done) | (simp; omega)) | ((with_reducible refine Below.thru hb ?_ ?_); · first | omega | (simp; done) | (simp; omega))))
  have s3 := k3.size
  clear hb k1 k2 HX H1 H2 H3
  obtain ⟨vo, vc, hv, HX0⟩ := HO.out.below (k3.mono hmm)
  obtain ⟨rfl, -, rfl⟩ : _ ∧ _ ∧ _ := by simpa only [Value.slice.injEq] using hv
  have HX := Lib.hid HX0
  clear hv HX0 HO
  go_wp2_with fail
  go_loopw [12] (fun i wr => ∃ k : Nat, k ≤ xs.length ∧ i = .int .i64 k ∧ Hid (∀ j (h1 : j < xs.length), j < k → xs[j] ≠ (p1, p2)) ∧ w3 = wr) (fun i _ => xs.length - (intOf i).toNat)
  case atStart => exact ⟨0, Nat.zero_le _, rfl, fun j _ h => absurd h (by omega), rfl⟩
  case round =>
    obtain ⟨k, hk, rfl, hall, rfl⟩ := hrel
    by_cases hlt : k < xs.length
    · obtain ⟨g, rfl, hg, hcs⟩ := HX.out (by omega)
      obtain ⟨g2, c2, hg2, d0, d1, d2⟩ := hcs k hlt
      clear hcs
      have i0 : (0 : Int) ≤ (k : Int) := by omega
      have i1 : (k : Int) < (xs.length : Int) := by omega
      have HS := Lib.hid (fun h => ne_step2 hall.out hlt h)
      have HT := Lib.hid (fun h => idxP_hit hall.out hlt h)
      generalize hxk : xs[k] = q at *
      obtain ⟨q1, q2⟩ := q
      simp only at d1 d2 HS
      clear hxk
      by_cases e1 : (q1 : Int) = (p1 : Int)
      · by_cases e2 : (q2 : Int) = (p2 : Int)
        · have HF := Lib.hid (HT.out (by rw [show q1 = p1 by omega, show q2 = p2 by omega]))
          go_wp2
          go_ret
          exact ⟨by rw [HN.out, HF.out]; rfl, k3⟩
        · have HF := Lib.hid (HS.out (.inr e2))
          go_wp2
          go_roundw
          case rel => exact ⟨k + 1, by omega, by go_num, HF, trivial⟩
          case measure => simp [intOf]; omega
      · have HF := Lib.hid (HS.out (.inl e1))
        go_wp2
        go_roundw
        case rel => exact ⟨k + 1, by omega, by go_num, HF, trivial⟩
        case measure => simp [intOf]; omega
    · obtain rfl : k = xs.length := by omega
      have HF := Lib.hid (idxP_none (fun j h1 h2 => hall.out j h1 h2))
      go_wp2
      go_ret
      exact ⟨by rw [HN.out, HF.out]; rfl, k3⟩

end Go.Proofs.Ytjjbaebddkejnaa
