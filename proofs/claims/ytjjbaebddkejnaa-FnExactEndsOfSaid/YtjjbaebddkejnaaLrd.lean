/- What is left of a row when multiples of rows are taken from it, and rows without multiples of others: the reference's l08Left and l08Reduced, walked by hand. -/
import Derived.Test.YtjjbaebddkejnaaSp3
import Derived.Test.YtjjbaebddkejnaaRlq
import Derived.Test.YtjjbaebddkejnaaBlm
import Derived.Test.YtjjbaebddkejnaaLn
import Derived.Laws.BytesArg
namespace Go.Proofs.Ytjjbaebddkejnaa
open Go.RowKit
set_option linter.unusedSimpArgs false
set_option linter.unusedVariables false

theorem cell_laterL {W : World} {a : Addr} {v : Value} (h : W.cell? a = some v) (x : Later W) : x.w.cell? a = some v := by
  rw [x.h.cell (block_lt_of_cell h :)]
  exact h
/-- Slices that read as rows of numbers. -/
def RowI (w : World) (B : Nat) (vs : List Sl) (css : List (List Int)) : Prop := vs.length = css.length ∧ ∀ (j : Nat) (s : Sl) (c : List Int), vs[j]? = some s → css[j]? = some c → Own w B s.v c
theorem RowI.nil (w : World) (B : Nat) : RowI w B [] [] := ⟨rfl, fun j s c h => by simp at h⟩
theorem RowI.keep {w w' : World} {B : Nat} {vs : List Sl} {css : List (List Int)} (hk : ∀ (s : Sl) (xs : List Int), Own w B s.v xs → Own w' B s.v xs) (h : RowI w B vs css) : RowI w' B vs css :=
  ⟨h.1, fun j s c h1 h2 => hk s _ (h.2 j s c h1 h2)⟩
theorem RowI.snoc {w : World} {B : Nat} {vs : List Sl} {css : List (List Int)} {s : Sl} {c : List Int} (h : RowI w B vs css) (g : Own w B s.v c) : RowI w B (vs ++ [s]) (css ++ [c]) := by
  refine ⟨by rw [List.length_append, List.length_append, h.1]; rfl, fun j s' c' h1 h2 => ?_⟩
  by_cases hj : j < vs.length
  · rw [List.getElem?_append_left hj] at h1
    rw [List.getElem?_append_left (by rw [← h.1]; exact hj)] at h2
    exact h.2 j s' c' h1 h2
  · rw [List.getElem?_append_right (by omega)] at h1
    rw [List.getElem?_append_right (by rw [← h.1]; omega), ← h.1] at h2
    obtain ⟨d, hd⟩ : ∃ d, j - vs.length = d := ⟨_, rfl⟩
    rw [hd] at h1 h2
    cases d with
    | zero =>
      simp only [List.getElem?_cons_zero, Option.some.injEq] at h1 h2
      subst h1 h2
      exact g
    | succ d => simp at h1

theorem vec_at {xs : List Int} {k : Nat} (h : k < xs.length) : xs[k] = vec xs k := by simp [vec, List.getD_eq_getElem?_getD, h]
/-- A multiple of a row taken away, up to a place. -/
def subTo (p c : Int) (r x : List Int) (a : Nat) : Nat → List Int
  | 0 => x
  | k + 1 => if a ≤ k then (subTo p c r x a k).set k ((vec x k - c * vec r k) % p) else subTo p c r x a k

theorem subTo_len (p c : Int) (r x : List Int) (a k : Nat) : (subTo p c r x a k).length = x.length := by
  induction k with
  | zero => rfl
  | succ k ih => simp only [subTo]; split <;> simp [ih]
theorem subTo_vec {p c : Int} {r x : List Int} {a : Nat} (k j : Nat) (hk : k ≤ x.length) (hj : j < x.length) : vec (subTo p c r x a k) j = if a ≤ j ∧ j < k then (vec x j - c * vec r j) % p else vec x j := by
  induction k with
  | zero => rw [if_neg (by omega)]; rfl
  | succ k ih =>
    simp only [subTo]
    by_cases h : a ≤ k
    · rw [if_pos h, vec_set _ _ _ _ (by rw [subTo_len]; omega)]
      by_cases e : j = k
      · subst e
        rw [if_pos rfl, if_pos (by omega)]
      · rw [if_neg e, ih (by omega)]
        by_cases h2 : a ≤ j ∧ j < k
        · rw [if_pos h2, if_pos (by omega)]
        · rw [if_neg h2, if_neg (by omega)]
    · rw [if_neg h, ih (by omega)]
      by_cases h2 : a ≤ j ∧ j < k
      · omega
      · rw [if_neg h2, if_neg (by omega)]
theorem subTo_good {p c : Int} {N : Nat} {r x : List Int} {a : Nat} (hp : 0 < p) (hx : GoodV p N x) (k : Nat) (hk : k ≤ N) : GoodV p N (subTo p c r x a k) := by
  refine ⟨by rw [subTo_len]; exact hx.1, fun j hj => ?_⟩
  rw [subTo_vec k j (by rw [hx.1]; exact hk) (by rw [hx.1]; exact hj)]
  split
  · exact mod_bd _ hp
  · exact hx.2 j hj
/-- What a row's multiple leaves, at all places. -/
theorem left_step {p : Int} {N : Nat} {T : List (Nat × List Int)} (hG : ∀ a ∈ T, GoodR p N a) {i : Nat} (hi : i < T.length) {x z : List Int} {F : Vec} (hp : 0 < p) (hx : GoodV p N x) (h : ∀ k, k < N → p ∣ red ((T.drop i).map vr) (vec x) k - F k)
    (hz : ∀ k, k < N → p ∣ vec z k - red1 T[i].1 (vec T[i].2) (vec x) k) : ∀ k, k < N → p ∣ red ((T.drop (i + 1)).map vr) (vec z) k - F k := by
  intro k hk
  have h' := h k hk
  rw [List.drop_eq_getElem_cons hi] at h'
  simp only [List.map_cons, red, vr] at h'
  obtain ⟨u, hu⟩ := h'
  obtain ⟨v, hv⟩ := red_cong (p := p) (N := N) (rs := (T.drop (i + 1)).map vr) (fun a ha => by
    obtain ⟨b, hb, rfl⟩ := List.mem_map.1 ha
    exact (hG b (List.mem_of_mem_drop hb)).row) hz k hk
  exact ⟨u + v, by grind⟩

def GivesLeft (p : Int) (N : Nat) (T : List (Nat × List Int)) (row : List Int) (w : World) (e : Ending) (w' : World) : Prop :=
  ∃ v ys, e = .returned v ∧ Own w' w.heap.size v ys ∧ GoodV p N ys ∧ (∀ k, k < N → p ∣ vec ys k - red (T.map vr) (vec row) k) ∧ Below w.heap.size w w'

set_option maxRecDepth 8000 in
set_option maxHeartbeats 4000000 in
theorem l08Left_any {p : Int} {N : Nat} (T : List (Nat × List Int)) (row : List Int) (v u : Value) (vs : List Sl) (B : Nat) (w : World) (hp : PrimeP p) (hN : N ≤ 1000) (hT : T.length ≤ 1000) (hG : ∀ a ∈ T, GoodR p N a) (hr : row.length = N)
    (hv : SlIn w .i64 v row) (hu : OwnK encV 25 w B u vs) (hR : RowI w B vs (T.map Prod.snd)) :
    Calls Try.prog 40 #[v, u, .int .i64 p] w (GivesLeft p N T row w) := by
  obtain ⟨GF, hGF⟩ : ∃ GF, GivesLeft p N T row w = GF := ⟨_, rfl⟩
  rw [hGF]
  have HGF := Lib.hid hGF
  have hb := hp.bd
  have HP := Lib.hid hp
  have HM := Lib.hid (fun (a : Int) (w' : World) => l01Mod_any a p w' (by omega) (by omega))
  have HG := Lib.hid hG
  have HV := Lib.hid hv
  have HU := Lib.hid hu
  have HR := Lib.hid hR
  have HINF := Lib.hid (info_parts infoI)
  have hRl := hR.1
  rw [List.length_map] at hRl
  obtain ⟨xo, xc, rfl, hxc⟩ := hv.form
  obtain ⟨uo, uc, rfl⟩ := hu.len
  rw [hr, hRl]
  rw [hRl] at HU
  rw [hr] at HV
  have HXC := Lib.hid hxc
  have HRL := Lib.hid hr
  clear hGF hv hu hR hp hG hxc hr
  go_enter Try.func40, Try.ntmps40
  go_wp2_with fail
  refine forget (fun W_ => Own W_ w.heap.size (.slice (some ⟨w.heap.size, 0, none⟩) 0 0) [] ∧ Below w.heap.size w W_) ⟨Own.of_blk (xs := []) (by repeat (first | (with_reducible assumption) | ((with_reducible refine Blk.new ?_); · first | omega | (simp; done) | (simp; omega)) | (with_reducible apply Blk.set4) | (with_reducible apply Blk.set3) | (with_reducible apply Blk.set2) | ((with_reducible refine Blk.put ?_ ?_); · first | omega | (simp; omega)) | (with_reducible refine Blk.old ?_) | (with_reducible refine Blk.drew ?_) | (with_reducible refine Blk.drewN ?_) | ((with_reducible refine Blk.below hb ?_ ?_); · first | omega | (simp; done) | (simp; omega)))) (Nat.le_refl _) rfl (by simp [maxLen]), (by repeat (first | (with_reducible exact Below.refl _ _) | (with_reducible assumption) | (with_reducible refine Below.drew ?_) | (with_reducible refine Below.drewN ?_) | ((with_reducible refine Below.al ?_ ?_); · first | omega | (simp; done) | (simp; omega)) | ((with_reducible refine Below.sc ?_ ?_); · first | omega | (simp; done) | (simp; omega)) | ((with_reducible refine Below.thru hb ?_ ?_); · first | omega | (simp; done) | (simp; omega))))⟩ ?_
  rintro w0 ⟨O0, k0⟩
  have HDK := Lib.hid (show ∀ k (h : k < row.length), (row.map (· % p)).take (k + 1) = (row.map (· % p)).take k ++ [row[k] % p] from fun k h => by
    rw [List.take_succ_eq_append_getElem (by simpa using h)]; simp)
  have HDL := Lib.hid (show (row.map (· % p)).length = N by rw [List.length_map]; exact HRL.out)
  obtain ⟨D, hD⟩ : ∃ D, row.map (· % p) = D := ⟨_, rfl⟩
  have HD := Lib.hid hD
  rw [hD] at HDK HDL
  clear hD
  go_loopw [7, 8] (fun vo i wr => ∃ k : Nat, k ≤ N ∧ i = .int .i64 k ∧ Own wr w.heap.size vo (D.take k) ∧ Below w.heap.size w wr) (fun _ i _ => N - (intOf i).toNat)
  case atStart => exact ⟨0, Nat.zero_le _, rfl, O0, k0⟩
  case round =>
    clear O0 k0
    obtain ⟨k, hk, rfl, O, kwr⟩ := hrel
    obtain ⟨vo, vc, rfl⟩ := O.toK.len
    have hlen : (D.take k).length = k := by rw [List.length_take, HDL.out]; omega
    rw [hlen]
    rw [hlen] at O
    have HLEN := Lib.hid hlen
    have swr := kwr.size
    clear hlen
    by_cases hlt : k < N
    · have hlx : k < row.length := by rw [HRL.out]; exact hlt
      obtain ⟨a, rfl, hcx⟩ := HXC.out (by omega)
      have cx : wr.cell? (a.add k) = some (.int .i64 row[k]) := by
        have e := hcx k hlx
        rw [kwr.cell (block_lt_of_cell e :)]
        exact e
      have i0 : (0 : Int) ≤ (k : Int) := by omega
      have i1 : (k : Int) < (N : Int) := by omega
      have HTK := Lib.hid (HDK.out k hlx)
      generalize row[k] = x at *
      have H := Lib.hid (And.intro O kwr)
      clear O kwr hcx hlx
      go_wp2_with fail
      refine (HM.out x _).mono ?_
      rintro e w2 ⟨rfl, hb2⟩
      have kwr := H.out.2
      have O := H.out.1
      have K2 : Below w.heap.size w w2 := Below.thru hb2 swr kwr
      have O2 : Own w2 w.heap.size (.slice vo k vc) (D.take k) := O.below hb2
      have s2 := K2.size
      have H2 := Lib.hid (And.intro O2 K2)
      obtain ⟨jI, hinf⟩ := HINF.out
      replace hinf := Lib.hid hinf
      have hvl := HLEN.out
      have HVL := Lib.hid hvl
      generalize x % p = y at *
      clear O kwr H O2 K2 hb2 hvl cx
      go_wp2_with (at_builtin; refine wpList_app_at encI rfl _ _ 25 2 8 rfl Try.underlying25 jI _ hinf.out.1 hinf.out.2.1 hinf.out.2.2.1 hinf.out.2.2.2 rfl (.slice vo k vc) (D.take k) w.heap.size w2.heap.size 1 #[.int .i64 y] [y] rfl ?p1 rfl ?p2 rfl ?p3 ?p4 ?p5 ?_)
      case p1 => exact H2.out.1.toK.alloc
      case p2 => exact Blk.new rfl
      case p3 => rw [HVL.out]; simp only [List.length_cons, List.length_nil]; unfold maxLen; omega
      case p4 => rw [HVL.out]; simp only [List.length_cons, List.length_nil]; omega
      case p5 => simp; omega
      intro v3 w3 O3 hg3 _
      have O4 : Own w3 w.heap.size v3 (D.take (k + 1)) := by
        rw [HTK.out]
        exact OwnK.toOwn O3
      have K3 : Below w.heap.size w w3 := by
        have kk := H2.out.2
        have O5 := H2.out.1.alloc (o := .cells #[.int .i64 y] 2)
        exact Below.grownO hg3 (ys := D.take k) (B2 := w.heap.size) O5 (Nat.le_refl _) (by simp; omega) (by repeat (first | (with_reducible exact Below.refl _ _) | (with_reducible assumption) | (with_reducible refine Below.drew ?_) | (with_reducible refine Below.drewN ?_) | ((with_reducible refine Below.al ?_ ?_); · first | omega | (simp; done) | (simp; omega)) | ((with_reducible refine Below.sc ?_ ?_); · first | omega | (simp; done) | (simp; omega)) | ((with_reducible refine Below.thru hb ?_ ?_); · first | omega | (simp; done) | (simp; omega))))
      have H3 := Lib.hid (And.intro O4 K3)
      clear O3 O4 K3 hg3 H2
      go_wp2
      go_roundw
      case rel => exact ⟨k + 1, by omega, by go_num, H3.out.1, H3.out.2⟩
      case measure => first | (simp [intOf]; done) | (simp [intOf]; omega)
    · obtain rfl : N = k := by omega
      have HTK := Lib.hid (show D.take N = D from List.take_of_length_le (by rw [HDL.out]; exact Nat.le_refl _))
      rw [HTK.out] at O
      have HO := Lib.hid O
      clear O hlt HTK HLEN HXC HDK HINF
      have HST := Lib.hid (show GoodV p N D ∧ ∀ k, k < N → p ∣ red ((T.drop 0).map vr) (vec D) k - red (T.map vr) (vec row) k from by
        have hb' := HP.out.bd
        have hv : ∀ k, vec D k = vec row k % p := by
          intro k
          rw [← HD.out]
          simp only [vec, List.getD_eq_getElem?_getD, List.getElem?_map]
          cases row[k]? <;> simp
        refine ⟨⟨HDL.out, fun k _ => by rw [hv]; exact mod_bd _ (by omega)⟩, fun k hk => ?_⟩
        rw [List.drop_zero]
        refine red_cong (N := N) (fun a ha => ?_) (fun k _ => by rw [hv]; exact mod_dvd _ _) k hk
        obtain ⟨b, hb, rfl⟩ := List.mem_map.1 ha
        exact (HG.out b hb).row)
      clear HDL HD
      go_wp2_with fail
      go_loopw [9] (fun s9 wq => ∃ (i : Nat) (x : List Int), i ≤ T.length ∧ s9 = .int .i64 i ∧ Own wq w.heap.size (.slice vo N vc) x ∧ Hid (GoodV p N x ∧ ∀ k, k < N → p ∣ red ((T.drop i).map vr) (vec x) k - red (T.map vr) (vec row) k) ∧ Below w.heap.size w wq) (fun s9 _ => T.length - (intOf s9).toNat)
      case atStart => exact ⟨0, D, Nat.zero_le _, rfl, HO.out, HST, kwr⟩
      case round =>
        clear HO HST kwr
        obtain ⟨i, x, hi, rfl, O, hx, kwq⟩ := hrel
        have sq := kwq.size
        by_cases hlt : i < T.length
        · have hga := HG.out T[i] (List.getElem_mem hlt)
          have hsl : i < vs.length := by rw [hRl]; exact hlt
          have hOs := HR.out.2 i vs[i] T[i].2 (List.getElem?_eq_getElem hsl) (by rw [List.getElem?_map, List.getElem?_eq_getElem hlt]; rfl)
          have hHR := Lib.hid (And.intro hga (And.intro hlt hx.out))
          obtain ⟨hgd, hla, hone, hlead⟩ := hga
          have HLS := Lib.hid (fun (z : List Int) (hz : GoodV p N z) h => And.intro hz (left_step HG.out hlt (z := z) (by omega) hx.out.1 hx.out.2 h))
          have hrl := hgd.1
          have hrb := hgd.2
          have hxl := hx.out.1.1
          have hxb := hx.out.1.2
          obtain ⟨la, hlaE⟩ : ∃ la, T[i].1 = la := ⟨_, rfl⟩
          obtain ⟨r, hrE⟩ : ∃ r, T[i].2 = r := ⟨_, rfl⟩
          rw [hlaE] at hla hone hlead HLS
          rw [hrE] at hOs hone hlead HLS hrl hrb
          obtain ⟨s, hsE⟩ : ∃ s, vs[i] = s := ⟨_, rfl⟩
          have hget : vs[i]? = some s := by rw [List.getElem?_eq_getElem hsl, hsE]
          rw [hsE] at hOs
          obtain ⟨so, sn, sc⟩ := s
          have hOs : Own w B (.slice so sn sc) r := hOs
          rcases hOs.toK.form with ⟨h1, h2⟩ | ⟨gs, cs, h1, -, hgs, -⟩
          · rw [h2] at hrl; simp at hrl; omega
          simp only [Value.slice.injEq] at h1
          obtain ⟨rfl, rfl, rfl⟩ := h1
          rcases HU.out.form with ⟨h1, h2⟩ | ⟨gu, cu, h1, -, hgu, -⟩
          · rw [h2] at hsl; simp at hsl
          simp only [Value.slice.injEq] at h1
          obtain ⟨rfl, -, rfl⟩ := h1
          have cu : wr.cell? ⟨gu, i, none⟩ = some (.slice (some ⟨gs, 0, none⟩) r.length sc) := by
            have e := OwnK.at (j := i) (i := 0) (HU.out.below kwq) rfl hget (u := .slice (some ⟨gs, 0, none⟩) r.length sc) rfl
            rwa [show i * encV.k + 0 = i by show i * 1 + 0 = i; omega] at e
          have CS := Lib.hid (fun (W : World) (kW : Below w.heap.size w W) (j : Nat) (hj : j < N) => Own.rd (hOs.below kW) rfl (j := j) (by omega))
          rcases O.toK.form with ⟨h1, h2⟩ | ⟨g, cg, h1, hgB, hgl, -⟩
          · rw [h2] at hxl; simp at hxl; omega
          simp only [Value.slice.injEq] at h1
          obtain ⟨rfl, -, rfl⟩ := h1
          have cx := Own.rd O hxl hla
          have i0 : (0 : Int) ≤ (i : Int) := by omega
          have i1 : (i : Int) < (T.length : Int) := by omega
          have i2 : (0 : Int) ≤ (la : Int) := by omega
          have i3 : (la : Int) < (N : Int) := by omega
          rw [hrl] at cu
          have HB := Lib.hid (And.intro hrb hxb)
          have HXL := Lib.hid hxl
          have HKQ := Lib.hid (And.intro kwq O)
          have HLD := Lib.hid (And.intro hone hlead)
          have hlaN : la < N := hla
          clear hsE hrE hlaE hget hgd hlead hrb hxb hOs hxl hrl hla hsl kwq O hone hHR hx
          go_wp2_with fail
          go_loop [10] (fun s10 => ∃ j : Nat, j ≤ la ∧ s10 = .int .i64 j) (fun s10 => la - (intOf s10).toNat)
          case atStart => exact ⟨0, Nat.zero_le _, rfl⟩
          case round =>
            obtain ⟨j, hj, rfl⟩ := hrel
            have c2 := CS.out wr HKQ.out.1 j (by omega)
            have j0 : (0 : Int) ≤ (j : Int) := by omega
            have j1 : (j : Int) < (N : Int) := by omega
            by_cases hjl : j < la
            · rw [HLD.out.2 j hjl] at c2
              go_wp2
              go_round
              case rel => exact ⟨j + 1, by omega, by go_num⟩
              case measure => first | (simp [intOf]; done) | (simp [intOf]; omega)
            · obtain rfl : j = la := by omega
              rw [HLD.out.1] at c2
              obtain ⟨c, hcE⟩ : ∃ c, vec x j = c := ⟨_, rfl⟩
              rw [hcE] at cx
              have HCE := Lib.hid hcE
              clear hcE
              by_cases h0 : c = 0
              · subst h0
                go_wp2
                go_roundw
                case rel => exact ⟨i + 1, x, by omega, by go_num, HKQ.out.2, Lib.hid (HLS.out x ⟨HXL.out, HB.out.2⟩ (fun k hk => by
                  rw [show red1 j (vec r) (vec x) k = vec x k by simp [red1, HCE.out]]
                  exact ⟨0, by simp⟩)), HKQ.out.1⟩
                case measure => first | (simp [intOf]; done) | (simp [intOf]; omega)
              · have H0 := Lib.hid h0
                go_wp2_with fail
                go_loopw [12] (fun s12 wz => ∃ (k : Nat) (z : List Int), j ≤ k ∧ k ≤ N ∧ s12 = .int .i64 k ∧ Own wz w.heap.size (.slice (some ⟨g, 0, none⟩) N vc) z ∧ Hid (z = subTo p c r x j k) ∧ Below w.heap.size w wz) (fun s12 _ => N - (intOf s12).toNat)
                case atStart => exact ⟨j, subTo p c r x j j, Nat.le_refl _, by omega, rfl, by
                  have e : subTo p c r x j j = x := by
                    have : ∀ k, k ≤ j → subTo p c r x j k = x := by
                      intro k
                      induction k with
                      | zero => intro _; rfl
                      | succ k ih => intro hk; simp only [subTo]; rw [if_neg (by omega), ih (by omega)]
                    exact this j (Nat.le_refl _)
                  rw [e]
                  exact HKQ.out.2, Lib.hid rfl, HKQ.out.1⟩
                case round =>
                  have kwq := HKQ.out.1
                  obtain ⟨k, z, hjk, hkN, rfl, O, hz, kz⟩ := hrel
                  have sz := kz.size
                  by_cases hkl : k < N
                  · have jk0 : (0 : Int) ≤ (k : Int) := by omega
                    have jk1 : (k : Int) < (N : Int) := by omega
                    have hzl : z.length = N := by rw [hz.out, subTo_len]; exact HXL.out
                    have HZL := Lib.hid hzl
                    have d0 := Own.rd O hzl hkl
                    have d1 := Own.free O hzl k
                    have d2 : wr.cell? ⟨gu, i, none⟩ = some (.slice (some ⟨gs, 0, none⟩) N sc) := by
                      have := OwnK.lt (HU.out) (g := gu) rfl
                      have e := (kz.cell (p := ⟨gu, i, none⟩) (by show gu < w.heap.size; omega))
                      have e2 := (kwq.cell (p := ⟨gu, i, none⟩) (by show gu < w.heap.size; omega))
                      rw [e, ← e2]
                      exact cu
                    have d3 := CS.out wr kz k hkl
                    have hxk := HB.out.2 k hkl
                    have hrk := HB.out.1 k hkl
                    have hcb : 0 ≤ c ∧ c < p := by rw [← HCE.out]; exact HB.out.2 j (by omega)
                    have hzk : vec z k = vec x k := by rw [hz.out, subTo_vec k k (by rw [HXL.out]; omega) (by rw [HXL.out]; exact hkl), if_neg (by omega)]
                    have hm := mulP_bd (p := p) (by omega) hcb hrk
                    have HSS := Lib.hid (show subTo p c r x j (k + 1) = z.set k ((vec x k - c * vec r k) % p) by simp only [subTo]; rw [if_pos hjk, hz.out])
                    rw [hzk] at d0
                    obtain ⟨xk, hxkE⟩ : ∃ y, vec x k = y := ⟨_, rfl⟩
                    obtain ⟨rk, hrkE⟩ : ∃ y, vec r k = y := ⟨_, rfl⟩
                    rw [hxkE] at d0 hxk HSS
                    rw [hrkE] at d3 hrk hm HSS
                    obtain ⟨q, hq⟩ : ∃ q, c * rk = q := ⟨_, rfl⟩
                    rw [hq] at hm HSS
                    have e1 : IntKind.i64.wrap (c * rk) = q := by rw [hq, IntKind.wrap_i64]; omega
                    have e2 : IntKind.i64.wrap (xk - q) = xk - q := by rw [IntKind.wrap_i64]; omega
                    have HO := Lib.hid (And.intro O kz)
                    clear hz hzk hxkE hrkE hq hm hcb hxk hrk c2 cx cu O h0 hzl kwq
                    go_wp2_with fail
                    have D0 := cell_laterL d0
                    have D2 := cell_laterL d2
                    have D3 := cell_laterL d3
                    refine wp_region_calm_tail 19 (by kernel_rfl) (by kernel_rfl) ?_; simp only [List.take_succ_cons, List.take_zero, List.drop_succ_cons, List.drop_zero]
                    repeat (go_big_quiet_step (first | (go_at_call 56; with_reducible exact Calls.calm (HM.out _ _))))
                    refine wpQuiet_nil ?_
                    rintro w5 ⟨⟨_, hb⟩, rfl⟩
                    have O5 : Own w5 w.heap.size (.slice (some ⟨g, 0, none⟩) N vc) z := (HO.out.1.below hb)
                    have kw5 : Below w.heap.size w w5 := (by repeat (first | (with_reducible exact Below.refl _ _) | (with_reducible assumption) | (with_reducible refine Below.drew ?_) | (with_reducible refine Below.drewN ?_) | ((with_reducible refine Below.al ?_ ?_); · first | omega | (simp; done) | (simp; omega)) | ((with_reducible refine Below.sc ?_ ?_); · first | omega | (simp; done) | (simp; omega)) | ((with_reducible refine Below.thru hb ?_ ?_); · first | omega | (simp; done) | (simp; omega))))
                    have sw5 := kw5.size
                    clear hb
                    have g0 := Own.rd O5 HZL.out hkl
                    have g1 := Own.free O5 HZL.out k
                    have H5 := Lib.hid (And.intro O5 kw5)
                    clear D0 D2 D3 d0 d1 d2 d3 O5 HO kz
                    go_wp2
                    go_roundw
                    case rel => exact ⟨k + 1, z.set k ((xk - q) % p), by omega, by omega, by go_num, Own.set H5.out.1 HZL.out, Lib.hid HSS.out.symm, Below.sc (by show w.heap.size ≤ g; exact hgB) H5.out.2⟩
                    case measure => first | (simp [intOf]; done) | (simp [intOf]; omega)
                  · obtain rfl : N = k := by omega
                    have HZ := Lib.hid (show GoodV p N z ∧ ∀ k, k < N → p ∣ vec z k - red1 j (vec r) (vec x) k from by
                      rw [hz.out]
                      refine ⟨subTo_good (by omega) ⟨HXL.out, HB.out.2⟩ N (Nat.le_refl _), fun k hk => ?_⟩
                      rw [subTo_vec N k (by rw [HXL.out]; exact Nat.le_refl _) (by rw [HXL.out]; exact hk)]
                      simp only [red1]
                      rw [HCE.out]
                      by_cases h : j ≤ k
                      · rw [if_pos ⟨h, hk⟩]
                        exact mod_dvd _ _
                      · rw [if_neg (by omega), HLD.out.2 k (by omega)]
                        exact ⟨0, by simp⟩)
                    have HO := Lib.hid (And.intro O kz)
                    clear hz O c2 cx cu h0
                    go_wp2
                    go_roundw
                    case rel => exact ⟨i + 1, z, by omega, by go_num, HO.out.1, Lib.hid (HLS.out z HZ.out.1 HZ.out.2), HO.out.2⟩
                    case measure => first | (simp [intOf]; done) | (simp [intOf]; omega)
        · obtain rfl : i = T.length := by omega
          have HF := Lib.hid (show GoodV p N x ∧ ∀ k, k < N → p ∣ vec x k - red (T.map vr) (vec row) k from ⟨hx.out.1, fun k hk => by
            have := hx.out.2 k hk
            rwa [List.drop_eq_nil_of_le (Nat.le_refl _)] at this⟩)
          clear hx hlt
          go_wp2
          rw [← HGF.out]
          exact ⟨_, x, rfl, O, HF.out.1, HF.out.2, kwq⟩


theorem red_skip {p : Int} {N : Nat} {rows : List (List Int)} {T : List (Nat × List Int)} {i : Nat} (hil : i < rows.length) (hT : Red p N (rows.take i) T) {own : List Int} (hd : ∀ k, k < N → p ∣ vec own k - red (T.map vr) (vec rows[i]) k) (h0 : ∀ k, k < N → vec own k = 0) : Red p N (rows.take (i + 1)) T := by
  have hxy : Sp p N (In (T.map vr)) fun k => vec rows[i] k - vec own k := (red_sub (p := p) (N := N) (T.map vr) (vec rows[i])).cong fun k hk => by
    obtain ⟨u, hu⟩ := hd k hk
    exact ⟨- u, by grind⟩
  rw [List.take_succ_eq_append_getElem hil]
  refine hT.skip (hxy.cong fun k hk => ?_)
  rw [h0 k hk]
  exact ⟨0, by simp⟩
theorem red_putL {p : Int} {N : Nat} (hp : PrimeP p) {rows : List (List Int)} {T : List (Nat × List Int)} {i : Nat} (hil : i < rows.length) (hT : Red p N (rows.take i) T) (ht : Tri p (T.map vr)) {own z : List Int} (ho : GoodV p N own) (hd : ∀ k, k < N → p ∣ vec own k - red (T.map vr) (vec rows[i]) k)
    {a : Nat} (haN : a < N) (ha : vec own a ≠ 0) (h0 : ∀ k, k < a → vec own k = 0) (hz : GoodV p N z) (hzk : ∀ k, k < N → vec z k = (vec own k * ivZ p (vec own a)) % p) : Red p N (rows.take (i + 1)) (T ++ [(a, z)]) ∧ Tri p ((T ++ [(a, z)]).map vr) := by
  have hb := hp.bd
  have hxy : Sp p N (In (T.map vr)) fun k => vec rows[i] k - vec own k := (red_sub (p := p) (N := N) (T.map vr) (vec rows[i])).cong fun k hk => by
    obtain ⟨u, hu⟩ := hd k hk
    exact ⟨- u, by grind⟩
  have hob := ho.2 a haN
  have hc := ivZ_ok hp (a := vec own a) (by omega) hob.2
  have hzy : ∀ k, k < N → p ∣ vec z k - ivZ p (vec own a) * vec own k := by
    intro k hk'
    obtain ⟨u, hu⟩ := mod_dvd (vec own k * ivZ p (vec own a)) p
    rw [hzk k hk']
    exact ⟨u, by grind⟩
  have hnd : ¬ p ∣ vec own a := fun h => by
    have := Int.le_of_dvd (by omega) h
    omega
  have hat : ∀ b ∈ T, p ∣ vec own b.1 := by
    intro b hb'
    have hrow := hT.good b hb'
    obtain ⟨u, hu⟩ := hd b.1 hrow.lt
    obtain ⟨v, hv⟩ := red_at hT.rows ht (a := vr b) (List.mem_map.2 ⟨b, hb', rfl⟩) (vec rows[i])
    exact ⟨u + v, by simp only [vr] at hv; grind⟩
  have hgood : GoodR p N (a, z) := by
    refine ⟨hz, haN, ?_, fun k hk' => ?_⟩
    · show vec z a = 1
      rw [hzk a haN]
      obtain ⟨u, hu⟩ := hc
      rw [show vec own a * ivZ p (vec own a) = 1 + p * u by grind, Int.add_mul_emod_self_left]
      exact Int.emod_eq_of_lt (by decide) (by omega)
    · show vec z k = 0
      rw [hzk k (by simp only at hk'; omega), h0 k hk']
      simp
  constructor
  · rw [List.take_succ_eq_append_getElem hil]
    refine hT.put (l := a) (z := z) (c := ivZ p (vec own a)) (fun b => by simp [or_comm]) ?_ hgood hxy hzy hc
    rw [List.map_append, List.nodup_append]
    refine ⟨hT.dif, by simp, ?_⟩
    intro b hb' c hc' e
    obtain ⟨d, hd', rfl⟩ := List.mem_map.1 hb'
    simp only [List.map_cons, List.map_nil, List.mem_singleton] at hc'
    subst hc'
    exact hnd (e ▸ hat d hd')
  · rw [List.map_append]
    refine List.pairwise_append.2 ⟨ht, by simp, ?_⟩
    intro b hb' c hc'
    obtain ⟨d, hd', rfl⟩ := List.mem_map.1 hb'
    simp only [List.map_cons, List.map_nil, List.mem_singleton] at hc'
    subst hc'
    have hlt := (hT.good d hd').lt
    obtain ⟨u, hu⟩ := hzy d.1 hlt
    obtain ⟨v, hv⟩ := hat d hd'
    show p ∣ vec z d.1
    exact ⟨u + ivZ p (vec own a) * v, by grind⟩
/-- A row times a number, up to a place. -/
def mulTo (p c : Int) (x : List Int) : Nat → List Int
  | 0 => x
  | k + 1 => (mulTo p c x k).set k ((vec x k * c) % p)
theorem mulTo_len (p c : Int) (x : List Int) (k : Nat) : (mulTo p c x k).length = x.length := by
  induction k with
  | zero => rfl
  | succ k ih => simp [mulTo, ih]
theorem mulTo_vec {p c : Int} {x : List Int} (k j : Nat) (hk : k ≤ x.length) : vec (mulTo p c x k) j = if j < k then (vec x j * c) % p else vec x j := by
  induction k with
  | zero => rw [if_neg (by omega)]; rfl
  | succ k ih =>
    simp only [mulTo]
    rw [vec_set _ _ _ _ (by rw [mulTo_len]; omega)]
    by_cases e : j = k
    · subst e
      rw [if_pos rfl, if_pos (by omega)]
    · rw [if_neg e, ih (by omega)]
      by_cases h2 : j < k
      · rw [if_pos h2, if_pos (by omega)]
      · rw [if_neg h2, if_neg (by omega)]
theorem mulTo_good {p c : Int} {N : Nat} {x : List Int} (hp : 0 < p) (hx : GoodV p N x) (k : Nat) (hk : k ≤ N) : GoodV p N (mulTo p c x k) := by
  refine ⟨by rw [mulTo_len]; exact hx.1, fun j hj => ?_⟩
  rw [mulTo_vec k j (by rw [hx.1]; exact hk)]
  split
  · exact mod_bd _ hp
  · exact hx.2 j hj

def GivesRed (p : Int) (N : Nat) (rows : List (List Int)) (w : World) (e : Ending) (w' : World) : Prop :=
  ∃ v vs U, e = .returned v ∧ OwnK encV 25 w' w.heap.size v vs ∧ RowI w' w.heap.size vs (U.map Prod.snd) ∧ Red p N rows U ∧ Tri p (U.map vr) ∧ Below w.heap.size w w'

set_option maxRecDepth 8000 in
set_option maxHeartbeats 4000000 in
theorem l08Reduced_any {p : Int} {N : Nat} (rows : List (List Int)) (u : Value) (us : List Sl) (B : Nat) (w : World) (hp : PrimeP p) (hN : 1 ≤ N ∧ N ≤ 1000) (hRw : rows.length ≤ 1000) (hL : ∀ r ∈ rows, r.length = N)
    (hu : OwnK encV 25 w B u us) (hR : RowI w B us rows) :
    Calls Try.prog 23 #[u, .int .i64 p] w (GivesRed p N rows w) := by
  obtain ⟨GF, hGF⟩ : ∃ GF, GivesRed p N rows w = GF := ⟨_, rfl⟩
  rw [hGF]
  have HGF := Lib.hid hGF
  have hb := hp.bd
  have HP := Lib.hid hp
  have HL := Lib.hid hL
  have HU := Lib.hid hu
  have HR := Lib.hid hR
  have HINF := Lib.hid (info_parts infoSl)
  have HIV := Lib.hid (fun (a : Int) (h1 : 0 ≤ a) (h2 : a < p) (w' : World) => show Calls Try.prog 41 #[.int .i64 a, .int .i64 p] w' fun e w'' => e = .returned (.int .i64 (ivZ p a)) ∧ Below w'.heap.size w' w'' from by
    obtain ⟨K, hK⟩ := specInv_ev hp h1 h2
    exact (Go.Proofs.Ytjjbaebddkejnaa.Pl08Inverse.spec_l08Inverse.calls K a p (ivZ p a) w' (hK K (Nat.le_refl _))).mono fun e w'' h => ⟨h.1, h.2.below⟩)
  have hRl := hR.1
  obtain ⟨uo, uc, rfl⟩ := hu.len
  rw [hRl]
  rw [hRl] at HU
  clear hGF hu hR hp hL
  go_enter Try.func23, Try.ntmps23
  go_wp2_with fail
  refine forget (fun W_ => OwnK encV 25 W_ w.heap.size (.slice (some ⟨w.heap.size, 0, none⟩) 0 0) [] ∧ Below w.heap.size w W_) ⟨OwnK.of_blk (xs := []) (by repeat (first | (with_reducible assumption) | ((with_reducible refine Blk.new ?_); · first | omega | (simp; done) | (simp; omega)) | (with_reducible apply Blk.set4) | (with_reducible apply Blk.set3) | (with_reducible apply Blk.set2) | ((with_reducible refine Blk.put ?_ ?_); · first | omega | (simp; omega)) | (with_reducible refine Blk.old ?_) | (with_reducible refine Blk.drew ?_) | (with_reducible refine Blk.drewN ?_) | ((with_reducible refine Blk.below hb ?_ ?_); · first | omega | (simp; done) | (simp; omega)))) (Nat.le_refl _) rfl (by simp [maxLen]), (by repeat (first | (with_reducible exact Below.refl _ _) | (with_reducible assumption) | (with_reducible refine Below.drew ?_) | (with_reducible refine Below.drewN ?_) | ((with_reducible refine Below.al ?_ ?_); · first | omega | (simp; done) | (simp; omega)) | ((with_reducible refine Below.sc ?_ ?_); · first | omega | (simp; done) | (simp; omega)) | ((with_reducible refine Below.thru hb ?_ ?_); · first | omega | (simp; done) | (simp; omega))))⟩ ?_
  rintro w0 ⟨O0, k0⟩
  go_loopw [5, 6] (fun vo s6 wr => ∃ (i : Nat) (vs : List Sl) (T : List (Nat × List Int)), i ≤ rows.length ∧ s6 = .int .i64 i ∧ OwnK encV 25 wr w.heap.size vo vs ∧ RowI wr w.heap.size vs (T.map Prod.snd) ∧ Hid (Red p N (rows.take i) T ∧ Tri p (T.map vr)) ∧ Below w.heap.size w wr) (fun _ s6 _ => rows.length - (intOf s6).toNat)
  case atStart => exact ⟨0, [], [], Nat.zero_le _, rfl, O0, RowI.nil _ _, Lib.hid ⟨by rw [List.take_zero]; exact Red.nil, List.Pairwise.nil⟩, k0⟩
  case round =>
    clear O0 k0
    obtain ⟨i, vs, T, hi, rfl, O, R, hT, kw⟩ := hrel
    have sw := kw.size
    obtain ⟨ou, oc, rfl⟩ := O.len
    by_cases hlt : i < rows.length
    · have hTl := hT.out.1.le
      have hvl : vs.length = T.length := by rw [R.1, List.length_map]
      have hsl : i < us.length := by rw [hRl]; exact hlt
      obtain ⟨s, hsE⟩ : ∃ s, us[i] = s := ⟨_, rfl⟩
      have hget : us[i]? = some s := by rw [List.getElem?_eq_getElem hsl, hsE]
      have hOs := HR.out.2 i s rows[i] hget (List.getElem?_eq_getElem hlt)
      obtain ⟨so, sn, sc⟩ := s
      have hOs : Own w B (.slice so sn sc) rows[i] := hOs
      rcases HU.out.form with ⟨h1, h2⟩ | ⟨gu, cu, h1, -, hgu, -⟩
      · rw [h2] at hsl; simp at hsl
      simp only [Value.slice.injEq] at h1
      obtain ⟨rfl, -, rfl⟩ := h1
      have cu : wr.cell? ⟨gu, i, none⟩ = some (.slice so sn sc) := by
        have e := OwnK.at (j := i) (i := 0) (HU.out.below kw) rfl hget (u := .slice so sn sc) rfl
        rwa [show i * encV.k + 0 = i by show i * 1 + 0 = i; omega] at e
      have HLF := Lib.hid (l08Left_any (p := p) (N := N) T rows[i] (.slice so sn sc) (.slice ou vs.length oc) vs w.heap.size wr HP.out hN.2 (by omega) hT.out.1.good (HL.out _ (List.getElem_mem hlt)) (hOs.below kw).slIn O R)
      have i0 : (0 : Int) ≤ (i : Int) := by omega
      have i1 : (i : Int) < (rows.length : Int) := by omega
      have HO := Lib.hid (And.intro O (And.intro R kw))
      clear hsE hget hOs O R hvl hTl hsl
      go_wp2_with fail
      refine HLF.out.mono ?_
      rintro e w5 ⟨v5, ys, rfl, O5, hg5, hd5, k5⟩
      have KW5 : Below w.heap.size w w5 := kw.trans (k5.mono sw)
      have hyl := hg5.1
      rcases O5.toK.form with ⟨h1, h2⟩ | ⟨g, cg, h1, hgB, hgl, -⟩
      · rw [h2] at hyl; simp at hyl; omega
      subst h1
      rw [hyl] at O5 ⊢
      have HOK := Lib.hid (show OwnK encV 25 w5 w.heap.size (.slice ou vs.length oc) vs ∧ RowI w5 w.heap.size vs (T.map Prod.snd) ∧ Below w.heap.size w w5 from ⟨HO.out.1.below k5, HO.out.2.1.keep fun _ _ O => O.below k5, KW5⟩)
      have HG5 := Lib.hid (And.intro hg5 (And.intro hd5 O5))
      have HYL := Lib.hid hyl
      have hgw : w.heap.size ≤ g := by omega
      have HGE := Lib.hid (show ∀ b, (Value.slice ou vs.length oc).ownBlock = some b → b < wr.heap.size from fun b hb => (OwnK.lt HO.out.1 hb).2)
      have HGR := Lib.hid (show ∀ (t : Sl), t ∈ vs → ∀ b, t.v.ownBlock = some b → b < wr.heap.size from fun t ht b hb => by
        obtain ⟨j, hj, e⟩ := List.getElem_of_mem ht
        have hj2 : j < (T.map Prod.snd).length := by rw [← HO.out.2.1.1]; exact hj
        exact ((HO.out.2.1.2 j t _ (by rw [List.getElem?_eq_getElem hj, e]) (List.getElem?_eq_getElem hj2)).lt hb).2)
      obtain ⟨M0, hM0⟩ : ∃ M, wr.heap.size = M := ⟨_, rfl⟩
      have hM5 := k5.size
      have hwM := sw
      rw [hM0] at hgB HGE HGR HG5 hM5 hwM
      clear HLF HO cu hg5 hd5 KW5 k5 kw sw O5 hyl hM0
      go_wp2_with fail
      rcases first_nz (vec ys) N with h0 | ⟨a, haN, ha, h0⟩
      · have H0 := Lib.hid h0
        clear h0
        go_loop [8] (fun s8 => ∃ j : Nat, j ≤ N ∧ s8 = .int .i64 j) (fun s8 => N - (intOf s8).toNat)
        case atStart => exact ⟨0, Nat.zero_le _, rfl⟩
        case round =>
          obtain ⟨j, hj, rfl⟩ := hrel
          by_cases hjl : j < N
          · have c2 := Own.rd HG5.out.2.2 HYL.out hjl
            rw [H0.out j hjl] at c2
            have j0 : (0 : Int) ≤ (j : Int) := by omega
            have j1 : (j : Int) < (N : Int) := by omega
            go_wp2
            go_round
            case rel => exact ⟨j + 1, by omega, by go_num⟩
            case measure => first | (simp [intOf]; done) | (simp [intOf]; omega)
          · obtain rfl : N = j := by omega
            go_wp2
            go_roundw
            case rel => exact ⟨i + 1, vs, T, by omega, by go_num, HOK.out.1, HOK.out.2.1, Lib.hid ⟨red_skip hlt hT.out.1 HG5.out.2.1 H0.out, hT.out.2⟩, HOK.out.2.2⟩
            case measure => first | (simp [intOf]; done) | (simp [intOf]; omega)
      · have H0 := Lib.hid (And.intro ha h0)
        clear h0 ha
        go_loop [8] (fun s8 => ∃ j : Nat, j ≤ a ∧ s8 = .int .i64 j) (fun s8 => a - (intOf s8).toNat)
        case atStart => exact ⟨0, Nat.zero_le _, rfl⟩
        case round =>
          obtain ⟨j, hj, rfl⟩ := hrel
          have c2 := Own.rd HG5.out.2.2 HYL.out (show j < N by omega)
          have j0 : (0 : Int) ≤ (j : Int) := by omega
          have j1 : (j : Int) < (N : Int) := by omega
          by_cases hjl : j < a
          · rw [H0.out.2 j hjl] at c2
            go_wp2
            go_round
            case rel => exact ⟨j + 1, by omega, by go_num⟩
            case measure => first | (simp [intOf]; done) | (simp [intOf]; omega)
          · obtain rfl : j = a := by omega
            have hne := H0.out.1
            have hyb := HG5.out.1.2 j haN
            have HIc := Lib.hid (fun w' => HIV.out (vec ys j) hyb.1 hyb.2 w')
            have HCB := Lib.hid (ivZ_bd (a := vec ys j) HP.out)
            have HPL := Lib.hid (fun (z : List Int) h1 h2 => red_putL (z := z) HP.out hlt hT.out.1 hT.out.2 HG5.out.1 HG5.out.2.1 haN H0.out.1 H0.out.2 h1 h2)
            obtain ⟨y, hyE⟩ : ∃ y, vec ys j = y := ⟨_, rfl⟩
            rw [hyE] at c2 hne HIc HCB HPL
            obtain ⟨c, hcE⟩ : ∃ c, ivZ p y = c := ⟨_, rfl⟩
            rw [hcE] at HIc HCB HPL
            clear hyE hcE hyb
            go_wp2_with fail
            refine (HIc.out _).mono ?_
            rintro e w6 ⟨rfl, hb6⟩
            have s6 := hb6.size
            have H6 := Lib.hid (show Own w6 M0 (.slice (some ⟨g, 0, none⟩) N cg) ys ∧ OwnK encV 25 w6 w.heap.size (.slice ou vs.length oc) vs ∧ RowI w6 w.heap.size vs (T.map Prod.snd) ∧ Below w.heap.size w w6 from
              ⟨HG5.out.2.2.below hb6, HOK.out.1.below hb6, HOK.out.2.1.keep fun _ _ O => O.below hb6, HOK.out.2.2.trans (hb6.mono (by omega))⟩)
            clear hb6 HOK HIc c2 hne
            go_wp2_with fail
            go_loopw [10] (fun s10 wz => ∃ (k : Nat) (z : List Int), k ≤ N ∧ s10 = .int .i64 k ∧ Own wz M0 (.slice (some ⟨g, 0, none⟩) N cg) z ∧ Hid (z = mulTo p c ys k) ∧ Below M0 w6 wz) (fun s10 _ => N - (intOf s10).toNat)
            case atStart => exact ⟨0, ys, Nat.zero_le _, rfl, H6.out.1, Lib.hid rfl, Below.refl _ _⟩
            case round =>
              obtain ⟨k, z, hkN, rfl, O, hz, kz⟩ := hrel
              have sz := kz.size
              by_cases hkl : k < N
              · have jk0 : (0 : Int) ≤ (k : Int) := by omega
                have jk1 : (k : Int) < (N : Int) := by omega
                have hzl : z.length = N := by rw [hz.out, mulTo_len]; exact HYL.out
                have HZL := Lib.hid hzl
                have d0 := Own.rd O hzl hkl
                have hyk := HG5.out.1.2 k hkl
                have hzk : vec z k = vec ys k := by rw [hz.out, mulTo_vec k k (by rw [HYL.out]; omega), if_neg (by omega)]
                have hm := mulP_bd (p := p) (by omega) hyk HCB.out
                have HSS := Lib.hid (show mulTo p c ys (k + 1) = z.set k ((vec ys k * c) % p) by simp only [mulTo]; rw [hz.out])
                rw [hzk] at d0
                obtain ⟨yk, hykE⟩ : ∃ y, vec ys k = y := ⟨_, rfl⟩
                rw [hykE] at d0 hyk hm HSS
                obtain ⟨q, hq⟩ : ∃ q, yk * c = q := ⟨_, rfl⟩
                rw [hq] at hm HSS
                have e1 : IntKind.i64.wrap (yk * c) = q := by rw [hq, IntKind.wrap_i64]; omega
                have e2 : q.tmod p = q % p := Int.tmod_eq_emod_of_nonneg hm.1
                have e3 : (p == 0) = false := by rw [beq_eq_false_iff_ne]; omega
                have HO := Lib.hid (And.intro O kz)
                have d1 := Own.free O hzl k
                clear hz hzk hykE hq hm hyk O hzl kz
                go_wp2
                go_roundw
                case rel => exact ⟨k + 1, z.set k (q % p), by omega, by go_num, Own.set HO.out.1 HZL.out, Lib.hid HSS.out.symm, Below.sc (by show M0 ≤ g; exact hgB) HO.out.2⟩
                case measure => first | (simp [intOf]; done) | (simp [intOf]; omega)
              · obtain rfl : N = k := by omega
                have HP2 := Lib.hid (HPL.out z (by rw [hz.out]; exact mulTo_good (by omega) HG5.out.1 N (Nat.le_refl _)) (fun k hk => by rw [hz.out, mulTo_vec N k (by rw [HYL.out]; exact Nat.le_refl _), if_pos hk]))
                have HO := Lib.hid (And.intro O kz)
                have HQ := Lib.hid (show OwnK encV 25 wr w.heap.size (.slice ou vs.length oc) vs ∧ RowI wr w.heap.size vs (T.map Prod.snd) ∧ Own wr w.heap.size (.slice (some ⟨g, 0, none⟩) N cg) z ∧ Below w.heap.size w wr from
                  ⟨H6.out.2.1.same fun b hb => kz.block b (HGE.out b hb), ⟨H6.out.2.2.1.1, fun j s c h1 h2 => (H6.out.2.2.1.2 j s c h1 h2).same fun b hb => kz.block b (HGR.out s (List.mem_of_getElem? h1) b hb)⟩, O.mono hwM, H6.out.2.2.2.trans (kz.mono hwM)⟩)
                have swr := HQ.out.2.2.2.size
                have hvl : vs.length ≤ 1000 := by
                  have h1 := hT.out.1.le
                  have h2 := HQ.out.2.1.1
                  rw [List.length_map] at h2
                  omega
                have HVL := Lib.hid hvl
                obtain ⟨jS, hinf⟩ := HINF.out
                replace hinf := Lib.hid hinf
                clear hz O kz hvl H6 HGE HGR HO
                go_wp2_with (at_builtin; refine wpList_app_at encV rfl _ _ 38 25 24 rfl Try.underlying38 jS _ hinf.out.1 hinf.out.2.1 hinf.out.2.2.1 hinf.out.2.2.2 rfl (.slice ou vs.length oc) vs w.heap.size wr.heap.size 1 #[.slice (some ⟨g, 0, none⟩) N cg] [⟨some ⟨g, 0, none⟩, N, cg⟩] rfl ?p1 rfl ?p2 rfl ?p3 ?p4 ?p5 ?_)
                case p1 => exact HQ.out.1.alloc
                case p2 => exact Blk.new rfl
                case p3 => (try simp only [List.length_cons, List.length_nil]); have := HVL.out; unfold maxLen; omega
                case p4 => (try simp only [List.length_cons, List.length_nil]); have := HVL.out; omega
                case p5 => simp; omega
                intro v8 w8 O8 hg8 _
                have A0 : OwnK encV 25 (wr.alloc (.cells #[.slice (some ⟨g, 0, none⟩) N cg] 25)) w.heap.size (.slice ou vs.length oc) vs := HQ.out.1.alloc
                have R8 : RowI w8 w.heap.size (vs ++ [⟨some ⟨g, 0, none⟩, N, cg⟩]) ((T ++ [(j, z)]).map Prod.snd) := by
                  rw [List.map_append]
                  exact ((HQ.out.2.1.keep fun _ _ O => O.alloc).snoc (s := ⟨some ⟨g, 0, none⟩, N, cg⟩) (c := z) HQ.out.2.2.1.alloc).keep fun _ _ O => Own.grownV hg8 A0 O
                have K8 : Below w.heap.size w w8 := Below.grownK hg8 A0 (Nat.le_refl _) (by simp; omega) (HQ.out.2.2.2.alloc swr _)
                have H8 := Lib.hid (And.intro O8 (And.intro R8 K8))
                clear O8 R8 K8 hg8 A0 HQ
                go_wp2
                go_roundw
                case rel => exact ⟨i + 1, _, T ++ [(j, z)], by omega, by go_num, H8.out.1, H8.out.2.1, Lib.hid HP2.out, H8.out.2.2⟩
                case measure => first | (simp [intOf]; done) | (simp [intOf]; omega)
    · obtain rfl : i = rows.length := by omega
      have HF := Lib.hid (show Red p N rows T ∧ Tri p (T.map vr) from ⟨by have := hT.out.1; rwa [List.take_of_length_le (Nat.le_refl _)] at this, hT.out.2⟩)
      have HO := Lib.hid (And.intro O (And.intro R kw))
      clear hT O R kw hlt
      go_wp2
      rw [← HGF.out]
      exact ⟨_, vs, T, rfl, HO.out.1, HO.out.2.1, HF.out.1, HF.out.2, HO.out.2.2⟩

end Go.Proofs.Ytjjbaebddkejnaa
