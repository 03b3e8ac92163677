/- The program's closure that puts a triple. -/
import Derived.Test.YtbmkpcenjjdflaaTbM
import Derived.Test.YtbmkpcenjjdflaaTbT
namespace Go.Proofs.Ytbmkpcenjjdflaa
open Go.RowKit Go.Maps
set_option linter.unusedSimpArgs false

/-- What stands between two calls of the closure: the bound, the list, the map. -/
structure PutS (w W : World) (n : Int) (A : List T3) (v : Value) (k : Nat) : Prop where
  bn : Blk W w.heap.size 2 #[.int .i64 n]
  bo : Blk W (w.heap.size + 1 + 1 + 1) 22 #[v]
  bm : Blk W (w.heap.size + 1 + 1 + 1 + 1) 60 #[.map (some (w.heap.size + 1 + 1))]
  own : OwnK encT 36 W w.heap.size v A
  nn : v ≠ .slice none 0 0
  map : MapT W (w.heap.size + 1 + 1) k A.reverse
  kw : Below w.heap.size w W
theorem PutS.below {w W W' : World} {n : Int} {A : List T3} {v : Value} {k : Nat} (h : PutS w W n A v k) (b : Below W.heap.size W W') : PutS w W' n A v k :=
  ⟨h.bn.below b h.bn.lt, h.bo.below b h.bo.lt, h.bm.below b h.bm.lt, h.own.below b, h.nn, h.map.below b, h.kw.trans (b.mono h.kw.size)⟩
theorem PutS.alloc {w W : World} {n : Int} {A : List T3} {v : Value} {k : Nat} {o : Obj} (h : PutS w W n A v k) : PutS w (W.alloc o) n A v k := h.below ((Below.refl _ _).alloc (Nat.le_refl _) _)
theorem PutS.drew {w W : World} {n : Int} {A : List T3} {v : Value} {k : Nat} (h : PutS w W n A v k) : PutS w W.drew n A v k := h.below ((Below.refl _ _).drew)
theorem PutS.drewN {w W : World} {m : Nat} {n : Int} {A : List T3} {v : Value} {k : Nat} (h : PutS w W n A v k) : PutS w (W.drewN m) n A v k := h.below (Below.drewN (Below.refl _ _))
/-- The map has turned, a triple is put to the list. -/
theorem PutS.put {w W W1 W2 : World} {n : Int} {A : List T3} {v v' : Value} {k : Nat} {t : T3} (h : PutS w W n A v k) (hM : MapT W1 (w.heap.size + 1 + 1) (k + 1) (t :: A.reverse)) (hg : W.grownBy W1 (some (w.heap.size + 1 + 1)))
    (O : OwnK encT 36 W2 w.heap.size v' (A ++ [t])) (k1 : ∃ o, (W1.alloc o).grownBy W2 v.ownBlock) (hn : v' ≠ .slice none 0 0) : PutS w (W2.setCell ⟨w.heap.size + 1 + 1 + 1, 0, none⟩ v') n (A ++ [t]) v' (k + 1) := by
  obtain ⟨o, k1⟩ := k1
  have n1 := h.own.ne_blk h.bn (by decide)
  have n2 := h.own.ne_blk h.bo (by decide)
  have n3 := h.own.ne_blk h.bm (by decide)
  have n4 := h.own.ne_mapT h.map
  have e : ∀ g, g < W.heap.size → g ≠ w.heap.size + 1 + 1 → v.ownBlock ≠ some g → W2.heap[g]? = W.heap[g]? := by
    intro g hg1 hg2 hg3
    have s1 := hg.size
    rw [k1.block g (by simp; omega) (fun e => hg3 e.symm), ((Below.refl W1.heap.size W1).alloc (Nat.le_refl _) o).block g (by omega), hg.block g hg1 (fun e => hg2 (Option.some.inj e))]
  have bo2 : Blk W2 (w.heap.size + 1 + 1 + 1) 22 #[v] := (e _ h.bo.lt (by omega) n2).trans h.bo
  have bn2 : Blk W2 w.heap.size 2 #[.int .i64 n] := (e _ h.bn.lt (by omega) n1).trans h.bn
  have bm2 : Blk W2 (w.heap.size + 1 + 1 + 1 + 1) 60 #[.map (some (w.heap.size + 1 + 1))] := (e _ h.bm.lt (by omega) n3).trans h.bm
  have hM2 : MapT W2 (w.heap.size + 1 + 1) (k + 1) (t :: A.reverse) := by
    obtain ⟨es, c, h1, h2⟩ := hM
    have hl := lt_of_block h1
    refine ⟨es, c, ?_, h2⟩
    rw [k1.block _ (by simp; omega) (fun e => n4 e.symm), ((Below.refl W1.heap.size W1).alloc (Nat.le_refl _) o).block _ hl]
    exact h1
  refine ⟨bn2.put (by omega), bo2.set, bm2.put (by omega), ?_, hn, ?_, ?_⟩
  · have n5 := O.ne_blk bo2 (by decide)
    exact O.same fun g hg => heap_setCell_other _ _ _ _ (fun e => n5 (by rw [hg, e]))
  · rw [List.reverse_append, List.reverse_singleton, List.singleton_append]
    exact hM2.setCell (by simp) _
  · have k2 : Below w.heap.size w W1 := h.kw.grown hg h.kw.size (fun j hj => by cases hj; omega)
    have s1 := hg.size
    have k3 : Below w.heap.size w (W1.alloc o) := k2.alloc k2.size _
    have k4 : Below w.heap.size w W2 := k3.grown k1 k3.size (fun j hj => (h.own.lt hj).1)
    exact Below.sc (by simp; omega) k4
def putL (n : Int) (A : List T3) (t : T3) : List T3 := if t.z ≤ n ∧ t ∉ A then A ++ [t] else A
def GivesPt (w : World) (n : Int) (A : List T3) (k : Nat) : Ending → World → Prop := fun e W' => e = .returned (.tuple #[]) ∧ ∃ v, PutS w W' n A v k

set_option maxRecDepth 8000 in
set_option maxHeartbeats 2000000 in
theorem put_any (w W : World) (n : Int) (A : List T3) (v : Value) (k : Nat) (t : T3) (h : PutS w W n A v k) (ht : t.z ≤ n → t.small) (hA : ∀ s ∈ A, s.small) (hk : k ≤ 1000) (hl : A.length ≤ 1000) :
    Calls Try.prog 47 #[.agg #[.int .i64 t.x, .int .i64 t.y, .int .i64 t.z], .pointer (some ⟨w.heap.size, 0, none⟩), .pointer (some ⟨w.heap.size + 1 + 1 + 1 + 1, 0, none⟩), .pointer (some ⟨w.heap.size + 1 + 1 + 1, 0, none⟩)] W (GivesPt w n (putL n A t) (k + 1)) := by
  obtain ⟨GF, hGF⟩ : ∃ GF, GivesPt w n (putL n A t) (k + 1) = GF := ⟨_, rfl⟩
  rw [hGF]
  have HGF := Lib.hid hGF
  have H := Lib.hid h
  have b1 := h.bn.at (i := 0) rfl
  have b2 := h.bo.at (i := 0) rfl
  have b3 := h.bm.at (i := 0) rfl
  have l1 := h.bn.lt
  have l2 := h.bo.lt
  have l3 := h.bm.lt
  have HINF := Lib.hid (info_parts infoT)
  clear hGF h
  by_cases hz : t.z ≤ n
  · replace ht := ht hz
    have hr := runLook (w := W.alloc (.cells #[.int .i64 t.x, .int .i64 t.y, .int .i64 t.z] 36)) (H.out.alloc.map) (fun s hs => hA s (List.mem_reverse.1 hs)) ht
    rw [show decide (t ∈ A.reverse) = decide (t ∈ A) by simp] at hr
    by_cases hm : t ∈ A
    · rw [decide_eq_true hm] at hr
      have HP := Lib.hid (show putL n A t = A by unfold putL; rw [if_neg (fun h => h.2 hm)])
      have HM := Lib.hid hm
      clear hm
      go_enter Try.func47, Try.ntmps47
      go_wp2
      go_end0
      rw [← HGF.out, HP.out]
      have hs := H.out.alloc (o := .cells #[.int .i64 t.x, .int .i64 t.y, .int .i64 t.z] 36)
      exact ⟨rfl, v, ⟨hs.bn, hs.bo, hs.bm, hs.own, hs.nn, hs.map.mono (Nat.le_succ _), hs.kw⟩⟩
    · rw [decide_eq_false hm] at hr
      have HP := Lib.hid (show putL n A t = A ++ [t] by unfold putL; rw [if_pos ⟨hz, hm⟩])
      clear hm
      have HS := Lib.hid (H.out.alloc (o := .cells #[.int .i64 t.x, .int .i64 t.y, .int .i64 t.z] 36))
      have hbt : Blk (W.alloc (.cells #[.int .i64 t.x, .int .i64 t.y, .int .i64 t.z] 36)) W.heap.size 36 (tcs t) := Blk.new rfl
      have HBT := Lib.hid hbt
      clear hbt
      obtain ⟨jT, hinf⟩ := HINF.out
      replace hinf := Lib.hid hinf
      have HN2 := Lib.hid (HS.out.own.ne_blk HS.out.bo (by decide))
      have HN4 := Lib.hid (HS.out.own.ne_mapT HS.out.map)
      have lmb := HS.out.map.lt
      simp at lmb
      go_enter Try.func47, Try.ntmps47
      go_wp2_with (first | (at_mapUpdate; refine wpList_mapUpdate_own _ rfl _ _ _ 60 rfl 36 4 lawT Try.underlying60 (plainElem (H := Unit) Try.prog 4) (w.heap.size + 1 + 1) k (mapT A.reverse) rfl HS.out.map ?m9 _ _ (keyT t) rfl rfl (keyT_ok ht) (.lit (.bool true)) [] (plainElem_bool Try.underlying4 true) ?_) | fail)
      case m9 => unfold maxLen; omega
      intro w1 hM1 hg1
      have s1 := hg1.size
      simp at s1
      have e1 : ∀ g, g < (W.alloc (.cells #[.int .i64 t.x, .int .i64 t.y, .int .i64 t.z] 36)).heap.size → g ≠ w.heap.size + 1 + 1 → w1.heap[g]? = (W.alloc (.cells #[.int .i64 t.x, .int .i64 t.y, .int .i64 t.z] 36)).heap[g]? := fun g h1 h2 => hg1.block g h1 (fun e => h2 (Option.some.inj e))
      have bo1 : Blk w1 (w.heap.size + 1 + 1 + 1) 22 #[v] := (e1 _ HS.out.bo.lt (by omega)).trans HS.out.bo
      have bt1 : Blk w1 W.heap.size 36 (tcs t) := (e1 _ HBT.out.lt (by omega)).trans HBT.out
      have O1 : OwnK encT 36 w1 w.heap.size v A := HS.out.own.same fun g hg => e1 g (HS.out.own.lt hg).2 (fun e => HN4.out (e ▸ hg))
      have c1 := bo1.at (i := 0) rfl
      have c2 := bt1.t
      have f1 := bo1.free 0
      have z1 := bo1.lt
      have z2 := bt1.lt
      have HM1 := Lib.hid (And.intro hM1 (And.intro hg1 (And.intro O1 bo1)))
      clear hM1 hg1 O1 bo1 bt1 e1 b1 b2 b3 hr
      go_wp2_with (at_builtin; refine wpList_appX encT rfl _ _ 22 36 24 rfl Try.underlying22 jT _ hinf.out.1 hinf.out.2.1 hinf.out.2.2.1 hinf.out.2.2.2 rfl v A w.heap.size ⟨w1.heap.size, 0, none⟩ 1 [t] rfl HM1.out.2.2.1.alloc rfl (lieB (E := 36) (cs := tcs t) (Blk.new rfl) rfl) (by simp; unfold maxLen; omega) (by simp; omega) ?l9 ?_)
      case l9 => simp; omega
      intro v2 w2 O2 hga ha hn2
      have hn3 := hn2 HS.out.nn
      have hvf : ∃ ao c, v2 = .slice ao (A ++ [t]).length c := O2.len
      have k1 : ∃ o, (w1.alloc o).grownBy w2 v.ownBlock := ⟨_, hga⟩
      have HF := Lib.hid (HS.out.put HM1.out.1 HM1.out.2.1 O2 k1 hn3)
      have bo2 : Blk w2 (w.heap.size + 1 + 1 + 1) 22 #[v] := Blk.grownN hga HN2.out HM1.out.2.2.2.old
      have c3 := bo2.at (i := 0) rfl
      have f3 := bo2.free 0
      clear bo2 k1 hga ha hn2 O2 hn3 c1 c2 f1
      obtain ⟨vo, vc, rfl⟩ := hvf
      go_wp2
      go_end0
      rw [← HGF.out, HP.out]
      exact ⟨rfl, _, by have h := HF.out; simp only [List.length_append, List.length_cons, List.length_nil] at h; exact h⟩
  · have HP := Lib.hid (show putL n A t = A by unfold putL; rw [if_neg (fun h => hz h.1)])
    go_enter Try.func47, Try.ntmps47
    go_wp2
    go_end0
    rw [← HGF.out, HP.out]
    have hs := H.out.alloc (o := .cells #[.int .i64 t.x, .int .i64 t.y, .int .i64 t.z] 36)
    exact ⟨rfl, v, ⟨hs.bn, hs.bo, hs.bm, hs.own, hs.nn, hs.map.mono (Nat.le_succ _), hs.kw⟩⟩

end Go.Proofs.Ytbmkpcenjjdflaa
