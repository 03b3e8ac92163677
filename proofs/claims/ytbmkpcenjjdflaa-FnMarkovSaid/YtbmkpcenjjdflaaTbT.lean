/- The reference's list of triples. -/
import Derived.Test.YtbmkpcenjjdflaaTbS
namespace Go.Proofs.Ytbmkpcenjjdflaa
open Go.RowKit
set_option linter.unusedSimpArgs false

theorem wpList_appX {α : Type} {P : Program} {ops : Array Oper} {rest : List Oper} {o : Oper} {a : Act} {w : World} {Q : Exit → Act → World → Prop} (e : Enc α) (hgd : o.guard = none) (s x : Operand) (T E : TypeId) (by_ : Nat)
    (ho : o.op = .call { callee := .builtin .append, args := #[s, x], argTypes := #[T, T] })
    (ht : P.underlying T = some (.slice E)) (i : TypeInfo) (z : Value) (hi : P.info? E = some i) (hz : i.zero = some z) (hsize : i.size = e.k) (hby : i.bytes = by_) (hzs : z.cells.size = e.k)
    (v : Value) (xs : List α) (B : Nat) (ad : Addr) (c : Nat) (news : List α) (hs : a.eval s = v) (hown : OwnK e E w B v xs) (hx : a.eval x = .slice (some ad) news.length c) (hb : ∀ j u, (news.flatMap e.enc)[j]? = some u → w.cell? (ad.add j) = some u)
    (h63 : xs.length + news.length ≤ maxLen) (hbytes : (xs.length + news.length) * by_ ≤ 140737488355328) (hbase : B ≤ w.heap.size)
    (h : ∀ v' w', OwnK e E w' B v' (xs ++ news) → w.grownBy w' v.ownBlock → (v'.ownBlock = v.ownBlock ∨ v'.ownBlock = some w.heap.size) → (v ≠ .slice none 0 0 → v' ≠ .slice none 0 0) → wpList P ops Q rest (a.put o.dst v') w') : wpList P ops Q (o :: rest) a w :=
  wpList_plain hgd fun _ hK => wp_appX e s x T E by_ ho ht i z hi hz hsize hby hzs v xs B ad c news hs hown hx hb h63 hbytes hbase fun v' w' h1 h2 h3 h4 => hK _ _ (h v' w' h1 h2 h3 h4)
theorem flat_set (xs : List T3) (j : Nat) (t : T3) (hj : j < xs.length) : (xs.set j t).flatMap encT.enc = (((xs.flatMap encT.enc).set (j * 3) (.int .i64 t.x)).set (j * 3 + 1) (.int .i64 t.y)).set (j * 3 + 2) (.int .i64 t.z) := by
  induction xs generalizing j with
  | nil => simp at hj
  | cons x xs ih =>
    cases j with
    | zero => rfl
    | succ j =>
      rw [List.set_cons_succ, List.flatMap_cons, List.flatMap_cons, ih j (by simpa using hj)]
      rw [show (j + 1) * 3 = j * 3 + 3 by omega]
      rfl
theorem OwnT.set {w : World} {B g j n c : Nat} {xs : List T3} (t : T3) (h : OwnK encT 36 w B (.slice (some ⟨g, 0, none⟩) n c) xs) (hn : xs.length = n) (hj : j < n) :
    OwnK encT 36 (((w.setCell ⟨g, j * 3, none⟩ (.int .i64 t.x)).setCell ⟨g, j * 3 + 1, none⟩ (.int .i64 t.y)).setCell ⟨g, j * 3 + 2, none⟩ (.int .i64 t.z)) B (.slice (some ⟨g, 0, none⟩) n c) (xs.set j t) := by
  subst hn
  unfold OwnK
  rw [List.length_set, flat_set xs j t hj]
  exact (World.ownsRow.stored (World.ownsRow.stored (World.ownsRow.stored h (j * 3) _).1 (j * 3 + 1) _).1 (j * 3 + 2) _).1
/-- Two lists of triples that lie apart, and the world before. -/
structure Two (w W : World) (u : Value) (xs : List T3) (v : Value) (ys : List T3) : Prop where
  ou : OwnK encT 36 W w.heap.size u xs
  ov : OwnK encT 36 W w.heap.size v ys
  ne : ∀ g, u.ownBlock = some g → v.ownBlock ≠ some g
  nu : u ≠ .slice none 0 0
  nv : v ≠ .slice none 0 0
  kw : Below w.heap.size w W
theorem Two.drew {w W : World} {u v : Value} {xs ys : List T3} (h : Two w W u xs v ys) : Two w W.drew u xs v ys := ⟨h.ou.drew, h.ov.drew, h.ne, h.nu, h.nv, h.kw.drew⟩
theorem Two.drewN {w W : World} {n : Nat} {u v : Value} {xs ys : List T3} (h : Two w W u xs v ys) : Two w (W.drewN n) u xs v ys := ⟨h.ou.drewN, h.ov.drewN, h.ne, h.nu, h.nv, Below.drewN h.kw⟩
theorem Two.alloc {w W : World} {o : Obj} {u v : Value} {xs ys : List T3} (h : Two w W u xs v ys) : Two w (W.alloc o) u xs v ys := ⟨h.ou.alloc, h.ov.alloc, h.ne, h.nu, h.nv, h.kw.alloc h.kw.size _⟩
theorem Two.app {w W W' : World} {u v u' : Value} {xs ys zs : List T3} (h : Two w W u xs v ys) (O : OwnK encT 36 W' w.heap.size u' zs) (hg : W.grownBy W' u.ownBlock) (ha : u'.ownBlock = u.ownBlock ∨ u'.ownBlock = some W.heap.size) (hn : u ≠ .slice none 0 0 → u' ≠ .slice none 0 0) : Two w W' u' zs v ys := by
  refine ⟨O, h.ov.same fun g e => hg.block g (h.ov.lt e).2 (fun e2 => h.ne g e2.symm e), fun g e e2 => ?_, hn h.nu, h.nv, Below.grownK hg h.ou (Nat.le_refl _) h.kw.size h.kw⟩
  rcases ha with e3 | e3
  · exact h.ne g (by rw [← e3]; exact e) e2
  · rw [e3] at e
    have := (h.ov.lt e2).2
    simp only [Option.some.injEq] at e
    omega
theorem Two.set {w W : World} {g j n c : Nat} {v : Value} {xs ys : List T3} (t : T3) (h : Two w W (.slice (some ⟨g, 0, none⟩) n c) xs v ys) (hn : xs.length = n) (hj : j < n) :
    Two w (((W.setCell ⟨g, j * 3, none⟩ (.int .i64 t.x)).setCell ⟨g, j * 3 + 1, none⟩ (.int .i64 t.y)).setCell ⟨g, j * 3 + 2, none⟩ (.int .i64 t.z)) (.slice (some ⟨g, 0, none⟩) n c) (xs.set j t) v ys := by
  have hb := (h.ou.lt (g := g) rfl).1
  have hv : v.ownBlock ≠ some g := h.ne g rfl
  refine ⟨OwnT.set t h.ou hn hj, ?_, h.ne, h.nu, h.nv, Below.sc hb (Below.sc hb (Below.sc hb h.kw))⟩
  refine h.ov.same fun k e => ?_
  have hk : k ≠ g := fun e2 => hv (e2 ▸ e)
  rw [heap_setCell_other _ _ _ _ hk, heap_setCell_other _ _ _ _ hk, heap_setCell_other _ _ _ _ hk]
theorem Two.form {w W : World} {u v : Value} {xs ys : List T3} (h : Two w W u xs v ys) : ∃ g c, u = .slice (some ⟨g, 0, none⟩) xs.length c ∧ g < W.heap.size ∧ w.heap.size ≤ g := by
  rcases h.ou.form with ⟨h1, _⟩ | ⟨g, c, h1, h2, h3, -⟩
  · exact absurd h1 h.nu
  · exact ⟨g, c, h1, h3, h2⟩
theorem Two.formv {w W : World} {u v : Value} {xs ys : List T3} (h : Two w W u xs v ys) : ∃ g c, v = .slice (some ⟨g, 0, none⟩) ys.length c ∧ g < W.heap.size ∧ w.heap.size ≤ g := by
  rcases h.ov.form with ⟨h1, _⟩ | ⟨g, c, h1, h2, h3, -⟩
  · exact absurd h1 h.nv
  · exact ⟨g, c, h1, h3, h2⟩
theorem OwnT.rd {w : World} {B g j n c : Nat} {xs : List T3} (h : OwnK encT 36 w B (.slice (some ⟨g, 0, none⟩) n c) xs) (hj : j < xs.length) :
    w.cell? ⟨g, j * 3, none⟩ = some (.int .i64 xs[j].x) ∧ w.cell? ⟨g, j * 3 + 1, none⟩ = some (.int .i64 xs[j].y) ∧ w.cell? ⟨g, j * 3 + 2, none⟩ = some (.int .i64 xs[j].z) :=
  ⟨OwnK.at (i := 0) h rfl (List.getElem?_eq_getElem hj) rfl, OwnK.at (i := 1) h rfl (List.getElem?_eq_getElem hj) rfl, OwnK.at (i := 2) h rfl (List.getElem?_eq_getElem hj) rfl⟩
theorem OwnT.free {w : World} {B g n c : Nat} {xs : List T3} (h : OwnK encT 36 w B (.slice (some ⟨g, 0, none⟩) n c) xs) (hn : xs.length = n) (i : Nat) : w.frozen? ⟨g, i, none⟩ = false := by
  subst hn
  exact World.ownsRow.frozenAt h i

theorem set_mid {A : List T3} {j : Nat} {x y : T3} (h : j ≤ A.length) : (A.take j ++ y :: A.drop j).set j x = A.take j ++ x :: A.drop j := by
  have hl : (A.take j).length = j := by rw [List.length_take]; omega
  rw [List.set_append_right _ _ (by omega), hl, Nat.sub_self]
  rfl
set_option maxRecDepth 8000 in
set_option maxHeartbeats 4000000 in
theorem l09Triples_any (n : Int) (w : World) (hn : 0 ≤ n) (hm : n ≤ trM) :
    Calls Try.prog 30 #[.int .i64 n] w (GivesT (trB n) w) := by
  obtain ⟨GF, hGF⟩ : ∃ GF, GivesT (trB n) w = GF := ⟨_, rfl⟩
  rw [hGF]
  have HGF := Lib.hid hGF
  clear hGF
  have hM : trM = 1000000 := rfl
  rw [hM] at hm
  by_cases h1 : n < 1
  · have HE := Lib.hid (show trB n = [] by
      rw [trB, List.filter_eq_nil_iff]
      intro t ht
      have := trL_pos ht
      simp only [decide_eq_true_eq]
      omega)
    go_enter Try.func30, Try.ntmps30
    go_wp2
    rw [← HGF.out]
    exact ⟨_, rfl, by rw [HE.out]; exact OwnK.of_blk (xs := []) (by repeat (first | (with_reducible assumption) | ((with_reducible refine Blk.new ?_); · first | omega | (simp; done) | (simp; omega)) | (with_reducible apply Blk.set4) | (with_reducible apply Blk.set3) | (with_reducible apply Blk.set2) | ((with_reducible refine Blk.put ?_ ?_); · first | omega | (simp; omega)) | (with_reducible refine Blk.old ?_) | (with_reducible refine Blk.drew ?_) | (with_reducible refine Blk.drewN ?_) | ((with_reducible refine Blk.below hb ?_ ?_); · first | omega | (simp; done) | (simp; omega)))) (Nat.le_refl _) rfl (by simp [maxLen]), by simp, (by repeat (first | (with_reducible exact Below.refl _ _) | (with_reducible assumption) | (with_reducible refine Below.drew ?_) | (with_reducible refine Below.drewN ?_) | ((with_reducible refine Below.al ?_ ?_); · first | omega | (simp; done) | (simp; omega)) | ((with_reducible refine Below.sc ?_ ?_); · first | omega | (simp; done) | (simp; omega)) | ((with_reducible refine Below.thru hb ?_ ?_); · first | omega | (simp; done) | (simp; omega))))⟩
  · have HBL := Lib.hid (fun w' => l09Below_any n (by rw [hM]; exact hm) 20 ⟨1, 1, 1⟩ w' (by omega) dp20 (trL_small (t := ⟨1, 1, 1⟩) (by simp [trL])))
    have HAL := Lib.hid (bel20_n (n := n) (by omega) (by rw [hM]; exact hm))
    have HLN := Lib.hid (bel_len 20 ⟨1, 1, 1⟩ n)
    have HINF := Lib.hid (info_parts infoT)
    generalize bel 20 (⟨1, 1, 1⟩ : T3) n = bl at *
    go_enter Try.func30, Try.ntmps30
    go_wp2_with fail
    refine (HBL.out _).mono ?_
    rintro e w1 ⟨v1, rfl, O1, n1, k1⟩
    have hz := k1.size
    simp at hz
    have S1 := Lib.hid (show OwnK encT 36 w1 w.heap.size (.slice (some ⟨w.heap.size + 1, 0, none⟩) 1 1) [⟨1, 1, 1⟩] ∧ OwnK encT 36 w1 w.heap.size (.slice (some ⟨w.heap.size, 0, none⟩) 0 0) [] ∧ Below w.heap.size w w1 by
      have hb := k1
      have h0 : Blk w1 (w.heap.size + 1) 36 (tcs ⟨1, 1, 1⟩) := (by repeat (first | (with_reducible assumption) | ((with_reducible refine Blk.new ?_); · first | omega | (simp; done) | (simp; omega)) | (with_reducible apply Blk.set4) | (with_reducible apply Blk.set3) | (with_reducible apply Blk.set2) | ((with_reducible refine Blk.put ?_ ?_); · first | omega | (simp; omega)) | (with_reducible refine Blk.old ?_) | (with_reducible refine Blk.drew ?_) | (with_reducible refine Blk.drewN ?_) | ((with_reducible refine Blk.below hb ?_ ?_); · first | omega | (simp; done) | (simp; omega))))
      have h1 : Blk w1 w.heap.size 36 #[] := (by repeat (first | (with_reducible assumption) | ((with_reducible refine Blk.new ?_); · first | omega | (simp; done) | (simp; omega)) | (with_reducible apply Blk.set4) | (with_reducible apply Blk.set3) | (with_reducible apply Blk.set2) | ((with_reducible refine Blk.put ?_ ?_); · first | omega | (simp; omega)) | (with_reducible refine Blk.old ?_) | (with_reducible refine Blk.drew ?_) | (with_reducible refine Blk.drewN ?_) | ((with_reducible refine Blk.below hb ?_ ?_); · first | omega | (simp; done) | (simp; omega))))
      exact ⟨OwnK.of_blk (e := encT) (xs := [(⟨1, 1, 1⟩ : T3)]) h0 (Nat.le_succ _) rfl (by simp [maxLen]), OwnK.of_blk (xs := []) h1 (Nat.le_refl _) rfl (by simp [maxLen]), (by repeat (first | (with_reducible exact Below.refl _ _) | (with_reducible assumption) | (with_reducible refine Below.drew ?_) | (with_reducible refine Below.drewN ?_) | ((with_reducible refine Below.al ?_ ?_); · first | omega | (simp; done) | (simp; omega)) | ((with_reducible refine Below.sc ?_ ?_); · first | omega | (simp; done) | (simp; omega)) | ((with_reducible refine Below.thru hb ?_ ?_); · first | omega | (simp; done) | (simp; omega))))⟩)
    rcases O1.form with ⟨h2, _⟩ | ⟨g1, c1, h2, hg1, hg2, -⟩
    · exact absurd h2 n1
    subst h2
    have HL1 := Lib.hid (O1.lie rfl)
    obtain ⟨jT, hinf⟩ := HINF.out
    replace hinf := Lib.hid hinf
    clear k1 O1 n1
    go_wp2_with (at_builtin; refine wpList_appX encT rfl _ _ 22 36 24 rfl Try.underlying22 jT _ hinf.out.1 hinf.out.2.1 hinf.out.2.2.1 hinf.out.2.2.2 rfl (.slice (some ⟨w.heap.size + 1, 0, none⟩) 1 1) [⟨1, 1, 1⟩] w.heap.size ⟨g1, 0, none⟩ c1 bl rfl S1.out.1 rfl HL1.out (by have := HLN.out; simp; unfold maxLen; omega) (by have := HLN.out; simp; omega) (by omega) ?_; intro v2 w2 O2 hga ha hn2)
    have hv2 : ∃ g c, v2 = .slice (some ⟨g, 0, none⟩) ((⟨1, 1, 1⟩ : T3) :: bl).length c ∧ w.heap.size + 1 ≤ g := by
      rcases O2.form with ⟨h3, _⟩ | ⟨g, c, h3, h4, -⟩
      · exact absurd h3 (hn2 (by simp))
      · refine ⟨g, c, h3, ?_⟩
        rcases ha with e | e
        · rw [h3] at e
          simp only [Value.ownBlock, Option.some.injEq] at e
          omega
        · rw [h3] at e
          simp only [Value.ownBlock, Option.some.injEq] at e
          omega
    obtain ⟨ga, ca, rfl, hga2⟩ := hv2
    have H2 := Lib.hid (show Two w w2 (.slice (some ⟨w.heap.size, 0, none⟩) 0 0) [] (.slice (some ⟨ga, 0, none⟩) ((⟨1, 1, 1⟩ : T3) :: bl).length ca) (⟨1, 1, 1⟩ :: bl) from
      ⟨S1.out.2.1.same fun g e => hga.block g (by have := (S1.out.2.1.lt e).2; exact this) (fun e2 => by simp only [Value.ownBlock, Option.some.injEq] at e e2; omega), O2, fun g e e2 => by simp only [Value.ownBlock, Option.some.injEq] at e e2; omega, by simp, by simp, Below.grownK hga S1.out.1 (Nat.le_refl _) S1.out.2.2.size S1.out.2.2⟩)
    clear hga ha hn2 O2 S1 HL1 hg1 hg2 hz
    obtain ⟨AL, hAL⟩ : ∃ AL : List T3, (⟨1, 1, 1⟩ : T3) :: bl = AL := ⟨_, rfl⟩
    have HM := Lib.hid (show ∀ t ∈ AL, t ∈ trL by
      intro t ht
      rw [← hAL, HAL.out] at ht
      exact bel20_mem.1 (List.mem_filter.1 ht).1)
    have HND := Lib.hid (show AL.Nodup by
      rw [← hAL, HAL.out]
      exact bel20_nodup.sublist List.filter_sublist)
    have HIF := Lib.hid (show ∀ t, t ∈ AL ↔ t ∈ trL ∧ t.z ≤ n by
      intro t
      rw [← hAL, HAL.out, List.mem_filter, bel20_mem]
      simp)
    obtain ⟨N, hN⟩ : ∃ N, AL.length = N := ⟨_, rfl⟩
    have HNL := Lib.hid hN
    have hNb : N ≤ 4194304 := by
      have := HLN.out
      rw [← hN, ← hAL]
      simp
      omega
    rw [hAL, hN] at H2
    have e0 : ((⟨1, 1, 1⟩ : T3) :: bl).length = N := by rw [hAL, hN]
    rw [e0]
    clear e0 hAL hN HLN HAL HBL
    go_wp2_with fail
    go_loopw [3, 5] (fun v i wr => ∃ (k : Nat) (A : List T3), k ≤ N ∧ i = .int .i64 k ∧ Two w wr v A (.slice (some ⟨ga, 0, none⟩) N ca) AL ∧ Hid (A.Pairwise fun s t => s.z < t.z) ∧ Hid (∀ t, t ∈ A ↔ t ∈ AL.take k) ∧ Hid (A.length = k)) (fun _ i _ => N - (intOf i).toNat)
    case atStart => exact ⟨0, [], Nat.zero_le _, rfl, H2.out, Lib.hid List.Pairwise.nil, Lib.hid (by simp), Lib.hid rfl⟩
    case round =>
      clear H2
      obtain ⟨k, A, hk, rfl, T2, HS, HA, HL⟩ := hrel
      obtain ⟨gx, cx, hv, hgx, -⟩ := T2.form
      rw [HL.out] at hv
      subst hv
      by_cases hlt : k < N
      · have hlN : k < AL.length := by rw [HNL.out]; exact hlt
        have rA := OwnT.rd T2.ov hlN
        have HXM := Lib.hid (HM.out AL[k] (List.getElem_mem hlN))
        have HTK := Lib.hid (show AL.take (k + 1) = AL.take k ++ [AL[k]] from List.take_succ_eq_append_getElem hlN)
        have HXN := Lib.hid (show AL[k] ∉ AL.take k by
          have h1 := HND.out
          rw [← List.take_append_drop k AL, List.nodup_append] at h1
          intro h2
          exact h1.2.2 _ h2 _ (by rw [List.drop_eq_getElem_cons hlN]; exact List.mem_cons_self) rfl)
        obtain ⟨x, hxe⟩ : ∃ x, AL[k] = x := ⟨_, rfl⟩
        rw [hxe] at rA HXM HTK HXN
        have HXE := Lib.hid hxe
        clear hxe
        have HLE := Lib.hid (show ∀ t ∈ A, t.z ≤ x.z → t.z < x.z by
          intro t ht h
          have h3 := (HA.out t).1 ht
          rcases Int.lt_or_eq_of_le h with h | h
          · exact h
          · have := trL_inj (HM.out t (List.mem_of_mem_take h3)) HXM.out h
            subst this
            exact absurd h3 HXN.out)
        have i0 : (0 : Int) ≤ (k : Int) := by omega
        have i1 : (k : Int) < (N : Int) := by omega
        have HT2 := Lib.hid T2
        have lga : ga < wr.heap.size := (T2.ov.lt rfl).2
        clear T2
        go_wp2_with (at_builtin; refine wpList_appX encT rfl _ _ 22 36 24 rfl Try.underlying22 jT _ hinf.out.1 hinf.out.2.1 hinf.out.2.2.1 hinf.out.2.2.2 rfl (.slice (some ⟨gx, 0, none⟩) k cx) A w.heap.size ⟨wr.heap.size, 0, none⟩ 1 [x] rfl HT2.out.alloc.ou rfl (lieB (E := 36) (cs := tcs x) (Blk.new rfl) rfl) (by have := HL.out; simp; unfold maxLen; omega) (by have := HL.out; simp; omega) (by have := HT2.out.kw.size; simp; omega) ?_; intro v3 w3 O3 hga ha hn2)
        have T3_ := HT2.out.alloc.app O3 hga ha hn2
        clear O3 hga ha hn2 rA HT2
        obtain ⟨g3, c3, hv3, hg3, -⟩ := T3_.form
        rw [show (A ++ [x]).length = k + 1 by rw [List.length_append, HL.out]; rfl] at hv3
        subst hv3
        go_loopw [6] (fun a wr => ∃ (j : Nat) (y : T3), j ≤ k ∧ a = .int .i64 j ∧ Two w wr (.slice (some ⟨g3, 0, none⟩) (k + 1) c3) (A.take j ++ y :: A.drop j) (.slice (some ⟨ga, 0, none⟩) N ca) AL ∧ Hid (∀ i (h : i < A.length), j ≤ i → x.z < A[i].z)) (fun a _ => (intOf a).toNat)
        case atStart =>
          refine ⟨k, x, Nat.le_refl _, rfl, ?_, Lib.hid fun i h h2 => by have := HL.out; omega⟩
          have e : A.take k ++ x :: A.drop k = A ++ [x] := by
            rw [List.take_of_length_le (by rw [HL.out]; exact Nat.le_refl _), List.drop_eq_nil_of_le (by rw [HL.out]; exact Nat.le_refl _)]
          rw [e]
          exact T3_
        case round =>
          clear T3_ hg3
          obtain ⟨j, y, hj, rfl, T4, HH⟩ := hrel
          have HLL := Lib.hid (show (A.take j ++ y :: A.drop j).length = k + 1 by
            have := HL.out
            rw [List.length_append, List.length_cons, List.length_take, List.length_drop]
            omega)
          have lg3 : g3 < wr.heap.size := (T4.ou.lt rfl).2
          have lga2 : ga < wr.heap.size := (T4.ov.lt rfl).2
          have rA := OwnT.rd T4.ov hlN
          rw [HXE.out] at rA
          by_cases hj0 : j = 0
          · subst hj0
            have HLO := Lib.hid (show ∀ (h : 0 < 0), (A[0 - 1]'(by omega)).z < x.z from fun h => absurd h (by omega))
            have HT4 := Lib.hid T4
            have HSX := Lib.hid (ins_sorted (x := x) (a := 0) HS.out (by have := HL.out; omega) HLO.out HH.out)
            have HMX := Lib.hid (show ∀ t, t ∈ A.take 0 ++ x :: A.drop 0 ↔ t ∈ AL.take (k + 1) by
              intro t
              rw [ins_mem, HTK.out, List.mem_append, List.mem_singleton, HA.out t]
              exact Or.comm)
            have HLX := Lib.hid (show (A.take 0 ++ x :: A.drop 0).length = k + 1 by
              have := HL.out
              rw [List.length_append, List.length_cons, List.length_take, List.length_drop]
              omega)
            have HT5 := Lib.hid (fun (W_ : World) (T_ : Two w W_ (.slice (some ⟨g3, 0, none⟩) (k + 1) c3) (A.take 0 ++ y :: A.drop 0) (.slice (some ⟨ga, 0, none⟩) N ca) AL) => show Two w (((W_.setCell ⟨g3, 0, none⟩ (.int .i64 x.x)).setCell ⟨g3, 1, none⟩ (.int .i64 x.y)).setCell ⟨g3, 2, none⟩ (.int .i64 x.z)) (.slice (some ⟨g3, 0, none⟩) (k + 1) c3) (A.take 0 ++ x :: A.drop 0) (.slice (some ⟨ga, 0, none⟩) N ca) AL by
              have := T_.set x HLL.out (j := 0) (by omega)
              rw [set_mid (by have := HL.out; omega)] at this
              exact this)
            have f0 := OwnT.free T4.ou HLL.out (0 * 3)
            have f1 := OwnT.free T4.ou HLL.out (0 * 3 + 1)
            have f2 := OwnT.free T4.ou HLL.out (0 * 3 + 2)
            have j0 : ((0 : Nat) : Int) < (k : Int) + 1 := by omega
            have rY := OwnT.rd (j := 0) T4.ou (by rw [HLL.out]; omega)
            clear T4
            go_wp2_with fail
            go_quiet (fail)
            go_wp2
            go_roundw
            case rel => exact ⟨k + 1, A.take 0 ++ x :: A.drop 0, by omega, by go_num, (by refine HT5.out _ ?_; have T_ := HT4.out; repeat (first | (with_reducible assumption) | (with_reducible refine Two.drew ?_) | (with_reducible refine Two.drewN ?_))), HSX, HMX, HLX⟩
            case measure => first | (simp [intOf]; done) | (simp [intOf]; omega)
          · obtain ⟨i, rfl⟩ : ∃ i, j = i + 1 := ⟨j - 1, by omega⟩
            have hiA : i < A.length := by have := HL.out; omega
            have rB := OwnT.rd (j := i) T4.ou (by rw [HLL.out]; omega)
            have eB : (A.take (i + 1) ++ y :: A.drop (i + 1))[i]'(by rw [HLL.out]; omega) = A[i] := by
              rw [List.getElem_append_left (by rw [List.length_take]; omega), List.getElem_take]
            rw [eB] at rB
            clear eB
            obtain ⟨p, hp⟩ : ∃ p, A[i] = p := ⟨_, rfl⟩
            rw [hp] at rB
            have HPE := Lib.hid hp
            have HPA := Lib.hid (show p ∈ A by rw [← hp]; exact List.getElem_mem hiA)
            clear hp hj0
            by_cases hgt : x.z < p.z
            · have HT4 := Lib.hid T4
              have HT5 := Lib.hid (fun (W_ : World) (T_ : Two w W_ (.slice (some ⟨g3, 0, none⟩) (k + 1) c3) (A.take (i + 1) ++ y :: A.drop (i + 1)) (.slice (some ⟨ga, 0, none⟩) N ca) AL) => show Two w (((W_.setCell ⟨g3, (i + 1) * 3, none⟩ (.int .i64 p.x)).setCell ⟨g3, (i + 1) * 3 + 1, none⟩ (.int .i64 p.y)).setCell ⟨g3, (i + 1) * 3 + 2, none⟩ (.int .i64 p.z)) (.slice (some ⟨g3, 0, none⟩) (k + 1) c3) (A.take i ++ p :: A.drop i) (.slice (some ⟨ga, 0, none⟩) N ca) AL by
                have := T_.set p HLL.out (j := i + 1) (by omega)
                rw [set_mid (by have := HL.out; omega)] at this
                have e : A.take (i + 1) ++ p :: A.drop (i + 1) = A.take i ++ p :: A.drop i := by
                  rw [List.take_succ_eq_append_getElem hiA, HPE.out, List.append_assoc, List.drop_eq_getElem_cons hiA, HPE.out]
                  rfl
                rwa [e] at this)
              have HHN := Lib.hid (show ∀ l (h : l < A.length), i ≤ l → x.z < A[l].z by
                intro l h h2
                by_cases e : l = i
                · subst e
                  rw [HPE.out]
                  exact hgt
                · exact HH.out l h (by omega))
              have f0 := OwnT.free T4.ou HLL.out ((i + 1) * 3)
              have f1 := OwnT.free T4.ou HLL.out ((i + 1) * 3 + 1)
              have f2 := OwnT.free T4.ou HLL.out ((i + 1) * 3 + 2)
              have j0 : ((i : Nat) : Int) < (k : Int) + 1 := by omega
              have j1 : ((i : Nat) : Int) + 1 < (k : Int) + 1 := by omega
              have j2 : (0 : Int) ≤ (i : Int) := by omega
              have rY := OwnT.rd (j := i + 1) T4.ou (by rw [HLL.out]; omega)
              clear T4
              go_wp2_with fail
              go_quiet (fail)
              go_wp2
              first
                | (go_roundw
                   case rel => exact ⟨i, p, by omega, by go_num, (by refine HT5.out _ ?_; have T_ := HT4.out; repeat (first | (with_reducible assumption) | (with_reducible refine Two.drew ?_) | (with_reducible refine Two.drewN ?_))), HHN⟩
                   case measure => first | (simp [intOf]; done) | (simp [intOf]; omega))
                | (refine ⟨⟨i, p, by omega, by go_num, (by refine HT5.out _ ?_; have T_ := HT4.out; repeat (first | (with_reducible assumption) | (with_reducible refine Two.drew ?_) | (with_reducible refine Two.drewN ?_))), HHN⟩, ?_⟩
                   first | (simp [intOf]; done) | (simp [intOf]; omega))
            · have hlt2 : p.z < x.z := HLE.out p HPA.out (by omega)
              have hq1 : (p.z == x.z) = false := by simp only [beq_eq_false_iff_ne, ne_eq]; omega
              have hq2 : decide (x.z < p.z) = false := decide_eq_false hgt
              have HLO := Lib.hid (show ∀ (h : 0 < i + 1), (A[i + 1 - 1]'(by have := HL.out; omega)).z < x.z from fun h => by
                have e : A[i + 1 - 1]'(by have := HL.out; omega) = p := by have := HPE.out; simpa using this
                rw [e]
                exact hlt2)
              have HT4 := Lib.hid T4
              have HSX := Lib.hid (ins_sorted (x := x) (a := (i + 1)) HS.out (by have := HL.out; omega) HLO.out HH.out)
              have HMX := Lib.hid (show ∀ t, t ∈ A.take (i + 1) ++ x :: A.drop (i + 1) ↔ t ∈ AL.take (k + 1) by
                intro t
                rw [ins_mem, HTK.out, List.mem_append, List.mem_singleton, HA.out t]
                exact Or.comm)
              have HLX := Lib.hid (show (A.take (i + 1) ++ x :: A.drop (i + 1)).length = k + 1 by
                have := HL.out
                rw [List.length_append, List.length_cons, List.length_take, List.length_drop]
                omega)
              have HT5 := Lib.hid (fun (W_ : World) (T_ : Two w W_ (.slice (some ⟨g3, 0, none⟩) (k + 1) c3) (A.take (i + 1) ++ y :: A.drop (i + 1)) (.slice (some ⟨ga, 0, none⟩) N ca) AL) => show Two w (((W_.setCell ⟨g3, (i + 1) * 3, none⟩ (.int .i64 x.x)).setCell ⟨g3, (i + 1) * 3 + 1, none⟩ (.int .i64 x.y)).setCell ⟨g3, (i + 1) * 3 + 2, none⟩ (.int .i64 x.z)) (.slice (some ⟨g3, 0, none⟩) (k + 1) c3) (A.take (i + 1) ++ x :: A.drop (i + 1)) (.slice (some ⟨ga, 0, none⟩) N ca) AL by
                have := T_.set x HLL.out (j := (i + 1)) (by omega)
                rw [set_mid (by have := HL.out; omega)] at this
                exact this)
              have f0 := OwnT.free T4.ou HLL.out ((i + 1) * 3)
              have f1 := OwnT.free T4.ou HLL.out ((i + 1) * 3 + 1)
              have f2 := OwnT.free T4.ou HLL.out ((i + 1) * 3 + 2)
              have j0 : (((i + 1) : Nat) : Int) < (k : Int) + 1 := by omega
              have rY := OwnT.rd (j := (i + 1)) T4.ou (by rw [HLL.out]; omega)
              clear T4
              go_wp2_with fail
              go_quiet (fail)
              go_wp2
              go_roundw
              case rel => exact ⟨k + 1, A.take (i + 1) ++ x :: A.drop (i + 1), by omega, by go_num, (by refine HT5.out _ ?_; have T_ := HT4.out; repeat (first | (with_reducible assumption) | (with_reducible refine Two.drew ?_) | (with_reducible refine Two.drewN ?_))), HSX, HMX, HLX⟩
              case measure => first | (simp [intOf]; done) | (simp [intOf]; omega)
      · obtain rfl : N = k := by omega
        have HT2 := Lib.hid T2
        have HE := Lib.hid (show A = trB n from tr_uniq HS.out fun t => by rw [HA.out t, List.take_of_length_le (by rw [HNL.out]; exact Nat.le_refl _), HIF.out t])
        clear T2
        go_wp2
        rw [← HGF.out]
        exact ⟨_, rfl, by rw [← HE.out]; exact HT2.out.ou, by simp, HT2.out.kw⟩

end Go.Proofs.Ytbmkpcenjjdflaa
