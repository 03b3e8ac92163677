/- The library's sort over triples of the call's own. -/
import Derived.Test.YtbmkpcenjjdflaaTcl2
import Derived.Test.YtbmkpcenjjdflaaShelfTrs
import Derived.Sort.OwnSortedInts
namespace Go.Proofs.Ytbmkpcenjjdflaa
open Go.RowKit Go.Sort Go.Shelf
open Go.Sort (grow grow_empty grow_grow alloc_eq_grow)
set_option linter.unusedSimpArgs false

instance : Inhabited T3 := ⟨⟨0, 0, 0⟩⟩
theorem flatK_list (ys : List T3) : (flatK encT.enc 3 ys.toArray).toList = ys.flatMap encT.enc := by
  apply List.ext_getElem?
  intro t
  have hl : (ys.flatMap encT.enc).length = ys.length * 3 := flat_len encT ys
  by_cases ht : t < ys.length * 3
  · have h3 : t / 3 < ys.length := by omega
    have h4 := flat_get encT ys (t / 3) (t % 3) ys[t / 3] ((encT.enc ys[t / 3])[t % 3]'(by show t % 3 < 3; omega)) (List.getElem?_eq_getElem h3) (List.getElem?_eq_getElem _)
    have e : t / 3 * encT.k + t % 3 = t := by show t / 3 * 3 + t % 3 = t; omega
    rw [e] at h4
    rw [h4, Array.getElem?_toList]
    have h5 : t % 3 < (encT.enc ys[t / 3]).length := by show t % 3 < 3; omega
    simp [flatK, ht, h3]
    rw [List.getElem?_eq_getElem h5]
    rfl
  · have h1 : (ys.flatMap encT.enc)[t]? = none := List.getElem?_eq_none (by rw [hl]; omega)
    rw [h1]
    refine List.getElem?_eq_none ?_
    rw [Array.length_toList, size_flatK]
    simp
    omega
theorem cmpI_neg (a b : Int) : cmpI a b < 0 ↔ a < b := by
  unfold cmpI
  by_cases h1 : a < b
  · simp [h1]
  · by_cases h2 : b < a <;> simp [h1, h2]
theorem cmpI_zero (a b : Int) : cmpI a b = 0 ↔ a = b := by
  unfold cmpI
  by_cases h1 : a < b
  · simp [h1]; omega
  · by_cases h2 : b < a
    · simp [h1, h2]; omega
    · simp [h1, h2]; omega
theorem ltT (s t : T3) : ltOf cfT s t = decide (s.z < t.z ∨ (s.z = t.z ∧ s.y < t.y)) := by
  unfold ltOf cfT orI
  rw [Bool.eq_iff_iff, decide_eq_true_iff, decide_eq_true_iff]
  by_cases h : s.z = t.z
  · rw [if_pos ((cmpI_zero _ _).2 h), cmpI_neg]
    omega
  · rw [if_neg (fun e => h ((cmpI_zero _ _).1 e)), cmpI_neg]
    omega
theorem swoT : SWO (ltOf cfT) where
  irrefl x := by rw [ltT]; simp
  trans x y z h1 h2 := by rw [ltT] at *; simp at *; omega
  ntrans x y z h1 h2 := by rw [ltT] at *; simp at *; omega

theorem heap_sortedC {w : World} {g n : Nat} {os : Array Obj} {cur : Array Value} {e : TypeId} {fr : Nat × Nat} (d : Array Value) (hb : w.heap[g]? = some (.cells cur e fr)) :
    (grow (putRow id (Sort.ahead w n) g 0 d) os).heap[g]? = some (.cells (putCells id 0 d cur) e fr) := by
  have hg : g < w.heap.size := (Array.getElem?_eq_some_iff.1 hb).1
  rw [heap_grow_old _ _ (by simpa using hg)]
  simp [putRow, mapBlock, Sort.ahead, Array.getElem?_modify, hb, onCells]
theorem grownBy_sortedC {w : World} {g n : Nat} {os : Array Obj} (d : Array Value) : w.grownBy (grow (putRow id (Sort.ahead w n) g 0 d) os) (some g) := by
  refine ⟨rfl, rfl, rfl, by simp, fun k hk hne => ?_⟩
  rw [heap_grow_old _ _ (by simpa using hk)]
  have : g ≠ k := fun e => hne (by rw [e])
  simp [putRow, mapBlock, Sort.ahead, Array.getElem?_modify, this]
theorem take_putCellsC (cur d : Array Value) (h : d.size ≤ cur.size) : (putCells id 0 d cur).toList.take d.size = d.toList := by
  apply List.ext_getElem?
  intro j
  by_cases hj : j < d.size
  · rw [List.getElem?_take_of_lt hj, Array.getElem?_toList]
    simp [putCells, hj, show j < cur.size by omega]
  · rw [List.getElem?_take_eq_none (by omega), List.getElem?_eq_none (by simp; omega)]
/-- The library's sort over triples. -/
theorem sortT_any (v : Value) (xs : List T3) (B : Nat) (w : World) (h : OwnK encT 36 w B v xs) (hnv : v ≠ .slice none 0 0) (hl : xs.length ≤ 1000000) :
    Calls Try.prog 48 #[v, .func (.func 49) #[] #[]] w fun e w' => e = .returned (.tuple #[]) ∧ ∃ ys : List T3, ys.Perm xs ∧ ys.Pairwise (fun a b => a.z ≤ b.z) ∧ OwnK encT 36 w' B v ys ∧ w.grownBy w' v.ownBlock := by
  obtain ⟨h1, h2⟩ := h
  rcases h2 with ⟨rfl, h2⟩ | ⟨g, cap, cur, rfl, hg, hh, hn, hc, hs, ht⟩
  · exact absurd rfl hnv
  · have eg : ∀ args w, (callFunc 49 args).run Try.prog w = .ok (.enter 49 args) w := enters_of Try.func49 (by kernel_rfl) rfl
    have hH : HoldsK encT.enc 3 w g 0 xs.toArray := by
      intro j hj
      rw [size_flatK] at hj
      have hj2 : j < xs.length * 3 := by simpa using hj
      refine ⟨?_, by simp [World.frozen?, hh]⟩
      have h3 : (cur.toList.take (xs.length * 3))[j]? = (xs.flatMap encT.enc)[j]? := by rw [← ht]; rfl
      rw [List.getElem?_take_of_lt hj2] at h3
      simp only [World.cell?, hh, Nat.zero_add]
      simp only [Option.isSome_none, Bool.false_eq_true, if_false]
      rw [← Array.getElem?_toList, h3, ← flatK_list]
      rw [Array.getElem?_toList]
      have hj3 : j < (flatK encT.enc 3 xs.toArray).size := by rw [size_flatK]; exact hj
      rw [Array.getElem?_eq_getElem hj3, getElem!_pos _ j hj3]
      rfl
    have hcon := AnyQ.slices_SortFunc Try.sortTr 3 (fun _ => by kernel_rfl) (fun _ => by kernel_rfl) encT.enc (fun _ => rfl) encT.one cfT swoT 49 #[] g 0 cap xs.toArray w eg (fun m os dk _ x y => (tcl_any x y _).mono fun e w' hh => hh) hH (lt_of_block hh) (by simp; omega)
    change Calls Try.prog 48 _ _ _ at hcon
    refine hcon.mono ?_
    rintro e w' ⟨rfl, d', n, os, hp, hs2, rfl⟩
    have hsz : d'.size = xs.length := by simpa using hp.1
    have hpm : d'.toList.Perm xs := by
      have := hp.2.2
      rw [show (0 : Nat) = 0 from rfl] at this
      have e1 : (d'.extract 0 xs.toArray.size).toList = d'.toList := by
        rw [show xs.toArray.size = d'.size by rw [hsz]; simp]
        simp
      have e2 : (xs.toArray.extract 0 xs.toArray.size).toList = xs := by simp
      rw [e1, e2] at this
      exact this
    refine ⟨rfl, d'.toList, hpm, ?_, ?_, grownBy_sortedC _⟩
    · rw [List.pairwise_iff_getElem]
      intro i j hi hj hij
      have hi2 : i < d'.size := by simpa using hi
      have hj2 : j < d'.size := by simpa using hj
      have := hs2 i j (Nat.zero_le _) hij (by simp; omega)
      rw [ltT, getElem!_pos d' i hi2, getElem!_pos d' j hj2] at this
      simp only [decide_eq_false_iff_not, not_or] at this
      rw [Array.getElem_toList, Array.getElem_toList]
      omega
    · have hl2 : d'.toList.length = xs.length := by simpa using hsz
      have hF : (flatK encT.enc 3 d').toList = d'.toList.flatMap encT.enc := by
        have := flatK_list d'.toList
        simpa using this
      unfold OwnK
      rw [hl2]
      refine ⟨?_, .inr ⟨g, cap, _, rfl, hg, heap_sortedC _ hh, hn, hc, ?_, ?_⟩⟩
      · rw [flat_len, hl2]
      · simpa [putCells] using hs
      · have h5 : (flatK encT.enc 3 d').size = xs.length * encT.k := by rw [size_flatK, hsz]; rfl
        have h6 := take_putCellsC cur (flatK encT.enc 3 d') (by rw [h5, hs]; exact Nat.mul_le_mul_right _ hn)
        rw [h5, hF] at h6
        exact h6

end Go.Proofs.Ytbmkpcenjjdflaa
