/- A map of triples: what is found in it. -/
import Derived.Test.YtbmkpcenjjdflaaTbS
import Derived.Maps.OwnSet
import Derived.Maps.Views
import Derived.WideKeyPair
namespace Go.Proofs.Ytbmkpcenjjdflaa
open Go.RowKit Go.Maps Go.WideMaps
set_option linter.unusedSimpArgs false

theorem arrT : ArrKey Try.prog 36 2 3 := ⟨Try.underlying36, by kernel_rfl, by kernel_rfl, by kernel_rfl⟩
theorem lawT : Keyed Try.prog 36 := Keyed.of_law arrT.law
theorem zeroBool (w : World) : (zeroValue 4).run Try.prog w = .ok (.bool false) w := by kernel_rfl
/-- How a triple reads as a key. -/
def keyT (t : T3) : Lit := .string (keyBytes [.int .i64 t.x, .int .i64 t.y, .int .i64 t.z])
theorem wf_small {a : Int} (h : -1000000000 ≤ a ∧ a ≤ 1000000000) : (Lit.int .i64 a).wf = true := by
  simp [Lit.wf, IntKind.min, IntKind.max, IntKind.bits, IntKind.signed]
  omega
theorem keyT_ok {t : T3} (h : t.small) : keyOf Try.prog 36 (.agg #[.int .i64 t.x, .int .i64 t.y, .int .i64 t.z]) = some (keyT t) := by
  have A := arrT
  have he : Try.prog.underlying 2 = some (.int .i64) := Try.underlying2
  have hsz : ∃ m, Try.prog.types.size = m + 1 := ⟨Try.prog.types.size - 1, by
    have : 0 < Try.prog.types.size := of_decide_eq_true (by kernel_rfl)
    omega⟩
  have hkt := A.keyType hsz
  obtain ⟨m, hm⟩ := hsz
  have w1 := wf_small h.1
  have w2 := wf_small h.2.1
  have w3 := wf_small h.2.2
  unfold keyOf keyT
  simp only [A.hu]
  rw [if_pos (by simp [hkt, Value.formed, A.hu, A.size]), hm]
  unfold Program.keyLits
  simp only [A.hu, Value.cells]
  rw [if_pos (by rw [A.size]; rfl), show List.range 3 = [0, 1, 2] from rfl, List.mapM_cons, List.mapM_cons, List.mapM_cons, List.mapM_nil]
  simp [A.one, Program.keyLits, he, w1, w2, w3]
theorem keyT_key (t : T3) : WideAt.IsKeyLit (keyT t) := trivial
theorem keyT_inj {s t : T3} (hs : s.small) (ht : t.small) (h : keyT s = keyT t) : s = t := by
  have h1 := keyT_ok hs
  have h2 := keyT_ok ht
  rw [h] at h1
  have := lawT.inj h1 h2
  simp only [Value.agg.injEq, Array.mk.injEq, List.cons.injEq, Value.int.injEq, true_and, and_true] at this
  cases s
  cases t
  simp only [T3.mk.injEq]
  exact ⟨this.1, this.2.1, this.2.2⟩
/-- The map of a list, its newest entry first. -/
def mapT : List T3 → DataW Unit
  | [] => .map []
  | t :: A => (mapT A).put (keyT t) (.lit (.bool true))
theorem mapT_tidy (A : List T3) : Tidy (mapT A) := by
  induction A with
  | nil => exact tidy_empty
  | cons a A ih => exact ih.put (keyT_key _) _
theorem mapT_at (A : List T3) (hA : ∀ s ∈ A, s.small) {t : T3} (ht : t.small) : (mapT A).atKey (keyT t) (.lit (.bool false)) = .lit (.bool (decide (t ∈ A))) := by
  induction A with
  | nil => rfl
  | cons a A ih =>
    rw [mapT]
    by_cases e : t = a
    · subst e
      rw [atKey_put_same (mapT_tidy A).isMap (keyT_key _)]
      simp
    · rw [atKey_put_other (fun h => e (keyT_inj ht (hA a List.mem_cons_self) h)), ih fun s hs => hA s (List.mem_cons_of_mem _ hs)]
      simp [e]
abbrev MapT (w : World) (b n : Nat) (A : List T3) : Prop := w.ownsMap Try.prog 36 (plainElem (H := Unit) Try.prog 4) b n (mapT A)
theorem MapT.lt {w : World} {b n : Nat} {A : List T3} (h : MapT w b n A) : b < w.heap.size := by obtain ⟨es, c, h1, -⟩ := h; exact lt_of_block h1
theorem MapT.below {w w' : World} {b n : Nat} {A : List T3} (hb : Below w.heap.size w w') (h : MapT w b n A) : MapT w' b n A := by
  obtain ⟨es, c, h1, h2⟩ := h
  exact ⟨es, c, (hb.block b (lt_of_block h1)).trans h1, h2⟩
theorem MapT.ne_blk {w : World} {b n g : Nat} {A : List T3} {F : TypeId} {cs : Array Value} (h : MapT w b n A) (hb : Blk w g F cs) : b ≠ g := by
  obtain ⟨es, c, h1, -⟩ := h
  intro e
  subst e
  have hb' : w.heap[b]? = some (.cells cs F (0, 0)) := hb
  rw [h1] at hb'
  simp at hb'
theorem OwnK.ne_mapT {α : Type} {e : Enc α} {E : TypeId} {w : World} {B b n : Nat} {v : Value} {xs : List α} {A : List T3} (h : OwnK e E w B v xs) (hM : MapT w b n A) : v.ownBlock ≠ some b := by
  intro ee
  obtain ⟨es, c, h1, -⟩ := hM
  rcases h.2 with ⟨h', _⟩ | ⟨g', cap', cur, h', _, hg, _⟩
  · rw [h'] at ee
    cases ee
  · rw [h'] at ee
    simp only [Value.ownBlock, Option.some.injEq] at ee
    subst ee
    rw [h1] at hg
    simp at hg
theorem runLook {w : World} {b n : Nat} {A : List T3} (h : MapT w b n A) (hA : ∀ s ∈ A, s.small) {t : T3} (ht : t.small) :
    (Instr.lookup 60 (.map (some b)) (.agg #[.int .i64 t.x, .int .i64 t.y, .int .i64 t.z]) false).run Try.prog w = .ok (.bool (decide (t ∈ A))) w := by
  obtain ⟨v, ps, hrun, hv⟩ := World.ownsMap.lookup h lawT Try.underlying60 (zeroBool w) (plainElem_bool Try.underlying4 false) (keyT_ok ht)
  rw [mapT_at A hA ht] at hv
  rw [hrun]
  cases v <;> simp [plainElem, Try.underlying4] at hv
  rw [hv.1]

end Go.Proofs.Ytbmkpcenjjdflaa
