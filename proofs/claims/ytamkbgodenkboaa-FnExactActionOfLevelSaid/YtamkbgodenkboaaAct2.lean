/- Actions in the laws: what every law on them uses. -/
import Derived.Test.YtamkbgodenkboaaAct
import Derived.Deep.RegionWith
namespace Go.Proofs.Ytamkbgodenkboaa
open Go.RowKit

theorem SlIn.le {w : World} {k : IntKind} {v : Value} {xs : List Int} (h : SlIn w k v xs) : xs.length ≤ maxLen := by
  rcases h with ⟨_, rfl⟩ | ⟨a, c, _, h1, h2, _⟩
  · simp
  · omega
theorem OwnA.sl {w : World} {B : Nat} {s t : Value} {X : Act} (h : OwnA w B s t X) : SlIn w .i64 s X.S ∧ SlIn w .i64 t X.T := ⟨h.1.slIn, h.2.1.slIn⟩
theorem SlIn2.below {w w' : World} {s t : Value} {S T : List Int} (h : SlIn w .i64 s S ∧ SlIn w .i64 t T) (hb : Below w.heap.size w w') : SlIn w' .i64 s S ∧ SlIn w' .i64 t T := ⟨h.1.below hb, h.2.below hb⟩
theorem SlIn2.le {w : World} {s t : Value} {S T : List Int} (h : SlIn w .i64 s S ∧ SlIn w .i64 t T) : S.length ≤ maxLen ∧ T.length ≤ maxLen := ⟨h.1.le, h.2.le⟩
theorem OwnA.below {w w' : World} {B : Nat} {s t : Value} {X : Act} (h : OwnA w B s t X) (hb : Below w.heap.size w w') : OwnA w' B s t X := ⟨h.1.below hb, h.2.1.below hb, h.2.2⟩

end Go.Proofs.Ytamkbgodenkboaa
