/- Regions that draw their order and hold calls that make memory: one walk in the order of the text, in every world that keeps what lay. -/
import Derived.Test.YtlgcboaojdhneaaK1
import Derived.BigQuiet
namespace Go.Proofs.Ytlgcboaojdhneaa
open Go.RowKit

/-- A world in which all that lay in w lies as it lay. -/
def After (w : World) : Type := { W : World // Kept [] w W }
instance (w : World) : Nonempty (After w) := ⟨⟨w, Kept.refl _ _⟩⟩
theorem After.cell {w : World} {p : Addr} {v : Value} (h : w.cell? p = some v) : ∀ z : After w, z.1.cell? p = some v := fun z => z.2.cell h (by simp)
theorem wp_region_after {P : Program} {id : Nat} {Q : Exit → Act → World → Prop} {a : Act} {w : World} {l : List Oper} (hm : P.follows .mixedOrders = true) (hB : Region.lexB .any l.toArray = true)
    (h : wpQuiet P l.toArray (fun w' => ∃ z : After w, w' = z.1) (fun a' => ∀ w', (∃ z : After w, w' = z.1) → Q .normal a' w') l a) : (Code.region id l.toArray true).wp P Q a w :=
  wp_region_quiet (C := fun w' => ∃ z : After w, w' = z.1) hm hB ⟨⟨_, Kept.drew _ _⟩, rfl⟩ (by simpa using h)
theorem Calls.after_b {P : Program} {f : FuncId} {args : Array Value} {w : World} {z : After w} {b : Bool} (h : Calls P f args z.1 (RetB b z.1)) : Calls P f args z.1 fun e w'' => e = .returned (.bool b) ∧ ∃ z' : After w, w'' = z'.1 :=
  h.mono fun _ w' ⟨he, hk⟩ => ⟨he, ⟨w', z.2.trans hk⟩, rfl⟩
end Go.Proofs.Ytlgcboaojdhneaa
