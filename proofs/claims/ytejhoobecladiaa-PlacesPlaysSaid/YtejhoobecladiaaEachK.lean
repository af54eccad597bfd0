import Derived.Test.YtejhoobecladiaaCells
import Derived.RangeFuncBox
import Derived.RangeFuncNested
import Derived.RangeFuncBound
import Derived.RangeFuncCalls
import Derived.RangeFuncLeaves
import Derived.Shelf.Abstract
import Derived.Shelf.RegionOpen
import Derived.OwnWalkIn
import Derived.TacticsInMore
import Derived.LoopNIn
import Derived.LoopIn
import Derived.Maps.AppendAt
import Derived.Sort.CutIn
/-! Ranges over a function: what the iterator asks of the body. -/
namespace Go.Proofs.Ytejhoobecladiaa.Ct
open Go.RowKit Go.Shelf
set_option linter.unusedVariables false
set_option linter.unusedSimpArgs false
/-- what lies below n is as it was, but for block B. -/
structure Kb (n B : Nat) (w w' : World) : Prop where
  size : w.heap.size ≤ w'.heap.size
  block : ∀ i, i < n → i ≠ B → w'.heap[i]? = w.heap[i]?
theorem Kb.refl (n B : Nat) (w : World) : Kb n B w w := ⟨Nat.le_refl _, fun _ _ _ => rfl⟩
theorem Kb.trans {n B : Nat} {w w1 w2 : World} (h : Kb n B w w1) (k : Kb n B w1 w2) : Kb n B w w2 := ⟨Nat.le_trans h.size k.size, fun i h1 h2 => (k.block i h1 h2).trans (h.block i h1 h2)⟩
theorem Kb.cell {n B : Nat} {w w' : World} (h : Kb n B w w') {p : Addr} {v : Value} (hn : p.block < n) (hB : p.block ≠ B) (hc : w.cell? p = some v) : w'.cell? p = some v := by
  rw [World.cell?_of_block (h.block _ hn hB)]; exact hc
theorem Kb.of_below {n B : Nat} {w w' : World} (hn : n ≤ w.heap.size) (h : Below w.heap.size w w') : Kb n B w w' := ⟨h.size, fun i hi _ => h.block i (by omega)⟩
theorem Kb.blk {n B : Nat} {w w' : World} (h : Kb n B w w') {g : Nat} {t : TypeId} {cs : Array Value} (hn : g < n) (hB : g ≠ B) (hk : Blk w g t cs) : Blk w' g t cs := (h.block g hn hB).trans hk
theorem kb_b {n B : Nat} {w : World} (hn : n ≤ w.heap.size) (W : World) (l : Nat) (o o' : Obj) (hl : w.heap.size ≤ l) (h : W.heap[l]? = some o) (_ : o.isCells = false) (_ : o.isWalk = false) : Kb n B W (W.putObj l o') :=
  ⟨by unfold World.putObj; simp, fun i hi _ => World.putObj_heap_other (by omega)⟩
theorem ownsRow_mono {W : World} {b b' : Nat} {e : TypeId} {size : Nat} {v : Value} {k : Nat} {xs : List Value} (h : W.ownsRow b e size v k xs) (hb : b' ≤ b) : W.ownsRow b' e size v k xs := by
  refine ⟨h.1, ?_⟩
  rcases h.2 with h1 | ⟨g, cap, cur, e, h2, r⟩
  · exact .inl h1
  · exact .inr ⟨g, cap, cur, e, Nat.le_trans hb h2, r⟩
theorem kb_app {n B : Nat} {W w1 : World} {e : TypeId} {size : Nat} {v : Value} {k : Nat} {xs : List Value} {o : Obj} (h : W.ownsRow n e size v k xs) (hz : n ≤ W.heap.size) (hg : (W.alloc o).grownBy w1 v.ownBlock) (u : Value) : Kb n B W (w1.setCell ⟨B, 0, none⟩ u) :=
  ⟨by have := hg.size; simp at this; unfold World.setCell; simp; omega, fun i hi hB => by
    rw [Below.heap_setCell w1 ⟨B, 0, none⟩ u i hB]
    refine (hg.block i (by simp; omega) ?_).trans (Below.heap_alloc W o i (by omega))
    intro e
    have := (h.lt i e.symm).1
    omega⟩
theorem abides_below {β : Type} {B : Nat} {J : β → World → Prop} (h : AbidesFrom B J) {s : β} {W W' : World} (hs : J s W) (hb : Below W.heap.size W W') : J s W' :=
  h s W W' none hs (grown_of_below hb none) (fun r e => by cases e)
end Go.Proofs.Ytejhoobecladiaa.Ct
