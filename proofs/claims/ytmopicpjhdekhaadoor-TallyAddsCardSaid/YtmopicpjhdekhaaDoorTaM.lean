import Derived.Test.YtmopicpjhdekhaaDoorTaL
import Derived.Test.YtmopicpjhdekhaaDoorTaK
import Derived.Test.YtmopicpjhdekhaaDoorCells
/-! The reference's Row, Of. -/
namespace Go.Proofs.YtmopicpjhdekhaaDoor.Ct
open Go.RowKit
set_option linter.unusedVariables false
set_option linter.unusedSimpArgs false
theorem bget14 {w w' : World} {g : Nat} {f : Nat → Int} (hb : Below w.heap.size w w') (h : w.cell? ⟨g, 0, none⟩ = some (.int .i64 (f 0)) ∧ w.cell? ⟨g, 1, none⟩ = some (.int .i64 (f 1)) ∧ w.cell? ⟨g, 2, none⟩ = some (.int .i64 (f 2)) ∧ w.cell? ⟨g, 3, none⟩ = some (.int .i64 (f 3)) ∧ w.cell? ⟨g, 4, none⟩ = some (.int .i64 (f 4)) ∧ w.cell? ⟨g, 5, none⟩ = some (.int .i64 (f 5)) ∧ w.cell? ⟨g, 6, none⟩ = some (.int .i64 (f 6)) ∧ w.cell? ⟨g, 7, none⟩ = some (.int .i64 (f 7)) ∧ w.cell? ⟨g, 8, none⟩ = some (.int .i64 (f 8)) ∧ w.cell? ⟨g, 9, none⟩ = some (.int .i64 (f 9)) ∧ w.cell? ⟨g, 10, none⟩ = some (.int .i64 (f 10)) ∧ w.cell? ⟨g, 11, none⟩ = some (.int .i64 (f 11)) ∧ w.cell? ⟨g, 12, none⟩ = some (.int .i64 (f 12)) ∧ w.cell? ⟨g, 13, none⟩ = some (.int .i64 (f 13))) : w'.cell? ⟨g, 0, none⟩ = some (.int .i64 (f 0)) ∧ w'.cell? ⟨g, 1, none⟩ = some (.int .i64 (f 1)) ∧ w'.cell? ⟨g, 2, none⟩ = some (.int .i64 (f 2)) ∧ w'.cell? ⟨g, 3, none⟩ = some (.int .i64 (f 3)) ∧ w'.cell? ⟨g, 4, none⟩ = some (.int .i64 (f 4)) ∧ w'.cell? ⟨g, 5, none⟩ = some (.int .i64 (f 5)) ∧ w'.cell? ⟨g, 6, none⟩ = some (.int .i64 (f 6)) ∧ w'.cell? ⟨g, 7, none⟩ = some (.int .i64 (f 7)) ∧ w'.cell? ⟨g, 8, none⟩ = some (.int .i64 (f 8)) ∧ w'.cell? ⟨g, 9, none⟩ = some (.int .i64 (f 9)) ∧ w'.cell? ⟨g, 10, none⟩ = some (.int .i64 (f 10)) ∧ w'.cell? ⟨g, 11, none⟩ = some (.int .i64 (f 11)) ∧ w'.cell? ⟨g, 12, none⟩ = some (.int .i64 (f 12)) ∧ w'.cell? ⟨g, 13, none⟩ = some (.int .i64 (f 13)) := by
  obtain ⟨c0, c1, c2, c3, c4, c5, c6, c7, c8, c9, c10, c11, c12, c13⟩ := h
  exact ⟨bget hb c0, bget hb c1, bget hb c2, bget hb c3, bget hb c4, bget hb c5, bget hb c6, bget hb c7, bget hb c8, bget hb c9, bget hb c10, bget hb c11, bget hb c12, bget hb c13⟩
theorem tl_news (f : Nat → Int) {w : World} {g : Nat} (h : g = w.heap.size) : Blk (w.alloc (.cells #[.int .i64 (f 0), .int .i64 (f 1), .int .i64 (f 2), .int .i64 (f 3), .int .i64 (f 4), .int .i64 (f 5), .int .i64 (f 6), .int .i64 (f 7), .int .i64 (f 8), .int .i64 (f 9), .int .i64 (f 10), .int .i64 (f 11), .int .i64 (f 12), .int .i64 (f 13)] 3)) g 3 (tlC f) := blk_at h
set_option maxRecDepth 10000 in
set_option maxHeartbeats 4000000 in
theorem rrow_calls (f : Nat → Int) (w : World) :
    Calls Tryd.prog 16 #[.agg (tlC f)] w fun e w' => ∃ g, e = .returned (.slice (some ⟨g, 0, none⟩) 14 14) ∧ w.heap.size ≤ g ∧ Blk w' g 3 (tlC f) ∧ Below w.heap.size w w' := by
  have C := c14_of (Blk.new w 23 (tlC f))
  unfold C14 at C
  obtain ⟨c0, c1, c2, c3, c4, c5, c6, c7, c8, c9, c10, c11, c12, c13⟩ := C
  have N := Lib.hid (tl_news f (w := w.alloc (.cells (tlC f) 23)) (show w.heap.size + 1 = _ by simp))
  have B := Lib.hid (below_alloc (below_alloc (Below.refl w.heap.size w) (.cells (tlC f) 23)) (.cells (tlC f) 3))
  go_enter Tryd.func16, Tryd.ntmps16
  go_wp2
  go_ret
  exact ⟨_, rfl, by simp, N.out, B.out⟩
set_option maxRecDepth 10000 in
set_option maxHeartbeats 4000000 in
theorem rof_calls (g c : Nat) (f : Nat → Int) (w : World) (hc : 14 ≤ c) (h : C14 w g f) :
    Calls Tryd.prog 19 #[.slice (some ⟨g, 0, none⟩) 14 c] w fun e w' => e = .returned (.agg (tlC f)) ∧ Below w.heap.size w w' := by
  unfold C14 at h
  have HC := Lib.hid h
  have HCA := Lib.hid (fun o => bget14 (below_alloc (Below.refl w.heap.size w) o) h)
  have hci : (14 : Int) ≤ c := by omega
  have K := Lib.hid (Blk.new w 23 zero14)
  have B := Lib.hid (below_alloc (Below.refl w.heap.size w) (.cells zero14 23))
  unfold zero14 at K B
  clear h
  go_enter Tryd.func19, Tryd.ntmps19
  go_upto_region 1 with (fail)
  go_region_held (fun w' => w'.cell? ⟨g, 0, none⟩ = some (.int .i64 (f 0)) ∧ w'.cell? ⟨g, 1, none⟩ = some (.int .i64 (f 1)) ∧ w'.cell? ⟨g, 2, none⟩ = some (.int .i64 (f 2)) ∧ w'.cell? ⟨g, 3, none⟩ = some (.int .i64 (f 3)) ∧ w'.cell? ⟨g, 4, none⟩ = some (.int .i64 (f 4)) ∧ w'.cell? ⟨g, 5, none⟩ = some (.int .i64 (f 5)) ∧ w'.cell? ⟨g, 6, none⟩ = some (.int .i64 (f 6)) ∧ w'.cell? ⟨g, 7, none⟩ = some (.int .i64 (f 7)) ∧ w'.cell? ⟨g, 8, none⟩ = some (.int .i64 (f 8)) ∧ w'.cell? ⟨g, 9, none⟩ = some (.int .i64 (f 9)) ∧ w'.cell? ⟨g, 10, none⟩ = some (.int .i64 (f 10)) ∧ w'.cell? ⟨g, 11, none⟩ = some (.int .i64 (f 11)) ∧ w'.cell? ⟨g, 12, none⟩ = some (.int .i64 (f 12)) ∧ w'.cell? ⟨g, 13, none⟩ = some (.int .i64 (f 13)))
    (exact HCA.out _)
    (fail)
  go_wp2
  refine bodyPost_ret (results_c rfl _ _ w.heap.size _ _ _ _ rfl (Blk.drew (Blk.new w 23 (tlC f))) Tryd.underlying23 rfl (by kernel_rfl)) rfl ?_
  exact ⟨rfl, below_drew (below_alloc (Below.refl w.heap.size w) (.cells (tlC f) 23))⟩
end Go.Proofs.YtmopicpjhdekhaaDoor.Ct
