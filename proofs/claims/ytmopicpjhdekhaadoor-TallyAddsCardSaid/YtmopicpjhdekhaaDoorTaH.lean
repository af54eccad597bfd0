import Derived.Test.YtmopicpjhdekhaaDoorTaG
import Derived.Deep.RegionHeldLaw
/-! tally.Rate. -/
namespace Go.Proofs.YtmopicpjhdekhaaDoor.Ct
open Go.RowKit
set_option linter.unusedVariables false
set_option linter.unusedSimpArgs false
/-- fourteen cells of a block. -/
def C14 (w : World) (g : Nat) (f : Nat → Int) : Prop := w.cell? ⟨g, 0, none⟩ = some (.int .i64 (f 0)) ∧ w.cell? ⟨g, 1, none⟩ = some (.int .i64 (f 1)) ∧ w.cell? ⟨g, 2, none⟩ = some (.int .i64 (f 2)) ∧ w.cell? ⟨g, 3, none⟩ = some (.int .i64 (f 3)) ∧ w.cell? ⟨g, 4, none⟩ = some (.int .i64 (f 4)) ∧ w.cell? ⟨g, 5, none⟩ = some (.int .i64 (f 5)) ∧ w.cell? ⟨g, 6, none⟩ = some (.int .i64 (f 6)) ∧ w.cell? ⟨g, 7, none⟩ = some (.int .i64 (f 7)) ∧ w.cell? ⟨g, 8, none⟩ = some (.int .i64 (f 8)) ∧ w.cell? ⟨g, 9, none⟩ = some (.int .i64 (f 9)) ∧ w.cell? ⟨g, 10, none⟩ = some (.int .i64 (f 10)) ∧ w.cell? ⟨g, 11, none⟩ = some (.int .i64 (f 11)) ∧ w.cell? ⟨g, 12, none⟩ = some (.int .i64 (f 12)) ∧ w.cell? ⟨g, 13, none⟩ = some (.int .i64 (f 13))
theorem c14_of {w : World} {g : Nat} {t : TypeId} {f : Nat → Int} (h : Blk w g t (tlC f)) : C14 w g f :=
  ⟨h.cell 0, h.cell 1, h.cell 2, h.cell 3, h.cell 4, h.cell 5, h.cell 6, h.cell 7, h.cell 8, h.cell 9, h.cell 10, h.cell 11, h.cell 12, h.cell 13⟩
set_option maxRecDepth 10000 in
set_option maxHeartbeats 4000000 in
theorem trate_calls (f : Nat → Int) (hf : ∀ i < 14, I64 (f i)) (w : World) :
    Calls Tryd.prog 14 #[.agg (tlC f)] w fun e w' => ∃ r, e = .returned (.float .f64 r) ∧ RateOk (f 0) (sumS [f 0, f 1, f 2]) r ∧ Below w.heap.size w w' := by
  have RC := Lib.hid (fun W => treads_calls f hf W)
  have QC := Lib.hid (fun W => ratio_calls (f 0) (sumS [f 0, f 1, f 2]) W)
  have K := Lib.hid (Blk.new w 23 (tlC f))
  have B := Lib.hid (below_alloc (Below.refl w.heap.size w) (.cells (tlC f) 23))
  have CK := Lib.hid (fun W (h : Blk W w.heap.size 23 (tlC f)) => c14_of h)
  unfold C14 at CK
  generalize sumS [f 0, f 1, f 2] = s at *
  clear hf
  unfold tlC at *
  go_enter Tryd.func14, Tryd.ntmps14
  go_upto_region 1 with (fail)
  go_region_held (fun w' => w'.cell? ⟨w.heap.size, 0, none⟩ = some (.int .i64 (f 0)) ∧ w'.cell? ⟨w.heap.size, 1, none⟩ = some (.int .i64 (f 1)) ∧ w'.cell? ⟨w.heap.size, 2, none⟩ = some (.int .i64 (f 2)) ∧ w'.cell? ⟨w.heap.size, 3, none⟩ = some (.int .i64 (f 3)) ∧ w'.cell? ⟨w.heap.size, 4, none⟩ = some (.int .i64 (f 4)) ∧ w'.cell? ⟨w.heap.size, 5, none⟩ = some (.int .i64 (f 5)) ∧ w'.cell? ⟨w.heap.size, 6, none⟩ = some (.int .i64 (f 6)) ∧ w'.cell? ⟨w.heap.size, 7, none⟩ = some (.int .i64 (f 7)) ∧ w'.cell? ⟨w.heap.size, 8, none⟩ = some (.int .i64 (f 8)) ∧ w'.cell? ⟨w.heap.size, 9, none⟩ = some (.int .i64 (f 9)) ∧ w'.cell? ⟨w.heap.size, 10, none⟩ = some (.int .i64 (f 10)) ∧ w'.cell? ⟨w.heap.size, 11, none⟩ = some (.int .i64 (f 11)) ∧ w'.cell? ⟨w.heap.size, 12, none⟩ = some (.int .i64 (f 12)) ∧ w'.cell? ⟨w.heap.size, 13, none⟩ = some (.int .i64 (f 13)))
    (exact CK.out _ ((by repeat (first | with_reducible exact K.out | with_reducible apply Blk.alloc | with_reducible apply Blk.drewN | with_reducible apply Blk.drew | exact K.out))))
    (first
    | (go_at_call 11; (with_reducible refine (RC.out _).mono ?_); rintro e w3 ⟨rfl, hb⟩; have K := Lib.hid (Blk.below ((by repeat (first | with_reducible exact K.out | with_reducible apply Blk.alloc | with_reducible apply Blk.drewN | with_reducible apply Blk.drew | exact K.out))) hb); have B := Lib.hid (below_step ((by repeat (first | with_reducible exact B.out | with_reducible apply below_alloc | with_reducible apply below_drewN | with_reducible apply below_drew))) hb); clear hb)
    | (go_at_call 35; (with_reducible refine (QC.out _).mono ?_); rintro e w4 ⟨r, rfl, hr, hb⟩; have HR := Lib.hid hr; have K := Lib.hid (Blk.below ((by repeat (first | with_reducible exact K.out | with_reducible apply Blk.alloc | with_reducible apply Blk.drewN | with_reducible apply Blk.drew | exact K.out))) hb); have B := Lib.hid (below_step ((by repeat (first | with_reducible exact B.out | with_reducible apply below_alloc | with_reducible apply below_drewN | with_reducible apply below_drew))) hb); clear hb hr))
  all_goals go_wp2
  all_goals go_ret
  all_goals exact ⟨_, rfl, HR.out, B.out⟩
end Go.Proofs.YtmopicpjhdekhaaDoor.Ct
