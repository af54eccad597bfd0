import Derived.Test.YtmopicpjhdekhaaDoorTaQ
import Derived.Test.YtmopicpjhdekhaaDoorStructs
import Derived.Test.YtmopicpjhdekhaaDoorOpenS
/-! TallyTells. -/
namespace Go.Proofs.YtmopicpjhdekhaaDoor.Ct
open Go.RowKit
open Go.ChangeShapes Go.WideShapes Go.Deep
set_option linter.unusedVariables false
set_option linter.unusedSimpArgs false
theorem open_Tally {H : Type} {enc : TypeId × Value → H} {w : World} {base : Nat} {spare : Nat → Bool} {held : Bool} {r : Reach} {b0 : Nat} {v : Value} {d : DataW H} {p : List MemPlace}
    (hv : Value.okWide Tryd.prog w r b0 23 v) (h : DataW.Trod enc Tryd.prog w base spare held 23 v d p) : ∃ f : Nat → Int, v = .agg (tlC f) ∧ ∀ i < 14, I64 (f i) := by
  obtain ⟨vs, rfl, hl, hf⟩ := open_structF (ds := List.replicate 14 (.int .i64)) Tryd.underlying23 (by kernel_rfl) (by kernel_rfl) (by kernel_rfl) hv h
  have hl : vs.length = 14 := by rw [hl]; rfl
  have hc : ∀ i, i < 14 → vs[i]? = some (.int .i64 (intOf (vs.getD i undef))) ∧ I64 (intOf (vs.getD i undef)) := by
    intro i hi
    obtain ⟨n, e, w⟩ := (hf i (.int .i64) (by rw [List.getElem?_replicate]; simp [hi])).int
    rw [e]
    refine ⟨?_, bounds_i64 w⟩
    rw [List.getD_eq_getElem?_getD, List.getElem?_eq_getElem (by omega)] at e
    rw [List.getElem?_eq_getElem (by omega)]
    exact congrArg some e
  refine ⟨fun i => intOf (vs.getD i undef), ?_, fun i hi => (hc i hi).2⟩
  congr 1
  apply Array.ext_getElem?
  intro i
  by_cases hi : i < 14
  · rw [tlC_get _ i hi, List.getElem?_toArray]
    exact (hc i hi).1
  · rw [Array.getElem?_eq_none (by simp [hl]; omega), Array.getElem?_eq_none (by show 14 ≤ i; omega)]
set_option maxRecDepth 10000 in
set_option maxHeartbeats 4000000 in
theorem tells28_walk (f : Nat → Int) (w : World) (hf : ∀ i < 14, I64 (f i)) :
    Calls Tryd.prog 4 #[.agg (tlC f)] w fun e w' => e = .returned (.bool true) ∧ Below w.heap.size w w' := by
  have RC := Lib.hid (fun W => treads_calls f hf W)
  have RR := Lib.hid (fun W => rreads_calls f hf W)
  have TC := Lib.hid (fun W => trate_calls f hf W)
  have QC := Lib.hid (fun W => rratio_calls (f 0) (sumS [f 0, f 1, f 2]) W)
  have AW := Lib.hid (fun W => awake_calls W)
  have K := Lib.hid (Blk.new w 23 (tlC f))
  have B := Lib.hid (below_alloc (Below.refl w.heap.size w) (.cells (tlC f) 23))
  have CK := Lib.hid (fun W (h : Blk W w.heap.size 23 (tlC f)) => c14_of h)
  have SM := Lib.hid (fun a b (ha : RateOk (f 0) (sumS [f 0, f 1, f 2]) a) (hb : RateOk (f 0) (sumS [f 0, f 1, f 2]) b) W => same_calls a b W (rate_same ha hb))
  unfold C14 at CK
  generalize sumS [f 0, f 1, f 2] = s at *
  clear hf
  unfold tlC at *
  go_enter Tryd.func4, Tryd.ntmps4
  go_upto_region 1 with (fail)
  go_region_held (fun w' => w'.cell? ⟨w.heap.size, 0, none⟩ = some (.int .i64 (f 0)) ∧ w'.cell? ⟨w.heap.size, 1, none⟩ = some (.int .i64 (f 1)) ∧ w'.cell? ⟨w.heap.size, 2, none⟩ = some (.int .i64 (f 2)) ∧ w'.cell? ⟨w.heap.size, 3, none⟩ = some (.int .i64 (f 3)) ∧ w'.cell? ⟨w.heap.size, 4, none⟩ = some (.int .i64 (f 4)) ∧ w'.cell? ⟨w.heap.size, 5, none⟩ = some (.int .i64 (f 5)) ∧ w'.cell? ⟨w.heap.size, 6, none⟩ = some (.int .i64 (f 6)) ∧ w'.cell? ⟨w.heap.size, 7, none⟩ = some (.int .i64 (f 7)) ∧ w'.cell? ⟨w.heap.size, 8, none⟩ = some (.int .i64 (f 8)) ∧ w'.cell? ⟨w.heap.size, 9, none⟩ = some (.int .i64 (f 9)) ∧ w'.cell? ⟨w.heap.size, 10, none⟩ = some (.int .i64 (f 10)) ∧ w'.cell? ⟨w.heap.size, 11, none⟩ = some (.int .i64 (f 11)) ∧ w'.cell? ⟨w.heap.size, 12, none⟩ = some (.int .i64 (f 12)) ∧ w'.cell? ⟨w.heap.size, 13, none⟩ = some (.int .i64 (f 13)))
    (exact CK.out _ ((by repeat (first | with_reducible exact K.out | with_reducible apply Blk.alloc | with_reducible apply Blk.drewN | with_reducible apply Blk.drew | exact K.out))))
    (first
    | (go_at_call 11; (with_reducible refine (RC.out _).mono ?_); rintro e w3 ⟨rfl, hb⟩; have K := Lib.hid (Blk.below ((by repeat (first | with_reducible exact K.out | with_reducible apply Blk.alloc | with_reducible apply Blk.drewN | with_reducible apply Blk.drew | exact K.out))) hb); have B := Lib.hid (below_step ((by repeat (first | with_reducible exact B.out | with_reducible apply below_alloc | with_reducible apply below_drewN | with_reducible apply below_drew))) hb); clear hb)
    | (go_at_call 12; (with_reducible refine (RR.out _).mono ?_); rintro e w4 ⟨rfl, hb⟩; have K := Lib.hid (Blk.below ((by repeat (first | with_reducible exact K.out | with_reducible apply Blk.alloc | with_reducible apply Blk.drewN | with_reducible apply Blk.drew | exact K.out))) hb); have B := Lib.hid (below_step ((by repeat (first | with_reducible exact B.out | with_reducible apply below_alloc | with_reducible apply below_drewN | with_reducible apply below_drew))) hb); clear hb)
    | (go_at_call 14; (with_reducible refine (TC.out _).mono ?_); rintro e w5 ⟨r1, rfl, hr, hb⟩; have HR1 := Lib.hid hr; have K := Lib.hid (Blk.below ((by repeat (first | with_reducible exact K.out | with_reducible apply Blk.alloc | with_reducible apply Blk.drewN | with_reducible apply Blk.drew | exact K.out))) hb); have B := Lib.hid (below_step ((by repeat (first | with_reducible exact B.out | with_reducible apply below_alloc | with_reducible apply below_drewN | with_reducible apply below_drew))) hb); clear hb hr)
    | (go_at_call 15; (with_reducible refine (QC.out _).mono ?_); rintro e w6 ⟨r2, rfl, hr, hb⟩; have HR2 := Lib.hid hr; have K := Lib.hid (Blk.below ((by repeat (first | with_reducible exact K.out | with_reducible apply Blk.alloc | with_reducible apply Blk.drewN | with_reducible apply Blk.drew | exact K.out))) hb); have B := Lib.hid (below_step ((by repeat (first | with_reducible exact B.out | with_reducible apply below_alloc | with_reducible apply below_drewN | with_reducible apply below_drew))) hb); clear hb hr)
    | (go_at_call 13; (with_reducible refine (SM.out _ _ HR1.out HR2.out _).mono ?_); rintro e w7 ⟨rfl, e7⟩; subst e7)
    | (go_at_call 10; (with_reducible refine (AW.out _).mono ?_); rintro e w8 ⟨rfl, hb⟩; have K := Lib.hid (Blk.below ((by repeat (first | with_reducible exact K.out | with_reducible apply Blk.alloc | with_reducible apply Blk.drewN | with_reducible apply Blk.drew | exact K.out))) hb); have B := Lib.hid (below_step ((by repeat (first | with_reducible exact B.out | with_reducible apply below_alloc | with_reducible apply below_drewN | with_reducible apply below_drew))) hb); clear hb))
  all_goals go_wp2
  all_goals go_ret
  all_goals exact ⟨rfl, B.out⟩
end Go.Proofs.YtmopicpjhdekhaaDoor.Ct
