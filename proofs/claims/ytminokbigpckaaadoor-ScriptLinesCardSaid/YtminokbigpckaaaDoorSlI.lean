import Derived.Test.YtminokbigpckaaaDoorSlH
/-! few, awake. -/
namespace Go.Proofs.YtminokbigpckaaaDoor.Ct
open Go.RowKit
set_option linter.unusedVariables false
set_option linter.unusedSimpArgs false
def fewX (x : Sp) : Sp := { x with fs := x.fs.take 70 }
theorem few_same {x : Sp} (h : x.fs.length ≤ 70) : fewX x = x := by unfold fewX; rw [List.take_of_length_le h]
set_option maxHeartbeats 4000000 in
theorem few_calls (x : Sp) (fa : Option Addr) (fc : Nat) (w : World) (h : Row .i64 w fa x.fs) (hc : x.fs.length ≤ fc) (hc2 : fc ≤ 9223372036854775807) :
    Calls Tryd.prog 7 #[stepV x fa fc] w fun e w' => e = .returned (stepV (fewX x) fa fc) ∧ Below w.heap.size w w' := by
  have K1 := Lib.hid (fun cs => Blk.alloc (Blk.new w 25 cs) (.cells #[.int .i64 0, .int .i64 0, .int .i64 0, .int .i64 0, .slice none 0 0] 25))
  have K2 := Lib.hid (fun cs => blk_at (w := w.alloc (.cells cs 25)) (t := 25) (cs := #[.int .i64 0, .int .i64 0, .int .i64 0, .int .i64 0, .slice none 0 0]) (show w.heap.size + 1 = (w.alloc (.cells cs 25)).heap.size by simp))
  have B := Lib.hid (fun (cs new : Array Value) => below_setRow (g := w.heap.size + 1) (below_alloc (below_alloc (Below.refl w.heap.size w) (.cells cs 25)) (.cells #[.int .i64 0, .int .i64 0, .int .i64 0, .int .i64 0, .slice none 0 0] 25)) (by omega) new)
  unfold stepV
  unfold stepC at *
  by_cases hl : x.fs.length ≤ 70
  · have F := Lib.hid (few_same hl)
    have h70 : ¬ (x.fs.length : Int) > 70 := by omega
    go_enter Tryd.func7, Tryd.ntmps7
    go_upto_region 3 with (fail)
    go_wp2_with (first
      | (refine wpl_load (g := w.heap.size) _ rfl rfl rfl (K1.out _) Tryd.underlying25 rfl (by kernel_rfl) ?_)
      | (refine wpl_store (g := w.heap.size + 1) rfl rfl rfl rfl (K2.out _) (by kernel_rfl) rfl (stepC_one x fa fc) ?_))
    refine bodyPost_ret (results_c rfl _ _ (w.heap.size + 1) _ _ _ _ rfl ((K2.out _).row _) Tryd.underlying25 rfl (by kernel_rfl)) rfl ?_
    rw [F.out]
    exact ⟨rfl, B.out _ _⟩
  · have h70 : (x.fs.length : Int) > 70 := by omega
    have F := Lib.hid (show (fewX x).fs.length = 70 by unfold fewX; show (x.fs.take 70).length = 70; rw [List.length_take]; omega)
    go_enter Tryd.func7, Tryd.ntmps7
    go_upto_region 3 with (fail)
    go_wp2_with (first
      | (refine wpl_load (g := w.heap.size) _ rfl rfl rfl (K1.out _) Tryd.underlying25 rfl (by kernel_rfl) ?_)
      | (refine wpl_store (g := w.heap.size + 1) rfl rfl rfl rfl (K2.out _) (by kernel_rfl) rfl (by simp [Value.oneCell']) ?_))
    refine bodyPost_ret (results_c rfl _ _ (w.heap.size + 1) _ _ _ _ rfl ((K2.out _).row _) Tryd.underlying25 rfl (by kernel_rfl)) rfl ?_
    rw [F.out]
    exact ⟨rfl, B.out _ _⟩
def exA : Sp := ⟨14, 2, 0, 0, [1, 1]⟩
def exB : Sp := ⟨2, 5, 255, 0, []⟩
theorem exA_may : MayX exA := by decide
theorem exB_may : MayX exB := by decide
theorem exA_wf : WfS exA := by unfold WfS I64 exA; simp
theorem exB_wf : WfS exB := by unfold WfS I64 exB; simp
theorem exA_line : slB exA = ⟨#[99, 114, 97, 115, 104, 32, 50, 32, 49, 32, 49]⟩ := by kernel_rfl
theorem exB_line : slB exB = ⟨#[119, 114, 105, 116, 101, 32, 53, 32, 50, 53, 53]⟩ := by kernel_rfl
theorem row_any (k : IntKind) (W : World) (a : Option Addr) : Row k W a [] := ⟨by simp, by simp, fun h => by simp at h⟩
theorem exB_back : spX ⟨#[119, 114, 105, 116, 101, 32, 53, 32, 50, 53, 53]⟩ = exB ∧ spC ⟨#[119, 114, 105, 116, 101, 32, 53, 32, 50, 53, 53]⟩ = 0 := by
  have := sp_line exB_may exB_wf
  rw [exB_line] at this
  exact this
set_option maxHeartbeats 4000000 in
theorem awake_calls (w : World) : Calls Tryd.prog 14 #[] w fun e w' => e = .returned (.bool true) ∧ Below w.heap.size w w' := by
  have HR := Lib.hid ((show Row .i64 (w.alloc (.cells #[.int .i64 1, .int .i64 1] 3)) (some ⟨w.heap.size, 0, none⟩) [1, 1] from row_litI (w := w) [1, 1] (by decide) (by decide)).below (below_alloc (Below.refl _ _) (.cells #[.int .i64 14, .int .i64 2, .int .i64 0, .int .i64 0, .slice (some ⟨w.heap.size, 0, none⟩) 2 2] 25)))
  have HB := Lib.hid (below_alloc (below_alloc (Below.refl w.heap.size w) (.cells #[.int .i64 1, .int .i64 1] 3)) (.cells #[.int .i64 14, .int .i64 2, .int .i64 0, .int .i64 0, .slice (some ⟨w.heap.size, 0, none⟩) 2 2] 25))
  have HK := Lib.hid (blk_at (w := w.alloc (.cells #[.int .i64 1, .int .i64 1] 3)) (t := 25) (cs := #[.int .i64 14, .int .i64 2, .int .i64 0, .int .i64 0, .slice (some ⟨w.heap.size, 0, none⟩) 2 2]) (show w.heap.size + 1 = (w.alloc (.cells #[.int .i64 1, .int .i64 1] 3)).heap.size by simp))
  have LC := Lib.hid (fun W (h : Row .i64 W (some ⟨w.heap.size, 0, none⟩) [1, 1]) => (show Calls Tryd.prog 8 #[.agg #[.int .i64 14, .int .i64 2, .int .i64 0, .int .i64 0, .slice (some ⟨w.heap.size, 0, none⟩) 2 2]] W (fun e W' => e = .returned (.tuple #[.string ⟨#[99, 114, 97, 115, 104, 32, 50, 32, 49, 32, 49]⟩, .int .i64 0]) ∧ Below W.heap.size W W') by
    have := sline_calls exA (some ⟨w.heap.size, 0, none⟩) 2 W h exA_wf
    rw [slV_yes exA_may, exA_line] at this
    exact this))
  have CC := Lib.hid (fun W (h : Row .i64 W (some ⟨w.heap.size, 0, none⟩) [1, 1]) => (show Calls Tryd.prog 16 #[.agg #[.int .i64 14, .int .i64 2, .int .i64 0, .int .i64 0, .slice (some ⟨w.heap.size, 0, none⟩) 2 2]] W (fun e W' => e = .returned (.int .i64 0) ∧ Below W.heap.size W W') by
    have := check_calls' exA (some ⟨w.heap.size, 0, none⟩) 2 W h
    rw [show codeX exA = 0 by unfold codeX; rw [if_pos exA_may]] at this
    exact this))
  have PC := Lib.hid (fun W => (sparse_calls ⟨#[119, 114, 105, 116, 101, 32, 53, 32, 50, 53, 53]⟩ W).mono (fun e W' h => show ∃ fb fcb, e = .returned (.tuple #[.agg #[.int .i64 2, .int .i64 5, .int .i64 255, .int .i64 0, .slice fb 0 fcb], .int .i64 0]) ∧ Below W.heap.size W W' by
    obtain ⟨⟨fb, fcb, he, -⟩, hb⟩ := h
    rw [exB_back.1, exB_back.2] at he
    exact ⟨fb, fcb, he, hb⟩))
  have SC := Lib.hid (fun W fb fcb => show Calls Tryd.prog 11 #[.agg #[.int .i64 2, .int .i64 5, .int .i64 255, .int .i64 0, .slice fb 0 fcb], .agg #[.int .i64 2, .int .i64 5, .int .i64 255, .int .i64 0, .slice none 0 0]] W (fun e W' => e = .returned (.bool true) ∧ Below W.heap.size W W') by
    have := ssame_calls exB exB fb none fcb 0 W (row_any _ _ _) (row_any _ _ _)
    rw [sameS_self] at this
    exact this)
  have WC := Lib.hid (fun W => show Calls Tryd.prog 13 #[.int .i64 12] W (fun e W' => e = .returned (.string ⟨#[114, 111, 116]⟩) ∧ W = W') from word_calls 12 W)
  go_enter Tryd.func14, Tryd.ntmps14
  go_upto_region 2 with (fail)
  generalize (w.alloc (.cells #[.int .i64 1, .int .i64 1] 3)).alloc (.cells #[.int .i64 14, .int .i64 2, .int .i64 0, .int .i64 0, .slice (some ⟨w.heap.size, 0, none⟩) 2 2] 25) = w2 at *
  go_upto_region 3 with (first
    | (refine wpl_load (g := w.heap.size + 1) _ rfl rfl rfl HK.out Tryd.underlying25 rfl (by kernel_rfl) ?_)
    | (go_at_call 8; (with_reducible refine ((LC.out _ HR.out)).mono ?_); rintro e w3 ⟨rfl, hb⟩; have HB3 := Lib.hid (below_step HB.out hb); have HK3 := Lib.hid (Blk.below HK.out hb); have HR3 := Lib.hid (Row.below HR.out hb); clear hb))
  clear HB HK HR LC
  go_upto_region 4 with (first
    | (go_at_call 17; (with_reducible refine (PC.out _).mono ?_); rintro e w4 ⟨fb, fcb, rfl, hb⟩; have HB4 := Lib.hid (below_step HB3.out hb); have HK4 := Lib.hid (Blk.below HK3.out hb); have HR4 := Lib.hid (Row.below HR3.out hb); clear hb))
  have HB5 := Lib.hid (below_alloc HB4.out (.cells #[.int .i64 2, .int .i64 5, .int .i64 255, .int .i64 0, .slice fb 0 fcb] 25))
  have HK5 := Lib.hid (Blk.alloc HK4.out (.cells #[.int .i64 2, .int .i64 5, .int .i64 255, .int .i64 0, .slice fb 0 fcb] 25))
  have HN5 := Lib.hid (Blk.new w4 25 #[.int .i64 2, .int .i64 5, .int .i64 255, .int .i64 0, .slice fb 0 fcb])
  have HR5 := Lib.hid (Row.below HR4.out (below_alloc (Below.refl _ _) (.cells #[.int .i64 2, .int .i64 5, .int .i64 255, .int .i64 0, .slice fb 0 fcb] 25)))
  clear HB3 HK3 HR3 HB4 HK4 HR4 PC
  generalize w4.alloc (.cells #[.int .i64 2, .int .i64 5, .int .i64 255, .int .i64 0, .slice fb 0 fcb] 25) = w5 at *
  generalize w4.heap.size = g at *
  obtain ⟨y0, y1, y2, y3, y4⟩ := (cells5 HN5.out).1
  go_wp2_with (first
    | (go_at_call 11; (with_reducible refine ((SC.out _ _ _)).mono ?_); rintro e w6 ⟨rfl, hb⟩; have HB6 := Lib.hid (below_step HB5.out hb); have HK6 := Blk.below HK5.out hb; have HR6 := Lib.hid (Row.below HR5.out hb); obtain ⟨k0, k1, k2, k3, k4⟩ := (cells5 HK6).1; clear hb HK6)
    | (go_at_call 16; (with_reducible refine ((CC.out _ HR6.out)).mono ?_); rintro e w7 ⟨rfl, hb⟩; have HB7 := Lib.hid (below_step HB6.out hb); clear hb)
    | (go_at_call 13; (with_reducible refine ((WC.out _)).mono ?_); rintro e w8 ⟨rfl, e2⟩; subst e2))
  go_ret
  exact ⟨rfl, HB7.out⟩
end Go.Proofs.YtminokbigpckaaaDoor.Ct
