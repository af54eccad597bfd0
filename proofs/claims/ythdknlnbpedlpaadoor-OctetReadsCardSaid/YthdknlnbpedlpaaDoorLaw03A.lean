import Derived.Test.YthdknlnbpedlpaaDoorHex
/-! Chapter 03: few, and the page's example. -/
namespace Go.Proofs.YthdknlnbpedlpaaDoor.Ct
open Go.RowKit
set_option linter.unusedVariables false
set_option linter.unusedSimpArgs false
theorem few_calls (a : Option Addr) (cap : Nat) (xs : List Int) (w : World) (h : Row .u8 w a xs) (hc : xs.length ≤ cap) (hm : cap ≤ 9223372036854775807) :
    Calls Tryd.prog 15 #[.slice a xs.length cap] w fun e w' => e = .returned (.slice a (xs.take 200).length cap) ∧ w = w' := by
  by_cases c : 200 < xs.length
  · obtain ⟨ad, rfl, _⟩ := h.2.2 (by omega)
    have e : (xs.take 200).length = 200 := by rw [List.length_take]; omega
    rw [e]
    clear h e
    go_enter Tryd.func15, Tryd.ntmps15
    go_wp2
    go_ret
    exact ⟨rfl, rfl⟩
  · have e : (xs.take 200).length = xs.length := by rw [List.length_take]; omega
    rw [e]
    clear h e
    go_enter Tryd.func15, Tryd.ntmps15
    go_wp2
    go_ret
    exact ⟨rfl, rfl⟩
set_option maxHeartbeats 2000000 in
theorem awake_calls (w : World) (hT : Dig w) : Calls Tryd.prog 14 #[] w fun e w' => e = .returned (.bool true) ∧ Below w.heap.size w w' := by
  have rc := read_calls (some ⟨w.heap.size, 0, none⟩) 3 [2, 1, 0] (w.alloc (.cells (nums .u8 [2, 1, 0]).toArray 5)) (row_lit _ _ _ (by decide) (by decide)) (by decide)
  have RC := Lib.hid (show Calls Tryd.prog 9 #[.slice (some ⟨w.heap.size, 0, none⟩) 3 3] (w.alloc (.cells #[.int .u8 2, .int .u8 1, .int .u8 0] 5)) (fun e w' => ∃ g, e = .returned (.pointer (some ⟨g, 0, none⟩)) ∧ (w.alloc (.cells (nums .u8 [2, 1, 0]).toArray 5)).heap.size ≤ g ∧ Rd w' g g ([2, 1, 0], false) true ∧ Below (w.alloc (.cells (nums .u8 [2, 1, 0]).toArray 5)).heap.size (w.alloc (.cells (nums .u8 [2, 1, 0]).toArray 5)) w') from rc)
  clear rc
  have uc := fun (w1 : World) g (h : Rd w1 g g ([2, 1, 0], false) true) => u_calls g g ([2, 1, 0], false) 2 w1 h
  have ex : takeS ([2, 1, 0], false) (wS 2) = ([2, 1], ([0], false)) := by decide
  have ex2 : uS ([2, 1, 0], false) 2 = 258 := by decide
  rw [ex, ex2] at uc
  have UC := Lib.hid uc; clear uc ex ex2
  have HT := Lib.hid hT; clear hT
  have PC := Lib.hid (fun w => put_calls none 0 [] 258 3 w (row_nil _ _) (by decide) (by decide) (by decide))
  have eput : ([] : List Int) ++ numS 3 258 = [2, 1, 0] := by decide
  rw [eput] at PC
  simp only [List.length_nil] at PC
  have hexc := fun (w1 : World) (hd : Dig w1) => hex_calls (some ⟨w1.heap.size, 0, none⟩) 2 [0, 255] (w1.alloc (.cells (nums .u8 [0, 255]).toArray 5)) (row_lit _ _ _ (by decide) (by decide)) (by decide) (hd.below ((Below.refl _ _).alloc (Nat.le_refl _) _))
  have eh : hexS [0, 255] = [48, 48, 102, 102] := by decide
  rw [eh] at hexc
  have HC := Lib.hid (show ∀ (w1 : World), Dig w1 → Calls Tryd.prog 25 #[.slice (some ⟨w1.heap.size, 0, none⟩) 2 2] (w1.alloc (.cells #[.int .u8 0, .int .u8 255] 5)) (fun e w' => e = .returned (.string (strOfNums [48, 48, 102, 102])) ∧ Below (w1.alloc (.cells (nums .u8 [0, 255]).toArray 5)).heap.size (w1.alloc (.cells (nums .u8 [0, 255]).toArray 5)) w') from hexc)
  have s1 : strOfNums [48, 48, 102, 102] = ByteArray.mk #[48, 48, 102, 102] := by decide
  have s2 : strOfNums [2, 1, 0] = ByteArray.mk #[2, 1, 0] := by decide
  rw [s1] at HC
  have kc := fun (w : World) (base : Nat) (v : Value) (h : Own .u8 5 w base v [2, 1, 0]) => own_str (P := Tryd.prog) 23 5 9 Tryd.underlying23 Tryd.underlying5 Tryd.underlying9 h
  rw [s2] at kc
  have KC := Lib.hid kc
  clear kc hexc eh eput s1 s2
  go_enter Tryd.func14, Tryd.ntmps14
  go_wp2_with (first
    | (go_at_call 9; (with_reducible refine (RC.out).mono ?_); rintro e w1 ⟨g, rfl, hg, hrd, hb⟩; have HG := Lib.hid hg; have HR := Lib.hid hrd; have HB := Lib.hid hb; clear hg hrd hb)
    | (go_at_call 10; (with_reducible refine (UC.out _ _ HR.out).mono ?_); rintro e w2 ⟨rfl, hrd, hgr⟩; have HR2 := Lib.hid hrd; have HGR := Lib.hid hgr; clear hrd hgr)
    | (go_at_call 8; (with_reducible refine (PC.out _).mono ?_); rintro e w3 ⟨v, rfl, ho, hb⟩; have hcv := KC.out _ _ _ ho; have HB3 := Lib.hid hb; have B3 := Lib.hid (Below.trans (below_of_grown (Below.trans ((Below.refl w.heap.size w).alloc (Nat.le_refl _) _) (HB.out.mono (by simp))) HGR.out (by have := HB.out.size; simp at this; omega) (by have := HG.out; simp at this; omega)) (HB3.out.mono (by have := HB.out.size; have := HGR.out.size; simp at *; omega))); clear ho hb)
    | (go_at_call 25; (with_reducible refine (HC.out _ (HT.out.below B3.out)).mono ?_); rintro e w4 ⟨rfl, hb⟩; have HB4 := Lib.hid hb; have LC := Lib.hid (left_calls _ _ _ _ w4 ((HR2.out.below HB3.out).below (Below.trans ((Below.refl _ _).alloc (Nat.le_refl _) _) (hb.mono (by simp))))); clear hb)
    | (go_at_call 19; (with_reducible refine (LC.out).mono ?_); rintro e w5 ⟨rfl, rfl⟩))
  go_ret
  exact ⟨rfl, Below.trans (B3.out.alloc B3.out.size _) (HB4.out.mono (by have := B3.out.size; simp; omega))⟩
end Go.Proofs.YthdknlnbpedlpaaDoor.Ct
