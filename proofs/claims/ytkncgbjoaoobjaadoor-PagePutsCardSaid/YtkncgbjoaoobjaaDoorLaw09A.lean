import Derived.Test.YtkncgbjoaoobjaaDoorPageE
import Derived.Deep.RegionHeld
/-! Chapter 09: the page's examples, PageGets. -/
namespace Go.Proofs.YtkncgbjoaoobjaaDoor.Ct
open Go.RowKit
set_option linter.unusedVariables false
set_option linter.unusedSimpArgs false
theorem few_calls (a : Option Addr) (cap : Nat) (xs : List Int) (w : World) (h : Row .u8 w a xs) (hc : xs.length ≤ cap) (hm : cap ≤ 9223372036854775807) :
    Calls Tryd.prog 6 #[.slice a xs.length cap] w fun e w' => e = .returned (.slice a (xs.take 70).length cap) ∧ w = w' := by
  by_cases c : 70 < xs.length
  · obtain ⟨ad, rfl, _⟩ := h.2.2 (by omega)
    have e : (xs.take 70).length = 70 := by rw [List.length_take]; omega
    rw [e]
    clear h e
    go_enter Tryd.func6, Tryd.ntmps6
    go_wp2
    go_ret
    exact ⟨rfl, rfl⟩
  · have e : (xs.take 70).length = xs.length := by rw [List.length_take]; omega
    rw [e]
    clear h e
    go_enter Tryd.func6, Tryd.ntmps6
    go_wp2
    go_ret
    exact ⟨rfl, rfl⟩

theorem ex_get : getP (List.replicate 64 0) 2 = ([], 40) := by decide +kernel
theorem ex_put : putP 2 [7] = (sealS (pageS 2 [7]), 0) := by decide +kernel
theorem ex_len : (sealS (pageS 2 [7])).length = 64 := by decide +kernel
theorem ex_head : (sealS (pageS 2 [7])).take 4 = [213, 2, 7, 0] := by decide +kernel
theorem ex_kind : kindP (sealS (pageS 2 [7])) = 2 := by decide +kernel
set_option maxHeartbeats 4000000 in
theorem awake_calls (w : World) (hT : Tab w) : Calls Tryd.prog 10 #[] w fun e w' => e = .returned (.bool true) ∧ Below w.heap.size w w' := by
  have kc := fun (w : World) (a : Option Addr) (cap : Nat) (xs : List Int) (h : Row .u8 w a xs) => run_str (P := Tryd.prog) 22 5 9 Tryd.underlying22 Tryd.underlying5 Tryd.underlying9 a cap xs h
  have hb1 := (Below.refl w.heap.size w).alloc (Nat.le_refl _) (.cells #[.int .u8 7] 5)
  have h7 : Row .u8 (w.alloc (.cells #[.int .u8 7] 5)) (some ⟨w.heap.size, 0, none⟩) [7] := row_lit _ _ [7] (by simp) (by intro x hx; simp at hx; subst hx; rfl)
  have pc := pput_calls 2 (some ⟨w.heap.size, 0, none⟩) 1 [7] _ (by unfold I64; decide) h7 (hT.below hb1)
  unfold PutS at pc
  rw [ex_put, show ([7] : List Int).length = 1 from rfl] at pc
  have PC := Lib.hid pc
  have HB1 := Lib.hid hb1
  have KC := Lib.hid kc
  have HT := Lib.hid hT
  clear pc hb1 h7 kc hT
  have MK := Lib.hid (fun w => (show (Instr.makeSlice 22 (.int .i64 64) (.int .i64 64)).run Tryd.prog w = .ok (.slice (some ⟨w.heap.size, 0, none⟩) 64 64) (w.alloc (.cells (nums .u8 (List.replicate 64 0)).toArray 5)) from run_mk8 64 (by decide) w))
  go_enter Tryd.func10, Tryd.ntmps10
  go_upto_region 2 with (go_at_call 12; (with_reducible refine (PC.out).mono ?_); rintro e w1 ⟨v, rfl, ho, hb⟩; have HB2 := Lib.hid (below_step HB1.out hb); have HO2 := Lib.hid ho; clear ho hb)
  obtain ⟨va, vc, rfl, hvc, hvm, hr, -, -⟩ := HO2.out.form
  rw [ex_len] at hvc
  have hmk := MK.out w1
  have hz : Row .u8 (w1.alloc (.cells (nums .u8 (List.replicate 64 0)).toArray 5)) (some ⟨w1.heap.size, 0, none⟩) (List.replicate 64 0) := row_lit _ _ _ (by simp) (zeros_wf _)
  have hst := (Below.refl w1.heap.size w1).alloc (Nat.le_refl _) (.cells (nums .u8 (List.replicate 64 0)).toArray 5)
  have HR3 := Lib.hid (hr.below hst)
  have HB3 := Lib.hid (below_step HB2.out hst)
  generalize w1.alloc (.cells (nums .u8 (List.replicate 64 0)).toArray 5) = w3 at *
  have gc := pget_calls (some ⟨w1.heap.size, 0, none⟩) 64 (List.replicate 64 0) 2 w3 hz (by simp) (by simp) (by decide) (by unfold I64; decide) (HT.out.below HB3.out)
  rw [ex_get, List.length_replicate] at gc
  have GC := Lib.hid gc
  clear gc hz hst hr
  simp only [ex_len]
  go_upto_region 3 with (go_at_call 9; (with_reducible refine (GC.out).mono ?_); rintro e w4 ⟨⟨a', c', rfl, -, -, -⟩, hb⟩; have HB4 := Lib.hid (below_step HB3.out hb); have HR4 := Lib.hid (HR3.out.below hb); clear hb)
  have hh := KC.out w4 va vc _ (HR4.out.take 4)
  have kk := pkind_calls va vc _ w4 HR4.out (by rw [ex_len]; decide) (by rw [ex_len]; exact hvc) hvm (HT.out.below HB4.out)
  rw [ex_head, show ([213, 2, 7, 0] : List Int).length = 4 from rfl, show strOfNums [213, 2, 7, 0] = ByteArray.mk #[213, 2, 7, 0] from rfl] at hh
  rw [ex_len, ex_kind] at kk
  have KK := Lib.hid kk
  obtain ⟨ad, rfl, -⟩ := HR4.out.2.2 (by rw [ex_len]; decide)
  clear kk
  go_wp2_with (go_at_call 11; (with_reducible refine (KK.out).mono ?_); rintro e w5 ⟨rfl, hb⟩; have HB5 := Lib.hid (below_step HB4.out hb); clear hb)
  go_ret
  exact ⟨rfl, HB5.out⟩
set_option maxHeartbeats 4000000 in
theorem gets_walk (a : Option Addr) (cap : Nat) (xs0 : List Int) (k : Int) (w : World) (hc : xs0.length ≤ cap) (hm : cap ≤ 9223372036854775807) (h : Row .u8 w a xs0)
    (hk : -9223372036854775808 ≤ k ∧ k ≤ 9223372036854775807) (hT : Tab w) :
    Calls Tryd.prog 5 #[.slice a xs0.length cap, .int .i64 k] w fun e w' => e = .returned (.bool true) ∧ Below w.heap.size w w' := by
  have FA := Lib.hid (few_calls a cap xs0 w h hc hm)
  have hx := h.take 70
  have hlx : (xs0.take 70).length ≤ 70 := List.length_take_le _ _
  have hcx : (xs0.take 70).length ≤ cap := by rw [List.length_take]; omega
  have HB0 := Lib.hid (Below.refl w.heap.size w)
  clear h hc
  generalize xs0.take 70 = xs at *
  have kc := fun (w : World) (a : Option Addr) (cap : Nat) (xs : List Int) (h : Row .u8 w a xs) => run_str (P := Tryd.prog) 22 5 9 Tryd.underlying22 Tryd.underlying5 Tryd.underlying9 a cap xs h
  have GC := Lib.hid (fun w' (hb : Below w.heap.size w w') => pget_calls a cap xs k w' (hx.below hb) (by omega) hcx hm hk (hT.below hb))
  have GR := Lib.hid (fun w' (hb : Below w.heap.size w w') => rget_calls a cap xs k w' (hx.below hb) (by omega) hcx hm hk)
  have JK := Lib.hid (fun w' (hb : Below w.heap.size w w') => pkind_calls a cap xs w' (hx.below hb) (by omega) hcx hm (hT.below hb))
  have JR := Lib.hid (fun w' (hb : Below w.heap.size w w') => rkind_calls a cap xs w' (hx.below hb) (by omega) hcx hm)
  have JB := Lib.hid (fun w' (hb : Below w.heap.size w w') => pblank_calls a cap xs w' (hx.below hb))
  have JC := Lib.hid (fun w' (hb : Below w.heap.size w w') => rblank_calls a cap xs w' (hx.below hb) (by omega))
  have JW := Lib.hid (fun w' (hb : Below w.heap.size w w') => awake_calls w' (hT.below hb))
  have KC := Lib.hid kc
  have gb := getP_bd xs k
  have kb := kind_bd xs
  obtain ⟨k0, k1⟩ := hk
  clear hx hT kc
  generalize getP xs k = p at *
  generalize kindP xs = kd at *
  generalize blankS xs = bl at *
  obtain ⟨y, z⟩ := p
  dsimp only at gb
  obtain ⟨g0, g1⟩ := gb
  obtain ⟨kb0, kb1⟩ := kb
  go_enter Tryd.func5, Tryd.ntmps5
  go_upto_region 4 with (first
    | (go_at_call 6; (with_reducible refine (FA.out).mono ?_); rintro e w' ⟨rfl, rfl⟩)
    | (go_at_call 9; (with_reducible refine (GC.out _ HB0.out).mono ?_); rintro e w1 ⟨⟨a1, c1, rfl, hr, -, -⟩, hb⟩; have HB1 := Lib.hid hb; have HR1 := Lib.hid hr; clear hb hr)
    | (go_at_call 14; (with_reducible refine (GR.out _ HB1.out).mono ?_); rintro e w2 ⟨⟨a2, c2, rfl, hr, -, -⟩, hb⟩; have HB2 := Lib.hid (below_step HB1.out hb); have HR2 := Lib.hid hr; have HR12 := Lib.hid (HR1.out.below hb); clear hb hr))
  have h1 := KC.out w2 a1 c1 y HR12.out
  have h2 := KC.out w2 a2 c2 y HR2.out
  generalize strOfNums y = s at *
  go_wp2_with (first
    | (go_at_call 11; (with_reducible refine (JK.out _ HB2.out).mono ?_); rintro e w3 ⟨rfl, hb⟩; have HB3 := Lib.hid (below_step HB2.out hb); clear hb)
    | (go_at_call 15; (with_reducible refine (JR.out _ HB3.out).mono ?_); rintro e w4 ⟨rfl, hb⟩; have HB4 := Lib.hid (below_step HB3.out hb); clear hb)
    | (go_at_call 13; (with_reducible refine (JB.out _ HB4.out).mono ?_); rintro e w' ⟨rfl, rfl⟩)
    | (go_at_call 16; (with_reducible refine (JC.out _ HB4.out).mono ?_); rintro e w5 ⟨rfl, hb⟩; have HB5 := Lib.hid (below_step HB4.out hb); clear hb)
    | (go_at_call 10; (with_reducible refine (JW.out _ HB5.out).mono ?_); rintro e w6 ⟨rfl, hb⟩; have HB6 := Lib.hid (below_step HB5.out hb); clear hb))
  go_ret
  exact ⟨rfl, HB6.out⟩
end Go.Proofs.YtkncgbjoaoobjaaDoor.Ct
