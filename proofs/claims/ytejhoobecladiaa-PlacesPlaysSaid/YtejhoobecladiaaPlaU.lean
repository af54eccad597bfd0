import Derived.Test.YtejhoobecladiaaPlaS
/-! Chapter 27: the page's example. -/
namespace Go.Proofs.Ytejhoobecladiaa.Ct
open Go.RowKit
set_option linter.unusedVariables false
set_option linter.unusedSimpArgs false
theorem LQ.bel {base x gl gw n m : Nat} {w w1 : World} {s : Nat → One27} (h : LQ base w x gl gw n m s) (ht : TchS (Mine27 x gl gw) w w1) (hb : base ≤ w.heap.size) : Below base w w1 := ht.to_below (fun i hi => (h.mine i hi).1) hb
theorem put_empty (s : Nat → One27) (h : ∀ i, s i = o27) : putZ 9 3 s 0 5 1 true = updO s 0 ⟨6, 1, true⟩ := by
  have e : putZ 9 3 s 0 5 1 true = putR27 s 0 5 1 true := if_pos ⟨by decide, by decide⟩
  rw [e]
  unfold putR27
  congr 1
  funext j
  rw [h j]
  exact if_neg (by decide)
theorem put_second (s : Nat → One27) (h : ∀ i, s i = o27) : putZ 9 3 (updO s 0 ⟨6, 1, true⟩) 2 5 1 true = updO s 2 ⟨6, 1, true⟩ := by
  have e : putZ 9 3 (updO s 0 ⟨6, 1, true⟩) 2 5 1 true = putR27 (updO s 0 ⟨6, 1, true⟩) 2 5 1 true := if_pos ⟨by decide, by decide⟩
  rw [e]
  unfold putR27
  funext j
  show (if j = 2 then (⟨6, 1, true⟩ : One27) else if (if j = 0 then (⟨6, 1, true⟩ : One27) else s j).lba = 5 + 1 then o27 else if j = 0 then ⟨6, 1, true⟩ else s j) = if j = 2 then ⟨6, 1, true⟩ else s j
  by_cases h2 : j = 2
  · rw [if_pos h2, if_pos h2]
  · rw [if_neg h2, if_neg h2]
    by_cases h0 : j = 0
    · rw [if_pos h0, h j]; exact if_pos rfl
    · rw [if_neg h0, h j]; exact if_neg (by decide)
def sA : Nat → One27 := updO (fun _ => o27) 2 ⟨6, 1, true⟩
theorem sA_of : ofZ 9 3 sA 5 = 3 := by decide +kernel
theorem sA_has : hasZ 3 sA 0 = false := by decide +kernel
theorem sA_free : freeZ 3 sA 9 = [0, 1] := by decide +kernel
theorem sA_at : atZ 3 sA 0 = .tuple #[.agg #[.int .i64 0, .int .i64 0, .int .u64 0], .bool false, .bool false] := if_neg (by rw [sA_has]; simp)
theorem own_01 (w : World) : Own .i64 3 (w.alloc (.cells #[.int .i64 0, .int .i64 1] 3)) w.heap.size (.slice (some ⟨w.heap.size, 0, none⟩) 2 2) [0, 1] :=
  own_lit (k := .i64) (E := 3) (w := w) [0, 1] (Nat.le_refl _) (by decide) (by decide)
set_option maxHeartbeats 4000000 in
theorem awake27_calls (w : World) : Calls Try.prog 14 #[] w fun e w' => e = .returned (.bool true) ∧ Below w.heap.size w w' := by
  have NC := Lib.hid (show Calls Try.prog 7 #[.int .i64 9, .int .i64 3] w fun e w' => ∃ x, e = .returned (.tuple #[.pointer (some ⟨x, 0, none⟩), .int .i64 0]) ∧ (∃ gl gw, LQ w.heap.size w' x gl gw 9 3 (fun _ => o27)) ∧ Below w.heap.size w w' from new27_ok 9 3 w (by decide) (by decide))
  have BASE := Lib.hid (show w.heap.size ≤ w.heap.size from Nat.le_refl _)
  generalize hg : w.heap.size = ga at *
  go_enter Try.func14, Try.ntmps14
  go_upto_region 2 with (first
    | (go_at_call 7; (with_reducible refine (NC.out).mono ?_); rintro e w1 ⟨x, rfl, ⟨gl, gw, hq⟩, hb⟩; have HQ := Lib.hid hq; have HB := Lib.hid hb; clear hq hb))
  have hz1 := Lib.hid (show ga ≤ w1.heap.size from hg ▸ HB.out.size)
  have P1 := Lib.hid (put_empty (fun _ => o27) (fun _ => rfl) ▸ putQ HQ.out (by decide) (by decide) 0 5 1 true)
  rw [show (inZ 3 0 && inZ 9 5) = true from by decide] at P1
  have HL1 := Lib.hid (fun w2 (ht : TchS (Mine27 x gl gw) w1 w2) => HQ.out.bel ht hz1.out)
  have P2 := Lib.hid (fun w2 (h : LQ ga w2 x gl gw 9 3 (updO (fun _ => o27) 0 ⟨6, 1, true⟩)) => put_second (fun _ => o27) (fun _ => rfl) ▸ putQ h (by decide) (by decide) 2 5 1 true)
  simp only [show (inZ 3 2 && inZ 9 5) = true from by decide] at P2
  go_upto_region 3 with (first
    | (go_at_call 9; (with_reducible refine (P1.out).mono ?_); rintro e w2 ⟨rfl, hq, ht⟩; have HQ2 := Lib.hid hq; have HB2 := Lib.hid (Below.trans HB.out (HL1.out _ ht)); clear hq ht)
    | (go_at_call 9; (with_reducible refine (P2.out _ HQ2.out).mono ?_); rintro e w3 ⟨rfl, hq, ht⟩; have HQ3 := Lib.hid hq; have HB3 := Lib.hid (Below.trans HB2.out (HQ2.out.bel ht (hg ▸ HB2.out.size))); clear hq ht))
  have HQ3 := Lib.hid (show LQ ga w3 x gl gw 9 3 sA from HQ3.out)
  have OC := Lib.hid (ofQ HQ3.out (by decide) 5)
  rw [sA_of] at OC
  have OC := Lib.hid (show Calls Try.prog 10 #[.pointer (some ⟨x, 0, none⟩), .int .i64 5] w3 fun e w' => e = .returned (.tuple #[.int .i64 2, .bool true]) ∧ w3 = w' from OC.out)
  have AC := Lib.hid (sA_at ▸ atQ HQ3.out (by decide) 0)
  have FC := Lib.hid (fun (W : World) (hb : Below w3.heap.size w3 W) => sA_free ▸ freeQ (HQ3.out.below hb) (by decide) (by decide) 9)
  have SC := Lib.hid (fun (W : World) (b : Nat) (v : Value) (h : Own .i64 3 W b v [0, 1]) => own_same (h.alloc (.cells #[.int .i64 0, .int .i64 1] 3)) (own_01 W))
  clear NC P1 P2 HL1 HQ HQ2 HB HB2 hz1
  go_wp2_with (first
    | (go_at_call 10; (with_reducible refine (OC.out).mono ?_); rintro e w4 ⟨rfl, rfl⟩)
    | (go_at_call 11; (with_reducible refine (AC.out).mono ?_); rintro e w4 ⟨rfl, hb⟩; have HB4 := Lib.hid hb; clear hb)
    | (go_at_call 13; (with_reducible refine (FC.out _ (by repeat (first | with_reducible exact HB4.out | with_reducible apply below_alloc))).mono ?_); rintro e w5 ⟨v, rfl, ho, hb⟩; have HO := Lib.hid ho; have HB5 := Lib.hid (below_step (by repeat (first | with_reducible exact HB4.out | with_reducible apply below_alloc)) hb); clear ho hb)
    | (go_at_call 26; (with_reducible refine (SC.out _ _ _ HO.out).mono ?_); rintro e w6 ⟨rfl, hb⟩; have HB6 := Lib.hid (below_step (below_alloc HB5.out _) hb); clear hb))
  go_ret
  exact ⟨rfl, Below.trans HB3.out (HB6.out.mono (hg ▸ HB3.out.size))⟩
end Go.Proofs.Ytejhoobecladiaa.Ct
