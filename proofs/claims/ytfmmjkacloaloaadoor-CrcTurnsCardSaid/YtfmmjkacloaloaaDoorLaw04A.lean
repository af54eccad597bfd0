import Derived.Test.YtfmmjkacloaloaaDoorCrcB
/-! Chapter 04: the page's examples, and CrcSums. -/
namespace Go.Proofs.YtfmmjkacloaloaaDoor.Ct
open Go.RowKit
set_option linter.unusedVariables false
set_option linter.unusedSimpArgs false
theorem few_calls (a : Option Addr) (cap : Nat) (xs : List Int) (w : World) (h : Row .u8 w a xs) (hc : xs.length ≤ cap) (hm : cap ≤ 9223372036854775807) :
    Calls Tryd.prog 7 #[.slice a xs.length cap] w fun e w' => e = .returned (.slice a (xs.take 200).length cap) ∧ w = w' := by
  by_cases c : 200 < xs.length
  · obtain ⟨ad, rfl, _⟩ := h.2.2 (by omega)
    have e : (xs.take 200).length = 200 := by rw [List.length_take]; omega
    rw [e]
    clear h e
    go_enter Tryd.func7, Tryd.ntmps7
    go_wp2
    go_ret
    exact ⟨rfl, rfl⟩
  · have e : (xs.take 200).length = xs.length := by rw [List.length_take]; omega
    rw [e]
    clear h e
    go_enter Tryd.func7, Tryd.ntmps7
    go_wp2
    go_ret
    exact ⟨rfl, rfl⟩

theorem row_mark (w : World) (xs : List Int) (E : TypeId) (hw : ∀ x ∈ xs, (Lit.int .u8 x).wf = true) (hm : xs.length ≤ maxLen) (m : Nat × Nat) :
    Row .u8 (w.alloc (.cells (nums .u8 xs).toArray E m)) (some ⟨w.heap.size, 0, none⟩) xs := by
  refine ⟨hm, hw, fun _ => ⟨_, rfl, fun j hj => ?_⟩⟩
  rw [add_plain, World.cell?_alloc_mark]
  simp [nums, List.getElem?_eq_getElem hj, List.getD_eq_getElem?_getD]
set_option maxHeartbeats 2000000 in
theorem awake_calls (w : World) (hT : Tab w) : Calls Tryd.prog 13 #[] w fun e w' => e = .returned (.bool true) ∧ Below w.heap.size w w' := by
  have kc := fun (w : World) (C : Array Value) (n c : Nat) => Lib.run_convert_bytes_const (P := Tryd.prog) w 22 5 C n c Tryd.underlying22 Tryd.underlying5
  have HT := Lib.hid hT; clear hT
  have hw9 : ∀ x ∈ ([49, 50, 51, 52, 53, 54, 55, 56, 57] : List Int), (Lit.int .u8 x).wf = true := by decide
  have sc := csum_one (some ⟨w.heap.size, 0, none⟩) 9 [49, 50, 51, 52, 53, 54, 55, 56, 57] 22 (w.alloc (.cells (nums .u8 [49, 50, 51, 52, 53, 54, 55, 56, 57]).toArray 5 (9, 10))) _ rfl (row_mark w _ _ hw9 (by show 9 ≤ maxLen; decide) _) (HT.out.alloc _)
  rw [sumC_page, show (w.alloc (.cells (nums .u8 [49, 50, 51, 52, 53, 54, 55, 56, 57]).toArray 5 (9, 10))).heap.size = w.heap.size + 1 by simp] at sc
  have SC := Lib.hid (show Calls Tryd.prog 9 #[.slice (some ⟨w.heap.size + 1, 0, none⟩) 1 1] ((w.alloc (.cells #[.int .u8 49, .int .u8 50, .int .u8 51, .int .u8 52, .int .u8 53, .int .u8 54, .int .u8 55, .int .u8 56, .int .u8 57] 5 (9, 10))).alloc (.cells #[.slice (some ⟨w.heap.size, 0, none⟩) 9 9] 22)) (fun e w' => e = .returned (.int .u32 3421780262) ∧ ((w.alloc (.cells #[.int .u8 49, .int .u8 50, .int .u8 51, .int .u8 52, .int .u8 53, .int .u8 54, .int .u8 55, .int .u8 56, .int .u8 57] 5 (9, 10))).alloc (.cells #[.slice (some ⟨w.heap.size, 0, none⟩) 9 9] 22)) = w') from sc)
  clear sc
  have LC := Lib.hid (fun (w' : World) (hb : Below w.heap.size w w') => seal_calls none 0 [] w' (row_nil _ _) (by decide) (HT.out.below hb))
  have e0 : sealS [] = [0, 0, 0, 0] := by unfold sealS; rw [sumC_nil]; decide
  rw [e0] at LC
  simp only [List.length_nil] at LC
  clear e0 hw9
  go_enter Tryd.func13, Tryd.ntmps13
  go_wp2_with (first
    | (go_at_call 9; (with_reducible refine (SC.out).mono ?_); rintro e w' ⟨rfl, rfl⟩)
    | (go_at_call 15; (with_reducible refine (LC.out _ (((Below.refl _ _).alloc (Nat.le_refl _) _).alloc (by simp) _)).mono ?_); rintro e w' ⟨v, rfl, ho, hb⟩; have hcv := own_str (P := Tryd.prog) 22 5 9 Tryd.underlying22 Tryd.underlying5 Tryd.underlying9 ho; have HB := Lib.hid hb; clear ho hb))
  go_ret
  exact ⟨ret_bool (by rw [ByteArray.toList_eq]; decide), ((((Below.refl _ _).alloc (Nat.le_refl _) _).alloc (by simp) _)).trans (HB.out.mono (by simp; omega))⟩

set_option maxHeartbeats 4000000 in
theorem sums_walk (a : Option Addr) (cap : Nat) (xs0 : List Int) (b : Option Addr) (cap' : Nat) (ys0 : List Int) (s : Int) (w : World) (hc : xs0.length ≤ cap) (hm : cap ≤ 9223372036854775807) (h : Row .u8 w a xs0)
    (hc' : ys0.length ≤ cap') (hm' : cap' ≤ 9223372036854775807) (h' : Row .u8 w b ys0) (hs : 0 ≤ s ∧ s ≤ 4294967295) (hT : Tab w) :
    Calls Tryd.prog 3 #[.slice a xs0.length cap, .slice b ys0.length cap', .int .u32 s] w fun e w' => e = .returned (.bool true) ∧ Below w.heap.size w w' := by
  have FA := Lib.hid (few_calls a cap xs0 w h hc hm)
  have FB := Lib.hid (few_calls b cap' ys0 w h' hc' hm')
  have hx := h.take 200
  have hy := h'.take 200
  have hlx : (xs0.take 200).length ≤ 200 := List.length_take_le _ _
  have hly : (ys0.take 200).length ≤ 200 := List.length_take_le _ _
  have HB0 := Lib.hid (Below.refl w.heap.size w)
  clear h h' hc hc'
  generalize xs0.take 200 = xs at *
  generalize ys0.take 200 = ys at *
  obtain ⟨S, hS⟩ : ∃ S : W32, s = (S.toNat : Int) := ⟨BitVec.ofInt 32 s, (ofInt_toNat hs.1 hs.2).symm⟩
  obtain ⟨s0, s1⟩ := hs
  have jc := join_calls (some ⟨w.heap.size, 0, none⟩) 2 [xs, ys] _ (rowS_two (E := 22) (cap := cap) (cap' := cap') hx hy) (by simp; omega)
  simp only [List.length_cons, List.length_nil, List.flatten_cons, List.flatten_nil, List.append_nil] at jc
  obtain ⟨all, hall⟩ : ∃ all, xs ++ ys = all := ⟨_, rfl⟩
  rw [hall] at jc
  have JC := Lib.hid jc; clear jc
  have JA := Lib.hid (fun w' (hb : Below w.heap.size w w') E g hg => csum_one a cap xs E w' g hg (hx.below hb) (hT.below hb))
  have JB := Lib.hid (fun w' (hb : Below w.heap.size w w') => rsum_calls a cap xs w' (hx.below hb))
  have jd := fun w' (hb : Below w.heap.size w w') E g hg => csum_two a b cap cap' xs ys E w' g hg (hx.below hb) (hy.below hb) (hT.below hb)
  rw [hall] at jd
  have JD := Lib.hid jd; clear jd
  have JM := Lib.hid (fun w' (hb : Below w.heap.size w w') => more_calls b cap' s S ys w' hS (hy.below hb) (hT.below hb))
  have jm2 := fun w' (hb : Below w.heap.size w w') => more_calls b cap' ((sumC xs).toNat : Int) (sumC xs) ys w' rfl (hy.below hb) (hT.below hb)
  rw [sumC_append, hall] at jm2
  clear hall
  have JM2 := Lib.hid jm2; clear jm2
  have JR := Lib.hid (fun w' (hb : Below w.heap.size w w') => rmore_calls b cap' s S ys w' hS (hy.below hb))
  have JW := Lib.hid (fun w' (hb : Below w.heap.size w w') => awake_calls w' (hT.below hb))
  have HT := Lib.hid hT
  clear hx hy hS hT
  go_enter Tryd.func3, Tryd.ntmps3
  go_wp2_with (first
    | (go_at_call 7; (with_reducible refine (FA.out).mono ?_); rintro e w' ⟨rfl, rfl⟩)
    | (go_at_call 7; (with_reducible refine (FB.out).mono ?_); rintro e w' ⟨rfl, rfl⟩)
    | (go_at_call 8; (with_reducible refine (JC.out).mono ?_); rintro e w1 ⟨v, rfl, ho, hb⟩; obtain ⟨na, nc, hv, _, _, hr, _, _⟩ := ho.form; rw [hv]; have HB1 := Lib.hid (below_step (below_alloc HB0.out _) hb); have HR := Lib.hid hr; have JS := Lib.hid (fun w' (hb : Below w1.heap.size w1 w') => rsum_calls na nc _ w' (hr.below hb)); have JT := Lib.hid (fun w' (hb : Below w1.heap.size w1 w') E g hg => csum_one na nc _ E w' g hg (hr.below hb) ((HT.out.below HB1.out).below hb)); clear ho hb hr hv)
    | (go_at_call 9; (with_reducible refine (JA.out _ (by repeat (first | exact HB1.out | apply below_alloc)) _ _ (by simp)).mono ?_); rintro e w' ⟨rfl, rfl⟩)
    | (go_at_call 9; (with_reducible refine (JD.out _ (by repeat (first | exact HB1.out | apply below_alloc)) _ _ (by simp)).mono ?_); rintro e w' ⟨rfl, rfl⟩)
    | (go_at_call 9; (with_reducible refine (JT.out _ (by repeat (first | exact Below.refl _ _ | apply below_alloc)) _ _ (by simp)).mono ?_); rintro e w' ⟨rfl, rfl⟩)
    | (go_at_call 10; (with_reducible refine (JB.out _ (by repeat (first | exact HB1.out | apply below_alloc))).mono ?_); rintro e w' ⟨rfl, rfl⟩)
    | (go_at_call 10; (with_reducible refine (JS.out _ (by repeat (first | exact Below.refl _ _ | apply below_alloc))).mono ?_); rintro e w' ⟨rfl, rfl⟩)
    | (go_at_call 11; (with_reducible refine (JM.out _ (by repeat (first | exact HB1.out | apply below_alloc))).mono ?_); rintro e w' ⟨rfl, rfl⟩)
    | (go_at_call 11; (with_reducible refine (JM2.out _ (by repeat (first | exact HB1.out | apply below_alloc))).mono ?_); rintro e w' ⟨rfl, rfl⟩)
    | (go_at_call 12; (with_reducible refine (JR.out _ (by repeat (first | exact HB1.out | apply below_alloc))).mono ?_); rintro e w' ⟨rfl, rfl⟩)
    | (go_at_call 13; (with_reducible refine (JW.out _ (by repeat (first | exact HB1.out | apply below_alloc))).mono ?_); rintro e w2 ⟨rfl, hb2⟩; have HB2 := Lib.hid hb2; clear hb2))
  go_ret
  exact ⟨rfl, below_step (by repeat (first | exact HB1.out | apply below_alloc)) HB2.out⟩
end Go.Proofs.YtfmmjkacloaloaaDoor.Ct
