import Derived.Test.YthdknlnbpedlpaaDoorLaw03A
/-! Chapter 03: OctetPuts. -/
namespace Go.Proofs.YthdknlnbpedlpaaDoor.Ct
open Go.RowKit
set_option linter.unusedVariables false
set_option linter.unusedSimpArgs false
theorem rowS_two {w : World} {E : TypeId} {a b : Option Addr} {cap cap' : Nat} {xs ys : List Int} (h : Row .u8 w a xs) (h' : Row .u8 w b ys) :
    RowS (w.alloc (.cells #[.slice a xs.length cap, .slice b ys.length cap'] E)) (some ⟨w.heap.size, 0, none⟩) [xs, ys] := by
  refine ⟨by show 2 ≤ maxLen; decide, fun _ => ⟨_, rfl, fun j hj => ?_⟩⟩
  have : j = 0 ∨ j = 1 := by simp at hj; omega
  rcases this with rfl | rfl
  · exact ⟨a, cap, by simp [Addr.add, go_sem], h.below ((Below.refl _ _).alloc (Nat.le_refl _) _)⟩
  · exact ⟨b, cap', by simp [Addr.add, go_sem], h'.below ((Below.refl _ _).alloc (Nat.le_refl _) _)⟩
set_option maxHeartbeats 2000000 in
theorem rat_calls (a : Option Addr) (cap : Nat) (xs : List Int) (at_ width : Int) (w : World) (h : Row .u8 w a xs) (hcap : xs.length ≤ cap) (hm : cap ≤ 9223372036854775807) (ha : I64 at_) (hwd : I64 width) :
    Calls Tryd.prog 22 #[.slice a xs.length cap, .int .i64 at_, .int .i64 width] w fun e w' => e = .returned (.tuple #[.int .u64 (atS xs at_ width).1, .bool (atS xs at_ width).2]) ∧ w = w' := by
  obtain ⟨a0, a1⟩ := ha
  obtain ⟨w0, w1⟩ := hwd
  have H := Lib.hid h; clear h
  by_cases hc : (1 ≤ width ∧ width ≤ 8) ∧ 0 ≤ at_ ∧ at_ + width ≤ xs.length
  · have e : atS xs at_ width = (ofS ((xs.drop at_.toNat).take width.toNat), true) := by unfold atS; rw [if_pos ⟨decide_eq_true hc.1, hc.2.1, hc.2.2⟩]
    have E := Lib.hid e; clear e
    obtain ⟨⟨b0, b1⟩, c0, c1⟩ := hc
    obtain ⟨i, rfl⟩ := Int.eq_ofNat_of_zero_le c0
    obtain ⟨n, rfl⟩ := Int.eq_ofNat_of_zero_le (show 0 ≤ width by omega)
    obtain ⟨ad, hae, _⟩ := H.out.2.2 (by omega)
    subst hae
    have hl : ((xs.drop i).take n).length = n := by rw [List.length_take, List.length_drop]; omega
    have hr := slice_mid H.out i n (by omega) ad rfl
    have NC := fun (cap' : Nat) (w' : World) (h' : Row .u8 w' (some (ad.add i)) ((xs.drop i).take n)) => of_calls (some (ad.add i)) cap' _ w' h' (by omega)
    rw [hl] at NC
    have NN := Lib.hid NC; clear NC
    have HR := Lib.hid hr; clear hr hl
    go_enter Tryd.func22, Tryd.ntmps22
    go_wp2_with (first | (go_at_call 11; (with_reducible refine (NN.out _ _ HR.out).mono ?_); rintro e w' ⟨rfl, rfl⟩))
    go_ret2
    exact ⟨ret_two (by rw [E.out]; simp), rfl⟩
  · have e : atS xs at_ width = (0, false) := by unfold atS; rw [if_neg]; exact fun h => hc ⟨of_decide_eq_true h.1, h.2.1, h.2.2⟩
    have E := Lib.hid e; clear e
    have hd : width < 1 ∨ (1 ≤ width ∧ 8 < width) ∨ (1 ≤ width ∧ width ≤ 8 ∧ at_ < 0) ∨ (1 ≤ width ∧ width ≤ 8 ∧ 0 ≤ at_ ∧ (xs.length : Int) < at_) ∨ (1 ≤ width ∧ width ≤ 8 ∧ 0 ≤ at_ ∧ at_ ≤ xs.length ∧ (xs.length : Int) - at_ < width) := by omega
    clear hc
    rcases hd with hd | ⟨h1, h2⟩ | ⟨h1, h2, h3⟩ | ⟨h1, h2, h3, h4⟩ | ⟨h1, h2, h3, h4, h5⟩ <;> (
      go_enter Tryd.func22, Tryd.ntmps22
      go_wp2
      go_ret2
      exact ⟨ret_two (by rw [E.out]), rfl⟩)
set_option maxHeartbeats 4000000 in
theorem puts_walk (a : Option Addr) (cap : Nat) (xs0 : List Int) (n width at_ : Int) (w : World) (hc : xs0.length ≤ cap) (hm : cap ≤ 9223372036854775807) (h : Row .u8 w a xs0) (hn : 0 ≤ n ∧ n ≤ 18446744073709551615)
    (hwd : I64 width) (hat : I64 at_) (hT : Dig w) :
    Calls Tryd.prog 6 #[.slice a xs0.length cap, .int .u64 n, .int .i64 width, .int .i64 at_] w fun e w' => e = .returned (.bool true) ∧ Below w.heap.size w w' := by
  have FA := Lib.hid (few_calls a cap xs0 w h hc hm)
  have hx := h.take 200
  have hlx : (xs0.take 200).length ≤ 200 := List.length_take_le _ _
  have hcx : (xs0.take 200).length ≤ cap := by rw [List.length_take]; omega
  clear h hc
  generalize xs0.take 200 = xs at *
  have A1 := Lib.hid (at_calls a cap xs at_ width w hx hcx hm hat hwd)
  have A2 := Lib.hid (rat_calls a cap xs at_ width w hx hcx hm hat hwd)
  generalize (atS xs at_ width).1 = r at *
  generalize (atS xs at_ width).2 = ok at *
  have PC := Lib.hid (put_calls a cap xs n width w.drew hx (by omega) hn.1 hn.2)
  have NC := Lib.hid (fun w => num_calls n width w hn.1 hn.2 hwd)
  have nl := numS_len width n
  have JC := Lib.hid (fun (w1 : World) (hb : Below w.heap.size w w1) na nc (hr : Row .u8 w1 na (numS width n)) => join_calls (some ⟨w1.heap.size, 0, none⟩) 2 [xs, numS width n] _ (rowS_two (E := 23) (cap := cap) (cap' := nc) (hx.below hb) hr) (by simp; omega))
  simp only [List.length_cons, List.length_nil, List.flatten_cons, List.flatten_nil, List.append_nil] at JC
  have kc := fun (w : World) (base : Nat) (v : Value) (h : Own .u8 5 w base v (xs ++ numS width n)) => own_str (P := Tryd.prog) 23 5 9 Tryd.underlying23 Tryd.underlying5 Tryd.underlying9 h
  generalize strOfNums (xs ++ numS width n) = ts at *
  have KC := Lib.hid kc; clear kc
  have HT := Lib.hid hT; clear hT
  obtain ⟨w0, w1⟩ := hwd
  obtain ⟨a0, a1⟩ := hat
  obtain ⟨n0, n1⟩ := hn
  clear hx
  go_enter Tryd.func6, Tryd.ntmps6
  go_wp2_with (first
    | (go_at_call 15; (with_reducible refine (FA.out).mono ?_); rintro e w' ⟨rfl, rfl⟩)
    | (go_at_call 21; (with_reducible refine (A1.out).mono ?_); rintro e w' ⟨rfl, rfl⟩)
    | (go_at_call 22; (with_reducible refine (A2.out).mono ?_); rintro e w' ⟨rfl, rfl⟩))
  go_region_held_law (fun w' => Below w.heap.size w w')
    (first | exact HB4.out | exact HB3.out | exact below_alloc HB2.out _ | exact HB2.out | exact HB1.out | exact below_drew (Below.refl _ _))
    (first
      | (go_at_call 8; (with_reducible refine (PC.out).mono ?_); rintro e w1 ⟨v1, rfl, ho, hb⟩; have hcv1 := KC.out _ _ _ ho; have HO1 := Lib.hid ho; have HB1 := Lib.hid (below_step (below_drew (Below.refl w.heap.size w)) hb); clear ho hb)
      | (go_at_call 12; (with_reducible refine (NC.out _).mono ?_); rintro e w2 ⟨v, rfl, ho, hb⟩; obtain ⟨na, nc, hv, _, _, hr, _, _⟩ := ho.form; rw [hv]; have HO12 := Lib.hid (HO1.out.below hb); have hcv2 := KC.out _ _ _ HO12.out; have hcv3 := fun o => KC.out _ _ _ (HO12.out.alloc o); have HB2 := Lib.hid (below_step HB1.out hb); have HR2 := Lib.hid hr; clear ho hb hr hv)
      | (go_at_call 23; (with_reducible refine (JC.out _ HB2.out _ _ HR2.out).mono ?_); rintro e w3 ⟨v3, rfl, ho, hb⟩; have hcv4 := KC.out _ _ _ ho; have hcv5 := KC.out _ _ _ ((HO12.out.alloc _).below hb); have HB3 := Lib.hid (below_step (below_alloc HB2.out _) hb); clear ho hb)
      | (go_at_call 14; (with_reducible refine (awake_calls _ (HT.out.below HB3.out)).mono ?_); rintro e w4 ⟨rfl, hb⟩; have HB4 := Lib.hid (below_step HB3.out hb); clear hb))
  all_goals go_wp2
  all_goals go_ret
  all_goals exact ⟨rfl, HB4.out⟩
end Go.Proofs.YthdknlnbpedlpaaDoor.Ct
