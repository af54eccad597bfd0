import Derived.Test.YtfmmjkacloaloaaDoorLaw04C
import Derived.Test.YtfmmjkacloaloaaDoorCrcTurnV
/-! Chapter 04: CrcTurns. -/
namespace Go.Proofs.YtfmmjkacloaloaaDoor.Ct
open Go.RowKit
set_option linter.unusedVariables false
set_option linter.unusedSimpArgs false
theorem apartS_bd (xs ys : List Int) (hl : xs.length ≤ 1000) : 0 ≤ (apartS xs ys).1 + 10000 ∧ (apartS xs ys).1 ≤ 10000 := by
  have := flS_bd xs ys (8 * xs.length)
  unfold apartS
  split
  · exact ⟨by decide, by decide⟩
  · split
    · exact ⟨by decide, by decide⟩
    · dsimp only; omega
set_option maxHeartbeats 4000000 in
theorem turns_walk (a : Option Addr) (cap : Nat) (xs0 : List Int) (b : Option Addr) (cap' : Nat) (ys0 : List Int) (at_ t : Int) (w : World) (hc : xs0.length ≤ cap) (hm : cap ≤ 9223372036854775807) (h : Row .u8 w a xs0)
    (hc' : ys0.length ≤ cap') (hm' : cap' ≤ 9223372036854775807) (h' : Row .u8 w b ys0)
    (hat : -9223372036854775808 ≤ at_ ∧ at_ ≤ 9223372036854775807) (ht : 0 ≤ t ∧ t ≤ 4294967295) (hT : Tab w) :
    Calls Tryd.prog 6 #[.slice a xs0.length cap, .slice b ys0.length cap', .int .i64 at_, .int .u32 t] w fun e w' => e = .returned (.bool true) ∧ Below w.heap.size w w' := by
  obtain ⟨t, rfl⟩ := Int.eq_ofNat_of_zero_le ht.1
  have FA := Lib.hid (few_calls a cap xs0 w h hc hm)
  have FB := Lib.hid (few_calls b cap' ys0 w h' hc' hm')
  have hx := h.take 200
  have hy := h'.take 200
  have hlx : (xs0.take 200).length ≤ 200 := List.length_take_le _ _
  have hly : (ys0.take 200).length ≤ 200 := List.length_take_le _ _
  have HB0 := Lib.hid (Below.refl w.heap.size w)
  clear h h' hc hc'
  generalize xs0.take 200 = xs at *
  generalize ys0.take 200 = ys at *
  have hwf : ∀ x ∈ xs, 0 ≤ x ∧ x ≤ 255 := fun x h => bounds_u8 (hx.2.1 x h)
  have hzl := (turnI_props hwf at_ t 32).1
  have hzl2 : (turnS xs at_ t).length ≤ 200 := by show (turnI xs at_ t 32).length ≤ 200; omega
  have LA := turn_apart hwf at_ t
  have CA := Lib.hid (fun w' (hb : Below w.heap.size w w') => capart_calls a b cap cap' xs ys w' (hx.below hb) (hy.below hb) (by omega) (by omega))
  have RA := Lib.hid (fun w' (hb : Below w.heap.size w w') => rapart_calls a b cap cap' xs ys w' (hx.below hb) (hy.below hb) (by omega) (by omega))
  have RT := Lib.hid (fun w' (hb : Below w.heap.size w w') => rturn_calls a cap xs at_ t w' (hx.below hb) (by omega) hat (by omega))
  have CT := Lib.hid (fun w' (hb : Below w.heap.size w w') => cturn_calls a cap xs at_ t w' (hx.below hb) (by omega) hat (by omega))
  have CZ := Lib.hid (fun w' (hb : Below w.heap.size w w') va vc (hr : Row .u8 w' va (turnS xs at_ t)) => capart_calls a va cap vc xs (turnS xs at_ t) w' (hx.below hb) hr (by omega) (by omega))
  have JW := Lib.hid (fun w' (hb : Below w.heap.size w w') => awake_calls w' (hT.below hb))
  have KC := Lib.hid (fun (w : World) (a : Option Addr) (cap : Nat) (h : Row .u8 w a (turnS xs at_ t)) => run_str (P := Tryd.prog) 22 5 9 Tryd.underlying22 Tryd.underlying5 Tryd.underlying9 a cap (turnS xs at_ t) h)
  have bz := apartS_bd xs (turnS xs at_ t) (by omega)
  have by_ := apartS_bd xs ys (by omega)
  obtain ⟨LA1, LA2⟩ := LA
  obtain ⟨a0, a1⟩ := hat
  clear hwf hT hzl hx hy
  generalize apartS xs (turnS xs at_ t) = pz at *
  generalize apartS xs ys = py at *
  generalize turnS xs at_ t = zs at *
  obtain ⟨nz, kz⟩ := pz
  obtain ⟨ny, ky⟩ := py
  dsimp only at LA1 LA2 bz by_ CA RA CZ
  subst LA1
  obtain ⟨bz0, bz1⟩ := bz
  obtain ⟨by0, by1⟩ := by_
  go_enter Tryd.func6, Tryd.ntmps6
  go_upto_region 5 with (first
    | (go_at_call 7; (with_reducible refine (FA.out).mono ?_); rintro e w' ⟨rfl, rfl⟩)
    | (go_at_call 7; (with_reducible refine (FB.out).mono ?_); rintro e w' ⟨rfl, rfl⟩)
    | (go_at_call 19; (with_reducible refine (CA.out _ HB0.out).mono ?_); rintro e w1 ⟨rfl, m, hw1⟩; have HB1 := Lib.hid (show Below w.heap.size w w1 from by rw [← hw1]; exact below_drewN HB0.out m); clear hw1)
    | (go_at_call 20; (with_reducible refine (RA.out _ HB1.out).mono ?_); rintro e w' ⟨rfl, rfl⟩)
    | (go_at_call 18; (with_reducible refine (RT.out _ HB1.out).mono ?_); rintro e w2 ⟨v, rfl, ho, hb⟩; obtain ⟨za, zc, rfl, hzc, hzm, hr, _, _⟩ := ho.form; have HZ2 := Lib.hid hr; have HB2 := Lib.hid (below_step HB1.out hb); clear ho hb hr)
    | (go_at_call 19; (with_reducible refine (CZ.out _ HB2.out _ _ HZ2.out).mono ?_); rintro e w3 ⟨rfl, m, hw3⟩; have HB3 := Lib.hid (show Below w.heap.size w w3 from by rw [← hw3]; exact below_drewN HB2.out m); clear hw3))
  clear FA FB CA RA CZ
  go_region_held (fun _ => True) (exact trivial)
    (first
      | (go_at_call 21; (with_reducible refine (CT.out _ (below_drew HB3.out)).mono ?_); rintro e w5 ⟨v, rfl, ho, hb⟩; obtain ⟨na5, nc5, hv, _, _, hr, _, _⟩ := ho.form; rw [hv]; have hcv5 := KC.out w5 na5 nc5 hr; have HR5 := Lib.hid hr; have HB5 := Lib.hid (below_step (below_drew HB3.out) hb); clear ho hb hr hv)
      | (go_at_call 18; (with_reducible refine (RT.out _ HB5.out).mono ?_); rintro e w6 ⟨v, rfl, ho, hb⟩; obtain ⟨na6, nc6, hv, _, _, hr, _, _⟩ := ho.form; rw [hv]; have hcv6 := KC.out w6 na6 nc6 hr; have hcv56 := KC.out w6 na5 nc5 (HR5.out.below hb); have HB6 := Lib.hid (below_step HB5.out hb); clear ho hb hr hv)
      | (go_at_call 13; (with_reducible refine (JW.out _ HB6.out).mono ?_); rintro e w7 ⟨rfl, hb⟩; have HB7 := Lib.hid (below_step HB6.out hb); clear hb))
  all_goals go_wp2
  all_goals go_ret
  all_goals exact ⟨rfl, HB7.out⟩
end Go.Proofs.YtfmmjkacloaloaaDoor.Ct
