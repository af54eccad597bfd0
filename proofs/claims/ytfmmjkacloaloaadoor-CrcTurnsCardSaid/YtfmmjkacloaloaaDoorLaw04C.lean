import Derived.Test.YtfmmjkacloaloaaDoorLaw04B
import Derived.Test.YtfmmjkacloaloaaDoorCrcTurnW
import Derived.BigQuiet
import Derived.Deep.RegionWith
import Derived.Deep.DeepCutAuto
/-! Chapter 04: CrcBursts. -/
namespace Go.Proofs.YtfmmjkacloaloaaDoor.Ct
open Go.RowKit
set_option linter.unusedVariables false
set_option linter.unusedSimpArgs false
theorem str_ne {xs ys : List Int} (hx : ∀ x ∈ xs, 0 ≤ x ∧ x ≤ 255) (hy : ∀ x ∈ ys, 0 ≤ x ∧ x ≤ 255) (h : xs ≠ ys) : strOfNums xs ≠ strOfNums ys := by
  intro e
  have := congrArg bs e
  rw [bs_strOf hx, bs_strOf hy] at this
  exact h this
theorem sealS_wf {xs : List Int} (hx : ∀ x ∈ xs, 0 ≤ x ∧ x ≤ 255) : ∀ x ∈ sealS xs, 0 ≤ x ∧ x ≤ 255 := by
  intro x h
  unfold sealS at h
  rcases List.mem_append.1 h with h | h
  · exact hx x h
  · rw [numS_four] at h; exact leS_wf _ _ x h
/-- what a turn makes of a sum and of what is sealed. -/
theorem bursts_law {xs : List Int} (hx : ∀ x ∈ xs, 0 ≤ x ∧ x ≤ 255) (at_ t : Nat) :
    ((turnS xs at_ t = xs) ∨ (strOfNums (turnS xs at_ t) ≠ strOfNums xs ∧ ((sumC xs).toNat : Int) ≠ ((sumC (turnS xs at_ t)).toNat : Int))) ∧
    ((turnS (sealS xs) at_ t = sealS xs ∧ openS (turnS (sealS xs) at_ t) = (xs, 0)) ∨ (strOfNums (turnS (sealS xs) at_ t) ≠ strOfNums (sealS xs) ∧ openS (turnS (sealS xs) at_ t) = ([], 40))) := by
  constructor
  · by_cases e : turnS xs at_ t = xs
    · exact .inl e
    · refine .inr ⟨str_ne (turnI_props hx at_ t 32).2 hx e, fun h => e ((turn_sum hx at_ t).1 ?_)⟩
      apply BitVec.eq_of_toNat_eq
      omega
  · rcases open_turn (sealS_wf hx) (openS_sealS xs) at_ t with h | h
    · exact .inl h
    · exact .inr ⟨str_ne (turnI_props (sealS_wf hx) at_ t 32).2 (sealS_wf hx) h.1, h.2⟩
theorem ba_ne {x y : ByteArray} (h : x ≠ y) : (x.toList == y.toList) = false := beq_eq_false_iff_ne.2 fun e => h (by
  rw [ByteArray.toList_eq, ByteArray.toList_eq] at e
  exact ByteArray.ext (Array.toList_inj.1 e))
theorem row_alloc {k : IntKind} {w : World} {a : Option Addr} {xs : List Int} {o : Obj} (h : Row k w a xs) : Row k (w.alloc o) a xs := h.below ((Below.refl _ _).alloc (Nat.le_refl _) _)
set_option maxHeartbeats 4000000 in
theorem bursts_walk (a : Option Addr) (cap : Nat) (xs0 : List Int) (at_ t : Int) (w : World) (hc : xs0.length ≤ cap) (hm : cap ≤ 9223372036854775807) (h : Row .u8 w a xs0)
    (hat : 0 ≤ at_ ∧ at_ ≤ 65535) (ht : 0 ≤ t ∧ t ≤ 4294967295) (hT : Tab w) :
    Calls Tryd.prog 5 #[.slice a xs0.length cap, .int .u16 at_, .int .u32 t] w fun e w' => e = .returned (.bool true) ∧ Below w.heap.size w w' := by
  obtain ⟨q, rfl⟩ := Int.eq_ofNat_of_zero_le hat.1
  obtain ⟨t, rfl⟩ := Int.eq_ofNat_of_zero_le ht.1
  have hq := hat.2
  clear hat
  have FA := Lib.hid (few_calls a cap xs0 w h hc hm)
  have hx := h.take 200
  have hlx : (xs0.take 200).length ≤ 200 := List.length_take_le _ _
  have hcx : (xs0.take 200).length ≤ cap := by rw [List.length_take]; omega
  have HB0 := Lib.hid (Below.refl w.heap.size w)
  clear h hc
  generalize xs0.take 200 = xs at *
  have hwf : ∀ x ∈ xs, 0 ≤ x ∧ x ≤ 255 := fun x h => bounds_u8 (hx.2.1 x h)
  have hsl : (sealS xs).length ≤ 204 := by unfold sealS; rw [List.length_append, numS_four, leS_len]; omega
  have LW := Lib.hid (bursts_law hwf q t)
  have hyl := (turnI_props hwf q t 32).1
  have hzl := (turnI_props (sealS_wf hwf) q t 32).1
  have RT := Lib.hid (rturn_calls a cap xs q t w hx (by omega) ⟨by omega, by omega⟩ (by omega))
  have JR := Lib.hid (fun w' (hb : Below w.heap.size w w') => rseal_calls a cap xs w' (hx.below hb) (by omega))
  have JT := Lib.hid (fun w' va vc (hr : Row .u8 w' va (sealS xs)) => rturn_calls va vc (sealS xs) q t w' hr (by omega) ⟨by omega, by omega⟩ (by omega))
  have HT := Lib.hid hT
  have JO := Lib.hid (fun w' (hb : Below w.heap.size w w') va vc hr hcap hmm => open_calls va vc (turnS (sealS xs) q t) w' hr (by show (turnI _ _ _ _).length ≤ _; omega) hcap hmm (hT.below hb))
  have JA := Lib.hid (fun w' (hb : Below w.heap.size w w') E g hg => csum_one a cap xs E w' g hg (hx.below hb) (hT.below hb))
  have JB := Lib.hid (fun w' (hb : Below w.heap.size w w') va vc hr E g hg => csum_one va vc (turnS xs q t) E w' g hg hr (hT.below hb))
  have JW := Lib.hid (fun w' (hb : Below w.heap.size w w') => awake_calls w' (hT.below hb))
  have HX := Lib.hid hx; clear hx
  have KC := Lib.hid (fun (w : World) (a : Option Addr) (cap : Nat) (xs : List Int) (h : Row .u8 w a xs) => run_str (P := Tryd.prog) 22 5 9 Tryd.underlying22 Tryd.underlying5 Tryd.underlying9 a cap xs h)
  clear hwf hT
  have hyl2 : (turnS xs q t).length = xs.length := hyl
  have hzl2 : (turnS (sealS xs) q t).length = (sealS xs).length := hzl
  clear hyl hzl
  have hyl3 : (turnS xs q t).length ≤ 204 := by omega
  have hzl3 : (turnS (sealS xs) q t).length ≤ 204 := by omega
  clear hyl2 hzl2
  generalize turnS (sealS xs) q t = zs at *
  generalize sealS xs = ss at *
  generalize turnS xs q t = ys at *
  go_enter Tryd.func5, Tryd.ntmps5
  go_upto_region 5 with (first
    | (go_at_call 7; (with_reducible refine (FA.out).mono ?_); rintro e w' ⟨rfl, rfl⟩)
    | (go_at_call 18; (with_reducible refine (RT.out).mono ?_); rintro e w1 ⟨v, rfl, ho, hb⟩; obtain ⟨ya, yc, rfl, hyc, hym, hr, _, _⟩ := ho.form; have HY1 := Lib.hid hr; have HB1 := Lib.hid hb; clear ho hb hr)
    | (go_at_call 17; (with_reducible refine (JR.out _ HB1.out).mono ?_); rintro e w2 ⟨v, rfl, ho, hb⟩; obtain ⟨sa, sc, rfl, hsc, hsm, hr, _, _⟩ := ho.form; have HS2 := Lib.hid hr; have HB2 := Lib.hid (below_step HB1.out hb); have HY2 := Lib.hid (HY1.out.below hb); clear ho hb hr)
    | (go_at_call 18; (with_reducible refine (JT.out _ _ _ HS2.out).mono ?_); rintro e w3 ⟨v, rfl, ho, hb⟩; obtain ⟨za, zc, rfl, hzc, hzm, hr, _, _⟩ := ho.form; have HZ3 := Lib.hid hr; have HB3 := Lib.hid (below_step HB2.out hb); have HY3 := Lib.hid (HY2.out.below hb); have HS3 := Lib.hid (HS2.out.below hb); clear ho hb hr))
  have OC := Lib.hid (JO.out w3 HB3.out za zc HZ3.out hzc hzm)
  clear JT RT JR FA JO
  obtain ⟨LY, LZ⟩ := LW.out
  obtain ⟨os, ok, hos⟩ : ∃ os ok, openS zs = (os, ok) := ⟨_, _, rfl⟩
  rw [hos] at LZ
  have HE := Lib.hid hos
  have HLY := Lib.hid LY; clear LY
  have HLZ := Lib.hid LZ; clear LZ LW hos
  go_upto_region 6 with (go_at_call 14; (with_reducible refine (OC.out).mono ?_); rintro e w4 ⟨ho, hb⟩; obtain ⟨va, vc, rfl, -, -, -⟩ := ho.is HE.out; have HB4 := Lib.hid (below_step HB3.out hb); have HY4 := Lib.hid (HY3.out.below hb); have HS4 := Lib.hid (HS3.out.below hb); have HZ4 := Lib.hid (HZ3.out.below hb); clear ho hb)
  clear OC HE HB1 HY1 HB2 HS2 HY2 HB3 HZ3 HY3 HS3
  have kx := KC.out w4.drew a cap xs ((HX.out.below HB4.out).below (below_drew (Below.refl _ _)))
  have ky := KC.out w4.drew ya yc ys HY4.out
  have ks := KC.out w4.drew sa sc ss HS4.out
  have kz := KC.out w4.drew za zc zs HZ4.out
  rcases HLY.out with hs | ⟨hs, hsum⟩
  · subst hs
    rcases HLZ.out with ⟨hz, ho⟩ | ⟨hz, ho⟩
    · subst hz
      cases ho
      go_region
      have HBd := Lib.hid (below_drew HB4.out)
      have HYd := Lib.hid (show Row .u8 w4.drew ya ys from HY4.out)
      clear kx ky ks kz
      generalize w4.drew = wd at *
      go_wp2_with (first
        | (go_at_call 9; (with_reducible refine (JA.out _ (by repeat (first | exact HBd.out | apply below_alloc)) _ _ (by simp)).mono ?_); rintro e w' ⟨rfl, rfl⟩)
        | (go_at_call 9; (with_reducible refine (JB.out _ (by repeat (first | exact HBd.out | apply below_alloc)) _ _ (by repeat (first | exact HYd.out | apply row_alloc)) _ _ (by simp)).mono ?_); rintro e w' ⟨rfl, rfl⟩)
        | (go_at_call 13; (with_reducible refine (JW.out _ (by repeat (first | exact HBd.out | apply below_alloc))).mono ?_); rintro e w5 ⟨rfl, hb⟩; have HB5 := Lib.hid hb; clear hb))
      go_ret
      exact ⟨rfl, below_step (by repeat (first | exact HBd.out | apply below_alloc)) HB5.out⟩
    · have hze : ((strOfNums ss).toList == (strOfNums zs).toList) = false := ba_ne (Ne.symm hz)
      clear hz
      cases ho
      go_region
      have HBd := Lib.hid (below_drew HB4.out)
      have HYd := Lib.hid (show Row .u8 w4.drew ya ys from HY4.out)
      clear kx ky ks kz
      generalize w4.drew = wd at *
      go_wp2_with (first
        | (go_at_call 9; (with_reducible refine (JA.out _ (by repeat (first | exact HBd.out | apply below_alloc)) _ _ (by simp)).mono ?_); rintro e w' ⟨rfl, rfl⟩)
        | (go_at_call 9; (with_reducible refine (JB.out _ (by repeat (first | exact HBd.out | apply below_alloc)) _ _ (by repeat (first | exact HYd.out | apply row_alloc)) _ _ (by simp)).mono ?_); rintro e w' ⟨rfl, rfl⟩)
        | (go_at_call 13; (with_reducible refine (JW.out _ (by repeat (first | exact HBd.out | apply below_alloc))).mono ?_); rintro e w5 ⟨rfl, hb⟩; have HB5 := Lib.hid hb; clear hb))
      go_ret
      exact ⟨rfl, below_step (by repeat (first | exact HBd.out | apply below_alloc)) HB5.out⟩
  · rcases HLZ.out with ⟨hz, ho⟩ | ⟨hz, ho⟩
    · have hbe : ((strOfNums xs).toList == (strOfNums ys).toList) = false := ba_ne (Ne.symm hs)
      have hse : (((sumC xs).toNat : Int) == ((sumC ys).toNat : Int)) = false := beq_eq_false_iff_ne.2 hsum
      clear hs hsum
      subst hz
      cases ho
      go_region
      have HBd := Lib.hid (below_drew HB4.out)
      have HYd := Lib.hid (show Row .u8 w4.drew ya ys from HY4.out)
      clear kx ky ks kz
      generalize w4.drew = wd at *
      have hwx := w32_bd (sumC xs)
      have hwy := w32_bd (sumC ys)
      generalize ((sumC xs).toNat : Int) = sx at *
      generalize ((sumC ys).toNat : Int) = sy at *
      go_wp2_with (first
        | (go_at_call 9; (with_reducible refine (JA.out _ (by repeat (first | exact HBd.out | apply below_alloc)) _ _ (by simp)).mono ?_); rintro e w' ⟨rfl, rfl⟩)
        | (go_at_call 9; (with_reducible refine (JB.out _ (by repeat (first | exact HBd.out | apply below_alloc)) _ _ (by repeat (first | exact HYd.out | apply row_alloc)) _ _ (by simp)).mono ?_); rintro e w' ⟨rfl, rfl⟩)
        | (go_at_call 13; (with_reducible refine (JW.out _ (by repeat (first | exact HBd.out | apply below_alloc))).mono ?_); rintro e w5 ⟨rfl, hb⟩; have HB5 := Lib.hid hb; clear hb))
      go_ret
      exact ⟨rfl, below_step (by repeat (first | exact HBd.out | apply below_alloc)) HB5.out⟩
    · have hbe : ((strOfNums xs).toList == (strOfNums ys).toList) = false := ba_ne (Ne.symm hs)
      have hse : (((sumC xs).toNat : Int) == ((sumC ys).toNat : Int)) = false := beq_eq_false_iff_ne.2 hsum
      clear hs hsum
      have hze : ((strOfNums ss).toList == (strOfNums zs).toList) = false := ba_ne (Ne.symm hz)
      clear hz
      cases ho
      go_region
      have HBd := Lib.hid (below_drew HB4.out)
      have HYd := Lib.hid (show Row .u8 w4.drew ya ys from HY4.out)
      clear kx ky ks kz
      generalize w4.drew = wd at *
      have hwx := w32_bd (sumC xs)
      have hwy := w32_bd (sumC ys)
      generalize ((sumC xs).toNat : Int) = sx at *
      generalize ((sumC ys).toNat : Int) = sy at *
      go_wp2_with (first
        | (go_at_call 9; (with_reducible refine (JA.out _ (by repeat (first | exact HBd.out | apply below_alloc)) _ _ (by simp)).mono ?_); rintro e w' ⟨rfl, rfl⟩)
        | (go_at_call 9; (with_reducible refine (JB.out _ (by repeat (first | exact HBd.out | apply below_alloc)) _ _ (by repeat (first | exact HYd.out | apply row_alloc)) _ _ (by simp)).mono ?_); rintro e w' ⟨rfl, rfl⟩)
        | (go_at_call 13; (with_reducible refine (JW.out _ (by repeat (first | exact HBd.out | apply below_alloc))).mono ?_); rintro e w5 ⟨rfl, hb⟩; have HB5 := Lib.hid hb; clear hb))
      go_ret
      exact ⟨rfl, below_step (by repeat (first | exact HBd.out | apply below_alloc)) HB5.out⟩
end Go.Proofs.YtfmmjkacloaloaaDoor.Ct
