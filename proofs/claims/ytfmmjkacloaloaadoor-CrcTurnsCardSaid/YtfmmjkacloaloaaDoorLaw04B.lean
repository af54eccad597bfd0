import Derived.Test.YtfmmjkacloaloaaDoorLaw04A
import Derived.Test.YtfmmjkacloaloaaDoorCrcC
import Derived.Deep.RegionHeld
/-! Chapter 04: CrcSeals. -/
namespace Go.Proofs.YtfmmjkacloaloaaDoor.Ct
open Go.RowKit
set_option linter.unusedVariables false
set_option linter.unusedSimpArgs false
theorem numS_four (s : Int) : numS 4 s = leS 4 s := by unfold numS; rw [if_pos (show wideS 4 = true from rfl)]; rfl
theorem openS_sealS (xs : List Int) : openS (sealS xs) = (xs, 0) := by
  have hb := w32_bd (sumC xs)
  have hl : (sealS xs).length = xs.length + 4 := by unfold sealS; rw [List.length_append, numS_four, leS_len]
  have ht : (sealS xs).take xs.length = xs := by unfold sealS; simp
  have hd : (sealS xs).drop xs.length = leS 4 ((sumC xs).toNat : Int) := by unfold sealS; rw [numS_four]; simp
  have hn : (sealS xs).length - 4 = xs.length := by omega
  have := openS_ok (xs := sealS xs) (by omega) (by rw [hn, ht, hd, ofS_leS]; exact Int.emod_eq_of_lt hb.1 (by have := hb.2; show _ < (256:Int)^4; omega))
  rw [this, hn, ht]
theorem Opened.is {w w' : World} {xs zs : List Int} {k : Int} {e : Ending} (h : Opened w w' xs e) (he : openS xs = (zs, k)) :
    ∃ a c, e = .returned (.tuple #[.slice a zs.length c, .int .i64 k]) ∧ Row .u8 w' a zs ∧ zs.length ≤ c ∧ c ≤ 9223372036854775807 := by
  unfold Opened at h; rw [he] at h; exact h
set_option maxHeartbeats 4000000 in
theorem seals_walk (a : Option Addr) (cap : Nat) (xs0 : List Int) (b : Option Addr) (cap' : Nat) (ys0 : List Int) (w : World) (hc : xs0.length ≤ cap) (hm : cap ≤ 9223372036854775807) (h : Row .u8 w a xs0)
    (hc' : ys0.length ≤ cap') (hm' : cap' ≤ 9223372036854775807) (h' : Row .u8 w b ys0) (hT : Tab w) :
    Calls Tryd.prog 4 #[.slice a xs0.length cap, .slice b ys0.length cap'] w fun e w' => e = .returned (.bool true) ∧ Below w.heap.size w w' := by
  have FA := Lib.hid (few_calls a cap xs0 w h hc hm)
  have FB := Lib.hid (few_calls b cap' ys0 w h' hc' hm')
  have hx := h.take 200
  have hy := h'.take 200
  have hlx : (xs0.take 200).length ≤ 200 := List.length_take_le _ _
  have hly : (ys0.take 200).length ≤ 200 := List.length_take_le _ _
  have hcx : (xs0.take 200).length ≤ cap := by rw [List.length_take]; omega
  have hcy : (ys0.take 200).length ≤ cap' := by rw [List.length_take]; omega
  have HB0 := Lib.hid (Below.refl w.heap.size w)
  clear h h' hc hc'
  generalize xs0.take 200 = xs at *
  generalize ys0.take 200 = ys at *
  have JS := Lib.hid (fun w' (hb : Below w.heap.size w w') => seal_calls a cap xs w' (hx.below hb) (by omega) (hT.below hb))
  have JR := Lib.hid (fun w' (hb : Below w.heap.size w w') => rseal_calls a cap xs w' (hx.below hb) (by omega))
  have jo := fun w' (hb : Below w.heap.size w w') va vc hr hcap hmm => open_calls va vc (sealS xs) w' hr (by unfold sealS; rw [List.length_append]; have := numS_len 4 ((sumC xs).toNat : Int); omega) hcap hmm (hT.below hb)
  have JY := Lib.hid (fun w' (hb : Below w.heap.size w w') => open_calls b cap' ys w' (hy.below hb) (by omega) hcy hm' (hT.below hb))
  have JZ := Lib.hid (fun w' (hb : Below w.heap.size w w') => ropen_calls b cap' ys w' (hy.below hb) (by omega) hcy hm')
  have EX := Lib.hid (openS_sealS xs)
  obtain ⟨zs, k, hz⟩ : ∃ zs k, openS ys = (zs, k) := ⟨_, _, rfl⟩
  have EY := Lib.hid hz; clear hz
  have JW := Lib.hid (fun w' (hb : Below w.heap.size w w') => awake_calls w' (hT.below hb))
  have HX := Lib.hid hx; clear hx
  have kc := fun (w : World) (a : Option Addr) (cap : Nat) (xs : List Int) (h : Row .u8 w a xs) => run_str (P := Tryd.prog) 22 5 9 Tryd.underlying22 Tryd.underlying5 Tryd.underlying9 a cap xs h
  have kx := fun w a cap h => kc w a cap xs h
  have kz := fun w a cap h => kc w a cap zs h
  have ks := fun w a cap h => kc w a cap (sealS xs) h
  clear kc
  generalize strOfNums xs = tx at *
  generalize strOfNums zs = tz at *
  generalize strOfNums (sealS xs) = ts at *
  have KX := Lib.hid kx; clear kx
  have KZ := Lib.hid kz; clear kz
  have KS := Lib.hid ks; clear ks
  clear hy hT
  generalize sealS xs = ss at *
  have JO := Lib.hid jo; clear jo
  go_enter Tryd.func4, Tryd.ntmps4
  go_wp2_with (first
    | (go_at_call 7; (with_reducible refine (FA.out).mono ?_); rintro e w' ⟨rfl, rfl⟩)
    | (go_at_call 7; (with_reducible refine (FB.out).mono ?_); rintro e w' ⟨rfl, rfl⟩)
    | (go_at_call 15; (with_reducible refine (JS.out _ HB0.out).mono ?_); rintro e w1 ⟨v, rfl, ho, hb⟩; obtain ⟨na, nc, hv, hcap, hmm, hr, _, _⟩ := ho.form; rw [hv]; have HB1 := Lib.hid hb; have OC := Lib.hid (JO.out w1 hb na nc hr hcap hmm); clear ho hb hr hv)
    | (go_at_call 14; (with_reducible refine (OC.out).mono ?_); rintro e w2 ⟨ho, hb⟩; obtain ⟨va, vc, rfl, hr, _, _⟩ := ho.is EX.out; have HRX := Lib.hid hr; have HB2 := Lib.hid (below_step HB1.out hb); clear ho hb hr)
    | (go_at_call 14; (with_reducible refine (JY.out _ HB2.out).mono ?_); rintro e w3 ⟨ho, hb⟩; obtain ⟨ya, yc, rfl, hr, _, _⟩ := ho.is EY.out; have HRY := Lib.hid hr; have HRX3 := Lib.hid (HRX.out.below hb); have HB3 := Lib.hid (below_step HB2.out hb); clear ho hb hr)
    | (go_at_call 16; (with_reducible refine (JZ.out _ HB3.out).mono ?_); rintro e w4 ⟨ho, hb⟩; obtain ⟨za, zc, rfl, hr, _, _⟩ := ho.is EY.out; have HRZ4 := Lib.hid hr; have HRX4 := Lib.hid (HRX3.out.below hb); have HRY4 := Lib.hid (HRY.out.below hb); have HB4 := Lib.hid (below_step HB3.out hb); have HX4 := Lib.hid (HX.out.below HB4.out); clear ho hb hr))
  have HS := Lib.hid (fun w' (hb : Below w4.heap.size w4 w') => And.intro (KX.out w' a cap (HX4.out.below hb)) (And.intro (KX.out w' va vc (HRX4.out.below hb)) (And.intro (KZ.out w' ya yc (HRY4.out.below hb)) (KZ.out w' za zc (HRZ4.out.below hb)))))
  go_region_held (fun w' => (convert 22 9 (.slice a xs.length cap)).run Tryd.prog w' = .ok (.string tx) w' ∧ (convert 22 9 (.slice va xs.length vc)).run Tryd.prog w' = .ok (.string tx) w' ∧ (convert 22 9 (.slice ya zs.length yc)).run Tryd.prog w' = .ok (.string tz) w' ∧ (convert 22 9 (.slice za zs.length zc)).run Tryd.prog w' = .ok (.string tz) w')
    (first | exact HS.out _ HB7.out | exact HS.out _ HB6.out | exact HS.out _ HB5.out | exact HS.out _ (below_drew (Below.refl _ _)))
    (first
      | (go_at_call 15; (with_reducible refine (JS.out _ (below_drew HB4.out)).mono ?_); rintro e w5 ⟨v, rfl, ho, hb⟩; obtain ⟨na5, nc5, hv, _, _, hr, _, _⟩ := ho.form; rw [hv]; have hcv5 := KS.out w5 na5 nc5 hr; have HR5 := Lib.hid hr; have HB5 := Lib.hid (below_step (below_drew (Below.refl w4.heap.size w4)) hb); clear ho hb hr hv)
      | (go_at_call 17; (with_reducible refine (JR.out _ (below_step HB4.out HB5.out)).mono ?_); rintro e w6 ⟨v, rfl, ho, hb⟩; obtain ⟨na6, nc6, hv, _, _, hr, _, _⟩ := ho.form; rw [hv]; have hcv6 := KS.out w6 na6 nc6 hr; have hcv56 := KS.out w6 na5 nc5 (HR5.out.below hb); have HB6 := Lib.hid (below_step HB5.out hb); clear ho hb hr hv)
      | (go_at_call 13; (with_reducible refine (JW.out _ (below_step HB4.out HB6.out)).mono ?_); rintro e w7 ⟨rfl, hb⟩; have HB7 := Lib.hid (below_step HB6.out hb); clear hb))
  all_goals go_wp2
  all_goals go_ret
  all_goals exact ⟨rfl, below_step HB4.out HB7.out⟩
end Go.Proofs.YtfmmjkacloaloaaDoor.Ct
