import Derived.Test.YtkncgbjoaoobjaaDoorLaw09A
/-! Chapter 09: PageRots. -/
namespace Go.Proofs.YtkncgbjoaoobjaaDoor.Ct
open Go.RowKit
set_option linter.unusedVariables false
set_option linter.unusedSimpArgs false
theorem numS_four (s : Int) : numS 4 s = leS 4 s := by unfold numS; rw [if_pos (show wideS 4 = true from rfl)]; rfl
theorem sealS_len (xs : List Int) : (sealS xs).length = xs.length + 4 := by unfold sealS; rw [List.length_append, numS_four, leS_len]
theorem openS_sealS (xs : List Int) : openS (sealS xs) = (xs, 0) := by
  have hb := w32_bd (sumC xs)
  have hl := sealS_len xs
  have ht : (sealS xs).take xs.length = xs := by unfold sealS; simp
  have hd : (sealS xs).drop xs.length = leS 4 ((sumC xs).toNat : Int) := by unfold sealS; rw [numS_four]; simp
  have hn : (sealS xs).length - 4 = xs.length := by omega
  have := openS_ok (xs := sealS xs) (by omega) (by rw [hn, ht, hd, ofS_leS]; exact Int.emod_eq_of_lt hb.1 (by have := hb.2; show _ < (256:Int)^4; omega))
  rw [this, hn, ht]
theorem sealS_wf {xs : List Int} (hx : ∀ x ∈ xs, 0 ≤ x ∧ x ≤ 255) : ∀ x ∈ sealS xs, 0 ≤ x ∧ x ≤ 255 := by
  intro x h
  unfold sealS at h
  rcases List.mem_append.1 h with h | h
  · exact hx x h
  · rw [numS_four] at h; exact leS_wf _ _ x h
theorem page_head {k : Int} {xs : List Int} : (pageS k xs).getD 0 0 = 213 ∧ (pageS k xs).getD 1 0 = k ∧ (pageS k xs).drop 2 = xs ++ List.replicate (58 - xs.length) 0 := by
  unfold pageS
  exact ⟨rfl, rfl, rfl⟩
theorem getP_page {k : Int} {xs : List Int} (hk : 1 ≤ k ∧ k ≤ 7) (hl : xs.length ≤ 58) : getP (sealS (pageS k xs)) k = (xs ++ List.replicate (58 - xs.length) 0, 0) := by
  have ho : openP (sealS (pageS k xs)) = (pageS k xs, 0) := by
    unfold openP; rw [if_neg (by rw [sealS_len, pageS_len hl]; decide), openS_sealS]
  unfold getP
  rw [ho, if_neg (by simp), if_pos ⟨hk, page_head.1, page_head.2.1⟩]
  exact congrArg (fun x => (x, (0 : Int))) page_head.2.2
theorem rots_law {k : Int} {xs : List Int} (hk : 1 ≤ k ∧ k ≤ 7) (hl : xs.length ≤ 58) (hx : ∀ x ∈ xs, (Lit.int .u8 x).wf = true) (at_ t : Nat) :
    (turnS (sealS (pageS k xs)) at_ t = sealS (pageS k xs) ∧ (getP (turnS (sealS (pageS k xs)) at_ t) k).2 = 0) ∨
    (strOfNums (turnS (sealS (pageS k xs)) at_ t) ≠ strOfNums (sealS (pageS k xs)) ∧ getP (turnS (sealS (pageS k xs)) at_ t) k = ([], 40) ∧ kindP (turnS (sealS (pageS k xs)) at_ t) = 0) := by
  have hw : ∀ x ∈ sealS (pageS k xs), 0 ≤ x ∧ x ≤ 255 := sealS_wf (fun x h => bounds_u8 (pageS_wf ⟨by omega, by omega⟩ hx x h))
  have hp := turnI_props hw (at_ : Int) t 32
  have hlen : (turnS (sealS (pageS k xs)) at_ t).length = 64 := by
    show (turnI _ _ _ _).length = 64
    rw [hp.1, sealS_len, pageS_len hl]
  rcases open_turn hw (openS_sealS (pageS k xs)) at_ t with ⟨h1, h2⟩ | ⟨h1, h2⟩
  · refine .inl ⟨h1, ?_⟩
    rw [h1, getP_page hk hl]
  · have ho : openP (turnS (sealS (pageS k xs)) at_ t) = ([], 40) := by unfold openP; rw [if_neg (by omega), h2]
    refine .inr ⟨str_ne hp.2 hw h1, ?_, ?_⟩
    · unfold getP; rw [ho, if_pos (by decide)]
    · unfold kindP; rw [ho, if_pos (by decide)]
set_option maxHeartbeats 4000000 in
theorem rots_walk (kd : Int) (a : Option Addr) (cap : Nat) (xs0 : List Int) (at_ t : Int) (w : World) (hkd : 0 ≤ kd ∧ kd ≤ 255) (hc : xs0.length ≤ cap) (hm : cap ≤ 9223372036854775807) (h : Row .u8 w a xs0)
    (hat : 0 ≤ at_ ∧ at_ ≤ 65535) (ht : 0 ≤ t ∧ t ≤ 4294967295) (hT : Tab w) :
    Calls Tryd.prog 3 #[.int .u8 kd, .slice a xs0.length cap, .int .u16 at_, .int .u32 t] w fun e w' => e = .returned (.bool true) ∧ Below w.heap.size w w' := by
  obtain ⟨q, rfl⟩ := Int.eq_ofNat_of_zero_le hat.1
  obtain ⟨t, rfl⟩ := Int.eq_ofNat_of_zero_le ht.1
  obtain ⟨kd, rfl⟩ := Int.eq_ofNat_of_zero_le hkd.1
  have hq := hat.2
  have FA := Lib.hid (few_calls a cap xs0 w h hc hm)
  have hx0 := h.take 70
  have hlx : (xs0.take 70).length ≤ 70 := List.length_take_le _ _
  have hcx : (xs0.take 70).length ≤ cap := by rw [List.length_take]; omega
  have HB0 := Lib.hid (Below.refl w.heap.size w)
  clear h hc hat
  generalize xs0.take 70 = ys at *
  obtain ⟨k, hk⟩ : ∃ k : Int, 1 + ((kd % 7 : Nat) : Int) = k := ⟨_, rfl⟩
  have hk2 : 1 + ((kd : Int) % 7) = k := by omega
  have k0 : 1 ≤ k := by omega
  have k1 : k ≤ 7 := by omega
  have hx := hx0.take 58
  have hl58 : (ys.take 58).length ≤ 58 := List.length_take_le _ _
  have RP := Lib.hid (fun w' (hb : Below w.heap.size w w') => rput_ok k a cap (ys.take 58) w' ⟨k0, k1⟩ (hx.below hb) hl58)
  have LW := Lib.hid (rots_law ⟨k0, k1⟩ hl58 hx.2.1 q t)
  have hw : ∀ x ∈ sealS (pageS k (ys.take 58)), 0 ≤ x ∧ x ≤ 255 := sealS_wf (fun x h => bounds_u8 (pageS_wf ⟨by omega, by omega⟩ hx.2.1 x h))
  have hzl : (sealS (pageS k (ys.take 58))).length = 64 := by rw [sealS_len, pageS_len hl58]
  have hcl : (turnS (sealS (pageS k (ys.take 58))) q t).length = 64 := by
    show (turnI _ _ _ _).length = 64
    rw [(turnI_props hw (q : Int) t 32).1, hzl]
  have HT := Lib.hid hT
  have JT := Lib.hid (fun w' va vc (hr : Row .u8 w' va (sealS (pageS k (ys.take 58)))) => rturn_calls va vc _ q t w' hr (by omega) ⟨by omega, by omega⟩ (by omega))
  have JG := Lib.hid (fun w' (hb : Below w.heap.size w w') va vc (hr : Row .u8 w' va (turnS (sealS (pageS k (ys.take 58))) q t)) hcap hmm => pget_calls va vc _ k w' hr (by omega) hcap hmm ⟨by omega, by omega⟩ (hT.below hb))
  have JK := Lib.hid (fun w' (hb : Below w.heap.size w w') va vc (hr : Row .u8 w' va (turnS (sealS (pageS k (ys.take 58))) q t)) hcap hmm => pkind_calls va vc _ w' hr (by omega) hcap hmm (hT.below hb))
  have JW := Lib.hid (fun w' (hb : Below w.heap.size w w') => awake_calls w' (hT.below hb))
  have KC := Lib.hid (fun (w : World) (a : Option Addr) (cap : Nat) (xs : List Int) (h : Row .u8 w a xs) => run_str (P := Tryd.prog) 22 5 9 Tryd.underlying22 Tryd.underlying5 Tryd.underlying9 a cap xs h)
  clear hw hT hx
  generalize turnS (sealS (pageS k (ys.take 58))) q t = zs at *
  generalize sealS (pageS k (ys.take 58)) = ss at *
  have hae : 58 < ys.length → ∃ ad, a = some ad := fun hp => by obtain ⟨ad, e, _⟩ := hx0.2.2 (by omega); exact ⟨ad, e⟩
  clear hx0
  have key : ∀ (n : Nat), n = (ys.take 58).length → True := fun _ _ => trivial
  clear key
  have HZL := Lib.hid hzl; have HCL := Lib.hid hcl
  rw [hzl] at JT
  rw [hcl] at JG JK
  by_cases hlong : 58 < ys.length
  · obtain ⟨ad, rfl⟩ := hae hlong
    have hl : (ys.take 58).length = 58 := by rw [List.length_take]; omega
    rw [hl] at RP
    clear hl hl58 hae
    go_enter Tryd.func3, Tryd.ntmps3
    go_upto_region 7 with (first
      | (go_at_call 6; (with_reducible refine (FA.out).mono ?_); rintro e w' ⟨rfl, rfl⟩)
      | (go_at_call 7; (with_reducible refine (RP.out _ HB0.out).mono ?_); rintro e w1 ⟨v, rfl, ho, hb⟩; obtain ⟨sa, sc, rfl, hsc, hsm, hr, -, -⟩ := ho.form; have HS1 := Lib.hid hr; have HB1 := Lib.hid hb; rw [HZL.out] at hsc ⊢; clear ho hb hr)
      | (go_at_call 8; (with_reducible refine (JT.out _ _ _ HS1.out).mono ?_); rintro e w2 ⟨v, rfl, ho, hb⟩; obtain ⟨za, zc, rfl, hzc, hzm, hr, -, -⟩ := ho.form; have HZ2 := Lib.hid hr; have HB2 := Lib.hid (below_step HB1.out hb); have HS2 := Lib.hid (HS1.out.below hb); rw [HCL.out] at hzc ⊢; clear ho hb hr))
    have G1 := Lib.hid (JG.out w2 HB2.out za zc HZ2.out hzc hzm)
    clear JG JT RP FA
    rcases LW.out with ⟨hs, hg⟩ | ⟨hs, hg, hkd0⟩
    · subst hs
      generalize getP zs k = p at *
      obtain ⟨y, z⟩ := p
      dsimp only at hg
      subst hg
      go_upto_region 8 with (go_at_call 9; (with_reducible refine (G1.out).mono ?_); rintro e w3 ⟨⟨a3, c3, rfl, -, -, -⟩, hb⟩; have HB3 := Lib.hid (below_step HB2.out hb); have HS3 := Lib.hid (HS2.out.below hb); have HZ3 := Lib.hid (HZ2.out.below hb); clear hb)
      have h1 := KC.out w3 sa sc _ HS3.out
      have h2 := KC.out w3 za zc _ HZ3.out
      rw [HZL.out] at h1 h2
      generalize strOfNums zs = s1 at *
      go_wp2_with (go_at_call 10; (with_reducible refine (JW.out _ HB3.out).mono ?_); rintro e w4 ⟨rfl, hb⟩; have HB4 := Lib.hid (below_step HB3.out hb); clear hb)
      go_ret
      exact ⟨rfl, HB4.out⟩
    · rw [hg] at G1
      rw [hkd0] at JK
      have hbe : ((strOfNums ss).toList == (strOfNums zs).toList) = false := ba_ne (Ne.symm hs)
      clear hs hg hkd0
      go_upto_region 8 with (go_at_call 9; (with_reducible refine (G1.out).mono ?_); rintro e w3 ⟨⟨a3, c3, rfl, -, -, -⟩, hb⟩; have HB3 := Lib.hid (below_step HB2.out hb); have HS3 := Lib.hid (HS2.out.below hb); have HZ3 := Lib.hid (HZ2.out.below hb); clear hb)
      have h1 := KC.out w3 sa sc _ HS3.out
      have h2 := KC.out w3 za zc _ HZ3.out
      have K1 := Lib.hid (JK.out w3 HB3.out za zc HZ3.out hzc hzm)
      rw [HZL.out] at h1
      rw [HCL.out] at h2
      generalize strOfNums zs = s1 at *
      generalize strOfNums ss = s2 at *
      go_wp2_with (first
        | (go_at_call 11; (with_reducible refine (K1.out).mono ?_); rintro e w4 ⟨rfl, hb⟩; have HB4 := Lib.hid (below_step HB3.out hb); clear hb)
        | (go_at_call 10; (with_reducible refine (JW.out _ HB4.out).mono ?_); rintro e w5 ⟨rfl, hb⟩; have HB5 := Lib.hid (below_step HB4.out hb); clear hb))
      go_ret
      exact ⟨rfl, HB5.out⟩
  · have hl : (ys.take 58).length = ys.length := by rw [List.length_take]; omega
    rw [hl] at RP
    clear hl hl58 hae
    go_enter Tryd.func3, Tryd.ntmps3
    go_upto_region 7 with (first
      | (go_at_call 6; (with_reducible refine (FA.out).mono ?_); rintro e w' ⟨rfl, rfl⟩)
      | (go_at_call 7; (with_reducible refine (RP.out _ HB0.out).mono ?_); rintro e w1 ⟨v, rfl, ho, hb⟩; obtain ⟨sa, sc, rfl, hsc, hsm, hr, -, -⟩ := ho.form; have HS1 := Lib.hid hr; have HB1 := Lib.hid hb; rw [HZL.out] at hsc ⊢; clear ho hb hr)
      | (go_at_call 8; (with_reducible refine (JT.out _ _ _ HS1.out).mono ?_); rintro e w2 ⟨v, rfl, ho, hb⟩; obtain ⟨za, zc, rfl, hzc, hzm, hr, -, -⟩ := ho.form; have HZ2 := Lib.hid hr; have HB2 := Lib.hid (below_step HB1.out hb); have HS2 := Lib.hid (HS1.out.below hb); rw [HCL.out] at hzc ⊢; clear ho hb hr))
    have G1 := Lib.hid (JG.out w2 HB2.out za zc HZ2.out hzc hzm)
    clear JG JT RP FA
    rcases LW.out with ⟨hs, hg⟩ | ⟨hs, hg, hkd0⟩
    · subst hs
      generalize getP zs k = p at *
      obtain ⟨y, z⟩ := p
      dsimp only at hg
      subst hg
      go_upto_region 8 with (go_at_call 9; (with_reducible refine (G1.out).mono ?_); rintro e w3 ⟨⟨a3, c3, rfl, -, -, -⟩, hb⟩; have HB3 := Lib.hid (below_step HB2.out hb); have HS3 := Lib.hid (HS2.out.below hb); have HZ3 := Lib.hid (HZ2.out.below hb); clear hb)
      have h1 := KC.out w3 sa sc _ HS3.out
      have h2 := KC.out w3 za zc _ HZ3.out
      rw [HZL.out] at h1 h2
      generalize strOfNums zs = s1 at *
      go_wp2_with (go_at_call 10; (with_reducible refine (JW.out _ HB3.out).mono ?_); rintro e w4 ⟨rfl, hb⟩; have HB4 := Lib.hid (below_step HB3.out hb); clear hb)
      go_ret
      exact ⟨rfl, HB4.out⟩
    · rw [hg] at G1
      rw [hkd0] at JK
      have hbe : ((strOfNums ss).toList == (strOfNums zs).toList) = false := ba_ne (Ne.symm hs)
      clear hs hg hkd0
      go_upto_region 8 with (go_at_call 9; (with_reducible refine (G1.out).mono ?_); rintro e w3 ⟨⟨a3, c3, rfl, -, -, -⟩, hb⟩; have HB3 := Lib.hid (below_step HB2.out hb); have HS3 := Lib.hid (HS2.out.below hb); have HZ3 := Lib.hid (HZ2.out.below hb); clear hb)
      have h1 := KC.out w3 sa sc _ HS3.out
      have h2 := KC.out w3 za zc _ HZ3.out
      have K1 := Lib.hid (JK.out w3 HB3.out za zc HZ3.out hzc hzm)
      rw [HZL.out] at h1
      rw [HCL.out] at h2
      generalize strOfNums zs = s1 at *
      generalize strOfNums ss = s2 at *
      go_wp2_with (first
        | (go_at_call 11; (with_reducible refine (K1.out).mono ?_); rintro e w4 ⟨rfl, hb⟩; have HB4 := Lib.hid (below_step HB3.out hb); clear hb)
        | (go_at_call 10; (with_reducible refine (JW.out _ HB4.out).mono ?_); rintro e w5 ⟨rfl, hb⟩; have HB5 := Lib.hid (below_step HB4.out hb); clear hb))
      go_ret
      exact ⟨rfl, HB5.out⟩
end Go.Proofs.YtkncgbjoaoobjaaDoor.Ct
