import Derived.Test.YtkncgbjoaoobjaaDoorLaw09B
/-! Chapter 09: PagePuts. -/
namespace Go.Proofs.YtkncgbjoaoobjaaDoor.Ct
open Go.RowKit
set_option linter.unusedVariables false
set_option linter.unusedSimpArgs false
theorem getP_other {k o : Int} {xs : List Int} (hk : 1 ≤ k ∧ k ≤ 7) (hl : xs.length ≤ 58) (ho : o ≠ k) : getP (sealS (pageS k xs)) o = ([], 31) := by
  have hop : openP (sealS (pageS k xs)) = (pageS k xs, 0) := by
    unfold openP; rw [if_neg (by rw [sealS_len, pageS_len hl]; decide), openS_sealS]
  unfold getP
  rw [hop, if_neg (by simp), if_neg (fun h => ho (h.2.2.symm.trans page_head.2.1))]
theorem kindP_page {k : Int} {xs : List Int} (hk : 1 ≤ k ∧ k ≤ 7) (hl : xs.length ≤ 58) : kindP (sealS (pageS k xs)) = k :=
  (kind_hit (by rw [getP_page hk hl])).1
theorem blank_page {k : Int} {xs : List Int} : blankS (sealS (pageS k xs)) = false := by
  unfold sealS pageS blankS; rfl
theorem blank_zeros (n : Nat) : blankS (List.replicate n 0) = true := by
  unfold blankS
  rw [List.all_eq_true]
  intro x hx
  rw [List.eq_of_mem_replicate hx]; rfl
theorem putP_bad {k : Int} {xs : List Int} (h : ¬ ((1 ≤ k ∧ k ≤ 7) ∧ xs.length ≤ 58)) : ∃ e, putP k xs = ([], e) ∧ (e = 1 ∨ e = 7) := by
  unfold putP
  split
  · split
    · exact ⟨7, rfl, .inr rfl⟩
    · exact absurd ⟨by assumption, by omega⟩ h
  · exact ⟨1, rfl, .inl rfl⟩
theorem putP_ok {k : Int} {xs : List Int} (hk : 1 ≤ k ∧ k ≤ 7) (hl : xs.length ≤ 58) : putP k xs = (sealS (pageS k xs), 0) := by
  unfold putP; rw [if_pos hk, if_neg (by omega)]
set_option maxHeartbeats 4000000 in
theorem puts_bad (k : Int) (a : Option Addr) (cap : Nat) (xs0 : List Int) (o : Int) (w : World) (hk : -9223372036854775808 ≤ k ∧ k ≤ 9223372036854775807) (hc : xs0.length ≤ cap) (hm : cap ≤ 9223372036854775807) (h : Row .u8 w a xs0)
    (ho : -9223372036854775808 ≤ o ∧ o ≤ 9223372036854775807) (hT : Tab w) (hbad : ¬ ((1 ≤ k ∧ k ≤ 7) ∧ (xs0.take 70).length ≤ 58)) :
    Calls Tryd.prog 4 #[.int .i64 k, .slice a xs0.length cap, .int .i64 o] w fun e w' => e = .returned (.bool true) ∧ Below w.heap.size w w' := by
  have FA := Lib.hid (few_calls a cap xs0 w h hc hm)
  have hx := h.take 70
  have HB0 := Lib.hid (Below.refl w.heap.size w)
  clear h hc
  generalize xs0.take 70 = xs at *
  obtain ⟨z, hz, hz2⟩ := putP_bad hbad
  have pc := fun w' (hb : Below w.heap.size w w') => pput_calls k a cap xs w' hk (hx.below hb) (hT.below hb)
  have rc := fun w' (hb : Below w.heap.size w w') => rput_calls k a cap xs w' hk (hx.below hb)
  unfold PutS at pc rc
  rw [hz] at pc rc
  have PC := Lib.hid pc
  have RC := Lib.hid rc
  have KC := Lib.hid (fun (w : World) (a : Option Addr) (cap : Nat) (xs : List Int) (h : Row .u8 w a xs) => run_str (P := Tryd.prog) 22 5 9 Tryd.underlying22 Tryd.underlying5 Tryd.underlying9 a cap xs h)
  have JW := Lib.hid (fun w' (hb : Below w.heap.size w w') => awake_calls w' (hT.below hb))
  have hzn : (z != 0) = true := by rw [bne_iff_ne]; omega
  clear pc rc hbad hx hT hz
  go_enter Tryd.func4, Tryd.ntmps4
  go_upto_region 4 with (first
    | (go_at_call 6; (with_reducible refine (FA.out).mono ?_); rintro e w' ⟨rfl, rfl⟩)
    | (go_at_call 12; (with_reducible refine (PC.out _ HB0.out).mono ?_); rintro e w1 ⟨v, rfl, ho1, hb⟩; obtain ⟨sa, sc, rfl, -, -, hr, -, -⟩ := ho1.form; have HS1 := Lib.hid hr; have HB1 := Lib.hid hb; clear ho1 hb hr)
    | (go_at_call 7; (with_reducible refine (RC.out _ HB1.out).mono ?_); rintro e w2 ⟨v, rfl, ho2, hb⟩; obtain ⟨ra, rc, rfl, -, -, hr, -, -⟩ := ho2.form; have HR2 := Lib.hid hr; have HB2 := Lib.hid (below_step HB1.out hb); have HS2 := Lib.hid (HS1.out.below hb); clear ho2 hb hr))
  have h1 := KC.out w2 sa sc _ HS2.out
  have h2 := KC.out w2 ra rc _ HR2.out
  rw [show ([] : List Int).length = 0 from rfl] at h1 h2
  generalize strOfNums ([] : List Int) = s1 at *
  go_wp2_with (go_at_call 10; (with_reducible refine (JW.out _ HB2.out).mono ?_); rintro e w4 ⟨rfl, hb⟩; have HB4 := Lib.hid (below_step HB2.out hb); clear hb)
  go_ret
  exact ⟨rfl, HB4.out⟩
set_option maxHeartbeats 4000000 in
theorem puts_ok (k : Int) (a : Option Addr) (cap : Nat) (xs0 : List Int) (o : Int) (w : World) (hk : 1 ≤ k ∧ k ≤ 7) (hc : xs0.length ≤ cap) (hm : cap ≤ 9223372036854775807) (h : Row .u8 w a xs0)
    (ho : -9223372036854775808 ≤ o ∧ o ≤ 9223372036854775807) (hT : Tab w) (hl : (xs0.take 70).length ≤ 58) :
    Calls Tryd.prog 4 #[.int .i64 k, .slice a xs0.length cap, .int .i64 o] w fun e w' => e = .returned (.bool true) ∧ Below w.heap.size w w' := by
  have FA := Lib.hid (few_calls a cap xs0 w h hc hm)
  have hx := h.take 70
  have HB0 := Lib.hid (Below.refl w.heap.size w)
  clear h hc
  generalize xs0.take 70 = xs at *
  have PC := Lib.hid (fun w' (hb : Below w.heap.size w w') => pput_ok k a cap xs w' hk (hx.below hb) hl (hT.below hb))
  have RC := Lib.hid (fun w' (hb : Below w.heap.size w w') => rput_ok k a cap xs w' hk (hx.below hb) hl)
  have KC := Lib.hid (fun (w : World) (a : Option Addr) (cap : Nat) (xs : List Int) (h : Row .u8 w a xs) => run_str (P := Tryd.prog) 22 5 9 Tryd.underlying22 Tryd.underlying5 Tryd.underlying9 a cap xs h)
  have JW := Lib.hid (fun w' (hb : Below w.heap.size w w') => awake_calls w' (hT.below hb))
  have hsl : (sealS (pageS k xs)).length = 64 := by rw [sealS_len, pageS_len hl]
  have HSL := Lib.hid hsl
  have g1 := getP_page hk hl
  have gk := kindP_page hk hl
  have gb := blank_page (k := k) (xs := xs)
  have hgo : (getP (sealS (pageS k xs)) o).2 = if o = k then 0 else 31 := by
    by_cases e : o = k
    · rw [if_pos e, e, g1]
    · rw [if_neg e, getP_other hk hl e]
  have JG := Lib.hid (fun w' (hb : Below w.heap.size w w') va vc (hr : Row .u8 w' va (sealS (pageS k xs))) hcap hmm => pget_calls va vc _ k w' hr (by omega) hcap hmm ⟨by omega, by omega⟩ (hT.below hb))
  have JO := Lib.hid (fun w' (hb : Below w.heap.size w w') va vc (hr : Row .u8 w' va (sealS (pageS k xs))) hcap hmm => pget_calls va vc _ o w' hr (by omega) hcap hmm ho (hT.below hb))
  have JK := Lib.hid (fun w' (hb : Below w.heap.size w w') va vc (hr : Row .u8 w' va (sealS (pageS k xs))) hcap hmm => pkind_calls va vc _ w' hr (by omega) hcap hmm (hT.below hb))
  have JB := Lib.hid (fun w' va vc (hr : Row .u8 w' va (sealS (pageS k xs))) => pblank_calls va vc _ w' hr)
  have JZ := Lib.hid (fun w' va vc (hr : Row .u8 w' va (List.replicate (58 - xs.length) 0)) => pblank_calls va vc _ w' hr)
  rw [hsl] at JG JO JK JB
  rw [g1] at JG
  unfold Two at JG
  dsimp only at JG
  rw [show (xs ++ List.replicate (58 - xs.length) (0 : Int)).length = 58 by simp; omega] at JG
  rw [gk] at JK
  rw [gb] at JB
  rw [blank_zeros, List.length_replicate] at JZ
  have HX := Lib.hid hx
  have HT := Lib.hid hT
  clear hx hT g1 gk gb hsl
  generalize sealS (pageS k xs) = ss at *
  generalize getP ss o = po at *
  obtain ⟨yo, zo⟩ := po
  dsimp only at hgo
  subst hgo
  go_enter Tryd.func4, Tryd.ntmps4
  go_upto_region 4 with (first
    | (go_at_call 6; (with_reducible refine (FA.out).mono ?_); rintro e w' ⟨rfl, rfl⟩)
    | (go_at_call 12; (with_reducible refine (PC.out _ HB0.out).mono ?_); rintro e w1 ⟨v, rfl, ho1, hb⟩; obtain ⟨sa, sc, rfl, hsc, hsm, hr, -, -⟩ := ho1.form; have HS1 := Lib.hid hr; have HB1 := Lib.hid hb; rw [HSL.out] at hsc ⊢; clear ho1 hb hr)
    | (go_at_call 7; (with_reducible refine (RC.out _ HB1.out).mono ?_); rintro e w2 ⟨v, rfl, ho2, hb⟩; obtain ⟨ra, rc, rfl, -, -, hr, -, -⟩ := ho2.form; have HR2 := Lib.hid hr; have HB2 := Lib.hid (below_step HB1.out hb); have HS2 := Lib.hid (HS1.out.below hb); rw [HSL.out]; clear ho2 hb hr))
  have h1 := KC.out w2 sa sc _ HS2.out
  have h2 := KC.out w2 ra rc _ HR2.out
  rw [HSL.out] at h1 h2
  generalize strOfNums ss = s1 at *
  go_upto_region 8 with (go_at_call 10; (with_reducible refine (JW.out _ HB2.out).mono ?_); rintro e w3 ⟨rfl, hb⟩; have HB3 := Lib.hid (below_step HB2.out hb); have HS3 := Lib.hid (HS2.out.below hb); clear hb)
  clear h1 h2 PC RC FA
  have G1 := Lib.hid (JG.out w3 HB3.out sa sc HS3.out hsc hsm)
  have hlz : (58 - xs.length) + xs.length = 58 := by omega
  go_upto_region 10 with (first
    | (go_at_call 9; (with_reducible refine (G1.out).mono ?_); rintro e w4 ⟨⟨a4, c4, rfl, hr, hc4, hm4⟩, hb⟩; have HB4 := Lib.hid (below_step HB3.out hb); have HS4 := Lib.hid (HS3.out.below hb); have HY4 := Lib.hid hr; have HC4 := Lib.hid hc4; have GO := Lib.hid (JO.out w4 HB4.out sa sc HS4.out hsc hsm); clear hb hr hc4)
    | (go_at_call 9; (with_reducible refine (GO.out).mono ?_); rintro e w5 ⟨⟨a5, c5, rfl, -, -, -⟩, hb⟩; have HB5 := Lib.hid (below_step HB4.out hb); have HS5 := Lib.hid (HS4.out.below hb); have HY5 := Lib.hid (HY4.out.below hb); clear hb))
  obtain ⟨ad4, ha4, -⟩ := HY5.out.2.2 (by simp; omega)
  subst ha4
  have HX5 := Lib.hid (HX.out.below HB5.out)
  have hc58 := HC4.out
  have hty : (xs ++ List.replicate (58 - xs.length) (0 : Int)).take xs.length = xs := by simp
  have hdy : (xs ++ List.replicate (58 - xs.length) (0 : Int)).drop xs.length = List.replicate (58 - xs.length) 0 := by simp
  have hy1 := HY5.out.take xs.length
  rw [hty] at hy1
  have hy2 := row_tail HY5.out xs.length (by simp) ad4 rfl
  rw [hdy] at hy2
  have HY1 := Lib.hid hy1
  have HY2 := Lib.hid hy2
  clear hty hdy hy1 hy2
  have HST := Lib.hid (fun w' (hb : Below w5.heap.size w5 w') => And.intro (KC.out w' a cap xs (HX5.out.below hb)) (KC.out w' (some ad4) c4 xs (HY1.out.below hb)))
  have hxl : xs.length ≤ 58 := hl
  have KB := Lib.hid (fun w' (hb : Below w5.heap.size w5 w') => JK.out w' (below_step HB5.out hb) sa sc (HS5.out.below hb) hsc hsm)
  have BB := Lib.hid (fun w' (hb : Below w5.heap.size w5 w') => JB.out w' sa sc (HS5.out.below hb))
  have BZ := Lib.hid (fun w' (hb : Below w5.heap.size w5 w') c => JZ.out w' (some (ad4.add xs.length)) c (HY2.out.below hb))
  have BY := Lib.hid (fun w' (hb : Below w5.heap.size w5 w') a c => (show Calls Tryd.prog 13 #[.slice a 0 c] w' fun e w2 => e = .returned (.bool true) ∧ w' = w2 from pblank_calls a c [] w' ⟨by decide, by simp, fun h => by simp at h⟩))
  have HD5 := Lib.hid (below_drew (Below.refl w5.heap.size w5))
  clear JK JB JZ JG JO KC JW HY1 HY2 HX5 HX HS1 HS2 HS3 HS4 HR2 HB1 HB2 HB3 HB4 HY4 GO G1
  generalize strOfNums xs = s2 at *
  generalize xs.length = n at *
  by_cases hok : o = k
  · rw [if_pos hok]
    subst hok
    by_cases hce : n = c4
    · obtain rfl : n = 58 := by omega
      obtain rfl : c4 = 58 := by omega
      clear hc58 hlz hce
      go_region_held (fun w' => (convert 22 9 (.slice a 58 cap)).run Tryd.prog w' = .ok (.string s2) w' ∧ (convert 22 9 (.slice (some ad4) 58 58)).run Tryd.prog w' = .ok (.string s2) w')
        (first | exact HST.out _ HB6.out | exact HST.out _ HD5.out)
        (first
          | (go_at_call 13; (with_reducible refine (BZ.out _ HD5.out _).mono ?_); rintro e w' ⟨rfl, rfl⟩)
          | (go_at_call 13; (with_reducible refine (BY.out _ HD5.out _ _).mono ?_); rintro e w' ⟨rfl, rfl⟩)
          | (go_at_call 11; (with_reducible refine (KB.out _ HD5.out).mono ?_); rintro e w6 ⟨rfl, hb⟩; have HB6 := Lib.hid (below_step HD5.out hb); clear hb)
          | (go_at_call 13; (with_reducible refine (BB.out _ HB6.out).mono ?_); rintro e w' ⟨rfl, rfl⟩))
      all_goals go_wp2
      all_goals go_ret
      all_goals exact ⟨rfl, below_step HB5.out HB6.out⟩
    · have hlt4 : n < c4 := by omega
      clear hce
      go_region_held (fun w' => (convert 22 9 (.slice a n cap)).run Tryd.prog w' = .ok (.string s2) w' ∧ (convert 22 9 (.slice (some ad4) n c4)).run Tryd.prog w' = .ok (.string s2) w')
        (first | exact HST.out _ HB6.out | exact HST.out _ HD5.out)
        (first
          | (go_at_call 13; (with_reducible refine (BZ.out _ HD5.out _).mono ?_); rintro e w' ⟨rfl, rfl⟩)
          | (go_at_call 13; (with_reducible refine (BY.out _ HD5.out _ _).mono ?_); rintro e w' ⟨rfl, rfl⟩)
          | (go_at_call 11; (with_reducible refine (KB.out _ HD5.out).mono ?_); rintro e w6 ⟨rfl, hb⟩; have HB6 := Lib.hid (below_step HD5.out hb); clear hb)
          | (go_at_call 13; (with_reducible refine (BB.out _ HB6.out).mono ?_); rintro e w' ⟨rfl, rfl⟩))
      all_goals go_wp2
      all_goals go_ret
      all_goals exact ⟨rfl, below_step HB5.out HB6.out⟩
  · rw [if_neg hok]
    have hob : (o == k) = false := beq_eq_false_iff_ne.2 hok
    clear hok
    by_cases hce : n = c4
    · obtain rfl : n = 58 := by omega
      obtain rfl : c4 = 58 := by omega
      clear hc58 hlz hce
      go_region_held (fun w' => (convert 22 9 (.slice a 58 cap)).run Tryd.prog w' = .ok (.string s2) w' ∧ (convert 22 9 (.slice (some ad4) 58 58)).run Tryd.prog w' = .ok (.string s2) w')
        (first | exact HST.out _ HB6.out | exact HST.out _ HD5.out)
        (first
          | (go_at_call 13; (with_reducible refine (BZ.out _ HD5.out _).mono ?_); rintro e w' ⟨rfl, rfl⟩)
          | (go_at_call 13; (with_reducible refine (BY.out _ HD5.out _ _).mono ?_); rintro e w' ⟨rfl, rfl⟩)
          | (go_at_call 11; (with_reducible refine (KB.out _ HD5.out).mono ?_); rintro e w6 ⟨rfl, hb⟩; have HB6 := Lib.hid (below_step HD5.out hb); clear hb)
          | (go_at_call 13; (with_reducible refine (BB.out _ HB6.out).mono ?_); rintro e w' ⟨rfl, rfl⟩))
      all_goals go_wp2
      all_goals go_ret
      all_goals exact ⟨rfl, below_step HB5.out HB6.out⟩
    · have hlt4 : n < c4 := by omega
      clear hce
      go_region_held (fun w' => (convert 22 9 (.slice a n cap)).run Tryd.prog w' = .ok (.string s2) w' ∧ (convert 22 9 (.slice (some ad4) n c4)).run Tryd.prog w' = .ok (.string s2) w')
        (first | exact HST.out _ HB6.out | exact HST.out _ HD5.out)
        (first
          | (go_at_call 13; (with_reducible refine (BZ.out _ HD5.out _).mono ?_); rintro e w' ⟨rfl, rfl⟩)
          | (go_at_call 13; (with_reducible refine (BY.out _ HD5.out _ _).mono ?_); rintro e w' ⟨rfl, rfl⟩)
          | (go_at_call 11; (with_reducible refine (KB.out _ HD5.out).mono ?_); rintro e w6 ⟨rfl, hb⟩; have HB6 := Lib.hid (below_step HD5.out hb); clear hb)
          | (go_at_call 13; (with_reducible refine (BB.out _ HB6.out).mono ?_); rintro e w' ⟨rfl, rfl⟩))
      all_goals go_wp2
      all_goals go_ret
      all_goals exact ⟨rfl, below_step HB5.out HB6.out⟩
theorem puts_walk (k : Int) (a : Option Addr) (cap : Nat) (xs0 : List Int) (o : Int) (w : World) (hk : -9223372036854775808 ≤ k ∧ k ≤ 9223372036854775807) (hc : xs0.length ≤ cap) (hm : cap ≤ 9223372036854775807) (h : Row .u8 w a xs0)
    (ho : -9223372036854775808 ≤ o ∧ o ≤ 9223372036854775807) (hT : Tab w) :
    Calls Tryd.prog 4 #[.int .i64 k, .slice a xs0.length cap, .int .i64 o] w fun e w' => e = .returned (.bool true) ∧ Below w.heap.size w w' := by
  by_cases hb : (1 ≤ k ∧ k ≤ 7) ∧ (xs0.take 70).length ≤ 58
  · exact puts_ok k a cap xs0 o w hb.1 hc hm h ho hT hb.2
  · exact puts_bad k a cap xs0 o w hk hc hm h ho hT hb
end Go.Proofs.YtkncgbjoaoobjaaDoor.Ct
