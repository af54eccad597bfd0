import Derived.Test.YtminokbigpckaaaDoorScrB
/-! Steps: script.Check. -/
namespace Go.Proofs.YtminokbigpckaaaDoor.Ct
open Go.RowKit
set_option linter.unusedVariables false
set_option linter.unusedSimpArgs false
def codeX (x : Sp) : Int := if MayX x then 0 else 320
def valX (x : Sp) (j : Nat) : Int := [x.a, x.b, x.c].getD j 0
theorem lowX_iff (x : Sp) : LowX x ↔ ∀ j, (manyS x.op).toNat ≤ j → j < 3 → valX x j = 0 := by
  have hb := manyS_bd x.op
  unfold LowX valX
  constructor
  · rintro ⟨h1, h2, h3⟩ j hj hj3
    have : j = 0 ∨ j = 1 ∨ j = 2 := by omega
    rcases this with rfl | rfl | rfl
    · exact h3 (by omega)
    · exact h2 (by omega)
    · exact h1 (by omega)
  · intro h
    exact ⟨fun hm => h 2 (by omega) (by omega), fun hm => h 1 (by omega) (by omega), fun hm => h 0 (by omega) (by omega)⟩
theorem wordS_some {op : Int} (h : InS op 1 14) : wordS op ≠ ⟨#[]⟩ := by
  intro e
  have h1 : wordL op = [] := by
    unfold wordS strOfNums at e
    have := congrArg (fun b : ByteArray => b.data.toList) e
    simp at this
    exact this
  exact (wordL_nil op).1 h1 h
set_option maxHeartbeats 8000000 in
theorem check_calls' (x : Sp) (fa : Option Addr) (fc : Nat) (w : World) (h : Row .i64 w fa x.fs) :
    Calls Tryd.prog 16 #[stepV x fa fc] w fun e w' => e = .returned (.int .i64 (codeX x)) ∧ Below w.heap.size w w' := by
  have hl := h.len
  have hb1 := below_alloc (below_alloc (Below.refl w.heap.size w) (.cells (stepC x fa fc) 25)) (.cells #[.int .i64 x.a, .int .i64 x.b, .int .i64 x.c] 52)
  have hk0 : Blk (w.alloc (.cells (stepC x fa fc) 25)) w.heap.size 25 (stepC x fa fc) := Blk.new _ _ _
  have hk1 := hk0.alloc (.cells #[.int .i64 x.a, .int .i64 x.b, .int .i64 x.c] 52)
  have hn1 : Blk ((w.alloc (.cells (stepC x fa fc) 25)).alloc (.cells #[.int .i64 x.a, .int .i64 x.b, .int .i64 x.c] 52)) (w.heap.size + 1) 52 #[.int .i64 x.a, .int .i64 x.b, .int .i64 x.c] := blk_at (by simp)
  have hcell : ∀ k, k < 3 → ((w.alloc (.cells (stepC x fa fc) 25)).alloc (.cells #[.int .i64 x.a, .int .i64 x.b, .int .i64 x.c] 52)).cell? ⟨w.heap.size + 1, k, none⟩ = some (.int .i64 (valX x k)) := by
    intro k hk
    rw [hn1.cell]
    have : k = 0 ∨ k = 1 ∨ k = 2 := by omega
    rcases this with rfl | rfl | rfl <;> rfl
  have H := Lib.hid (h.below hb1)
  have LX := Lib.hid (lowX_iff x)
  have CX : Hid (codeX x = if MayX x then 0 else 320) := Lib.hid rfl
  have MX : Hid (MayX x ↔ InS x.op 1 14 ∧ LowX x ∧ (x.op ≠ 14 → x.fs.length = 0) ∧ BoundsX x) := Lib.hid Iff.rfl
  have BC := Lib.hid (sbounds_calls x fa fc _ H.out)
  have MC := Lib.hid (fun w => smany_calls x.op w)
  have WC := Lib.hid (fun w => word_calls x.op w)
  have WS := Lib.hid (fun h => wordS_some (op := x.op) h)
  have WN := Lib.hid (fun (h : ¬ InS x.op 1 14) => show wordS x.op = ⟨#[]⟩ by unfold wordS; rw [(wordL_nil x.op).2 h]; rfl)
  obtain ⟨m0, m1⟩ := manyS_bd x.op
  obtain ⟨m, hm⟩ := Int.eq_ofNat_of_zero_le m0
  rw [hm] at MC LX m1
  simp only [Int.toNat_natCast] at LX
  have hm3 : m ≤ 3 := by omega
  have HC := Lib.hid hcell
  clear h hk0 hn1 hcell m0 m1 hm
  unfold stepV stepC at *
  generalize hv : valX x = vs at *
  generalize hcx : codeX x = cx at *
  clear hv hcx
  obtain ⟨op, a, b, c, fs⟩ := x
  dsimp only at *
  obtain ⟨n, hn⟩ : ∃ n : Nat, fs.length = n := ⟨_, rfl⟩
  rw [hn] at hb1 hk1 HC BC MX hl ⊢
  have HFN := Lib.hid hn
  clear hn H
  go_enter Tryd.func16, Tryd.ntmps16
  go_upto_region 2 with (fail)
  generalize (w.alloc (.cells #[.int .i64 op, .int .i64 a, .int .i64 b, .int .i64 c, .slice fa n fc] 25)).alloc (.cells #[.int .i64 a, .int .i64 b, .int .i64 c] 52) = w2 at *
  obtain ⟨⟨k0, k1, k2, k3, k4⟩, -⟩ := cells5 hk1
  have HB := Lib.hid hb1
  clear hk1 hb1
  go_upto_region 3 with (go_at_call 25; (with_reducible refine (MC.out _).mono ?_); rintro e w' ⟨rfl, rfl⟩)
  go_wp2
  go_loop [4] (fun i => ∃ k : Nat, m ≤ k ∧ k ≤ 3 ∧ i = .int .i64 k ∧ ∀ j, m ≤ j → j < k → vs j = 0) (fun i => 3 - (intOf i).toNat)
  case atStart => exact ⟨m, by omega, hm3, rfl, by omega⟩
  case round =>
    obtain ⟨k, hk1, hk2, rfl, hz⟩ := hrel
    have HZ := Lib.hid hz
    clear hz
    by_cases hlt : k < 3
    · have hlti : (k : Int) < 3 := by omega
      have ck := HC.out k hlt
      have HN := Lib.hid (fun (h0 : vs k = 0) => show ∀ j, m ≤ j → j < k + 1 → vs j = 0 from fun j h1 h2 => by
        rcases Nat.lt_succ_iff_lt_or_eq.1 h2 with h3 | rfl
        · exact HZ.out j h1 h3
        · exact h0)
      have HNL := Lib.hid (fun (h0 : vs k ≠ 0) => show cx = 320 by
        rw [CX.out, if_neg (fun hmx => h0 ((LX.out.1 (MX.out.1 hmx).2.1) k hk1 hlt))])
      generalize vs k = v at *
      by_cases hv0 : v = 0
      · have H2 := Lib.hid (HN.out hv0)
        subst hv0
        clear HN HNL
        go_wp2
        go_round
        case rel => exact ⟨k + 1, by omega, by omega, by go_num, H2.out⟩
        case measure => simp [intOf]; omega
      · have H2 := Lib.hid (HNL.out hv0)
        have q1 : (v != 0) = true := bne_iff_ne.2 hv0
        clear HN HNL hv0
        go_wp2
        go_ret
        rw [H2.out]
        exact ⟨rfl, HB.out⟩
    · obtain rfl : k = 3 := by omega
      have HLX := Lib.hid (LX.out.2 HZ.out)
      clear HZ
      by_cases hop : InS op 1 14
      · have hws := WS.out hop
        have s1 : ¬ (wordS op).toList = [] := fun e => hws (by
          have h2 : bs (wordS op) = [] := by unfold bs; rw [ByteArray.toList_eq] at e; rw [e]; rfl
          have := strOf_bs (wordS op)
          rw [h2] at this
          rw [← this]; rfl)
        have s2 : (wordS op).toList.isEmpty = false := by cases h : (wordS op).toList with
          | nil => exact absurd h s1
          | cons _ _ => rfl
        have s3 : ((wordS op).toList == []) = false := beq_eq_false_iff_ne.2 s1
        have HOP := Lib.hid hop
        clear hws WS WN hop
        generalize wordS op = ws at *
        simp only [show ((3 : Nat) : Int) = 3 from rfl]
        by_cases h14 : op = 14
        · have q1 : (op != 14) = false := bne_eq_false_iff_eq.2 h14
          have HM := Lib.hid (show cx = if BoundsX ⟨op, a, b, c, fs⟩ then 0 else 320 by
            rw [CX.out]
            by_cases hbx : BoundsX ⟨op, a, b, c, fs⟩
            · rw [if_pos hbx, if_pos (MX.out.2 ⟨HOP.out, HLX.out, fun h => absurd h14 h, hbx⟩)]
            · rw [if_neg hbx, if_neg (fun h => hbx (MX.out.1 h).2.2.2)])
          clear h14
          by_cases hbx : BoundsX ⟨op, a, b, c, fs⟩
          · rw [decide_eq_true hbx] at BC
            have HM2 := Lib.hid (show cx = 0 by rw [HM.out, if_pos hbx])
            clear hbx HM
            go_wp2_with (first | (go_at_call 13; (with_reducible refine (WC.out _).mono ?_); rintro e w' ⟨rfl, rfl⟩) | (go_at_call 33; (with_reducible refine (BC.out).mono ?_); rintro e w3 ⟨rfl, hb⟩; have HB3 := Lib.hid (below_step HB.out hb); clear hb))
            go_ret
            rw [HM2.out]
            exact ⟨rfl, HB3.out⟩
          · rw [decide_eq_false hbx] at BC
            have HM2 := Lib.hid (show cx = 320 by rw [HM.out, if_neg hbx])
            clear hbx HM
            go_wp2_with (first | (go_at_call 13; (with_reducible refine (WC.out _).mono ?_); rintro e w' ⟨rfl, rfl⟩) | (go_at_call 33; (with_reducible refine (BC.out).mono ?_); rintro e w3 ⟨rfl, hb⟩; have HB3 := Lib.hid (below_step HB.out hb); clear hb))
            go_ret
            rw [HM2.out]
            exact ⟨rfl, HB3.out⟩
        · have q1 : (op != 14) = true := bne_iff_ne.2 h14
          by_cases hfl : n = 0
          · have q2 : ¬ 0 < n := by omega
            have HM := Lib.hid (show cx = if BoundsX ⟨op, a, b, c, fs⟩ then 0 else 320 by
              rw [CX.out]
              by_cases hbx : BoundsX ⟨op, a, b, c, fs⟩
              · rw [if_pos hbx, if_pos (MX.out.2 ⟨HOP.out, HLX.out, fun _ => hfl, hbx⟩)]
              · rw [if_neg hbx, if_neg (fun h => hbx (MX.out.1 h).2.2.2)])
            clear h14
            have hfl2 : decide (0 < n) = false := decide_eq_false q2
            clear hfl
            by_cases hbx : BoundsX ⟨op, a, b, c, fs⟩
            · rw [decide_eq_true hbx] at BC
              have HM2 := Lib.hid (show cx = 0 by rw [HM.out, if_pos hbx])
              clear hbx HM
              go_wp2_with (first | (go_at_call 13; (with_reducible refine (WC.out _).mono ?_); rintro e w' ⟨rfl, rfl⟩) | (go_at_call 33; (with_reducible refine (BC.out).mono ?_); rintro e w3 ⟨rfl, hb⟩; have HB3 := Lib.hid (below_step HB.out hb); clear hb))
              go_ret
              rw [HM2.out]
              exact ⟨rfl, HB3.out⟩
            · rw [decide_eq_false hbx] at BC
              have HM2 := Lib.hid (show cx = 320 by rw [HM.out, if_neg hbx])
              clear hbx HM
              go_wp2_with (first | (go_at_call 13; (with_reducible refine (WC.out _).mono ?_); rintro e w' ⟨rfl, rfl⟩) | (go_at_call 33; (with_reducible refine (BC.out).mono ?_); rintro e w3 ⟨rfl, hb⟩; have HB3 := Lib.hid (below_step HB.out hb); clear hb))
              go_ret
              rw [HM2.out]
              exact ⟨rfl, HB3.out⟩
          · have q2 : 0 < n := by omega
            have HM2 := Lib.hid (show cx = 320 by rw [CX.out, if_neg (fun h => hfl ((MX.out.1 h).2.2.1 h14))])
            clear h14 hfl
            go_wp2_with (first | (go_at_call 13; (with_reducible refine (WC.out _).mono ?_); rintro e w' ⟨rfl, rfl⟩) | (go_at_call 33; (with_reducible refine (BC.out).mono ?_); rintro e w3 ⟨rfl, hb⟩; have HB3 := Lib.hid (below_step HB.out hb); clear hb))
            go_ret
            rw [HM2.out]
            exact ⟨rfl, HB.out⟩
      · have WC2 := Lib.hid (fun w => WC.out w)
        rw [WN.out hop] at WC2
        have HM2 := Lib.hid (show cx = 320 by rw [CX.out, if_neg (fun h => hop (MX.out.1 h).1)])
        clear hop WS WN
        simp only [show ((3 : Nat) : Int) = 3 from rfl]
        go_wp2_with (go_at_call 13; (with_reducible refine (WC2.out _).mono ?_); rintro e w' ⟨rfl, rfl⟩)
        go_ret
        rw [HM2.out]
        exact ⟨rfl, HB.out⟩
end Go.Proofs.YtminokbigpckaaaDoor.Ct
