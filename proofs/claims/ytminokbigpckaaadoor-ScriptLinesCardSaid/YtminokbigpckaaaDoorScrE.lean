import Derived.Test.YtminokbigpckaaaDoorScrD
/-! Steps: the reference's May. (Printed by wip/gen/scre.py.) -/
namespace Go.Proofs.YtminokbigpckaaaDoor.Ct
open Go.RowKit
set_option linter.unusedVariables false
set_option linter.unusedSimpArgs false
theorem ent_many : ∀ args w, (callFunc 30 args).run Tryd.prog w = .ok (.enter 30 args) w := fun _ _ => by kernel_rfl
set_option maxRecDepth 100000 in
set_option maxHeartbeats 16000000 in
theorem rmay_in (op a b c : Int) (fs : List Int) (fa : Option Addr) (fc : Nat) (w : World) (h : Row .i64 w fa fs) (hop : InS op 1 14) :
    Calls Tryd.prog 15 #[stepV ⟨op, a, b, c, fs⟩ fa fc] w fun e w' => e = .returned (.bool (decide (MayX ⟨op, a, b, c, fs⟩))) ∧ Below w.heap.size w w' := by
  have hl := h.len
  have hb1 := below_alloc (Below.refl w.heap.size w) (.cells (stepC ⟨op, a, b, c, fs⟩ fa fc) 25)
  have hk1 : Blk (w.alloc (.cells (stepC ⟨op, a, b, c, fs⟩ fa fc) 25)) w.heap.size 25 (stepC ⟨op, a, b, c, fs⟩ fa fc) := Blk.new _ _ _
  have OPC := Lib.hid (fun w => rop_calls op w)
  rw [decide_eq_true hop] at OPC
  have IC := Lib.hid (fun n lo hi w => rsin_calls n lo hi w)
  have RM := Lib.hid (fun w => rmany_calls w)
  have RF := Lib.hid (fun W hb => rfates_calls ⟨op, a, b, c, fs⟩ fa fc W (h.below (w' := W) hb))
  have HOP := Lib.hid hop
  obtain ⟨k, hk⟩ : ∃ k : Nat, op = k := ⟨op.toNat, by unfold InS at hop; omega⟩
  have k1 : 1 ≤ k := by unfold InS at hop; omega
  have k2 : k ≤ 14 := by unfold InS at hop; omega
  have MC := Lib.hid (fun (w w' : World) h => many_cell (w := w) (w' := w') h k1 k2)
  rw [← hk] at MC
  unfold stepV stepC at *
  dsimp only at *
  obtain ⟨v, hv⟩ : ∃ v, decide (MayX ⟨op, a, b, c, fs⟩) = v := ⟨_, rfl⟩
  rw [hv]
  have HV := Lib.hid hv
  clear hv
  obtain ⟨n, hn⟩ : ∃ n : Nat, fs.length = n := ⟨_, rfl⟩
  have HN := Lib.hid hn
  have hki : (op : Int) < 15 := by omega
  have hk0 : 0 ≤ op := by omega
  have hkc : op = (k : Int) := hk
  simp only [hn] at RF
  rw [hn] at hb1 hk1 hl ⊢
  clear h hn hop
  generalize hw1 : w.alloc (.cells #[.int .i64 op, .int .i64 a, .int .i64 b, .int .i64 c, .slice fa n fc] 25) = w1 at hb1 hk1
  have HW1 := Lib.hid hw1
  clear hw1
  subst hk
  have hk3 : k < 15 := by omega
  obtain ⟨⟨c0, c1, c2, c3, c4⟩, -⟩ := cells5 hk1
  have HB1 := Lib.hid hb1
  have HK1 := Lib.hid hk1
  clear hb1 hk1
  go_enter Tryd.func15, Tryd.ntmps15
  go_upto_region 3 with (go_at_call 9; (with_reducible refine (OPC.out _).mono ?_); rintro e w' ⟨rfl, rfl⟩)
  rw [HW1.out]
  go_cut [3] (fun s3 wx => s3 = .int .i64 (manyS k) ∧ Below w1.heap.size w1 wx)
  case first =>
    go_region_law
      ((refine step_call 30 ent_many (by rfl) #[] #[] (by rfl) #[] (by rfl) ((RM.out _).mono ?_)); rintro e w2 ⟨rfl, hr, hb⟩; have c5 : w2.cell? ⟨w1.heap.size, k, none⟩ = some (.int .i64 (manyS k)) := MC.out _ _ hr; have c6 := bget hb c0; have HB2 := Lib.hid hb; clear hr hb; refine ⟨_, rfl, ?_⟩)
    all_goals go_wp2
    all_goals go_meet
    all_goals exact ⟨rfl, below_step (below_drew (Below.refl w1.heap.size w1)) HB2.out⟩
  case rest =>
    obtain ⟨rfl, hb⟩ := hcut
    obtain ⟨⟨c0, c1, c2, c3, c4⟩, -⟩ := cells5 (HK1.out.below hb)
    have HB := Lib.hid (below_step HB1.out hb)
    have RF2 := Lib.hid (RF.out wc HB.out)
    clear hb RF RM OPC MC HK1 HB1 hki hk0 hk3
    have hks : k = 1 ∨ k = 2 ∨ k = 3 ∨ k = 4 ∨ k = 5 ∨ k = 6 ∨ k = 7 ∨ k = 8 ∨ k = 9 ∨ k = 10 ∨ k = 11 ∨ k = 12 ∨ k = 13 ∨ k = 14 := by omega
    clear k1 k2
    rcases hks with rfl | rfl | rfl | rfl | rfl | rfl | rfl | rfl | rfl | rfl | rfl | rfl | rfl | rfl
    · simp only [show manyS ((1 : Nat) : Int) = 1 from by decide, show ((1 : Nat) : Int) = 1 from rfl] at *
      by_cases hc : c = 0
      rotate_left
      · have HM := Lib.hid (show v = false by rw [← HV.out]; exact decide_eq_false (fun h => hc (h.2.1.1 (show manyS 1 < 3 by decide))))
        have q1 : (c != 0) = true := bne_iff_ne.2 hc
        clear hc HV
        go_wp2
        go_ret
        rw [HM.out]
        exact ⟨rfl, HB.out⟩
      have Hc := Lib.hid hc
      have qc : (c != 0) = false := bne_eq_false_iff_eq.2 hc
      clear hc
      by_cases hb : b = 0
      rotate_left
      · have HM := Lib.hid (show v = false by rw [← HV.out]; exact decide_eq_false (fun h => hb (h.2.1.2.1 (show manyS 1 < 2 by decide))))
        have q1 : (b != 0) = true := bne_iff_ne.2 hb
        clear hb HV
        go_wp2
        go_ret
        rw [HM.out]
        exact ⟨rfl, HB.out⟩
      have Hb := Lib.hid hb
      have qb : (b != 0) = false := bne_eq_false_iff_eq.2 hb
      clear hb
      by_cases hn : n = 0
      rotate_left
      · have HM := Lib.hid (show v = false by rw [← HV.out]; exact decide_eq_false (fun h => hn (HN.out.symm.trans (h.2.2.1 (show (1 : Int) ≠ 14 by decide)))))
        have q1 : 0 < n := by omega
        clear hn HV
        go_wp2
        go_ret
        rw [HM.out]
        exact ⟨rfl, HB.out⟩
      have q2 : ¬ 0 < n := by omega
      have q3 : decide (0 < n) = false := decide_eq_false q2
      have HM := Lib.hid (show v = true by
        rw [← HV.out]
        rw [show decide (MayX ⟨1, a, b, c, fs⟩) = decide (BoundsX ⟨1, a, b, c, fs⟩) from decide_eq_decide.2 ⟨fun h => h.2.2.2, fun h => ⟨show InS 1 1 14 by decide, ⟨fun _ => Hc.out, fun _ => Hb.out, fun h => absurd h (show ¬ manyS 1 < 1 by decide)⟩, fun _ => HN.out.trans hn, h⟩⟩]
        rw [boundsX_else _ _ _ _ (by decide) (by decide) (by decide) (by decide) (by decide) (by decide)])
      clear HV hn
      go_wp2_with (first | (go_at_call 31; (with_reducible refine (IC.out _ _ _ _).mono ?_); rintro e w' ⟨rfl, rfl⟩) | (go_at_call 32; (with_reducible refine (RF2.out).mono ?_); rintro e w3 ⟨rfl, hb⟩; have HB := Lib.hid (below_step HB.out hb); clear hb))
      go_ret
      rw [HM.out]
      exact ⟨rfl, HB.out⟩
    · simp only [show manyS ((2 : Nat) : Int) = 2 from by decide, show ((2 : Nat) : Int) = 2 from rfl] at *
      by_cases hc : c = 0
      rotate_left
      · have HM := Lib.hid (show v = false by rw [← HV.out]; exact decide_eq_false (fun h => hc (h.2.1.1 (show manyS 2 < 3 by decide))))
        have q1 : (c != 0) = true := bne_iff_ne.2 hc
        clear hc HV
        go_wp2
        go_ret
        rw [HM.out]
        exact ⟨rfl, HB.out⟩
      have Hc := Lib.hid hc
      have qc : (c != 0) = false := bne_eq_false_iff_eq.2 hc
      clear hc
      by_cases hn : n = 0
      rotate_left
      · have HM := Lib.hid (show v = false by rw [← HV.out]; exact decide_eq_false (fun h => hn (HN.out.symm.trans (h.2.2.1 (show (2 : Int) ≠ 14 by decide)))))
        have q1 : 0 < n := by omega
        clear hn HV
        go_wp2
        go_ret
        rw [HM.out]
        exact ⟨rfl, HB.out⟩
      have q2 : ¬ 0 < n := by omega
      have q3 : decide (0 < n) = false := decide_eq_false q2
      have HM := Lib.hid (show v = decide (InS b 0 255) by
        rw [← HV.out]
        rw [show decide (MayX ⟨2, a, b, c, fs⟩) = decide (BoundsX ⟨2, a, b, c, fs⟩) from decide_eq_decide.2 ⟨fun h => h.2.2.2, fun h => ⟨show InS 2 1 14 by decide, ⟨fun _ => Hc.out, fun h => absurd h (show ¬ manyS 2 < 2 by decide), fun h => absurd h (show ¬ manyS 2 < 1 by decide)⟩, fun _ => HN.out.trans hn, h⟩⟩]
        rw [boundsX_2])
      clear HV hn
      go_wp2_with (first | (go_at_call 31; (with_reducible refine (IC.out _ _ _ _).mono ?_); rintro e w' ⟨rfl, rfl⟩) | (go_at_call 32; (with_reducible refine (RF2.out).mono ?_); rintro e w3 ⟨rfl, hb⟩; have HB := Lib.hid (below_step HB.out hb); clear hb))
      go_ret
      rw [HM.out]
      exact ⟨rfl, HB.out⟩
    · simp only [show manyS ((3 : Nat) : Int) = 2 from by decide, show ((3 : Nat) : Int) = 3 from rfl] at *
      by_cases hc : c = 0
      rotate_left
      · have HM := Lib.hid (show v = false by rw [← HV.out]; exact decide_eq_false (fun h => hc (h.2.1.1 (show manyS 3 < 3 by decide))))
        have q1 : (c != 0) = true := bne_iff_ne.2 hc
        clear hc HV
        go_wp2
        go_ret
        rw [HM.out]
        exact ⟨rfl, HB.out⟩
      have Hc := Lib.hid hc
      have qc : (c != 0) = false := bne_eq_false_iff_eq.2 hc
      clear hc
      by_cases hn : n = 0
      rotate_left
      · have HM := Lib.hid (show v = false by rw [← HV.out]; exact decide_eq_false (fun h => hn (HN.out.symm.trans (h.2.2.1 (show (3 : Int) ≠ 14 by decide)))))
        have q1 : 0 < n := by omega
        clear hn HV
        go_wp2
        go_ret
        rw [HM.out]
        exact ⟨rfl, HB.out⟩
      have q2 : ¬ 0 < n := by omega
      have q3 : decide (0 < n) = false := decide_eq_false q2
      have HM := Lib.hid (show v = true by
        rw [← HV.out]
        rw [show decide (MayX ⟨3, a, b, c, fs⟩) = decide (BoundsX ⟨3, a, b, c, fs⟩) from decide_eq_decide.2 ⟨fun h => h.2.2.2, fun h => ⟨show InS 3 1 14 by decide, ⟨fun _ => Hc.out, fun h => absurd h (show ¬ manyS 3 < 2 by decide), fun h => absurd h (show ¬ manyS 3 < 1 by decide)⟩, fun _ => HN.out.trans hn, h⟩⟩]
        rw [boundsX_else _ _ _ _ (by decide) (by decide) (by decide) (by decide) (by decide) (by decide)])
      clear HV hn
      go_wp2_with (first | (go_at_call 31; (with_reducible refine (IC.out _ _ _ _).mono ?_); rintro e w' ⟨rfl, rfl⟩) | (go_at_call 32; (with_reducible refine (RF2.out).mono ?_); rintro e w3 ⟨rfl, hb⟩; have HB := Lib.hid (below_step HB.out hb); clear hb))
      go_ret
      rw [HM.out]
      exact ⟨rfl, HB.out⟩
    · simp only [show manyS ((4 : Nat) : Int) = 0 from by decide, show ((4 : Nat) : Int) = 4 from rfl] at *
      by_cases hc : c = 0
      rotate_left
      · have HM := Lib.hid (show v = false by rw [← HV.out]; exact decide_eq_false (fun h => hc (h.2.1.1 (show manyS 4 < 3 by decide))))
        have q1 : (c != 0) = true := bne_iff_ne.2 hc
        clear hc HV
        go_wp2
        go_ret
        rw [HM.out]
        exact ⟨rfl, HB.out⟩
      have Hc := Lib.hid hc
      have qc : (c != 0) = false := bne_eq_false_iff_eq.2 hc
      clear hc
      by_cases hb : b = 0
      rotate_left
      · have HM := Lib.hid (show v = false by rw [← HV.out]; exact decide_eq_false (fun h => hb (h.2.1.2.1 (show manyS 4 < 2 by decide))))
        have q1 : (b != 0) = true := bne_iff_ne.2 hb
        clear hb HV
        go_wp2
        go_ret
        rw [HM.out]
        exact ⟨rfl, HB.out⟩
      have Hb := Lib.hid hb
      have qb : (b != 0) = false := bne_eq_false_iff_eq.2 hb
      clear hb
      by_cases ha : a = 0
      rotate_left
      · have HM := Lib.hid (show v = false by rw [← HV.out]; exact decide_eq_false (fun h => ha (h.2.1.2.2 (show manyS 4 < 1 by decide))))
        have q1 : (a != 0) = true := bne_iff_ne.2 ha
        clear ha HV
        go_wp2
        go_ret
        rw [HM.out]
        exact ⟨rfl, HB.out⟩
      have Ha := Lib.hid ha
      have qa : (a != 0) = false := bne_eq_false_iff_eq.2 ha
      clear ha
      by_cases hn : n = 0
      rotate_left
      · have HM := Lib.hid (show v = false by rw [← HV.out]; exact decide_eq_false (fun h => hn (HN.out.symm.trans (h.2.2.1 (show (4 : Int) ≠ 14 by decide)))))
        have q1 : 0 < n := by omega
        clear hn HV
        go_wp2
        go_ret
        rw [HM.out]
        exact ⟨rfl, HB.out⟩
      have q2 : ¬ 0 < n := by omega
      have q3 : decide (0 < n) = false := decide_eq_false q2
      have HM := Lib.hid (show v = true by
        rw [← HV.out]
        rw [show decide (MayX ⟨4, a, b, c, fs⟩) = decide (BoundsX ⟨4, a, b, c, fs⟩) from decide_eq_decide.2 ⟨fun h => h.2.2.2, fun h => ⟨show InS 4 1 14 by decide, ⟨fun _ => Hc.out, fun _ => Hb.out, fun _ => Ha.out⟩, fun _ => HN.out.trans hn, h⟩⟩]
        rw [boundsX_else _ _ _ _ (by decide) (by decide) (by decide) (by decide) (by decide) (by decide)])
      clear HV hn
      go_wp2_with (first | (go_at_call 31; (with_reducible refine (IC.out _ _ _ _).mono ?_); rintro e w' ⟨rfl, rfl⟩) | (go_at_call 32; (with_reducible refine (RF2.out).mono ?_); rintro e w3 ⟨rfl, hb⟩; have HB := Lib.hid (below_step HB.out hb); clear hb))
      go_ret
      rw [HM.out]
      exact ⟨rfl, HB.out⟩
    · simp only [show manyS ((5 : Nat) : Int) = 1 from by decide, show ((5 : Nat) : Int) = 5 from rfl] at *
      by_cases hc : c = 0
      rotate_left
      · have HM := Lib.hid (show v = false by rw [← HV.out]; exact decide_eq_false (fun h => hc (h.2.1.1 (show manyS 5 < 3 by decide))))
        have q1 : (c != 0) = true := bne_iff_ne.2 hc
        clear hc HV
        go_wp2
        go_ret
        rw [HM.out]
        exact ⟨rfl, HB.out⟩
      have Hc := Lib.hid hc
      have qc : (c != 0) = false := bne_eq_false_iff_eq.2 hc
      clear hc
      by_cases hb : b = 0
      rotate_left
      · have HM := Lib.hid (show v = false by rw [← HV.out]; exact decide_eq_false (fun h => hb (h.2.1.2.1 (show manyS 5 < 2 by decide))))
        have q1 : (b != 0) = true := bne_iff_ne.2 hb
        clear hb HV
        go_wp2
        go_ret
        rw [HM.out]
        exact ⟨rfl, HB.out⟩
      have Hb := Lib.hid hb
      have qb : (b != 0) = false := bne_eq_false_iff_eq.2 hb
      clear hb
      by_cases hn : n = 0
      rotate_left
      · have HM := Lib.hid (show v = false by rw [← HV.out]; exact decide_eq_false (fun h => hn (HN.out.symm.trans (h.2.2.1 (show (5 : Int) ≠ 14 by decide)))))
        have q1 : 0 < n := by omega
        clear hn HV
        go_wp2
        go_ret
        rw [HM.out]
        exact ⟨rfl, HB.out⟩
      have q2 : ¬ 0 < n := by omega
      have q3 : decide (0 < n) = false := decide_eq_false q2
      have HM := Lib.hid (show v = decide (InS a 1 4096) by
        rw [← HV.out]
        rw [show decide (MayX ⟨5, a, b, c, fs⟩) = decide (BoundsX ⟨5, a, b, c, fs⟩) from decide_eq_decide.2 ⟨fun h => h.2.2.2, fun h => ⟨show InS 5 1 14 by decide, ⟨fun _ => Hc.out, fun _ => Hb.out, fun h => absurd h (show ¬ manyS 5 < 1 by decide)⟩, fun _ => HN.out.trans hn, h⟩⟩]
        rw [boundsX_5])
      clear HV hn
      go_wp2_with (first | (go_at_call 31; (with_reducible refine (IC.out _ _ _ _).mono ?_); rintro e w' ⟨rfl, rfl⟩) | (go_at_call 32; (with_reducible refine (RF2.out).mono ?_); rintro e w3 ⟨rfl, hb⟩; have HB := Lib.hid (below_step HB.out hb); clear hb))
      go_ret
      rw [HM.out]
      exact ⟨rfl, HB.out⟩
    · simp only [show manyS ((6 : Nat) : Int) = 2 from by decide, show ((6 : Nat) : Int) = 6 from rfl] at *
      by_cases hc : c = 0
      rotate_left
      · have HM := Lib.hid (show v = false by rw [← HV.out]; exact decide_eq_false (fun h => hc (h.2.1.1 (show manyS 6 < 3 by decide))))
        have q1 : (c != 0) = true := bne_iff_ne.2 hc
        clear hc HV
        go_wp2
        go_ret
        rw [HM.out]
        exact ⟨rfl, HB.out⟩
      have Hc := Lib.hid hc
      have qc : (c != 0) = false := bne_eq_false_iff_eq.2 hc
      clear hc
      by_cases hn : n = 0
      rotate_left
      · have HM := Lib.hid (show v = false by rw [← HV.out]; exact decide_eq_false (fun h => hn (HN.out.symm.trans (h.2.2.1 (show (6 : Int) ≠ 14 by decide)))))
        have q1 : 0 < n := by omega
        clear hn HV
        go_wp2
        go_ret
        rw [HM.out]
        exact ⟨rfl, HB.out⟩
      have q2 : ¬ 0 < n := by omega
      have q3 : decide (0 < n) = false := decide_eq_false q2
      have HM := Lib.hid (show v = true by
        rw [← HV.out]
        rw [show decide (MayX ⟨6, a, b, c, fs⟩) = decide (BoundsX ⟨6, a, b, c, fs⟩) from decide_eq_decide.2 ⟨fun h => h.2.2.2, fun h => ⟨show InS 6 1 14 by decide, ⟨fun _ => Hc.out, fun h => absurd h (show ¬ manyS 6 < 2 by decide), fun h => absurd h (show ¬ manyS 6 < 1 by decide)⟩, fun _ => HN.out.trans hn, h⟩⟩]
        rw [boundsX_else _ _ _ _ (by decide) (by decide) (by decide) (by decide) (by decide) (by decide)])
      clear HV hn
      go_wp2_with (first | (go_at_call 31; (with_reducible refine (IC.out _ _ _ _).mono ?_); rintro e w' ⟨rfl, rfl⟩) | (go_at_call 32; (with_reducible refine (RF2.out).mono ?_); rintro e w3 ⟨rfl, hb⟩; have HB := Lib.hid (below_step HB.out hb); clear hb))
      go_ret
      rw [HM.out]
      exact ⟨rfl, HB.out⟩
    · simp only [show manyS ((7 : Nat) : Int) = 0 from by decide, show ((7 : Nat) : Int) = 7 from rfl] at *
      by_cases hc : c = 0
      rotate_left
      · have HM := Lib.hid (show v = false by rw [← HV.out]; exact decide_eq_false (fun h => hc (h.2.1.1 (show manyS 7 < 3 by decide))))
        have q1 : (c != 0) = true := bne_iff_ne.2 hc
        clear hc HV
        go_wp2
        go_ret
        rw [HM.out]
        exact ⟨rfl, HB.out⟩
      have Hc := Lib.hid hc
      have qc : (c != 0) = false := bne_eq_false_iff_eq.2 hc
      clear hc
      by_cases hb : b = 0
      rotate_left
      · have HM := Lib.hid (show v = false by rw [← HV.out]; exact decide_eq_false (fun h => hb (h.2.1.2.1 (show manyS 7 < 2 by decide))))
        have q1 : (b != 0) = true := bne_iff_ne.2 hb
        clear hb HV
        go_wp2
        go_ret
        rw [HM.out]
        exact ⟨rfl, HB.out⟩
      have Hb := Lib.hid hb
      have qb : (b != 0) = false := bne_eq_false_iff_eq.2 hb
      clear hb
      by_cases ha : a = 0
      rotate_left
      · have HM := Lib.hid (show v = false by rw [← HV.out]; exact decide_eq_false (fun h => ha (h.2.1.2.2 (show manyS 7 < 1 by decide))))
        have q1 : (a != 0) = true := bne_iff_ne.2 ha
        clear ha HV
        go_wp2
        go_ret
        rw [HM.out]
        exact ⟨rfl, HB.out⟩
      have Ha := Lib.hid ha
      have qa : (a != 0) = false := bne_eq_false_iff_eq.2 ha
      clear ha
      by_cases hn : n = 0
      rotate_left
      · have HM := Lib.hid (show v = false by rw [← HV.out]; exact decide_eq_false (fun h => hn (HN.out.symm.trans (h.2.2.1 (show (7 : Int) ≠ 14 by decide)))))
        have q1 : 0 < n := by omega
        clear hn HV
        go_wp2
        go_ret
        rw [HM.out]
        exact ⟨rfl, HB.out⟩
      have q2 : ¬ 0 < n := by omega
      have q3 : decide (0 < n) = false := decide_eq_false q2
      have HM := Lib.hid (show v = true by
        rw [← HV.out]
        rw [show decide (MayX ⟨7, a, b, c, fs⟩) = decide (BoundsX ⟨7, a, b, c, fs⟩) from decide_eq_decide.2 ⟨fun h => h.2.2.2, fun h => ⟨show InS 7 1 14 by decide, ⟨fun _ => Hc.out, fun _ => Hb.out, fun _ => Ha.out⟩, fun _ => HN.out.trans hn, h⟩⟩]
        rw [boundsX_else _ _ _ _ (by decide) (by decide) (by decide) (by decide) (by decide) (by decide)])
      clear HV hn
      go_wp2_with (first | (go_at_call 31; (with_reducible refine (IC.out _ _ _ _).mono ?_); rintro e w' ⟨rfl, rfl⟩) | (go_at_call 32; (with_reducible refine (RF2.out).mono ?_); rintro e w3 ⟨rfl, hb⟩; have HB := Lib.hid (below_step HB.out hb); clear hb))
      go_ret
      rw [HM.out]
      exact ⟨rfl, HB.out⟩
    · simp only [show manyS ((8 : Nat) : Int) = 1 from by decide, show ((8 : Nat) : Int) = 8 from rfl] at *
      by_cases hc : c = 0
      rotate_left
      · have HM := Lib.hid (show v = false by rw [← HV.out]; exact decide_eq_false (fun h => hc (h.2.1.1 (show manyS 8 < 3 by decide))))
        have q1 : (c != 0) = true := bne_iff_ne.2 hc
        clear hc HV
        go_wp2
        go_ret
        rw [HM.out]
        exact ⟨rfl, HB.out⟩
      have Hc := Lib.hid hc
      have qc : (c != 0) = false := bne_eq_false_iff_eq.2 hc
      clear hc
      by_cases hb : b = 0
      rotate_left
      · have HM := Lib.hid (show v = false by rw [← HV.out]; exact decide_eq_false (fun h => hb (h.2.1.2.1 (show manyS 8 < 2 by decide))))
        have q1 : (b != 0) = true := bne_iff_ne.2 hb
        clear hb HV
        go_wp2
        go_ret
        rw [HM.out]
        exact ⟨rfl, HB.out⟩
      have Hb := Lib.hid hb
      have qb : (b != 0) = false := bne_eq_false_iff_eq.2 hb
      clear hb
      by_cases hn : n = 0
      rotate_left
      · have HM := Lib.hid (show v = false by rw [← HV.out]; exact decide_eq_false (fun h => hn (HN.out.symm.trans (h.2.2.1 (show (8 : Int) ≠ 14 by decide)))))
        have q1 : 0 < n := by omega
        clear hn HV
        go_wp2
        go_ret
        rw [HM.out]
        exact ⟨rfl, HB.out⟩
      have q2 : ¬ 0 < n := by omega
      have q3 : decide (0 < n) = false := decide_eq_false q2
      have HM := Lib.hid (show v = true by
        rw [← HV.out]
        rw [show decide (MayX ⟨8, a, b, c, fs⟩) = decide (BoundsX ⟨8, a, b, c, fs⟩) from decide_eq_decide.2 ⟨fun h => h.2.2.2, fun h => ⟨show InS 8 1 14 by decide, ⟨fun _ => Hc.out, fun _ => Hb.out, fun h => absurd h (show ¬ manyS 8 < 1 by decide)⟩, fun _ => HN.out.trans hn, h⟩⟩]
        rw [boundsX_else _ _ _ _ (by decide) (by decide) (by decide) (by decide) (by decide) (by decide)])
      clear HV hn
      go_wp2_with (first | (go_at_call 31; (with_reducible refine (IC.out _ _ _ _).mono ?_); rintro e w' ⟨rfl, rfl⟩) | (go_at_call 32; (with_reducible refine (RF2.out).mono ?_); rintro e w3 ⟨rfl, hb⟩; have HB := Lib.hid (below_step HB.out hb); clear hb))
      go_ret
      rw [HM.out]
      exact ⟨rfl, HB.out⟩
    · simp only [show manyS ((9 : Nat) : Int) = 0 from by decide, show ((9 : Nat) : Int) = 9 from rfl] at *
      by_cases hc : c = 0
      rotate_left
      · have HM := Lib.hid (show v = false by rw [← HV.out]; exact decide_eq_false (fun h => hc (h.2.1.1 (show manyS 9 < 3 by decide))))
        have q1 : (c != 0) = true := bne_iff_ne.2 hc
        clear hc HV
        go_wp2
        go_ret
        rw [HM.out]
        exact ⟨rfl, HB.out⟩
      have Hc := Lib.hid hc
      have qc : (c != 0) = false := bne_eq_false_iff_eq.2 hc
      clear hc
      by_cases hb : b = 0
      rotate_left
      · have HM := Lib.hid (show v = false by rw [← HV.out]; exact decide_eq_false (fun h => hb (h.2.1.2.1 (show manyS 9 < 2 by decide))))
        have q1 : (b != 0) = true := bne_iff_ne.2 hb
        clear hb HV
        go_wp2
        go_ret
        rw [HM.out]
        exact ⟨rfl, HB.out⟩
      have Hb := Lib.hid hb
      have qb : (b != 0) = false := bne_eq_false_iff_eq.2 hb
      clear hb
      by_cases ha : a = 0
      rotate_left
      · have HM := Lib.hid (show v = false by rw [← HV.out]; exact decide_eq_false (fun h => ha (h.2.1.2.2 (show manyS 9 < 1 by decide))))
        have q1 : (a != 0) = true := bne_iff_ne.2 ha
        clear ha HV
        go_wp2
        go_ret
        rw [HM.out]
        exact ⟨rfl, HB.out⟩
      have Ha := Lib.hid ha
      have qa : (a != 0) = false := bne_eq_false_iff_eq.2 ha
      clear ha
      by_cases hn : n = 0
      rotate_left
      · have HM := Lib.hid (show v = false by rw [← HV.out]; exact decide_eq_false (fun h => hn (HN.out.symm.trans (h.2.2.1 (show (9 : Int) ≠ 14 by decide)))))
        have q1 : 0 < n := by omega
        clear hn HV
        go_wp2
        go_ret
        rw [HM.out]
        exact ⟨rfl, HB.out⟩
      have q2 : ¬ 0 < n := by omega
      have q3 : decide (0 < n) = false := decide_eq_false q2
      have HM := Lib.hid (show v = true by
        rw [← HV.out]
        rw [show decide (MayX ⟨9, a, b, c, fs⟩) = decide (BoundsX ⟨9, a, b, c, fs⟩) from decide_eq_decide.2 ⟨fun h => h.2.2.2, fun h => ⟨show InS 9 1 14 by decide, ⟨fun _ => Hc.out, fun _ => Hb.out, fun _ => Ha.out⟩, fun _ => HN.out.trans hn, h⟩⟩]
        rw [boundsX_else _ _ _ _ (by decide) (by decide) (by decide) (by decide) (by decide) (by decide)])
      clear HV hn
      go_wp2_with (first | (go_at_call 31; (with_reducible refine (IC.out _ _ _ _).mono ?_); rintro e w' ⟨rfl, rfl⟩) | (go_at_call 32; (with_reducible refine (RF2.out).mono ?_); rintro e w3 ⟨rfl, hb⟩; have HB := Lib.hid (below_step HB.out hb); clear hb))
      go_ret
      rw [HM.out]
      exact ⟨rfl, HB.out⟩
    · simp only [show manyS ((10 : Nat) : Int) = 0 from by decide, show ((10 : Nat) : Int) = 10 from rfl] at *
      by_cases hc : c = 0
      rotate_left
      · have HM := Lib.hid (show v = false by rw [← HV.out]; exact decide_eq_false (fun h => hc (h.2.1.1 (show manyS 10 < 3 by decide))))
        have q1 : (c != 0) = true := bne_iff_ne.2 hc
        clear hc HV
        go_wp2
        go_ret
        rw [HM.out]
        exact ⟨rfl, HB.out⟩
      have Hc := Lib.hid hc
      have qc : (c != 0) = false := bne_eq_false_iff_eq.2 hc
      clear hc
      by_cases hb : b = 0
      rotate_left
      · have HM := Lib.hid (show v = false by rw [← HV.out]; exact decide_eq_false (fun h => hb (h.2.1.2.1 (show manyS 10 < 2 by decide))))
        have q1 : (b != 0) = true := bne_iff_ne.2 hb
        clear hb HV
        go_wp2
        go_ret
        rw [HM.out]
        exact ⟨rfl, HB.out⟩
      have Hb := Lib.hid hb
      have qb : (b != 0) = false := bne_eq_false_iff_eq.2 hb
      clear hb
      by_cases ha : a = 0
      rotate_left
      · have HM := Lib.hid (show v = false by rw [← HV.out]; exact decide_eq_false (fun h => ha (h.2.1.2.2 (show manyS 10 < 1 by decide))))
        have q1 : (a != 0) = true := bne_iff_ne.2 ha
        clear ha HV
        go_wp2
        go_ret
        rw [HM.out]
        exact ⟨rfl, HB.out⟩
      have Ha := Lib.hid ha
      have qa : (a != 0) = false := bne_eq_false_iff_eq.2 ha
      clear ha
      by_cases hn : n = 0
      rotate_left
      · have HM := Lib.hid (show v = false by rw [← HV.out]; exact decide_eq_false (fun h => hn (HN.out.symm.trans (h.2.2.1 (show (10 : Int) ≠ 14 by decide)))))
        have q1 : 0 < n := by omega
        clear hn HV
        go_wp2
        go_ret
        rw [HM.out]
        exact ⟨rfl, HB.out⟩
      have q2 : ¬ 0 < n := by omega
      have q3 : decide (0 < n) = false := decide_eq_false q2
      have HM := Lib.hid (show v = true by
        rw [← HV.out]
        rw [show decide (MayX ⟨10, a, b, c, fs⟩) = decide (BoundsX ⟨10, a, b, c, fs⟩) from decide_eq_decide.2 ⟨fun h => h.2.2.2, fun h => ⟨show InS 10 1 14 by decide, ⟨fun _ => Hc.out, fun _ => Hb.out, fun _ => Ha.out⟩, fun _ => HN.out.trans hn, h⟩⟩]
        rw [boundsX_else _ _ _ _ (by decide) (by decide) (by decide) (by decide) (by decide) (by decide)])
      clear HV hn
      go_wp2_with (first | (go_at_call 31; (with_reducible refine (IC.out _ _ _ _).mono ?_); rintro e w' ⟨rfl, rfl⟩) | (go_at_call 32; (with_reducible refine (RF2.out).mono ?_); rintro e w3 ⟨rfl, hb⟩; have HB := Lib.hid (below_step HB.out hb); clear hb))
      go_ret
      rw [HM.out]
      exact ⟨rfl, HB.out⟩
    · simp only [show manyS ((11 : Nat) : Int) = 3 from by decide, show ((11 : Nat) : Int) = 11 from rfl] at *
      by_cases hn : n = 0
      rotate_left
      · have HM := Lib.hid (show v = false by rw [← HV.out]; exact decide_eq_false (fun h => hn (HN.out.symm.trans (h.2.2.1 (show (11 : Int) ≠ 14 by decide)))))
        have q1 : 0 < n := by omega
        clear hn HV
        go_wp2
        go_ret
        rw [HM.out]
        exact ⟨rfl, HB.out⟩
      have q2 : ¬ 0 < n := by omega
      have q3 : decide (0 < n) = false := decide_eq_false q2
      have HM := Lib.hid (show v = (decide (InS a 0 1) && (decide (0 ≤ b) && decide (0 ≤ c))) by
        rw [← HV.out]
        rw [show decide (MayX ⟨11, a, b, c, fs⟩) = decide (BoundsX ⟨11, a, b, c, fs⟩) from decide_eq_decide.2 ⟨fun h => h.2.2.2, fun h => ⟨show InS 11 1 14 by decide, ⟨fun h => absurd h (show ¬ manyS 11 < 3 by decide), fun h => absurd h (show ¬ manyS 11 < 2 by decide), fun h => absurd h (show ¬ manyS 11 < 1 by decide)⟩, fun _ => HN.out.trans hn, h⟩⟩]
        rw [boundsX_11])
      clear HV hn
      have S1 := Lib.hid (fun w => IC.out a 0 1 w)
      cases hA : decide (InS a 0 1)
      · rw [hA] at S1 HM
        clear hA
        go_wp2_with (go_at_call 31; (with_reducible refine (S1.out _).mono ?_); rintro e w' ⟨rfl, rfl⟩)
        go_ret
        rw [HM.out]
        exact ⟨rfl, HB.out⟩
      · rw [hA] at S1 HM
        clear hA
        by_cases hB : 0 ≤ b
        · rw [decide_eq_true hB] at HM
          go_wp2_with (go_at_call 31; (with_reducible refine (S1.out _).mono ?_); rintro e w' ⟨rfl, rfl⟩)
          go_ret
          rw [HM.out]
          exact ⟨ret_bool (by simp), HB.out⟩
        · rw [decide_eq_false hB] at HM
          go_wp2_with (go_at_call 31; (with_reducible refine (S1.out _).mono ?_); rintro e w' ⟨rfl, rfl⟩)
          go_ret
          rw [HM.out]
          exact ⟨rfl, HB.out⟩
    · simp only [show manyS ((12 : Nat) : Int) = 3 from by decide, show ((12 : Nat) : Int) = 12 from rfl] at *
      by_cases hn : n = 0
      rotate_left
      · have HM := Lib.hid (show v = false by rw [← HV.out]; exact decide_eq_false (fun h => hn (HN.out.symm.trans (h.2.2.1 (show (12 : Int) ≠ 14 by decide)))))
        have q1 : 0 < n := by omega
        clear hn HV
        go_wp2
        go_ret
        rw [HM.out]
        exact ⟨rfl, HB.out⟩
      have q2 : ¬ 0 < n := by omega
      have q3 : decide (0 < n) = false := decide_eq_false q2
      have HM := Lib.hid (show v = decide (InS c 1 4294967295) by
        rw [← HV.out]
        rw [show decide (MayX ⟨12, a, b, c, fs⟩) = decide (BoundsX ⟨12, a, b, c, fs⟩) from decide_eq_decide.2 ⟨fun h => h.2.2.2, fun h => ⟨show InS 12 1 14 by decide, ⟨fun h => absurd h (show ¬ manyS 12 < 3 by decide), fun h => absurd h (show ¬ manyS 12 < 2 by decide), fun h => absurd h (show ¬ manyS 12 < 1 by decide)⟩, fun _ => HN.out.trans hn, h⟩⟩]
        rw [boundsX_12])
      clear HV hn
      go_wp2_with (first | (go_at_call 31; (with_reducible refine (IC.out _ _ _ _).mono ?_); rintro e w' ⟨rfl, rfl⟩) | (go_at_call 32; (with_reducible refine (RF2.out).mono ?_); rintro e w3 ⟨rfl, hb⟩; have HB := Lib.hid (below_step HB.out hb); clear hb))
      go_ret
      rw [HM.out]
      exact ⟨rfl, HB.out⟩
    · simp only [show manyS ((13 : Nat) : Int) = 1 from by decide, show ((13 : Nat) : Int) = 13 from rfl] at *
      by_cases hc : c = 0
      rotate_left
      · have HM := Lib.hid (show v = false by rw [← HV.out]; exact decide_eq_false (fun h => hc (h.2.1.1 (show manyS 13 < 3 by decide))))
        have q1 : (c != 0) = true := bne_iff_ne.2 hc
        clear hc HV
        go_wp2
        go_ret
        rw [HM.out]
        exact ⟨rfl, HB.out⟩
      have Hc := Lib.hid hc
      have qc : (c != 0) = false := bne_eq_false_iff_eq.2 hc
      clear hc
      by_cases hb : b = 0
      rotate_left
      · have HM := Lib.hid (show v = false by rw [← HV.out]; exact decide_eq_false (fun h => hb (h.2.1.2.1 (show manyS 13 < 2 by decide))))
        have q1 : (b != 0) = true := bne_iff_ne.2 hb
        clear hb HV
        go_wp2
        go_ret
        rw [HM.out]
        exact ⟨rfl, HB.out⟩
      have Hb := Lib.hid hb
      have qb : (b != 0) = false := bne_eq_false_iff_eq.2 hb
      clear hb
      by_cases hn : n = 0
      rotate_left
      · have HM := Lib.hid (show v = false by rw [← HV.out]; exact decide_eq_false (fun h => hn (HN.out.symm.trans (h.2.2.1 (show (13 : Int) ≠ 14 by decide)))))
        have q1 : 0 < n := by omega
        clear hn HV
        go_wp2
        go_ret
        rw [HM.out]
        exact ⟨rfl, HB.out⟩
      have q2 : ¬ 0 < n := by omega
      have q3 : decide (0 < n) = false := decide_eq_false q2
      have HM := Lib.hid (show v = decide (InS a (-1) 1048576) by
        rw [← HV.out]
        rw [show decide (MayX ⟨13, a, b, c, fs⟩) = decide (BoundsX ⟨13, a, b, c, fs⟩) from decide_eq_decide.2 ⟨fun h => h.2.2.2, fun h => ⟨show InS 13 1 14 by decide, ⟨fun _ => Hc.out, fun _ => Hb.out, fun h => absurd h (show ¬ manyS 13 < 1 by decide)⟩, fun _ => HN.out.trans hn, h⟩⟩]
        rw [boundsX_13])
      clear HV hn
      go_wp2_with (first | (go_at_call 31; (with_reducible refine (IC.out _ _ _ _).mono ?_); rintro e w' ⟨rfl, rfl⟩) | (go_at_call 32; (with_reducible refine (RF2.out).mono ?_); rintro e w3 ⟨rfl, hb⟩; have HB := Lib.hid (below_step HB.out hb); clear hb))
      go_ret
      rw [HM.out]
      exact ⟨rfl, HB.out⟩
    · simp only [show manyS ((14 : Nat) : Int) = 1 from by decide, show ((14 : Nat) : Int) = 14 from rfl] at *
      by_cases hc : c = 0
      rotate_left
      · have HM := Lib.hid (show v = false by rw [← HV.out]; exact decide_eq_false (fun h => hc (h.2.1.1 (show manyS 14 < 3 by decide))))
        have q1 : (c != 0) = true := bne_iff_ne.2 hc
        clear hc HV
        go_wp2
        go_ret
        rw [HM.out]
        exact ⟨rfl, HB.out⟩
      have Hc := Lib.hid hc
      have qc : (c != 0) = false := bne_eq_false_iff_eq.2 hc
      clear hc
      by_cases hb : b = 0
      rotate_left
      · have HM := Lib.hid (show v = false by rw [← HV.out]; exact decide_eq_false (fun h => hb (h.2.1.2.1 (show manyS 14 < 2 by decide))))
        have q1 : (b != 0) = true := bne_iff_ne.2 hb
        clear hb HV
        go_wp2
        go_ret
        rw [HM.out]
        exact ⟨rfl, HB.out⟩
      have Hb := Lib.hid hb
      have qb : (b != 0) = false := bne_eq_false_iff_eq.2 hb
      clear hb
      have HM := Lib.hid (show v = (decide (n ≤ 64) && (decide (InS a 0 n) && decide (FatesOk fs))) by
        rw [← HV.out]
        rw [show decide (MayX ⟨14, a, b, c, fs⟩) = decide (BoundsX ⟨14, a, b, c, fs⟩) from decide_eq_decide.2 ⟨fun h => h.2.2.2, fun h => ⟨show InS 14 1 14 by decide, ⟨fun _ => Hc.out, fun _ => Hb.out, fun h => absurd h (show ¬ manyS 14 < 1 by decide)⟩, fun h => absurd rfl h, h⟩⟩]
        rw [boundsX_14, HN.out])
      clear HV
      go_wp2_with (first | (go_at_call 31; (with_reducible refine (IC.out _ _ _ _).mono ?_); rintro e w' ⟨rfl, rfl⟩) | (go_at_call 32; (with_reducible refine (RF2.out).mono ?_); rintro e w3 ⟨rfl, hb⟩; have HB := Lib.hid (below_step HB.out hb); clear hb))
      go_ret
      rw [HM.out]
      exact ⟨rfl, HB.out⟩
set_option maxRecDepth 100000 in
set_option maxHeartbeats 4000000 in
theorem rmay_calls (x : Sp) (fa : Option Addr) (fc : Nat) (w : World) (h : Row .i64 w fa x.fs) :
    Calls Tryd.prog 15 #[stepV x fa fc] w fun e w' => e = .returned (.bool (decide (MayX x))) ∧ Below w.heap.size w w' := by
  by_cases hop : InS x.op 1 14
  · exact rmay_in x.op x.a x.b x.c x.fs fa fc w h hop
  · have OPC := Lib.hid (fun w => rop_calls x.op w)
    rw [decide_eq_false hop] at OPC
    have D := Lib.hid (show decide (MayX x) = false from decide_eq_false (fun h => hop h.1))
    have HB := Lib.hid (below_alloc (Below.refl w.heap.size w) (.cells (stepC x fa fc) 25))
    clear hop h
    unfold stepV stepC at *
    obtain ⟨op, a, b, c, fs⟩ := x
    dsimp only at *
    generalize fs.length = n at *
    go_enter Tryd.func15, Tryd.ntmps15
    go_wp2_with (go_at_call 9; (with_reducible refine (OPC.out _).mono ?_); rintro e w' ⟨rfl, rfl⟩)
    go_ret
    exact ⟨ret_bool (by rw [D.out]), HB.out⟩
end Go.Proofs.YtminokbigpckaaaDoor.Ct
