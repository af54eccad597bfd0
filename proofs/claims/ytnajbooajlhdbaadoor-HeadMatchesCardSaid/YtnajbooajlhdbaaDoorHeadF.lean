import Derived.Test.YtnajbooajlhdbaaDoorHeadE
/-! Heads: Of, Matches, both. -/
namespace Go.Proofs.YtnajbooajlhdbaaDoor.Ct
open Go.RowKit
set_option linter.unusedVariables false
set_option linter.unusedSimpArgs false
def sumI (xs : List Int) : Int := ((sumC xs).toNat : Int)
theorem sumI_bd (xs : List Int) : 0 ≤ sumI xs ∧ sumI xs ≤ 4294967295 := w32_bd (sumC xs)
def ofH (lba gen : Int) (xs : List Int) (wear : Int) : Hd := ⟨true, lba, gen, sumI xs, wear⟩
set_option maxHeartbeats 4000000 in
theorem hof_calls (lba gen : Int) (a : Option Addr) (cap : Nat) (xs : List Int) (wear : Int) (w : World) (h : Row .u8 w a xs) (hT : Tab w) :
    Calls Tryd.prog 13 #[.int .i64 lba, .int .u64 gen, .slice a xs.length cap, .int .u32 wear] w fun e w' => e = .returned (headV (ofH lba gen xs wear)) ∧ Below w.heap.size w w' := by
  have hl := h.len
  have hb1 := below_alloc (Below.refl w.heap.size w) (.cells (headC noHd) 25)
  have hk1 : Blk (w.alloc (.cells (headC noHd) 25)) w.heap.size 25 (headC noHd) := Blk.new _ _ _
  have sc := csum_one a cap xs 26 (w.alloc (.cells (headC noHd) 25)) (w.heap.size + 1) (by simp) (h.below hb1) (hT.below hb1)
  have hb2 := below_alloc hb1 (.cells #[.slice a xs.length cap] 26)
  have hk2 := hk1.alloc (.cells #[.slice a xs.length cap] 26)
  have SC := Lib.hid (show Calls Tryd.prog 33 #[.slice (some ⟨w.heap.size + 1, 0, none⟩) 1 1] ((w.alloc (.cells (headC noHd) 25)).alloc (.cells #[.slice a xs.length cap] 26)) fun e w' => e = .returned (.int .u32 (sumI xs)) ∧ Blk w' w.heap.size 25 (headC noHd) ∧ Below w.heap.size w w' from
    sc.mono fun e w' ⟨h1, h2⟩ => ⟨h1, h2 ▸ hk2, h2 ▸ hb2⟩)
  obtain ⟨s0, s1⟩ := sumI_bd xs
  clear hb1 hk1 sc hb2 hk2 hT h
  unfold headV headC ofH noHd at *
  dsimp only at *
  generalize sumI xs = sm at *
  go_enter Tryd.func13, Tryd.ntmps13
  go_wp2_with (go_at_call 33; (with_reducible refine (SC.out).mono ?_); rintro e w2 ⟨rfl, hk, hb⟩; have HK := Lib.hid hk; have HB := Lib.hid hb; obtain ⟨⟨k0, k1, k2, k3, k4⟩, f0, f1, f2, f3, f4⟩ := cells5 hk; clear hk hb)
  refine bodyPost_ret (results_c rfl _ _ w.heap.size _ _ _ _ rfl (HK.out.set5 _ _ _ _ _) Tryd.underlying25 rfl (by kernel_rfl)) rfl ?_
  exact ⟨rfl, below_set5 HB.out (Nat.le_refl _) _ _ _ _ _⟩
set_option maxHeartbeats 4000000 in
theorem rhof_calls (lba gen : Int) (a : Option Addr) (cap : Nat) (xs : List Int) (wear : Int) (w : World) (h : Row .u8 w a xs) :
    Calls Tryd.prog 14 #[.int .i64 lba, .int .u64 gen, .slice a xs.length cap, .int .u32 wear] w fun e w' => e = .returned (headV (ofH lba gen xs wear)) ∧ Below w.heap.size w w' := by
  have hl := h.len
  have hb1 := below_alloc (Below.refl w.heap.size w) (.cells (headC noHd) 25)
  have hk1 : Blk (w.alloc (.cells (headC noHd) 25)) w.heap.size 25 (headC noHd) := Blk.new _ _ _
  have sc := rsum_calls a cap xs _ (h.below hb1)
  have SC := Lib.hid (show Calls Tryd.prog 34 #[.slice a xs.length cap] (w.alloc (.cells (headC noHd) 25)) fun e w' => e = .returned (.int .u32 (sumI xs)) ∧ Blk w' w.heap.size 25 (headC noHd) ∧ Below w.heap.size w w' from
    sc.mono fun e w' ⟨h1, h2⟩ => ⟨h1, h2 ▸ hk1, h2 ▸ hb1⟩)
  obtain ⟨s0, s1⟩ := sumI_bd xs
  clear hb1 hk1 sc h
  unfold headV headC ofH noHd at *
  dsimp only at *
  generalize sumI xs = sm at *
  go_enter Tryd.func14, Tryd.ntmps14
  go_wp2_with (go_at_call 34; (with_reducible refine (SC.out).mono ?_); rintro e w2 ⟨rfl, hk, hb⟩; have HK := Lib.hid hk; have HB := Lib.hid hb; obtain ⟨⟨k0, k1, k2, k3, k4⟩, f0, f1, f2, f3, f4⟩ := cells5 hk; clear hk hb)
  refine bodyPost_ret (results_c rfl _ _ w.heap.size _ _ _ _ rfl (HK.out.set5 _ _ _ _ _) Tryd.underlying25 rfl (by kernel_rfl)) rfl ?_
  exact ⟨rfl, below_set5 HB.out (Nat.le_refl _) _ _ _ _ _⟩
def matchS (h : Hd) (lba : Int) (xs : List Int) : Int := if h.used = true ∧ h.lba = lba then (if h.sum = sumI xs then 0 else 40) else 4
set_option maxHeartbeats 4000000 in
theorem hmat_calls (h : Hd) (lba : Int) (a : Option Addr) (cap : Nat) (xs : List Int) (w : World) (hr : Row .u8 w a xs) (hT : Tab w) :
    Calls Tryd.prog 16 #[headV h, .int .i64 lba, .slice a xs.length cap] w fun e w' => e = .returned (.int .i64 (matchS h lba xs)) ∧ Below w.heap.size w w' := by
  have hl := hr.len
  have hb1 := below_alloc (Below.refl w.heap.size w) (.cells (headC h) 25)
  have hk1 : Blk (w.alloc (.cells (headC h) 25)) w.heap.size 25 (headC h) := Blk.new _ _ _
  obtain ⟨used, hlba, gen, sum, wear⟩ := h
  have sc := csum_one a cap xs 26 (w.alloc (.cells #[.bool used, .int .i64 hlba, .int .u64 gen, .int .u32 sum, .int .u32 wear] 25)).drew (w.heap.size + 1) (by show _ = (w.alloc _).heap.size; simp) (hr.below (below_drew hb1)) (hT.below (below_drew hb1))
  have SC := Lib.hid (show Calls Tryd.prog 33 #[.slice (some ⟨w.heap.size + 1, 0, none⟩) 1 1] ((w.alloc (.cells #[.bool used, .int .i64 hlba, .int .u64 gen, .int .u32 sum, .int .u32 wear] 25)).alloc (.cells #[.slice a xs.length cap] 26)).drew fun e w' => e = .returned (.int .u32 ((sumC xs).toNat : Int)) ∧ Blk w' w.heap.size 25 #[.bool used, .int .i64 hlba, .int .u64 gen, .int .u32 sum, .int .u32 wear] ∧ Below w.heap.size w w' from
    sc.mono fun e w' ⟨h1, h2⟩ => ⟨h1, h2 ▸ (hk1.drew.alloc _), h2 ▸ below_alloc (below_drew hb1) _⟩)
  clear sc
  rw [show ((sumC xs).toNat : Int) = sumI xs from rfl] at SC
  have HB1 := Lib.hid hb1
  have HK1 := Lib.hid hk1
  unfold headV headC matchS at *
  dsimp only at *
  generalize sumI xs = sm at *
  clear hb1 hk1 hT hr
  cases used
  · rw [if_neg (by simp)]
    go_enter Tryd.func16, Tryd.ntmps16
    go_wp2
    go_ret
    exact ⟨rfl, HB1.out⟩
  · by_cases h1 : hlba = lba
    · have q1 : (hlba != lba) = false := bne_eq_false_iff_eq.2 h1
      rw [if_pos ⟨rfl, h1⟩]
      clear h1
      by_cases h2 : sum = sm
      · have q2 : (sum != sm) = false := bne_eq_false_iff_eq.2 h2
        rw [if_pos h2]
        clear h2
        go_enter Tryd.func16, Tryd.ntmps16
        go_upto_region 3 with (fail)
        go_region_held (fun w' => w'.cell? ⟨w.heap.size, 3, none⟩ = some (.int .u32 sum))
          (exact (cells5 ((by repeat (first | with_reducible exact HK1.out | with_reducible apply Blk.alloc | with_reducible apply Blk.drewN | with_reducible apply Blk.drew | exact HK1.out)))).1.2.2.2.1)
          (first
            | (go_at_call 33; (with_reducible refine (SC.out).mono ?_); rintro e w2 ⟨rfl, hk, hb⟩; have HB1 := Lib.hid hb; have HK1 := Lib.hid hk; clear hk hb))
        all_goals go_wp2
        all_goals go_ret
        all_goals exact ⟨rfl, HB1.out⟩
      · have q2 : (sum != sm) = true := bne_iff_ne.2 h2
        rw [if_neg h2]
        clear h2
        go_enter Tryd.func16, Tryd.ntmps16
        go_upto_region 3 with (fail)
        go_region_held (fun w' => w'.cell? ⟨w.heap.size, 3, none⟩ = some (.int .u32 sum))
          (exact (cells5 ((by repeat (first | with_reducible exact HK1.out | with_reducible apply Blk.alloc | with_reducible apply Blk.drewN | with_reducible apply Blk.drew | exact HK1.out)))).1.2.2.2.1)
          (first
            | (go_at_call 33; (with_reducible refine (SC.out).mono ?_); rintro e w2 ⟨rfl, hk, hb⟩; have HB1 := Lib.hid hb; have HK1 := Lib.hid hk; clear hk hb))
        all_goals go_wp2
        all_goals go_ret
        all_goals exact ⟨rfl, HB1.out⟩
    · have q1 : (hlba != lba) = true := bne_iff_ne.2 h1
      rw [if_neg (fun h => h1 h.2)]
      clear h1
      go_enter Tryd.func16, Tryd.ntmps16
      go_wp2
      go_ret
      exact ⟨rfl, HB1.out⟩
set_option maxHeartbeats 4000000 in
theorem rhmat_calls (h : Hd) (lba : Int) (a : Option Addr) (cap : Nat) (xs : List Int) (w : World) (hr : Row .u8 w a xs) :
    Calls Tryd.prog 17 #[headV h, .int .i64 lba, .slice a xs.length cap] w fun e w' => e = .returned (.int .i64 (matchS h lba xs)) ∧ Below w.heap.size w w' := by
  have hl := hr.len
  have hb1 := below_alloc (Below.refl w.heap.size w) (.cells (headC h) 25)
  have hk1 : Blk (w.alloc (.cells (headC h) 25)) w.heap.size 25 (headC h) := Blk.new _ _ _
  obtain ⟨used, hlba, gen, sum, wear⟩ := h
  have SC := Lib.hid (fun (W : World) (hb : Below w.heap.size w W) => rsum_calls a cap xs W (hr.below hb))
  rw [show ((sumC xs).toNat : Int) = sumI xs from rfl] at SC
  have HB1 := Lib.hid hb1
  have HK1 := Lib.hid hk1
  unfold headV headC matchS at *
  dsimp only at *
  generalize sumI xs = sm at *
  clear hb1 hk1 hr
  cases used
  · rw [if_neg (by simp)]
    go_enter Tryd.func17, Tryd.ntmps17
    go_wp2
    go_ret
    exact ⟨rfl, HB1.out⟩
  · by_cases h1 : hlba = lba
    · have q1 : (hlba != lba) = false := bne_eq_false_iff_eq.2 h1
      rw [if_pos ⟨rfl, h1⟩]
      clear h1
      by_cases h2 : sum = sm
      · have q2 : (sum != sm) = false := bne_eq_false_iff_eq.2 h2
        rw [if_pos h2]
        clear h2
        go_enter Tryd.func17, Tryd.ntmps17
        go_upto_region 3 with (fail)
        go_region_held (fun w' => w'.cell? ⟨w.heap.size, 3, none⟩ = some (.int .u32 sum))
          (exact (cells5 ((by repeat (first | with_reducible exact HK1.out | with_reducible apply Blk.alloc | with_reducible apply Blk.drewN | with_reducible apply Blk.drew | exact HK1.out)))).1.2.2.2.1)
          (first
            | (go_at_call 34; (with_reducible refine (SC.out _ ((by repeat (first | with_reducible exact HB1.out | with_reducible apply below_alloc | with_reducible apply below_drewN | with_reducible apply below_drew)))).mono ?_); rintro e w2 ⟨rfl, rfl⟩))
        all_goals go_wp2
        all_goals go_ret
        all_goals exact ⟨rfl, (by repeat (first | with_reducible exact HB1.out | with_reducible apply below_alloc | with_reducible apply below_drewN | with_reducible apply below_drew))⟩
      · have q2 : (sum != sm) = true := bne_iff_ne.2 h2
        rw [if_neg h2]
        clear h2
        go_enter Tryd.func17, Tryd.ntmps17
        go_upto_region 3 with (fail)
        go_region_held (fun w' => w'.cell? ⟨w.heap.size, 3, none⟩ = some (.int .u32 sum))
          (exact (cells5 ((by repeat (first | with_reducible exact HK1.out | with_reducible apply Blk.alloc | with_reducible apply Blk.drewN | with_reducible apply Blk.drew | exact HK1.out)))).1.2.2.2.1)
          (first
            | (go_at_call 34; (with_reducible refine (SC.out _ ((by repeat (first | with_reducible exact HB1.out | with_reducible apply below_alloc | with_reducible apply below_drewN | with_reducible apply below_drew)))).mono ?_); rintro e w2 ⟨rfl, rfl⟩))
        all_goals go_wp2
        all_goals go_ret
        all_goals exact ⟨rfl, (by repeat (first | with_reducible exact HB1.out | with_reducible apply below_alloc | with_reducible apply below_drewN | with_reducible apply below_drew))⟩
    · have q1 : (hlba != lba) = true := bne_iff_ne.2 h1
      rw [if_neg (fun h => h1 h.2)]
      clear h1
      go_enter Tryd.func17, Tryd.ntmps17
      go_wp2
      go_ret
      exact ⟨rfl, HB1.out⟩
end Go.Proofs.YtnajbooajlhdbaaDoor.Ct
