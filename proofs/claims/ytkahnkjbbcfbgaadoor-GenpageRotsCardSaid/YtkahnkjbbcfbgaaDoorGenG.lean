import Derived.Test.YtkahnkjbbcfbgaaDoorGenF
/-! The reference's Newer. -/
namespace Go.Proofs.YtkahnkjbbcfbgaaDoor.Ct
open Go.RowKit
set_option linter.unusedVariables false
set_option linter.unusedSimpArgs false
set_option maxHeartbeats 4000000 in
theorem rnewer_both1 (p0 p1 p2 p3 p4 p5 p6 p7 q0 q1 q2 q3 q4 q5 q6 q7 : Int) (za zb : Int) (a b : Option Addr) (na ca nb cb : Nat) (no : Int) (w : World) (hza : (za == 0) = true) (hzb : (zb == 0) = true) (hlt : ¬ q1 ≤ p1)
    (GA : ∀ W, Below w.heap.size w W → Calls Tryd.prog 11 #[.slice a na ca, .int .i64 no] W fun e w' => e = .returned (.tuple #[.agg #[.int .i64 p0, .int .u64 p1, .int .u64 p2, .int .u64 p3, .int .u64 p4, .int .u64 p5, .int .u64 p6, .int .u64 p7], .int .i64 za]) ∧ Below W.heap.size W w')
    (GB : ∀ W, Below w.heap.size w W → Calls Tryd.prog 11 #[.slice b nb cb, .int .i64 no] W fun e w' => e = .returned (.tuple #[.agg #[.int .i64 q0, .int .u64 q1, .int .u64 q2, .int .u64 q3, .int .u64 q4, .int .u64 q5, .int .u64 q6, .int .u64 q7], .int .i64 zb]) ∧ Below W.heap.size W w') :
    Calls Tryd.prog 13 #[.slice a na ca, .slice b nb cb, .int .i64 no] w fun e w' => e = .returned (.tuple #[.agg #[.int .i64 q0, .int .u64 q1, .int .u64 q2, .int .u64 q3, .int .u64 q4, .int .u64 q5, .int .u64 q6, .int .u64 q7], .int .i64 1, .bool true]) ∧ Below w.heap.size w w' := by
  have GA := Lib.hid GA
  have GB := Lib.hid GB
  have IX0 : ∀ W, (Instr.index 54 (.agg #[.slice a na ca, .slice b nb cb]) (.int .i64 0)).run Tryd.prog W = .ok (.slice a na ca) W := fun _ => by kernel_rfl
  have IX1 : ∀ W, (Instr.index 54 (.agg #[.slice a na ca, .slice b nb cb]) (.int .i64 1)).run Tryd.prog W = .ok (.slice b nb cb) W := fun _ => by kernel_rfl
  have EQ0 : ∀ W, Sem.run Tryd.prog (Op.equalIn 9999 23 (.agg #[.int .u64 0, .int .u64 0, .int .u64 0, .int .u64 0, .int .u64 0, .int .u64 0]) (.agg #[.int .u64 0, .int .u64 0, .int .u64 0, .int .u64 0, .int .u64 0, .int .u64 0])) W = .ok true W := fun _ => by kernel_rfl
  have hzn : (zb != 0) = false := by simp [bne, hzb]
  have hb2 := below_alloc (Below.refl w.heap.size w) (.cells #[.int .i64 0, .int .u64 0, .int .u64 0, .int .u64 0, .int .u64 0, .int .u64 0, .int .u64 0, .int .u64 0] 25)
  have hr2 : Blk (w.alloc (.cells #[.int .i64 0, .int .u64 0, .int .u64 0, .int .u64 0, .int .u64 0, .int .u64 0, .int .u64 0, .int .u64 0] 25)) w.heap.size 25 #[.int .i64 0, .int .u64 0, .int .u64 0, .int .u64 0, .int .u64 0, .int .u64 0, .int .u64 0, .int .u64 0] := Blk.new w _ _
  have HB := Lib.hid hb2
  have HRr := Lib.hid hr2
  clear hb2 hr2
  go_enter Tryd.func13, Tryd.ntmps13
  go_upto_region 2 with (go_at_call 11; (with_reducible refine (GA.out _ HB.out).mono ?_); rintro e w4 ⟨rfl, hb⟩; have HB4 := Lib.hid (below_step HB.out hb); have HR4 := Lib.hid (HRr.out.below hb); clear hb)
  have hb5 := below_alloc HB4.out (.cells #[.int .i64 p0, .int .u64 p1, .int .u64 p2, .int .u64 p3, .int .u64 p4, .int .u64 p5, .int .u64 p6, .int .u64 p7] 25)
  have hr5 := HR4.out.alloc (.cells #[.int .i64 p0, .int .u64 p1, .int .u64 p2, .int .u64 p3, .int .u64 p4, .int .u64 p5, .int .u64 p6, .int .u64 p7] 25)
  have hp5 : Blk (w4.alloc (.cells #[.int .i64 p0, .int .u64 p1, .int .u64 p2, .int .u64 p3, .int .u64 p4, .int .u64 p5, .int .u64 p6, .int .u64 p7] 25)) w4.heap.size 25 #[.int .i64 p0, .int .u64 p1, .int .u64 p2, .int .u64 p3, .int .u64 p4, .int .u64 p5, .int .u64 p6, .int .u64 p7] := Blk.new _ _ _
  generalize w4.alloc (.cells #[.int .i64 p0, .int .u64 p1, .int .u64 p2, .int .u64 p3, .int .u64 p4, .int .u64 p5, .int .u64 p6, .int .u64 p7] 25) = w5 at *
  generalize w4.heap.size = g5 at *
  have HB5 := Lib.hid hb5
  have HP5 := Lib.hid hp5
  have HR5 := Lib.hid hr5
  clear hb5 hr5 hp5
  go_upto_region 3 with (go_at_call 11; (with_reducible refine (GB.out _ HB5.out).mono ?_); rintro e w6 ⟨rfl, hb⟩; have HB6 := Lib.hid (below_step HB5.out hb); have HP6 := Lib.hid (HP5.out.below hb); have HR6 := Lib.hid (HR5.out.below hb); clear hb)
  have hb7 := below_alloc HB6.out (.cells #[.int .i64 q0, .int .u64 q1, .int .u64 q2, .int .u64 q3, .int .u64 q4, .int .u64 q5, .int .u64 q6, .int .u64 q7] 25)
  have hr7 := HR6.out.alloc (.cells #[.int .i64 q0, .int .u64 q1, .int .u64 q2, .int .u64 q3, .int .u64 q4, .int .u64 q5, .int .u64 q6, .int .u64 q7] 25)
  have hp7 := HP6.out.alloc (.cells #[.int .i64 q0, .int .u64 q1, .int .u64 q2, .int .u64 q3, .int .u64 q4, .int .u64 q5, .int .u64 q6, .int .u64 q7] 25)
  have hq7 : Blk (w6.alloc (.cells #[.int .i64 q0, .int .u64 q1, .int .u64 q2, .int .u64 q3, .int .u64 q4, .int .u64 q5, .int .u64 q6, .int .u64 q7] 25)) w6.heap.size 25 #[.int .i64 q0, .int .u64 q1, .int .u64 q2, .int .u64 q3, .int .u64 q4, .int .u64 q5, .int .u64 q6, .int .u64 q7] := Blk.new _ _ _
  generalize w6.alloc (.cells #[.int .i64 q0, .int .u64 q1, .int .u64 q2, .int .u64 q3, .int .u64 q4, .int .u64 q5, .int .u64 q6, .int .u64 q7] 25) = w7 at *
  generalize w6.heap.size = g7 at *
  obtain ⟨⟨i0, i1, i2, i3, i4, i5, i6, i7⟩, -⟩ := cells8 hp7
  obtain ⟨⟨j0, j1, j2, j3, j4, j5, j6, j7⟩, -⟩ := cells8 hq7
  obtain ⟨⟨k0, k1, k2, k3, k4, k5, k6, k7⟩, f0, f1, f2, f3, f4, f5, f6, f7⟩ := cells8 hr7
  have HB7 := Lib.hid hb7
  have HR7 := Lib.hid hr7
  clear hb7 hr7 hp7 hq7
  go_wp2
  all_goals
    refine bodyPost_ret (results_ctt rfl _ _ w.heap.size _ _ _ _ rfl (HR7.out.set8 _ _ _ _ _ _ _ _) Tryd.underlying25 rfl (by kernel_rfl)) rfl ?_
    exact ⟨rfl, below_set8 HB7.out (Nat.le_refl _) _ _ _ _ _ _ _ _⟩
set_option maxHeartbeats 4000000 in
theorem rnewer_both0 (p0 p1 p2 p3 p4 p5 p6 p7 q0 q1 q2 q3 q4 q5 q6 q7 : Int) (za zb : Int) (a b : Option Addr) (na ca nb cb : Nat) (no : Int) (w : World) (hza : (za == 0) = true) (hzb : (zb == 0) = true) (hlt : q1 ≤ p1)
    (GA : ∀ W, Below w.heap.size w W → Calls Tryd.prog 11 #[.slice a na ca, .int .i64 no] W fun e w' => e = .returned (.tuple #[.agg #[.int .i64 p0, .int .u64 p1, .int .u64 p2, .int .u64 p3, .int .u64 p4, .int .u64 p5, .int .u64 p6, .int .u64 p7], .int .i64 za]) ∧ Below W.heap.size W w')
    (GB : ∀ W, Below w.heap.size w W → Calls Tryd.prog 11 #[.slice b nb cb, .int .i64 no] W fun e w' => e = .returned (.tuple #[.agg #[.int .i64 q0, .int .u64 q1, .int .u64 q2, .int .u64 q3, .int .u64 q4, .int .u64 q5, .int .u64 q6, .int .u64 q7], .int .i64 zb]) ∧ Below W.heap.size W w') :
    Calls Tryd.prog 13 #[.slice a na ca, .slice b nb cb, .int .i64 no] w fun e w' => e = .returned (.tuple #[.agg #[.int .i64 p0, .int .u64 p1, .int .u64 p2, .int .u64 p3, .int .u64 p4, .int .u64 p5, .int .u64 p6, .int .u64 p7], .int .i64 0, .bool true]) ∧ Below w.heap.size w w' := by
  have GA := Lib.hid GA
  have GB := Lib.hid GB
  have IX0 : ∀ W, (Instr.index 54 (.agg #[.slice a na ca, .slice b nb cb]) (.int .i64 0)).run Tryd.prog W = .ok (.slice a na ca) W := fun _ => by kernel_rfl
  have IX1 : ∀ W, (Instr.index 54 (.agg #[.slice a na ca, .slice b nb cb]) (.int .i64 1)).run Tryd.prog W = .ok (.slice b nb cb) W := fun _ => by kernel_rfl
  have EQ0 : ∀ W, Sem.run Tryd.prog (Op.equalIn 9999 23 (.agg #[.int .u64 0, .int .u64 0, .int .u64 0, .int .u64 0, .int .u64 0, .int .u64 0]) (.agg #[.int .u64 0, .int .u64 0, .int .u64 0, .int .u64 0, .int .u64 0, .int .u64 0])) W = .ok true W := fun _ => by kernel_rfl
  have hzn : (zb != 0) = false := by simp [bne, hzb]
  have hb2 := below_alloc (Below.refl w.heap.size w) (.cells #[.int .i64 0, .int .u64 0, .int .u64 0, .int .u64 0, .int .u64 0, .int .u64 0, .int .u64 0, .int .u64 0] 25)
  have hr2 : Blk (w.alloc (.cells #[.int .i64 0, .int .u64 0, .int .u64 0, .int .u64 0, .int .u64 0, .int .u64 0, .int .u64 0, .int .u64 0] 25)) w.heap.size 25 #[.int .i64 0, .int .u64 0, .int .u64 0, .int .u64 0, .int .u64 0, .int .u64 0, .int .u64 0, .int .u64 0] := Blk.new w _ _
  have HB := Lib.hid hb2
  have HRr := Lib.hid hr2
  clear hb2 hr2
  go_enter Tryd.func13, Tryd.ntmps13
  go_upto_region 2 with (go_at_call 11; (with_reducible refine (GA.out _ HB.out).mono ?_); rintro e w4 ⟨rfl, hb⟩; have HB4 := Lib.hid (below_step HB.out hb); have HR4 := Lib.hid (HRr.out.below hb); clear hb)
  have hb5 := below_alloc HB4.out (.cells #[.int .i64 p0, .int .u64 p1, .int .u64 p2, .int .u64 p3, .int .u64 p4, .int .u64 p5, .int .u64 p6, .int .u64 p7] 25)
  have hr5 := HR4.out.alloc (.cells #[.int .i64 p0, .int .u64 p1, .int .u64 p2, .int .u64 p3, .int .u64 p4, .int .u64 p5, .int .u64 p6, .int .u64 p7] 25)
  have hp5 : Blk (w4.alloc (.cells #[.int .i64 p0, .int .u64 p1, .int .u64 p2, .int .u64 p3, .int .u64 p4, .int .u64 p5, .int .u64 p6, .int .u64 p7] 25)) w4.heap.size 25 #[.int .i64 p0, .int .u64 p1, .int .u64 p2, .int .u64 p3, .int .u64 p4, .int .u64 p5, .int .u64 p6, .int .u64 p7] := Blk.new _ _ _
  generalize w4.alloc (.cells #[.int .i64 p0, .int .u64 p1, .int .u64 p2, .int .u64 p3, .int .u64 p4, .int .u64 p5, .int .u64 p6, .int .u64 p7] 25) = w5 at *
  generalize w4.heap.size = g5 at *
  have HB5 := Lib.hid hb5
  have HP5 := Lib.hid hp5
  have HR5 := Lib.hid hr5
  clear hb5 hr5 hp5
  go_upto_region 3 with (go_at_call 11; (with_reducible refine (GB.out _ HB5.out).mono ?_); rintro e w6 ⟨rfl, hb⟩; have HB6 := Lib.hid (below_step HB5.out hb); have HP6 := Lib.hid (HP5.out.below hb); have HR6 := Lib.hid (HR5.out.below hb); clear hb)
  have hb7 := below_alloc HB6.out (.cells #[.int .i64 q0, .int .u64 q1, .int .u64 q2, .int .u64 q3, .int .u64 q4, .int .u64 q5, .int .u64 q6, .int .u64 q7] 25)
  have hr7 := HR6.out.alloc (.cells #[.int .i64 q0, .int .u64 q1, .int .u64 q2, .int .u64 q3, .int .u64 q4, .int .u64 q5, .int .u64 q6, .int .u64 q7] 25)
  have hp7 := HP6.out.alloc (.cells #[.int .i64 q0, .int .u64 q1, .int .u64 q2, .int .u64 q3, .int .u64 q4, .int .u64 q5, .int .u64 q6, .int .u64 q7] 25)
  have hq7 : Blk (w6.alloc (.cells #[.int .i64 q0, .int .u64 q1, .int .u64 q2, .int .u64 q3, .int .u64 q4, .int .u64 q5, .int .u64 q6, .int .u64 q7] 25)) w6.heap.size 25 #[.int .i64 q0, .int .u64 q1, .int .u64 q2, .int .u64 q3, .int .u64 q4, .int .u64 q5, .int .u64 q6, .int .u64 q7] := Blk.new _ _ _
  generalize w6.alloc (.cells #[.int .i64 q0, .int .u64 q1, .int .u64 q2, .int .u64 q3, .int .u64 q4, .int .u64 q5, .int .u64 q6, .int .u64 q7] 25) = w7 at *
  generalize w6.heap.size = g7 at *
  obtain ⟨⟨i0, i1, i2, i3, i4, i5, i6, i7⟩, -⟩ := cells8 hp7
  obtain ⟨⟨j0, j1, j2, j3, j4, j5, j6, j7⟩, -⟩ := cells8 hq7
  obtain ⟨⟨k0, k1, k2, k3, k4, k5, k6, k7⟩, f0, f1, f2, f3, f4, f5, f6, f7⟩ := cells8 hr7
  have HB7 := Lib.hid hb7
  have HR7 := Lib.hid hr7
  clear hb7 hr7 hp7 hq7
  go_wp2
  all_goals
    refine bodyPost_ret (results_ctt rfl _ _ w.heap.size _ _ _ _ rfl (HR7.out.set8 _ _ _ _ _ _ _ _) Tryd.underlying25 rfl (by kernel_rfl)) rfl ?_
    exact ⟨rfl, below_set8 HB7.out (Nat.le_refl _) _ _ _ _ _ _ _ _⟩
set_option maxHeartbeats 4000000 in
theorem rnewer_one0 (p0 p1 p2 p3 p4 p5 p6 p7 q0 q1 q2 q3 q4 q5 q6 q7 : Int) (za zb : Int) (a b : Option Addr) (na ca nb cb : Nat) (no : Int) (w : World) (hza : (za == 0) = true) (hzb : (zb == 0) = false) 
    (GA : ∀ W, Below w.heap.size w W → Calls Tryd.prog 11 #[.slice a na ca, .int .i64 no] W fun e w' => e = .returned (.tuple #[.agg #[.int .i64 p0, .int .u64 p1, .int .u64 p2, .int .u64 p3, .int .u64 p4, .int .u64 p5, .int .u64 p6, .int .u64 p7], .int .i64 za]) ∧ Below W.heap.size W w')
    (GB : ∀ W, Below w.heap.size w W → Calls Tryd.prog 11 #[.slice b nb cb, .int .i64 no] W fun e w' => e = .returned (.tuple #[.agg #[.int .i64 0, .int .u64 0, .int .u64 0, .int .u64 0, .int .u64 0, .int .u64 0, .int .u64 0, .int .u64 0], .int .i64 zb]) ∧ Below W.heap.size W w') :
    Calls Tryd.prog 13 #[.slice a na ca, .slice b nb cb, .int .i64 no] w fun e w' => e = .returned (.tuple #[.agg #[.int .i64 p0, .int .u64 p1, .int .u64 p2, .int .u64 p3, .int .u64 p4, .int .u64 p5, .int .u64 p6, .int .u64 p7], .int .i64 0, .bool true]) ∧ Below w.heap.size w w' := by
  have GA := Lib.hid GA
  have GB := Lib.hid GB
  have IX0 : ∀ W, (Instr.index 54 (.agg #[.slice a na ca, .slice b nb cb]) (.int .i64 0)).run Tryd.prog W = .ok (.slice a na ca) W := fun _ => by kernel_rfl
  have IX1 : ∀ W, (Instr.index 54 (.agg #[.slice a na ca, .slice b nb cb]) (.int .i64 1)).run Tryd.prog W = .ok (.slice b nb cb) W := fun _ => by kernel_rfl
  have EQ0 : ∀ W, Sem.run Tryd.prog (Op.equalIn 9999 23 (.agg #[.int .u64 0, .int .u64 0, .int .u64 0, .int .u64 0, .int .u64 0, .int .u64 0]) (.agg #[.int .u64 0, .int .u64 0, .int .u64 0, .int .u64 0, .int .u64 0, .int .u64 0])) W = .ok true W := fun _ => by kernel_rfl
  have hzn : (zb != 0) = true := by simp [bne, hzb]
  have hb2 := below_alloc (Below.refl w.heap.size w) (.cells #[.int .i64 0, .int .u64 0, .int .u64 0, .int .u64 0, .int .u64 0, .int .u64 0, .int .u64 0, .int .u64 0] 25)
  have hr2 : Blk (w.alloc (.cells #[.int .i64 0, .int .u64 0, .int .u64 0, .int .u64 0, .int .u64 0, .int .u64 0, .int .u64 0, .int .u64 0] 25)) w.heap.size 25 #[.int .i64 0, .int .u64 0, .int .u64 0, .int .u64 0, .int .u64 0, .int .u64 0, .int .u64 0, .int .u64 0] := Blk.new w _ _
  have HB := Lib.hid hb2
  have HRr := Lib.hid hr2
  clear hb2 hr2
  go_enter Tryd.func13, Tryd.ntmps13
  go_upto_region 2 with (go_at_call 11; (with_reducible refine (GA.out _ HB.out).mono ?_); rintro e w4 ⟨rfl, hb⟩; have HB4 := Lib.hid (below_step HB.out hb); have HR4 := Lib.hid (HRr.out.below hb); clear hb)
  have hb5 := below_alloc HB4.out (.cells #[.int .i64 p0, .int .u64 p1, .int .u64 p2, .int .u64 p3, .int .u64 p4, .int .u64 p5, .int .u64 p6, .int .u64 p7] 25)
  have hr5 := HR4.out.alloc (.cells #[.int .i64 p0, .int .u64 p1, .int .u64 p2, .int .u64 p3, .int .u64 p4, .int .u64 p5, .int .u64 p6, .int .u64 p7] 25)
  have hp5 : Blk (w4.alloc (.cells #[.int .i64 p0, .int .u64 p1, .int .u64 p2, .int .u64 p3, .int .u64 p4, .int .u64 p5, .int .u64 p6, .int .u64 p7] 25)) w4.heap.size 25 #[.int .i64 p0, .int .u64 p1, .int .u64 p2, .int .u64 p3, .int .u64 p4, .int .u64 p5, .int .u64 p6, .int .u64 p7] := Blk.new _ _ _
  generalize w4.alloc (.cells #[.int .i64 p0, .int .u64 p1, .int .u64 p2, .int .u64 p3, .int .u64 p4, .int .u64 p5, .int .u64 p6, .int .u64 p7] 25) = w5 at *
  generalize w4.heap.size = g5 at *
  have HB5 := Lib.hid hb5
  have HP5 := Lib.hid hp5
  have HR5 := Lib.hid hr5
  clear hb5 hr5 hp5
  go_upto_region 3 with (go_at_call 11; (with_reducible refine (GB.out _ HB5.out).mono ?_); rintro e w6 ⟨rfl, hb⟩; have HB6 := Lib.hid (below_step HB5.out hb); have HP6 := Lib.hid (HP5.out.below hb); have HR6 := Lib.hid (HR5.out.below hb); clear hb)
  have hb7 := below_alloc HB6.out (.cells #[.int .i64 0, .int .u64 0, .int .u64 0, .int .u64 0, .int .u64 0, .int .u64 0, .int .u64 0, .int .u64 0] 25)
  have hr7 := HR6.out.alloc (.cells #[.int .i64 0, .int .u64 0, .int .u64 0, .int .u64 0, .int .u64 0, .int .u64 0, .int .u64 0, .int .u64 0] 25)
  have hp7 := HP6.out.alloc (.cells #[.int .i64 0, .int .u64 0, .int .u64 0, .int .u64 0, .int .u64 0, .int .u64 0, .int .u64 0, .int .u64 0] 25)
  have hq7 : Blk (w6.alloc (.cells #[.int .i64 0, .int .u64 0, .int .u64 0, .int .u64 0, .int .u64 0, .int .u64 0, .int .u64 0, .int .u64 0] 25)) w6.heap.size 25 #[.int .i64 0, .int .u64 0, .int .u64 0, .int .u64 0, .int .u64 0, .int .u64 0, .int .u64 0, .int .u64 0] := Blk.new _ _ _
  generalize w6.alloc (.cells #[.int .i64 0, .int .u64 0, .int .u64 0, .int .u64 0, .int .u64 0, .int .u64 0, .int .u64 0, .int .u64 0] 25) = w7 at *
  generalize w6.heap.size = g7 at *
  obtain ⟨⟨i0, i1, i2, i3, i4, i5, i6, i7⟩, -⟩ := cells8 hp7
  obtain ⟨⟨j0, j1, j2, j3, j4, j5, j6, j7⟩, -⟩ := cells8 hq7
  obtain ⟨⟨k0, k1, k2, k3, k4, k5, k6, k7⟩, f0, f1, f2, f3, f4, f5, f6, f7⟩ := cells8 hr7
  have HB7 := Lib.hid hb7
  have HR7 := Lib.hid hr7
  clear hb7 hr7 hp7 hq7
  go_wp2
  all_goals
    refine bodyPost_ret (results_ctt rfl _ _ w.heap.size _ _ _ _ rfl (HR7.out.set8 _ _ _ _ _ _ _ _) Tryd.underlying25 rfl (by kernel_rfl)) rfl ?_
    exact ⟨rfl, below_set8 HB7.out (Nat.le_refl _) _ _ _ _ _ _ _ _⟩
set_option maxHeartbeats 4000000 in
theorem rnewer_one1 (p0 p1 p2 p3 p4 p5 p6 p7 q0 q1 q2 q3 q4 q5 q6 q7 : Int) (za zb : Int) (a b : Option Addr) (na ca nb cb : Nat) (no : Int) (w : World) (hza : (za == 0) = false) (hzb : (zb == 0) = true) 
    (GA : ∀ W, Below w.heap.size w W → Calls Tryd.prog 11 #[.slice a na ca, .int .i64 no] W fun e w' => e = .returned (.tuple #[.agg #[.int .i64 0, .int .u64 0, .int .u64 0, .int .u64 0, .int .u64 0, .int .u64 0, .int .u64 0, .int .u64 0], .int .i64 za]) ∧ Below W.heap.size W w')
    (GB : ∀ W, Below w.heap.size w W → Calls Tryd.prog 11 #[.slice b nb cb, .int .i64 no] W fun e w' => e = .returned (.tuple #[.agg #[.int .i64 q0, .int .u64 q1, .int .u64 q2, .int .u64 q3, .int .u64 q4, .int .u64 q5, .int .u64 q6, .int .u64 q7], .int .i64 zb]) ∧ Below W.heap.size W w') :
    Calls Tryd.prog 13 #[.slice a na ca, .slice b nb cb, .int .i64 no] w fun e w' => e = .returned (.tuple #[.agg #[.int .i64 q0, .int .u64 q1, .int .u64 q2, .int .u64 q3, .int .u64 q4, .int .u64 q5, .int .u64 q6, .int .u64 q7], .int .i64 1, .bool true]) ∧ Below w.heap.size w w' := by
  have GA := Lib.hid GA
  have GB := Lib.hid GB
  have IX0 : ∀ W, (Instr.index 54 (.agg #[.slice a na ca, .slice b nb cb]) (.int .i64 0)).run Tryd.prog W = .ok (.slice a na ca) W := fun _ => by kernel_rfl
  have IX1 : ∀ W, (Instr.index 54 (.agg #[.slice a na ca, .slice b nb cb]) (.int .i64 1)).run Tryd.prog W = .ok (.slice b nb cb) W := fun _ => by kernel_rfl
  have EQ0 : ∀ W, Sem.run Tryd.prog (Op.equalIn 9999 23 (.agg #[.int .u64 0, .int .u64 0, .int .u64 0, .int .u64 0, .int .u64 0, .int .u64 0]) (.agg #[.int .u64 0, .int .u64 0, .int .u64 0, .int .u64 0, .int .u64 0, .int .u64 0])) W = .ok true W := fun _ => by kernel_rfl
  have hzn : (zb != 0) = false := by simp [bne, hzb]
  have hb2 := below_alloc (Below.refl w.heap.size w) (.cells #[.int .i64 0, .int .u64 0, .int .u64 0, .int .u64 0, .int .u64 0, .int .u64 0, .int .u64 0, .int .u64 0] 25)
  have hr2 : Blk (w.alloc (.cells #[.int .i64 0, .int .u64 0, .int .u64 0, .int .u64 0, .int .u64 0, .int .u64 0, .int .u64 0, .int .u64 0] 25)) w.heap.size 25 #[.int .i64 0, .int .u64 0, .int .u64 0, .int .u64 0, .int .u64 0, .int .u64 0, .int .u64 0, .int .u64 0] := Blk.new w _ _
  have HB := Lib.hid hb2
  have HRr := Lib.hid hr2
  clear hb2 hr2
  go_enter Tryd.func13, Tryd.ntmps13
  go_upto_region 2 with (go_at_call 11; (with_reducible refine (GA.out _ HB.out).mono ?_); rintro e w4 ⟨rfl, hb⟩; have HB4 := Lib.hid (below_step HB.out hb); have HR4 := Lib.hid (HRr.out.below hb); clear hb)
  have hb5 := below_alloc HB4.out (.cells #[.int .i64 0, .int .u64 0, .int .u64 0, .int .u64 0, .int .u64 0, .int .u64 0, .int .u64 0, .int .u64 0] 25)
  have hr5 := HR4.out.alloc (.cells #[.int .i64 0, .int .u64 0, .int .u64 0, .int .u64 0, .int .u64 0, .int .u64 0, .int .u64 0, .int .u64 0] 25)
  have hp5 : Blk (w4.alloc (.cells #[.int .i64 0, .int .u64 0, .int .u64 0, .int .u64 0, .int .u64 0, .int .u64 0, .int .u64 0, .int .u64 0] 25)) w4.heap.size 25 #[.int .i64 0, .int .u64 0, .int .u64 0, .int .u64 0, .int .u64 0, .int .u64 0, .int .u64 0, .int .u64 0] := Blk.new _ _ _
  generalize w4.alloc (.cells #[.int .i64 0, .int .u64 0, .int .u64 0, .int .u64 0, .int .u64 0, .int .u64 0, .int .u64 0, .int .u64 0] 25) = w5 at *
  generalize w4.heap.size = g5 at *
  have HB5 := Lib.hid hb5
  have HP5 := Lib.hid hp5
  have HR5 := Lib.hid hr5
  clear hb5 hr5 hp5
  go_upto_region 3 with (go_at_call 11; (with_reducible refine (GB.out _ HB5.out).mono ?_); rintro e w6 ⟨rfl, hb⟩; have HB6 := Lib.hid (below_step HB5.out hb); have HP6 := Lib.hid (HP5.out.below hb); have HR6 := Lib.hid (HR5.out.below hb); clear hb)
  have hb7 := below_alloc HB6.out (.cells #[.int .i64 q0, .int .u64 q1, .int .u64 q2, .int .u64 q3, .int .u64 q4, .int .u64 q5, .int .u64 q6, .int .u64 q7] 25)
  have hr7 := HR6.out.alloc (.cells #[.int .i64 q0, .int .u64 q1, .int .u64 q2, .int .u64 q3, .int .u64 q4, .int .u64 q5, .int .u64 q6, .int .u64 q7] 25)
  have hp7 := HP6.out.alloc (.cells #[.int .i64 q0, .int .u64 q1, .int .u64 q2, .int .u64 q3, .int .u64 q4, .int .u64 q5, .int .u64 q6, .int .u64 q7] 25)
  have hq7 : Blk (w6.alloc (.cells #[.int .i64 q0, .int .u64 q1, .int .u64 q2, .int .u64 q3, .int .u64 q4, .int .u64 q5, .int .u64 q6, .int .u64 q7] 25)) w6.heap.size 25 #[.int .i64 q0, .int .u64 q1, .int .u64 q2, .int .u64 q3, .int .u64 q4, .int .u64 q5, .int .u64 q6, .int .u64 q7] := Blk.new _ _ _
  generalize w6.alloc (.cells #[.int .i64 q0, .int .u64 q1, .int .u64 q2, .int .u64 q3, .int .u64 q4, .int .u64 q5, .int .u64 q6, .int .u64 q7] 25) = w7 at *
  generalize w6.heap.size = g7 at *
  obtain ⟨⟨i0, i1, i2, i3, i4, i5, i6, i7⟩, -⟩ := cells8 hp7
  obtain ⟨⟨j0, j1, j2, j3, j4, j5, j6, j7⟩, -⟩ := cells8 hq7
  obtain ⟨⟨k0, k1, k2, k3, k4, k5, k6, k7⟩, f0, f1, f2, f3, f4, f5, f6, f7⟩ := cells8 hr7
  have HB7 := Lib.hid hb7
  have HR7 := Lib.hid hr7
  clear hb7 hr7 hp7 hq7
  go_wp2
  all_goals
    refine bodyPost_ret (results_ctt rfl _ _ w.heap.size _ _ _ _ rfl (HR7.out.set8 _ _ _ _ _ _ _ _) Tryd.underlying25 rfl (by kernel_rfl)) rfl ?_
    exact ⟨rfl, below_set8 HB7.out (Nat.le_refl _) _ _ _ _ _ _ _ _⟩
set_option maxHeartbeats 4000000 in
theorem rnewer_none (p0 p1 p2 p3 p4 p5 p6 p7 q0 q1 q2 q3 q4 q5 q6 q7 : Int) (za zb : Int) (a b : Option Addr) (na ca nb cb : Nat) (no : Int) (w : World) (hza : (za == 0) = false) (hzb : (zb == 0) = false) 
    (GA : ∀ W, Below w.heap.size w W → Calls Tryd.prog 11 #[.slice a na ca, .int .i64 no] W fun e w' => e = .returned (.tuple #[.agg #[.int .i64 0, .int .u64 0, .int .u64 0, .int .u64 0, .int .u64 0, .int .u64 0, .int .u64 0, .int .u64 0], .int .i64 za]) ∧ Below W.heap.size W w')
    (GB : ∀ W, Below w.heap.size w W → Calls Tryd.prog 11 #[.slice b nb cb, .int .i64 no] W fun e w' => e = .returned (.tuple #[.agg #[.int .i64 0, .int .u64 0, .int .u64 0, .int .u64 0, .int .u64 0, .int .u64 0, .int .u64 0, .int .u64 0], .int .i64 zb]) ∧ Below W.heap.size W w') :
    Calls Tryd.prog 13 #[.slice a na ca, .slice b nb cb, .int .i64 no] w fun e w' => e = .returned (.tuple #[.agg #[.int .i64 0, .int .u64 0, .int .u64 0, .int .u64 0, .int .u64 0, .int .u64 0, .int .u64 0, .int .u64 0], .int .i64 0, .bool false]) ∧ Below w.heap.size w w' := by
  have GA := Lib.hid GA
  have GB := Lib.hid GB
  have IX0 : ∀ W, (Instr.index 54 (.agg #[.slice a na ca, .slice b nb cb]) (.int .i64 0)).run Tryd.prog W = .ok (.slice a na ca) W := fun _ => by kernel_rfl
  have IX1 : ∀ W, (Instr.index 54 (.agg #[.slice a na ca, .slice b nb cb]) (.int .i64 1)).run Tryd.prog W = .ok (.slice b nb cb) W := fun _ => by kernel_rfl
  have EQ0 : ∀ W, Sem.run Tryd.prog (Op.equalIn 9999 23 (.agg #[.int .u64 0, .int .u64 0, .int .u64 0, .int .u64 0, .int .u64 0, .int .u64 0]) (.agg #[.int .u64 0, .int .u64 0, .int .u64 0, .int .u64 0, .int .u64 0, .int .u64 0])) W = .ok true W := fun _ => by kernel_rfl
  have hzn : (zb != 0) = true := by simp [bne, hzb]
  have hb2 := below_alloc (Below.refl w.heap.size w) (.cells #[.int .i64 0, .int .u64 0, .int .u64 0, .int .u64 0, .int .u64 0, .int .u64 0, .int .u64 0, .int .u64 0] 25)
  have hr2 : Blk (w.alloc (.cells #[.int .i64 0, .int .u64 0, .int .u64 0, .int .u64 0, .int .u64 0, .int .u64 0, .int .u64 0, .int .u64 0] 25)) w.heap.size 25 #[.int .i64 0, .int .u64 0, .int .u64 0, .int .u64 0, .int .u64 0, .int .u64 0, .int .u64 0, .int .u64 0] := Blk.new w _ _
  have HB := Lib.hid hb2
  have HRr := Lib.hid hr2
  clear hb2 hr2
  go_enter Tryd.func13, Tryd.ntmps13
  go_upto_region 2 with (go_at_call 11; (with_reducible refine (GA.out _ HB.out).mono ?_); rintro e w4 ⟨rfl, hb⟩; have HB4 := Lib.hid (below_step HB.out hb); have HR4 := Lib.hid (HRr.out.below hb); clear hb)
  have hb5 := below_alloc HB4.out (.cells #[.int .i64 0, .int .u64 0, .int .u64 0, .int .u64 0, .int .u64 0, .int .u64 0, .int .u64 0, .int .u64 0] 25)
  have hr5 := HR4.out.alloc (.cells #[.int .i64 0, .int .u64 0, .int .u64 0, .int .u64 0, .int .u64 0, .int .u64 0, .int .u64 0, .int .u64 0] 25)
  have hp5 : Blk (w4.alloc (.cells #[.int .i64 0, .int .u64 0, .int .u64 0, .int .u64 0, .int .u64 0, .int .u64 0, .int .u64 0, .int .u64 0] 25)) w4.heap.size 25 #[.int .i64 0, .int .u64 0, .int .u64 0, .int .u64 0, .int .u64 0, .int .u64 0, .int .u64 0, .int .u64 0] := Blk.new _ _ _
  generalize w4.alloc (.cells #[.int .i64 0, .int .u64 0, .int .u64 0, .int .u64 0, .int .u64 0, .int .u64 0, .int .u64 0, .int .u64 0] 25) = w5 at *
  generalize w4.heap.size = g5 at *
  have HB5 := Lib.hid hb5
  have HP5 := Lib.hid hp5
  have HR5 := Lib.hid hr5
  clear hb5 hr5 hp5
  go_upto_region 3 with (go_at_call 11; (with_reducible refine (GB.out _ HB5.out).mono ?_); rintro e w6 ⟨rfl, hb⟩; have HB6 := Lib.hid (below_step HB5.out hb); have HP6 := Lib.hid (HP5.out.below hb); have HR6 := Lib.hid (HR5.out.below hb); clear hb)
  have hb7 := below_alloc HB6.out (.cells #[.int .i64 0, .int .u64 0, .int .u64 0, .int .u64 0, .int .u64 0, .int .u64 0, .int .u64 0, .int .u64 0] 25)
  have hr7 := HR6.out.alloc (.cells #[.int .i64 0, .int .u64 0, .int .u64 0, .int .u64 0, .int .u64 0, .int .u64 0, .int .u64 0, .int .u64 0] 25)
  have hp7 := HP6.out.alloc (.cells #[.int .i64 0, .int .u64 0, .int .u64 0, .int .u64 0, .int .u64 0, .int .u64 0, .int .u64 0, .int .u64 0] 25)
  have hq7 : Blk (w6.alloc (.cells #[.int .i64 0, .int .u64 0, .int .u64 0, .int .u64 0, .int .u64 0, .int .u64 0, .int .u64 0, .int .u64 0] 25)) w6.heap.size 25 #[.int .i64 0, .int .u64 0, .int .u64 0, .int .u64 0, .int .u64 0, .int .u64 0, .int .u64 0, .int .u64 0] := Blk.new _ _ _
  generalize w6.alloc (.cells #[.int .i64 0, .int .u64 0, .int .u64 0, .int .u64 0, .int .u64 0, .int .u64 0, .int .u64 0, .int .u64 0] 25) = w7 at *
  generalize w6.heap.size = g7 at *
  obtain ⟨⟨i0, i1, i2, i3, i4, i5, i6, i7⟩, -⟩ := cells8 hp7
  obtain ⟨⟨j0, j1, j2, j3, j4, j5, j6, j7⟩, -⟩ := cells8 hq7
  obtain ⟨⟨k0, k1, k2, k3, k4, k5, k6, k7⟩, f0, f1, f2, f3, f4, f5, f6, f7⟩ := cells8 hr7
  have HB7 := Lib.hid hb7
  have HR7 := Lib.hid hr7
  clear hb7 hr7 hp7 hq7
  go_wp2
  all_goals
    refine bodyPost_ret (results_ctt rfl _ _ w.heap.size _ _ _ _ rfl (HR7.out.set8 _ _ _ _ _ _ _ _) Tryd.underlying25 rfl (by kernel_rfl)) rfl ?_
    exact ⟨rfl, below_set8 HB7.out (Nat.le_refl _) _ _ _ _ _ _ _ _⟩
theorem rnewer_calls (a b : Option Addr) (na ca nb cb : Nat) (x y : List Int) (no : Int) (w : World) (hx : ∀ i ∈ x, 0 ≤ i ∧ i ≤ 255) (hy : ∀ i ∈ y, 0 ≤ i ∧ i ≤ 255)
    (GA : ∀ W, Below w.heap.size w W → Calls Tryd.prog 11 #[.slice a na ca, .int .i64 no] W fun e w' => GetG W w' (getG x no).1 (getG x no).2 e)
    (GB : ∀ W, Below w.heap.size w W → Calls Tryd.prog 11 #[.slice b nb cb, .int .i64 no] W fun e w' => GetG W w' (getG y no).1 (getG y no).2 e) :
    Calls Tryd.prog 13 #[.slice a na ca, .slice b nb cb, .int .i64 no] w fun e w' => e = .returned (.tuple #[genV (newerG x y no).1, .int .i64 (newerG x y no).2.1, .bool (newerG x y no).2.2]) ∧ Below w.heap.size w w' := by
  have va := newer_ver (b := x) (no := no) hx
  have vb := newer_ver (b := y) (no := no) hy
  have ea := getG_err (b := x) (no := no)
  have eb := getG_err (b := y) (no := no)
  unfold newerG
  generalize (getG x no).1 = p at *
  generalize (getG x no).2 = za at *
  generalize (getG y no).1 = q at *
  generalize (getG y no).2 = zb at *
  unfold GetG at GA GB
  unfold genV genC at *
  by_cases h1 : za = 0
  · have a1 : (za == 0) = true := by simpa using h1
    have v1 := va h1
    by_cases h2 : zb = 0
    · have a2 : (zb == 0) = true := by simpa using h2
      have v2 := vb h2
      by_cases h3 : p.ver < q.ver
      · rw [if_neg (by omega), if_pos h2]
        have h4 : ¬ q.ver ≤ p.ver := by omega
        exact rnewer_both1 _ _ _ _ _ _ _ _ _ _ _ _ _ _ _ _ za zb a b na ca nb cb no w a1 a2 h4 GA GB
      · rw [if_pos (by omega)]
        have h4 : q.ver ≤ p.ver := by omega
        exact rnewer_both0 _ _ _ _ _ _ _ _ _ _ _ _ _ _ _ _ za zb a b na ca nb cb no w a1 a2 h4 GA GB
    · have a2 : (zb == 0) = false := by simpa using h2
      have e2 := eb h2
      subst e2
      rw [if_pos (by omega)]
      exact rnewer_one0 _ _ _ _ _ _ _ _ 0 0 0 0 0 0 0 0 za zb a b na ca nb cb no w a1 a2  GA GB
  · have a1 : (za == 0) = false := by simpa using h1
    have e1 := ea h1
    subst e1
    by_cases h2 : zb = 0
    · have a2 : (zb == 0) = true := by simpa using h2
      have v2 := vb h2
      rw [if_neg (by omega), if_pos h2]
      exact rnewer_one1 0 0 0 0 0 0 0 0 _ _ _ _ _ _ _ _ za zb a b na ca nb cb no w a1 a2  GA GB
    · have a2 : (zb == 0) = false := by simpa using h2
      have e2 := eb h2
      subst e2
      rw [if_neg (by omega), if_neg h2]
      exact rnewer_none 0 0 0 0 0 0 0 0 0 0 0 0 0 0 0 0 za zb a b na ca nb cb no w a1 a2 GA GB
end Go.Proofs.YtkahnkjbbcfbgaaDoor.Ct
