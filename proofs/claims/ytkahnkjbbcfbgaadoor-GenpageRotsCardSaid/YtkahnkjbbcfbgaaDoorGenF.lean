import Derived.Test.YtkahnkjbbcfbgaaDoorGenE
/-! genpage.Newer. -/
namespace Go.Proofs.YtkahnkjbbcfbgaaDoor.Ct
open Go.RowKit
set_option linter.unusedVariables false
set_option linter.unusedSimpArgs false
theorem results_ctt {P : Program} {fn : Func} {p u v : Tmp} {ty : TypeId} (h : fn.results = #[.cell p ty, .tmp u, .tmp v]) (tmps : Array Value) (w : World) (g : Nat) (t : TypeId) (cs : Array Value) (fr : Nat × Nat) (d : TypeDesc)
    (hp : tmps.getD p undef = .pointer (some ⟨g, 0, none⟩)) (hg : w.heap[g]? = some (.cells cs t fr))
    (hu : P.underlying ty = some d) (hd : (match d with | .struct _ | .array _ _ => true | _ => false) = true) (hi : (P.info? ty).map (·.size) = some cs.size) :
    (results fn tmps).run P w = .ok (.tuple #[.agg cs, tmps.getD u undef, tmps.getD v undef]) w := by
  have hp' : tmps[p]?.getD undef = .pointer (some ⟨g, 0, none⟩) := by simpa using hp
  simp [results, h, hp', asAddr, run_loadVar_row w g t ty cs fr d hg hu hd hi]
theorem newer_ver {b : List Int} {no : Int} (hw : ∀ y ∈ b, 0 ≤ y ∧ y ≤ 255) (h : (getG b no).2 = 0) : 1 ≤ (getG b no).1.ver := by
  have := (getG_ok (p := (getG b no).1) (by rw [← h]) hw).1
  unfold MayG at this
  unfold NumOk at this
  omega
set_option maxHeartbeats 4000000 in
theorem newer_both1 (p0 p1 p2 p3 p4 p5 p6 p7 q0 q1 q2 q3 q4 q5 q6 q7 : Int) (za zb : Int) (a b : Option Addr) (na ca nb cb : Nat) (no : Int) (w : World) (hza : (za == 0) = true) (hzb : (zb == 0) = true) (hp : (p1 == 0) = false) (hq : (q1 == 0) = false) (hlt : p1 < q1)
    (GA : ∀ W, Below w.heap.size w W → Calls Tryd.prog 9 #[.slice a na ca, .int .i64 no] W fun e w' => e = .returned (.tuple #[.agg #[.int .i64 p0, .int .u64 p1, .int .u64 p2, .int .u64 p3, .int .u64 p4, .int .u64 p5, .int .u64 p6, .int .u64 p7], .int .i64 za]) ∧ Below W.heap.size W w')
    (GB : ∀ W, Below w.heap.size w W → Calls Tryd.prog 9 #[.slice b nb cb, .int .i64 no] W fun e w' => e = .returned (.tuple #[.agg #[.int .i64 q0, .int .u64 q1, .int .u64 q2, .int .u64 q3, .int .u64 q4, .int .u64 q5, .int .u64 q6, .int .u64 q7], .int .i64 zb]) ∧ Below W.heap.size W w') :
    Calls Tryd.prog 12 #[.slice a na ca, .slice b nb cb, .int .i64 no] w fun e w' => e = .returned (.tuple #[.agg #[.int .i64 q0, .int .u64 q1, .int .u64 q2, .int .u64 q3, .int .u64 q4, .int .u64 q5, .int .u64 q6, .int .u64 q7], .int .i64 1, .bool true]) ∧ Below w.heap.size w w' := by
  have GA := Lib.hid GA
  have GB := Lib.hid GB
  have IX0 : ∀ W, (Instr.index 54 (.agg #[.slice a na ca, .slice b nb cb]) (.int .i64 0)).run Tryd.prog W = .ok (.slice a na ca) W := fun _ => by kernel_rfl
  have IX1 : ∀ W, (Instr.index 54 (.agg #[.slice a na ca, .slice b nb cb]) (.int .i64 1)).run Tryd.prog W = .ok (.slice b nb cb) W := fun _ => by kernel_rfl
  have EQ0 : ∀ W, Sem.run Tryd.prog (Op.equalIn 9999 23 (.agg #[.int .u64 0, .int .u64 0, .int .u64 0, .int .u64 0, .int .u64 0, .int .u64 0]) (.agg #[.int .u64 0, .int .u64 0, .int .u64 0, .int .u64 0, .int .u64 0, .int .u64 0])) W = .ok true W := fun _ => by kernel_rfl
  have hb2 := below_alloc (below_alloc (Below.refl w.heap.size w) (.cells #[.int .i64 0, .int .u64 0, .int .u64 0, .int .u64 0, .int .u64 0, .int .u64 0, .int .u64 0, .int .u64 0] 25)) (.cells #[.int .i64 0, .int .u64 0, .int .u64 0, .int .u64 0, .int .u64 0, .int .u64 0, .int .u64 0, .int .u64 0] 25)
  have hr2 : Blk ((w.alloc (.cells #[.int .i64 0, .int .u64 0, .int .u64 0, .int .u64 0, .int .u64 0, .int .u64 0, .int .u64 0, .int .u64 0] 25)).alloc (.cells #[.int .i64 0, .int .u64 0, .int .u64 0, .int .u64 0, .int .u64 0, .int .u64 0, .int .u64 0, .int .u64 0] 25)) w.heap.size 25 #[.int .i64 0, .int .u64 0, .int .u64 0, .int .u64 0, .int .u64 0, .int .u64 0, .int .u64 0, .int .u64 0] := (Blk.new w _ _).alloc _
  have hv2 : Blk ((w.alloc (.cells #[.int .i64 0, .int .u64 0, .int .u64 0, .int .u64 0, .int .u64 0, .int .u64 0, .int .u64 0, .int .u64 0] 25)).alloc (.cells #[.int .i64 0, .int .u64 0, .int .u64 0, .int .u64 0, .int .u64 0, .int .u64 0, .int .u64 0, .int .u64 0] 25)) (w.heap.size + 1) 25 #[.int .i64 0, .int .u64 0, .int .u64 0, .int .u64 0, .int .u64 0, .int .u64 0, .int .u64 0, .int .u64 0] := blk_at (by simp)
  have HNE := Lib.hid (show w.heap.size ≠ w.heap.size + 1 by omega)
  have HGE := Lib.hid (show w.heap.size ≤ w.heap.size + 1 by omega)
  go_enter Tryd.func12, Tryd.ntmps12
  go_upto_region 3 with (fail)
  generalize (w.alloc (.cells #[.int .i64 0, .int .u64 0, .int .u64 0, .int .u64 0, .int .u64 0, .int .u64 0, .int .u64 0, .int .u64 0] 25)).alloc (.cells #[.int .i64 0, .int .u64 0, .int .u64 0, .int .u64 0, .int .u64 0, .int .u64 0, .int .u64 0, .int .u64 0] 25) = w2 at *
  generalize w.heap.size + 1 = g1 at *
  have HV2 := Lib.hid hv2
  have HR2 := Lib.hid hr2
  have HB2 := Lib.hid hb2
  clear hv2 hr2 hb2
  go_wp2
  go_loopw [10, 11, 12, 13, 14, 18] (fun at_ _ _ _ _ i wr => ∃ k : Nat, k ≤ 2 ∧ i = .int .i64 k ∧ at_ = .int .i64 (if k = 2 then 1 else 0) ∧ Blk wr g1 25 (if k = 0 then #[.int .i64 0, .int .u64 0, .int .u64 0, .int .u64 0, .int .u64 0, .int .u64 0, .int .u64 0, .int .u64 0] else if k = 1 then #[.int .i64 p0, .int .u64 p1, .int .u64 p2, .int .u64 p3, .int .u64 p4, .int .u64 p5, .int .u64 p6, .int .u64 p7] else #[.int .i64 q0, .int .u64 q1, .int .u64 q2, .int .u64 q3, .int .u64 q4, .int .u64 q5, .int .u64 q6, .int .u64 q7]) ∧ Blk wr w.heap.size 25 #[.int .i64 0, .int .u64 0, .int .u64 0, .int .u64 0, .int .u64 0, .int .u64 0, .int .u64 0, .int .u64 0] ∧ Below w.heap.size w wr) (fun _ _ _ _ _ i _ => 2 - (intOf i).toNat)
  case atStart => exact ⟨0, by omega, rfl, rfl, HV2.out, HR2.out, HB2.out⟩
  case round =>
    clear HV2 HR2 HB2
    obtain ⟨k, hk, rfl, rfl, hv, hr, hb⟩ := hrel
    have hk3 : k = 0 ∨ k = 1 ∨ k = 2 := by omega
    rcases hk3 with rfl | rfl | rfl
    all_goals simp only [if_true, if_false, Nat.succ_ne_zero, Nat.reduceEqDiff, if_pos] at hv ⊢
    · skip
      simp only [show ((0 : Nat) : Int) = 0 from rfl]
      have HV := Lib.hid hv
      have HRr := Lib.hid hr
      have HB := Lib.hid hb
      clear hv hr hb
      go_upto_region 7 with (go_at_call 9; (with_reducible refine (GA.out _ HB.out).mono ?_); rintro e w4 ⟨rfl, hb⟩; have HB4 := Lib.hid (below_step HB.out hb); have HV4 := Lib.hid (HV.out.below hb); have HR4 := Lib.hid (HRr.out.below hb); clear hb)
      have hb5 := below_alloc HB4.out (.cells #[.int .i64 p0, .int .u64 p1, .int .u64 p2, .int .u64 p3, .int .u64 p4, .int .u64 p5, .int .u64 p6, .int .u64 p7] 25)
      have hv5 := HV4.out.alloc (.cells #[.int .i64 p0, .int .u64 p1, .int .u64 p2, .int .u64 p3, .int .u64 p4, .int .u64 p5, .int .u64 p6, .int .u64 p7] 25)
      have hr5 := HR4.out.alloc (.cells #[.int .i64 p0, .int .u64 p1, .int .u64 p2, .int .u64 p3, .int .u64 p4, .int .u64 p5, .int .u64 p6, .int .u64 p7] 25)
      have hp5 : Blk (w4.alloc (.cells #[.int .i64 p0, .int .u64 p1, .int .u64 p2, .int .u64 p3, .int .u64 p4, .int .u64 p5, .int .u64 p6, .int .u64 p7] 25)) w4.heap.size 25 #[.int .i64 p0, .int .u64 p1, .int .u64 p2, .int .u64 p3, .int .u64 p4, .int .u64 p5, .int .u64 p6, .int .u64 p7] := Blk.new _ _ _
      generalize w4.alloc (.cells #[.int .i64 p0, .int .u64 p1, .int .u64 p2, .int .u64 p3, .int .u64 p4, .int .u64 p5, .int .u64 p6, .int .u64 p7] 25) = w5 at *
      generalize w4.heap.size = g5 at *
      obtain ⟨⟨i0, i1, i2, i3, i4, i5, i6, i7⟩, -⟩ := cells8 hp5
      obtain ⟨⟨k0, k1, k2, k3, k4, k5, k6, k7⟩, f0, f1, f2, f3, f4, f5, f6, f7⟩ := cells8 hv5
      have HB5 := Lib.hid hb5
      have HV5 := Lib.hid hv5
      have HR5 := Lib.hid hr5
      clear hb5 hv5 hr5 hp5
      go_wp2
      go_roundw
      case rel => exact ⟨1, by omega, rfl, rfl, HV5.out.set8 _ _ _ _ _ _ _ _, ((((((((HR5.out.far (p := ⟨g1, 0, none⟩) HNE.out _).far (p := ⟨g1, 1, none⟩) HNE.out _).far (p := ⟨g1, 2, none⟩) HNE.out _).far (p := ⟨g1, 3, none⟩) HNE.out _).far (p := ⟨g1, 4, none⟩) HNE.out _).far (p := ⟨g1, 5, none⟩) HNE.out _).far (p := ⟨g1, 6, none⟩) HNE.out _).far (p := ⟨g1, 7, none⟩) HNE.out _), below_set8 HB5.out HGE.out _ _ _ _ _ _ _ _⟩
      case measure => simp [intOf]
    · skip
      simp only [show ((1 : Nat) : Int) = 1 from rfl]
      have HV := Lib.hid hv
      have HRr := Lib.hid hr
      have HB := Lib.hid hb
      clear hv hr hb
      go_upto_region 7 with (go_at_call 9; (with_reducible refine (GB.out _ HB.out).mono ?_); rintro e w4 ⟨rfl, hb⟩; have HB4 := Lib.hid (below_step HB.out hb); have HV4 := Lib.hid (HV.out.below hb); have HR4 := Lib.hid (HRr.out.below hb); clear hb)
      have hb5 := below_alloc HB4.out (.cells #[.int .i64 q0, .int .u64 q1, .int .u64 q2, .int .u64 q3, .int .u64 q4, .int .u64 q5, .int .u64 q6, .int .u64 q7] 25)
      have hv5 := HV4.out.alloc (.cells #[.int .i64 q0, .int .u64 q1, .int .u64 q2, .int .u64 q3, .int .u64 q4, .int .u64 q5, .int .u64 q6, .int .u64 q7] 25)
      have hr5 := HR4.out.alloc (.cells #[.int .i64 q0, .int .u64 q1, .int .u64 q2, .int .u64 q3, .int .u64 q4, .int .u64 q5, .int .u64 q6, .int .u64 q7] 25)
      have hp5 : Blk (w4.alloc (.cells #[.int .i64 q0, .int .u64 q1, .int .u64 q2, .int .u64 q3, .int .u64 q4, .int .u64 q5, .int .u64 q6, .int .u64 q7] 25)) w4.heap.size 25 #[.int .i64 q0, .int .u64 q1, .int .u64 q2, .int .u64 q3, .int .u64 q4, .int .u64 q5, .int .u64 q6, .int .u64 q7] := Blk.new _ _ _
      generalize w4.alloc (.cells #[.int .i64 q0, .int .u64 q1, .int .u64 q2, .int .u64 q3, .int .u64 q4, .int .u64 q5, .int .u64 q6, .int .u64 q7] 25) = w5 at *
      generalize w4.heap.size = g5 at *
      obtain ⟨⟨i0, i1, i2, i3, i4, i5, i6, i7⟩, -⟩ := cells8 hp5
      obtain ⟨⟨k0, k1, k2, k3, k4, k5, k6, k7⟩, f0, f1, f2, f3, f4, f5, f6, f7⟩ := cells8 hv5
      have HB5 := Lib.hid hb5
      have HV5 := Lib.hid hv5
      have HR5 := Lib.hid hr5
      clear hb5 hv5 hr5 hp5
      go_wp2
      go_roundw
      case rel => exact ⟨2, by omega, rfl, rfl, HV5.out.set8 _ _ _ _ _ _ _ _, ((((((((HR5.out.far (p := ⟨g1, 0, none⟩) HNE.out _).far (p := ⟨g1, 1, none⟩) HNE.out _).far (p := ⟨g1, 2, none⟩) HNE.out _).far (p := ⟨g1, 3, none⟩) HNE.out _).far (p := ⟨g1, 4, none⟩) HNE.out _).far (p := ⟨g1, 5, none⟩) HNE.out _).far (p := ⟨g1, 6, none⟩) HNE.out _).far (p := ⟨g1, 7, none⟩) HNE.out _), below_set8 HB5.out HGE.out _ _ _ _ _ _ _ _⟩
      case measure => simp [intOf]
    · simp only [show ((2 : Nat) : Int) = 2 from rfl]
      obtain ⟨⟨j0, j1, j2, j3, j4, j5, j6, j7⟩, -⟩ := cells8 hv
      obtain ⟨⟨k0, k1, k2, k3, k4, k5, k6, k7⟩, f0, f1, f2, f3, f4, f5, f6, f7⟩ := cells8 hr
      have HRr := Lib.hid hr
      have HB := Lib.hid hb
      clear hv hr hb
      go_wp2
      refine bodyPost_ret (results_ctt rfl _ _ w.heap.size _ _ _ _ rfl (HRr.out.set8 _ _ _ _ _ _ _ _) Tryd.underlying25 rfl (by kernel_rfl)) rfl ?_
      exact ⟨rfl, below_set8 HB.out (Nat.le_refl _) _ _ _ _ _ _ _ _⟩
set_option maxHeartbeats 4000000 in
theorem newer_both0 (p0 p1 p2 p3 p4 p5 p6 p7 q0 q1 q2 q3 q4 q5 q6 q7 : Int) (za zb : Int) (a b : Option Addr) (na ca nb cb : Nat) (no : Int) (w : World) (hza : (za == 0) = true) (hzb : (zb == 0) = true) (hp : (p1 == 0) = false) (hq : (q1 == 0) = false) (hlt : ¬ p1 < q1)
    (GA : ∀ W, Below w.heap.size w W → Calls Tryd.prog 9 #[.slice a na ca, .int .i64 no] W fun e w' => e = .returned (.tuple #[.agg #[.int .i64 p0, .int .u64 p1, .int .u64 p2, .int .u64 p3, .int .u64 p4, .int .u64 p5, .int .u64 p6, .int .u64 p7], .int .i64 za]) ∧ Below W.heap.size W w')
    (GB : ∀ W, Below w.heap.size w W → Calls Tryd.prog 9 #[.slice b nb cb, .int .i64 no] W fun e w' => e = .returned (.tuple #[.agg #[.int .i64 q0, .int .u64 q1, .int .u64 q2, .int .u64 q3, .int .u64 q4, .int .u64 q5, .int .u64 q6, .int .u64 q7], .int .i64 zb]) ∧ Below W.heap.size W w') :
    Calls Tryd.prog 12 #[.slice a na ca, .slice b nb cb, .int .i64 no] w fun e w' => e = .returned (.tuple #[.agg #[.int .i64 p0, .int .u64 p1, .int .u64 p2, .int .u64 p3, .int .u64 p4, .int .u64 p5, .int .u64 p6, .int .u64 p7], .int .i64 0, .bool true]) ∧ Below w.heap.size w w' := by
  have GA := Lib.hid GA
  have GB := Lib.hid GB
  have IX0 : ∀ W, (Instr.index 54 (.agg #[.slice a na ca, .slice b nb cb]) (.int .i64 0)).run Tryd.prog W = .ok (.slice a na ca) W := fun _ => by kernel_rfl
  have IX1 : ∀ W, (Instr.index 54 (.agg #[.slice a na ca, .slice b nb cb]) (.int .i64 1)).run Tryd.prog W = .ok (.slice b nb cb) W := fun _ => by kernel_rfl
  have EQ0 : ∀ W, Sem.run Tryd.prog (Op.equalIn 9999 23 (.agg #[.int .u64 0, .int .u64 0, .int .u64 0, .int .u64 0, .int .u64 0, .int .u64 0]) (.agg #[.int .u64 0, .int .u64 0, .int .u64 0, .int .u64 0, .int .u64 0, .int .u64 0])) W = .ok true W := fun _ => by kernel_rfl
  have hb2 := below_alloc (below_alloc (Below.refl w.heap.size w) (.cells #[.int .i64 0, .int .u64 0, .int .u64 0, .int .u64 0, .int .u64 0, .int .u64 0, .int .u64 0, .int .u64 0] 25)) (.cells #[.int .i64 0, .int .u64 0, .int .u64 0, .int .u64 0, .int .u64 0, .int .u64 0, .int .u64 0, .int .u64 0] 25)
  have hr2 : Blk ((w.alloc (.cells #[.int .i64 0, .int .u64 0, .int .u64 0, .int .u64 0, .int .u64 0, .int .u64 0, .int .u64 0, .int .u64 0] 25)).alloc (.cells #[.int .i64 0, .int .u64 0, .int .u64 0, .int .u64 0, .int .u64 0, .int .u64 0, .int .u64 0, .int .u64 0] 25)) w.heap.size 25 #[.int .i64 0, .int .u64 0, .int .u64 0, .int .u64 0, .int .u64 0, .int .u64 0, .int .u64 0, .int .u64 0] := (Blk.new w _ _).alloc _
  have hv2 : Blk ((w.alloc (.cells #[.int .i64 0, .int .u64 0, .int .u64 0, .int .u64 0, .int .u64 0, .int .u64 0, .int .u64 0, .int .u64 0] 25)).alloc (.cells #[.int .i64 0, .int .u64 0, .int .u64 0, .int .u64 0, .int .u64 0, .int .u64 0, .int .u64 0, .int .u64 0] 25)) (w.heap.size + 1) 25 #[.int .i64 0, .int .u64 0, .int .u64 0, .int .u64 0, .int .u64 0, .int .u64 0, .int .u64 0, .int .u64 0] := blk_at (by simp)
  have HNE := Lib.hid (show w.heap.size ≠ w.heap.size + 1 by omega)
  have HGE := Lib.hid (show w.heap.size ≤ w.heap.size + 1 by omega)
  go_enter Tryd.func12, Tryd.ntmps12
  go_upto_region 3 with (fail)
  generalize (w.alloc (.cells #[.int .i64 0, .int .u64 0, .int .u64 0, .int .u64 0, .int .u64 0, .int .u64 0, .int .u64 0, .int .u64 0] 25)).alloc (.cells #[.int .i64 0, .int .u64 0, .int .u64 0, .int .u64 0, .int .u64 0, .int .u64 0, .int .u64 0, .int .u64 0] 25) = w2 at *
  generalize w.heap.size + 1 = g1 at *
  have HV2 := Lib.hid hv2
  have HR2 := Lib.hid hr2
  have HB2 := Lib.hid hb2
  clear hv2 hr2 hb2
  go_wp2
  go_loopw [10, 11, 12, 13, 14, 18] (fun at_ _ _ _ _ i wr => ∃ k : Nat, k ≤ 2 ∧ i = .int .i64 k ∧ at_ = .int .i64 0 ∧ Blk wr g1 25 (if k = 0 then #[.int .i64 0, .int .u64 0, .int .u64 0, .int .u64 0, .int .u64 0, .int .u64 0, .int .u64 0, .int .u64 0] else if k = 1 then #[.int .i64 p0, .int .u64 p1, .int .u64 p2, .int .u64 p3, .int .u64 p4, .int .u64 p5, .int .u64 p6, .int .u64 p7] else #[.int .i64 p0, .int .u64 p1, .int .u64 p2, .int .u64 p3, .int .u64 p4, .int .u64 p5, .int .u64 p6, .int .u64 p7]) ∧ Blk wr w.heap.size 25 #[.int .i64 0, .int .u64 0, .int .u64 0, .int .u64 0, .int .u64 0, .int .u64 0, .int .u64 0, .int .u64 0] ∧ Below w.heap.size w wr) (fun _ _ _ _ _ i _ => 2 - (intOf i).toNat)
  case atStart => exact ⟨0, by omega, rfl, rfl, HV2.out, HR2.out, HB2.out⟩
  case round =>
    clear HV2 HR2 HB2
    obtain ⟨k, hk, rfl, rfl, hv, hr, hb⟩ := hrel
    have hk3 : k = 0 ∨ k = 1 ∨ k = 2 := by omega
    rcases hk3 with rfl | rfl | rfl
    all_goals simp only [if_true, if_false, Nat.succ_ne_zero, Nat.reduceEqDiff, if_pos] at hv ⊢
    · skip
      simp only [show ((0 : Nat) : Int) = 0 from rfl]
      have HV := Lib.hid hv
      have HRr := Lib.hid hr
      have HB := Lib.hid hb
      clear hv hr hb
      go_upto_region 7 with (go_at_call 9; (with_reducible refine (GA.out _ HB.out).mono ?_); rintro e w4 ⟨rfl, hb⟩; have HB4 := Lib.hid (below_step HB.out hb); have HV4 := Lib.hid (HV.out.below hb); have HR4 := Lib.hid (HRr.out.below hb); clear hb)
      have hb5 := below_alloc HB4.out (.cells #[.int .i64 p0, .int .u64 p1, .int .u64 p2, .int .u64 p3, .int .u64 p4, .int .u64 p5, .int .u64 p6, .int .u64 p7] 25)
      have hv5 := HV4.out.alloc (.cells #[.int .i64 p0, .int .u64 p1, .int .u64 p2, .int .u64 p3, .int .u64 p4, .int .u64 p5, .int .u64 p6, .int .u64 p7] 25)
      have hr5 := HR4.out.alloc (.cells #[.int .i64 p0, .int .u64 p1, .int .u64 p2, .int .u64 p3, .int .u64 p4, .int .u64 p5, .int .u64 p6, .int .u64 p7] 25)
      have hp5 : Blk (w4.alloc (.cells #[.int .i64 p0, .int .u64 p1, .int .u64 p2, .int .u64 p3, .int .u64 p4, .int .u64 p5, .int .u64 p6, .int .u64 p7] 25)) w4.heap.size 25 #[.int .i64 p0, .int .u64 p1, .int .u64 p2, .int .u64 p3, .int .u64 p4, .int .u64 p5, .int .u64 p6, .int .u64 p7] := Blk.new _ _ _
      generalize w4.alloc (.cells #[.int .i64 p0, .int .u64 p1, .int .u64 p2, .int .u64 p3, .int .u64 p4, .int .u64 p5, .int .u64 p6, .int .u64 p7] 25) = w5 at *
      generalize w4.heap.size = g5 at *
      obtain ⟨⟨i0, i1, i2, i3, i4, i5, i6, i7⟩, -⟩ := cells8 hp5
      obtain ⟨⟨k0, k1, k2, k3, k4, k5, k6, k7⟩, f0, f1, f2, f3, f4, f5, f6, f7⟩ := cells8 hv5
      have HB5 := Lib.hid hb5
      have HV5 := Lib.hid hv5
      have HR5 := Lib.hid hr5
      clear hb5 hv5 hr5 hp5
      go_wp2
      go_roundw
      case rel => exact ⟨1, by omega, rfl, rfl, HV5.out.set8 _ _ _ _ _ _ _ _, ((((((((HR5.out.far (p := ⟨g1, 0, none⟩) HNE.out _).far (p := ⟨g1, 1, none⟩) HNE.out _).far (p := ⟨g1, 2, none⟩) HNE.out _).far (p := ⟨g1, 3, none⟩) HNE.out _).far (p := ⟨g1, 4, none⟩) HNE.out _).far (p := ⟨g1, 5, none⟩) HNE.out _).far (p := ⟨g1, 6, none⟩) HNE.out _).far (p := ⟨g1, 7, none⟩) HNE.out _), below_set8 HB5.out HGE.out _ _ _ _ _ _ _ _⟩
      case measure => simp [intOf]
    · skip
      simp only [show ((1 : Nat) : Int) = 1 from rfl]
      have HV := Lib.hid hv
      have HRr := Lib.hid hr
      have HB := Lib.hid hb
      clear hv hr hb
      go_upto_region 7 with (go_at_call 9; (with_reducible refine (GB.out _ HB.out).mono ?_); rintro e w4 ⟨rfl, hb⟩; have HB4 := Lib.hid (below_step HB.out hb); have HV4 := Lib.hid (HV.out.below hb); have HR4 := Lib.hid (HRr.out.below hb); clear hb)
      have hb5 := below_alloc HB4.out (.cells #[.int .i64 q0, .int .u64 q1, .int .u64 q2, .int .u64 q3, .int .u64 q4, .int .u64 q5, .int .u64 q6, .int .u64 q7] 25)
      have hv5 := HV4.out.alloc (.cells #[.int .i64 q0, .int .u64 q1, .int .u64 q2, .int .u64 q3, .int .u64 q4, .int .u64 q5, .int .u64 q6, .int .u64 q7] 25)
      have hr5 := HR4.out.alloc (.cells #[.int .i64 q0, .int .u64 q1, .int .u64 q2, .int .u64 q3, .int .u64 q4, .int .u64 q5, .int .u64 q6, .int .u64 q7] 25)
      have hp5 : Blk (w4.alloc (.cells #[.int .i64 q0, .int .u64 q1, .int .u64 q2, .int .u64 q3, .int .u64 q4, .int .u64 q5, .int .u64 q6, .int .u64 q7] 25)) w4.heap.size 25 #[.int .i64 q0, .int .u64 q1, .int .u64 q2, .int .u64 q3, .int .u64 q4, .int .u64 q5, .int .u64 q6, .int .u64 q7] := Blk.new _ _ _
      generalize w4.alloc (.cells #[.int .i64 q0, .int .u64 q1, .int .u64 q2, .int .u64 q3, .int .u64 q4, .int .u64 q5, .int .u64 q6, .int .u64 q7] 25) = w5 at *
      generalize w4.heap.size = g5 at *
      obtain ⟨⟨i0, i1, i2, i3, i4, i5, i6, i7⟩, -⟩ := cells8 hp5
      obtain ⟨⟨k0, k1, k2, k3, k4, k5, k6, k7⟩, f0, f1, f2, f3, f4, f5, f6, f7⟩ := cells8 hv5
      have HB5 := Lib.hid hb5
      have HV5 := Lib.hid hv5
      have HR5 := Lib.hid hr5
      clear hb5 hv5 hr5 hp5
      go_wp2
      go_roundw
      case rel => exact ⟨2, by omega, rfl, rfl, HV5.out, HR5.out, HB5.out⟩
      case measure => simp [intOf]
    · simp only [show ((2 : Nat) : Int) = 2 from rfl]
      obtain ⟨⟨j0, j1, j2, j3, j4, j5, j6, j7⟩, -⟩ := cells8 hv
      obtain ⟨⟨k0, k1, k2, k3, k4, k5, k6, k7⟩, f0, f1, f2, f3, f4, f5, f6, f7⟩ := cells8 hr
      have HRr := Lib.hid hr
      have HB := Lib.hid hb
      clear hv hr hb
      go_wp2
      refine bodyPost_ret (results_ctt rfl _ _ w.heap.size _ _ _ _ rfl (HRr.out.set8 _ _ _ _ _ _ _ _) Tryd.underlying25 rfl (by kernel_rfl)) rfl ?_
      exact ⟨rfl, below_set8 HB.out (Nat.le_refl _) _ _ _ _ _ _ _ _⟩
set_option maxHeartbeats 4000000 in
theorem newer_one0 (p0 p1 p2 p3 p4 p5 p6 p7 q0 q1 q2 q3 q4 q5 q6 q7 : Int) (za zb : Int) (a b : Option Addr) (na ca nb cb : Nat) (no : Int) (w : World) (hza : (za == 0) = true) (hzb : (zb == 0) = false) (hp : (p1 == 0) = false)
    (GA : ∀ W, Below w.heap.size w W → Calls Tryd.prog 9 #[.slice a na ca, .int .i64 no] W fun e w' => e = .returned (.tuple #[.agg #[.int .i64 p0, .int .u64 p1, .int .u64 p2, .int .u64 p3, .int .u64 p4, .int .u64 p5, .int .u64 p6, .int .u64 p7], .int .i64 za]) ∧ Below W.heap.size W w')
    (GB : ∀ W, Below w.heap.size w W → Calls Tryd.prog 9 #[.slice b nb cb, .int .i64 no] W fun e w' => e = .returned (.tuple #[.agg #[.int .i64 0, .int .u64 0, .int .u64 0, .int .u64 0, .int .u64 0, .int .u64 0, .int .u64 0, .int .u64 0], .int .i64 zb]) ∧ Below W.heap.size W w') :
    Calls Tryd.prog 12 #[.slice a na ca, .slice b nb cb, .int .i64 no] w fun e w' => e = .returned (.tuple #[.agg #[.int .i64 p0, .int .u64 p1, .int .u64 p2, .int .u64 p3, .int .u64 p4, .int .u64 p5, .int .u64 p6, .int .u64 p7], .int .i64 0, .bool true]) ∧ Below w.heap.size w w' := by
  have GA := Lib.hid GA
  have GB := Lib.hid GB
  have IX0 : ∀ W, (Instr.index 54 (.agg #[.slice a na ca, .slice b nb cb]) (.int .i64 0)).run Tryd.prog W = .ok (.slice a na ca) W := fun _ => by kernel_rfl
  have IX1 : ∀ W, (Instr.index 54 (.agg #[.slice a na ca, .slice b nb cb]) (.int .i64 1)).run Tryd.prog W = .ok (.slice b nb cb) W := fun _ => by kernel_rfl
  have EQ0 : ∀ W, Sem.run Tryd.prog (Op.equalIn 9999 23 (.agg #[.int .u64 0, .int .u64 0, .int .u64 0, .int .u64 0, .int .u64 0, .int .u64 0]) (.agg #[.int .u64 0, .int .u64 0, .int .u64 0, .int .u64 0, .int .u64 0, .int .u64 0])) W = .ok true W := fun _ => by kernel_rfl
  have hb2 := below_alloc (below_alloc (Below.refl w.heap.size w) (.cells #[.int .i64 0, .int .u64 0, .int .u64 0, .int .u64 0, .int .u64 0, .int .u64 0, .int .u64 0, .int .u64 0] 25)) (.cells #[.int .i64 0, .int .u64 0, .int .u64 0, .int .u64 0, .int .u64 0, .int .u64 0, .int .u64 0, .int .u64 0] 25)
  have hr2 : Blk ((w.alloc (.cells #[.int .i64 0, .int .u64 0, .int .u64 0, .int .u64 0, .int .u64 0, .int .u64 0, .int .u64 0, .int .u64 0] 25)).alloc (.cells #[.int .i64 0, .int .u64 0, .int .u64 0, .int .u64 0, .int .u64 0, .int .u64 0, .int .u64 0, .int .u64 0] 25)) w.heap.size 25 #[.int .i64 0, .int .u64 0, .int .u64 0, .int .u64 0, .int .u64 0, .int .u64 0, .int .u64 0, .int .u64 0] := (Blk.new w _ _).alloc _
  have hv2 : Blk ((w.alloc (.cells #[.int .i64 0, .int .u64 0, .int .u64 0, .int .u64 0, .int .u64 0, .int .u64 0, .int .u64 0, .int .u64 0] 25)).alloc (.cells #[.int .i64 0, .int .u64 0, .int .u64 0, .int .u64 0, .int .u64 0, .int .u64 0, .int .u64 0, .int .u64 0] 25)) (w.heap.size + 1) 25 #[.int .i64 0, .int .u64 0, .int .u64 0, .int .u64 0, .int .u64 0, .int .u64 0, .int .u64 0, .int .u64 0] := blk_at (by simp)
  have HNE := Lib.hid (show w.heap.size ≠ w.heap.size + 1 by omega)
  have HGE := Lib.hid (show w.heap.size ≤ w.heap.size + 1 by omega)
  go_enter Tryd.func12, Tryd.ntmps12
  go_upto_region 3 with (fail)
  generalize (w.alloc (.cells #[.int .i64 0, .int .u64 0, .int .u64 0, .int .u64 0, .int .u64 0, .int .u64 0, .int .u64 0, .int .u64 0] 25)).alloc (.cells #[.int .i64 0, .int .u64 0, .int .u64 0, .int .u64 0, .int .u64 0, .int .u64 0, .int .u64 0, .int .u64 0] 25) = w2 at *
  generalize w.heap.size + 1 = g1 at *
  have HV2 := Lib.hid hv2
  have HR2 := Lib.hid hr2
  have HB2 := Lib.hid hb2
  clear hv2 hr2 hb2
  go_wp2
  go_loopw [10, 11, 12, 13, 14, 18] (fun at_ _ _ _ _ i wr => ∃ k : Nat, k ≤ 2 ∧ i = .int .i64 k ∧ at_ = .int .i64 0 ∧ Blk wr g1 25 (if k = 0 then #[.int .i64 0, .int .u64 0, .int .u64 0, .int .u64 0, .int .u64 0, .int .u64 0, .int .u64 0, .int .u64 0] else if k = 1 then #[.int .i64 p0, .int .u64 p1, .int .u64 p2, .int .u64 p3, .int .u64 p4, .int .u64 p5, .int .u64 p6, .int .u64 p7] else #[.int .i64 p0, .int .u64 p1, .int .u64 p2, .int .u64 p3, .int .u64 p4, .int .u64 p5, .int .u64 p6, .int .u64 p7]) ∧ Blk wr w.heap.size 25 #[.int .i64 0, .int .u64 0, .int .u64 0, .int .u64 0, .int .u64 0, .int .u64 0, .int .u64 0, .int .u64 0] ∧ Below w.heap.size w wr) (fun _ _ _ _ _ i _ => 2 - (intOf i).toNat)
  case atStart => exact ⟨0, by omega, rfl, rfl, HV2.out, HR2.out, HB2.out⟩
  case round =>
    clear HV2 HR2 HB2
    obtain ⟨k, hk, rfl, rfl, hv, hr, hb⟩ := hrel
    have hk3 : k = 0 ∨ k = 1 ∨ k = 2 := by omega
    rcases hk3 with rfl | rfl | rfl
    all_goals simp only [if_true, if_false, Nat.succ_ne_zero, Nat.reduceEqDiff, if_pos] at hv ⊢
    · skip
      simp only [show ((0 : Nat) : Int) = 0 from rfl]
      have HV := Lib.hid hv
      have HRr := Lib.hid hr
      have HB := Lib.hid hb
      clear hv hr hb
      go_upto_region 7 with (go_at_call 9; (with_reducible refine (GA.out _ HB.out).mono ?_); rintro e w4 ⟨rfl, hb⟩; have HB4 := Lib.hid (below_step HB.out hb); have HV4 := Lib.hid (HV.out.below hb); have HR4 := Lib.hid (HRr.out.below hb); clear hb)
      have hb5 := below_alloc HB4.out (.cells #[.int .i64 p0, .int .u64 p1, .int .u64 p2, .int .u64 p3, .int .u64 p4, .int .u64 p5, .int .u64 p6, .int .u64 p7] 25)
      have hv5 := HV4.out.alloc (.cells #[.int .i64 p0, .int .u64 p1, .int .u64 p2, .int .u64 p3, .int .u64 p4, .int .u64 p5, .int .u64 p6, .int .u64 p7] 25)
      have hr5 := HR4.out.alloc (.cells #[.int .i64 p0, .int .u64 p1, .int .u64 p2, .int .u64 p3, .int .u64 p4, .int .u64 p5, .int .u64 p6, .int .u64 p7] 25)
      have hp5 : Blk (w4.alloc (.cells #[.int .i64 p0, .int .u64 p1, .int .u64 p2, .int .u64 p3, .int .u64 p4, .int .u64 p5, .int .u64 p6, .int .u64 p7] 25)) w4.heap.size 25 #[.int .i64 p0, .int .u64 p1, .int .u64 p2, .int .u64 p3, .int .u64 p4, .int .u64 p5, .int .u64 p6, .int .u64 p7] := Blk.new _ _ _
      generalize w4.alloc (.cells #[.int .i64 p0, .int .u64 p1, .int .u64 p2, .int .u64 p3, .int .u64 p4, .int .u64 p5, .int .u64 p6, .int .u64 p7] 25) = w5 at *
      generalize w4.heap.size = g5 at *
      obtain ⟨⟨i0, i1, i2, i3, i4, i5, i6, i7⟩, -⟩ := cells8 hp5
      obtain ⟨⟨k0, k1, k2, k3, k4, k5, k6, k7⟩, f0, f1, f2, f3, f4, f5, f6, f7⟩ := cells8 hv5
      have HB5 := Lib.hid hb5
      have HV5 := Lib.hid hv5
      have HR5 := Lib.hid hr5
      clear hb5 hv5 hr5 hp5
      go_wp2
      go_roundw
      case rel => exact ⟨1, by omega, rfl, rfl, HV5.out.set8 _ _ _ _ _ _ _ _, ((((((((HR5.out.far (p := ⟨g1, 0, none⟩) HNE.out _).far (p := ⟨g1, 1, none⟩) HNE.out _).far (p := ⟨g1, 2, none⟩) HNE.out _).far (p := ⟨g1, 3, none⟩) HNE.out _).far (p := ⟨g1, 4, none⟩) HNE.out _).far (p := ⟨g1, 5, none⟩) HNE.out _).far (p := ⟨g1, 6, none⟩) HNE.out _).far (p := ⟨g1, 7, none⟩) HNE.out _), below_set8 HB5.out HGE.out _ _ _ _ _ _ _ _⟩
      case measure => simp [intOf]
    · skip
      simp only [show ((1 : Nat) : Int) = 1 from rfl]
      have HV := Lib.hid hv
      have HRr := Lib.hid hr
      have HB := Lib.hid hb
      clear hv hr hb
      go_upto_region 7 with (go_at_call 9; (with_reducible refine (GB.out _ HB.out).mono ?_); rintro e w4 ⟨rfl, hb⟩; have HB4 := Lib.hid (below_step HB.out hb); have HV4 := Lib.hid (HV.out.below hb); have HR4 := Lib.hid (HRr.out.below hb); clear hb)
      have hb5 := below_alloc HB4.out (.cells #[.int .i64 0, .int .u64 0, .int .u64 0, .int .u64 0, .int .u64 0, .int .u64 0, .int .u64 0, .int .u64 0] 25)
      have hv5 := HV4.out.alloc (.cells #[.int .i64 0, .int .u64 0, .int .u64 0, .int .u64 0, .int .u64 0, .int .u64 0, .int .u64 0, .int .u64 0] 25)
      have hr5 := HR4.out.alloc (.cells #[.int .i64 0, .int .u64 0, .int .u64 0, .int .u64 0, .int .u64 0, .int .u64 0, .int .u64 0, .int .u64 0] 25)
      have hp5 : Blk (w4.alloc (.cells #[.int .i64 0, .int .u64 0, .int .u64 0, .int .u64 0, .int .u64 0, .int .u64 0, .int .u64 0, .int .u64 0] 25)) w4.heap.size 25 #[.int .i64 0, .int .u64 0, .int .u64 0, .int .u64 0, .int .u64 0, .int .u64 0, .int .u64 0, .int .u64 0] := Blk.new _ _ _
      generalize w4.alloc (.cells #[.int .i64 0, .int .u64 0, .int .u64 0, .int .u64 0, .int .u64 0, .int .u64 0, .int .u64 0, .int .u64 0] 25) = w5 at *
      generalize w4.heap.size = g5 at *
      obtain ⟨⟨i0, i1, i2, i3, i4, i5, i6, i7⟩, -⟩ := cells8 hp5
      obtain ⟨⟨k0, k1, k2, k3, k4, k5, k6, k7⟩, f0, f1, f2, f3, f4, f5, f6, f7⟩ := cells8 hv5
      have HB5 := Lib.hid hb5
      have HV5 := Lib.hid hv5
      have HR5 := Lib.hid hr5
      clear hb5 hv5 hr5 hp5
      go_wp2
      go_roundw
      case rel => exact ⟨2, by omega, rfl, rfl, HV5.out, HR5.out, HB5.out⟩
      case measure => simp [intOf]
    · simp only [show ((2 : Nat) : Int) = 2 from rfl]
      obtain ⟨⟨j0, j1, j2, j3, j4, j5, j6, j7⟩, -⟩ := cells8 hv
      obtain ⟨⟨k0, k1, k2, k3, k4, k5, k6, k7⟩, f0, f1, f2, f3, f4, f5, f6, f7⟩ := cells8 hr
      have HRr := Lib.hid hr
      have HB := Lib.hid hb
      clear hv hr hb
      go_wp2
      refine bodyPost_ret (results_ctt rfl _ _ w.heap.size _ _ _ _ rfl (HRr.out.set8 _ _ _ _ _ _ _ _) Tryd.underlying25 rfl (by kernel_rfl)) rfl ?_
      exact ⟨rfl, below_set8 HB.out (Nat.le_refl _) _ _ _ _ _ _ _ _⟩
set_option maxHeartbeats 4000000 in
theorem newer_one1 (p0 p1 p2 p3 p4 p5 p6 p7 q0 q1 q2 q3 q4 q5 q6 q7 : Int) (za zb : Int) (a b : Option Addr) (na ca nb cb : Nat) (no : Int) (w : World) (hza : (za == 0) = false) (hzb : (zb == 0) = true) (hq : (q1 == 0) = false)
    (GA : ∀ W, Below w.heap.size w W → Calls Tryd.prog 9 #[.slice a na ca, .int .i64 no] W fun e w' => e = .returned (.tuple #[.agg #[.int .i64 0, .int .u64 0, .int .u64 0, .int .u64 0, .int .u64 0, .int .u64 0, .int .u64 0, .int .u64 0], .int .i64 za]) ∧ Below W.heap.size W w')
    (GB : ∀ W, Below w.heap.size w W → Calls Tryd.prog 9 #[.slice b nb cb, .int .i64 no] W fun e w' => e = .returned (.tuple #[.agg #[.int .i64 q0, .int .u64 q1, .int .u64 q2, .int .u64 q3, .int .u64 q4, .int .u64 q5, .int .u64 q6, .int .u64 q7], .int .i64 zb]) ∧ Below W.heap.size W w') :
    Calls Tryd.prog 12 #[.slice a na ca, .slice b nb cb, .int .i64 no] w fun e w' => e = .returned (.tuple #[.agg #[.int .i64 q0, .int .u64 q1, .int .u64 q2, .int .u64 q3, .int .u64 q4, .int .u64 q5, .int .u64 q6, .int .u64 q7], .int .i64 1, .bool true]) ∧ Below w.heap.size w w' := by
  have GA := Lib.hid GA
  have GB := Lib.hid GB
  have IX0 : ∀ W, (Instr.index 54 (.agg #[.slice a na ca, .slice b nb cb]) (.int .i64 0)).run Tryd.prog W = .ok (.slice a na ca) W := fun _ => by kernel_rfl
  have IX1 : ∀ W, (Instr.index 54 (.agg #[.slice a na ca, .slice b nb cb]) (.int .i64 1)).run Tryd.prog W = .ok (.slice b nb cb) W := fun _ => by kernel_rfl
  have EQ0 : ∀ W, Sem.run Tryd.prog (Op.equalIn 9999 23 (.agg #[.int .u64 0, .int .u64 0, .int .u64 0, .int .u64 0, .int .u64 0, .int .u64 0]) (.agg #[.int .u64 0, .int .u64 0, .int .u64 0, .int .u64 0, .int .u64 0, .int .u64 0])) W = .ok true W := fun _ => by kernel_rfl
  have hb2 := below_alloc (below_alloc (Below.refl w.heap.size w) (.cells #[.int .i64 0, .int .u64 0, .int .u64 0, .int .u64 0, .int .u64 0, .int .u64 0, .int .u64 0, .int .u64 0] 25)) (.cells #[.int .i64 0, .int .u64 0, .int .u64 0, .int .u64 0, .int .u64 0, .int .u64 0, .int .u64 0, .int .u64 0] 25)
  have hr2 : Blk ((w.alloc (.cells #[.int .i64 0, .int .u64 0, .int .u64 0, .int .u64 0, .int .u64 0, .int .u64 0, .int .u64 0, .int .u64 0] 25)).alloc (.cells #[.int .i64 0, .int .u64 0, .int .u64 0, .int .u64 0, .int .u64 0, .int .u64 0, .int .u64 0, .int .u64 0] 25)) w.heap.size 25 #[.int .i64 0, .int .u64 0, .int .u64 0, .int .u64 0, .int .u64 0, .int .u64 0, .int .u64 0, .int .u64 0] := (Blk.new w _ _).alloc _
  have hv2 : Blk ((w.alloc (.cells #[.int .i64 0, .int .u64 0, .int .u64 0, .int .u64 0, .int .u64 0, .int .u64 0, .int .u64 0, .int .u64 0] 25)).alloc (.cells #[.int .i64 0, .int .u64 0, .int .u64 0, .int .u64 0, .int .u64 0, .int .u64 0, .int .u64 0, .int .u64 0] 25)) (w.heap.size + 1) 25 #[.int .i64 0, .int .u64 0, .int .u64 0, .int .u64 0, .int .u64 0, .int .u64 0, .int .u64 0, .int .u64 0] := blk_at (by simp)
  have HNE := Lib.hid (show w.heap.size ≠ w.heap.size + 1 by omega)
  have HGE := Lib.hid (show w.heap.size ≤ w.heap.size + 1 by omega)
  go_enter Tryd.func12, Tryd.ntmps12
  go_upto_region 3 with (fail)
  generalize (w.alloc (.cells #[.int .i64 0, .int .u64 0, .int .u64 0, .int .u64 0, .int .u64 0, .int .u64 0, .int .u64 0, .int .u64 0] 25)).alloc (.cells #[.int .i64 0, .int .u64 0, .int .u64 0, .int .u64 0, .int .u64 0, .int .u64 0, .int .u64 0, .int .u64 0] 25) = w2 at *
  generalize w.heap.size + 1 = g1 at *
  have HV2 := Lib.hid hv2
  have HR2 := Lib.hid hr2
  have HB2 := Lib.hid hb2
  clear hv2 hr2 hb2
  go_wp2
  go_loopw [10, 11, 12, 13, 14, 18] (fun at_ _ _ _ _ i wr => ∃ k : Nat, k ≤ 2 ∧ i = .int .i64 k ∧ at_ = .int .i64 (if k = 2 then 1 else 0) ∧ Blk wr g1 25 (if k = 0 then #[.int .i64 0, .int .u64 0, .int .u64 0, .int .u64 0, .int .u64 0, .int .u64 0, .int .u64 0, .int .u64 0] else if k = 1 then #[.int .i64 0, .int .u64 0, .int .u64 0, .int .u64 0, .int .u64 0, .int .u64 0, .int .u64 0, .int .u64 0] else #[.int .i64 q0, .int .u64 q1, .int .u64 q2, .int .u64 q3, .int .u64 q4, .int .u64 q5, .int .u64 q6, .int .u64 q7]) ∧ Blk wr w.heap.size 25 #[.int .i64 0, .int .u64 0, .int .u64 0, .int .u64 0, .int .u64 0, .int .u64 0, .int .u64 0, .int .u64 0] ∧ Below w.heap.size w wr) (fun _ _ _ _ _ i _ => 2 - (intOf i).toNat)
  case atStart => exact ⟨0, by omega, rfl, rfl, HV2.out, HR2.out, HB2.out⟩
  case round =>
    clear HV2 HR2 HB2
    obtain ⟨k, hk, rfl, rfl, hv, hr, hb⟩ := hrel
    have hk3 : k = 0 ∨ k = 1 ∨ k = 2 := by omega
    rcases hk3 with rfl | rfl | rfl
    all_goals simp only [if_true, if_false, Nat.succ_ne_zero, Nat.reduceEqDiff, if_pos] at hv ⊢
    · skip
      simp only [show ((0 : Nat) : Int) = 0 from rfl]
      have HV := Lib.hid hv
      have HRr := Lib.hid hr
      have HB := Lib.hid hb
      clear hv hr hb
      go_upto_region 7 with (go_at_call 9; (with_reducible refine (GA.out _ HB.out).mono ?_); rintro e w4 ⟨rfl, hb⟩; have HB4 := Lib.hid (below_step HB.out hb); have HV4 := Lib.hid (HV.out.below hb); have HR4 := Lib.hid (HRr.out.below hb); clear hb)
      have hb5 := below_alloc HB4.out (.cells #[.int .i64 0, .int .u64 0, .int .u64 0, .int .u64 0, .int .u64 0, .int .u64 0, .int .u64 0, .int .u64 0] 25)
      have hv5 := HV4.out.alloc (.cells #[.int .i64 0, .int .u64 0, .int .u64 0, .int .u64 0, .int .u64 0, .int .u64 0, .int .u64 0, .int .u64 0] 25)
      have hr5 := HR4.out.alloc (.cells #[.int .i64 0, .int .u64 0, .int .u64 0, .int .u64 0, .int .u64 0, .int .u64 0, .int .u64 0, .int .u64 0] 25)
      have hp5 : Blk (w4.alloc (.cells #[.int .i64 0, .int .u64 0, .int .u64 0, .int .u64 0, .int .u64 0, .int .u64 0, .int .u64 0, .int .u64 0] 25)) w4.heap.size 25 #[.int .i64 0, .int .u64 0, .int .u64 0, .int .u64 0, .int .u64 0, .int .u64 0, .int .u64 0, .int .u64 0] := Blk.new _ _ _
      generalize w4.alloc (.cells #[.int .i64 0, .int .u64 0, .int .u64 0, .int .u64 0, .int .u64 0, .int .u64 0, .int .u64 0, .int .u64 0] 25) = w5 at *
      generalize w4.heap.size = g5 at *
      obtain ⟨⟨i0, i1, i2, i3, i4, i5, i6, i7⟩, -⟩ := cells8 hp5
      obtain ⟨⟨k0, k1, k2, k3, k4, k5, k6, k7⟩, f0, f1, f2, f3, f4, f5, f6, f7⟩ := cells8 hv5
      have HB5 := Lib.hid hb5
      have HV5 := Lib.hid hv5
      have HR5 := Lib.hid hr5
      clear hb5 hv5 hr5 hp5
      go_wp2
      go_roundw
      case rel => exact ⟨1, by omega, rfl, rfl, HV5.out, HR5.out, HB5.out⟩
      case measure => simp [intOf]
    · skip
      simp only [show ((1 : Nat) : Int) = 1 from rfl]
      have HV := Lib.hid hv
      have HRr := Lib.hid hr
      have HB := Lib.hid hb
      clear hv hr hb
      go_upto_region 7 with (go_at_call 9; (with_reducible refine (GB.out _ HB.out).mono ?_); rintro e w4 ⟨rfl, hb⟩; have HB4 := Lib.hid (below_step HB.out hb); have HV4 := Lib.hid (HV.out.below hb); have HR4 := Lib.hid (HRr.out.below hb); clear hb)
      have hb5 := below_alloc HB4.out (.cells #[.int .i64 q0, .int .u64 q1, .int .u64 q2, .int .u64 q3, .int .u64 q4, .int .u64 q5, .int .u64 q6, .int .u64 q7] 25)
      have hv5 := HV4.out.alloc (.cells #[.int .i64 q0, .int .u64 q1, .int .u64 q2, .int .u64 q3, .int .u64 q4, .int .u64 q5, .int .u64 q6, .int .u64 q7] 25)
      have hr5 := HR4.out.alloc (.cells #[.int .i64 q0, .int .u64 q1, .int .u64 q2, .int .u64 q3, .int .u64 q4, .int .u64 q5, .int .u64 q6, .int .u64 q7] 25)
      have hp5 : Blk (w4.alloc (.cells #[.int .i64 q0, .int .u64 q1, .int .u64 q2, .int .u64 q3, .int .u64 q4, .int .u64 q5, .int .u64 q6, .int .u64 q7] 25)) w4.heap.size 25 #[.int .i64 q0, .int .u64 q1, .int .u64 q2, .int .u64 q3, .int .u64 q4, .int .u64 q5, .int .u64 q6, .int .u64 q7] := Blk.new _ _ _
      generalize w4.alloc (.cells #[.int .i64 q0, .int .u64 q1, .int .u64 q2, .int .u64 q3, .int .u64 q4, .int .u64 q5, .int .u64 q6, .int .u64 q7] 25) = w5 at *
      generalize w4.heap.size = g5 at *
      obtain ⟨⟨i0, i1, i2, i3, i4, i5, i6, i7⟩, -⟩ := cells8 hp5
      obtain ⟨⟨k0, k1, k2, k3, k4, k5, k6, k7⟩, f0, f1, f2, f3, f4, f5, f6, f7⟩ := cells8 hv5
      have HB5 := Lib.hid hb5
      have HV5 := Lib.hid hv5
      have HR5 := Lib.hid hr5
      clear hb5 hv5 hr5 hp5
      go_wp2
      go_roundw
      case rel => exact ⟨2, by omega, rfl, rfl, HV5.out.set8 _ _ _ _ _ _ _ _, ((((((((HR5.out.far (p := ⟨g1, 0, none⟩) HNE.out _).far (p := ⟨g1, 1, none⟩) HNE.out _).far (p := ⟨g1, 2, none⟩) HNE.out _).far (p := ⟨g1, 3, none⟩) HNE.out _).far (p := ⟨g1, 4, none⟩) HNE.out _).far (p := ⟨g1, 5, none⟩) HNE.out _).far (p := ⟨g1, 6, none⟩) HNE.out _).far (p := ⟨g1, 7, none⟩) HNE.out _), below_set8 HB5.out HGE.out _ _ _ _ _ _ _ _⟩
      case measure => simp [intOf]
    · simp only [show ((2 : Nat) : Int) = 2 from rfl]
      obtain ⟨⟨j0, j1, j2, j3, j4, j5, j6, j7⟩, -⟩ := cells8 hv
      obtain ⟨⟨k0, k1, k2, k3, k4, k5, k6, k7⟩, f0, f1, f2, f3, f4, f5, f6, f7⟩ := cells8 hr
      have HRr := Lib.hid hr
      have HB := Lib.hid hb
      clear hv hr hb
      go_wp2
      refine bodyPost_ret (results_ctt rfl _ _ w.heap.size _ _ _ _ rfl (HRr.out.set8 _ _ _ _ _ _ _ _) Tryd.underlying25 rfl (by kernel_rfl)) rfl ?_
      exact ⟨rfl, below_set8 HB.out (Nat.le_refl _) _ _ _ _ _ _ _ _⟩
set_option maxHeartbeats 4000000 in
theorem newer_none (p0 p1 p2 p3 p4 p5 p6 p7 q0 q1 q2 q3 q4 q5 q6 q7 : Int) (za zb : Int) (a b : Option Addr) (na ca nb cb : Nat) (no : Int) (w : World) (hza : (za == 0) = false) (hzb : (zb == 0) = false) 
    (GA : ∀ W, Below w.heap.size w W → Calls Tryd.prog 9 #[.slice a na ca, .int .i64 no] W fun e w' => e = .returned (.tuple #[.agg #[.int .i64 0, .int .u64 0, .int .u64 0, .int .u64 0, .int .u64 0, .int .u64 0, .int .u64 0, .int .u64 0], .int .i64 za]) ∧ Below W.heap.size W w')
    (GB : ∀ W, Below w.heap.size w W → Calls Tryd.prog 9 #[.slice b nb cb, .int .i64 no] W fun e w' => e = .returned (.tuple #[.agg #[.int .i64 0, .int .u64 0, .int .u64 0, .int .u64 0, .int .u64 0, .int .u64 0, .int .u64 0, .int .u64 0], .int .i64 zb]) ∧ Below W.heap.size W w') :
    Calls Tryd.prog 12 #[.slice a na ca, .slice b nb cb, .int .i64 no] w fun e w' => e = .returned (.tuple #[.agg #[.int .i64 0, .int .u64 0, .int .u64 0, .int .u64 0, .int .u64 0, .int .u64 0, .int .u64 0, .int .u64 0], .int .i64 0, .bool false]) ∧ Below w.heap.size w w' := by
  have GA := Lib.hid GA
  have GB := Lib.hid GB
  have IX0 : ∀ W, (Instr.index 54 (.agg #[.slice a na ca, .slice b nb cb]) (.int .i64 0)).run Tryd.prog W = .ok (.slice a na ca) W := fun _ => by kernel_rfl
  have IX1 : ∀ W, (Instr.index 54 (.agg #[.slice a na ca, .slice b nb cb]) (.int .i64 1)).run Tryd.prog W = .ok (.slice b nb cb) W := fun _ => by kernel_rfl
  have EQ0 : ∀ W, Sem.run Tryd.prog (Op.equalIn 9999 23 (.agg #[.int .u64 0, .int .u64 0, .int .u64 0, .int .u64 0, .int .u64 0, .int .u64 0]) (.agg #[.int .u64 0, .int .u64 0, .int .u64 0, .int .u64 0, .int .u64 0, .int .u64 0])) W = .ok true W := fun _ => by kernel_rfl
  have hb2 := below_alloc (below_alloc (Below.refl w.heap.size w) (.cells #[.int .i64 0, .int .u64 0, .int .u64 0, .int .u64 0, .int .u64 0, .int .u64 0, .int .u64 0, .int .u64 0] 25)) (.cells #[.int .i64 0, .int .u64 0, .int .u64 0, .int .u64 0, .int .u64 0, .int .u64 0, .int .u64 0, .int .u64 0] 25)
  have hr2 : Blk ((w.alloc (.cells #[.int .i64 0, .int .u64 0, .int .u64 0, .int .u64 0, .int .u64 0, .int .u64 0, .int .u64 0, .int .u64 0] 25)).alloc (.cells #[.int .i64 0, .int .u64 0, .int .u64 0, .int .u64 0, .int .u64 0, .int .u64 0, .int .u64 0, .int .u64 0] 25)) w.heap.size 25 #[.int .i64 0, .int .u64 0, .int .u64 0, .int .u64 0, .int .u64 0, .int .u64 0, .int .u64 0, .int .u64 0] := (Blk.new w _ _).alloc _
  have hv2 : Blk ((w.alloc (.cells #[.int .i64 0, .int .u64 0, .int .u64 0, .int .u64 0, .int .u64 0, .int .u64 0, .int .u64 0, .int .u64 0] 25)).alloc (.cells #[.int .i64 0, .int .u64 0, .int .u64 0, .int .u64 0, .int .u64 0, .int .u64 0, .int .u64 0, .int .u64 0] 25)) (w.heap.size + 1) 25 #[.int .i64 0, .int .u64 0, .int .u64 0, .int .u64 0, .int .u64 0, .int .u64 0, .int .u64 0, .int .u64 0] := blk_at (by simp)
  have HNE := Lib.hid (show w.heap.size ≠ w.heap.size + 1 by omega)
  have HGE := Lib.hid (show w.heap.size ≤ w.heap.size + 1 by omega)
  go_enter Tryd.func12, Tryd.ntmps12
  go_upto_region 3 with (fail)
  generalize (w.alloc (.cells #[.int .i64 0, .int .u64 0, .int .u64 0, .int .u64 0, .int .u64 0, .int .u64 0, .int .u64 0, .int .u64 0] 25)).alloc (.cells #[.int .i64 0, .int .u64 0, .int .u64 0, .int .u64 0, .int .u64 0, .int .u64 0, .int .u64 0, .int .u64 0] 25) = w2 at *
  generalize w.heap.size + 1 = g1 at *
  have HV2 := Lib.hid hv2
  have HR2 := Lib.hid hr2
  have HB2 := Lib.hid hb2
  clear hv2 hr2 hb2
  go_wp2
  go_loopw [10, 11, 12, 13, 14, 18] (fun at_ _ _ _ _ i wr => ∃ k : Nat, k ≤ 2 ∧ i = .int .i64 k ∧ at_ = .int .i64 0 ∧ Blk wr g1 25 (if k = 0 then #[.int .i64 0, .int .u64 0, .int .u64 0, .int .u64 0, .int .u64 0, .int .u64 0, .int .u64 0, .int .u64 0] else if k = 1 then #[.int .i64 0, .int .u64 0, .int .u64 0, .int .u64 0, .int .u64 0, .int .u64 0, .int .u64 0, .int .u64 0] else #[.int .i64 0, .int .u64 0, .int .u64 0, .int .u64 0, .int .u64 0, .int .u64 0, .int .u64 0, .int .u64 0]) ∧ Blk wr w.heap.size 25 #[.int .i64 0, .int .u64 0, .int .u64 0, .int .u64 0, .int .u64 0, .int .u64 0, .int .u64 0, .int .u64 0] ∧ Below w.heap.size w wr) (fun _ _ _ _ _ i _ => 2 - (intOf i).toNat)
  case atStart => exact ⟨0, by omega, rfl, rfl, HV2.out, HR2.out, HB2.out⟩
  case round =>
    clear HV2 HR2 HB2
    obtain ⟨k, hk, rfl, rfl, hv, hr, hb⟩ := hrel
    have hk3 : k = 0 ∨ k = 1 ∨ k = 2 := by omega
    rcases hk3 with rfl | rfl | rfl
    all_goals simp only [if_true, if_false, Nat.succ_ne_zero, Nat.reduceEqDiff, if_pos] at hv ⊢
    · skip
      simp only [show ((0 : Nat) : Int) = 0 from rfl]
      have HV := Lib.hid hv
      have HRr := Lib.hid hr
      have HB := Lib.hid hb
      clear hv hr hb
      go_upto_region 7 with (go_at_call 9; (with_reducible refine (GA.out _ HB.out).mono ?_); rintro e w4 ⟨rfl, hb⟩; have HB4 := Lib.hid (below_step HB.out hb); have HV4 := Lib.hid (HV.out.below hb); have HR4 := Lib.hid (HRr.out.below hb); clear hb)
      have hb5 := below_alloc HB4.out (.cells #[.int .i64 0, .int .u64 0, .int .u64 0, .int .u64 0, .int .u64 0, .int .u64 0, .int .u64 0, .int .u64 0] 25)
      have hv5 := HV4.out.alloc (.cells #[.int .i64 0, .int .u64 0, .int .u64 0, .int .u64 0, .int .u64 0, .int .u64 0, .int .u64 0, .int .u64 0] 25)
      have hr5 := HR4.out.alloc (.cells #[.int .i64 0, .int .u64 0, .int .u64 0, .int .u64 0, .int .u64 0, .int .u64 0, .int .u64 0, .int .u64 0] 25)
      have hp5 : Blk (w4.alloc (.cells #[.int .i64 0, .int .u64 0, .int .u64 0, .int .u64 0, .int .u64 0, .int .u64 0, .int .u64 0, .int .u64 0] 25)) w4.heap.size 25 #[.int .i64 0, .int .u64 0, .int .u64 0, .int .u64 0, .int .u64 0, .int .u64 0, .int .u64 0, .int .u64 0] := Blk.new _ _ _
      generalize w4.alloc (.cells #[.int .i64 0, .int .u64 0, .int .u64 0, .int .u64 0, .int .u64 0, .int .u64 0, .int .u64 0, .int .u64 0] 25) = w5 at *
      generalize w4.heap.size = g5 at *
      obtain ⟨⟨i0, i1, i2, i3, i4, i5, i6, i7⟩, -⟩ := cells8 hp5
      obtain ⟨⟨k0, k1, k2, k3, k4, k5, k6, k7⟩, f0, f1, f2, f3, f4, f5, f6, f7⟩ := cells8 hv5
      have HB5 := Lib.hid hb5
      have HV5 := Lib.hid hv5
      have HR5 := Lib.hid hr5
      clear hb5 hv5 hr5 hp5
      go_wp2
      go_roundw
      case rel => exact ⟨1, by omega, rfl, rfl, HV5.out, HR5.out, HB5.out⟩
      case measure => simp [intOf]
    · skip
      simp only [show ((1 : Nat) : Int) = 1 from rfl]
      have HV := Lib.hid hv
      have HRr := Lib.hid hr
      have HB := Lib.hid hb
      clear hv hr hb
      go_upto_region 7 with (go_at_call 9; (with_reducible refine (GB.out _ HB.out).mono ?_); rintro e w4 ⟨rfl, hb⟩; have HB4 := Lib.hid (below_step HB.out hb); have HV4 := Lib.hid (HV.out.below hb); have HR4 := Lib.hid (HRr.out.below hb); clear hb)
      have hb5 := below_alloc HB4.out (.cells #[.int .i64 0, .int .u64 0, .int .u64 0, .int .u64 0, .int .u64 0, .int .u64 0, .int .u64 0, .int .u64 0] 25)
      have hv5 := HV4.out.alloc (.cells #[.int .i64 0, .int .u64 0, .int .u64 0, .int .u64 0, .int .u64 0, .int .u64 0, .int .u64 0, .int .u64 0] 25)
      have hr5 := HR4.out.alloc (.cells #[.int .i64 0, .int .u64 0, .int .u64 0, .int .u64 0, .int .u64 0, .int .u64 0, .int .u64 0, .int .u64 0] 25)
      have hp5 : Blk (w4.alloc (.cells #[.int .i64 0, .int .u64 0, .int .u64 0, .int .u64 0, .int .u64 0, .int .u64 0, .int .u64 0, .int .u64 0] 25)) w4.heap.size 25 #[.int .i64 0, .int .u64 0, .int .u64 0, .int .u64 0, .int .u64 0, .int .u64 0, .int .u64 0, .int .u64 0] := Blk.new _ _ _
      generalize w4.alloc (.cells #[.int .i64 0, .int .u64 0, .int .u64 0, .int .u64 0, .int .u64 0, .int .u64 0, .int .u64 0, .int .u64 0] 25) = w5 at *
      generalize w4.heap.size = g5 at *
      obtain ⟨⟨i0, i1, i2, i3, i4, i5, i6, i7⟩, -⟩ := cells8 hp5
      obtain ⟨⟨k0, k1, k2, k3, k4, k5, k6, k7⟩, f0, f1, f2, f3, f4, f5, f6, f7⟩ := cells8 hv5
      have HB5 := Lib.hid hb5
      have HV5 := Lib.hid hv5
      have HR5 := Lib.hid hr5
      clear hb5 hv5 hr5 hp5
      go_wp2
      go_roundw
      case rel => exact ⟨2, by omega, rfl, rfl, HV5.out, HR5.out, HB5.out⟩
      case measure => simp [intOf]
    · simp only [show ((2 : Nat) : Int) = 2 from rfl]
      obtain ⟨⟨j0, j1, j2, j3, j4, j5, j6, j7⟩, -⟩ := cells8 hv
      obtain ⟨⟨k0, k1, k2, k3, k4, k5, k6, k7⟩, f0, f1, f2, f3, f4, f5, f6, f7⟩ := cells8 hr
      have HRr := Lib.hid hr
      have HB := Lib.hid hb
      clear hv hr hb
      go_wp2
      refine bodyPost_ret (results_ctt rfl _ _ w.heap.size _ _ _ _ rfl (HRr.out.set8 _ _ _ _ _ _ _ _) Tryd.underlying25 rfl (by kernel_rfl)) rfl ?_
      exact ⟨rfl, below_set8 HB.out (Nat.le_refl _) _ _ _ _ _ _ _ _⟩
theorem newer_calls (a b : Option Addr) (na ca nb cb : Nat) (x y : List Int) (no : Int) (w : World) (hx : ∀ i ∈ x, 0 ≤ i ∧ i ≤ 255) (hy : ∀ i ∈ y, 0 ≤ i ∧ i ≤ 255)
    (GA : ∀ W, Below w.heap.size w W → Calls Tryd.prog 9 #[.slice a na ca, .int .i64 no] W fun e w' => GetG W w' (getG x no).1 (getG x no).2 e)
    (GB : ∀ W, Below w.heap.size w W → Calls Tryd.prog 9 #[.slice b nb cb, .int .i64 no] W fun e w' => GetG W w' (getG y no).1 (getG y no).2 e) :
    Calls Tryd.prog 12 #[.slice a na ca, .slice b nb cb, .int .i64 no] w fun e w' => e = .returned (.tuple #[genV (newerG x y no).1, .int .i64 (newerG x y no).2.1, .bool (newerG x y no).2.2]) ∧ Below w.heap.size w w' := by
  have va := newer_ver (b := x) (no := no) hx
  have vb := newer_ver (b := y) (no := no) hy
  have ea := getG_err (b := x) (no := no)
  have eb := getG_err (b := y) (no := no)
  unfold newerG
  generalize (getG x no).1 = p at *
  generalize (getG x no).2 = za at *
  generalize (getG y no).1 = q at *
  generalize (getG y no).2 = zb at *
  unfold GetG at GA GB
  unfold genV genC at *
  by_cases h1 : za = 0
  · have a1 : (za == 0) = true := by simpa using h1
    have v1 := va h1
    by_cases h2 : zb = 0
    · have a2 : (zb == 0) = true := by simpa using h2
      have v2 := vb h2
      by_cases h3 : p.ver < q.ver
      · rw [if_neg (by omega), if_pos h2]
        have h4 : ¬ q.ver ≤ p.ver := by omega
        exact newer_both1 _ _ _ _ _ _ _ _ _ _ _ _ _ _ _ _ za zb a b na ca nb cb no w a1 a2 (by simpa using (show p.ver ≠ 0 by omega)) (by simpa using (show q.ver ≠ 0 by omega)) h3 GA GB
      · rw [if_pos (by omega)]
        have h4 : q.ver ≤ p.ver := by omega
        exact newer_both0 _ _ _ _ _ _ _ _ _ _ _ _ _ _ _ _ za zb a b na ca nb cb no w a1 a2 (by simpa using (show p.ver ≠ 0 by omega)) (by simpa using (show q.ver ≠ 0 by omega)) h3 GA GB
    · have a2 : (zb == 0) = false := by simpa using h2
      have e2 := eb h2
      subst e2
      rw [if_pos (by omega)]
      exact newer_one0 _ _ _ _ _ _ _ _ 0 0 0 0 0 0 0 0 za zb a b na ca nb cb no w a1 a2 (by simpa using (show p.ver ≠ 0 by omega)) GA GB
  · have a1 : (za == 0) = false := by simpa using h1
    have e1 := ea h1
    subst e1
    by_cases h2 : zb = 0
    · have a2 : (zb == 0) = true := by simpa using h2
      have v2 := vb h2
      rw [if_neg (by omega), if_pos h2]
      exact newer_one1 0 0 0 0 0 0 0 0 _ _ _ _ _ _ _ _ za zb a b na ca nb cb no w a1 a2 (by simpa using (show q.ver ≠ 0 by omega)) GA GB
    · have a2 : (zb == 0) = false := by simpa using h2
      have e2 := eb h2
      subst e2
      rw [if_neg (by omega), if_neg h2]
      exact newer_none 0 0 0 0 0 0 0 0 0 0 0 0 0 0 0 0 za zb a b na ca nb cb no w a1 a2 GA GB
end Go.Proofs.YtkahnkjbbcfbgaaDoor.Ct
