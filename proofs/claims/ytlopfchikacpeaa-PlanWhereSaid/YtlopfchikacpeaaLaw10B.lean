import Derived.Test.YtlopfchikacpeaaPlanE
import Derived.Deep.RegionWith
import Derived.Deep.DeepCutAuto
/-! Chapter 10: PlanExtents. -/
namespace Go.Proofs.Ytlopfchikacpeaa.Ct
open Go.RowKit
set_option linter.unusedVariables false
set_option linter.unusedSimpArgs false
/-! ### Same -/
set_option maxHeartbeats 2000000 in
theorem same_calls (a b : Option Addr) (cap cap' : Nat) (xs : List Int) (w : World) (h : Row .i64 w a xs) (h' : Row .i64 w b xs) :
    Calls Try.prog 18 #[.slice a xs.length cap, .slice b xs.length cap'] w fun e w' => e = .returned (.bool true) ∧ ∃ m, w.drewN m = w' := by
  have hl := h.len
  have H := Lib.hid h; have H' := Lib.hid h'; clear h h'
  go_enter Try.func18, Try.ntmps18
  go_wp2
  go_loopw [5] (fun i wr => ∃ k m : Nat, k ≤ xs.length ∧ i = .int .i64 (k : Int) ∧ wr = w.drewN m) (fun i _ => xs.length - (intOf i).toNat)
  case atStart => exact ⟨0, 0, by omega, rfl, rfl⟩
  case round =>
    obtain ⟨k, m, hk, rfl, rfl⟩ := hrel
    by_cases hlt : k < xs.length
    · obtain ⟨ad, rfl, hc, -⟩ := H.out.at_ hlt
      obtain ⟨ad', rfl, hc', -⟩ := H'.out.at_ hlt
      have hk2 : (k : Int) < xs.length := by omega
      go_wp2
      go_quiet (fail)
      go_wp2
      exact ⟨⟨k + 1, _, by omega, by go_num, rfl⟩, by simp [intOf]; omega⟩
    · obtain rfl : k = xs.length := by omega
      go_wp2
      go_ret
      exact ⟨rfl, _, rfl⟩
theorem groupS_yes {n of_ b : Int} (h : 0 ≤ n ∧ n < of_) : groupS n of_ b = (n / b, n % b, true) := by unfold groupS; rw [if_pos h]
theorem groupS_no {n of_ b : Int} (h : ¬ (0 ≤ n ∧ n < of_)) : groupS n of_ b = (0, 0, false) := by unfold groupS; rw [if_neg h]
def planC (bl sl lg : Int) : Array Value :=
  #[.int .i64 bl, .int .i64 (upS bl 8), .int .i64 (upS (upS bl 8) 6), .int .i64 bl, .int .i64 (bl + 2 * upS (upS bl 8) 6), .int .i64 (upS sl 3), .int .i64 (2 + upS sl 3 + upS sl 3), .int .i64 lg, .int .i64 (2 + upS sl 3 + upS sl 3 + lg), .int .i64 sl, .int .i64 2, .int .i64 (2 + upS sl 3), .int .i64 (2 + upS sl 3 + upS sl 3 + lg + 2 * sl)]
theorem planV_C (bl sl lg : Int) : planV bl sl lg = .agg (planC bl sl lg) := rfl
theorem Blk.alloc {w : World} {g : Nat} {t : TypeId} {cs : Array Value} (h : Blk w g t cs) (o : Obj) : Blk (w.alloc o) g t cs := (Below.heap_alloc w o g h.lt).trans h
theorem Blk.drewN {w : World} {g : Nat} {t : TypeId} {cs : Array Value} (h : Blk w g t cs) (n : Nat) : Blk (w.drewN n) g t cs := h
theorem conf_blk (b s l : Int) (w : World) (hb : 0 ≤ b ∧ b ≤ 65535) (hs : 0 ≤ s ∧ s ≤ 65535) (hl : 0 ≤ l ∧ l ≤ 65535) :
    Calls Try.prog 13 #[.int .u16 b, .int .u16 s, .int .u16 l] w fun e w' => e = .returned (.agg (confC (1 + b % 512) (1 + s % 192) (1 + l % 256) 10 100 0 0 0 0 0)) ∧ Below w.heap.size w w' :=
  (conf_calls b s l w hb hs hl).mono fun e w' ⟨h1, h2⟩ => ⟨h1, h2 ▸ below_alloc (Below.refl _ _) _⟩
theorem of_blk (bl sl lg wi bu ru sd : Int) (f1 f2 f3 : Nat) (w : World) (h : mayS bl sl lg wi bu ru = true) :
    Calls Try.prog 7 #[.agg (confC bl sl lg wi bu ru sd f1 f2 f3)] w fun e w' => e = .returned (.tuple #[.agg (planC bl sl lg), .int .i64 0]) ∧ Below w.heap.size w w' :=
  (plan_of_calls bl sl lg wi bu ru sd f1 f2 f3 w h).mono fun e w' ⟨h1, h2⟩ => ⟨h1, h2 ▸ below_four _ _ _ _ _⟩
theorem rof_blk (bl sl lg wi bu ru sd : Int) (f1 f2 f3 : Nat) (w : World) (h : mayS bl sl lg wi bu ru = true) :
    Calls Try.prog 12 #[.agg (confC bl sl lg wi bu ru sd f1 f2 f3)] w fun e w' => e = .returned (.agg (planC bl sl lg)) ∧ Below w.heap.size w w' :=
  rof_calls bl sl lg wi bu ru sd f1 f2 f3 w h
theorem ext_blk (bl sl lg n : Int) (w : World) (hn : I64 n) : Calls Try.prog 14 #[.agg (planC bl sl lg), .int .i64 n] w fun e w' =>
      e = .returned (.tuple #[.int .i64 (groupS n bl 8).1, .int .i64 (groupS n bl 8).2.1, .bool (groupS n bl 8).2.2]) ∧ Below w.heap.size w w' :=
  (extent_calls bl _ _ _ _ _ _ _ _ _ _ _ _ n w hn).mono fun e w' ⟨h1, m, h2⟩ => ⟨h1, h2 ▸ below_drewN (below_alloc (Below.refl _ _) _) _⟩
set_option maxHeartbeats 2000000 in
theorem page_calls (v0 v1 v2 v3 v4 v5 v6 v7 v8 v9 v10 v11 v12 n : Int) (w : World) (hn : I64 n) :
    Calls Try.prog 15 #[.agg #[.int .i64 v0, .int .i64 v1, .int .i64 v2, .int .i64 v3, .int .i64 v4, .int .i64 v5, .int .i64 v6, .int .i64 v7, .int .i64 v8, .int .i64 v9, .int .i64 v10, .int .i64 v11, .int .i64 v12], .int .i64 n] w fun e w' =>
      e = .returned (.tuple #[.int .i64 (groupS n v1 6).1, .int .i64 (groupS n v1 6).2.1, .bool (groupS n v1 6).2.2]) ∧ Below w.heap.size w w' := by
  have GC := Lib.hid (fun w => group_calls n v1 6 w hn (by decide) (by decide))
  generalize groupS n v1 6 = r at *
  go_enter Try.func15, Try.ntmps15
  go_wp2_with (go_at_call 33; (with_reducible refine (GC.out _).mono ?_); rintro e w' ⟨rfl, m, rfl⟩)
  go_ret3
  exact ⟨rfl, below_drewN (below_alloc (Below.refl _ _) _) _⟩
theorem page_blk (bl sl lg n : Int) (w : World) (hn : I64 n) : Calls Try.prog 15 #[.agg (planC bl sl lg), .int .i64 n] w fun e w' =>
      e = .returned (.tuple #[.int .i64 (groupS n (upS bl 8) 6).1, .int .i64 (groupS n (upS bl 8) 6).2.1, .bool (groupS n (upS bl 8) 6).2.2]) ∧ Below w.heap.size w w' := page_calls bl _ _ _ _ _ _ _ _ _ _ _ _ n w hn
theorem blk_at {w : World} {g : Nat} {t : TypeId} {cs : Array Value} (h : g = w.heap.size) : Blk (w.alloc (.cells cs t)) g t cs := h ▸ Blk.new w t cs
def At3 (w : World) (bl sl lg : Int) (s10 s11 s12 : Value) (wx : World) : Prop := ∃ gm gp : Nat, s10 = .pointer (some ⟨gm, 0, none⟩) ∧ s11 = .int .i64 0 ∧ s12 = .pointer (some ⟨gp, 0, none⟩) ∧ Blk wx gm 32 (planC bl sl lg) ∧ Blk wx gp 28 (planC bl sl lg) ∧ Below w.heap.size w wx
set_option maxRecDepth 100000 in
set_option maxHeartbeats 8000000 in
theorem extents_walk (b lba n ex : Int) (w : World) (hb : 0 ≤ b ∧ b ≤ 65535) (hl : I64 lba) (hn : I64 n) (hx : I64 ex) :
    Calls Try.prog 4 #[.int .u16 b, .int .i64 lba, .int .i64 n, .int .i64 ex] w fun e w' => e = .returned (.bool true) ∧ Below w.heap.size w w' := by
  have fs := fun (w : World) (a : Addr) (k : FloatKind) (n : Nat) (m : Mode) => run_store Try.prog w a (.float k n) m rfl
  have cc := fun w => conf_calls b 0 0 w hb (by decide) (by decide)
  obtain ⟨bl, hbl⟩ : ∃ bl, 1 + b % 512 = bl := ⟨_, rfl⟩
  have b0 : 1 ≤ bl := by omega
  have b1 : bl ≤ 512 := by omega
  rw [hbl, show (1 : Int) + 0 % 192 = 1 from rfl, show (1 : Int) + 0 % 256 = 1 from rfl] at cc
  have hm : mayS bl 1 1 10 100 0 = true := by unfold mayS inS; simp; omega
  have oc := fun w => plan_of_calls bl 1 1 10 100 0 0 0 0 0 w hm
  have rc := fun w => rof_blk bl 1 1 10 100 0 0 0 0 0 w hm
  have AW := Lib.hid awake_calls
  have EC := Lib.hid (fun w => ext_blk bl 1 1 lba w hl)
  have PC := Lib.hid (fun w => page_blk bl 1 1 ex w hx)
  have MC := Lib.hid (fun w => pmasks_calls (planC bl 1 1) bl _ _ _ _ _ _ _ _ _ _ _ _ lba n w rfl hl hn ⟨by omega, b1⟩)
  have NC := Lib.hid (fun w => rmasks_calls (planC bl 1 1) bl lba n w (Lib.hid rfl) rfl hl hn ⟨by omega, b1⟩)
  have u1 : upS bl 8 = (bl - 1) / 8 + 1 := by unfold upS; rw [if_neg (by omega)]
  have HP0 : Hid ((planC bl 1 1)[0]? = some (.int .i64 bl)) := Lib.hid rfl
  have HP1 : Hid ((planC bl 1 1)[1]? = some (.int .i64 (upS bl 8))) := Lib.hid rfl
  have HPS : Hid ((Try.prog.info? 32).map (·.size) = some (planC bl 1 1).size) := Lib.hid (by kernel_rfl)
  have HPT : Hid ((Try.prog.info? 28).map (·.size) = some (planC bl 1 1).size) := Lib.hid (by kernel_rfl)
  have e1 : 1 ≤ upS bl 8 := by omega
  have e2 : upS bl 8 ≤ 64 := by omega
  simp only [confC, confV, planC, planV, Value.cells] at cc oc rc
  have CC := Lib.hid cc; have OC := Lib.hid oc; have RC := Lib.hid rc
  clear hm hbl u1 cc oc rc
  go_enter Try.func4, Try.ntmps4
  go_upto_region 3 with (first
      | (go_at_call 13; (with_reducible refine (CC.out _).mono ?_); rintro e w1 ⟨rfl, rfl⟩)
      | (go_at_call 7; (with_reducible refine (OC.out _).mono ?_); rintro e w2 ⟨rfl, rfl⟩))

  go_cut [10, 11, 12] (fun s10 s11 s12 wx => At3 w bl 1 1 s10 s11 s12 wx)
  case first =>
    go_wp2_with (go_at_call 12; (with_reducible refine (RC.out _).mono ?_); rintro e w3 ⟨rfl, hb⟩; have HB3 := Lib.hid hb; clear hb)
    go_meet
    exact ⟨_, _, rfl, rfl, rfl, ((blk_at (by simp)).below HB3.out).alloc _, blk_at rfl, below_alloc (below_step (by repeat (first | with_reducible exact Below.refl _ _ | with_reducible apply below_alloc)) HB3.out) _⟩
  case rest =>
    obtain ⟨gm, gp, rfl, rfl, rfl, h1, h2, h3⟩ := hcut
    have HM := Lib.hid h1; have HP := Lib.hid h2; have HB := Lib.hid h3
    clear h1 h2 h3 OC RC CC
    generalize upS bl 8 = pe at *
    generalize planC bl 1 1 = PV at *
    have KC := Lib.hid (fun (w : World) (a : Option Addr) (cap : Nat) (xs : List Int) (h : Row .u8 w a xs) => run_str (P := Try.prog) 47 5 9 Try.underlying47 Try.underlying5 Try.underlying9 a cap xs h)
    generalize masksS (max lba 0).toNat ((min (satAdd lba (max n 0)) bl).toNat - (max lba 0).toNat) = st at *
    obtain ⟨xs, ys⟩ := st
    simp only at MC NC
    rcases (show (0 ≤ lba ∧ lba < bl) ∨ lba < 0 ∨ (0 ≤ lba ∧ bl ≤ lba) by omega) with ⟨k1, k2⟩ | k1 | ⟨k1, k2⟩
    all_goals rcases (show (0 ≤ ex ∧ ex < pe) ∨ ex < 0 ∨ (0 ≤ ex ∧ pe ≤ ex) by omega) with ⟨k3, k4⟩ | k3 | ⟨k3, k4⟩
    all_goals first | rw [groupS_yes ⟨k1, k2⟩] at EC | rw [groupS_no (by omega)] at EC
    all_goals first | rw [groupS_yes ⟨k3, k4⟩] at PC | rw [groupS_no (by omega)] at PC
    all_goals (
      go_wp2_with (first
        | (refine wpList_load_row rfl 32 (.tmp 10) rfl gm rfl 32 PV (0, 0) _ HM.out Try.underlying32 rfl HPS.out ?_)
        | (go_at_call 14; (with_reducible refine (EC.out _).mono ?_); rintro e w4 ⟨rfl, hb⟩; have HM4 := Lib.hid (HM.out.below hb); have HP4 := Lib.hid (HP.out.below hb); have HB4 := Lib.hid (below_step HB.out hb); have c0 : w4.cell? ⟨gp, 0, none⟩ = some (.int .i64 bl) := HP4.out.cell 0 |>.trans HP0.out; clear hb)
        | (refine wpList_load_row rfl 32 (.tmp 10) rfl gm rfl 32 PV (0, 0) _ HM4.out Try.underlying32 rfl HPS.out ?_)
        | (go_at_call 15; (with_reducible refine (PC.out _).mono ?_); rintro e w5 ⟨rfl, hb⟩; have HM5 := Lib.hid (HM4.out.below hb); have HP5 := Lib.hid (HP4.out.below hb); have HB5 := Lib.hid (below_step HB4.out hb); have c1 : w5.cell? ⟨gp, 1, none⟩ = some (.int .i64 pe) := HP5.out.cell 1 |>.trans HP1.out; clear hb c0)
        | (refine wpList_load_row rfl 32 (.tmp 10) rfl gm rfl 32 PV (0, 0) _ HM5.out Try.underlying32 rfl HPS.out ?_)
        | (go_at_call 16; (with_reducible refine (MC.out _).mono ?_); rintro e w6 ⟨va, vb, rfl, o1, o2, hb⟩; have HP6 := Lib.hid (HP5.out.below hb); have HB6 := Lib.hid (below_step HB5.out hb); obtain ⟨a1, c1, rfl, -, -, r1, -, -⟩ := o1.form; obtain ⟨a2, c2, rfl, -, -, r2, -, -⟩ := o2.form; have R1 := Lib.hid r1; have R2 := Lib.hid r2; clear hb o1 o2 r1 r2)
        | (refine wpList_load_row rfl 28 (.tmp 12) rfl gp rfl 28 PV (0, 0) _ HP6.out Try.underlying28 rfl HPT.out ?_)
        | (go_at_call 17; (with_reducible refine (NC.out _).mono ?_); rintro e w7 ⟨va, vb, rfl, o1, o2, hb⟩; have HB7 := Lib.hid (below_step HB6.out hb); obtain ⟨a3, c3, rfl, -, -, r3, -, -⟩ := o1.form; obtain ⟨a4, c4, rfl, -, -, r4, -, -⟩ := o2.form; have SC := Lib.hid (same_calls a1 a3 c1 c3 xs w7 (R1.out.below hb) r3); have R3 := Lib.hid (R2.out.below hb); have R4 := Lib.hid r4; clear hb o1 o2 r3 r4)
        | (go_at_call 18; (with_reducible refine (SC.out).mono ?_); rintro e w8 ⟨rfl, m, rfl⟩; have kc1 := KC.out (w7.drewN m) a2 c2 ys (row_drewN R3.out m); have kc2 := KC.out (w7.drewN m) a4 c4 ys (row_drewN R4.out m))
        | (go_at_call 11; (with_reducible refine (AW.out _).mono ?_); rintro e w9 ⟨rfl, hb⟩; have HB9 := Lib.hid (below_step (below_drewN HB7.out _) hb); clear hb))
      go_ret
      exact ⟨rfl, HB9.out⟩)
end Go.Proofs.Ytlopfchikacpeaa.Ct
