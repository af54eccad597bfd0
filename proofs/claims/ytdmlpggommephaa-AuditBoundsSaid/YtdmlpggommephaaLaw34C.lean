import Derived.Test.YtdmlpggommephaaAudJ
import Derived.Test.YtdmlpggommephaaOpenX
/-! Chapter 34: AuditBounds. -/
namespace Go.Proofs.Ytdmlpggommephaa.Ct
open Go.RowKit
set_option linter.unusedVariables false
set_option linter.unusedSimpArgs false
set_option maxHeartbeats 8000000 in
theorem bounds_core (bl sl lg wi bu ru sd : Int) (f1 f2 f3 : Nat) (a : Option Addr) (cap ll : Nat) (us : List Sp) (x : Sp) (fa : Option Addr) (fc : Nat) (w : World) (hc : ll ≤ cap) (hm : cap ≤ 9223372036854775807) (hr : RowX w a us) (hx : WfS x) (hrx : Row .i64 w fa x.fs)
    (e1 : (¬ 40 < ll ∧ us.length = ll ∧ us.length ≤ 40) ∨ (40 < ll ∧ us.length = 40)) (had : 40 < ll → ∃ ad, a = some ad) :
    Calls Try.prog 3 #[confV bl sl lg wi bu ru sd f1 f2 f3, .slice a ll cap, stepV x fa fc] w fun e w' => e = .returned (.bool true) ∧ Below w.heap.size w w' := by
  have hb1 := below_alloc (below_alloc (Below.refl w.heap.size w) (.cells (confC bl sl lg wi bu ru sd f1 f2 f3) 25)) (.cells (stepC x fa fc) 30)
  have hk0 : Blk (w.alloc (.cells (confC bl sl lg wi bu ru sd f1 f2 f3) 25)) w.heap.size 25 (confC bl sl lg wi bu ru sd f1 f2 f3) := Blk.new _ _ _
  have hk1 := hk0.alloc (.cells (stepC x fa fc) 30)
  have hk2 : Blk ((w.alloc (.cells (confC bl sl lg wi bu ru sd f1 f2 f3) 25)).alloc (.cells (stepC x fa fc) 30)) (w.heap.size + 1) 30 (stepC x fa fc) := blk_at (by simp)
  have HR := Lib.hid (hr.below hb1)
  have HRX := Lib.hid (hrx.below hb1)
  have HX := Lib.hid hx
  have BM := Lib.hid (boundS_more (bl := bl) (sl := sl) (lg := lg) (wi := wi) (bu := bu) (ru := ru) us hx)
  have B1 := Lib.hid (fun W h => bound_calls bl sl lg wi bu ru sd f1 f2 f3 a cap us W h)
  have B2 := Lib.hid (fun W h => rbound_calls bl sl lg wi bu ru sd f1 f2 f3 a cap us W h)
  have B3 := Lib.hid (fun (a7 : Option Addr) c7 W h => bound_calls bl sl lg wi bu ru sd f1 f2 f3 a7 c7 (us ++ [x]) W h)
  rw [show (us ++ [x]).length = us.length + 1 by simp] at B3
  have AW := Lib.hid (fun W => aawake_calls W)
  have HB1 := Lib.hid hb1
  clear hr hx hrx hb1 hk0
  generalize boundS bl sl lg wi bu ru us = bv at *
  generalize boundS bl sl lg wi bu ru (us ++ [x]) = bm at *
  unfold stepV stepC confV confC at *
  obtain ⟨ys, hfl, hcl⟩ := HR.out.flat
  have HFL := Lib.hid hfl
  have SN := Lib.hid (fun (W : World) (h : FlatX W ys us) (hr : Row .i64 W fa x.fs) => h.snoc HX.out (fc := fc) hr)
  have HYL := Lib.hid (show ys.length = us.length * 5 from hfl.1)
  have ONE := Lib.hid hfl.one
  clear hfl
  obtain ⟨op, xa, xb, xc, fs⟩ := x
  dsimp only at *
  have HCL := Lib.hid hcl
  have HUX := Lib.hid (fun (W : World) (base : Nat) (a7 : Option Addr) (c7 : Nat) (h : SL base W 30 5 (.slice a7 (us.length + 1) c7) (us.length + 1) (ys ++ [.int .i64 op, .int .i64 xa, .int .i64 xb, .int .i64 xc, .slice fa fs.length fc])) (hf : FlatX W ys us) (hr : Row .i64 W fa fs) => (show RowX W a7 (us ++ [⟨op, xa, xb, xc, fs⟩]) from rowX_of_SL (c := c7) (base := base) (by rw [show (us ++ [(⟨op, xa, xb, xc, fs⟩ : Sp)]).length = us.length + 1 by simp]; exact h) (SN.out W hf hr)))
  generalize hn : fs.length = n at *
  generalize hul : us.length = ul at *
  clear hn hul hcl SN
  have hu40 : ul ≤ 40 := by omega
  have n1 : (bv == bv) = true := beq_self_eq_true _
  have hbm := BM.out
  go_enter Try.func3, Try.ntmps3
  go_upto_if 10 with (fail)
  generalize (w.alloc (.cells #[.int .i64 bl, .int .i64 sl, .int .i64 lg, .int .i64 wi, .int .i64 bu, .int .u64 sd, .float .f64 f1, .float .f64 f2, .float .f64 f3, .int .i64 ru] 25)).alloc (.cells #[.int .i64 op, .int .i64 xa, .int .i64 xb, .int .i64 xc, .slice fa n fc] 30) = w2 at *
  go_cut [1] (fun s1 wx => s1 = .slice a ul cap ∧ wx = w2)
  case first =>
    rcases e1 with ⟨q1, rfl, q2⟩ | ⟨q1, rfl⟩
    · go_wp2
      go_meet
      exact ⟨rfl, rfl⟩
    · obtain ⟨ad, rfl⟩ := had q1
      go_wp2
      go_meet
      exact ⟨rfl, rfl⟩
  case rest =>
    obtain ⟨rfl, hwc⟩ := hcut
    have hwc := hwc.symm
    subst hwc
    clear e1 had hc
    obtain ⟨⟨k0, k1, k2, k3, k4⟩, -⟩ := cells5 hk2
    have al0 := fun (o : Obj) => show (w2.alloc o).cell? ⟨w.heap.size + 1, 0, none⟩ = _ from (hk2.alloc o).cell 0
    have al1 := fun (o : Obj) => show (w2.alloc o).cell? ⟨w.heap.size + 1, 1, none⟩ = _ from (hk2.alloc o).cell 1
    have al2 := fun (o : Obj) => show (w2.alloc o).cell? ⟨w.heap.size + 1, 2, none⟩ = _ from (hk2.alloc o).cell 2
    have al3 := fun (o : Obj) => show (w2.alloc o).cell? ⟨w.heap.size + 1, 3, none⟩ = _ from (hk2.alloc o).cell 3
    have al4 := fun (o : Obj) => show (w2.alloc o).cell? ⟨w.heap.size + 1, 4, none⟩ = _ from (hk2.alloc o).cell 4
    have HK2 := Lib.hid hk2
    have HK1 := Lib.hid hk1
    clear hk1 hk2
    have HC := Lib.hid (fun W (hb : Below w2.heap.size w2 W) hp => (show ∃ ad', a = some ad' ∧ ∀ j u, ys[j]? = some u → W.cell? (ad'.add j) = some u from by
      obtain ⟨ad', e, h⟩ := HCL.out hp
      exact ⟨ad', e, fun j u hj => bget hb (h j u hj)⟩))
    go_upto_region 3 with (fail)
    go_cut [7] (fun s7 wx => ∃ a7 c7, s7 = .slice a7 (ul + 1) c7 ∧ RowX wx a7 (us ++ [⟨op, xa, xb, xc, fs⟩]) ∧ Below w2.heap.size w2 wx)
    case first =>
      go_region_law ((first
        | (refine step_app0X (base := w2.heap.size) 26 (.agg #[.int .i64 0, .int .i64 0, .int .i64 0, .int .i64 0, .slice none 0 0]) 56 Try.underlying26 infoS rfl (by decide) rfl (.tmp 13) (.tmp 14) (by rfl) (by rfl) (by first | exact SL.lit0_at (by simp) (by simp) | exact SL.alloc (SL.lit0_at (by simp) (by simp)) _) (by rfl) HYL.out (HC.out _ (by repeat (first | with_reducible exact Below.refl _ _ | with_reducible apply below_alloc | with_reducible apply below_drew))) ONE.out (by omega) (by decide) (by first | (simp; done) | (simp; omega)) ?_; intro v3 w3 hs3 hb3; obtain ⟨a3, cap3, hv3, -, -⟩ := hs3.form; subst hv3; have HS3 := Lib.hid hs3; have HW3 := Lib.hid hb3; have HB3 := Lib.hid (below_step (show Below w2.heap.size w2 _ from by repeat (first | with_reducible exact Below.refl _ _ | with_reducible apply below_alloc | with_reducible apply below_drew)) hb3); have hk3 := HK2.out.below HB3.out; have k30 := hk3.cell 0; have k31 := hk3.cell 1; have k32 := hk3.cell 2; have k33 := hk3.cell 3; have k34 := hk3.cell 4; clear hk3 hs3 hb3)
        | (refine step_appSL (mine := mineS) (base := w2.heap.size) 26 (.agg #[.int .i64 0, .int .i64 0, .int .i64 0, .int .i64 0, .slice none 0 0]) 56 Try.underlying26 infoS rfl (by decide) mineS_s rfl (.tmp 15) (.tmp 17) (by rfl) (by rfl) (by first | exact HS3.out | exact HS3.out.alloc _) _ 1 (by rfl) #[.int .i64 op, .int .i64 xa, .int .i64 xb, .int .i64 xc, .slice fa n fc] (by rfl) (by first | exact ⟨_, _, heap_last (by simp)⟩ | exact ⟨_, _, (HW3.out.block _ (by simp <;> omega)).trans (heap_last (by simp))⟩ | exact ⟨_, _, (HW3.out.block _ (by simp <;> omega)).trans (heap_prev (by simp))⟩) (by simp [Value.oneCell']) (by omega) (by decide) (by first | exact HB3.out.size | (have := HB3.out.size; simp; omega)) ?_; intro v4 w4 hs4 hf4; obtain ⟨a4, cap4, hv4, -, -⟩ := hs4.form; subst hv4; have HS4 := Lib.hid hs4; have HB4 := Lib.hid (Below.trans (show Below w2.heap.size w2 _ from by first | exact HB3.out | exact below_alloc HB3.out _) (hf4.to_below (by first | exact HB3.out.size | (have := HB3.out.size; simp; omega)))); clear hs4 hf4)))
      all_goals go_wp2
      all_goals go_meet
      all_goals exact ⟨_, _, rfl, HUX.out _ _ _ _ HS4.out (HFL.out.below HB4.out) (HRX.out.below HB4.out), HB4.out⟩
    case rest =>
      obtain ⟨a7, c7, rfl, hrow7, hb7⟩ := hcut
      have HROW7 := Lib.hid hrow7
      have HROW := Lib.hid (HR.out.below hb7)
      have hkc := HK1.out.below hb7
      have HBW := Lib.hid (below_step HB1.out hb7)
      have KEEP := Lib.hid (fun w' (hb : Below wc.heap.size wc w') => (show w'.cell? ⟨w.heap.size, 0, none⟩ = some (.int .i64 bl) ∧ w'.cell? ⟨w.heap.size, 1, none⟩ = some (.int .i64 sl) ∧ w'.cell? ⟨w.heap.size, 2, none⟩ = some (.int .i64 lg) ∧ w'.cell? ⟨w.heap.size, 3, none⟩ = some (.int .i64 wi) ∧ w'.cell? ⟨w.heap.size, 4, none⟩ = some (.int .i64 bu) ∧ w'.cell? ⟨w.heap.size, 5, none⟩ = some (.int .u64 sd) ∧ w'.cell? ⟨w.heap.size, 6, none⟩ = some (.float .f64 f1) ∧ w'.cell? ⟨w.heap.size, 7, none⟩ = some (.float .f64 f2) ∧ w'.cell? ⟨w.heap.size, 8, none⟩ = some (.float .f64 f3) ∧ w'.cell? ⟨w.heap.size, 9, none⟩ = some (.int .i64 ru) from by
        obtain ⟨g0, g1, g2, g3, g4, g5, g6, g7, g8, g9⟩ := cf_blk (hkc.below hb)
        exact ⟨g0, g1, g2, g3, g4, g5, g6, g7, g8, g9⟩))
      have C1 := Lib.hid (fun W hb => B1.out W (HROW.out.below (w' := W) hb))
      have C2 := Lib.hid (fun W hb => B2.out W (HROW.out.below (w' := W) hb))
      have C3 := Lib.hid (fun W hb => B3.out a7 c7 W (HROW7.out.below (w' := W) hb))
      clear hrow7 hb7 hkc k0 k1 k2 k3 k4 al0 al1 al2 al3 al4 HC B1 B2 B3 HUX
      go_upto_region 4 with (fail)
      go_region_held (fun w' => w'.cell? ⟨w.heap.size, 0, none⟩ = some (.int .i64 bl) ∧ w'.cell? ⟨w.heap.size, 1, none⟩ = some (.int .i64 sl) ∧ w'.cell? ⟨w.heap.size, 2, none⟩ = some (.int .i64 lg) ∧ w'.cell? ⟨w.heap.size, 3, none⟩ = some (.int .i64 wi) ∧ w'.cell? ⟨w.heap.size, 4, none⟩ = some (.int .i64 bu) ∧ w'.cell? ⟨w.heap.size, 5, none⟩ = some (.int .u64 sd) ∧ w'.cell? ⟨w.heap.size, 6, none⟩ = some (.float .f64 f1) ∧ w'.cell? ⟨w.heap.size, 7, none⟩ = some (.float .f64 f2) ∧ w'.cell? ⟨w.heap.size, 8, none⟩ = some (.float .f64 f3) ∧ w'.cell? ⟨w.heap.size, 9, none⟩ = some (.int .i64 ru))
        (first | exact KEEP.out _ HBF.out | exact KEEP.out _ (below_drew (Below.refl _ _)))
        (first
          | (go_at_call 7; (with_reducible refine (C1.out _ HBF.out).mono ?_); rintro e w4 ⟨rfl, hb⟩; have HBF := Lib.hid (below_step HBF.out hb); clear hb)
          | (go_at_call 8; (with_reducible refine (C2.out _ HBF.out).mono ?_); rintro e w4 ⟨rfl, hb⟩; have HBF := Lib.hid (below_step HBF.out hb); clear hb)
          | (go_at_call 7; (with_reducible refine (C3.out _ HBF.out).mono ?_); rintro e w4 ⟨rfl, hb⟩; have HBF := Lib.hid (below_step HBF.out hb); clear hb)
          | (go_at_call 9; (with_reducible refine (AW.out _).mono ?_); rintro e w4 ⟨rfl, hb⟩; have HBF := Lib.hid (below_step HBF.out hb); clear hb)
          | (go_at_call 7; (with_reducible refine (C1.out _ (below_drew (Below.refl _ _))).mono ?_); rintro e w4 ⟨rfl, hb⟩; have HBF := Lib.hid (below_step (below_drew (Below.refl wc.heap.size wc)) hb); clear hb)
          | (go_at_call 8; (with_reducible refine (C2.out _ (below_drew (Below.refl _ _))).mono ?_); rintro e w4 ⟨rfl, hb⟩; have HBF := Lib.hid (below_step (below_drew (Below.refl wc.heap.size wc)) hb); clear hb))
      all_goals go_wp2
      all_goals go_ret
      all_goals exact ⟨rfl, below_step HBW.out HBF.out⟩
theorem bounds_walk' (bl sl lg wi bu ru sd : Int) (f1 f2 f3 : Nat) (a : Option Addr) (cap : Nat) (L : List Sp) (x : Sp) (fa : Option Addr) (fc : Nat) (w : World) (hc : L.length ≤ cap) (hm : cap ≤ 9223372036854775807) (hr : RowX w a L) (hx : WfS x) (hrx : Row .i64 w fa x.fs) :
    Calls Try.prog 3 #[confV bl sl lg wi bu ru sd f1 f2 f3, .slice a L.length cap, stepV x fa fc] w fun e w' => e = .returned (.bool true) ∧ Below w.heap.size w w' := by
  refine bounds_core bl sl lg wi bu ru sd f1 f2 f3 a cap L.length (L.take 40) x fa fc w hc hm (hr.take 40) hx hrx (by rw [List.length_take]; omega) (fun h => ?_)
  obtain ⟨ad, e, -⟩ := hr.at_ (j := 0) (by omega)
  exact ⟨ad, e⟩
theorem bounds_walk (c : CfA) (a : Option Addr) (cap : Nat) (L : List Sp) (s : SpA) (w : World) (_h : True) (hc : L.length ≤ cap) (hm : cap ≤ 9223372036854775807) (hr : RowX w a L) (hs : WfSA w s) :
    Calls Try.prog 3 #[cfA c, .slice a L.length cap, spA s] w fun e w' => e = .returned (.bool true) ∧ Below w.heap.size w w' :=
  bounds_walk' c.bl c.sl c.lg c.wi c.bu c.ru c.sd c.f1 c.f2 c.f3 a cap L s.x s.fa s.fc w hc hm hr hs.1 hs.2
end Go.Proofs.Ytdmlpggommephaa.Ct
