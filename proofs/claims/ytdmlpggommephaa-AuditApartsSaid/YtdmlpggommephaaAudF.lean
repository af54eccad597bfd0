import Derived.Test.YtdmlpggommephaaAudE
/-! Audits: Bound. -/
namespace Go.Proofs.Ytdmlpggommephaa.Ct
open Go.RowKit
set_option linter.unusedVariables false
set_option linter.unusedSimpArgs false
/-- a slice of steps that reads as a list. -/
def RowX (w : World) (a : Option Addr) (L : List Sp) : Prop :=
  L.length ≤ maxLen ∧ (0 < L.length → ∃ ad, a = some ad ∧ ∀ j, j < L.length → WfS (L.getD j noSp) ∧ ∃ fa fc, w.cell? (ad.add (j * 5)) = some (.int .i64 (L.getD j noSp).op) ∧
    w.cell? ⟨(ad.add (j * 5)).block, (ad.add (j * 5)).off + 1, none⟩ = some (.int .i64 (L.getD j noSp).a) ∧ w.cell? ⟨(ad.add (j * 5)).block, (ad.add (j * 5)).off + 2, none⟩ = some (.int .i64 (L.getD j noSp).b) ∧
    w.cell? ⟨(ad.add (j * 5)).block, (ad.add (j * 5)).off + 3, none⟩ = some (.int .i64 (L.getD j noSp).c) ∧ w.cell? ⟨(ad.add (j * 5)).block, (ad.add (j * 5)).off + 4, none⟩ = some (.slice fa (L.getD j noSp).fs.length fc) ∧ Row .i64 w fa (L.getD j noSp).fs)
theorem rowX_nil (w : World) (a : Option Addr) : RowX w a [] := ⟨by decide, fun h => by simp at h⟩
theorem RowX.below {w w' : World} {a : Option Addr} {L : List Sp} (h : RowX w a L) (hb : Below w.heap.size w w') : RowX w' a L :=
  ⟨h.1, fun hp => by
    obtain ⟨ad, e, hc⟩ := h.2 hp
    refine ⟨ad, e, fun j hj => ?_⟩
    obtain ⟨h0, fa, fc, h1, h2, h3, h4, h5, h6⟩ := hc j hj
    exact ⟨h0, fa, fc, bget hb h1, bget hb h2, bget hb h3, bget hb h4, bget hb h5, h6.below hb⟩⟩
theorem RowX.len {w : World} {a : Option Addr} {L : List Sp} (h : RowX w a L) : L.length ≤ 9223372036854775807 := by
  have := h.1; unfold maxLen at this; omega
theorem RowX.at_ {w : World} {a : Option Addr} {L : List Sp} (h : RowX w a L) {j : Nat} (hj : j < L.length) : ∃ ad, a = some ad ∧ WfS (L.getD j noSp) ∧ ∃ fa fc, w.cell? (ad.add (j * 5)) = some (.int .i64 (L.getD j noSp).op) ∧
    w.cell? ⟨(ad.add (j * 5)).block, (ad.add (j * 5)).off + 1, none⟩ = some (.int .i64 (L.getD j noSp).a) ∧ w.cell? ⟨(ad.add (j * 5)).block, (ad.add (j * 5)).off + 2, none⟩ = some (.int .i64 (L.getD j noSp).b) ∧
    w.cell? ⟨(ad.add (j * 5)).block, (ad.add (j * 5)).off + 3, none⟩ = some (.int .i64 (L.getD j noSp).c) ∧ w.cell? ⟨(ad.add (j * 5)).block, (ad.add (j * 5)).off + 4, none⟩ = some (.slice fa (L.getD j noSp).fs.length fc) ∧ Row .i64 w fa (L.getD j noSp).fs := by
  obtain ⟨ad, e, hc⟩ := h.2 (by omega)
  exact ⟨ad, e, hc j hj⟩
theorem RowX.take {w : World} {a : Option Addr} {L : List Sp} (h : RowX w a L) (n : Nat) : RowX w a (L.take n) := by
  refine ⟨by rw [List.length_take]; have := h.1; omega, fun hp => ?_⟩
  rw [List.length_take] at hp
  obtain ⟨ad, e, hc⟩ := h.2 (by omega)
  refine ⟨ad, e, fun j hj => ?_⟩
  rw [List.length_take] at hj
  have := hc j (by omega)
  simp only [List.getD_eq_getElem?_getD, List.getElem?_take, show j < n by omega, if_true] at this ⊢
  exact this
def bsum (lv : Int) (L : List Sp) : Nat → Int
  | 0 => 0
  | k + 1 => satAdd (bsum lv L k) (oneS lv (L.getD k noSp))
theorem bsum_bd (lv : Int) (L : List Sp) (k : Nat) : I64 (bsum lv L k) := by
  cases k with
  | zero => show I64 0; unfold I64; omega
  | succ k => exact sat_bd _
theorem plan_field5 (a0 a1 a2 a3 a4 a6 a7 a8 a9 a10 a11 a12 : Value) (n : Int) (w : World) : (Instr.field 49 (.agg #[a0, a1, a2, a3, a4, .int .i64 n, a6, a7, a8, a9, a10, a11, a12]) 5).run Try.prog w = .ok (.int .i64 n) w := by kernel_rfl
theorem pl_blk {w : World} {g : Nat} {t : TypeId} {v0 v1 v2 v3 v4 v5 v6 v7 v8 v9 v10 v11 v12 : Value} (h : Blk w g t #[v0, v1, v2, v3, v4, v5, v6, v7, v8, v9, v10, v11, v12]) :
    w.cell? ⟨g, 0, none⟩ = some v0 ∧ w.cell? ⟨g, 1, none⟩ = some v1 ∧ w.cell? ⟨g, 2, none⟩ = some v2 ∧ w.cell? ⟨g, 3, none⟩ = some v3 ∧ w.cell? ⟨g, 4, none⟩ = some v4 ∧ w.cell? ⟨g, 5, none⟩ = some v5 ∧ w.cell? ⟨g, 6, none⟩ = some v6 ∧ w.cell? ⟨g, 7, none⟩ = some v7 ∧ w.cell? ⟨g, 8, none⟩ = some v8 ∧ w.cell? ⟨g, 9, none⟩ = some v9 ∧ w.cell? ⟨g, 10, none⟩ = some v10 ∧ w.cell? ⟨g, 11, none⟩ = some v11 ∧ w.cell? ⟨g, 12, none⟩ = some v12 :=
  ⟨h.cell 0, h.cell 1, h.cell 2, h.cell 3, h.cell 4, h.cell 5, h.cell 6, h.cell 7, h.cell 8, h.cell 9, h.cell 10, h.cell 11, h.cell 12⟩
def AtB (w : World) (p0 p1 p2 p3 p4 p5 p6 p7 p8 p9 p10 p11 p12 : Int) (s5 : Value) (wx : World) : Prop :=
  ∃ g, s5 = .pointer (some ⟨g, 0, none⟩) ∧ Blk wx g 53 #[.int .i64 p0, .int .i64 p1, .int .i64 p2, .int .i64 p3, .int .i64 p4, .int .i64 p5, .int .i64 p6, .int .i64 p7, .int .i64 p8, .int .i64 p9, .int .i64 p10, .int .i64 p11, .int .i64 p12] ∧ Below w.heap.size w wx
set_option maxHeartbeats 8000000 in
theorem bound_good (bl sl lg wi bu ru sd : Int) (f1 f2 f3 : Nat) (a : Option Addr) (cap : Nat) (L : List Sp) (w : World) (h : mayS bl sl lg wi bu ru = true) (hr : RowX w a L) :
    Calls Try.prog 7 #[confV bl sl lg wi bu ru sd f1 f2 f3, .slice a L.length cap] w fun e w' => e = .returned (.int .i64 (bsum (upS sl 3) L L.length)) ∧ Below w.heap.size w w' := by
  have oc := fun w => plan_of_calls bl sl lg wi bu ru sd f1 f2 f3 w h
  have hb : (1 ≤ bl ∧ bl ≤ 512) ∧ (1 ≤ sl ∧ sl ≤ 192) ∧ (1 ≤ lg ∧ lg ≤ 256) := by
    unfold mayS inS at h
    simp only [Bool.and_eq_true, decide_eq_true_eq] at h
    omega
  have hp : 1 ≤ upS sl 3 ∧ upS sl 3 ≤ 64 := by unfold upS; rw [if_neg (by omega)]; omega
  have fs := fun (w : World) (a : Addr) (k : FloatKind) (n : Nat) (m : Mode) => run_store Try.prog w a (.float k n) m rfl
  have hl := hr.len
  have HR := Lib.hid hr
  have OC1 := Lib.hid (fun (x : Sp) (fa : Option Addr) (fc : Nat) (w : World) (h : Row .i64 w fa x.fs) (hx : WfS x) => one_calls (upS sl 3) x fa fc w h hx (by omega) (by omega))
  have AC := Lib.hid (fun a b w ha hb => add_calls a b w ha hb)
  have BS0 := Lib.hid (show bsum (upS sl 3) L 0 = 0 from rfl)
  have BS := Lib.hid (fun k => show bsum (upS sl 3) L (k + 1) = satAdd (bsum (upS sl 3) L k) (oneS (upS sl 3) (L.getD k noSp)) from rfl)
  have BD := Lib.hid (fun k => bsum_bd (upS sl 3) L k)
  have OB := Lib.hid (fun (x : Sp) (hx : WfS x) => oneS_bd (leaves := upS sl 3) hx (by omega) (by omega))
  have PP := Lib.hid (fun v0 v1 v2 v3 v4 v5 v6 v7 v8 v9 v10 v11 v12 w => plan_plan v0 v1 v2 v3 v4 v5 v6 v7 v8 v9 v10 v11 v12 w)
  clear h hb hp hr
  unfold planV at oc
  simp only [confV, confC, Value.cells] at oc
  unfold confV
  generalize bsum (upS sl 3) L = bs at *
  generalize upS (upS bl 8) 6 = q2 at *
  generalize upS bl 8 = q1 at *
  generalize upS sl 3 = q3 at *
  have OC := Lib.hid oc; clear oc
  go_enter Try.func7, Try.ntmps7
  go_upto_region 5 with (first
    | (go_at_call 19; (with_reducible refine (OC.out _).mono ?_); rintro e w2 ⟨rfl, rfl⟩))
  go_cut [5, 17, 18, 19] (fun s5 s17 s18 s19 wx => AtB w bl q1 q2 bl (bl + 2 * q2) q3 (2 + q3 + q3) lg (2 + q3 + q3 + lg) sl 2 (2 + q3) (2 + q3 + q3 + lg + 2 * sl) s5 wx ∧ s17 = .slice a L.length cap ∧ s18 = .int .i64 L.length ∧ s19 = .int .i64 0)
  case first =>
    go_wp2
    go_meet
    exact ⟨⟨_, rfl, blk_at (by simp), by repeat (first | with_reducible exact Below.refl _ _ | with_reducible apply below_alloc)⟩, rfl, rfl, rfl⟩
  case rest =>
    obtain ⟨⟨g, rfl, hblk, hbel⟩, rfl, rfl, rfl⟩ := hcut
    generalize bl + 2 * q2 = u4 at *
    generalize 2 + q3 + q3 + lg + 2 * sl = u12 at *
    generalize 2 + q3 + q3 + lg = u8 at *
    generalize 2 + q3 + q3 = u6 at *
    generalize 2 + q3 = u11 at *
    have pf := fun w => plan_field5 (.int .i64 bl) (.int .i64 q1) (.int .i64 q2) (.int .i64 bl) (.int .i64 u4) (.int .i64 u6) (.int .i64 lg) (.int .i64 u8) (.int .i64 sl) (.int .i64 2) (.int .i64 u11) (.int .i64 u12) q3 w
    have HR := Lib.hid (HR.out.below hbel)
    have HK := Lib.hid hblk
    have HB := Lib.hid hbel
    have PC := Lib.hid (fun w => PP.out bl q1 q2 bl u4 q3 u6 lg u8 sl 2 u11 u12 w)
    clear hblk hbel OC PP fs
    go_wp2
    go_loopw [7, 19] (fun s i wr => ∃ k : Nat, k ≤ L.length ∧ i = .int .i64 k ∧ s = .int .i64 (bs k) ∧ Below wc.heap.size wc wr) (fun _ i _ => L.length - (intOf i).toNat)
    case atStart => exact ⟨0, by omega, rfl, by rw [BS0.out], Below.refl _ _⟩
    case round =>
      obtain ⟨k, hk, rfl, rfl, hbel⟩ := hrel
      have HBR := Lib.hid hbel
      by_cases hlt : k < L.length
      · have hki : (k : Int) < L.length := by omega
        obtain ⟨ad, rfl, hwf, fa, fc, c0, c1, c2, c3, c4, hrow⟩ := (HR.out.below hbel).at_ hlt
        have N1 := Lib.hid (BS.out k)
        have N2 := Lib.hid (BD.out k)
        have O1 := Lib.hid (fun w h => OC1.out (L.getD k noSp) fa fc w h hwf)
        have O2 := Lib.hid (OB.out _ hwf)
        have HROW := Lib.hid hrow
        clear hwf hrow
        generalize L.getD k noSp = x at *
        have O3 := Lib.hid (fun W => AC.out (bs k) (oneS q3 x) W N2.out (by have := O2.out; unfold I64; omega))
        have NX := Lib.hid (show bs (k + 1) = satAdd (bs k) (oneS q3 x) from N1.out)
        clear N1
        generalize satAdd (bs k) (oneS q3 x) = s2 at *
        generalize oneS q3 x = o1 at *
        unfold stepV at O1
        unfold stepC at O1
        generalize hn : x.fs.length = n at *
        obtain ⟨op, xa, xb, xc, fs⟩ := x
        dsimp only at *
        have HK2 := Lib.hid (fun W hb => HK.out.below (w' := W) hb)
        have hk0 := pl_blk (HK.out.below hbel)
        obtain ⟨g0, g1, g2, g3, g4, g5, g6, g7, g8, g9, g10, g11, g12⟩ := hk0
        clear hn
        go_upto_region 8 with (fail)
        have hbx := below_alloc (Below.refl wr.heap.size wr) (.cells #[.int .i64 op, .int .i64 xa, .int .i64 xb, .int .i64 xc, .slice fa n fc] 30)
        have HB1 := Lib.hid (below_alloc HBR.out (.cells #[.int .i64 op, .int .i64 xa, .int .i64 xb, .int .i64 xc, .slice fa n fc] 30))
        have hkx : Blk (wr.alloc (.cells #[.int .i64 op, .int .i64 xa, .int .i64 xb, .int .i64 xc, .slice fa n fc] 30)) wr.heap.size 30 #[.int .i64 op, .int .i64 xa, .int .i64 xb, .int .i64 xc, .slice fa n fc] := Blk.new _ _ _
        have HR1 := Lib.hid (HROW.out.below hbx)
        have hkp := HK2.out _ HB1.out
        clear HBR HROW hbel HK2 g0 g1 g2 g3 g4 g5 g6 g7 g8 g9 g10 g11 g12 c0 c1 c2 c3 c4 hbx
        generalize wr.heap.size = gx at *
        generalize wr.alloc (.cells #[.int .i64 op, .int .i64 xa, .int .i64 xb, .int .i64 xc, .slice fa n fc] 30) = w1 at *
        have KEEP := Lib.hid (fun w' (hb : Below w1.heap.size w1 w') => (show w'.cell? ⟨g, 0, none⟩ = some (.int .i64 bl) ∧ w'.cell? ⟨g, 1, none⟩ = some (.int .i64 q1) ∧ w'.cell? ⟨g, 2, none⟩ = some (.int .i64 q2) ∧ w'.cell? ⟨g, 3, none⟩ = some (.int .i64 bl) ∧ w'.cell? ⟨g, 4, none⟩ = some (.int .i64 u4) ∧ w'.cell? ⟨g, 5, none⟩ = some (.int .i64 q3) ∧ w'.cell? ⟨g, 6, none⟩ = some (.int .i64 u6) ∧ w'.cell? ⟨g, 7, none⟩ = some (.int .i64 lg) ∧ w'.cell? ⟨g, 8, none⟩ = some (.int .i64 u8) ∧ w'.cell? ⟨g, 9, none⟩ = some (.int .i64 sl) ∧ w'.cell? ⟨g, 10, none⟩ = some (.int .i64 2) ∧ w'.cell? ⟨g, 11, none⟩ = some (.int .i64 u11) ∧ w'.cell? ⟨g, 12, none⟩ = some (.int .i64 u12) ∧ w'.cell? ⟨gx, 0, none⟩ = some (.int .i64 op) ∧ w'.cell? ⟨gx, 1, none⟩ = some (.int .i64 xa) ∧ w'.cell? ⟨gx, 2, none⟩ = some (.int .i64 xb) ∧ w'.cell? ⟨gx, 3, none⟩ = some (.int .i64 xc) ∧ w'.cell? ⟨gx, 4, none⟩ = some (.slice fa n fc) from by
          obtain ⟨g0, g1, g2, g3, g4, g5, g6, g7, g8, g9, g10, g11, g12⟩ := pl_blk (hkp.below hb)
          obtain ⟨⟨k0, k1, k2, k3, k4⟩, -⟩ := cells5 (hkx.below hb)
          exact ⟨g0, g1, g2, g3, g4, g5, g6, g7, g8, g9, g10, g11, g12, k0, k1, k2, k3, k4⟩))
        have O1 := Lib.hid (fun W hb => O1.out W (HR1.out.below (w' := W) hb))
        have PC := Lib.hid (fun w => (PC.out w).mono fun e w' ⟨h1, h2⟩ => (show _ ∧ Below w.heap.size w w' from ⟨h1, h2 ▸ below_alloc (below_alloc (Below.refl _ _) _) _⟩))
        clear hkx hkp HR1
        go_region_held (fun w' => w'.cell? ⟨g, 0, none⟩ = some (.int .i64 bl) ∧ w'.cell? ⟨g, 1, none⟩ = some (.int .i64 q1) ∧ w'.cell? ⟨g, 2, none⟩ = some (.int .i64 q2) ∧ w'.cell? ⟨g, 3, none⟩ = some (.int .i64 bl) ∧ w'.cell? ⟨g, 4, none⟩ = some (.int .i64 u4) ∧ w'.cell? ⟨g, 5, none⟩ = some (.int .i64 q3) ∧ w'.cell? ⟨g, 6, none⟩ = some (.int .i64 u6) ∧ w'.cell? ⟨g, 7, none⟩ = some (.int .i64 lg) ∧ w'.cell? ⟨g, 8, none⟩ = some (.int .i64 u8) ∧ w'.cell? ⟨g, 9, none⟩ = some (.int .i64 sl) ∧ w'.cell? ⟨g, 10, none⟩ = some (.int .i64 2) ∧ w'.cell? ⟨g, 11, none⟩ = some (.int .i64 u11) ∧ w'.cell? ⟨g, 12, none⟩ = some (.int .i64 u12) ∧ w'.cell? ⟨gx, 0, none⟩ = some (.int .i64 op) ∧ w'.cell? ⟨gx, 1, none⟩ = some (.int .i64 xa) ∧ w'.cell? ⟨gx, 2, none⟩ = some (.int .i64 xb) ∧ w'.cell? ⟨gx, 3, none⟩ = some (.int .i64 xc) ∧ w'.cell? ⟨gx, 4, none⟩ = some (.slice fa n fc))
          (first | exact KEEP.out _ HBF.out | exact KEEP.out _ (below_drew (Below.refl _ _)))
          (first
            | (go_at_call 22; (with_reducible refine (PC.out _).mono ?_); rintro e w3 ⟨rfl, hb⟩; have HBF := Lib.hid (below_step HBF.out hb); clear hb)
            | (go_at_call 22; (with_reducible refine (PC.out _).mono ?_); rintro e w3 ⟨rfl, hb⟩; have HBF := Lib.hid (below_step (below_drew (Below.refl w1.heap.size w1)) hb); clear hb)
            | (go_at_call 21; (with_reducible refine (O1.out _ HBF.out).mono ?_); rintro e w4 ⟨rfl, hb⟩; have HBF := Lib.hid (below_step HBF.out hb); clear hb)
            | (go_at_call 20; (with_reducible refine (O3.out _).mono ?_); rintro e w5 ⟨rfl, rfl⟩))
        all_goals go_wp2
        all_goals go_roundw
        case rel => exact ⟨k + 1, by omega, by go_num, by rw [NX.out], below_step HB1.out HBF.out⟩
        case measure => simp [intOf]; omega
      · obtain rfl : k = L.length := by omega
        go_wp2
        go_ret
        exact ⟨rfl, below_step HB.out HBR.out⟩
set_option maxHeartbeats 4000000 in
theorem bound_bad (bl sl lg wi bu ru sd : Int) (f1 f2 f3 : Nat) (a : Option Addr) (cap n : Nat) (w : World) (h : mayS bl sl lg wi bu ru = false) :
    Calls Try.prog 7 #[confV bl sl lg wi bu ru sd f1 f2 f3, .slice a n cap] w fun e w' => e = .returned (.int .i64 0) ∧ Below w.heap.size w w' := by
  have oc := fun w => plan_of_bad bl sl lg wi bu ru sd f1 f2 f3 w h
  clear h
  simp only [confV, confC, Value.cells] at oc
  unfold confV
  have OC := Lib.hid oc; clear oc
  go_enter Try.func7, Try.ntmps7
  go_wp2_with (first
    | (go_at_call 19; (with_reducible refine (OC.out _).mono ?_); rintro e w2 ⟨rfl, rfl⟩))
  go_ret
  exact ⟨rfl, by repeat (first | with_reducible exact Below.refl _ _ | with_reducible apply below_alloc)⟩
/-- what steps may write at most, under settings. -/
def boundS (bl sl lg wi bu ru : Int) (L : List Sp) : Int := if mayS bl sl lg wi bu ru = true then bsum (upS sl 3) L L.length else 0
theorem bound_calls (bl sl lg wi bu ru sd : Int) (f1 f2 f3 : Nat) (a : Option Addr) (cap : Nat) (L : List Sp) (w : World) (hr : RowX w a L) :
    Calls Try.prog 7 #[confV bl sl lg wi bu ru sd f1 f2 f3, .slice a L.length cap] w fun e w' => e = .returned (.int .i64 (boundS bl sl lg wi bu ru L)) ∧ Below w.heap.size w w' := by
  unfold boundS
  cases h : mayS bl sl lg wi bu ru
  · exact bound_bad bl sl lg wi bu ru sd f1 f2 f3 a cap L.length w h
  · exact bound_good bl sl lg wi bu ru sd f1 f2 f3 a cap L w h hr
theorem boundS_bd (bl sl lg wi bu ru : Int) (L : List Sp) : I64 (boundS bl sl lg wi bu ru L) := by
  unfold boundS; split; exact bsum_bd _ _ _; unfold I64; omega
end Go.Proofs.Ytdmlpggommephaa.Ct
