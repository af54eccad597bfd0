import Derived.Test.YtdmlpggommephaaAudH
/-! The reference's Bound. -/
namespace Go.Proofs.Ytdmlpggommephaa.Ct
open Go.RowKit
set_option linter.unusedVariables false
set_option linter.unusedSimpArgs false
set_option maxHeartbeats 8000000 in
theorem rbound_good (bl sl lg wi bu ru sd : Int) (f1 f2 f3 : Nat) (a : Option Addr) (cap : Nat) (L : List Sp) (w : World) (h : mayS bl sl lg wi bu ru = true) (hr : RowX w a L) :
    Calls Try.prog 8 #[confV bl sl lg wi bu ru sd f1 f2 f3, .slice a L.length cap] w fun e w' => e = .returned (.int .i64 (bsum (upS sl 3) L L.length)) ∧ Below w.heap.size w w' := by
  have mc := fun w => may_calls bl sl lg wi bu ru sd f1 f2 f3 w
  rw [h] at mc
  have hb : (1 ≤ bl ∧ bl ≤ 512) ∧ (1 ≤ sl ∧ sl ≤ 192) ∧ (1 ≤ lg ∧ lg ≤ 256) := by
    unfold mayS inS at h
    simp only [Bool.and_eq_true, decide_eq_true_eq] at h
    omega
  have hp : 1 ≤ upS sl 3 ∧ upS sl 3 ≤ 64 := by unfold upS; rw [if_neg (by omega)]; omega
  have hl := hr.len
  have OC1 := Lib.hid (fun (x : Sp) (fa : Option Addr) (fc : Nat) (w : World) (hh : Row .i64 w fa x.fs) (hx : WfS x) => rone_calls bl sl lg wi bu ru sd f1 f2 f3 x fa fc w h hh hx)
  have AC := Lib.hid (fun a b w ha hb => radd_calls a b w ha hb)
  have BS0 := Lib.hid (show bsum (upS sl 3) L 0 = 0 from rfl)
  have BS := Lib.hid (fun k => show bsum (upS sl 3) L (k + 1) = satAdd (bsum (upS sl 3) L k) (oneS (upS sl 3) (L.getD k noSp)) from rfl)
  have BD := Lib.hid (fun k => bsum_bd (upS sl 3) L k)
  have OB := Lib.hid (fun (x : Sp) (hx : WfS x) => oneS_bd (leaves := upS sl 3) hx (by omega) (by omega))
  have hb1 := below_alloc (below_alloc (Below.refl w.heap.size w) (.cells (confC bl sl lg wi bu ru sd f1 f2 f3) 25)) (.cells (confC bl sl lg wi bu ru sd f1 f2 f3) 25)
  have hk0 : Blk (w.alloc (.cells (confC bl sl lg wi bu ru sd f1 f2 f3) 25)) w.heap.size 25 (confC bl sl lg wi bu ru sd f1 f2 f3) := Blk.new _ _ _
  have hk1 := hk0.alloc (.cells (confC bl sl lg wi bu ru sd f1 f2 f3) 25)
  have HR := Lib.hid (hr.below hb1)
  have HB := Lib.hid hb1
  have HK := Lib.hid hk1
  clear h hb hp hr hb1 hk1 hk0
  simp only [confV, confC, Value.cells] at mc
  unfold confC at *
  unfold confV at *
  generalize bsum (upS sl 3) L = bs at *
  generalize upS sl 3 = q3 at *
  have MC := Lib.hid mc; clear mc
  go_enter Try.func8, Try.ntmps8
  go_upto_region 4 with (first
    | (go_at_call 23; (with_reducible refine (MC.out _).mono ?_); rintro e w2 ⟨rfl, rfl⟩))
  generalize (w.alloc (.cells #[.int .i64 bl, .int .i64 sl, .int .i64 lg, .int .i64 wi, .int .i64 bu, .int .u64 sd, .float .f64 f1, .float .f64 f2, .float .f64 f3, .int .i64 ru] 25)).alloc (.cells #[.int .i64 bl, .int .i64 sl, .int .i64 lg, .int .i64 wi, .int .i64 bu, .int .u64 sd, .float .f64 f1, .float .f64 f2, .float .f64 f3, .int .i64 ru] 25) = wc at *
  clear MC
  go_wp2
  go_loopw [5, 6] (fun s i wr => ∃ k : Nat, k ≤ L.length ∧ i = .int .i64 k ∧ s = .int .i64 (bs k) ∧ Below wc.heap.size wc wr) (fun _ i _ => L.length - (intOf i).toNat)
  case atStart => exact ⟨0, by omega, rfl, by rw [BS0.out], Below.refl _ _⟩
  case round =>
    obtain ⟨k, hk, rfl, rfl, hbel⟩ := hrel
    have HBR := Lib.hid hbel
    by_cases hlt : k < L.length
    · have hki : (k : Int) < L.length := by omega
      obtain ⟨ad, rfl, hwf, fa, fc, c0, c1, c2, c3, c4, hrow⟩ := (HR.out.below hbel).at_ hlt
      have N1 := Lib.hid (BS.out k)
      have N2 := Lib.hid (BD.out k)
      have O1 := Lib.hid (fun w h => OC1.out (L.getD k noSp) fa fc w h hwf)
      have O2 := Lib.hid (OB.out _ hwf)
      have HROW := Lib.hid hrow
      clear hwf hrow
      generalize L.getD k noSp = x at *
      have O3 := Lib.hid (fun W => AC.out (bs k) (oneS q3 x) W N2.out (by have := O2.out; unfold I64; omega))
      have NX := Lib.hid (show bs (k + 1) = satAdd (bs k) (oneS q3 x) from N1.out)
      clear N1
      generalize satAdd (bs k) (oneS q3 x) = s2 at *
      generalize oneS q3 x = o1 at *
      unfold stepV at O1
      unfold stepC at O1
      generalize hn : x.fs.length = n at *
      obtain ⟨op, xa, xb, xc, fs⟩ := x
      dsimp only at *
      clear hn
      have hkp := HK.out.below hbel
      have KEEP := Lib.hid (fun w' (hb : Below wr.heap.size wr w') => (show w'.cell? ⟨w.heap.size, 0, none⟩ = some (.int .i64 bl) ∧ w'.cell? ⟨w.heap.size, 1, none⟩ = some (.int .i64 sl) ∧ w'.cell? ⟨w.heap.size, 2, none⟩ = some (.int .i64 lg) ∧ w'.cell? ⟨w.heap.size, 3, none⟩ = some (.int .i64 wi) ∧ w'.cell? ⟨w.heap.size, 4, none⟩ = some (.int .i64 bu) ∧ w'.cell? ⟨w.heap.size, 5, none⟩ = some (.int .u64 sd) ∧ w'.cell? ⟨w.heap.size, 6, none⟩ = some (.float .f64 f1) ∧ w'.cell? ⟨w.heap.size, 7, none⟩ = some (.float .f64 f2) ∧ w'.cell? ⟨w.heap.size, 8, none⟩ = some (.float .f64 f3) ∧ w'.cell? ⟨w.heap.size, 9, none⟩ = some (.int .i64 ru) ∧ w'.cell? (ad.add (k * 5)) = some (.int .i64 op) ∧ w'.cell? ⟨(ad.add (k * 5)).block, (ad.add (k * 5)).off + 1, none⟩ = some (.int .i64 xa) ∧ w'.cell? ⟨(ad.add (k * 5)).block, (ad.add (k * 5)).off + 2, none⟩ = some (.int .i64 xb) ∧ w'.cell? ⟨(ad.add (k * 5)).block, (ad.add (k * 5)).off + 3, none⟩ = some (.int .i64 xc) ∧ w'.cell? ⟨(ad.add (k * 5)).block, (ad.add (k * 5)).off + 4, none⟩ = some (.slice fa n fc) from by
        obtain ⟨g0, g1, g2, g3, g4, g5, g6, g7, g8, g9⟩ := cf_blk (hkp.below hb)
        exact ⟨g0, g1, g2, g3, g4, g5, g6, g7, g8, g9, bget hb c0, bget hb c1, bget hb c2, bget hb c3, bget hb c4⟩))
      have O1 := Lib.hid (fun W hb => O1.out W (HROW.out.below (w' := W) hb))
      clear hkp HROW c0 c1 c2 c3 c4 hbel
      go_upto_region 7 with (fail)
      go_region_held (fun w' => w'.cell? ⟨w.heap.size, 0, none⟩ = some (.int .i64 bl) ∧ w'.cell? ⟨w.heap.size, 1, none⟩ = some (.int .i64 sl) ∧ w'.cell? ⟨w.heap.size, 2, none⟩ = some (.int .i64 lg) ∧ w'.cell? ⟨w.heap.size, 3, none⟩ = some (.int .i64 wi) ∧ w'.cell? ⟨w.heap.size, 4, none⟩ = some (.int .i64 bu) ∧ w'.cell? ⟨w.heap.size, 5, none⟩ = some (.int .u64 sd) ∧ w'.cell? ⟨w.heap.size, 6, none⟩ = some (.float .f64 f1) ∧ w'.cell? ⟨w.heap.size, 7, none⟩ = some (.float .f64 f2) ∧ w'.cell? ⟨w.heap.size, 8, none⟩ = some (.float .f64 f3) ∧ w'.cell? ⟨w.heap.size, 9, none⟩ = some (.int .i64 ru) ∧ w'.cell? (ad.add (k * 5)) = some (.int .i64 op) ∧ w'.cell? ⟨(ad.add (k * 5)).block, (ad.add (k * 5)).off + 1, none⟩ = some (.int .i64 xa) ∧ w'.cell? ⟨(ad.add (k * 5)).block, (ad.add (k * 5)).off + 2, none⟩ = some (.int .i64 xb) ∧ w'.cell? ⟨(ad.add (k * 5)).block, (ad.add (k * 5)).off + 3, none⟩ = some (.int .i64 xc) ∧ w'.cell? ⟨(ad.add (k * 5)).block, (ad.add (k * 5)).off + 4, none⟩ = some (.slice fa n fc))
        (first | exact KEEP.out _ HBF.out | exact KEEP.out _ (below_drew (Below.refl _ _)))
        (first
          | (go_at_call 25; (with_reducible refine (O1.out _ (below_drew (Below.refl _ _))).mono ?_); rintro e w4 ⟨rfl, hb⟩; have HBF := Lib.hid (below_step (below_drew (Below.refl wr.heap.size wr)) hb); clear hb)
          | (go_at_call 24; (with_reducible refine (O3.out _).mono ?_); rintro e w5 ⟨rfl, rfl⟩))
      all_goals go_wp2
      all_goals go_roundw
      case rel => exact ⟨k + 1, by omega, by go_num, by rw [NX.out], below_step HBR.out HBF.out⟩
      case measure => simp [intOf]; omega
    · obtain rfl : k = L.length := by omega
      go_wp2
      go_ret
      exact ⟨rfl, below_step HB.out HBR.out⟩
set_option maxHeartbeats 4000000 in
theorem rbound_bad (bl sl lg wi bu ru sd : Int) (f1 f2 f3 : Nat) (a : Option Addr) (cap n : Nat) (w : World) (h : mayS bl sl lg wi bu ru = false) :
    Calls Try.prog 8 #[confV bl sl lg wi bu ru sd f1 f2 f3, .slice a n cap] w fun e w' => e = .returned (.int .i64 0) ∧ Below w.heap.size w w' := by
  have mc := fun w => may_calls bl sl lg wi bu ru sd f1 f2 f3 w
  rw [h] at mc
  clear h
  simp only [confV, confC, Value.cells] at mc
  unfold confV
  have MC := Lib.hid mc; clear mc
  go_enter Try.func8, Try.ntmps8
  go_wp2_with (first
    | (go_at_call 23; (with_reducible refine (MC.out _).mono ?_); rintro e w2 ⟨rfl, rfl⟩))
  go_ret
  exact ⟨rfl, by repeat (first | with_reducible exact Below.refl _ _ | with_reducible apply below_alloc)⟩
theorem rbound_calls (bl sl lg wi bu ru sd : Int) (f1 f2 f3 : Nat) (a : Option Addr) (cap : Nat) (L : List Sp) (w : World) (hr : RowX w a L) :
    Calls Try.prog 8 #[confV bl sl lg wi bu ru sd f1 f2 f3, .slice a L.length cap] w fun e w' => e = .returned (.int .i64 (boundS bl sl lg wi bu ru L)) ∧ Below w.heap.size w w' := by
  unfold boundS
  cases h : mayS bl sl lg wi bu ru
  · exact rbound_bad bl sl lg wi bu ru sd f1 f2 f3 a cap L.length w h
  · exact rbound_good bl sl lg wi bu ru sd f1 f2 f3 a cap L w h hr
end Go.Proofs.Ytdmlpggommephaa.Ct
