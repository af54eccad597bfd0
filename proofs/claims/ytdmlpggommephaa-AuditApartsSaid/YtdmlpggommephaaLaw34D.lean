import Derived.Test.YtdmlpggommephaaApC
import Derived.Test.YtdmlpggommephaaOpenX
import Derived.Test.YtdmlpggommephaaLaw34A
/-! Chapter 34: AuditAparts. -/
namespace Go.Proofs.Ytdmlpggommephaa.Ct
open Go.RowKit
open Go.ChangeShapes Go.WideShapes Go.Deep
set_option linter.unusedVariables false
set_option linter.unusedSimpArgs false
structure RpA where
  x : Rp
  da : Option Addr
  dc : Nat
theorem open_Replys {H : Type} {enc : TypeId × Value → H} {W : World} {base : Nat} {spare : Nat → Bool} {held : Bool} {r : Reach} {b0 : Nat} {v : Value} {d : DataW H} {p : List MemPlace}
    (hv : Value.okWide Try.prog W r b0 42 v) (h : DataW.Trod enc Try.prog W base spare held 42 v d p) : ∃ (a : Option Addr) (cap : Nat) (L : List Rp), v = .slice a L.length cap ∧ L.length ≤ cap ∧ cap ≤ 9223372036854775807 ∧ RowY W a L := by
  obtain ⟨a0, l0, c0, rfl⟩ := okWide_slice Try.underlying42 hv
  obtain ⟨fuel, hf⟩ := h
  rcases open_slice_fields Try.underlying42 Try.underlying69 (by kernel_rfl) (by kernel_rfl) hf with ⟨hcs, _⟩ | ⟨ad, l, c, m, D, Pl, hcs, _, hl, hm, hmm, _, hi⟩
  · simp [Value.cells] at hcs
    obtain ⟨rfl, rfl, rfl⟩ := hcs
    exact ⟨none, 0, [], rfl, Nat.le_refl _, by omega, rowY_nil _ _⟩
  · simp [Value.cells] at hcs
    obtain ⟨rfl, rfl, rfl⟩ := hcs
    have hml : l0 ≤ m := by rw [hmm]; split <;> omega
    have key : ∀ i, ∃ s : RpA, i < l0 → W.cell? (ad.add (i * 2 + 0)) = some (.int .i64 s.x.e) ∧ W.cell? (ad.add (i * 2 + 1)) = some (.slice s.da s.x.d.length s.dc) ∧ Row .u8 W s.da s.x.d ∧ s.x.d.length ≤ s.dc ∧ s.dc ≤ 9223372036854775807 := by
      intro i
      by_cases hil : i < l0
      · obtain ⟨ys, n, _, _, _, hfj⟩ := hi i (by omega)
        obtain ⟨v0, y0, c0, _, h0⟩ := hfj 0 _ rfl
        obtain ⟨v1, y1, c1, _, h1⟩ := hfj 1 _ rfl
        obtain ⟨i0, e0, w0⟩ := (fits_of Try.underlying54 h0).int
        obtain ⟨a, xs, cap, e4, k1, k2, k3⟩ := open_intsV Try.underlying67 Try.underlying5 (by kernel_rfl) h1
        subst e0 e4
        exact ⟨⟨⟨i0, xs⟩, a, cap⟩, fun _ => ⟨c0, c1, k3, k1, k2⟩⟩
      · exact ⟨⟨noRp, none, 0⟩, fun h => absurd h hil⟩
    have ⟨f, hf2⟩ := Classical.axiomOfChoice key
    have hgd : ∀ i, i < l0 → ((List.range l0).map fun i => (f i).x).getD i noRp = (f i).x := fun i hi => by simp [List.getD_eq_getElem?_getD, hi]
    refine ⟨some ad, c0, (List.range l0).map fun i => (f i).x, by simp, by simpa using hl, by unfold maxLen at hm; omega, by simp; omega, fun _ => ⟨ad, rfl, fun j hj => ?_⟩⟩
    simp only [List.length_map, List.length_range] at hj
    rw [hgd j hj]
    obtain ⟨c0, c1, hw⟩ := hf2 j hj
    rw [show ad.add (j * 2 + 0) = ad.add (j * 2) from rfl] at c0
    have ext : ∀ k, 0 < k → ad.add (j * 2 + k) = ⟨(ad.add (j * 2)).block, (ad.add (j * 2)).off + k, none⟩ := by
      intro k hk
      unfold Addr.add
      by_cases h : j * 2 = 0
      · rw [h]; simp; omega
      · simp [h, Nat.add_assoc]
    rw [ext _ (by decide)] at c1
    exact ⟨(f j).da, (f j).dc, c0, c1, hw⟩
set_option maxRecDepth 100000 in
set_option maxHeartbeats 8000000 in
theorem aparts_core (a b l : Option Addr) (ac bc lc ll : Nat) (xs ys : List Rp) (us : List Sp) (w : World) (hx : RowY w a xs) (hy : RowY w b ys) (hc : ll ≤ lc) (hm : lc ≤ 9223372036854775807) (hr : RowX w l us)
    (e1 : (¬ 40 < ll ∧ us.length = ll ∧ us.length ≤ 40) ∨ (40 < ll ∧ us.length = 40)) (had : 40 < ll → ∃ ad, l = some ad) :
    Calls Try.prog 6 #[.slice a xs.length ac, .slice b ys.length bc, .slice l ll lc] w fun e w' => e = .returned (.bool true) ∧ Below w.heap.size w w' := by
  have FX := Lib.hid (fun W (hb : Below w.heap.size w W) => afew_calls a ac xs W (hx.below hb))
  have FY := Lib.hid (fun W (hb : Below w.heap.size w W) => afew_calls b bc ys W (hy.below hb))
  have AP := Lib.hid (fun aa ba ac bc W h1 h2 => apart_calls aa ba ac bc (fewN xs (min xs.length 30)) (fewN ys (min ys.length 30)) W h1 h2 (by rw [fewN_len]; omega) (by rw [fewN_len]; omega))
  have RA := Lib.hid (fun aa ba ac bc W h1 h2 => rapart_calls aa ba ac bc (fewN xs (min xs.length 30)) (fewN ys (min ys.length 30)) W h1 h2 (by rw [fewN_len]; omega) (by rw [fewN_len]; omega))
  have AS := Lib.hid (fun aa ac W h1 => apart_calls aa aa ac ac (fewN xs (min xs.length 30)) (fewN xs (min xs.length 30)) W h1 h1 (by rw [fewN_len]; omega) (by rw [fewN_len]; omega))
  have RD := Lib.hid (fun aa ba ac bc W h1 h2 => reads_calls aa ba ac bc us (fewN xs (min xs.length 30)) W h1 h2 (by omega) (by rw [fewN_len]; omega))
  have RR := Lib.hid (fun aa ba ac bc W h1 h2 => rreads_calls aa ba ac bc us (fewN xs (min xs.length 30)) W h1 h2 (by omega) (by rw [fewN_len]; omega))
  simp only [apR_self, fewN_len] at AP RA AS RD RR
  have AW := Lib.hid (fun W => aawake_calls W)
  have HR := Lib.hid hr
  have HB0 := Lib.hid (Below.refl w.heap.size w)
  clear hx hy hr
  generalize (apR (fewN xs (min xs.length 30)) (fewN xs (min xs.length 30))).1 = z at *
  generalize apR (fewN xs (min xs.length 30)) (fewN ys (min ys.length 30)) = r at *
  generalize rdN us (fewN xs (min xs.length 30)) (min us.length (min xs.length 30)) = q at *
  generalize fewN xs (min xs.length 30) = fx at *
  generalize fewN ys (min ys.length 30) = fy at *
  generalize min xs.length 30 = nx at *
  generalize min ys.length 30 = ny at *
  generalize xs.length = xn at *
  generalize ys.length = yn at *
  obtain ⟨r1, r2⟩ := r
  dsimp only at *
  generalize us.length = ul at *
  have n1 : (r1 == r1) = true := beq_self_eq_true _
  have n2 : (q == q) = true := beq_self_eq_true _
  cases r2
  all_goals
    go_enter Try.func6, Try.ntmps6
    go_upto_if 19 with (first
      | (go_at_call 14; (with_reducible refine (FX.out _ HB0.out).mono ?_); rintro e w1 ⟨a1, c1, rfl, hr1, hb⟩; have HX1 := Lib.hid hr1; have HB1 := Lib.hid hb; clear hr1 hb)
      | (go_at_call 14; (with_reducible refine (FY.out _ HB1.out).mono ?_); rintro e w2 ⟨a2, c2, rfl, hr2, hb⟩; have HX2 := Lib.hid (HX1.out.below hb); have HY2 := Lib.hid hr2; have HB2 := Lib.hid (below_step HB1.out hb); clear hr2 hb))
    have HL2 := Lib.hid (HR.out.below HB2.out)
    go_cut [2] (fun s2 wx => s2 = .slice l ul lc ∧ wx = w2)
  all_goals first
    | (case first =>
        rcases e1 with ⟨q1, rfl, q2⟩ | ⟨q1, rfl⟩
        · go_wp2
          go_meet
          exact ⟨rfl, rfl⟩
        · obtain ⟨ad, rfl⟩ := had q1
          go_wp2
          go_meet
          exact ⟨rfl, rfl⟩)
    | (case rest =>
        obtain ⟨rfl, hwc⟩ := hcut
        have hwc := hwc.symm
        subst hwc
        clear e1 had hc
        go_wp2_with (first
          | (go_at_call 15; (with_reducible refine (AP.out _ _ _ _ _ HX2.out HY2.out).mono ?_); rintro e w3 ⟨rfl, hb⟩; have HX3 := Lib.hid (HX2.out.below hb); have HY3 := Lib.hid (HY2.out.below hb); have HL3 := Lib.hid (HL2.out.below hb); have HB3 := Lib.hid (below_step HB2.out hb); clear hb)
          | (go_at_call 16; (with_reducible refine (RA.out _ _ _ _ _ HX3.out HY3.out).mono ?_); rintro e w4 ⟨rfl, hb⟩; have HX4 := Lib.hid (HX3.out.below hb); have HL4 := Lib.hid (HL3.out.below hb); have HB4 := Lib.hid (below_step HB3.out hb); clear hb)
          | (go_at_call 15; (with_reducible refine (AS.out _ _ _ HX4.out).mono ?_); rintro e w5 ⟨rfl, hb⟩; have HX5 := Lib.hid (HX4.out.below hb); have HL5 := Lib.hid (HL4.out.below hb); have HB5 := Lib.hid (below_step HB4.out hb); clear hb)
          | (go_at_call 17; (with_reducible refine (RD.out _ _ _ _ _ HL5.out HX5.out).mono ?_); rintro e w6 ⟨rfl, hb⟩; have HX6 := Lib.hid (HX5.out.below hb); have HL6 := Lib.hid (HL5.out.below hb); have HB6 := Lib.hid (below_step HB5.out hb); clear hb)
          | (go_at_call 18; (with_reducible refine (RR.out _ _ _ _ _ HL6.out HX6.out).mono ?_); rintro e w7 ⟨rfl, hb⟩; have HB7 := Lib.hid (below_step HB6.out hb); clear hb)
          | (go_at_call 9; (with_reducible refine (AW.out _).mono ?_); rintro e w8 ⟨rfl, hb⟩; have HB8 := Lib.hid (below_step HB7.out hb); clear hb))
        go_ret
        exact ⟨rfl, HB8.out⟩)
theorem aparts_walk (a : Option Addr) (ac : Nat) (xs : List Rp) (b : Option Addr) (bc : Nat) (ys : List Rp) (l : Option Addr) (lc : Nat) (zs : List Sp) (w : World) (hac : xs.length ≤ ac) (ham : ac ≤ 9223372036854775807) (hx : RowY w a xs) (hbc : ys.length ≤ bc) (hbm : bc ≤ 9223372036854775807) (hy : RowY w b ys) (hc : zs.length ≤ lc) (hm : lc ≤ 9223372036854775807) (hr : RowX w l zs) :
    Calls Try.prog 6 #[.slice a xs.length ac, .slice b ys.length bc, .slice l zs.length lc] w fun e w' => e = .returned (.bool true) ∧ Below w.heap.size w w' := by
  refine aparts_core a b l ac bc lc zs.length xs ys (zs.take 40) w hx hy hc hm (hr.take 40) (by rw [List.length_take]; omega) (fun h => ?_)
  obtain ⟨ad, e, -⟩ := hr.at_ (j := 0) (by omega)
  exact ⟨ad, e⟩
end Go.Proofs.Ytdmlpggommephaa.Ct
