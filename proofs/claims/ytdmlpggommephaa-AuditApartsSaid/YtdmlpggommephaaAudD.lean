import Derived.Test.YtdmlpggommephaaAudC
/-! Audits: the reference's Over. -/
namespace Go.Proofs.Ytdmlpggommephaa.Ct
open Go.RowKit
set_option linter.unusedVariables false
set_option linter.unusedSimpArgs false
theorem infoI : (Try.prog.info? 3).map (fun i => (i.zero, i.size, i.bytes)) = some (some (.int .i64 0), 1, 8) := by kernel_rfl
theorem sumS_snoc (L : List Int) (y : Int) : sumS (L ++ [y]) = satAdd (sumS L) y := by unfold sumS; rw [List.foldl_append]; rfl
set_option maxHeartbeats 8000000 in
theorem rover_calls (aa ba : Option Addr) (ac bc : Nat) (xs ys : List Int) (win most : Int) (w : World) (hx : Row .i64 w aa xs) (hy : Row .i64 w ba ys) (hn1 : xs.length ≤ 1000) (hn2 : ys.length ≤ 1000) (hw : I64 win) (hm : I64 most) :
    Calls Try.prog 11 #[.int .i64 win, .int .i64 most, .slice aa xs.length ac, .slice ba ys.length bc] w fun e w' => e = .returned (.tuple #[.int .i64 (overR xs ys win most).1, .bool (overR xs ys win most).2]) ∧ Below w.heap.size w w' := by
  obtain ⟨n, hN⟩ : ∃ n, min xs.length ys.length = n := ⟨_, rfl⟩
  unfold overR
  rw [hN]
  obtain ⟨r, hr⟩ : ∃ r, firstS (overS xs ys win most n) 0 n = r := ⟨_, rfl⟩
  rw [hr]
  have HRR := Lib.hid hr
  clear hr
  have mr := min_run (P := Try.prog) xs.length ys.length
  rw [show min ((xs.length : Nat) : Int) ((ys.length : Nat) : Int) = (n : Int) by omega] at mr
  have hnx : n ≤ xs.length := by omega
  have hny : n ≤ ys.length := by omega
  have hn3 : n ≤ 1000 := by omega
  have HX := Lib.hid hx
  have HY := Lib.hid hy
  have HM := Lib.hid hm
  have FS := Lib.hid (fun k (hk : k < n) => firstS_step (p := overS xs ys win most n) hk)
  have FZ := Lib.hid (show firstS (overS xs ys win most n) n (n - n) = (0, false) by rw [Nat.sub_self]; rfl)
  have OV := Lib.hid (fun i => show overS xs ys win most n i = decide (most < nsum xs ys win i (n - i)) from rfl)
  have N0 := Lib.hid (fun i => show nsum xs ys win i 0 = 0 from rfl)
  have NB := Lib.hid (nsum_bd xs ys win)
  have NX := Lib.hid (fun i d => show nsum xs ys win i (d + 1) = if nearS (xs.getD i 0) (xs.getD (i + d) 0) win = true then satAdd (nsum xs ys win i d) (ys.getD (i + d) 0) else nsum xs ys win i d from rfl)
  have NC := Lib.hid (fun f t w hf ht => rnear_calls f t win w hf ht hw)
  have RS := Lib.hid (fun a c xs w h => rsum_calls a c xs w h)
  have S0 := Lib.hid (show sumS [] = 0 from rfl)
  have SN := Lib.hid sumS_snoc
  have HB0 := Lib.hid (Below.refl w.heap.size w)
  clear hx hy hw hm hN
  generalize hns : nsum xs ys win = ns at *
  clear hns
  generalize hos : overS xs ys win most n = os at *
  clear hos
  go_enter Try.func11, Try.ntmps11
  go_wp2
  go_loopw [11, 12, 13] (fun i _ _ wr => ∃ k : Nat, k ≤ n ∧ i = .int .i64 k ∧ firstS os k (n - k) = r ∧ Below w.heap.size w wr) (fun i _ _ _ => n - (intOf i).toNat)
  case atStart => exact ⟨0, by omega, rfl, by rw [Nat.sub_zero]; exact HRR.out, HB0.out⟩
  case round =>
    clear HB0
    obtain ⟨i, hi, rfl, hf, hbel⟩ := hrel
    have HF := Lib.hid hf
    have HBI := Lib.hid hbel
    clear hf hbel
    by_cases hlt : i < n
    · have hlti : (i : Int) < n := by omega
      have fs := FS.out i hlt
      rw [HF.out] at fs
      have HFS := Lib.hid fs
      have hii : (i : Int) < xs.length := by omega
      have n0 := N0.out i
      have NX1 := Lib.hid (NX.out i)
      have NB1 := Lib.hid (NB.out i)
      have OV1 := Lib.hid (OV.out i)
      obtain ⟨ad, rfl, c0, cw⟩ := (HX.out.below HBI.out).at_ (j := i) (by omega)
      have XW := Lib.hid (i64_of_wf cw)
      obtain ⟨x, hxx⟩ : ∃ x, xs.getD i 0 = x := ⟨_, rfl⟩
      rw [hxx] at XW NX1
      have HXX := Lib.hid hxx
      have N00 := Lib.hid n0
      clear cw c0 hxx fs n0
      go_upto_region 7 with (fail)
      go_wp2
      obtain ⟨wo, hwo⟩ : ∃ wo : World, wo = wr := ⟨_, rfl⟩
      rw [← hwo]
      rw [← hwo] at HBI
      clear hwo
      go_loopw [12, 13] (fun v k wr => ∃ (d : Nat) (L : List Int), i + d ≤ n ∧ k = .int .i64 ((i + d : Nat) : Int) ∧ Own .i64 3 wr w.heap.size v L ∧ sumS L = ns i d ∧ L.length ≤ d ∧ Below w.heap.size w wr) (fun _ k _ => n - (intOf k).toNat)
      case atStart => exact ⟨0, [], by omega, rfl, own_nil _ _ _ _, by rw [N00.out]; exact S0.out, by simp, HBI.out⟩
      case round =>
        clear HBI
        obtain ⟨d, L, hd, rfl, hown, hsum, hlen, hbel⟩ := hrel
        have HO := Lib.hid hown
        have HB := Lib.hid hbel
        have HS := Lib.hid hsum
        have nx := NX1.out d
        have nb := NB1.out d
        clear hown hbel hsum
        by_cases hlt2 : i + d < n
        · obtain ⟨xd, hxd, c0, cw⟩ := (HX.out.below HB.out).at_ (j := i) (by omega)
          injection hxd with hxd
          subst hxd
          obtain ⟨xd, hxd, d0, dw⟩ := (HX.out.below HB.out).at_ (j := i + d) (by omega)
          injection hxd with hxd
          subst hxd
          obtain ⟨yd, rfl, e0, ew⟩ := (HY.out.below HB.out).at_ (j := i + d) (by omega)
          have TW := i64_of_wf dw
          have hL3 : L.length ≤ 1000 := by omega
          have EW := Lib.hid (i64_of_wf ew)
          rw [HXX.out] at c0
          have NC1 := Lib.hid (fun W => NC.out x _ W XW.out TW)
          clear cw dw ew TW nb
          generalize hk : i + d = k at *
          have HK := Lib.hid hk
          clear hk
          have hki : (k : Int) < n := by omega
          have hkx : (k : Int) < xs.length := by omega
          have hky : (k : Int) < ys.length := by omega
          generalize xs.getD k 0 = t at *
          generalize ys.getD k 0 = y at *
          cases hr : nearS x t win
          · rw [hr] at NC1 nx
            rw [if_neg (by simp)] at nx
            have NX2 := Lib.hid nx
            clear nx hr
            go_wp2
            go_quiet ((go_at_call 29; first | with_reducible exact quiet_left (NC1.out _) | with_reducible exact quiet_add_left (NC1.out _) | with_reducible exact Calls.quiet_of_same ((NC1.out _).mono fun e w' ⟨h1, h2⟩ => ⟨h1, h2.symm⟩)))
            go_wp2
            exact ⟨⟨d + 1, L, by have := HK.out; omega, by have := HK.out; rw [show i + (d + 1) = k + 1 by omega]; go_num, (by repeat (first | with_reducible apply Own.alloc | with_reducible apply Own.drewN | with_reducible apply Own.drew | exact HO.out)), by rw [NX2.out]; exact HS.out, by omega, (by repeat (first | with_reducible exact HB.out | with_reducible apply below_alloc | with_reducible apply below_drewN | with_reducible apply below_drew))⟩, by simp [intOf]; omega⟩
          · rw [hr] at NC1 nx
            rw [if_pos rfl] at nx
            have NX2 := Lib.hid (show sumS (L ++ [y]) = ns i (d + 1) by rw [SN.out, HS.out, nx])
            clear nx hr
            go_wp2
            go_quiet ((go_at_call 29; first | with_reducible exact quiet_left (NC1.out _) | with_reducible exact quiet_add_left (NC1.out _) | with_reducible exact Calls.quiet_of_same ((NC1.out _).mono fun e w' ⟨h1, h2⟩ => ⟨h1, h2.symm⟩)))
            go_wp2_with (at_builtin; go_loud (refine wp_app1 28 3 .i64 8 Try.underlying28 infoI rfl (.tmp 40) (.tmp 45) rfl w.heap.size _ L y ((by repeat (first | with_reducible apply Own.alloc | with_reducible apply Own.drewN | with_reducible apply Own.drew | exact HO.out))) rfl _ rfl (by first | (simp [go_sem]; done) | rfl | exact World.cell?_alloc_new _ _ _ _) (i64wf EW.out) (by omega) (by decide) (by have := HB.out.size; first | omega | (simp; omega)) ?_; intro v' w1 hown1 hg1; have hb1 := Below.app (k := .i64) (E := 3) (base := w.heap.size) (xs := L) ((by repeat (first | with_reducible exact HB.out | with_reducible apply below_alloc | with_reducible apply below_drewN | with_reducible apply below_drew))) hg1 ((by repeat (first | with_reducible apply Own.alloc | with_reducible apply Own.drewN | with_reducible apply Own.drew | exact HO.out))) (Nat.le_refl _) (by have := HB.out.size; first | omega | (simp; omega)); have HO1 := Lib.hid hown1; have HB1 := Lib.hid hb1; clear hown1 hb1 hg1))
            go_roundw
            case rel => exact ⟨d + 1, L ++ [y], by have := HK.out; omega, by have := HK.out; rw [show i + (d + 1) = k + 1 by omega]; go_num, HO1.out, NX2.out, by rw [List.length_append]; simp; omega, HB1.out⟩
            case measure => simp [intOf]; omega
        · have hq : i + d = n := by omega
          obtain ⟨la, lc, rfl, -, -, hr, -, -⟩ := HO.out.form
          have ov := OV1.out
          rw [show n - i = d by omega] at ov
          have RS1 := Lib.hid (RS.out la lc L wr hr)
          rw [HS.out] at RS1
          rw [hq]
          clear hr nx nb hlt2 hq
          generalize ns i d = sm at *
          cases hos : os i
          · rw [hos] at ov
            have hle : ¬ most < sm := fun h => by rw [decide_eq_true h] at ov; cases ov
            have F2 := HFS.out
            rw [hos, if_neg (by simp)] at F2
            have HF2 := Lib.hid F2.symm
            clear ov hos F2
            go_wp2_with (go_at_call 30; (with_reducible refine (RS1.out).mono ?_); rintro e w' ⟨rfl, rfl⟩)
            go_roundw
            case rel => first | exact ⟨i + 1, by omega, by go_num, HF2.out, HB.out⟩ | ((repeat apply Exists.intro); exact ⟨⟨i + 1, by omega, by go_num, HF2.out, HB.out⟩, rfl⟩)
            case measure => simp [intOf]; omega
          · rw [hos] at ov
            have hgt : most < sm := of_decide_eq_true ov.symm
            have F2 := HFS.out
            rw [hos, if_pos rfl] at F2
            have HF2 := Lib.hid F2
            clear ov hos F2
            go_wp2_with (go_at_call 30; (with_reducible refine (RS1.out).mono ?_); rintro e w' ⟨rfl, rfl⟩)
            go_ret2
            rw [HF2.out]
            exact ⟨rfl, HB.out⟩
    · obtain rfl : i = n := by omega
      have F2 := Lib.hid (show r = (0, false) by rw [← HF.out]; exact FZ.out)
      go_wp2
      go_ret2
      rw [F2.out]
      exact ⟨rfl, HBI.out⟩
end Go.Proofs.Ytdmlpggommephaa.Ct
