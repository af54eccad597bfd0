import Derived.Test.YtejhoobecladiaaPlaE
/-! Chapter 27: Put. -/
namespace Go.Proofs.Ytejhoobecladiaa.Ct
open Go.RowKit
set_option linter.unusedVariables false
set_option linter.unusedSimpArgs false
theorem cnt27_put {s : Nat → One27} {i b m : Nat} (hi : i < m) (h0 : (s i).lba = 0) (t : Int) (u : Bool) : ((cnt27 s m : Nat) : Int) + 1 = (cnt27 (updO s i ⟨b + 1, t, u⟩) m : Nat) := by rw [cnt27_set hi h0]; omega
set_option maxHeartbeats 8000000 in
theorem put_in {base x gl gw n m : Nat} {w : World} {s : Nat → One27} {wh : Nat → Nat} (h : LP base w x gl gw n m s wh) {i b : Nat} (t : Int) (u : Bool) (hi : i < m) (hb : b < n) (hn : n ≤ 100000) (hm : m ≤ 100000) :
    Calls Try.prog 9 #[.pointer (some ⟨x, 0, none⟩), .int .i64 i, .int .i64 b, .int .u64 t, .bool u] w fun e w' => e = .returned (.bool true) ∧ LP base w' x gl gw n m (puS s wh i b t u) (puW s wh i b) ∧ TchS (Mine27 x gl gw) w w' := by
  have H := Lib.hid h
  obtain ⟨c0, c1, c2⟩ := h.cx
  have DC := Lib.hid (drop_in h hi hn hm)
  have INV := Lib.hid (h.inv.put hi hb t u)
  generalize hF : puS s wh i b t u = F at *
  generalize hG : puW s wh i b = G at *
  have HF := Lib.hid hF
  have HG := Lib.hid hG
  have hi0 : ¬ (i : Int) < 0 := by omega
  have hi1 : ¬ (m : Int) ≤ i := by omega
  have hb0 : ¬ (b : Int) < 0 := by omega
  have hb1 : ¬ (n : Int) ≤ b := by omega
  have hi3 : (i : Int) < m := by omega
  have hb3 : (b : Int) < n := by omega
  clear h hF hG
  go_enter Try.func9, Try.ntmps9
  go_upto_region 4 with (go_at_call 8; (with_reducible refine (DC.out).mono ?_); rintro e w1 ⟨rfl, h1, ht1⟩; have H1 := Lib.hid h1; have T1 := Lib.hid ht1; clear h1 ht1)
  have OC := Lib.hid (pof_ok H1.out.ps H1.out.inv hm hb)
  have Z1 := Lib.hid (show (drS s i i).lba = 0 by unfold drS; rw [updO_eq]; rfl)
  have EM := Lib.hid (show ∃ (S3 : Nat → One27) (W3 : Nat → Nat), F = updO S3 i ⟨b + 1, t, u⟩ ∧ G = updW W3 b (i + 1) ∧ S3 = (if drW s wh i b = 0 then drS s i else drS (drS s i) (drW s wh i b - 1)) ∧ W3 = (if drW s wh i b = 0 then drW s wh i else drW (drS s i) (drW s wh i) (drW s wh i b - 1)) from
    ⟨_, _, HF.out.symm, HG.out.symm, rfl, rfl⟩)
  obtain ⟨S3, W3, hF, hG, hS, hW⟩ := EM.out
  have HF := Lib.hid hF
  have HG := Lib.hid hG
  clear hF hG EM
  by_cases h0 : drW s wh i b = 0
  · have hd : decide (drW s wh i b ≠ 0) = false := by simp [h0]
    rw [hd] at OC
    rw [if_pos h0] at hS hW
    have H1 := Lib.hid (show LP base w1 x gl gw n m S3 W3 by rw [hS, hW]; exact H1.out)
    have Z1 := Lib.hid (show (S3 i).lba = 0 by rw [hS]; exact Z1.out)
    clear c0 c1 c2 DC H hd h0 hS hW
    go_upto_region 7 with (go_at_call 10; (with_reducible refine (OC.out).mono ?_); rintro e w2 ⟨rfl, rfl⟩)
    clear OC
    obtain ⟨c0, c1, c2⟩ := H1.out.cx
    have f0 := (H1.out.ps.fz (i * 3)).1
    have f1 := (H1.out.ps.fz (i * 3 + 1)).1
    have f2 := (H1.out.ps.fz (i * 3 + 2)).1
    obtain ⟨e0, e1, e2⟩ := H1.out.ps.cl hi
    go_upto_region 8 with (fail)
    have H2 := Lib.hid (show PS base (((w1.setCell ⟨gl, i * 3, none⟩ (.int .i64 ((b : Int) + 1))).setCell ⟨gl, i * 3 + 1, none⟩ (.int .u64 t)).setCell ⟨gl, i * 3 + 2, none⟩ (.bool u)) x gl gw n m (updO S3 i ⟨b + 1, t, u⟩) W3 (cnt27 S3 m : Nat) from H1.out.ps.setL i ⟨b + 1, t, u⟩)
    have T2 := Lib.hid (show TchS (Mine27 x gl gw) w (((w1.setCell ⟨gl, i * 3, none⟩ (.int .i64 ((b : Int) + 1))).setCell ⟨gl, i * 3 + 1, none⟩ (.int .u64 t)).setCell ⟨gl, i * 3 + 2, none⟩ (.bool u)) from ((T1.out.set_ (.inr (.inl rfl)) _).set_ (.inr (.inl rfl)) _).set_ (.inr (.inl rfl)) _)
    have LE := cnt27_le S3 m
    have ZM := Lib.hid (cnt27_put (b := b) hi Z1.out t u)
    clear c0 c1 c2 f0 f1 f2 e0 e1 e2 H1 T1 Z1
    generalize ((w1.setCell ⟨gl, i * 3, none⟩ (.int .i64 ((b : Int) + 1))).setCell ⟨gl, i * 3 + 1, none⟩ (.int .u64 t)).setCell ⟨gl, i * 3 + 2, none⟩ (.bool u) = w4 at *
    obtain ⟨c0, c1, c2⟩ := H2.out.cx
    have f1 := (H2.out.fz b).2.1
    have e1 := H2.out.cw hb
    go_upto_region 9 with (fail)
    have H3 := Lib.hid (show PS base (w4.setCell ⟨gw, b, none⟩ (.int .i64 ((i : Int) + 1))) x gl gw n m (updO S3 i ⟨b + 1, t, u⟩) (updW W3 b (i + 1)) (cnt27 S3 m : Nat) from H2.out.setW b (i + 1))
    have T3 := Lib.hid (T2.out.set_ (p := ⟨gw, b, none⟩) (.inr (.inr rfl)) (.int .i64 ((i : Int) + 1)))
    clear c0 c1 c2 f1 e1 H2 T2
    generalize w4.setCell ⟨gw, b, none⟩ (.int .i64 ((i : Int) + 1)) = w5 at *
    obtain ⟨c0, c1, c2⟩ := H3.out.cx
    have f2 := (H3.out.fz 2).2.2
    have c3 := (H3.out.kx.set_ 2 (.int .i64 ((cnt27 S3 m : Int) + 1))).cell 2
    go_wp2
    go_ret
    refine ⟨rfl, ⟨?_, INV.out⟩, T3.out.set_ (.inl rfl) _⟩
    rw [HF.out, HG.out, ← ZM.out]
    exact H3.out.setM _
  · have hd : decide (drW s wh i b ≠ 0) = true := by simp [h0]
    rw [hd] at OC
    rw [if_neg h0] at hS hW
    have D2 := Lib.hid (drop_in H1.out (H1.out.inv.wpos hb h0) hn hm)
    have Z2 := Lib.hid (show (drS (drS s i) (drW s wh i b - 1) i).lba = 0 by
      by_cases e : i = drW s wh i b - 1
      · rw [← e]; unfold drS; rw [updO_eq]; rfl
      · show (updO (drS s i) _ o27 i).lba = 0
        rw [updO_ne e]; exact Z1.out)
    clear c0 c1 c2 DC H hd Z1
    go_upto_region 7 with (first
      | (go_at_call 10; (with_reducible refine (OC.out).mono ?_); rintro e w2 ⟨rfl, rfl⟩)
      | (go_at_call 8; (with_reducible refine (D2.out).mono ?_); rintro e w3 ⟨rfl, h3, ht3⟩; have H3 := Lib.hid h3; have T3 := Lib.hid (T1.out.trans ht3); clear h3 ht3))
    have H1 := Lib.hid (show LP base w3 x gl gw n m S3 W3 by rw [hS, hW]; exact H3.out)
    have T1 := T3
    have Z1 := Lib.hid (show (S3 i).lba = 0 by rw [hS]; exact Z2.out)
    clear OC D2 H3 T3 Z2 h0 hS hW
    obtain ⟨c0, c1, c2⟩ := H1.out.cx
    have f0 := (H1.out.ps.fz (i * 3)).1
    have f1 := (H1.out.ps.fz (i * 3 + 1)).1
    have f2 := (H1.out.ps.fz (i * 3 + 2)).1
    obtain ⟨e0, e1, e2⟩ := H1.out.ps.cl hi
    go_upto_region 8 with (fail)
    have H2 := Lib.hid (show PS base (((w3.setCell ⟨gl, i * 3, none⟩ (.int .i64 ((b : Int) + 1))).setCell ⟨gl, i * 3 + 1, none⟩ (.int .u64 t)).setCell ⟨gl, i * 3 + 2, none⟩ (.bool u)) x gl gw n m (updO S3 i ⟨b + 1, t, u⟩) W3 (cnt27 S3 m : Nat) from H1.out.ps.setL i ⟨b + 1, t, u⟩)
    have T2 := Lib.hid (show TchS (Mine27 x gl gw) w (((w3.setCell ⟨gl, i * 3, none⟩ (.int .i64 ((b : Int) + 1))).setCell ⟨gl, i * 3 + 1, none⟩ (.int .u64 t)).setCell ⟨gl, i * 3 + 2, none⟩ (.bool u)) from ((T1.out.set_ (.inr (.inl rfl)) _).set_ (.inr (.inl rfl)) _).set_ (.inr (.inl rfl)) _)
    have LE := cnt27_le S3 m
    have ZM := Lib.hid (cnt27_put (b := b) hi Z1.out t u)
    clear c0 c1 c2 f0 f1 f2 e0 e1 e2 H1 T1 Z1
    generalize ((w3.setCell ⟨gl, i * 3, none⟩ (.int .i64 ((b : Int) + 1))).setCell ⟨gl, i * 3 + 1, none⟩ (.int .u64 t)).setCell ⟨gl, i * 3 + 2, none⟩ (.bool u) = w4 at *
    obtain ⟨c0, c1, c2⟩ := H2.out.cx
    have f1 := (H2.out.fz b).2.1
    have e1 := H2.out.cw hb
    go_upto_region 9 with (fail)
    have H3 := Lib.hid (show PS base (w4.setCell ⟨gw, b, none⟩ (.int .i64 ((i : Int) + 1))) x gl gw n m (updO S3 i ⟨b + 1, t, u⟩) (updW W3 b (i + 1)) (cnt27 S3 m : Nat) from H2.out.setW b (i + 1))
    have T3 := Lib.hid (T2.out.set_ (p := ⟨gw, b, none⟩) (.inr (.inr rfl)) (.int .i64 ((i : Int) + 1)))
    clear c0 c1 c2 f1 e1 H2 T2
    generalize w4.setCell ⟨gw, b, none⟩ (.int .i64 ((i : Int) + 1)) = w5 at *
    obtain ⟨c0, c1, c2⟩ := H3.out.cx
    have f2 := (H3.out.fz 2).2.2
    have c3 := (H3.out.kx.set_ 2 (.int .i64 ((cnt27 S3 m : Int) + 1))).cell 2
    go_wp2
    go_ret
    refine ⟨rfl, ⟨?_, INV.out⟩, T3.out.set_ (.inl rfl) _⟩
    rw [HF.out, HG.out, ← ZM.out]
    exact H3.out.setM _
end Go.Proofs.Ytejhoobecladiaa.Ct
