import Derived.Test.YtfmmjkacloaloaaDoorCrcTurnZ
/-! How far octets are apart: the walks. -/
namespace Go.Proofs.YtfmmjkacloaloaaDoor.Ct
open Go.RowKit
set_option linter.unusedVariables false
set_option linter.unusedSimpArgs false
theorem half_octet (X n : Nat) : ((X / 2 ^ n : Nat) : Int) / 2 = ((X / 2 ^ (n + 1) : Nat) : Int) := turn_half X n
set_option maxHeartbeats 4000000 in
theorem rbit_calls (a : Option Addr) (cap : Nat) (xs : List Int) (i : Nat) (w : World) (h : Row .u8 w a xs) (hi : i < 8 * xs.length) (hl : xs.length ≤ 1000) :
    Calls Tryd.prog 29 #[.slice a xs.length cap, .int .i64 i] w fun e w' => e = .returned (.bool (bitS xs i)) ∧ w = w' := by
  obtain ⟨ad, rfl, hc, hwf⟩ := h.at_ (show i / 8 < xs.length by omega)
  have hb := bounds_u8 hwf
  have E := Lib.hid (show bitS xs i = ((xs.getD (i / 8) 0).toNat).testBit (i % 8) from rfl)
  clear hwf h
  generalize xs.getD (i / 8) 0 = c at *
  obtain ⟨X, rfl⟩ := Int.eq_ofNat_of_zero_le hb.1
  have hX : X < 256 := by omega
  simp only [Int.toNat_natCast] at E
  have hi8 : i / 8 < xs.length := by omega
  clear hb
  go_enter Tryd.func29, Tryd.ntmps29
  go_wp2
  go_loop [5, 6] (fun b j => ∃ n : Nat, n ≤ i % 8 ∧ j = .int .i64 n ∧ b = .int .u8 ((X / 2 ^ n : Nat) : Int)) (fun _ j => i % 8 - (intOf j).toNat)
  case atStart => exact ⟨0, by omega, rfl, by simp⟩
  case round =>
    obtain ⟨n, hn, rfl, rfl⟩ := hrel
    by_cases hlt : n < i % 8
    · have hh := half_octet X n
      have hT : X / 2 ^ n < 256 := Nat.lt_of_le_of_lt (Nat.div_le_self _ _) hX
      obtain ⟨T', hT'⟩ : ∃ T', X / 2 ^ (n + 1) = T' := ⟨_, rfl⟩
      rw [hT'] at hh
      have HT' := Lib.hid hT'; clear hT'
      generalize X / 2 ^ n = T at *
      go_wp2
      go_round
      case rel => exact ⟨n + 1, by omega, by go_num, by rw [HT'.out]⟩
      case measure => simp [intOf]; omega
    · obtain rfl : n = i % 8 := by omega
      have hq := turn_bit (t := X) (i := i % 8)
      have hT : X / 2 ^ (i % 8) < 256 := Nat.lt_of_le_of_lt (Nat.div_le_self _ _) hX
      rw [← E.out] at hq
      generalize X / 2 ^ (i % 8) = T at *
      go_wp2
      go_ret
      exact ⟨ret_bool (by rw [← hq]), rfl⟩
set_option maxHeartbeats 4000000 in
theorem rapart_calls (a b : Option Addr) (cap cap' : Nat) (xs ys : List Int) (w : World) (h : Row .u8 w a xs) (h' : Row .u8 w b ys) (hl : xs.length ≤ 1000) (hl' : ys.length ≤ 1000) :
    Calls Tryd.prog 20 #[.slice a xs.length cap, .slice b ys.length cap'] w fun e w' => e = .returned (.tuple #[.int .i64 (apartS xs ys).1, .bool (apartS xs ys).2]) ∧ w = w' := by
  have BA := Lib.hid (fun i hi => rbit_calls a cap xs i w h hi hl)
  have BB := Lib.hid (fun i hi => rbit_calls b cap' ys i w h' hi hl')
  clear h h'
  by_cases he : xs.length = ys.length
  · have E1 := Lib.hid (fun (hf : (flS xs ys (8 * xs.length)).1 < 0) => show apartS xs ys = (0, true) by unfold apartS; rw [if_neg (by omega), if_pos hf])
    have E2 := Lib.hid (fun (hf : ¬ (flS xs ys (8 * xs.length)).1 < 0) => show apartS xs ys = ((flS xs ys (8 * xs.length)).2 - (flS xs ys (8 * xs.length)).1 + 1, true) by unfold apartS; rw [if_neg (by omega), if_neg hf])
    rw [← he] at BB ⊢
    clear he
    go_enter Tryd.func20, Tryd.ntmps20
    go_wp2
    go_loop [6, 7, 8] (fun f l i => ∃ n : Nat, n ≤ 8 * xs.length ∧ i = .int .i64 n ∧ f = .int .i64 (flS xs ys n).1 ∧ l = .int .i64 (flS xs ys n).2) (fun _ _ i => 8 * xs.length - (intOf i).toNat)
    case atStart => exact ⟨0, by omega, rfl, rfl, rfl⟩
    case round =>
      obtain ⟨n, hn, rfl, rfl, rfl⟩ := hrel
      obtain ⟨f0, f1, l0, l1⟩ := flS_bd xs ys n
      by_cases hlt : n < 8 * xs.length
      · have HN : Hid (flS xs ys (n + 1) = if difS xs ys n = true then ((if (flS xs ys n).1 < 0 then (n : Int) else (flS xs ys n).1), (n : Int)) else flS xs ys n) := Lib.hid rfl
        have HD : Hid (difS xs ys n = (bitS xs n != bitS ys n)) := Lib.hid rfl
        have BX := Lib.hid (BA.out n hlt)
        have BY := Lib.hid (BB.out n hlt)
        generalize bitS xs n = p at *
        generalize bitS ys n = q at *
        generalize flS xs ys n = fl at *
        obtain ⟨f, l⟩ := fl
        dsimp only at f0 f1 l0 l1 HN ⊢
        by_cases hpq : p = q
        · subst hpq
          have HE := Lib.hid (show flS xs ys (n + 1) = (f, l) by rw [HN.out, HD.out]; simp)
          go_wp2_with (first | (go_at_call 29; (with_reducible refine (BX.out).mono ?_); rintro e w' ⟨rfl, rfl⟩) | (go_at_call 29; (with_reducible refine (BY.out).mono ?_); rintro e w' ⟨rfl, rfl⟩))
          go_round
          case rel => exact ⟨n + 1, by omega, by go_num, by rw [HE.out], by rw [HE.out]⟩
          case measure => simp [intOf]; omega
        · have hne : (p != q) = true := bne_iff_ne.2 hpq
          have HNE := Lib.hid hne
          by_cases hf : f < 0
          · have HE := Lib.hid (show flS xs ys (n + 1) = ((n : Int), (n : Int)) by rw [HN.out, HD.out, HNE.out, if_pos rfl, if_pos hf])
            clear hne HNE HN HD
            cases p <;> cases q <;> first | (exfalso; exact hpq rfl) | skip
            all_goals (
              clear hpq
              go_wp2_with (first | (go_at_call 29; (with_reducible refine (BX.out).mono ?_); rintro e w' ⟨rfl, rfl⟩) | (go_at_call 29; (with_reducible refine (BY.out).mono ?_); rintro e w' ⟨rfl, rfl⟩))
              go_round
              case rel => exact ⟨n + 1, by omega, by go_num, by rw [HE.out], by rw [HE.out]⟩
              case measure => simp [intOf]; omega)
          · have HE := Lib.hid (show flS xs ys (n + 1) = (f, (n : Int)) by rw [HN.out, HD.out, HNE.out, if_pos rfl, if_neg hf])
            clear hne HNE HN HD
            cases p <;> cases q <;> first | (exfalso; exact hpq rfl) | skip
            all_goals (
              clear hpq
              go_wp2_with (first | (go_at_call 29; (with_reducible refine (BX.out).mono ?_); rintro e w' ⟨rfl, rfl⟩) | (go_at_call 29; (with_reducible refine (BY.out).mono ?_); rintro e w' ⟨rfl, rfl⟩))
              go_round
              case rel => exact ⟨n + 1, by omega, by go_num, by rw [HE.out], by rw [HE.out]⟩
              case measure => simp [intOf]; omega)
      · obtain rfl : n = 8 * xs.length := by omega
        generalize flS xs ys (8 * xs.length) = fl at *
        obtain ⟨f, l⟩ := fl
        dsimp only at f0 f1 l0 l1 E1 E2 ⊢
        by_cases hf : f < 0
        · have E := Lib.hid (E1.out hf)
          go_wp2
          go_ret2
          exact ⟨ret_two (by rw [E.out]), rfl⟩
        · have E := Lib.hid (E2.out (by omega))
          go_wp2
          go_ret2
          exact ⟨ret_two (by rw [E.out]), rfl⟩
  · have E := Lib.hid (show apartS xs ys = (0, false) by unfold apartS; rw [if_pos he])
    go_enter Tryd.func20, Tryd.ntmps20
    go_wp2
    go_ret2
    exact ⟨ret_two (by rw [E.out]), rfl⟩
theorem octs_xor {c d : Int} (h0 : 0 ≤ c) (h1 : c ≤ 255) (g0 : 0 ≤ d) (g1 : d ≤ 255) : bits BinOp.xor .u8 c d = ((c.toNat ^^^ d.toNat : Nat) : Int) := by
  obtain ⟨m, rfl⟩ := Int.eq_ofNat_of_zero_le h0
  obtain ⟨n, rfl⟩ := Int.eq_ofNat_of_zero_le g0
  rw [u8_xor_nat _ _ (by omega) (by omega)]; rfl
set_option maxHeartbeats 4000000 in
theorem capart_calls (a b : Option Addr) (cap cap' : Nat) (xs ys : List Int) (w : World) (h : Row .u8 w a xs) (h' : Row .u8 w b ys) (hl : xs.length ≤ 1000) (hl' : ys.length ≤ 1000) :
    Calls Tryd.prog 19 #[.slice a xs.length cap, .slice b ys.length cap'] w fun e w' => e = .returned (.tuple #[.int .i64 (apartS xs ys).1, .bool (apartS xs ys).2]) ∧ ∃ m, w.drewN m = w' := by
  have TC := Lib.hid (fun x w hx => tz_calls x w hx)
  have LC := Lib.hid (fun x w hx => lz_calls x w hx)
  have H := Lib.hid h; have H' := Lib.hid h'
  clear h h'
  by_cases he : xs.length = ys.length
  · have E1 := Lib.hid (fun (hf : (flS xs ys (8 * xs.length)).1 < 0) => show apartS xs ys = (0, true) by unfold apartS; rw [if_neg (by omega), if_pos hf])
    have E2 := Lib.hid (fun (hf : ¬ (flS xs ys (8 * xs.length)).1 < 0) => show apartS xs ys = ((flS xs ys (8 * xs.length)).2 - (flS xs ys (8 * xs.length)).1 + 1, true) by unfold apartS; rw [if_neg (by omega), if_neg hf])
    have HE0 := Lib.hid he
    rw [← he]
    clear he
    go_enter Tryd.func19, Tryd.ntmps19
    go_wp2
    go_loopw [6, 7, 17] (fun f l i wr => ∃ n d : Nat, n ≤ xs.length ∧ i = .int .i64 n ∧ f = .int .i64 (flS xs ys (8 * n)).1 ∧ l = .int .i64 (flS xs ys (8 * n)).2 ∧ wr = w.drewN d) (fun _ _ i _ => xs.length - (intOf i).toNat)
    case atStart => exact ⟨0, 0, by omega, rfl, rfl, rfl, rfl⟩
    case round =>
      obtain ⟨n, d, hn, rfl, rfl, rfl, rfl⟩ := hrel
      obtain ⟨f0, f1, l0, l1⟩ := flS_bd xs ys (8 * n)
      by_cases hlt : n < xs.length
      · obtain ⟨ad, rfl, hc, hwf⟩ := H.out.at_ hlt
        obtain ⟨bd, rfl, hc', hwf'⟩ := H'.out.at_ (show n < ys.length by rw [← HE0.out]; exact hlt)
        have hb := bounds_u8 hwf
        have hb' := bounds_u8 hwf'
        have hx := octs_xor hb.1 hb.2 hb'.1 hb'.2
        have hz : (xs.getD n 0).toNat ^^^ (ys.getD n 0).toNat < 256 := Nat.xor_lt_two_pow (n := 8) (by omega) (by omega)
        have HN := Lib.hid (flS_next xs ys n _ hz dif_octet)
        clear hwf hwf'
        generalize (xs.getD n 0).toNat ^^^ (ys.getD n 0).toNat = z at *
        have TZ := Lib.hid (fun w => TC.out z w hz)
        have LZ := Lib.hid (fun w => LC.out z w hz)
        have t8 := tzS_le z hz
        have e8 := lenS8_le z hz
        generalize xs.getD n 0 = c at *
        generalize ys.getD n 0 = c' at *
        generalize tzS z = tz at *
        generalize lenS8 z = lz at *
        generalize flS xs ys (8 * n) = fl at *
        obtain ⟨f, l⟩ := fl
        obtain ⟨b0, b1⟩ := hb
        obtain ⟨b0', b1'⟩ := hb'
        dsimp only at f0 f1 l0 l1 HN ⊢
        have hd : (w.drewN d).cell? (ad.add n) = some (.int .u8 c) := hc
        have hd' : (w.drewN d).cell? (bd.add n) = some (.int .u8 c') := hc'
        generalize hw : w.drewN d = wd at *
        clear hc hc'
        have HWD := Lib.hid (show w.drewN (d + 1) = wd.drew by rw [← hw]; rfl)
        clear hw
        by_cases hz0 : z = 0
        · have HE := Lib.hid (show flS xs ys (8 * (n + 1)) = (f, l) by rw [HN.out, if_pos hz0])
          subst hz0
          clear HN
          go_wp2
          go_region
          all_goals generalize wd.drew = wx at *
          all_goals go_wp2
          all_goals exact ⟨⟨n + 1, d + 1, by omega, by go_num, by rw [HE.out], by rw [HE.out], HWD.out.symm⟩, by simp [intOf]; omega⟩
        · have hzp : 0 < z := by omega
          by_cases hf : f < 0
          · have HE := Lib.hid (show flS xs ys (8 * (n + 1)) = (8 * (n : Int) + tz, 8 * (n : Int) + 7 - (8 - (lz : Int))) by rw [HN.out, if_neg hz0, if_pos hf])
            clear HN hz0
            go_wp2
            go_region
            all_goals generalize wd.drew = wx at *
            all_goals go_wp2_with (first | (go_at_call 27; (with_reducible refine (TZ.out _).mono ?_); rintro e w' ⟨rfl, rfl⟩) | (go_at_call 28; (with_reducible refine (LZ.out _).mono ?_); rintro e w' ⟨rfl, rfl⟩))
            all_goals exact ⟨⟨n + 1, d + 1, by omega, by go_num, by rw [HE.out], by rw [HE.out], HWD.out.symm⟩, by simp [intOf]; omega⟩
          · have HE := Lib.hid (show flS xs ys (8 * (n + 1)) = (f, 8 * (n : Int) + 7 - (8 - (lz : Int))) by rw [HN.out, if_neg hz0, if_neg hf])
            clear HN hz0
            go_wp2
            go_region
            all_goals generalize wd.drew = wx at *
            all_goals go_wp2_with (first | (go_at_call 27; (with_reducible refine (TZ.out _).mono ?_); rintro e w' ⟨rfl, rfl⟩) | (go_at_call 28; (with_reducible refine (LZ.out _).mono ?_); rintro e w' ⟨rfl, rfl⟩))
            all_goals exact ⟨⟨n + 1, d + 1, by omega, by go_num, by rw [HE.out], by rw [HE.out], HWD.out.symm⟩, by simp [intOf]; omega⟩
      · obtain rfl : n = xs.length := by omega
        generalize flS xs ys (8 * xs.length) = fl at *
        obtain ⟨f, l⟩ := fl
        dsimp only at f0 f1 l0 l1 E1 E2 ⊢
        by_cases hf : f < 0
        · have E := Lib.hid (E1.out hf)
          go_wp2
          go_ret2
          exact ⟨ret_two (by rw [E.out]), d, rfl⟩
        · have E := Lib.hid (E2.out (by omega))
          go_wp2
          go_ret2
          exact ⟨ret_two (by rw [E.out]), d, rfl⟩
  · have E := Lib.hid (show apartS xs ys = (0, false) by unfold apartS; rw [if_pos he])
    go_enter Tryd.func19, Tryd.ntmps19
    go_wp2
    go_ret2
    exact ⟨ret_two (by rw [E.out]), 0, rfl⟩
end Go.Proofs.YtfmmjkacloaloaaDoor.Ct
