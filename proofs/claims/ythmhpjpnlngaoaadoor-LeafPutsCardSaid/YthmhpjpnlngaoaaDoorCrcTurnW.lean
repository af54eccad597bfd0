import Derived.Test.YthmhpjpnlngaoaaDoorCrcTurnQ
/-! Turned bits: the reference's walk. -/
namespace Go.Proofs.YthmhpjpnlngaoaaDoor.Ct
open Go.RowKit
set_option linter.unusedVariables false
set_option linter.unusedSimpArgs false
theorem u8_xor_val : ∀ c, c < 256 → ∀ k, k < 8 → bits BinOp.xor .u8 ((c : Nat) : Int) ((2 ^ k : Nat) : Int) = ((c ^^^ 2 ^ k : Nat) : Int) := by decide +kernel
theorem flip_val {c : Int} (h0 : 0 ≤ c) (h1 : c ≤ 255) {k : Nat} (hk : k < 8) : bits BinOp.xor .u8 c ((2 ^ k : Nat) : Int) = ((c.toNat ^^^ 2 ^ k : Nat) : Int) := by
  obtain ⟨n, rfl⟩ := Int.eq_ofNat_of_zero_le h0
  exact u8_xor_val n (by omega) k hk
theorem bit_le : ∀ n, n < 7 → 2 ^ n ≤ 64 := by decide
theorem turn_bit {t i : Nat} : (((t / 2 ^ i : Nat) : Int) % 2 == 1) = t.testBit i := by
  rw [Nat.testBit_eq_decide_div_mod_eq]
  generalize t / 2 ^ i = T
  have : T % 2 = 0 ∨ T % 2 = 1 := by omega
  rcases this with h | h
  · rw [show ((T : Int) % 2) = 0 by omega, h]; rfl
  · rw [show ((T : Int) % 2) = 1 by omega, h]; rfl
theorem turn_half (t i : Nat) : ((t / 2 ^ i : Nat) : Int) / 2 = ((t / 2 ^ (i + 1) : Nat) : Int) := by
  rw [Nat.pow_succ, ← Nat.div_div_eq_div_mul]; omega
set_option maxHeartbeats 4000000 in
theorem rturn_calls (a : Option Addr) (cap : Nat) (xs : List Int) (at_ : Int) (t : Nat) (w : World) (h : Row .u8 w a xs) (hl : xs.length ≤ 1000) (ha : I64 at_) (ht : t < 4294967296) :
    Calls Tryd.prog 15 #[.slice a xs.length cap, .int .i64 at_, .int .u32 t] w fun e w' => ∃ v, e = .returned v ∧ Own .u8 5 w' w.heap.size v (turnS xs at_ t) ∧ Below w.heap.size w w' := by
  obtain ⟨a0, a1⟩ := ha
  have hwf : ∀ x ∈ xs, 0 ≤ x ∧ x ≤ 255 := fun x hx => bounds_u8 (h.2.1 x hx)
  have HW := Lib.hid hwf; clear hwf
  have H := Lib.hid h; clear h
  go_enter Tryd.func15, Tryd.ntmps15
  go_wp2_with (at_builtin; refine wp_appr 27 5 .u8 1 Tryd.underlying27 infoU8 rfl (.tmp 12) (.tmp 13) rfl w.heap.size _ [] xs (own_lit (k := .u8) [] (Nat.le_refl _) (by simp) (by simp)) rfl a cap rfl (H.out.below ((Below.refl _ _).alloc (Nat.le_refl _) _)) (by simp; omega) (by decide) (by simp) ?_; intro v' w1 hown1 hg1; have hb1 := Below.app ((Below.refl _ _).alloc (Nat.le_refl _) _) hg1 (own_lit (k := .u8) [] (Nat.le_refl _) (by simp) (by simp)) (Nat.le_refl _) (by simp); have HO1 := Lib.hid hown1; have HB1 := Lib.hid hb1; clear hown1 hb1 hg1)
  obtain ⟨xa, xc, rfl, hxc, hxm, -, -, -⟩ := HO1.out.form
  simp only [List.nil_append] at HO1 ⊢
  go_loopw [2, 8] (fun x i wr => ∃ m : Nat, m ≤ 32 ∧ i = .int .i64 m ∧ x = .int .u32 ((t / 2 ^ m : Nat) : Int) ∧ Own .u8 5 wr w.heap.size (.slice xa xs.length xc) (turnI xs at_ t m) ∧ Below w.heap.size w wr) (fun _ i _ => 32 - (intOf i).toNat)
  case atStart => exact ⟨0, by omega, rfl, by simp, HO1.out, HB1.out⟩
  case round =>
    clear HO1 HB1
    obtain ⟨m, hm, rfl, rfl, hown, hbel⟩ := hrel
    have HO := Lib.hid hown; clear hown
    have HB := Lib.hid hbel; clear hbel
    have hp := turnI_props HW.out at_ t m
    have hyl := hp.1
    have HYL := Lib.hid hyl
    clear hp
    by_cases hlt : m < 32
    · have hq := turn_bit (t := t) (i := m)
      have hh := turn_half t m
      have hT : t / 2 ^ m < 4294967296 := Nat.lt_of_le_of_lt (Nat.div_le_self _ _) ht
      have HN : Hid (turnI xs at_ t (m + 1) = if t.testBit m = true ∧ 0 ≤ at_ + m ∧ at_ + m < 8 * xs.length then flipS (turnI xs at_ t m) (at_ + m).toNat else turnI xs at_ t m) := Lib.hid rfl
      obtain ⟨T', hT'⟩ : ∃ T', t / 2 ^ (m + 1) = T' := ⟨_, rfl⟩
      rw [hT'] at hh
      have HT' := Lib.hid hT'; clear hT'
      generalize t / 2 ^ m = T at *
      cases hb : t.testBit m
      · rw [hb] at hq
        have HK := Lib.hid (show ¬ (t.testBit m = true ∧ 0 ≤ at_ + m ∧ at_ + m < 8 * xs.length) from fun h => by rw [hb] at h; cases h.1)
        clear hb
        go_wp2
        go_roundw
        case rel => exact ⟨m + 1, by omega, by go_num, by rw [HT'.out], by rw [HN.out, if_neg HK.out]; exact HO.out, HB.out⟩
        case measure => simp [intOf]; omega
      · rw [hb] at hq
        by_cases h0 : 0 ≤ at_ + m
        · by_cases h1 : at_ + m < 8 * xs.length
          · have HK := Lib.hid (show (t.testBit m = true ∧ 0 ≤ at_ + m ∧ at_ + m < 8 * xs.length) from ⟨hb, h0, h1⟩)
            clear hb
            obtain ⟨k, hk⟩ := Int.eq_ofNat_of_zero_le h0
            have HKN := Lib.hid (show (at_ + m).toNat = k by rw [hk]; rfl)
            obtain ⟨a', c', hv, -, -, hr, -, hnf⟩ := HO.out.form
            simp only [Value.slice.injEq] at hv
            obtain ⟨rfl, -, rfl⟩ := hv
            have hkl : k / 8 < (turnI xs at_ t m).length := by rw [hyl]; omega
            obtain ⟨ad, rfl, hc, hwf⟩ := hr.at_ hkl
            obtain ⟨had, hba, hfz⟩ := hnf ad rfl
            obtain ⟨blk, off, spot⟩ := ad
            simp only [Addr.mk.injEq, true_and] at had
            obtain ⟨rfl, rfl⟩ := had
            have hb := bounds_u8 hwf
            rw [add_plain] at hc
            obtain ⟨hb0, hb1⟩ := hb
            have hfm := hfz (k / 8)
            simp only at hfm
            have hx := flip_val hb0 hb1 (show k % 8 < 8 by omega)
            have hxw : 0 ≤ (((turnI xs at_ t m).getD (k / 8) 0).toNat ^^^ 2 ^ (k % 8) : Nat) ∧ (((turnI xs at_ t m).getD (k / 8) 0).toNat ^^^ 2 ^ (k % 8) : Nat) < 2 ^ 8 := ⟨Nat.zero_le _, Nat.xor_lt_two_pow (by omega) (Nat.pow_lt_pow_right (by decide) (by omega))⟩
            have HF := Lib.hid (show turnI xs at_ t (m + 1) = (turnI xs at_ t m).set (k / 8) ((((turnI xs at_ t m).getD (k / 8) 0).toNat ^^^ 2 ^ (k % 8) : Nat) : Int) by rw [HN.out, if_pos HK.out, HKN.out]; rfl)
            have HS := Lib.hid (HO.out.store (n := xs.length) hyl.symm (k / 8) hkl _ (u8_wf (by omega) (show ((((turnI xs at_ t m).getD (k / 8) 0).toNat ^^^ 2 ^ (k % 8) : Nat) : Int) ≤ 255 by omega)))
            have BS := Lib.hid (HB.out.setCell (p := ⟨blk, k / 8, none⟩) hba (.int .u8 ((((turnI xs at_ t m).getD (k / 8) 0).toNat ^^^ 2 ^ (k % 8) : Nat) : Int)))
            generalize (turnI xs at_ t m).getD (k / 8) 0 = c at *
            generalize c.toNat ^^^ 2 ^ (k % 8) = z at *
            have hk8 : k / 8 < xs.length := by omega
            clear hr hnf hfz hwf hyl hba hkl h0 h1
            go_wp2
            go_loop [10, 11] (fun b j => ∃ n : Nat, n ≤ k % 8 ∧ j = .int .i64 n ∧ b = .int .u8 ((2 ^ n : Nat) : Int)) (fun _ j => k % 8 - (intOf j).toNat)
            case atStart => exact ⟨0, by omega, rfl, rfl⟩
            case round =>
              obtain ⟨n, hn, rfl, rfl⟩ := hrel
              by_cases hlt8 : n < k % 8
              · have hle := bit_le n (by omega)
                have HP := Lib.hid (show ((2 ^ (n + 1) : Nat) : Int) = ((2 ^ n : Nat) : Int) * 2 by rw [Nat.pow_succ]; omega)
                generalize 2 ^ n = p at *
                go_wp2
                go_round
                case rel => exact ⟨n + 1, by omega, by go_num, by rw [HP.out]⟩
                case measure => simp [intOf]; omega
              · obtain rfl : n = k % 8 := by omega
                clear HKN HN HK
                generalize 2 ^ (k % 8) = p at *
                go_wp2
                go_roundw
                case rel => exact ⟨m + 1, by omega, by go_num, by rw [HT'.out], by rw [HF.out]; exact HS.out, BS.out⟩
                case measure => simp [intOf]; omega
          · have HK := Lib.hid (show ¬ (t.testBit m = true ∧ 0 ≤ at_ + m ∧ at_ + m < 8 * xs.length) from fun h => h1 h.2.2)
            clear hb
            go_wp2
            go_roundw
            case rel => exact ⟨m + 1, by omega, by go_num, by rw [HT'.out], by rw [HN.out, if_neg HK.out]; exact HO.out, HB.out⟩
            case measure => simp [intOf]; omega
        · have HK := Lib.hid (show ¬ (t.testBit m = true ∧ 0 ≤ at_ + m ∧ at_ + m < 8 * xs.length) from fun h => h0 h.2.1)
          clear hb
          go_wp2
          go_roundw
          case rel => exact ⟨m + 1, by omega, by go_num, by rw [HT'.out], by rw [HN.out, if_neg HK.out]; exact HO.out, HB.out⟩
          case measure => simp [intOf]; omega
    · obtain rfl : m = 32 := by omega
      go_wp2
      go_ret
      exact ⟨_, rfl, HO.out, HB.out⟩
end Go.Proofs.YthmhpjpnlngaoaaDoor.Ct
