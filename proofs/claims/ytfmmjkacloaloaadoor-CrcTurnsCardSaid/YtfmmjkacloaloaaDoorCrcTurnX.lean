import Derived.Test.YtfmmjkacloaloaaDoorCrcTurnW
import Derived.BigQuiet
import Derived.Deep.RegionWith
import Derived.Deep.DeepCutAuto
/-! Turned bits: the code's walk. -/
namespace Go.Proofs.YtfmmjkacloaloaaDoor.Ct
open Go.RowKit
set_option linter.unusedVariables false
set_option linter.unusedSimpArgs false
theorem turn_and {t : Nat} (ht : t < 4294967296) (m : Nat) : bits BinOp.and .u32 ((t : Int) / 2 ^ m) 1 = if t.testBit m = true then 1 else 0 := by
  have h1 : ((t : Int) / 2 ^ m) = ((t / 2 ^ m : Nat) : Int) := by rw [Int.natCast_ediv, Int.natCast_pow]; rfl
  have h2 : t / 2 ^ m < 4294967296 := Nat.lt_of_le_of_lt (Nat.div_le_self _ _) ht
  rw [h1, show (1 : Int) = ((1 : Nat) : Int) from rfl, u32_and_nat _ _ h2 (by decide), Nat.and_one_is_mod, Nat.testBit_eq_decide_div_mod_eq]
  generalize t / 2 ^ m = T
  have : T % 2 = 0 ∨ T % 2 = 1 := by omega
  rcases this with h | h <;> rw [h] <;> rfl
theorem flip_val2 {c : Int} (h0 : 0 ≤ c) (h1 : c ≤ 255) {k : Nat} (hk : k < 8) : bits BinOp.xor .u8 c (2 ^ k % 256) = ((c.toNat ^^^ 2 ^ k : Nat) : Int) := by
  rw [← flip_val h0 h1 hk]
  congr 1
  have : k = 0 ∨ k = 1 ∨ k = 2 ∨ k = 3 ∨ k = 4 ∨ k = 5 ∨ k = 6 ∨ k = 7 := by omega
  rcases this with h | h | h | h | h | h | h | h <;> rw [h] <;> decide
set_option maxHeartbeats 4000000 in
theorem cturn_calls (a : Option Addr) (cap : Nat) (xs : List Int) (at_ : Int) (t : Nat) (w : World) (h : Row .u8 w a xs) (hl : xs.length ≤ 1000) (ha : I64 at_) (ht : t < 4294967296) :
    Calls Tryd.prog 21 #[.slice a xs.length cap, .int .i64 at_, .int .u32 t] w fun e w' => ∃ v, e = .returned v ∧ Own .u8 5 w' w.heap.size v (turnS xs at_ t) ∧ Below w.heap.size w w' := by
  obtain ⟨a0, a1⟩ := ha
  have hwf : ∀ x ∈ xs, 0 ≤ x ∧ x ≤ 255 := fun x hx => bounds_u8 (h.2.1 x hx)
  have HW := Lib.hid hwf; clear hwf
  have CC := Lib.hid (clone_calls a cap xs w h (by omega))
  clear h
  go_enter Tryd.func21, Tryd.ntmps21
  go_wp2_with (go_at_call 23; (with_reducible refine (CC.out).mono ?_); rintro e w1 ⟨v, rfl, ho, hb⟩; have HO1 := Lib.hid ho; have HB1 := Lib.hid hb; clear ho hb)
  obtain ⟨xa, xc, rfl, hxc, hxm, -, -, -⟩ := HO1.out.form
  go_loopw [12] (fun i wr => ∃ m : Nat, m ≤ 32 ∧ i = .int .i64 m ∧ Own .u8 5 wr w.heap.size (.slice xa xs.length xc) (turnI xs at_ t m) ∧ Below w.heap.size w wr) (fun i _ => 32 - (intOf i).toNat)
  case atStart => exact ⟨0, by omega, rfl, HO1.out, HB1.out⟩
  case round =>
    clear HO1 HB1
    obtain ⟨m, hm, rfl, hown, hbel⟩ := hrel
    have HO := Lib.hid hown; clear hown
    have HB := Lib.hid hbel; clear hbel
    have hp := turnI_props HW.out at_ t m
    have hyl := hp.1
    have HYL := Lib.hid hyl
    clear hp
    by_cases hlt : m < 32
    · have hq := turn_and ht m
      have HN : Hid (turnI xs at_ t (m + 1) = if t.testBit m = true ∧ 0 ≤ at_ + m ∧ at_ + m < 8 * xs.length then flipS (turnI xs at_ t m) (at_ + m).toNat else turnI xs at_ t m) := Lib.hid rfl
      cases hb : t.testBit m
      · rw [hb] at hq
        rw [if_neg (by decide)] at hq
        have HK := Lib.hid (show ¬ (t.testBit m = true ∧ 0 ≤ at_ + m ∧ at_ + m < 8 * xs.length) from fun h => by rw [hb] at h; cases h.1)
        clear hb
        go_wp2
        go_roundw
        case rel => exact ⟨m + 1, by omega, by go_num, by rw [HN.out, if_neg HK.out]; exact HO.out, HB.out⟩
        case measure => simp [intOf]; omega
      · rw [hb] at hq
        rw [if_pos rfl] at hq
        by_cases h0 : 0 ≤ at_ + m
        · by_cases h1 : at_ + m < 8 * xs.length
          · have HK := Lib.hid (show (t.testBit m = true ∧ 0 ≤ at_ + m ∧ at_ + m < 8 * xs.length) from ⟨hb, h0, h1⟩)
            clear hb
            obtain ⟨k, hk⟩ := Int.eq_ofNat_of_zero_le h0
            have HKN := Lib.hid (show (at_ + m).toNat = k by rw [hk]; rfl)
            obtain ⟨a', c', hv, -, -, hr, -, hnf⟩ := HO.out.form
            simp only [Value.slice.injEq] at hv
            obtain ⟨rfl, -, rfl⟩ := hv
            have hkl : k / 8 < (turnI xs at_ t m).length := by rw [hyl]; omega
            obtain ⟨ad, rfl, hc, hwf⟩ := hr.at_ hkl
            obtain ⟨had, hba, hfz⟩ := hnf ad rfl
            obtain ⟨blk, off, spot⟩ := ad
            simp only [Addr.mk.injEq, true_and] at had
            obtain ⟨rfl, rfl⟩ := had
            have hb := bounds_u8 hwf
            rw [add_plain] at hc
            obtain ⟨hb0, hb1⟩ := hb
            have hfm := hfz (k / 8)
            simp only at hfm
            have hx := flip_val2 hb0 hb1 (show k % 8 < 8 by omega)
            have hxw : 0 ≤ (((turnI xs at_ t m).getD (k / 8) 0).toNat ^^^ 2 ^ (k % 8) : Nat) ∧ (((turnI xs at_ t m).getD (k / 8) 0).toNat ^^^ 2 ^ (k % 8) : Nat) < 2 ^ 8 := ⟨Nat.zero_le _, Nat.xor_lt_two_pow (by omega) (Nat.pow_lt_pow_right (by decide) (by omega))⟩
            have HF := Lib.hid (show turnI xs at_ t (m + 1) = (turnI xs at_ t m).set (k / 8) ((((turnI xs at_ t m).getD (k / 8) 0).toNat ^^^ 2 ^ (k % 8) : Nat) : Int) by rw [HN.out, if_pos HK.out, HKN.out]; rfl)
            have HS := Lib.hid (HO.out.store (n := xs.length) hyl.symm (k / 8) hkl _ (u8_wf (by omega) (show ((((turnI xs at_ t m).getD (k / 8) 0).toNat ^^^ 2 ^ (k % 8) : Nat) : Int) ≤ 255 by omega)))
            have BS := Lib.hid (HB.out.setCell (p := ⟨blk, k / 8, none⟩) hba (.int .u8 ((((turnI xs at_ t m).getD (k / 8) 0).toNat ^^^ 2 ^ (k % 8) : Nat) : Int)))
            generalize (turnI xs at_ t m).getD (k / 8) 0 = c at *
            generalize c.toNat ^^^ 2 ^ (k % 8) = z at *
            have hk8 : k / 8 < xs.length := by omega
            clear hr hnf hfz hwf hyl hba hkl h0 h1 HKN HK HN
            go_wp2
            go_region
            all_goals go_wp2
            all_goals exact ⟨⟨m + 1, by omega, by go_num, by rw [HF.out]; exact HS.out.drew, below_drew BS.out⟩, by simp [intOf]; omega⟩
          · have HK := Lib.hid (show ¬ (t.testBit m = true ∧ 0 ≤ at_ + m ∧ at_ + m < 8 * xs.length) from fun h => h1 h.2.2)
            clear hb
            go_wp2
            go_roundw
            case rel => exact ⟨m + 1, by omega, by go_num, by rw [HN.out, if_neg HK.out]; exact HO.out, HB.out⟩
            case measure => simp [intOf]; omega
        · have HK := Lib.hid (show ¬ (t.testBit m = true ∧ 0 ≤ at_ + m ∧ at_ + m < 8 * xs.length) from fun h => h0 h.2.1)
          clear hb
          go_wp2
          go_roundw
          case rel => exact ⟨m + 1, by omega, by go_num, by rw [HN.out, if_neg HK.out]; exact HO.out, HB.out⟩
          case measure => simp [intOf]; omega
    · obtain rfl : m = 32 := by omega
      go_wp2
      go_ret
      exact ⟨_, rfl, HO.out, HB.out⟩
end Go.Proofs.YtfmmjkacloaloaaDoor.Ct
