import Derived.Test.YthmhpjpnlngaoaaDoorOctet
/-! The reference's octets: Of, Num, Join. -/
namespace Go.Proofs.YthmhpjpnlngaoaaDoor.Ct
open Go.RowKit
set_option linter.unusedVariables false
set_option linter.unusedSimpArgs false
/-! ### Of -/
theorem ofS_drop {l : List Int} {k : Nat} (h : k < l.length) : ofS (l.drop k) = l.getD k 0 + 256 * ofS (l.drop (k + 1)) := by
  rw [List.drop_eq_getElem_cons h, ofS, List.getD_eq_getElem?_getD, List.getElem?_eq_getElem h]; rfl
theorem pow_le8 {k : Nat} (h : k ≤ 8) : (256 : Int) ^ k ≤ 18446744073709551616 := by
  have : k = 0 ∨ k = 1 ∨ k = 2 ∨ k = 3 ∨ k = 4 ∨ k = 5 ∨ k = 6 ∨ k = 7 ∨ k = 8 := by omega
  rcases this with rfl | rfl | rfl | rfl | rfl | rfl | rfl | rfl | rfl <;> decide
theorem of_bd8 {l : List Int} (h : ∀ x ∈ l, 0 ≤ x ∧ x ≤ 255) (hl : l.length ≤ 8) : 0 ≤ ofS l ∧ ofS l ≤ 18446744073709551615 := by
  have a := ofS_bd h
  have b := pow_le8 hl
  omega
set_option maxHeartbeats 2000000 in
theorem of_calls (a : Option Addr) (cap : Nat) (xs : List Int) (w : World) (h : Row .u8 w a xs) (hlen : xs.length ≤ 8) :
    Calls Tryd.prog 37 #[.slice a xs.length cap] w fun e w' => e = .returned (.int .u64 (ofS xs)) ∧ w = w' := by
  have H := Lib.hid h; clear h
  go_enter Tryd.func37, Tryd.ntmps37
  go_wp2
  go_loop [3, 4] (fun n j => ∃ k : Nat, k ≤ xs.length ∧ j = .int .i64 ((k : Int) - 1) ∧ n = .int .u64 (ofS (xs.drop k))) (fun _ j => (intOf j + 1).toNat)
  case atStart => exact ⟨xs.length, by omega, rfl, by rw [List.drop_length]; rfl⟩
  case round =>
    obtain ⟨k, hk, rfl, rfl⟩ := hrel
    by_cases h0 : 0 < k
    · obtain ⟨m, rfl⟩ : ∃ m, k = m + 1 := ⟨k - 1, by omega⟩
      obtain ⟨ad, rfl, hc, hwf⟩ := H.out.at_ (j := m) (by omega)
      have hb := bounds_u8 hwf
      obtain ⟨b1, b2⟩ := hb
      have hwl : ∀ x ∈ xs.drop m, 0 ≤ x ∧ x ≤ 255 := fun x hx => bounds_u8 (H.out.2.1 x (List.mem_of_mem_drop hx))
      have hbd := of_bd8 hwl (by rw [List.length_drop]; omega)
      rw [ofS_drop (by omega)] at hbd
      have hbe := ofS_bd (l := xs.drop (m + 1)) (fun x hx => bounds_u8 (H.out.2.1 x (List.mem_of_mem_drop hx)))
      have hbf := hbe.1
      clear hbe
      have HN := Lib.hid (ofS_drop (l := xs) (k := m) (by omega))
      clear hwf hwl
      generalize xs.getD m 0 = c at *
      generalize ofS (xs.drop (m + 1)) = v at *
      obtain ⟨hbd0, hbd1⟩ := hbd
      have em : ((m + 1 : Nat) : Int) - 1 = (m : Int) := by omega
      rw [em]
      go_wp2
      go_round
      case rel => exact ⟨m, by omega, by go_num, by rw [HN.out, Int.add_comm]⟩
      case measure => simp [intOf]
    · obtain rfl : k = 0 := by omega
      go_wp2
      go_ret
      exact ⟨rfl, rfl⟩

/-! ### Num -/
theorem ediv_pow (n : Int) (m : Nat) : n / 256 ^ m / 256 = n / 256 ^ (m + 1) := by
  rw [Int.ediv_ediv_of_nonneg (by have : (0:Int) < 256 ^ m := Int.pow_pos (by decide); omega), Int.pow_succ]
set_option maxHeartbeats 2000000 in
theorem num_calls (n width : Int) (w : World) (n0 : 0 ≤ n) (n1 : n ≤ 18446744073709551615) (hwd : I64 width) :
    Calls Tryd.prog 26 #[.int .u64 n, .int .i64 width] w fun e w' => ∃ v, e = .returned v ∧ Own .u8 5 w' w.heap.size v (numS width n) ∧ Below w.heap.size w w' := by
  obtain ⟨w0, w1⟩ := hwd
  cases hw : wideS width
  · have e : numS width n = [] := by unfold numS; rw [hw]; rfl
    have E := Lib.hid e; clear e
    have hw' : ¬ (1 ≤ width ∧ width ≤ 8) := fun h => by unfold wideS at hw; rw [decide_eq_true h] at hw; cases hw
    clear hw
    by_cases c : 0 < width
    · have c2 : 8 < width := by omega
      clear hw'
      go_enter Tryd.func26, Tryd.ntmps26
      go_wp2
      go_loopw [0, 5, 6] (fun x o i wr => x = .int .u64 n ∧ o = .slice none 0 0 ∧ i = .int .i64 0 ∧ wr = w) (fun _ _ _ _ => 0)
      case atStart => exact ⟨rfl, rfl, rfl, rfl⟩
      case round =>
        obtain ⟨rfl, rfl, rfl, rfl⟩ := hrel
        go_wp2
        go_ret
        exact ⟨_, rfl, by rw [E.out]; exact own_nil _ _ _ _, Below.refl _ _⟩
    · clear hw'
      go_enter Tryd.func26, Tryd.ntmps26
      go_wp2
      go_loopw [0, 5, 6] (fun x o i wr => x = .int .u64 n ∧ o = .slice none 0 0 ∧ i = .int .i64 0 ∧ wr = w) (fun _ _ _ _ => 0)
      case atStart => exact ⟨rfl, rfl, rfl, rfl⟩
      case round =>
        obtain ⟨rfl, rfl, rfl, rfl⟩ := hrel
        go_wp2
        go_ret
        exact ⟨_, rfl, by rw [E.out]; exact own_nil _ _ _ _, Below.refl _ _⟩
  · have hw2 := of_decide_eq_true hw
    obtain ⟨k, rfl⟩ := Int.eq_ofNat_of_zero_le (show 0 ≤ width by omega)
    have e : numS k n = leS k n := by unfold numS; rw [hw]; simp
    have E := Lib.hid e; clear e hw
    go_enter Tryd.func26, Tryd.ntmps26
    go_wp2
    go_loopw [0, 5, 6] (fun x o i wr => ∃ (m : Nat) (y : Int), m ≤ k ∧ 0 ≤ y ∧ y ≤ 18446744073709551615 ∧ y = n / 256 ^ m ∧ x = .int .u64 y ∧ i = .int .i64 m ∧ Own .u8 5 wr w.heap.size o (leS m n) ∧ Below w.heap.size w wr) (fun _ _ i _ => k - (intOf i).toNat)
    case atStart => exact ⟨0, n, by omega, n0, n1, by simp, rfl, rfl, own_nil _ _ _ _, Below.refl _ _⟩
    case round =>
      obtain ⟨m, y, hm, y0, y1, hy, rfl, rfl, hown, hbel⟩ := hrel
      have HO := Lib.hid hown; clear hown
      have HB := Lib.hid hbel; clear hbel
      by_cases hlt : m < k
      · have hl : (leS m n).length ≤ 10 := by rw [leS_len]; omega
        have S := Lib.hid (leS_snoc m n)
        rw [← hy] at S
        have HY := Lib.hid (show y / 256 = n / 256 ^ (m + 1) by rw [hy, ediv_pow]); clear hy
        have z0 : 0 ≤ y % 256 := Int.emod_nonneg _ (by decide)
        have z1 : y % 256 ≤ 255 := by have := Int.emod_lt_of_pos y (show (0:Int) < 256 by decide); omega
        go_wp2_with (at_builtin; refine wp_app1 27 5 .u8 1 Tryd.underlying27 infoU8 rfl (.tmp 16) (.tmp 20) rfl w.heap.size _ (leS m n) (y % 256) (HO.out.alloc _) rfl _ rfl (by simp [go_sem]) (u8_wf z0 z1) (by omega) (by decide) (by have := HB.out.size; simp; omega) ?_; intro v' w1 hown1 hg1; have hb1 := Below.app (HB.out.alloc HB.out.size _) hg1 (HO.out.alloc _) (Nat.le_refl _) (by have := HB.out.size; simp; omega); have HO1 := Lib.hid hown1; have HB1 := Lib.hid hb1; clear hown1 hb1 hg1)
        go_roundw
        case rel => exact ⟨m + 1, y / 256, by omega, by omega, by omega, HY.out, rfl, by go_num, by rw [S.out]; exact HO1.out, HB1.out⟩
        case measure => simp [intOf]; omega
      · obtain rfl : m = k := by omega
        clear hy
        go_wp2
        go_ret
        exact ⟨_, rfl, by rw [E.out]; exact HO.out, HB.out⟩

/-! ### Join -/
/-- a slice of rows of octets that reads as a list of lists. -/
def RowS (w : World) (a : Option Addr) (L : List (List Int)) : Prop :=
  L.length ≤ maxLen ∧ (0 < L.length → ∃ ad, a = some ad ∧ ∀ j, j < L.length → ∃ aj cj, w.cell? (ad.add j) = some (.slice aj (L.getD j []).length cj) ∧ Row .u8 w aj (L.getD j []))
theorem RowS.below {w w' : World} {a : Option Addr} {L : List (List Int)} (h : RowS w a L) (hb : Below w.heap.size w w') : RowS w' a L :=
  ⟨h.1, fun hp => by
    obtain ⟨ad, e, hc⟩ := h.2 hp
    refine ⟨ad, e, fun j hj => ?_⟩
    obtain ⟨aj, cj, h1, h2⟩ := hc j hj
    exact ⟨aj, cj, (hb.cell (World.block_lt_of_cell? w _ h1)).trans h1, h2.below hb⟩⟩
theorem RowS.at_ {w : World} {a : Option Addr} {L : List (List Int)} (h : RowS w a L) {j : Nat} (hj : j < L.length) :
    ∃ ad aj cj, a = some ad ∧ w.cell? (ad.add j) = some (.slice aj (L.getD j []).length cj) ∧ Row .u8 w aj (L.getD j []) := by
  obtain ⟨ad, e, hc⟩ := h.2 (by omega)
  obtain ⟨aj, cj, h1, h2⟩ := hc j hj
  exact ⟨ad, aj, cj, e, h1, h2⟩
theorem flat_next {L : List (List Int)} {j : Nat} (h : j < L.length) : (L.take (j + 1)).flatten = (L.take j).flatten ++ L.getD j [] := by
  rw [List.take_succ_eq_append_getElem h, List.flatten_append, List.getD_eq_getElem?_getD, List.getElem?_eq_getElem h]; simp
theorem flat_take_len (L : List (List Int)) (j : Nat) : (L.take j).flatten.length ≤ L.flatten.length := by
  conv => rhs; rw [← List.take_append_drop j L]
  rw [List.flatten_append, List.length_append]; omega
set_option maxHeartbeats 2000000 in
theorem join_calls (a : Option Addr) (cap : Nat) (L : List (List Int)) (w : World) (h : RowS w a L) (hlen : L.flatten.length ≤ 140737488355328) :
    Calls Tryd.prog 28 #[.slice a L.length cap] w fun e w' => ∃ v, e = .returned v ∧ Own .u8 5 w' w.heap.size v L.flatten ∧ Below w.heap.size w w' := by
  have hm : L.length ≤ 9223372036854775807 := by have := h.1; unfold maxLen at this; omega
  have H := Lib.hid h; clear h
  go_enter Tryd.func28, Tryd.ntmps28
  go_wp2
  go_loopw [3, 4] (fun o i wr => ∃ j : Nat, j ≤ L.length ∧ i = .int .i64 j ∧ Own .u8 5 wr w.heap.size o (L.take j).flatten ∧ Below w.heap.size w wr) (fun _ i _ => L.length - (intOf i).toNat)
  case atStart => exact ⟨0, by omega, rfl, own_nil _ _ _ _, Below.refl _ _⟩
  case round =>
    obtain ⟨j, hj, rfl, hown, hbel⟩ := hrel
    have HO := Lib.hid hown; clear hown
    have HB := Lib.hid hbel; clear hbel
    by_cases hlt : j < L.length
    · obtain ⟨ad, aj, cj, rfl, hc, hr⟩ := (H.out.below HB.out).at_ hlt
      have HR := Lib.hid hr; clear hr
      have HF := Lib.hid (flat_next hlt)
      have hfl := flat_take_len L (j + 1)
      rw [flat_next hlt, List.length_append] at hfl
      generalize L.getD j [] = ys at *
      generalize (L.take j).flatten = xs at *
      go_wp2_with (at_builtin; refine wp_appr 27 5 .u8 1 Tryd.underlying27 infoU8 rfl (.tmp 11) (.tmp 15) rfl w.heap.size _ xs ys HO.out rfl aj cj rfl HR.out (by omega) (by decide) HB.out.size ?_; intro v' w1 hown1 hg1; have hb1 := Below.app HB.out hg1 HO.out (Nat.le_refl _) HB.out.size; have HO1 := Lib.hid hown1; have HB1 := Lib.hid hb1; clear hown1 hb1 hg1)
      go_roundw
      case rel => exact ⟨j + 1, by omega, by go_num, by rw [HF.out]; exact HO1.out, HB1.out⟩
      case measure => simp [intOf]; omega
    · obtain rfl : j = L.length := by omega
      have E := Lib.hid (List.take_length (l := L))
      go_wp2
      go_ret
      exact ⟨_, rfl, by rw [← E.out]; exact HO.out, HB.out⟩
end Go.Proofs.YthmhpjpnlngaoaaDoor.Ct
