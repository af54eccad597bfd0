import Derived.Test.YtgkodkgonafnlaaDoorRecP
import Derived.Deep.RegionHeldLaw
/-! Records: may, Names, Follows, both. -/
namespace Go.Proofs.YtgkodkgonafnlaaDoor.Ct
open Go.RowKit
set_option linter.unusedVariables false
set_option linter.unusedSimpArgs false
def recC (r : Rec) : Array Value := #[.int .u64 r.seq, .int .u64 r.epo, .int .i64 r.ext, .int .u64 r.gen, .int .u8 r.msk]
def recV (r : Rec) : Value := .agg (recC r)
theorem may_cases (r : Rec) : MayR r ∨ (¬ MayR r ∧ (4611686018427387904 < r.seq ∨ (r.seq ≤ 4611686018427387904 ∧ (4611686018427387904 < r.epo ∨ (r.epo ≤ 4611686018427387904 ∧ (r.ext < 0 ∨ (0 ≤ r.ext ∧ (65535 < r.ext ∨ (r.ext ≤ 65535 ∧ (r.gen < 1 ∨ (1 ≤ r.gen ∧ (4611686018427387904 < r.gen ∨ (r.gen ≤ 4611686018427387904 ∧ r.msk = 0))))))))))))) := by
  unfold MayR
  omega
set_option maxHeartbeats 4000000 in
theorem rmay_calls (r : Rec) (w : World) (hr : WfR r) : Calls Tryd.prog 16 #[recV r] w fun e w' => e = .returned (.bool (decide (MayR r))) ∧ w.alloc (.cells (recC r) 24) = w' := by
  obtain ⟨⟨s0, s1⟩, ⟨e0, e1⟩, -, ⟨g0, g1⟩, m0, m1⟩ := hr
  have hc := may_cases r
  unfold recV recC
  rcases hc with h | ⟨h, h1 | ⟨h1, h2 | ⟨h2, h3 | ⟨h3, h4 | ⟨h4, h5 | ⟨h5, h6 | ⟨h6, h7⟩⟩⟩⟩⟩⟩⟩
  · rw [decide_eq_true h]
    obtain ⟨h1, h2, h3, h4, h5, h6, h7⟩ := h
    have hb : (r.msk != 0) = true := bne_iff_ne.2 h7
    clear h7
    go_enter Tryd.func16, Tryd.ntmps16
    go_wp2
    go_ret
    exact ⟨rfl, rfl⟩
  all_goals
    rw [decide_eq_false h]
    clear h
    try (have hb : (r.msk != 0) = false := bne_eq_false_iff_eq.2 h7; clear h7)
    go_enter Tryd.func16, Tryd.ntmps16
    go_wp2
    go_ret
    exact ⟨rfl, rfl⟩
set_option maxHeartbeats 4000000 in
theorem rrmay_calls (r : Rec) (w : World) (hr : WfR r) : Calls Tryd.prog 20 #[recV r] w fun e w' => e = .returned (.bool (decide (MayR r))) ∧ w.alloc (.cells (recC r) 24) = w' := by
  obtain ⟨⟨s0, s1⟩, ⟨e0, e1⟩, -, ⟨g0, g1⟩, m0, m1⟩ := hr
  have hc := may_cases r
  unfold recV recC
  rcases hc with h | ⟨h, h1 | ⟨h1, h2 | ⟨h2, h3 | ⟨h3, h4 | ⟨h4, h5 | ⟨h5, h6 | ⟨h6, h7⟩⟩⟩⟩⟩⟩⟩
  · rw [decide_eq_true h]
    obtain ⟨h1, h2, h3, h4, h5, h6, h7⟩ := h
    have hb : 0 < r.msk := by omega
    have h8 : r.ext < 65536 := by omega
    clear h7 h4
    go_enter Tryd.func20, Tryd.ntmps20
    go_wp2
    go_ret
    exact ⟨rfl, rfl⟩
  all_goals
    rw [decide_eq_false h]
    clear h
    try first
      | (have h8 : r.ext < 65536 := by omega)
      | (have h8 : ¬ r.ext < 65536 := by omega)
    try clear h4
    try (have hb : ¬ 0 < r.msk := by omega)
    try clear h7
    go_enter Tryd.func20, Tryd.ntmps20
    go_wp2
    go_ret
    exact ⟨rfl, rfl⟩
/-! ### Names -/
theorem u8_and1 : ∀ c, c < 256 → bits BinOp.and .u8 ((c : Nat) : Int) 1 = ((c % 2 : Nat) : Int) := by decide +kernel
def namesS (r : Rec) (ext bit : Int) : Bool := decide (r.ext = ext ∧ 0 ≤ bit ∧ bit < 8 ∧ r.msk / 2 ^ bit.toNat % 2 = 1)
theorem names_no {r : Rec} {ext bit : Int} (h : ¬ (r.ext = ext ∧ 0 ≤ bit ∧ bit < 8)) : namesS r ext bit = false := decide_eq_false (fun h' => h ⟨h'.1, h'.2.1, h'.2.2.1⟩)
theorem names_yes {r : Rec} {bit : Nat} (h : bit < 8) : namesS r r.ext (bit : Int) = decide (r.msk / 2 ^ bit % 2 = 1) := by
  unfold namesS
  rw [Int.toNat_natCast, decide_eq_decide]
  constructor
  · exact fun h' => h'.2.2.2
  · exact fun h' => ⟨rfl, by omega, by omega, h'⟩
set_option maxHeartbeats 4000000 in
theorem names_calls (r : Rec) (ext bit : Int) (w : World) (hr : WfR r) (hb : I64 bit) : Calls Tryd.prog 14 #[recV r, .int .i64 ext, .int .i64 bit] w fun e w' => e = .returned (.bool (namesS r ext bit)) ∧ w.alloc (.cells (recC r) 24) = w' := by
  obtain ⟨-, -, -, -, m0, m1⟩ := hr
  obtain ⟨b0, b1⟩ := hb
  unfold recV recC
  by_cases h1 : r.ext = ext
  · by_cases h2 : 0 ≤ bit
    · obtain ⟨bit, rfl⟩ := Int.eq_ofNat_of_zero_le h2
      by_cases h3 : bit < 8
      · subst h1
        rw [names_yes h3]
        obtain ⟨m, hm⟩ := Int.eq_ofNat_of_zero_le m0
        have hq : m / 2 ^ bit < 256 := Nat.lt_of_le_of_lt (Nat.div_le_self _ _) (by omega)
        have ha := u8_and1 _ hq
        have hdv : r.msk / 2 ^ bit = ((m / 2 ^ bit : Nat) : Int) := by rw [hm]; norm_cast
        have e : decide (r.msk / 2 ^ bit % 2 = 1) = decide (m / 2 ^ bit % 2 = 1) := by rw [hdv, decide_eq_decide]; omega
        rw [e]
        rw [← hdv] at ha
        have h4 : (bit : Int) < 8 := by omega
        have E := Lib.hid (show ∀ x : Nat, ((((x : Nat) : Int) == 1) = decide (x = 1)) by intro x; rw [Bool.eq_iff_iff]; simp; omega)
        clear e hdv hq hm
        generalize m / 2 ^ bit % 2 = z at *
        have hr1 : IntKind.u8.wrap r.msk = r.msk := by rw [show IntKind.u8.wrap r.msk = r.msk % 256 from rfl]; omega
        go_enter Tryd.func14, Tryd.ntmps14
        go_wp2
        go_ret
        exact ⟨ret_bool (by rw [E.out]), rfl⟩
      · rw [names_no (by omega)]
        have h4 : ¬ (bit : Int) < 8 := by omega
        have hb1 : (r.ext == ext) = true := beq_iff_eq.2 h1
        clear h1
        go_enter Tryd.func14, Tryd.ntmps14
        go_wp2
        go_ret
        exact ⟨rfl, rfl⟩
    · rw [names_no (by omega)]
      have hb1 : (r.ext == ext) = true := beq_iff_eq.2 h1
      clear h1
      go_enter Tryd.func14, Tryd.ntmps14
      go_wp2
      go_ret
      exact ⟨rfl, rfl⟩
  · rw [names_no (fun h => h1 h.1)]
    have hb1 : (r.ext == ext) = false := beq_eq_false_iff_ne.2 h1
    clear h1
    go_enter Tryd.func14, Tryd.ntmps14
    go_wp2
    go_ret
    exact ⟨rfl, rfl⟩
theorem half_next (m : Int) (i : Nat) : m / 2 ^ i / 2 = m / 2 ^ (i + 1) := by
  rw [Int.ediv_ediv_of_nonneg (by have : (0:Int) < 2 ^ i := Int.pow_pos (by decide); omega), Int.pow_succ]
set_option maxHeartbeats 4000000 in
theorem rnames_calls (r : Rec) (ext bit : Int) (w : World) (hr : WfR r) (hb : I64 bit) : Calls Tryd.prog 15 #[recV r, .int .i64 ext, .int .i64 bit] w fun e w' => e = .returned (.bool (namesS r ext bit)) ∧ w.alloc (.cells (recC r) 24) = w' := by
  obtain ⟨-, -, -, -, m0, m1⟩ := hr
  obtain ⟨b0, b1⟩ := hb
  unfold recV recC
  by_cases h1 : r.ext = ext
  · by_cases h2 : 0 ≤ bit
    · obtain ⟨bit, rfl⟩ := Int.eq_ofNat_of_zero_le h2
      by_cases h3 : bit < 8
      · subst h1
        rw [names_yes h3]
        have h4 : (bit : Int) < 8 := by omega
        have h4' : ¬ (7 : Int) < (bit : Int) := by omega
        have HX := Lib.hid (half_next r.msk)
        go_enter Tryd.func15, Tryd.ntmps15
        go_wp2
        go_loop [7, 8] (fun m i => ∃ (k : Nat) (y : Int), k ≤ bit ∧ i = .int .i64 k ∧ m = .int .u8 y ∧ y = r.msk / 2 ^ k ∧ 0 ≤ y ∧ y ≤ 255) (fun _ i => bit - (intOf i).toNat)
        case atStart => exact ⟨0, r.msk, by omega, rfl, rfl, by simp, m0, m1⟩
        case round =>
          obtain ⟨k, y, hk, rfl, rfl, hy, y0, y1⟩ := hrel
          have HY := Lib.hid hy; clear hy
          by_cases hlt : k < bit
          · have HN := Lib.hid (show y / 2 = r.msk / 2 ^ (k + 1) by rw [HY.out]; exact HX.out k)
            go_wp2
            go_round
            case rel => exact ⟨k + 1, y / 2, by omega, by go_num, rfl, HN.out, by omega, by omega⟩
            case measure => simp [intOf]; omega
          · obtain rfl : k = bit := by omega
            have E := Lib.hid (show (y % 2 == 1) = decide (r.msk / 2 ^ k % 2 = 1) by rw [← HY.out, Bool.eq_iff_iff]; simp)
            go_wp2
            go_ret
            exact ⟨ret_bool E.out, rfl⟩
      · rw [names_no (by omega)]
        have h4 : (7 : Int) < (bit : Int) := by omega
        have hb1 : (r.ext != ext) = false := bne_eq_false_iff_eq.2 h1
        clear h1
        go_enter Tryd.func15, Tryd.ntmps15
        go_wp2
        go_ret
        exact ⟨rfl, rfl⟩
    · rw [names_no (by omega)]
      have hb1 : (r.ext != ext) = false := bne_eq_false_iff_eq.2 h1
      have h2' : bit < 0 := by omega
      clear h1
      go_enter Tryd.func15, Tryd.ntmps15
      go_wp2
      go_ret
      exact ⟨rfl, rfl⟩
  · rw [names_no (fun h => h1 h.1)]
    have hb1 : (r.ext != ext) = true := bne_iff_ne.2 h1
    clear h1
    go_enter Tryd.func15, Tryd.ntmps15
    go_wp2
    go_ret
    exact ⟨rfl, rfl⟩
/-! ### Follows -/
def followsS (r : Rec) (seq epo : Int) : Bool := decide (r.seq = seq ∧ epo ≤ r.epo)
set_option maxHeartbeats 4000000 in
theorem follows_calls (r : Rec) (seq epo : Int) (w : World) : Calls Tryd.prog 13 #[recV r, .int .u64 seq, .int .u64 epo] w fun e w' => e = .returned (.bool (followsS r seq epo)) ∧ w.alloc (.cells (recC r) 24) = w' := by
  unfold recV recC
  by_cases h1 : r.seq = seq
  · have E := Lib.hid (show followsS r seq epo = decide (epo ≤ r.epo) by unfold followsS; simp [h1])
    have hb1 : (r.seq == seq) = true := beq_iff_eq.2 h1
    clear h1
    go_enter Tryd.func13, Tryd.ntmps13
    go_wp2
    go_ret
    exact ⟨ret_bool (by rw [E.out]), rfl⟩
  · have E := Lib.hid (show followsS r seq epo = false from decide_eq_false (fun h => h1 h.1))
    have hb1 : (r.seq == seq) = false := beq_eq_false_iff_ne.2 h1
    clear h1
    go_enter Tryd.func13, Tryd.ntmps13
    go_wp2
    go_ret
    exact ⟨ret_bool (by rw [E.out]), rfl⟩
end Go.Proofs.YtgkodkgonafnlaaDoor.Ct
