import Derived.Test.YthmhpjpnlngaoaaDoorPageC
/-! Pages: Blank. -/
namespace Go.Proofs.YthmhpjpnlngaoaaDoor.Ct
open Go.RowKit
set_option linter.unusedVariables false
set_option linter.unusedSimpArgs false
def blankS (b : List Int) : Bool := b.all (· == 0)
set_option maxHeartbeats 1000000 in
theorem nz_calls (c : Int) (w : World) : Calls Tryd.prog 53 #[.int .u8 c] w fun e w' => e = .returned (.bool (c != 0)) ∧ w = w' := by
  go_enter Tryd.func53, Tryd.ntmps53
  go_wp2
  go_ret
  exact ⟨rfl, rfl⟩
/-- where the first octet is that is not 0. -/
def atS0 : List Int → Int
  | [] => -1
  | x :: l => if x != 0 then 0 else if atS0 l < 0 then -1 else atS0 l + 1
theorem blank_at {b : List Int} {m : Nat} (h : m < b.length) (hne : (b.getD m 0 != 0) = true) : blankS b = false := by
  unfold blankS
  rw [List.all_eq_false]
  exact ⟨_, getD_mem h, by simpa using hne⟩
theorem blank_all {b : List Int} (h : ∀ m, m < b.length → b.getD m 0 = 0) : blankS b = true := by
  unfold blankS
  rw [List.all_eq_true]
  intro x hx
  obtain ⟨m, hm, rfl⟩ := List.getElem_of_mem hx
  have := h m hm
  rw [List.getD_eq_getElem?_getD, List.getElem?_eq_getElem hm] at this
  simpa using this
set_option maxHeartbeats 4000000 in
theorem indexf_calls (a : Option Addr) (cap : Nat) (b : List Int) (w : World) (h : Row .u8 w a b) :
    Calls Tryd.prog 58 #[.slice a b.length cap, .func (.func 53) #[] #[]] w fun e w' => ∃ i : Int, e = .returned (.int .i64 i) ∧ -1 ≤ i ∧ i ≤ 9223372036854775807 ∧ (decide (0 ≤ i) = !blankS b) ∧ w = w' := by
  have hl := h.len
  have H := Lib.hid h; clear h
  have NC := Lib.hid (fun c w => nz_calls c w)
  go_enter Tryd.func58, Tryd.ntmps58
  go_wp2
  go_loop [5, 8] (fun _ j => ∃ m : Nat, m ≤ b.length ∧ j = .int .i64 m ∧ ∀ i, i < m → b.getD i 0 = 0) (fun _ j => b.length - (intOf j).toNat)
  case atStart => exact ⟨0, by omega, rfl, by omega⟩
  case round =>
    obtain ⟨m, hm, rfl, hz⟩ := hrel
    have HZ := Lib.hid hz; clear hz
    by_cases hlt : m < b.length
    · obtain ⟨ad, rfl, hc, hwf⟩ := H.out.at_ hlt
      clear hwf
      have BA := Lib.hid (fun h => blank_at (b := b) (m := m) hlt h)
      have BN := Lib.hid (fun (h : b.getD m 0 = 0) => (show ∀ i, i < m + 1 → b.getD i 0 = 0 by
        intro i hi
        rcases Nat.lt_succ_iff_lt_or_eq.1 hi with h1 | rfl
        · exact HZ.out i h1
        · exact h))
      have N1 := Lib.hid (NC.out (b.getD m 0))
      generalize b.getD m 0 = c at *
      by_cases hc0 : c = 0
      · have HN := Lib.hid (BN.out hc0)
        subst hc0
        clear BA BN
        go_wp2_with (go_at_call 53; (with_reducible refine (N1.out _).mono ?_); rintro e w' ⟨rfl, rfl⟩)
        go_round
        case rel => exact ⟨m + 1, by omega, by go_num, HN.out⟩
        case measure => simp [intOf]; omega
      · have hcb : (c != 0) = true := bne_iff_ne.2 hc0
        have HB := Lib.hid (BA.out hcb)
        clear BA BN hc0
        rw [hcb] at N1
        go_wp2_with (go_at_call 53; (with_reducible refine (N1.out _).mono ?_); rintro e w' ⟨rfl, rfl⟩)
        go_ret
        exact ⟨m, rfl, by omega, by omega, by rw [HB.out]; exact decide_eq_true (by omega), rfl⟩
    · obtain rfl : m = b.length := by omega
      have HB := Lib.hid (blank_all HZ.out)
      go_wp2
      go_ret
      exact ⟨-1, rfl, by omega, by omega, by rw [HB.out]; rfl, rfl⟩
set_option maxHeartbeats 4000000 in
theorem containsf_calls (a : Option Addr) (cap : Nat) (b : List Int) (w : World) (h : Row .u8 w a b) :
    Calls Tryd.prog 52 #[.slice a b.length cap, .func (.func 53) #[] #[]] w fun e w' => e = .returned (.bool (!blankS b)) ∧ w = w' := by
  have IC := Lib.hid (indexf_calls a cap b w h)
  clear h
  go_enter Tryd.func52, Tryd.ntmps52
  go_wp2_with (go_at_call 58; (with_reducible refine (IC.out).mono ?_); rintro e w' ⟨i, rfl, h1, h2, h3, rfl⟩; have H3 := Lib.hid h3; clear h3)
  go_ret
  exact ⟨ret_bool (by rw [← H3.out]), rfl⟩
set_option maxHeartbeats 4000000 in
theorem pblank_calls (a : Option Addr) (cap : Nat) (b : List Int) (w : World) (h : Row .u8 w a b) :
    Calls Tryd.prog 32 #[.slice a b.length cap] w fun e w' => e = .returned (.bool (blankS b)) ∧ w = w' := by
  have CC := Lib.hid (containsf_calls a cap b w h)
  clear h
  go_enter Tryd.func32, Tryd.ntmps32
  go_wp2_with (go_at_call 52; (with_reducible refine (CC.out).mono ?_); rintro e w' ⟨rfl, rfl⟩)
  go_ret
  exact ⟨ret_bool (by simp), rfl⟩
theorem row_lit {w : World} {k : IntKind} (E : TypeId) (m : Nat × Nat) (xs : List Int) (hm : xs.length ≤ 9223372036854775807) (hw : ∀ x ∈ xs, (Lit.int k x).wf = true) : Row k (w.alloc (.cells (nums k xs).toArray E m)) (some ⟨w.heap.size, 0, none⟩) xs := by
  refine ⟨by unfold maxLen; omega, hw, fun _ => ⟨_, rfl, fun j hj => ?_⟩⟩
  rw [add_plain, World.cell?_alloc_mark]
  simp [nums, List.getElem?_eq_getElem hj, List.getD_eq_getElem?_getD]
theorem str_ne {xs ys : List Int} (hx : ∀ x ∈ xs, 0 ≤ x ∧ x ≤ 255) (hy : ∀ x ∈ ys, 0 ≤ x ∧ x ≤ 255) (h : xs ≠ ys) : strOfNums xs ≠ strOfNums ys := by
  intro e
  have := congrArg bs e
  rw [bs_strOf hx, bs_strOf hy] at this
  exact h this
theorem ba_ne {x y : ByteArray} (h : x ≠ y) : (x.toList == y.toList) = false := beq_eq_false_iff_ne.2 fun e => h (by
  rw [ByteArray.toList_eq, ByteArray.toList_eq] at e
  exact ByteArray.ext (Array.toList_inj.1 e))
theorem blank_str {b : List Int} (hw : ∀ x ∈ b, 0 ≤ x ∧ x ≤ 255) : ((strOfNums b).toList == (strOfNums (List.replicate b.length 0)).toList) = blankS b := by
  cases h : blankS b
  · refine ba_ne (str_ne hw (fun x hx => by rw [List.eq_of_mem_replicate hx]; decide) fun e => ?_)
    rw [blankS, List.all_eq_false] at h
    obtain ⟨x, hx, hne⟩ := h
    rw [e] at hx
    rw [List.eq_of_mem_replicate hx] at hne
    exact hne rfl
  · have : b = List.replicate b.length 0 := by
      rw [List.eq_replicate_iff]
      refine ⟨rfl, fun x hx => ?_⟩
      rw [blankS, List.all_eq_true] at h
      simpa using h x hx
    rw [← this]
    exact beq_self_eq_true _
end Go.Proofs.YthmhpjpnlngaoaaDoor.Ct
