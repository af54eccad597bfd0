import Derived.Test.YtminokbigpckaaaDoorSlB
import Derived.Defers
import Derived.Recover
import Derived.Laws.Pointers
import Derived.WalkLawsBesides
/-! script.op, number: a word's; what is given up. -/
namespace Go.Proofs.YtminokbigpckaaaDoor.Ct
open Go.RowKit
set_option linter.unusedVariables false
set_option linter.unusedSimpArgs false
/-- what a line that is none is given up with. -/
def wrongE : PanicEntry := { v := .iface 60 (.agg #[]), recovered := false }
/-- a word's kind of step: 0 where there is none. -/
def opW (s : ByteArray) : Nat := ((List.range 15).find? fun k => decide (1 ≤ k) && (wordL (k : Nat) == bs s)).getD 0
theorem wordS_eq (k : Int) (s : ByteArray) : wordS k = s ↔ wordL k = bs s := by
  constructor
  · rintro rfl; exact (wordS_list k).symm
  · intro h; exact bs_inj ((wordS_list k).trans h)
theorem opW_spec (s : ByteArray) : (1 ≤ opW s ∧ opW s ≤ 14 ∧ wordS (opW s : Nat) = s) ∨ (opW s = 0 ∧ ∀ k : Nat, 1 ≤ k → k ≤ 14 → wordS (k : Nat) ≠ s) := by
  unfold opW
  cases h : (List.range 15).find? fun k => decide (1 ≤ k) && (wordL (k : Nat) == bs s) with
  | some k =>
    left
    have h1 := List.find?_some h
    have h2 := List.mem_range.1 (List.mem_of_find?_eq_some h)
    rw [Bool.and_eq_true, decide_eq_true_eq, beq_iff_eq] at h1
    exact ⟨h1.1, by show k ≤ 14; omega, (wordS_eq _ _).2 h1.2⟩
  | none =>
    right
    refine ⟨rfl, fun k h1 h2 e => ?_⟩
    have := List.find?_eq_none.1 h k (List.mem_range.2 (by omega))
    apply this
    rw [Bool.and_eq_true, decide_eq_true_eq, beq_iff_eq]
    exact ⟨h1, (wordS_eq _ _).1 e⟩
theorem opW_word {k : Nat} (h1 : 1 ≤ k) (h2 : k ≤ 14) : opW (wordS (k : Nat)) = k := by
  unfold opW
  rw [wordS_list]
  have : k = 1 ∨ k = 2 ∨ k = 3 ∨ k = 4 ∨ k = 5 ∨ k = 6 ∨ k = 7 ∨ k = 8 ∨ k = 9 ∨ k = 10 ∨ k = 11 ∨ k = 12 ∨ k = 13 ∨ k = 14 := by omega
  rcases this with rfl | rfl | rfl | rfl | rfl | rfl | rfl | rfl | rfl | rfl | rfl | rfl | rfl | rfl <;> rfl
theorem opW_is {s : ByteArray} {k : Nat} (h1 : 1 ≤ k) (h2 : k ≤ 14) (h : wordS (k : Nat) = s) : opW s = k := by rw [← h]; exact opW_word h1 h2
theorem ba_ne {s t : ByteArray} (h : s ≠ t) : (s.toList == t.toList) = false := by
  rw [beq_eq_false_iff_ne]
  intro e
  apply h
  apply ByteArray.ext
  apply Array.ext'
  rw [ByteArray.toList_eq, ByteArray.toList_eq] at e
  exact e
set_option maxHeartbeats 2000000 in
theorem sop_ok (s : ByteArray) (w : World) (h : opW s ≠ 0) : Calls Tryd.prog 50 #[.string s] w fun e w' => e = .returned (.int .i64 (opW s : Nat)) ∧ w = w' := by
  have WC := Lib.hid (fun (k : Nat) W => word_calls (k : Nat) W)
  obtain ⟨o1, o2, o3⟩ : 1 ≤ opW s ∧ opW s ≤ 14 ∧ wordS (opW s : Nat) = s := (opW_spec s).resolve_right fun h2 => h h2.1
  have IS := Lib.hid (fun k (h1 : 1 ≤ k) (h2 : k ≤ 14) (h3 : wordS (k : Nat) = s) => opW_is h1 h2 h3)
  clear h
  generalize opW s = n at *
  go_enter Tryd.func50, Tryd.ntmps50
  go_wp2
  go_loopw [3] (fun i wr => ∃ k : Nat, 1 ≤ k ∧ k ≤ n ∧ i = .int .i64 k ∧ wr = w) (fun i _ => 15 - (intOf i).toNat)
  case atStart => exact ⟨1, by omega, by omega, rfl, rfl⟩
  case round =>
    obtain ⟨k, h1, h2, rfl, rfl⟩ := hrel
    have hki : (k : Int) ≤ 14 := by omega
    have WK := Lib.hid (fun W => WC.out k W)
    by_cases he : k = n
    · subst he
      have heq : ((wordS (k : Nat)).toList == s.toList) = true := by rw [o3]; exact beq_self_eq_true _
      clear o3
      go_wp2_with (first | (go_at_call 13; (with_reducible refine (WK.out _).mono ?_); rintro e w1 ⟨rfl, e1⟩; subst e1))
      go_ret
      exact ⟨rfl, rfl⟩
    · have hne := ba_ne (s := wordS (k : Nat)) (t := s) (fun e => he (IS.out k h1 (by omega) e).symm)
      clear o3
      go_wp2_with (first | (go_at_call 13; (with_reducible refine (WK.out _).mono ?_); rintro e w1 ⟨rfl, e1⟩; subst e1))
      exact ⟨⟨k + 1, by omega, by omega, by go_num, trivial⟩, by first | (simp [intOf]; done) | (simp [intOf]; omega)⟩
set_option maxHeartbeats 2000000 in
theorem sop_bad (s : ByteArray) (w : World) (h : opW s = 0) : Calls Tryd.prog 50 #[.string s] w fun e w' => e = .panicked [wrongE] ∧ Below w.heap.size w w' := by
  have WC := Lib.hid (fun (k : Nat) W => word_calls (k : Nat) W)
  have NO := Lib.hid ((opW_spec s).resolve_left (fun h2 => by omega)).2
  clear h
  go_enter Tryd.func50, Tryd.ntmps50
  go_wp2
  go_loopw [3] (fun i wr => ∃ k : Nat, 1 ≤ k ∧ k ≤ 15 ∧ i = .int .i64 k ∧ wr = w) (fun i _ => 15 - (intOf i).toNat)
  case atStart => exact ⟨1, by omega, by omega, rfl, rfl⟩
  case round =>
    obtain ⟨k, h1, h2, rfl, rfl⟩ := hrel
    by_cases hk : k ≤ 14
    · have hki : (k : Int) ≤ 14 := by omega
      have WK := Lib.hid (fun W => WC.out k W)
      have hne := ba_ne (NO.out k h1 hk)
      go_wp2_with (first | (go_at_call 13; (with_reducible refine (WK.out _).mono ?_); rintro e w1 ⟨rfl, e1⟩; subst e1))
      exact ⟨⟨k + 1, by omega, by omega, by go_num, trivial⟩, by first | (simp [intOf]; done) | (simp [intOf]; omega)⟩
    · have hki : ¬ (k : Int) ≤ 14 := by omega
      go_wp2
      exact ⟨rfl, rfl, Below.refl _ _⟩
theorem snumber_ok (s : ByteArray) (w : World) (hs : s.size ≤ 9223372036854775807) (h : (parseS (bs s)).2 = true) :
    Calls Tryd.prog 51 #[.string s] w fun e w' => e = .returned (.int .i64 (parseS (bs s)).1) ∧ Below w.heap.size w w' := by
  have PC := Lib.hid (parse_calls s w hs)
  rw [h] at PC
  generalize (parseS (bs s)).1 = v at *
  clear h
  go_enter Tryd.func51, Tryd.ntmps51
  go_wp2_with (go_at_call 62; (with_reducible refine (PC.out).mono ?_); rintro e w1 ⟨rfl, hb⟩; have HB := Lib.hid hb; clear hb)
  go_ret
  exact ⟨rfl, HB.out⟩
theorem snumber_bad (s : ByteArray) (w : World) (hs : s.size ≤ 9223372036854775807) (h : (parseS (bs s)).2 = false) :
    Calls Tryd.prog 51 #[.string s] w fun e w' => e = .panicked [wrongE] ∧ Below w.heap.size w w' := by
  have PC := Lib.hid (parse_calls s w hs)
  rw [h] at PC
  generalize (parseS (bs s)).1 = v at *
  clear h
  go_enter Tryd.func51, Tryd.ntmps51
  go_wp2_with (go_at_call 62; (with_reducible refine (PC.out).mono ?_); rintro e w1 ⟨rfl, hb⟩; have HB := Lib.hid hb; clear hb)
  exact ⟨rfl, rfl, HB.out⟩
end Go.Proofs.YtminokbigpckaaaDoor.Ct
