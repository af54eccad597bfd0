import Derived.Test.YtjobnghobeekiaaTxF
import Derived.Test.YtjobnghobeekiaaCountC
namespace Go.Proofs.Ytjobnghobeekiaa.Tx
open Go.RowKit
set_option linter.unusedVariables false
set_option linter.unusedSimpArgs false
/-- what Parse and Read say of one text: a number of both, or of none. -/
theorem both (l : List Int) : (∃ n, parseS l = (n, true) ∧ readS l = (n, true)) ∨ (parseS l = (0, false) ∧ ∃ c, readS l = (c, false)) := by
  cases hp : (parseS l).2 with
  | true =>
    have e : parseS l = ((parseS l).1, true) := by rw [← hp]
    have hl := parse_yes e
    left
    refine ⟨(parseS l).1, e, ?_⟩
    cases hr : (readS l).2 with
    | true =>
      have := (read_yes hr)
      have e2 := parse_text this.2
      rw [← this.1] at e2
      rw [e2, ← hr]
    | false =>
      exfalso
      have : I64 (parseS l).1 := by
        unfold parseS
        have a := digS_bd l
        have b := digS_bd (l.drop 1)
        split
        · split
          · exact ⟨by omega, by omega⟩
          · exact ⟨by simp, by simp⟩
        · split
          · rename_i k
            rw [Bool.and_eq_true, Bool.and_eq_true] at k
            have := of_decide_eq_true k.1.2
            exact ⟨by simp only; omega, by simp only; omega⟩
          · exact ⟨by simp, by simp⟩
      have e2 := read_text this
      rw [← hl] at e2
      rw [e2] at hr
      cases hr
  | false =>
    right
    have e : parseS l = (0, false) := by rw [← hp, ← parse_no hp]
    refine ⟨e, (readS l).1, ?_⟩
    cases hr : (readS l).2 with
    | true =>
      exfalso
      have := read_yes hr
      have e2 := parse_text this.2
      rw [← this.1, e] at e2
      exact absurd (congrArg Prod.snd e2) (by simp)
    | false => rw [← hr]
theorem text_size {n : Int} (hn : I64 n) : (strOfNums (textS n)).size ≤ 9223372036854775807 := by
  obtain ⟨n1, n2⟩ := hn
  rw [strOfNums_size, textS_eq]
  have := decS_len (m := n.natAbs) (by omega)
  split
  · rw [List.length_cons]; omega
  · omega
set_option maxHeartbeats 4000000 in
theorem texts_yes (n c : Int) (s x : ByteArray) (w : World) (hn : I64 n) (hs : s.size ≤ 9223372036854775807) (hcut : (s.size ≤ 60 → s = x) ∧ (60 < s.size → s.extract 0 60 = x))
    (P : ∀ w, Calls Try.prog 23 #[.string x] w fun e w' => e = .returned (.tuple #[.int .i64 c, .bool true]) ∧ Below w.heap.size w w')
    (R : ∀ w, Calls Try.prog 25 #[.string x] w fun e w' => e = .returned (.tuple #[.int .i64 c, .bool true]) ∧ w = w') :
    Calls Try.prog 8 #[.int .i64 n, .string s] w fun e w' => e = .returned (.bool true) ∧ Below w.heap.size w w' := by
  have TC := Lib.hid (fun w => text_calls n w hn)
  have NC := Lib.hid (fun w => num_calls n w hn)
  have pt := fun w => parse_calls (strOfNums (textS n)) w (text_size hn)
  simp only [bs_text, parse_text hn] at pt
  have PT := Lib.hid pt; clear pt
  have PC := Lib.hid P; clear P
  have RC := Lib.hid R; clear R
  have hqq : ((strOfNums (textS n)).toList == (strOfNums (textS n)).toList) = true := by simp
  generalize strOfNums (textS n) = t at *
  have hxl : s.size ≤ 60 ∨ 60 < s.size := by omega
  rcases hxl with hl | hl
  · have ES := hcut.1 hl
    have HE := Lib.hid ES; clear ES hcut
    go_enter Try.func8, Try.ntmps8
    go_wp2_with (first
    | (go_at_call 24; (with_reducible refine (TC.out _).mono ?_); rintro e w' ⟨rfl, hb⟩)
    | (go_at_call 23; (with_reducible refine (PT.out _).mono ?_); rintro e w' ⟨rfl, hb⟩)
    | (go_at_call 23; (try rw [HE.out]); (with_reducible refine (PC.out _).mono ?_); rintro e w' ⟨rfl, hb⟩)
    | (go_at_call 25; (try rw [HE.out]); (with_reducible refine (RC.out _).mono ?_); rintro e w' ⟨rfl, rfl⟩)
    | (go_at_call 26; (with_reducible refine (NC.out _).mono ?_); rintro e w' ⟨rfl, rfl⟩)
    | (go_at_call 10; (with_reducible refine (Ct.awake_calls _).mono ?_); rintro e w' ⟨rfl, hb⟩))
    go_ret
    exact ⟨rfl, by repeat (first | assumption | refine below_step ?_ (by assumption))⟩
  · have ES := hcut.2 hl
    have HE := Lib.hid ES; clear ES hcut
    go_enter Try.func8, Try.ntmps8
    go_wp2_with (first
    | (go_at_call 24; (with_reducible refine (TC.out _).mono ?_); rintro e w' ⟨rfl, hb⟩)
    | (go_at_call 23; (with_reducible refine (PT.out _).mono ?_); rintro e w' ⟨rfl, hb⟩)
    | (go_at_call 23; (try rw [HE.out]); (with_reducible refine (PC.out _).mono ?_); rintro e w' ⟨rfl, hb⟩)
    | (go_at_call 25; (try rw [HE.out]); (with_reducible refine (RC.out _).mono ?_); rintro e w' ⟨rfl, rfl⟩)
    | (go_at_call 26; (with_reducible refine (NC.out _).mono ?_); rintro e w' ⟨rfl, rfl⟩)
    | (go_at_call 10; (with_reducible refine (Ct.awake_calls _).mono ?_); rintro e w' ⟨rfl, hb⟩))
    go_ret
    exact ⟨rfl, by repeat (first | assumption | refine below_step ?_ (by assumption))⟩
set_option maxHeartbeats 4000000 in
theorem texts_no (n c : Int) (s x : ByteArray) (w : World) (hn : I64 n) (hs : s.size ≤ 9223372036854775807) (hcut : (s.size ≤ 60 → s = x) ∧ (60 < s.size → s.extract 0 60 = x))
    (P : ∀ w, Calls Try.prog 23 #[.string x] w fun e w' => e = .returned (.tuple #[.int .i64 0, .bool false]) ∧ Below w.heap.size w w')
    (R : ∀ w, Calls Try.prog 25 #[.string x] w fun e w' => e = .returned (.tuple #[.int .i64 c, .bool false]) ∧ w = w') :
    Calls Try.prog 8 #[.int .i64 n, .string s] w fun e w' => e = .returned (.bool true) ∧ Below w.heap.size w w' := by
  have TC := Lib.hid (fun w => text_calls n w hn)
  have NC := Lib.hid (fun w => num_calls n w hn)
  have pt := fun w => parse_calls (strOfNums (textS n)) w (text_size hn)
  simp only [bs_text, parse_text hn] at pt
  have PT := Lib.hid pt; clear pt
  have PC := Lib.hid P; clear P
  have RC := Lib.hid R; clear R
  have hqq : ((strOfNums (textS n)).toList == (strOfNums (textS n)).toList) = true := by simp
  generalize strOfNums (textS n) = t at *
  have hxl : s.size ≤ 60 ∨ 60 < s.size := by omega
  rcases hxl with hl | hl
  · have ES := hcut.1 hl
    have HE := Lib.hid ES; clear ES hcut
    go_enter Try.func8, Try.ntmps8
    go_wp2_with (first
    | (go_at_call 24; (with_reducible refine (TC.out _).mono ?_); rintro e w' ⟨rfl, hb⟩)
    | (go_at_call 23; (with_reducible refine (PT.out _).mono ?_); rintro e w' ⟨rfl, hb⟩)
    | (go_at_call 23; (try rw [HE.out]); (with_reducible refine (PC.out _).mono ?_); rintro e w' ⟨rfl, hb⟩)
    | (go_at_call 25; (try rw [HE.out]); (with_reducible refine (RC.out _).mono ?_); rintro e w' ⟨rfl, rfl⟩)
    | (go_at_call 26; (with_reducible refine (NC.out _).mono ?_); rintro e w' ⟨rfl, rfl⟩)
    | (go_at_call 10; (with_reducible refine (Ct.awake_calls _).mono ?_); rintro e w' ⟨rfl, hb⟩))
    go_ret
    exact ⟨rfl, by repeat (first | assumption | refine below_step ?_ (by assumption))⟩
  · have ES := hcut.2 hl
    have HE := Lib.hid ES; clear ES hcut
    go_enter Try.func8, Try.ntmps8
    go_wp2_with (first
    | (go_at_call 24; (with_reducible refine (TC.out _).mono ?_); rintro e w' ⟨rfl, hb⟩)
    | (go_at_call 23; (with_reducible refine (PT.out _).mono ?_); rintro e w' ⟨rfl, hb⟩)
    | (go_at_call 23; (try rw [HE.out]); (with_reducible refine (PC.out _).mono ?_); rintro e w' ⟨rfl, hb⟩)
    | (go_at_call 25; (try rw [HE.out]); (with_reducible refine (RC.out _).mono ?_); rintro e w' ⟨rfl, rfl⟩)
    | (go_at_call 26; (with_reducible refine (NC.out _).mono ?_); rintro e w' ⟨rfl, rfl⟩)
    | (go_at_call 10; (with_reducible refine (Ct.awake_calls _).mono ?_); rintro e w' ⟨rfl, hb⟩))
    go_ret
    exact ⟨rfl, by repeat (first | assumption | refine below_step ?_ (by assumption))⟩

theorem texts_walk (n : Int) (s : ByteArray) (w : World) (hn : I64 n) (hs : s.size ≤ 9223372036854775807) :
    Calls Try.prog 8 #[.int .i64 n, .string s] w fun e w' => e = .returned (.bool true) ∧ Below w.heap.size w w' := by
  obtain ⟨x, hx⟩ : ∃ x : ByteArray, x = if s.size ≤ 60 then s else s.extract 0 60 := ⟨_, rfl⟩
  have hcut : (s.size ≤ 60 → s = x) ∧ (60 < s.size → s.extract 0 60 = x) := ⟨fun h => by rw [hx, if_pos h], fun h => by rw [hx, if_neg (by omega)]⟩
  have hxs : x.size ≤ 9223372036854775807 := by
    rw [hx]; split
    · omega
    · rw [ByteArray.size_extract]; omega
  rcases both (bs x) with ⟨c, h1, h2⟩ | ⟨h1, c, h2⟩
  · refine texts_yes n c s x w hn hs hcut ?_ ?_
    · intro w; have := parse_calls x w hxs; rw [h1] at this; exact this
    · intro w; have := read_calls x w hxs; rw [h2] at this; exact this
  · refine texts_no n c s x w hn hs hcut ?_ ?_
    · intro w; have := parse_calls x w hxs; rw [h1] at this; exact this
    · intro w; have := read_calls x w hxs; rw [h2] at this; exact this
end Go.Proofs.Ytjobnghobeekiaa.Tx
