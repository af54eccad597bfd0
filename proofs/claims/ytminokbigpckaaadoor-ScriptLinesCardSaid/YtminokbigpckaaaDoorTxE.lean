import Derived.Test.YtminokbigpckaaaDoorTxD
import Derived.Lib.IndexBytes
namespace Go.Proofs.YtminokbigpckaaaDoor.Ct
open Go.RowKit
set_option linter.unusedVariables false
set_option linter.unusedSimpArgs false
set_option maxHeartbeats 2000000 in
theorem parse_minus (s : ByteArray) (w : World) (n : Int) (ok q : Bool) (hs : s.size ≤ 9223372036854775807) (h0 : 0 < s.size) (hm : ((s[0]'h0).toNat : Int) = 45) (n1 : -9223372036854775808 ≤ n) (n2 : n ≤ 0)
    (D : ∀ w, Calls Tryd.prog 70 #[.string (s.extract 1 s.size)] w fun e w' => e = .returned (.tuple #[.int .i64 n, .bool ok]) ∧ w = w') (hq : ((strOfNums (textS n)).toList == s.toList) = q) :
    Calls Tryd.prog 62 #[.string s] w fun e w' => e = .returned (.tuple #[.int .i64 (if (ok && q) = true then n else 0), .bool (ok && q)]) ∧ Below w.heap.size w w' := by
  have DD := Lib.hid D; clear D
  cases ok
  · go_enter Tryd.func62, Tryd.ntmps62
    go_wp2_with (first | (go_at_call 70; refine (DD.out _).mono ?_; rintro e w' ⟨rfl, rfl⟩) | (go_at_call 26; refine (text_calls n _ ⟨by omega, by omega⟩).mono ?_; rintro e w' ⟨rfl, hb⟩))
    go_ret2
    exact ⟨rfl, Below.refl _ _⟩
  · cases q
    · go_enter Tryd.func62, Tryd.ntmps62
      go_wp2_with (first | (go_at_call 70; refine (DD.out _).mono ?_; rintro e w' ⟨rfl, rfl⟩) | (go_at_call 26; refine (text_calls n _ ⟨by omega, by omega⟩).mono ?_; rintro e w' ⟨rfl, hb⟩))
      go_ret2
      exact ⟨rfl, ‹_›⟩
    · go_enter Tryd.func62, Tryd.ntmps62
      go_wp2_with (first | (go_at_call 70; refine (DD.out _).mono ?_; rintro e w' ⟨rfl, rfl⟩) | (go_at_call 26; refine (text_calls n _ ⟨by omega, by omega⟩).mono ?_; rintro e w' ⟨rfl, hb⟩))
      go_ret2
      exact ⟨rfl, ‹_›⟩
set_option maxHeartbeats 2000000 in
theorem parse_plain (s : ByteArray) (w : World) (n : Int) (ok q : Bool) (hs : s.size ≤ 9223372036854775807) (h0 : 0 < s.size) (hm : ((((s[0]'h0).toNat : Int) == 45) = false)) (n1 : -9223372036854775808 ≤ n) (n2 : n ≤ 0)
    (D : ∀ w, Calls Tryd.prog 70 #[.string s] w fun e w' => e = .returned (.tuple #[.int .i64 n, .bool ok]) ∧ w = w') (hq : ((strOfNums (textS (-n))).toList == s.toList) = q) :
    Calls Tryd.prog 62 #[.string s] w fun e w' => e = .returned (.tuple #[.int .i64 (if (ok && decide (-9223372036854775808 < n) && q) = true then -n else 0), .bool (ok && decide (-9223372036854775808 < n) && q)]) ∧ Below w.heap.size w w' := by
  have DD := Lib.hid D; clear D
  by_cases hl : n = -9223372036854775808
  · subst hl
    clear hq
    cases ok
    all_goals
      go_enter Tryd.func62, Tryd.ntmps62
      go_wp2_with (first | (go_at_call 70; refine (DD.out _).mono ?_; rintro e w' ⟨rfl, rfl⟩))
      go_ret2
      exact ⟨rfl, Below.refl _ _⟩
  · have hl2 : -9223372036854775808 < n := by omega
    rw [decide_eq_true hl2, Bool.and_true]
    have hb3 : (n != -9223372036854775808) = true := bne_iff_ne.2 hl
    cases ok
    · go_enter Tryd.func62, Tryd.ntmps62
      go_wp2_with (first | (go_at_call 70; refine (DD.out _).mono ?_; rintro e w' ⟨rfl, rfl⟩))
      go_ret2
      exact ⟨rfl, Below.refl _ _⟩
    · cases q
      all_goals
        go_enter Tryd.func62, Tryd.ntmps62
        go_wp2_with (first | (go_at_call 70; refine (DD.out _).mono ?_; rintro e w' ⟨rfl, rfl⟩) | (go_at_call 26; refine (text_calls (-n) _ ⟨by omega, by omega⟩).mono ?_; rintro e w' ⟨rfl, hb⟩))
        go_ret2
        exact ⟨rfl, ‹_›⟩
set_option maxHeartbeats 400000 in
theorem parse_empty (w : World) (D : ∀ w, Calls Tryd.prog 70 #[.string ByteArray.empty] w fun e w' => e = .returned (.tuple #[.int .i64 0, .bool false]) ∧ w = w') :
    Calls Tryd.prog 62 #[.string ⟨#[]⟩] w fun e w' => e = .returned (.tuple #[.int .i64 0, .bool false]) ∧ Below w.heap.size w w' := by
  have DD := Lib.hid D; clear D
  go_enter Tryd.func62, Tryd.ntmps62
  go_wp2_with (first | (go_at_call 70; refine (DD.out _).mono ?_; rintro e w' ⟨rfl, rfl⟩))
  go_ret2
  exact ⟨rfl, Below.refl _ _⟩

/-- the digits of a number, the first one first. -/
def decS (m : Nat) : List Int := if m = 0 then [48] else (digs m).reverse
theorem textS_eq (n : Int) : textS n = if n < 0 then 45 :: decS n.natAbs else decS n.natAbs := by
  unfold textS decS
  by_cases h0 : n = 0
  · subst h0; rfl
  · rw [if_neg h0]
    by_cases h : n < 0
    · rw [if_pos h, if_pos h, if_neg (by omega)]; simp
    · rw [if_neg h, if_neg h, if_neg (by omega)]; simp
theorem digs_dval (m : Nat) : dval (digs m).reverse = m ∧ (digs m).reverse.all isD = true := by
  induction m using Nat.strongRecOn with
  | _ m ih =>
    by_cases h0 : m = 0
    · subst h0; rw [digs_zero]; exact ⟨rfl, rfl⟩
    · rw [digs_pos h0, List.reverse_cons]
      obtain ⟨h1, h2⟩ := ih (m / 10) (by omega)
      constructor
      · unfold dval at h1 ⊢; rw [List.foldl_append, h1]; simp; omega
      · rw [List.all_append, h2]; unfold isD; simp; omega
theorem decS_facts (m : Nat) : dval (decS m) = m ∧ (decS m).all isD = true ∧ 0 < (decS m).length := by
  unfold decS
  by_cases h0 : m = 0
  · subst h0; exact ⟨by decide, by decide, by decide⟩
  · rw [if_neg h0]
    exact ⟨(digs_dval m).1, (digs_dval m).2, by rw [digs_pos h0]; simp⟩
theorem decS_len {m : Nat} (h : m < 10 ^ 19) : (decS m).length ≤ 19 := by
  unfold decS
  split
  · simp
  · rw [List.length_reverse]; exact digs_len 19 m h
theorem decS_bytes (m : Nat) : ∀ x ∈ decS m, 0 ≤ x ∧ x ≤ 255 := fun x hx => by
  have := (List.all_eq_true.1 (decS_facts m).2.1) x hx
  unfold isD at this; have := of_decide_eq_true this; omega
theorem textS_bytes (n : Int) : ∀ x ∈ textS n, 0 ≤ x ∧ x ≤ 255 := by
  rw [textS_eq]
  split
  · intro x hx
    rcases List.mem_cons.1 hx with rfl | hx
    · omega
    · exact decS_bytes _ x hx
  · exact decS_bytes _
theorem bs_text (n : Int) : bs (strOfNums (textS n)) = textS n := bs_strOf (textS_bytes n)
theorem decS_head (m : Nat) : (decS m).getD 0 0 ≠ 45 := by
  intro h
  have := (List.all_eq_true.1 (decS_facts m).2.1) _ (getD_mem (decS_facts m).2.2)
  rw [h] at this; revert this; decide

def parseS (l : List Int) : Int × Bool :=
  if 0 < l.length ∧ l.getD 0 0 = 45 then
    (if ((digS (l.drop 1)).2 && decide (textS (digS (l.drop 1)).1 = l)) = true then ((digS (l.drop 1)).1, true) else (0, false))
  else
    (if ((digS l).2 && decide (-9223372036854775808 < (digS l).1) && decide (textS (-(digS l).1) = l)) = true then (-(digS l).1, true) else (0, false))
theorem parseS_minus {l : List Int} (h : 0 < l.length) (h2 : l.getD 0 0 = 45) : parseS l = if ((digS (l.drop 1)).2 && decide (textS (digS (l.drop 1)).1 = l)) = true then ((digS (l.drop 1)).1, true) else (0, false) := by
  unfold parseS; rw [if_pos ⟨h, h2⟩]
theorem parseS_plain {l : List Int} (h2 : ¬ l.getD 0 0 = 45) : parseS l = if ((digS l).2 && decide (-9223372036854775808 < (digS l).1) && decide (textS (-(digS l).1) = l)) = true then (-(digS l).1, true) else (0, false) := by
  unfold parseS; rw [if_neg (fun h => h2 h.2)]
theorem digS_bd (l : List Int) : -9223372036854775808 ≤ (digS l).1 ∧ (digS l).1 ≤ 0 := by
  unfold digS
  split
  · rename_i h
    rw [Bool.and_eq_true] at h
    have := dval_nonneg h.1
    have := of_decide_eq_true h.2
    simp only; omega
  · simp only; omega
theorem pair_if (c : Bool) (n : Int) : (if c = true then n else 0, c) = if c = true then (n, true) else (0, false) := by cases c <;> rfl
theorem parse_calls (s : ByteArray) (w : World) (hs : s.size ≤ 9223372036854775807) :
    Calls Tryd.prog 62 #[.string s] w fun e w' => e = .returned (.tuple #[.int .i64 (parseS (bs s)).1, .bool (parseS (bs s)).2]) ∧ Below w.heap.size w w' := by
  by_cases h0 : 0 < s.size
  · have hg := bs_get s 0 h0
    by_cases hm : ((s[0]'h0).toNat : Int) = 45
    · have bd := digS_bd ((bs s).drop 1)
      have D := fun w => digits_calls (s.extract 1 s.size) w (by have := bs_length (s.extract 1 s.size); rw [bs_extract] at this; rw [← this, List.length_drop, bs_length]; omega)
      rw [bs_extract] at D
      refine (parse_minus s w _ _ _ hs h0 hm bd.1 bd.2 D rfl).mono fun e w' ⟨h1, h2⟩ => ⟨?_, h2⟩
      rw [h1]
      refine ret_two ?_
      have e2 := parseS_minus (l := bs s) (by rw [bs_length]; exact h0) (by rw [hg, hm])
      rw [pair_if, str_eq, bs_text, e2]
    · have bd := digS_bd (bs s)
      refine (parse_plain s w _ _ _ hs h0 (beq_eq_false_iff_ne.2 hm) bd.1 bd.2 (fun w => digits_calls s w hs) rfl).mono fun e w' ⟨h1, h2⟩ => ⟨?_, h2⟩
      rw [h1]
      refine ret_two ?_
      have e2 := parseS_plain (l := bs s) (by rw [hg]; exact hm)
      rw [pair_if, str_eq, bs_text, e2]
  · have : s = ByteArray.empty := by
      apply bs_inj
      have h1 : (bs s).length = 0 := by rw [bs_length]; omega
      rw [List.length_eq_zero_iff.1 h1]; rfl
    subst this
    exact parse_empty w fun w => digits_calls ByteArray.empty w hs
theorem parse_text {n : Int} (hn : I64 n) : parseS (textS n) = (n, true) := by
  obtain ⟨n1, n2⟩ := hn
  obtain ⟨f1, f2, f3⟩ := decS_facts n.natAbs
  have hd : digS (decS n.natAbs) = (-(n.natAbs : Int), true) := by
    unfold digS; rw [f1, f2, if_pos (by simp; omega)]; simp [f3]
  rw [textS_eq]
  by_cases h : n < 0
  · rw [if_pos h]
    unfold parseS
    rw [if_pos ⟨by simp, rfl⟩, List.drop_succ_cons, List.drop_zero, hd]
    have e : -(n.natAbs : Int) = n := by omega
    simp only [e, Bool.true_and]
    rw [if_pos]
    rw [decide_eq_true]
    rw [textS_eq, if_pos h]
  · rw [if_neg h]
    unfold parseS
    rw [if_neg (fun k => decS_head _ k.2), hd]
    have e : -(-(n.natAbs : Int)) = n := by omega
    simp only [e, Bool.true_and]
    rw [if_pos]
    rw [Bool.and_eq_true, decide_eq_true_eq, decide_eq_true_eq]
    exact ⟨by omega, by rw [textS_eq, if_neg h]⟩
theorem parse_yes {l : List Int} {n : Int} (h : parseS l = (n, true)) : l = textS n := by
  unfold parseS at h
  split at h
  · split at h
    · rename_i k
      rw [Bool.and_eq_true] at k
      have := of_decide_eq_true k.2
      cases h; exact this.symm
    · cases h
  · split at h
    · rename_i k
      rw [Bool.and_eq_true] at k
      have := of_decide_eq_true k.2
      cases h; exact this.symm
    · cases h
theorem parse_no {l : List Int} (h : (parseS l).2 = false) : (parseS l).1 = 0 := by
  unfold parseS at h ⊢
  split
  · rename_i k; rw [if_pos k] at h; split at h
    · cases h
    · rename_i k2; rw [if_neg k2]
  · rename_i k; rw [if_neg k] at h; split at h
    · cases h
    · rename_i k2; rw [if_neg k2]
end Go.Proofs.YtminokbigpckaaaDoor.Ct
