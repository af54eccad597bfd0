import Derived.Test.YtminokbigpckaaaDoorTxE
import Derived.Test.YtminokbigpckaaaDoorCouB
namespace Go.Proofs.YtminokbigpckaaaDoor.Ct
open Go.RowKit
set_option linter.unusedVariables false
set_option linter.unusedSimpArgs false
def stepR (m : Bool) (n c : Int) : Int := Ct.satAdd (Ct.satMul n 10) (if m = true then -(c - 48) else c - 48)
def readF (m : Bool) (l : List Int) : Int := l.foldl (stepR m) 0
theorem readF_next {m : Bool} {l : List Int} {k : Nat} (h : k < l.length) : readF m (l.take (k + 1)) = stepR m (readF m (l.take k)) (l.getD k 0) := by
  unfold readF; rw [take_next h, List.foldl_append]; rfl
theorem readF_bd (m : Bool) (l : List Int) : I64 (readF m l) := by
  rcases List.eq_nil_or_concat l with rfl | ⟨l, x, rfl⟩
  · unfold readF; exact ⟨by simp, by simp⟩
  · unfold readF; rw [List.concat_eq_append, List.foldl_append]; exact Ct.sat_bd _
/-- what the loop of Read over t comes to, its sign and the whole text known. -/
def readT (m : Bool) (t l : List Int) : Int × Bool := if t.length = 0 ∨ 19 < t.length ∨ t.all isD = false then (0, false) else (readF m t, decide (textS (readF m t) = l))
theorem readT_bad {m : Bool} {t l : List Int} (h : t.all isD = false) : readT m t l = (0, false) := by unfold readT; exact if_pos (.inr (.inr h))
set_option maxHeartbeats 4000000 in
theorem read_minus (s : ByteArray) (w : World) (hs : s.size ≤ 9223372036854775807) (h0 : 0 < s.size) (hm : ((s[0]'h0).toNat : Int) = 45) :
    Calls Tryd.prog 39 #[.string s] w fun e w' => e = .returned (.tuple #[.int .i64 (readT true ((bs s).drop 1) (bs s)).1, .bool (readT true ((bs s).drop 1) (bs s)).2]) ∧ w = w' := by
  obtain ⟨t, ht⟩ : ∃ t, s.extract 1 s.size = t := ⟨_, rfl⟩
  have hbt : (bs s).drop 1 = bs t := by rw [← ht, bs_extract]
  have htl : t.size ≤ 9223372036854775807 := by have := bs_length t; rw [← hbt, List.length_drop, bs_length] at this; omega
  rw [hbt]
  clear hbt
  by_cases c0 : t.size = 0
  · have e : readT true (bs t) (bs s) = (0, false) := by unfold readT; rw [if_pos (by rw [bs_length]; omega)]
    have E := Lib.hid e; clear e
    go_enter Tryd.func39, Tryd.ntmps39
    go_wp2
    go_ret2
    exact ⟨ret_two (by rw [E.out]), rfl⟩
  · have c0' : ((t.size : Int) == 0) = false := beq_eq_false_iff_ne.2 (by omega)
    by_cases c1 : 19 < t.size
    · have e : readT true (bs t) (bs s) = (0, false) := by unfold readT; rw [if_pos (by rw [bs_length]; omega)]
      have E := Lib.hid e; clear e
      clear c0
      go_enter Tryd.func39, Tryd.ntmps39
      go_wp2
      go_ret2
      exact ⟨ret_two (by rw [E.out]), rfl⟩
    · have c19 : decide (19 < (t.size : Int)) = false := decide_eq_false (by omega)
      go_enter Tryd.func39, Tryd.ntmps39
      go_wp2
      go_loop [6, 7, 8] (fun n i d => ∃ k : Nat, k ≤ t.size ∧ i = .int .i64 k ∧ n = .int .i64 (readF true ((bs t).take k)) ∧ ((bs t).take k).all isD = true) (fun _ i _ => t.size - (intOf i).toNat)
      case atStart => exact ⟨0, by omega, rfl, rfl, rfl⟩
      case round =>
        obtain ⟨k, hk, rfl, rfl, ha⟩ := hrel
        have hb := readF_bd true ((bs t).take k)
        by_cases hlt : k < t.size
        · have hkl : k < (bs t).length := by rw [bs_length]; exact hlt
          have hn := readF_next (m := true) hkl
          have han := all_next hkl
          have hbad : isD ((bs t).getD k 0) = false → readT true (bs t) (bs s) = (0, false) := fun h => by
            refine readT_bad (Bool.eq_false_iff.2 fun ha => ?_)
            have := (List.all_eq_true.1 ha) _ (getD_mem hkl)
            rw [h] at this; cases this
          have hg := bs_get t k hlt
          rw [hg] at hn han hbad
          have u1 : 0 ≤ ((t[k]'hlt).toNat : Int) := by omega
          have u2 : ((t[k]'hlt).toNat : Int) ≤ 255 := by have := (t[k]'hlt).toNat_lt; omega
          clear hg
          generalize hcc : ((t[k]'hlt).toNat : Int) = c at *
          generalize readF true ((bs t).take k) = v at *
          have HN := Lib.hid hn; clear hn
          have HA := Lib.hid han; clear han
          have H1 := Lib.hid ha; clear ha
          have HB := Lib.hid hbad; clear hbad
          clear hkl
          by_cases h1 : c < 48
          · have e := HB.out (by unfold isD; exact decide_eq_false (by omega))
            have E := Lib.hid e; clear e
            go_wp2
            go_ret2
            exact ⟨ret_two (by rw [E.out]), rfl⟩
          · by_cases h2 : 57 < c
            · have e := HB.out (by unfold isD; exact decide_eq_false (by omega))
              have E := Lib.hid e; clear e
              go_wp2
              go_ret2
              exact ⟨ret_two (by rw [E.out]), rfl⟩
            · have MC := Lib.hid (fun w => Ct.rmul_calls v 10 w hb ⟨by omega, by omega⟩)
              have AC := Lib.hid (fun w => Ct.radd_calls (Ct.satMul v 10) (-(c - 48)) w (Ct.sat_bd _) ⟨by omega, by omega⟩)
              have HS : stepR true v c = Ct.satAdd (Ct.satMul v 10) (-(c - 48)) := by unfold stepR; rfl
              rw [HS] at HN
              clear HS
              generalize Ct.satMul v 10 = p at *
              generalize Ct.satAdd p (-(c - 48)) = r at *
              go_wp2_with (first | (go_at_call 54; (with_reducible refine (MC.out _).mono ?_); rintro e w' ⟨rfl, rfl⟩) | (go_at_call 53; (with_reducible refine (AC.out _).mono ?_); rintro e w' ⟨rfl, rfl⟩))
              go_round
              case rel => exact ⟨k + 1, by omega, by go_num, by rw [HN.out], by rw [HA.out, H1.out]; unfold isD; simp; omega⟩
              case measure => simp [intOf]; omega
        · obtain rfl : k = t.size := by omega
          have e : (bs t).take t.size = bs t := by rw [← bs_length]; exact List.take_length
          rw [e] at ha hb
          have e2 : readT true (bs t) (bs s) = (readF true (bs t), decide (textS (readF true (bs t)) = bs s)) := by
            unfold readT
            rw [if_neg]
            intro h
            rw [bs_length, ha] at h
            rcases h with h | h | h
            · exact c0 h
            · omega
            · cases h
          have NC := Lib.hid (fun w => num_calls (readF true (bs t)) w hb)
          have hq := str_eq (strOfNums (textS (readF true (bs t)))) s
          rw [bs_text] at hq
          have ev : readF true ((bs t).take t.size) = readF true (bs t) := by rw [e]
          generalize decide (textS (readF true (bs t)) = bs s) = q at *
          rw [← ev] at e2 NC hq
          clear ev
          have E := Lib.hid e2; clear e2 ha e
          generalize readF true ((bs t).take t.size) = v at *
          go_wp2_with (first | (go_at_call 37; (with_reducible refine (NC.out _).mono ?_); rintro e w' ⟨rfl, rfl⟩))
          go_ret2
          exact ⟨ret_two (by rw [E.out]), rfl⟩
set_option maxHeartbeats 4000000 in
theorem read_plain (s : ByteArray) (w : World) (hs : s.size ≤ 9223372036854775807) (h0 : 0 < s.size) (hm : (((s[0]'h0).toNat : Int) == 45) = false) :
    Calls Tryd.prog 39 #[.string s] w fun e w' => e = .returned (.tuple #[.int .i64 (readT false (bs s) (bs s)).1, .bool (readT false (bs s) (bs s)).2]) ∧ w = w' := by
  have c0 : ¬ s.size = 0 := by omega
  · have c0' : ((s.size : Int) == 0) = false := beq_eq_false_iff_ne.2 (by omega)
    by_cases c1 : 19 < s.size
    · have e : readT false (bs s) (bs s) = (0, false) := by unfold readT; rw [if_pos (by rw [bs_length]; omega)]
      have E := Lib.hid e; clear e
      clear c0
      go_enter Tryd.func39, Tryd.ntmps39
      go_wp2
      go_ret2
      exact ⟨ret_two (by rw [E.out]), rfl⟩
    · have c19 : decide (19 < (s.size : Int)) = false := decide_eq_false (by omega)
      go_enter Tryd.func39, Tryd.ntmps39
      go_wp2
      go_loop [6, 7, 8] (fun n i d => ∃ k : Nat, k ≤ s.size ∧ i = .int .i64 k ∧ n = .int .i64 (readF false ((bs s).take k)) ∧ ((bs s).take k).all isD = true) (fun _ i _ => s.size - (intOf i).toNat)
      case atStart => exact ⟨0, by omega, rfl, rfl, rfl⟩
      case round =>
        obtain ⟨k, hk, rfl, rfl, ha⟩ := hrel
        have hb := readF_bd false ((bs s).take k)
        by_cases hlt : k < s.size
        · have hkl : k < (bs s).length := by rw [bs_length]; exact hlt
          have hn := readF_next (m := false) hkl
          have han := all_next hkl
          have hbad : isD ((bs s).getD k 0) = false → readT false (bs s) (bs s) = (0, false) := fun h => by
            refine readT_bad (Bool.eq_false_iff.2 fun ha => ?_)
            have := (List.all_eq_true.1 ha) _ (getD_mem hkl)
            rw [h] at this; cases this
          have hg := bs_get s k hlt
          rw [hg] at hn han hbad
          have u1 : 0 ≤ ((s[k]'hlt).toNat : Int) := by omega
          have u2 : ((s[k]'hlt).toNat : Int) ≤ 255 := by have := (s[k]'hlt).toNat_lt; omega
          clear hg
          generalize hcc : ((s[k]'hlt).toNat : Int) = c at *
          generalize readF false ((bs s).take k) = v at *
          have HN := Lib.hid hn; clear hn
          have HA := Lib.hid han; clear han
          have H1 := Lib.hid ha; clear ha
          have HB := Lib.hid hbad; clear hbad
          clear hkl
          by_cases h1 : c < 48
          · have e := HB.out (by unfold isD; exact decide_eq_false (by omega))
            have E := Lib.hid e; clear e
            go_wp2
            go_ret2
            exact ⟨ret_two (by rw [E.out]), rfl⟩
          · by_cases h2 : 57 < c
            · have e := HB.out (by unfold isD; exact decide_eq_false (by omega))
              have E := Lib.hid e; clear e
              go_wp2
              go_ret2
              exact ⟨ret_two (by rw [E.out]), rfl⟩
            · have MC := Lib.hid (fun w => Ct.rmul_calls v 10 w hb ⟨by omega, by omega⟩)
              have AC := Lib.hid (fun w => Ct.radd_calls (Ct.satMul v 10) (c - 48) w (Ct.sat_bd _) ⟨by omega, by omega⟩)
              have HS : stepR false v c = Ct.satAdd (Ct.satMul v 10) (c - 48) := by unfold stepR; rfl
              rw [HS] at HN
              clear HS
              generalize Ct.satMul v 10 = p at *
              generalize Ct.satAdd p (c - 48) = r at *
              go_wp2_with (first | (go_at_call 54; (with_reducible refine (MC.out _).mono ?_); rintro e w' ⟨rfl, rfl⟩) | (go_at_call 53; (with_reducible refine (AC.out _).mono ?_); rintro e w' ⟨rfl, rfl⟩))
              go_round
              case rel => exact ⟨k + 1, by omega, by go_num, by rw [HN.out], by rw [HA.out, H1.out]; unfold isD; simp; omega⟩
              case measure => simp [intOf]; omega
        · obtain rfl : k = s.size := by omega
          have e : (bs s).take s.size = bs s := by rw [← bs_length]; exact List.take_length
          rw [e] at ha hb
          have e2 : readT false (bs s) (bs s) = (readF false (bs s), decide (textS (readF false (bs s)) = bs s)) := by
            unfold readT
            rw [if_neg]
            intro h
            rw [bs_length, ha] at h
            rcases h with h | h | h
            · exact c0 h
            · omega
            · cases h
          have NC := Lib.hid (fun w => num_calls (readF false (bs s)) w hb)
          have hq := str_eq (strOfNums (textS (readF false (bs s)))) s
          rw [bs_text] at hq
          have ev : readF false ((bs s).take s.size) = readF false (bs s) := by rw [e]
          generalize decide (textS (readF false (bs s)) = bs s) = q at *
          rw [← ev] at e2 NC hq
          clear ev
          have E := Lib.hid e2; clear e2 ha e
          generalize readF false ((bs s).take s.size) = v at *
          go_wp2_with (first | (go_at_call 37; (with_reducible refine (NC.out _).mono ?_); rintro e w' ⟨rfl, rfl⟩))
          go_ret2
          exact ⟨ret_two (by rw [E.out]), rfl⟩

set_option maxHeartbeats 400000 in
theorem read_empty (w : World) : Calls Tryd.prog 39 #[.string ⟨#[]⟩] w fun e w' => e = .returned (.tuple #[.int .i64 0, .bool false]) ∧ w = w' := by
  go_enter Tryd.func39, Tryd.ntmps39
  go_wp2
  go_ret2
  exact ⟨rfl, rfl⟩
def readS (l : List Int) : Int × Bool := if 0 < l.length ∧ l.getD 0 0 = 45 then readT true (l.drop 1) l else readT false l l
theorem readS_minus {l : List Int} (h : 0 < l.length) (h2 : l.getD 0 0 = 45) : readS l = readT true (l.drop 1) l := by unfold readS; exact if_pos ⟨h, h2⟩
theorem readS_plain {l : List Int} (h2 : ¬ l.getD 0 0 = 45) : readS l = readT false l l := by unfold readS; exact if_neg (fun h => h2 h.2)
theorem read_calls (s : ByteArray) (w : World) (hs : s.size ≤ 9223372036854775807) :
    Calls Tryd.prog 39 #[.string s] w fun e w' => e = .returned (.tuple #[.int .i64 (readS (bs s)).1, .bool (readS (bs s)).2]) ∧ w = w' := by
  by_cases h0 : 0 < s.size
  · have hg := bs_get s 0 h0
    by_cases hm : ((s[0]'h0).toNat : Int) = 45
    · rw [readS_minus (l := bs s) (by rw [bs_length]; exact h0) (by rw [hg, hm])]
      exact read_minus s w hs h0 hm
    · rw [readS_plain (l := bs s) (by rw [hg]; exact hm)]
      exact read_plain s w hs h0 (beq_eq_false_iff_ne.2 hm)
  · have : s = ByteArray.empty := by
      apply bs_inj
      have h1 : (bs s).length = 0 := by rw [bs_length]; omega
      rw [List.length_eq_zero_iff.1 h1]; rfl
    subst this
    exact read_empty w
theorem readT_yes {m : Bool} {t l : List Int} (h : (readT m t l).2 = true) : l = textS (readT m t l).1 ∧ I64 (readT m t l).1 := by
  unfold readT at h ⊢
  split at h
  · cases h
  · rename_i k
    rw [if_neg k]
    exact ⟨(of_decide_eq_true h).symm, readF_bd _ _⟩
theorem read_yes {l : List Int} (h : (readS l).2 = true) : l = textS (readS l).1 ∧ I64 (readS l).1 := by
  unfold readS at h ⊢
  split at h
  · rename_i k; rw [if_pos k]; exact readT_yes h
  · rename_i k; rw [if_neg k]; exact readT_yes h
theorem readF_plus {t : List Int} (h : t.all isD = true) (hd : dval t ≤ 9223372036854775807) : ∀ k, k ≤ t.length → readF false (t.take k) = dval (t.take k) := by
  intro k
  induction k with
  | zero => intro _; rfl
  | succ k ih =>
    intro hk
    rw [readF_next (by omega), ih (by omega)]
    have e := dval_next (l := t) (k := k) (by omega)
    have m1 := dval_mono h (t.length - (k + 1)) (k + 1) (by omega) (dval_nonneg (all_take _ h))
    have m0 := dval_nonneg (all_take k h)
    have hc := (List.all_eq_true.1 h) _ (getD_mem (xs := t) (j := k) (by omega))
    unfold isD at hc
    have hc := of_decide_eq_true hc
    unfold stepR Ct.satAdd Ct.satMul
    rw [Ct.sat_mid (x := dval (t.take k) * 10) ⟨by omega, by omega⟩, if_neg (by decide), Ct.sat_mid ⟨by omega, by omega⟩]
    omega
theorem readF_less {t : List Int} (h : t.all isD = true) (hd : dval t ≤ 9223372036854775808) : ∀ k, k ≤ t.length → readF true (t.take k) = -dval (t.take k) := by
  intro k
  induction k with
  | zero => intro _; rfl
  | succ k ih =>
    intro hk
    rw [readF_next (by omega), ih (by omega)]
    have e := dval_next (l := t) (k := k) (by omega)
    have m1 := dval_mono h (t.length - (k + 1)) (k + 1) (by omega) (dval_nonneg (all_take _ h))
    have m0 := dval_nonneg (all_take k h)
    have hc := (List.all_eq_true.1 h) _ (getD_mem (xs := t) (j := k) (by omega))
    unfold isD at hc
    have hc := of_decide_eq_true hc
    unfold stepR Ct.satAdd Ct.satMul
    rw [Ct.sat_mid (x := -dval (t.take k) * 10) ⟨by omega, by omega⟩, if_pos rfl, Ct.sat_mid ⟨by omega, by omega⟩]
    omega
theorem read_text {n : Int} (hn : I64 n) : readS (textS n) = (n, true) := by
  obtain ⟨n1, n2⟩ := hn
  obtain ⟨f1, f2, f3⟩ := decS_facts n.natAbs
  have fl : (decS n.natAbs).length ≤ 19 := decS_len (by omega)
  rw [textS_eq]
  by_cases h : n < 0
  · rw [if_pos h, readS_minus (by simp) rfl, List.drop_succ_cons, List.drop_zero]
    have e := readF_less f2 (by omega) _ (Nat.le_refl _)
    rw [List.take_length, f1, show -(n.natAbs : Int) = n from by omega] at e
    unfold readT
    rw [if_neg (by rw [f2]; intro k; rcases k with k | k | k; omega; omega; cases k), e, decide_eq_true (by rw [textS_eq, if_pos h])]
  · rw [if_neg h, readS_plain (decS_head _)]
    have e := readF_plus f2 (by omega) _ (Nat.le_refl _)
    rw [List.take_length, f1, show (n.natAbs : Int) = n from by omega] at e
    unfold readT
    rw [if_neg (by rw [f2]; intro k; rcases k with k | k | k; omega; omega; cases k), e, decide_eq_true (by rw [textS_eq, if_neg h])]
end Go.Proofs.YtminokbigpckaaaDoor.Ct
