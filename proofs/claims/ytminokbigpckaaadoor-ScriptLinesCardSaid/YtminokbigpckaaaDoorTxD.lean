import Derived.Test.YtminokbigpckaaaDoorTxC
namespace Go.Proofs.YtminokbigpckaaaDoor.Ct
open Go.RowKit
set_option linter.unusedVariables false
set_option linter.unusedSimpArgs false
def isD (c : Int) : Bool := decide (48 ≤ c ∧ c ≤ 57)
def dval (l : List Int) : Int := l.foldl (fun a c => 10 * a + (c - 48)) 0
def digS (l : List Int) : Int × Bool := if (l.all isD && decide (dval l ≤ 9223372036854775808)) = true then (-dval l, decide (0 < l.length)) else (0, false)
theorem dval_next {l : List Int} {k : Nat} (h : k < l.length) : dval (l.take (k + 1)) = 10 * dval (l.take k) + (l.getD k 0 - 48) := by
  unfold dval; rw [take_next h, List.foldl_append]; rfl
theorem all_next {l : List Int} {k : Nat} (h : k < l.length) : (l.take (k + 1)).all isD = ((l.take k).all isD && isD (l.getD k 0)) := by
  rw [take_next h, List.all_append]; simp
theorem all_take {l : List Int} (k : Nat) (h : l.all isD = true) : (l.take k).all isD = true := by
  rw [List.all_eq_true] at h ⊢; exact fun x hx => h x (List.mem_of_mem_take hx)
theorem dval_mono {l : List Int} (h : l.all isD = true) (d : Nat) : ∀ k, k + d = l.length → 0 ≤ dval (l.take k) → dval (l.take k) ≤ dval l ∧ 0 ≤ dval l := by
  induction d with
  | zero => intro k hk h0; rw [show l.take k = l from List.take_of_length_le (by omega)] at h0 ⊢; omega
  | succ d ih =>
    intro k hk h0
    have hd : isD (l.getD k 0) = true := (List.all_eq_true.1 h) _ (getD_mem (by omega))
    unfold isD at hd
    have hd := of_decide_eq_true hd
    have e := dval_next (l := l) (k := k) (by omega)
    have := ih (k + 1) (by omega) (by omega)
    omega
theorem dval_nonneg {l : List Int} (h : l.all isD = true) : 0 ≤ dval l := (dval_mono h l.length 0 (by omega) (by simp [dval])).2
theorem digS_no {l : List Int} (h : l.all isD = true → 9223372036854775808 < dval l) : digS l = (0, false) := by
  unfold digS
  rw [if_neg]
  intro k
  rw [Bool.and_eq_true] at k
  have := h k.1
  have := of_decide_eq_true k.2
  omega
theorem digS_bad {l : List Int} {k : Nat} (h : k < l.length) (hd : isD (l.getD k 0) = false) : digS l = (0, false) := digS_no fun ha => by
  have := (List.all_eq_true.1 ha) _ (getD_mem h)
  rw [hd] at this; cases this
theorem digS_over {l : List Int} {k : Nat} (h : k ≤ l.length) (hd : 9223372036854775808 < dval (l.take k)) : digS l = (0, false) := digS_no fun ha => by
  have := dval_mono ha (l.length - k) k (by omega) (dval_nonneg (all_take k ha))
  omega
theorem tdiv_room {p d : Int} (d1 : 0 ≤ d) (d2 : d ≤ 9) : -p < (-9223372036854775808 + d).tdiv 10 ↔ 9223372036854775808 < 10 * p + d := by
  have e := Int.mul_tdiv_add_tmod (-9223372036854775808 + d) 10
  have a := Int.lt_tmod_of_pos (-9223372036854775808 + d) (show (0:Int) < 10 by decide)
  have b : (-9223372036854775808 + d).tmod 10 ≤ 0 := by
    have := Int.neg_tmod (-9223372036854775808 + d) 10
    have := Int.tmod_nonneg 10 (show 0 ≤ -(-9223372036854775808 + d) by omega)
    omega
  omega
theorem ret_two {a a' : Int} {b b' : Bool} (h : (a, b) = (a', b')) : Ending.returned (.tuple #[.int .i64 a, .bool b]) = .returned (.tuple #[.int .i64 a', .bool b']) := by
  cases h; rfl
set_option maxHeartbeats 2000000 in
theorem digits_calls (s : ByteArray) (w : World) (hs : s.size ≤ 9223372036854775807) : Calls Tryd.prog 70 #[.string s] w fun e w' => e = .returned (.tuple #[.int .i64 (digS (bs s)).1, .bool (digS (bs s)).2]) ∧ w = w' := by
  go_enter Tryd.func70, Tryd.ntmps70
  go_wp2
  go_loop [4, 5, 6, 9] (fun n i d x => ∃ k : Nat, k ≤ s.size ∧ x = .int .i64 k ∧ n = .int .i64 (-(dval ((bs s).take k))) ∧ ((bs s).take k).all isD = true ∧ dval ((bs s).take k) ≤ 9223372036854775808) (fun _ _ _ x => s.size - (intOf x).toNat)
  case atStart => exact ⟨0, by omega, rfl, rfl, rfl, by simp [dval]⟩
  case round =>
    obtain ⟨k, hk, rfl, rfl, ha, hd⟩ := hrel
    have hd0 := dval_nonneg ha
    by_cases hlt : k < s.size
    · have hkl : k < (bs s).length := by rw [bs_length]; exact hlt
      have hn := dval_next hkl
      have han := all_next hkl
      have hov := fun h => digS_over (l := bs s) (k := k + 1) hkl h
      have hbad := fun h => digS_bad (l := bs s) (k := k) hkl h
      rw [hn] at hov
      have hg := bs_get s k hlt
      rw [hg] at hn han hov hbad
      have c1 : 0 ≤ ((s[k]'hlt).toNat : Int) := by omega
      have c2 : ((s[k]'hlt).toNat : Int) ≤ 255 := by have := (s[k]'hlt).toNat_lt; omega
      clear hg
      generalize hcc : ((s[k]'hlt).toNat : Int) = c at *
      generalize hv : dval ((bs s).take k) = v at *
      have HN := Lib.hid hn; clear hn
      have HA := Lib.hid han; clear han
      have H1 := Lib.hid ha; clear ha
      have HO := Lib.hid hov; clear hov
      have HB := Lib.hid hbad; clear hbad
      clear hv hkl
      by_cases h1 : c < 48
      · have e := HB.out (by unfold isD; exact decide_eq_false (by omega))
        have E := Lib.hid e; clear e
        go_wp2
        go_ret2
        exact ⟨ret_two (by rw [E.out]), rfl⟩
      · by_cases h2 : 57 < c
        · have e := HB.out (by unfold isD; exact decide_eq_false (by omega))
          have E := Lib.hid e; clear e
          go_wp2
          go_ret2
          exact ⟨ret_two (by rw [E.out]), rfl⟩
        · have hr := tdiv_room (p := v) (d := c - 48) (by omega) (by omega)
          by_cases h3 : 9223372036854775808 < 10 * v + (c - 48)
          · have e := HO.out h3
            have E := Lib.hid e; clear e
            have h4 := hr.2 h3
            clear hr
            go_wp2
            go_ret2
            exact ⟨ret_two (by rw [E.out]), rfl⟩
          · have h4 : ¬ (-v < (-9223372036854775808 + (c - 48)).tdiv 10) := fun h => h3 (hr.1 h)
            clear hr
            go_wp2
            go_round
            case rel => exact ⟨k + 1, by omega, by go_num, by rw [HN.out]; go_num, by rw [HA.out, H1.out]; unfold isD; simp; omega, by rw [HN.out]; omega⟩
            case measure => simp [intOf]; omega
    · obtain rfl : k = s.size := by omega
      have e : (bs s).take s.size = bs s := by rw [← bs_length]; exact List.take_length
      rw [e] at ha hd hd0
      have e2 : digS (bs s) = (-dval (bs s), decide (0 < s.size)) := by
        unfold digS; rw [if_pos (by rw [ha, decide_eq_true hd]; rfl), bs_length]
      have E := Lib.hid e2; clear e2 hd0 hd ha
      have EE := Lib.hid e; clear e
      go_wp2
      go_ret2
      exact ⟨ret_two (by rw [E.out, EE.out]), rfl⟩
end Go.Proofs.YtminokbigpckaaaDoor.Ct
