import Derived.Test.YtjobnghobeekiaaCountB
/-! Chapter 01: contracts over lists, and the page's examples. -/
namespace Go.Proofs.Ytjobnghobeekiaa.Ct
open Go.RowKit
set_option linter.unusedVariables false
set_option linter.unusedSimpArgs false
/-- a slice of whole numbers that reads as a list. -/
def Row (k : IntKind) (w : World) (a : Option Addr) (xs : List Int) : Prop :=
  xs.length ≤ maxLen ∧ (∀ x ∈ xs, (Lit.int k x).wf = true) ∧ (0 < xs.length → ∃ ad, a = some ad ∧ ∀ j, j < xs.length → w.cell? (ad.add j) = some (.int k (xs.getD j 0)))
theorem i64_of_wf {x : Int} (h : (Lit.int .i64 x).wf = true) : I64 x := bounds_i64 h
theorem getD_mem {xs : List Int} {j : Nat} (h : j < xs.length) : xs.getD j 0 ∈ xs := by
  rw [List.getD_eq_getElem?_getD, List.getElem?_eq_getElem h]; exact List.getElem_mem h
theorem take_next {xs : List Int} {j : Nat} (h : j < xs.length) : xs.take (j + 1) = xs.take j ++ [xs.getD j 0] := by
  rw [List.take_succ_eq_append_getElem h, List.getD_eq_getElem?_getD, List.getElem?_eq_getElem h]; rfl

theorem ediv_is {n b q : Int} (hb : 0 < b) (h1 : q * b ≤ n) (h2 : n < q * b + b) : n / b = q := by
  have a1 := (Int.le_ediv_iff_mul_le hb).2 h1
  have a2 := (Int.ediv_lt_iff_lt_mul hb (a := n) (b := q + 1)).2 (by rw [Int.add_mul]; omega)
  omega

def sumS (xs : List Int) : Int := xs.foldl satAdd 0
theorem sumS_bd (xs : List Int) : I64 (sumS xs) := by
  rcases List.eq_nil_or_concat xs with rfl | ⟨l, x, rfl⟩
  · exact ⟨by decide, by decide⟩
  · unfold sumS; rw [List.concat_eq_append, List.foldl_append]; exact sat_bd _
theorem sumS_next {xs : List Int} {j : Nat} (h : j < xs.length) : sumS (xs.take (j + 1)) = satAdd (sumS (xs.take j)) (xs.getD j 0) := by
  rw [take_next h]; unfold sumS; rw [List.foldl_append]; rfl

set_option maxHeartbeats 400000 in
theorem sum_calls (a : Option Addr) (cap : Nat) (xs : List Int) (w : World) (h : Row .i64 w a xs) :
    Calls Try.prog 21 #[.slice a xs.length cap] w fun e w' => e = .returned (.int .i64 (sumS xs)) ∧ w = w' := by
  obtain ⟨hm, hwf, hc⟩ := h
  unfold maxLen at hm
  go_enter Try.func21, Try.ntmps21
  go_wp2
  go_loop [3, 4, 7] (fun s v i => ∃ k : Nat, k ≤ xs.length ∧ i = .int .i64 k ∧ s = .int .i64 (sumS (xs.take k))) (fun _ _ i => xs.length - (intOf i).toNat)
  case atStart => exact ⟨0, by omega, rfl, rfl⟩
  case round =>
    obtain ⟨k, hk, rfl, rfl⟩ := hrel
    by_cases hlt : k < xs.length
    · obtain ⟨ad, rfl, hcell⟩ := hc (by omega)
      have hv := hcell k hlt
      have hI := i64_of_wf (hwf _ (getD_mem hlt))
      have hs := sumS_bd (xs.take k)
      have HN := Lib.hid (sumS_next hlt)
      clear hcell hwf hc
      generalize xs.getD k 0 = v at *
      go_wp2_with (go_at_call 11; refine (add_calls _ _ _ hs hI).mono ?_; rintro e w' ⟨rfl, rfl⟩)
      go_round
      case rel => exact ⟨k + 1, by omega, by go_num, by rw [HN.out]⟩
      case measure => simp [intOf]; omega
    · have : k = xs.length := by omega
      subst this
      go_wp2
      go_ret
      exact ⟨rfl, rfl⟩

set_option maxHeartbeats 400000 in
theorem rsum_calls (a : Option Addr) (cap : Nat) (xs : List Int) (w : World) (h : Row .i64 w a xs) :
    Calls Try.prog 22 #[.slice a xs.length cap] w fun e w' => e = .returned (.int .i64 (sumS xs)) ∧ w = w' := by
  obtain ⟨hm, hwf, hc⟩ := h
  unfold maxLen at hm
  go_enter Try.func22, Try.ntmps22
  go_wp2
  go_loop [3, 4] (fun s i => ∃ k : Nat, k ≤ xs.length ∧ i = .int .i64 k ∧ s = .int .i64 (sumS (xs.take k))) (fun _ i => xs.length - (intOf i).toNat)
  case atStart => exact ⟨0, by omega, rfl, rfl⟩
  case round =>
    obtain ⟨k, hk, rfl, rfl⟩ := hrel
    by_cases hlt : k < xs.length
    · obtain ⟨ad, rfl, hcell⟩ := hc (by omega)
      have hv := hcell k hlt
      have hI := i64_of_wf (hwf _ (getD_mem hlt))
      have hs := sumS_bd (xs.take k)
      have HN := Lib.hid (sumS_next hlt)
      clear hcell hwf hc
      generalize xs.getD k 0 = v at *
      go_wp2_with (go_at_call 12; refine (radd_calls _ _ _ hs hI).mono ?_; rintro e w' ⟨rfl, rfl⟩)
      go_round
      case rel => exact ⟨k + 1, by omega, by go_num, by rw [HN.out]⟩
      case measure => simp [intOf]; omega
    · have : k = xs.length := by omega
      subst this
      go_wp2
      go_ret
      exact ⟨rfl, rfl⟩

def mx2 (a b : Int) : Int := if a < b then b else a
theorem add_one_add (ad : Addr) (k : Nat) : ad.add (1 + k) = ⟨ad.block, ad.off + 1 + k, none⟩ := by
  unfold Addr.add; rw [if_neg (by omega), Nat.add_assoc]
def mostS : List Int → Int
  | [] => 0
  | x :: l => l.foldl mx2 x
theorem most_next {x : Int} {l : List Int} {j : Nat} (h : j < l.length) : (l.take (j + 1)).foldl mx2 x = mx2 ((l.take j).foldl mx2 x) (l.getD j 0) := by
  rw [take_next h, List.foldl_append]; rfl

theorem most_nil (a : Option Addr) (cap : Nat) (w : World) :
    Calls Try.prog 20 #[.slice a 0 cap] w fun e w' => e = .returned (.tuple #[.int .i64 0, .bool false]) ∧ w = w' := by
  go_enter Try.func20, Try.ntmps20
  go_wp2
  go_ret2
  exact ⟨rfl, rfl⟩
set_option maxHeartbeats 400000 in
theorem most_one (ad : Addr) (cap : Nat) (x : Int) (w : World) (hcap : 1 ≤ cap) (hm2 : cap ≤ 9223372036854775807) (h0 : w.cell? ad = some (.int .i64 x)) :
    Calls Try.prog 20 #[.slice (some ad) 1 cap] w fun e w' => e = .returned (.tuple #[.int .i64 x, .bool true]) ∧ w = w' := by
  by_cases hc1 : cap = 1
  all_goals
    go_enter Try.func20, Try.ntmps20
    go_wp2
    go_loop [4, 6, 16] (fun s v i => i = .int .i64 0 ∧ s = .int .i64 x) (fun _ _ i => 0)
    case atStart => exact ⟨rfl, rfl⟩
    case round =>
      obtain ⟨rfl, rfl⟩ := hrel
      go_wp2
      go_ret2
      exact ⟨rfl, rfl⟩
set_option maxHeartbeats 400000 in
theorem most_some (ad : Addr) (cap : Nat) (x : Int) (l : List Int) (w : World) (hl : 0 < l.length) (hm : l.length < 9223372036854775807) (hcap : l.length + 1 ≤ cap) (hm2 : cap ≤ 9223372036854775807) (h0 : w.cell? ad = some (.int .i64 x)) (hc : ∀ j, j < l.length → w.cell? (ad.add (1 + j)) = some (.int .i64 (l.getD j 0))) :
    Calls Try.prog 20 #[.slice (some ad) (l.length + 1) cap] w fun e w' => e = .returned (.tuple #[.int .i64 (mostS (x :: l)), .bool true]) ∧ w = w' := by
  have hc1 : ¬ cap = 1 := by omega
  have hl0 : ((l.length : Int) + 1 == 0) = false := beq_eq_false_iff_ne.2 (by omega)
  go_enter Try.func20, Try.ntmps20
  go_wp2
  go_loop [4, 6, 16] (fun s v i => ∃ k : Nat, k ≤ l.length ∧ i = .int .i64 k ∧ s = .int .i64 ((l.take k).foldl mx2 x)) (fun _ _ i => l.length - (intOf i).toNat)
  case atStart => exact ⟨0, by omega, rfl, rfl⟩
  case round =>
    obtain ⟨k, hk, rfl, rfl⟩ := hrel
    by_cases hlt : k < l.length
    · have hv := hc k hlt
      rw [add_one_add] at hv
      have HN := Lib.hid (most_next (x := x) hlt)
      clear hc
      generalize l.getD k 0 = v at *
      go_wp2
      go_round
      case rel => exact ⟨k + 1, by omega, by go_num, by rw [HN.out]; rfl⟩
      case measure => simp [intOf]; omega
    · have : k = l.length := by omega
      subst this
      go_wp2
      go_ret2
      exact ⟨rfl, rfl⟩

set_option maxHeartbeats 400000 in
theorem few_calls (a : Option Addr) (len cap : Nat) (w : World) (h : len ≤ cap) (hm : cap ≤ 9223372036854775807) (h0 : 0 < len → ∃ ad, a = some ad) :
    Calls Try.prog 19 #[.slice a len cap] w fun e w' => e = .returned (.slice a (min len 40) cap) ∧ w = w' := by
  by_cases c : 40 < len
  · obtain ⟨ad, rfl⟩ := h0 (by omega)
    rw [Nat.min_eq_right (by omega)]
    go_enter Try.func19, Try.ntmps19
    go_wp2
    go_ret
    exact ⟨rfl, rfl⟩
  · rw [Nat.min_eq_left (by omega)]
    go_enter Try.func19, Try.ntmps19
    go_wp2
    go_ret
    exact ⟨rfl, rfl⟩

set_option maxHeartbeats 400000 in
theorem rrest_calls (n b : Int) (w : World) (hn : I64 n) (hb : I64 b) :
    Calls Try.prog 18 #[.int .i64 n, .int .i64 b] w fun e w' => e = .returned (.int .i64 (restS n b)) ∧ w = w' := by
  obtain ⟨hn1, hn2⟩ := hn
  obtain ⟨hb1, hb2⟩ := hb
  by_cases h : b < 1
  · go_enter Try.func18, Try.ntmps18
    go_wp2
    go_ret
    exact ⟨ret_int (by unfold restS; rw [if_pos (by omega)]), rfl⟩
  · have h3 : ¬ b = 0 := by omega
    have h4 : -b < n.tmod b := Int.lt_tmod_of_pos n (by omega)
    have h5 : n.tmod b < b := Int.tmod_lt_of_pos n (by omega)
    by_cases h6 : n.tmod b < 0
    · go_enter Try.func18, Try.ntmps18
      go_wp2
      go_ret
      exact ⟨ret_int (by unfold restS; rw [if_neg (by omega), if_pos (by omega)]), rfl⟩
    · go_enter Try.func18, Try.ntmps18
      go_wp2
      go_ret
      exact ⟨ret_int (by unfold restS; rw [if_neg (by omega), if_neg (by omega)]), rfl⟩

set_option maxHeartbeats 400000 in
theorem rup_calls (n b : Int) (w : World) (hn : I64 n) (hb : I64 b) :
    Calls Try.prog 16 #[.int .i64 n, .int .i64 b] w fun e w' => e = .returned (.int .i64 (upS n b)) ∧ w = w' := by
  obtain ⟨hn1, hn2⟩ := hn
  obtain ⟨hb1, hb2⟩ := hb
  by_cases h : n < 1
  · go_enter Try.func16, Try.ntmps16
    go_wp2
    go_ret
    exact ⟨ret_int (by unfold upS; rw [if_pos (by omega)]), rfl⟩
  · by_cases h2 : b < 1
    · go_enter Try.func16, Try.ntmps16
      go_wp2
      go_ret
      exact ⟨ret_int (by unfold upS; rw [if_pos (by omega)]), rfl⟩
    · have h3 : ¬ b = 0 := by omega
      have h4 : 0 ≤ n / b := Int.ediv_nonneg (by omega) (by omega)
      have h5 : n / b ≤ n := Int.ediv_le_self _ (by omega)
      have h6 : n / b * b ≤ n := Int.ediv_mul_le n h3
      have h7 : 0 ≤ n / b * b := Int.mul_nonneg h4 (by omega)
      have hd : n < n / b * b + b := by have := Int.lt_ediv_add_one_mul_self n (show 0 < b by omega); rw [Int.add_mul] at this; omega
      by_cases h8 : n / b * b < n
      · have e : upS n b = n / b + 1 := by
          unfold upS
          rw [if_neg (by omega)]
          rw [ediv_is (n := n - 1) (q := n / b) (by omega) (by omega) (by omega)]
        have E := Lib.hid e; clear e
        have h9 : n / b * 1 ≤ n / b * b := Int.mul_le_mul_of_nonneg_left (by omega) h4
        have h10 : n / b < n := by omega
        clear h9
        go_enter Try.func16, Try.ntmps16
        go_wp2
        go_ret
        exact ⟨ret_int E.out.symm, rfl⟩
      · have e : upS n b = n / b := by
          unfold upS
          rw [if_neg (by omega), ediv_is (n := n - 1) (q := n / b - 1) (by omega) (by rw [Int.sub_mul]; omega) (by rw [Int.sub_mul]; omega)]
          omega
        have E := Lib.hid e; clear e
        go_enter Try.func16, Try.ntmps16
        go_wp2
        go_ret
        exact ⟨ret_int E.out.symm, rfl⟩

theorem i64_mk {x : Int} (h1 : -9223372036854775808 ≤ x) (h2 : x ≤ 9223372036854775807) : I64 x := ⟨h1, h2⟩
theorem row_new (w : World) (E : TypeId) : Row .i64 (w.alloc (.cells #[.int .i64 1, .int .i64 2] E)) (some ⟨w.heap.size, 0, none⟩) [1, 2] := by
  refine ⟨by decide, by decide, fun _ => ⟨_, rfl, fun j hj => ?_⟩⟩
  have : j = 0 ∨ j = 1 := by simp at hj; omega
  rcases this with rfl | rfl <;> simp [Addr.add, go_sem]
set_option maxHeartbeats 1000000 in
theorem awake_calls (w : World) : Calls Try.prog 10 #[] w fun e w' => e = .returned (.bool true) ∧ Below w.heap.size w w' := by
  go_enter Try.func10, Try.ntmps10
  go_wp2_with (first
    | (go_at_call 11; refine (add_calls _ _ _ (i64_mk (by decide) (by decide)) (i64_mk (by decide) (by decide))).mono ?_; rintro e w' ⟨rfl, rfl⟩)
    | (go_at_call 15; refine (up_calls _ _ _ (i64_mk (by decide) (by decide)) (i64_mk (by decide) (by decide))).mono ?_; rintro e w' ⟨rfl, rfl⟩)
    | (go_at_call 17; refine (rest_calls _ _ _ (i64_mk (by decide) (by decide)) (i64_mk (by decide) (by decide))).mono ?_; rintro e w' ⟨rfl, rfl⟩)
    | (go_at_call 9; refine (clamp_calls _ _ _ _).mono ?_; rintro e w' ⟨rfl, rfl⟩)
    | (go_at_call 13; refine (mul_calls _ _ _ (i64_mk (by decide) (by decide)) (i64_mk (by decide) (by decide))).mono ?_; rintro e w' ⟨rfl, rfl⟩)
    | (go_at_call 21; refine (sum_calls _ _ [1, 2] _ (row_new _ _)).mono ?_; rintro e w' ⟨rfl, rfl⟩))
  go_ret
  exact ⟨rfl, (Below.refl _ _).alloc (Nat.le_refl _) _⟩
end Go.Proofs.Ytjobnghobeekiaa.Ct
