import Derived.Test.YtjobnghobeekiaaCountC
/-! Chapter 01: the walks of the laws of numbers. -/
namespace Go.Proofs.Ytjobnghobeekiaa.Ct
open Go.RowKit
set_option linter.unusedVariables false
set_option linter.unusedSimpArgs false
theorem clampS_want (n lo hi : Int) : clampS n lo hi = if n < lo then lo else if hi < n then hi else n := rfl
set_option maxHeartbeats 1000000 in
theorem clamps_walk (n lo hi : Int) (w : World) (g1 : I64 n) (g2 : I64 lo) (g3 : I64 hi) : Calls Try.prog 3 #[.int .i64 n, .int .i64 lo, .int .i64 hi] w fun e w' => e = .returned (.bool true) ∧ Below w.heap.size w w' := by
  by_cases h1 : n < lo
  · have e : clampS n lo hi = lo := by unfold clampS; rw [if_pos h1]
    have E := Lib.hid e; clear e
    by_cases h2 : hi < n
    all_goals
      go_enter Try.func3, Try.ntmps3
      go_wp2_with (first
        | (go_at_call 9; refine (clamp_calls _ _ _ _).mono ?_; rintro e w' ⟨rfl, rfl⟩; rw [E.out])
        | (go_at_call 10; refine (awake_calls _).mono ?_; rintro e w' ⟨rfl, hb⟩))
      go_ret
      exact ⟨rfl, ‹_›⟩
  · by_cases h2 : hi < n
    · have e : clampS n lo hi = hi := by unfold clampS; rw [if_neg h1, if_pos h2]
      have E := Lib.hid e; clear e
      go_enter Try.func3, Try.ntmps3
      go_wp2_with (first
        | (go_at_call 9; refine (clamp_calls _ _ _ _).mono ?_; rintro e w' ⟨rfl, rfl⟩; rw [E.out])
        | (go_at_call 10; refine (awake_calls _).mono ?_; rintro e w' ⟨rfl, hb⟩))
      go_ret
      exact ⟨rfl, ‹_›⟩
    · have e : clampS n lo hi = n := by unfold clampS; rw [if_neg h1, if_neg h2]
      have E := Lib.hid e; clear e
      go_enter Try.func3, Try.ntmps3
      go_wp2_with (first
        | (go_at_call 9; refine (clamp_calls _ _ _ _).mono ?_; rintro e w' ⟨rfl, rfl⟩; rw [E.out])
        | (go_at_call 10; refine (awake_calls _).mono ?_; rintro e w' ⟨rfl, hb⟩))
      go_ret
      exact ⟨rfl, ‹_›⟩

theorem satAdd_comm (a b : Int) : satAdd b a = satAdd a b := by unfold satAdd; rw [Int.add_comm]
theorem satMul_comm (a b : Int) : satMul b a = satMul a b := by unfold satMul; rw [Int.mul_comm]
set_option maxHeartbeats 1000000 in
theorem adds_walk (a b : Int) (w : World) (ha : I64 a) (hb : I64 b) : Calls Try.prog 4 #[.int .i64 a, .int .i64 b] w fun e w' => e = .returned (.bool true) ∧ Below w.heap.size w w' := by
  have E := Lib.hid (satAdd_comm a b)
  go_enter Try.func4, Try.ntmps4
  go_wp2_with (first
    | (go_at_call 11; (with_reducible refine (add_calls a b _ ha hb).mono ?_); rintro e w' ⟨rfl, rfl⟩)
    | (go_at_call 11; (with_reducible refine (add_calls b a _ hb ha).mono ?_); rintro e w' ⟨rfl, rfl⟩; rw [E.out])
    | (go_at_call 12; (with_reducible refine (radd_calls a b _ ha hb).mono ?_); rintro e w' ⟨rfl, rfl⟩)
    | (go_at_call 10; refine (awake_calls _).mono ?_; rintro e w' ⟨rfl, hb⟩))
  go_ret
  exact ⟨rfl, ‹_›⟩
set_option maxHeartbeats 1000000 in
theorem muls_walk (a b : Int) (w : World) (ha : I64 a) (hb : I64 b) : Calls Try.prog 5 #[.int .i64 a, .int .i64 b] w fun e w' => e = .returned (.bool true) ∧ Below w.heap.size w w' := by
  have E := Lib.hid (satMul_comm a b)
  go_enter Try.func5, Try.ntmps5
  go_wp2_with (first
    | (go_at_call 13; (with_reducible refine (mul_calls a b _ ha hb).mono ?_); rintro e w' ⟨rfl, rfl⟩)
    | (go_at_call 13; (with_reducible refine (mul_calls b a _ hb ha).mono ?_); rintro e w' ⟨rfl, rfl⟩; rw [E.out])
    | (go_at_call 14; (with_reducible refine (rmul_calls a b _ ha hb).mono ?_); rintro e w' ⟨rfl, rfl⟩)
    | (go_at_call 10; refine (awake_calls _).mono ?_; rintro e w' ⟨rfl, hb⟩))
  go_ret
  exact ⟨rfl, ‹_›⟩

theorem upS_bd {n b : Int} (hn : I64 n) : 0 ≤ upS n b ∧ upS n b ≤ 9223372036854775807 := by
  obtain ⟨_, h2⟩ := hn
  unfold upS
  split
  · omega
  · have h4 : 0 ≤ (n - 1) / b := Int.ediv_nonneg (by omega) (by omega)
    have h5 : (n - 1) / b ≤ n - 1 := Int.ediv_le_self _ (by omega)
    omega
theorem covers_math {n b : Int} (hn : I64 n) (hb : I64 b) (h : ¬ upS n b < 1) : n ≤ satMul (upS n b) b ∧ satMul (upS n b - 1) b < n := by
  unfold I64 at hn hb
  unfold upS at h ⊢
  split at h
  · omega
  · rename_i hc
    rw [if_neg hc]
    have hb1 : 1 ≤ b := by omega
    have h0 : 0 ≤ (n - 1) / b := Int.ediv_nonneg (by omega) (by omega)
    have h6 : (n - 1) / b * b ≤ n - 1 := Int.ediv_mul_le _ (by omega)
    have h7 := Int.lt_ediv_add_one_mul_self (n - 1) (show 0 < b by omega)
    have h8 : 0 ≤ (n - 1) / b * b := Int.mul_nonneg h0 (by omega)
    unfold satMul
    rw [show (n - 1) / b + 1 - 1 = (n - 1) / b from by omega]
    generalize ((n - 1) / b + 1) * b = p at *
    generalize (n - 1) / b * b = q at *
    constructor
    · unfold sat; split; omega; split <;> omega
    · rw [sat_mid ⟨by omega, by omega⟩]; omega
set_option maxHeartbeats 1000000 in
theorem covers_walk (a b : Int) (w : World) (ha : I64 a) (hb : I64 b) : Calls Try.prog 6 #[.int .i64 a, .int .i64 b] w fun e w' => e = .returned (.bool true) ∧ Below w.heap.size w w' := by
  have hu := upS_bd (b := b) ha
  have hm := covers_math (n := a) (b := b) ha hb
  have UC := fun w => up_calls a b w ha hb
  have RC := fun w => rup_calls a b w ha hb
  generalize upS a b = u at *
  obtain ⟨u1, u2⟩ := hu
  by_cases hk : u < 1
  · clear hm
    have UC' := Lib.hid UC; clear UC
    have RC' := Lib.hid RC; clear RC
    go_enter Try.func6, Try.ntmps6
    go_wp2_with (first
      | (go_at_call 15; (with_reducible refine (UC'.out _).mono ?_); rintro e w' ⟨rfl, rfl⟩)
      | (go_at_call 16; (with_reducible refine (RC'.out _).mono ?_); rintro e w' ⟨rfl, rfl⟩)
      | (go_at_call 17; (with_reducible refine (rest_calls a b _ ha hb).mono ?_); rintro e w' ⟨rfl, rfl⟩)
      | (go_at_call 18; (with_reducible refine (rrest_calls a b _ ha hb).mono ?_); rintro e w' ⟨rfl, rfl⟩)
      | (go_at_call 10; refine (awake_calls _).mono ?_; rintro e w' ⟨rfl, hb⟩))
    go_ret
    exact ⟨rfl, ‹_›⟩
  · obtain ⟨m1, m2⟩ := hm hk
    clear hm
    have MC := Lib.hid (fun w => rmul_calls u b w ⟨by omega, by omega⟩ hb)
    have MD := Lib.hid (fun w => rmul_calls (u - 1) b w ⟨by omega, by omega⟩ hb)
    generalize satMul u b = p at *
    generalize satMul (u - 1) b = q at *
    have UC' := Lib.hid UC; clear UC
    have RC' := Lib.hid RC; clear RC
    go_enter Try.func6, Try.ntmps6
    go_wp2_with (first
      | (go_at_call 15; (with_reducible refine (UC'.out _).mono ?_); rintro e w' ⟨rfl, rfl⟩)
      | (go_at_call 16; (with_reducible refine (RC'.out _).mono ?_); rintro e w' ⟨rfl, rfl⟩)
      | (go_at_call 17; (with_reducible refine (rest_calls a b _ ha hb).mono ?_); rintro e w' ⟨rfl, rfl⟩)
      | (go_at_call 18; (with_reducible refine (rrest_calls a b _ ha hb).mono ?_); rintro e w' ⟨rfl, rfl⟩)
      | (go_at_call 14; (with_reducible refine (MC.out _).mono ?_); rintro e w' ⟨rfl, rfl⟩)
      | (go_at_call 14; (with_reducible refine (MD.out _).mono ?_); rintro e w' ⟨rfl, rfl⟩)
      | (go_at_call 10; refine (awake_calls _).mono ?_; rintro e w' ⟨rfl, hb⟩))
    go_ret
    exact ⟨rfl, ‹_›⟩

theorem mostS_facts (x : Int) (l : List Int) : l.foldl mx2 x ∈ x :: l ∧ ∀ y ∈ x :: l, y ≤ l.foldl mx2 x := by
  induction l generalizing x with
  | nil => simp
  | cons z l ih =>
    have h := ih (mx2 x z)
    simp only [List.foldl_cons]
    refine ⟨?_, ?_⟩
    · rcases List.mem_cons.1 h.1 with e | e
      · rw [e]; unfold mx2; split <;> simp
      · exact List.mem_cons_of_mem _ (List.mem_cons_of_mem _ e)
    · intro y hy
      have h0 := h.2 (mx2 x z) (List.mem_cons_self ..)
      have hx : x ≤ mx2 x z ∧ z ≤ mx2 x z := by unfold mx2; split <;> omega
      rcases List.mem_cons.1 hy with rfl | hy
      · omega
      · rcases List.mem_cons.1 hy with rfl | hy
        · omega
        · exact h.2 y (List.mem_cons_of_mem _ hy)

/-- 'found' after k of them. -/
def foundS (xs : List Int) (n : Int) (k : Nat) : Bool := (xs.take k).any (· == n)
theorem found_next {xs : List Int} {n : Int} {k : Nat} (h : k < xs.length) : foundS xs n (k + 1) = (foundS xs n k || xs.getD k 0 == n) := by
  unfold foundS; rw [take_next h, List.any_append]; simp
theorem Row.take {k : IntKind} {w : World} {a : Option Addr} {xs : List Int} (h : Row k w a xs) (n : Nat) : Row k w a (xs.take n) := by
  obtain ⟨h1, h2, h3⟩ := h
  refine ⟨by rw [List.length_take]; omega, fun x hx => h2 x (List.mem_of_mem_take hx), fun hp => ?_⟩
  rw [List.length_take] at hp
  obtain ⟨ad, e, hc⟩ := h3 (by omega)
  refine ⟨ad, e, fun j hj => ?_⟩
  rw [List.length_take] at hj
  rw [hc j (by omega)]
  simp [List.getD_eq_getElem?_getD, List.getElem?_take, show j < n by omega]
theorem Row.below {k : IntKind} {w w' : World} {a : Option Addr} {xs : List Int} (h : Row k w a xs) (hb : Below w.heap.size w w') : Row k w' a xs :=
  ⟨h.1, h.2.1, fun hp => by
    obtain ⟨ad, e, hc⟩ := h.2.2 hp
    exact ⟨ad, e, fun j hj => (hb.cell (World.block_lt_of_cell? w _ (hc j hj))).trans (hc j hj)⟩⟩
set_option maxHeartbeats 1000000 in
theorem sums_walk (a : Option Addr) (cap : Nat) (l : List Int) (w : World) (hcap : l.length ≤ cap) (hm : cap ≤ 9223372036854775807) (h : Row .i64 w a l) :
    Calls Try.prog 7 #[.slice a l.length cap] w fun e w' => e = .returned (.bool true) ∧ Below w.heap.size w w' := by
  have hx := h.take 40
  have hlen : (l.take 40).length = min l.length 40 := by rw [List.length_take, Nat.min_comm]
  have F := few_calls a l.length cap w hcap hm (fun hp => by obtain ⟨ad, e, _⟩ := h.2.2 hp; exact ⟨ad, e⟩)
  rw [← hlen] at F
  have hcap' : (l.take 40).length ≤ cap := by omega
  have FF := Lib.hid F
  clear F h hcap hlen
  generalize l.take 40 = xs at *
  have SC := Lib.hid (fun w h => sum_calls a cap xs w h)
  have RC := Lib.hid (fun w h => rsum_calls a cap xs w h)
  have HX := Lib.hid hx
  obtain ⟨h1, h2, h3⟩ := hx
  cases xs with
  | nil =>
    go_enter Try.func7, Try.ntmps7
    go_wp2_with (first
      | (go_at_call 19; (with_reducible refine (FF.out).mono ?_); rintro e w' ⟨rfl, rfl⟩)
      | (go_at_call 20; (refine (most_nil _ _ _).mono ?_); rintro e w' ⟨rfl, rfl⟩)
      | (go_at_call 21; (refine (SC.out _ HX.out).mono ?_); rintro e w' ⟨rfl, rfl⟩)
      | (go_at_call 22; (refine (RC.out _ HX.out).mono ?_); rintro e w' ⟨rfl, rfl⟩)
      | (go_at_call 10; refine (awake_calls _).mono ?_; rintro e w' ⟨rfl, hb⟩))
    go_loop [5, 6] (fun f i => f = .bool true ∧ i = .int .i64 0) (fun _ _ => 0)
    case atStart => exact ⟨rfl, rfl⟩
    case round =>
      obtain ⟨rfl, rfl⟩ := hrel
      go_wp2
      go_ret
      exact ⟨rfl, ‹_›⟩
  | cons x l =>
    have M : ∀ w : World, Row .i64 w a (x :: l) → Calls Try.prog 20 #[.slice a (l.length + 1) cap] w fun e w' => e = .returned (.tuple #[.int .i64 (mostS (x :: l)), .bool true]) ∧ w = w' := by
      intro w hr
      obtain ⟨ad, rfl, hc⟩ := hr.2.2 (by simp)
      have h0 := hc 0 (by simp)
      rw [show ad.add 0 = ad from rfl] at h0
      by_cases hl : 0 < l.length
      · exact most_some ad cap x l w hl (by simp at hcap'; omega) (by simpa using hcap') hm h0 (fun j hj => by have := hc (1 + j) (by simp; omega); rw [this]; rw [Nat.add_comm]; rfl)
      · obtain rfl : l = [] := by cases l; rfl; simp at hl
        exact most_one ad cap x w (by simpa using hcap') hm h0
    have MC := Lib.hid M; clear M
    have mf := mostS_facts x l
    have eM : mostS (x :: l) = l.foldl mx2 x := rfl
    rw [← eM] at mf
    clear eM
    obtain ⟨mf1, mf2⟩ := mf
    have MF1 := Lib.hid mf1; clear mf1
    generalize mostS (x :: l) = n at *
    have hlen : l.length + 1 ≤ 9223372036854775807 := by simp at hcap'; omega
    have hl0 : ((l.length : Int) + 1 == 0) = false := beq_eq_false_iff_ne.2 (by omega)
    have SC' := Lib.hid (show ∀ w : World, Row .i64 w a (x :: l) → Calls Try.prog 21 #[.slice a (l.length + 1) cap] w fun e w' => e = .returned (.int .i64 (sumS (x :: l))) ∧ w = w' from SC.out)
    have RC' := Lib.hid (show ∀ w : World, Row .i64 w a (x :: l) → Calls Try.prog 22 #[.slice a (l.length + 1) cap] w fun e w' => e = .returned (.int .i64 (sumS (x :: l))) ∧ w = w' from RC.out)
    have FF' := Lib.hid (show Calls Try.prog 19 _ w fun e w' => e = .returned (.slice a (l.length + 1) cap) ∧ w = w' from FF.out)
    clear SC RC FF hcap'
    have H3 := Lib.hid h3; clear h3 h1 h2
    have MF2 := Lib.hid mf2; clear mf2
    go_enter Try.func7, Try.ntmps7
    go_wp2_with (first
      | (go_at_call 19; (with_reducible refine (FF'.out).mono ?_); rintro e w' ⟨rfl, rfl⟩)
      | (go_at_call 20; (refine (MC.out _ HX.out).mono ?_); rintro e w' ⟨rfl, rfl⟩)
      | (go_at_call 21; (refine (SC'.out _ HX.out).mono ?_); rintro e w' ⟨rfl, rfl⟩)
      | (go_at_call 22; (refine (RC'.out _ HX.out).mono ?_); rintro e w' ⟨rfl, rfl⟩)
      | (go_at_call 10; refine (awake_calls _).mono ?_; rintro e w' ⟨rfl, hb⟩))
    have HR := (HX.out).below hb
    clear MC SC' RC' FF' H3 hl0
    obtain ⟨ad, rfl, hcl⟩ := HR.2.2 (by simp)
    have HC := Lib.hid hcl; clear hcl HR
    go_loop [5, 6] (fun f i => ∃ k : Nat, k ≤ l.length + 1 ∧ f = .bool (foundS (x :: l) n k) ∧ i = .int .i64 k) (fun _ i => l.length + 1 - (intOf i).toNat)
    case atStart => exact ⟨0, by omega, rfl, rfl⟩
    case round =>
      obtain ⟨k, hk, rfl, rfl⟩ := hrel
      by_cases hlt : k < l.length + 1
      · have hv := HC.out k (by simpa using hlt)
        have hmx := MF2.out _ (getD_mem (xs := x :: l) (j := k) (by simpa using hlt))
        have FN := Lib.hid (found_next (xs := x :: l) (n := n) (k := k) (by simpa using hlt))
        generalize (x :: l).getD k 0 = v at *
        generalize hf : foundS (x :: l) n k = f at *
        have HF := Lib.hid hf; clear hf
        cases f
        · by_cases hvn : v = n
          · subst hvn
            go_wp2
            go_round
            case rel => exact ⟨k + 1, by omega, by rw [FN.out]; simp, by go_num⟩
            case measure => simp [intOf]; omega
          · have hb1 : (v == n) = false := beq_eq_false_iff_ne.2 hvn
            clear hvn
            go_wp2
            go_round
            case rel => exact ⟨k + 1, by omega, by rw [FN.out, hb1]; rfl, by go_num⟩
            case measure => simp [intOf]; omega
        · go_wp2
          go_round
          case rel => exact ⟨k + 1, by omega, by rw [FN.out]; rfl, by go_num⟩
          case measure => simp [intOf]; omega
      · obtain rfl : k = l.length + 1 := by omega
        have hf : foundS (x :: l) n (l.length + 1) = true := by
          unfold foundS
          rw [show l.length + 1 = (x :: l).length from rfl, List.take_length, List.any_eq_true]
          exact ⟨n, MF1.out, by simp⟩
        rw [hf]
        clear hf
        go_wp2
        go_ret
        exact ⟨rfl, ‹_›⟩

theorem row_nil (k : IntKind) (w : World) : Row k w none [] := ⟨by decide, by simp, fun h => by simp at h⟩
theorem row_some {k : IntKind} {w : World} {a : Addr} {len cap : Nat} {zs : List Int} (hl : len ≤ cap) (hm : cap ≤ maxLen) (hz : zs.length = cap)
    (hc : ∀ i, i < zs.length → w.cell? (a.add i) = some (.int k (zs.getD i 0))) (hw : ∀ n ∈ zs, (Lit.int k n).wf = true) :
    ∃ xs : List Int, len = xs.length ∧ xs.length ≤ cap ∧ cap ≤ 9223372036854775807 ∧ Row k w (some a) xs := by
  have hr : Row k w (some a) zs := ⟨by omega, hw, fun _ => ⟨a, rfl, hc⟩⟩
  have e : (zs.take len).length = len := by rw [List.length_take]; omega
  exact ⟨zs.take len, e.symm, by omega, by unfold maxLen at hm; omega, hr.take len⟩
end Go.Proofs.Ytjobnghobeekiaa.Ct
