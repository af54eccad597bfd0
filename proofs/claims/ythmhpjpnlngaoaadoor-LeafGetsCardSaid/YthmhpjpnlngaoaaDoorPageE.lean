import Derived.Test.YthmhpjpnlngaoaaDoorPageD
/-! Pages: the reference's Put. -/
namespace Go.Proofs.YthmhpjpnlngaoaaDoor.Ct
open Go.RowKit
set_option linter.unusedVariables false
set_option linter.unusedSimpArgs false
theorem rowS_three {w : World} {E : TypeId} {a b c : Option Addr} {cap cap' cap'' : Nat} {xs ys zs : List Int} (h : Row .u8 w a xs) (h' : Row .u8 w b ys) (h'' : Row .u8 w c zs) :
    RowS (w.alloc (.cells #[.slice a xs.length cap, .slice b ys.length cap', .slice c zs.length cap''] E)) (some ⟨w.heap.size, 0, none⟩) [xs, ys, zs] := by
  refine ⟨by show 3 ≤ maxLen; decide, fun _ => ⟨_, rfl, fun j hj => ?_⟩⟩
  have : j = 0 ∨ j = 1 ∨ j = 2 := by simp at hj; omega
  rcases this with rfl | rfl | rfl
  · exact ⟨a, cap, by simp [Addr.add, go_sem], h.below ((Below.refl _ _).alloc (Nat.le_refl _) _)⟩
  · exact ⟨b, cap', by simp [Addr.add, go_sem], h'.below ((Below.refl _ _).alloc (Nat.le_refl _) _)⟩
  · exact ⟨c, cap'', by simp [Addr.add, go_sem], h''.below ((Below.refl _ _).alloc (Nat.le_refl _) _)⟩
set_option maxHeartbeats 4000000 in
theorem rput_ok (k : Int) (a : Option Addr) (cap : Nat) (xs : List Int) (w : World) (hk : 1 ≤ k ∧ k ≤ 7) (h : Row .u8 w a xs) (hl : xs.length ≤ 58) :
    Calls Tryd.prog 27 #[.int .i64 k, .slice a xs.length cap] w fun e w' => ∃ v, e = .returned (.tuple #[v, .int .i64 0]) ∧ Own .u8 5 w' w.heap.size v (sealS (pageS k xs)) ∧ Below w.heap.size w w' := by
  obtain ⟨k0, k1⟩ := hk
  have RC := Lib.hid (fun w => rright_calls k w ⟨by omega, by omega⟩)
  rw [show rightS k = true from decide_eq_true ⟨k0, k1⟩] at RC
  obtain ⟨n, hn⟩ : ∃ n, 58 - xs.length = n := ⟨_, rfl⟩
  have hn8 : n ≤ 58 := by omega
  have hni : (58 : Int) - (xs.length : Int) = (n : Int) := by omega
  -- the first literal, the zeros, the three
  have hA : Row .u8 (w.alloc (.cells #[.int .u8 213, .int .u8 k] 5)) (some ⟨w.heap.size, 0, none⟩) [213, k] := row_lit _ _ [213, k] (by simp) (by intro x hx; simp at hx; rcases hx with rfl | rfl <;> exact u8_wf (by omega) (by omega))
  have hX := h.below ((Below.refl w.heap.size w).alloc (Nat.le_refl _) (.cells #[.int .u8 213, .int .u8 k] 5))
  have hb1 := (Below.refl w.heap.size w).alloc (Nat.le_refl _) (.cells #[.int .u8 213, .int .u8 k] 5)
  have hsz : (w.alloc (.cells #[.int .u8 213, .int .u8 k] 5)).heap.size = w.heap.size + 1 := by simp
  have hmk := run_mk8 n (by omega) (w.alloc (.cells #[.int .u8 213, .int .u8 k] 5))
  have hZ : Row .u8 ((w.alloc (.cells #[.int .u8 213, .int .u8 k] 5)).alloc (.cells (nums .u8 (List.replicate n 0)).toArray 5)) (some ⟨(w.alloc (.cells #[.int .u8 213, .int .u8 k] 5)).heap.size, 0, none⟩) (List.replicate n 0) := row_lit _ _ _ (by simp; omega) (zeros_wf _)
  have hst := (Below.refl _ (w.alloc (.cells #[.int .u8 213, .int .u8 k] 5))).alloc (Nat.le_refl _) (.cells (nums .u8 (List.replicate n 0)).toArray 5)
  have hA2 := hA.below hst
  have hX2 := hX.below hst
  have hb2 := below_step hb1 hst
  have hsz2 : ((w.alloc (.cells #[.int .u8 213, .int .u8 k] 5)).alloc (.cells (nums .u8 (List.replicate n 0)).toArray 5)).heap.size = w.heap.size + 2 := by simp
  rw [hsz] at hmk hZ
  generalize (w.alloc (.cells #[.int .u8 213, .int .u8 k] 5)).alloc (.cells (nums .u8 (List.replicate n 0)).toArray 5) = w2 at *
  have jc := join_calls (some ⟨w2.heap.size, 0, none⟩) 3 [[213, k], xs, List.replicate n 0] _ (rowS_three (E := 27) (cap := 2) (cap' := cap) (cap'' := n) hA2 hX2 hZ) (by simp; omega)
  have hj : [[213, k], xs, List.replicate n 0].flatten = pageS k xs := by unfold pageS; rw [hn]; simp
  rw [hj] at jc
  simp only [List.length_cons, List.length_nil, List.length_replicate, Nat.zero_add, Nat.reduceAdd] at jc
  rw [hsz2] at jc
  have HB3 := Lib.hid (below_step hb2 ((Below.refl _ w2).alloc (Nat.le_refl _) (.cells #[.slice (some ⟨w.heap.size, 0, none⟩) 2 2, .slice a xs.length cap, .slice (some ⟨w.heap.size + 1, 0, none⟩) n n] 27)))
  have JC := Lib.hid jc
  have HPL := Lib.hid (pageS_len (k := k) hl)
  clear hA hX hst hA2 hX2 hZ hb1 hb2 h hj jc
  go_enter Tryd.func27, Tryd.ntmps27
  go_wp2_with (first
    | (go_at_call 47; (with_reducible refine (RC.out _).mono ?_); rintro e w' ⟨rfl, rfl⟩)
    | (go_at_call 28; (with_reducible refine (JC.out).mono ?_); rintro e w4 ⟨v, rfl, ho, hb⟩; obtain ⟨va, vc, rfl, -, -, hr, -, -⟩ := ho.form; have HB4 := Lib.hid (below_step HB3.out hb); have SC := Lib.hid (rseal_calls va vc (pageS k xs) w4 hr (by rw [HPL.out]; decide)); clear ho hb hr)
    | (go_at_call 48; (with_reducible refine (SC.out).mono ?_); rintro e w5 ⟨v, rfl, ho, hb⟩; have HO5 := Lib.hid (ho.mono HB4.out.size); have HB5 := Lib.hid (below_step HB4.out hb); clear ho hb))
  go_ret2
  exact ⟨_, rfl, HO5.out, HB5.out⟩
set_option maxHeartbeats 4000000 in
theorem rput_bad (k : Int) (a : Option Addr) (cap : Nat) (xs : List Int) (w : World) (hk : I64 k) (hm : xs.length ≤ 9223372036854775807) (hb : ¬ (1 ≤ k ∧ k ≤ 7)) :
    Calls Tryd.prog 27 #[.int .i64 k, .slice a xs.length cap] w fun e w' => e = .returned (.tuple #[.slice none 0 0, .int .i64 1]) ∧ w = w' := by
  have RC := Lib.hid (fun w => rright_calls k w hk)
  rw [show rightS k = false from decide_eq_false hb] at RC
  clear hb hk
  go_enter Tryd.func27, Tryd.ntmps27
  go_wp2_with (go_at_call 47; (with_reducible refine (RC.out _).mono ?_); rintro e w' ⟨rfl, rfl⟩)
  go_ret2
  exact ⟨rfl, rfl⟩
set_option maxHeartbeats 4000000 in
theorem rput_long (k : Int) (a : Option Addr) (cap : Nat) (xs : List Int) (w : World) (hk : 1 ≤ k ∧ k ≤ 7) (hm : xs.length ≤ 9223372036854775807) (hl : 58 < xs.length) :
    Calls Tryd.prog 27 #[.int .i64 k, .slice a xs.length cap] w fun e w' => e = .returned (.tuple #[.slice none 0 0, .int .i64 7]) ∧ w = w' := by
  have RC := Lib.hid (fun w => rright_calls k w ⟨by omega, by omega⟩)
  rw [show rightS k = true from decide_eq_true hk] at RC
  go_enter Tryd.func27, Tryd.ntmps27
  go_wp2_with (go_at_call 47; (with_reducible refine (RC.out _).mono ?_); rintro e w' ⟨rfl, rfl⟩)
  go_ret2
  exact ⟨rfl, rfl⟩
theorem rput_calls (k : Int) (a : Option Addr) (cap : Nat) (xs : List Int) (w : World) (hk : I64 k) (h : Row .u8 w a xs) :
    Calls Tryd.prog 27 #[.int .i64 k, .slice a xs.length cap] w fun e w' => PutS w w' k xs e := by
  have hm := h.len
  unfold PutS putP
  by_cases h1 : 1 ≤ k ∧ k ≤ 7
  · rw [if_pos h1]
    by_cases h2 : 58 < xs.length
    · rw [if_pos h2]
      refine (rput_long k a cap xs w h1 hm h2).mono ?_
      rintro e w' ⟨rfl, rfl⟩
      exact ⟨_, rfl, own_nil _ _ _ _, Below.refl _ _⟩
    · rw [if_neg h2]
      exact rput_ok k a cap xs w h1 h (by omega)
  · rw [if_neg h1]
    refine (rput_bad k a cap xs w hk hm h1).mono ?_
    rintro e w' ⟨rfl, rfl⟩
    exact ⟨_, rfl, own_nil _ _ _ _, Below.refl _ _⟩
end Go.Proofs.YthmhpjpnlngaoaaDoor.Ct
