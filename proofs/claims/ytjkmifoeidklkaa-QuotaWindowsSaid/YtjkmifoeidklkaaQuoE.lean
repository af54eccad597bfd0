import Derived.Test.YtjkmifoeidklkaaQuoD
/-! The reference's Tick; budgets that nobody made; the page's example; the plain law. -/
namespace Go.Proofs.Ytjkmifoeidklkaa.Ct
open Go.RowKit
set_option linter.unusedVariables false
set_option linter.unusedSimpArgs false
set_option maxHeartbeats 2000000 in
theorem rtick_calls (base r : Nat) (W m now n : Int) (L : List (Int × Int)) (w : World) (h : RB base w r W m now L) (h0 : 0 ≤ now) (h1 : now ≤ 9223372036854775807) (hn : I64 n) :
    Calls Try.prog 11 #[.pointer (some ⟨r, 0, none⟩), .int .i64 n] w fun e w' => e = .returned (.int .i64 (satAdd now (max n 0))) ∧ RB base w' r W m (satAdd now (max n 0)) L ∧ Fr base mineR w w' := by
  have hb0 := h.1
  obtain ⟨_, sv, hbk, hsl⟩ := h
  have hmx : I64 (max n 0) := by unfold I64 at *; omega
  have AC := Lib.hid (fun w => radd_calls now (max n 0) w (by unfold I64; omega) hmx)
  have mx := fun ts t w => max_run (P := Try.prog) n 0 ts t w
  obtain ⟨x, hx⟩ : ∃ x, max n 0 = x := ⟨_, rfl⟩
  rw [hx] at AC mx ⊢
  clear hx hmx
  obtain ⟨t, ht⟩ : ∃ t, satAdd now x = t := ⟨_, rfl⟩
  rw [ht] at AC ⊢
  clear ht
  have HB1 : Hid (RB base (w.setCell ⟨r, 2, none⟩ (.int .i64 t)) r W m t L) := Lib.hid ⟨hb0, sv, hbk.set_ 2 _, hsl.far hbk (by decide) 2 _⟩
  have HF1 : Hid (Fr base mineR w (w.setCell ⟨r, 2, none⟩ (.int .i64 t))) := Lib.hid ((Fr.refl _ _ _).set_ hbk (mineR_b _) hb0 2 _)
  have c2 := hbk.cell 2
  have f2 := hbk.frozen 2
  clear hbk hsl
  go_enter Try.func11, Try.ntmps11
  go_wp2_with (first | (go_at_call 20; (with_reducible refine (AC.out _).mono ?_); rintro e w' ⟨rfl, rfl⟩))
  go_ret
  exact ⟨rfl, HB1.out, HF1.out⟩
/-! ### nobody's -/
theorem spend_nil (n : Int) (w : World) : Calls Try.prog 8 #[.pointer none, .int .i64 n] w fun e w' => e = .returned (.bool false) ∧ ∃ k, w.drewN k = w' := by
  have RC := Lib.hid (fun k => real_nil (w.drewN k))
  go_enter Try.func8, Try.ntmps8
  go_wp2
  go_quiet ((go_at_call 17; with_reducible exact Calls.quiet_of_same ((RC.out _).mono fun e w' ⟨h1, h2⟩ => ⟨h1, h2.symm⟩)))
  go_wp2
  go_ret
  exact ⟨rfl, _, rfl⟩
theorem spend_odd (b : Nat) (n : Int) (w : World) (h : w.cell? ⟨b, 0, none⟩ = some (.int .i64 0)) : Calls Try.prog 8 #[.pointer (some ⟨b, 0, none⟩), .int .i64 n] w fun e w' => e = .returned (.bool false) ∧ ∃ k, w.drewN k = w' := by
  have RC := Lib.hid (fun k => real_odd b (w.drewN k) h)
  go_enter Try.func8, Try.ntmps8
  go_wp2
  go_quiet ((go_at_call 17; with_reducible exact Calls.quiet_of_same ((RC.out _).mono fun e w' ⟨h1, h2⟩ => ⟨h1, h2.symm⟩)))
  go_wp2
  go_ret
  exact ⟨rfl, _, rfl⟩
theorem tick_nil (n : Int) (w : World) : Calls Try.prog 10 #[.pointer none, .int .i64 n] w fun e w' => e = .returned (.int .i64 0) ∧ w = w' := by
  have RC := Lib.hid (real_nil w)
  go_enter Try.func10, Try.ntmps10
  go_wp2_with (go_at_call 17; (with_reducible refine (RC.out).mono ?_); rintro e w' ⟨rfl, rfl⟩)
  go_ret
  exact ⟨rfl, rfl⟩
theorem tick_odd (b : Nat) (n : Int) (w : World) (h : w.cell? ⟨b, 0, none⟩ = some (.int .i64 0)) : Calls Try.prog 10 #[.pointer (some ⟨b, 0, none⟩), .int .i64 n] w fun e w' => e = .returned (.int .i64 0) ∧ w = w' := by
  have RC := Lib.hid (real_odd b w h)
  go_enter Try.func10, Try.ntmps10
  go_wp2_with (go_at_call 17; (with_reducible refine (RC.out).mono ?_); rintro e w' ⟨rfl, rfl⟩)
  go_ret
  exact ⟨rfl, rfl⟩
theorem used_nil (w : World) : Calls Try.prog 12 #[.pointer none] w fun e w' => e = .returned (.int .i64 0) ∧ w = w' := by
  have RC := Lib.hid (real_nil w)
  go_enter Try.func12, Try.ntmps12
  go_wp2_with (go_at_call 17; (with_reducible refine (RC.out).mono ?_); rintro e w' ⟨rfl, rfl⟩)
  go_ret
  exact ⟨rfl, rfl⟩
theorem now_nil (w : World) : Calls Try.prog 15 #[.pointer none] w fun e w' => e = .returned (.int .i64 0) ∧ w = w' := by
  have RC := Lib.hid (real_nil w)
  go_enter Try.func15, Try.ntmps15
  go_wp2_with (go_at_call 17; (with_reducible refine (RC.out).mono ?_); rintro e w' ⟨rfl, rfl⟩)
  go_ret
  exact ⟨rfl, rfl⟩
theorem left_odd (b : Nat) (w : World) (h : w.cell? ⟨b, 0, none⟩ = some (.int .i64 0)) : Calls Try.prog 14 #[.pointer (some ⟨b, 0, none⟩)] w fun e w' => e = .returned (.int .i64 0) ∧ w = w' := by
  have RC := Lib.hid (real_odd b w h)
  go_enter Try.func14, Try.ntmps14
  go_wp2_with (go_at_call 17; (with_reducible refine (RC.out).mono ?_); rintro e w' ⟨rfl, rfl⟩)
  go_ret
  exact ⟨rfl, rfl⟩
/-! ### the page's example -/
theorem inv_new {W m : Int} (h1 : 1 ≤ W) (h2 : W ≤ 4096) (h3 : 0 ≤ m) (h4 : m ≤ 1048576) : Inv W m 0 0 [] := ⟨h1, h2, by omega, h3, h4, by omega, by omega, rfl, by simp⟩
set_option maxHeartbeats 4000000 in
theorem awake_calls (w : World) : Calls Try.prog 16 #[] w fun e w' => e = .returned (.bool true) ∧ Below w.heap.size w w' := by
  have NC := Lib.hid (new_ok 3 10 w (by decide) (by decide) (by decide) (by decide))
  have P0 := Lib.hid (pb_new (w := w) (W := 3) (m := 10))
  have F0 := Lib.hid (Fr.of_below (base := w.heap.size) (mine := mineP) (below_alloc (Below.refl w.heap.size w) (.cells #[.int .i64 3, .int .i64 10, .int .i64 0, .int .i64 0, .slice none 0 0] 42)))
  have e1 : addS [] 0 7 = [(7, 0)] := by decide
  have e2 : (settS 3 (satAdd 0 (max 2 0)) (0 + 7) [(7, 0)]) = (7, [(7, 0)]) := by decide
  have e3 : addS [(7, 0)] 2 3 = [(7, 0), (3, 2)] := by decide
  have e4 : (settS 3 (satAdd 2 (max 1 0)) (7 + 3) [(7, 0), (3, 2)]) = (3, [(3, 2)]) := by decide
  have e5 : satAdd 0 (max 2 0) = 2 := by decide
  have e6 : satAdd 2 (max 1 0) = 3 := by decide
  have E1 := Lib.hid e1; have E2 := Lib.hid e2; have E3 := Lib.hid e3; have E4 := Lib.hid e4; have E5 := Lib.hid e5; have E6 := Lib.hid e6
  clear e1 e2 e3 e4 e5 e6
  go_enter Try.func16, Try.ntmps16
  go_upto_region 2 with (go_at_call 7; (with_reducible refine (NC.out).mono ?_); rintro e w' ⟨rfl, rfl⟩)
  generalize w.alloc (.cells #[.int .i64 3, .int .i64 10, .int .i64 0, .int .i64 0, .slice none 0 0] 42) = w0 at *
  generalize hb : w.heap.size = b at *
  have HB := Lib.hid hb; clear hb
  have HZ := Lib.hid (show b ≤ w0.heap.size by have := F0.out.size; have := HB.out; omega)
  go_wp2_with fail
  refine (spend_yes b b 3 10 0 0 7 [] w0 P0.out (by decide) (by decide) (by decide) (by decide) (by decide) (by decide) (by decide) ⟨by decide, by decide⟩ HZ.out (fun h => absurd rfl h)).mono ?_
  rintro e w1 ⟨rfl, hp, hf⟩
  rw [E1.out] at hp
  have P1 := Lib.hid hp; have F1 := Lib.hid (F0.out.trans hf); clear hp hf
  go_wp2_with fail
  refine (tick_calls b b 3 10 0 (0 + 7) 2 [(7, 0)] w1 P1.out ⟨by decide, by decide, by decide, by decide, by decide, by decide, by decide, by decide, by decide⟩ (by decide) ⟨by decide, by decide⟩).mono ?_
  rintro e w2 ⟨rfl, hp, hf⟩
  rw [E2.out, E5.out] at hp
  rw [E5.out]
  have P2 := Lib.hid hp; have F2 := Lib.hid (F1.out.trans hf); clear hp hf
  go_wp2_with fail
  refine (spend_no b b 3 10 2 7 4 [(7, 0)] w2 P2.out (by decide) (by decide) (by decide) (by decide) ⟨by decide, by decide⟩ (by decide)).mono ?_
  rintro e w3 ⟨rfl, k, rfl⟩
  go_wp2_with fail
  refine (spend_yes b b 3 10 2 7 3 [(7, 0)] (w2.drewN k) (P2.out.drewN k) (by decide) (by decide) (by decide) (by decide) (by decide) (by decide) (by decide) ⟨by decide, by decide⟩ (show b ≤ w2.heap.size by have := F2.out.size; have := HB.out; omega) (fun _ => by decide)).mono ?_
  rintro e w4 ⟨rfl, hp, hf⟩
  rw [E3.out] at hp
  have P4 := Lib.hid hp; have F4 := Lib.hid ((Fr.drewN F2.out k).trans hf); clear hp hf
  go_wp2_with fail
  refine (tick_calls b b 3 10 2 (7 + 3) 1 [(7, 0), (3, 2)] w4 P4.out ⟨by decide, by decide, by decide, by decide, by decide, by decide, by decide, by decide, by decide⟩ (by decide) ⟨by decide, by decide⟩).mono ?_
  rintro e w5 ⟨rfl, hp, hf⟩
  rw [E4.out, E6.out] at hp
  rw [E6.out]
  have P5 := Lib.hid hp; have F5 := Lib.hid (F4.out.trans hf); clear hp hf
  go_wp2_with fail
  refine (left_calls b b 3 10 3 3 [(3, 2)] w5 P5.out (by decide) (by decide) (by decide) (by decide)).mono ?_
  rintro e w6 ⟨rfl, j, rfl⟩
  go_wp2
  go_ret
  exact ⟨rfl, by rw [HB.out]; exact (Fr.drewN F5.out j).to_below (by rw [HB.out]; exact Nat.le_refl _)⟩
end Go.Proofs.Ytjkmifoeidklkaa.Ct
