import Derived.Test.YtjjhfllpbicclaaGhH
import Derived.Test.YtjjhfllpbicclaaGhQ
/-! A history that holds a row: contracts; the page's example. -/
namespace Go.Proofs.Ytjjhfllpbicclaa.Ct
open Go.RowKit
set_option linter.unusedVariables false
set_option linter.unusedSimpArgs false
/-- a history that holds a row of keys; c: how many were put at most. -/
def GH (base : Nat) (w : World) (h g : Nat) (most : Int) (row : List Int) (c : Nat) : Prop :=
  ∃ sv M L now, His base w h g sv M L now most ∧ HRow most M L now row ∧ (∀ p ∈ L, U64 p.1) ∧ now ≤ c
theorem GH.below {base : Nat} {w w' : World} {h g : Nat} {most : Int} {row : List Int} {c : Nat} (a : GH base w h g most row c) (hb : Below w.heap.size w w') : GH base w' h g most row c := by
  obtain ⟨sv, M, L, now, h1, h2⟩ := a
  exact ⟨sv, M, L, now, h1.below hb, h2⟩
theorem GH.drew {base : Nat} {w : World} {h g : Nat} {most : Int} {row : List Int} {c : Nat} (a : GH base w h g most row c) : GH base w.drew h g most row c := a
theorem GH.drewN {base : Nat} {w : World} {h g : Nat} {most : Int} {row : List Int} {c : Nat} (a : GH base w h g most row c) (n : Nat) : GH base (w.drewN n) h g most row c := a
theorem GH.len {base : Nat} {w : World} {h g : Nat} {most : Int} {row : List Int} {c : Nat} (a : GH base w h g most row c) : (row.length : Int) ≤ most := by
  obtain ⟨sv, M, L, now, h1, h2, -⟩ := a
  rw [← h2.length]; exact h2.len
theorem Own.frx {k : IntKind} {E : TypeId} {w w' : World} {base b : Nat} {v : Value} {xs : List Int} {mine : Obj → Bool} (h : Own k E w base v xs) (hf : Fr b mine w w') (hm : ∀ cs, mine (.cells cs E (0, 0)) = false) : Own k E w' base v xs := by
  refine ⟨⟨h.1.1, ?_⟩, h.2⟩
  rcases h.1.2 with h1 | ⟨g, cap, cur, e, hb, hh, r⟩
  · exact .inl h1
  · have hbl : Blk w g E cur := hh
    exact .inr ⟨g, cap, cur, e, hb, hbl.fr hf (hm _), r⟩
theorem mineH_u : ∀ cs, mineH (.cells cs 28 (0, 0)) = false := fun _ => rfl
theorem row_litN {k : IntKind} {w : World} (E : TypeId) (xs : List Int) (hm : xs.length ≤ 9223372036854775807) (hw : ∀ x ∈ xs, (Lit.int k x).wf = true) : Row k (w.alloc (.cells (nums k xs).toArray E)) (some ⟨w.heap.size, 0, none⟩) xs := by
  obtain ⟨a, cap, e, -, -, r, -⟩ := (own_lit (k := k) (E := E) (w := w) xs (Nat.le_refl _) hm hw).form
  injection e with e1 e2 e3
  subst e1
  exact r
set_option maxHeartbeats 4000000 in
theorem gclear_fr (base h g : Nat) (sv : Value) (M L : List KV) (now most : Int) (w : World) (a : His base w h g sv M L now most) :
    Calls Try.prog 14 #[.pointer (some ⟨h, 0, none⟩)] w fun e w' => e = .returned (.tuple #[]) ∧ His base w' h g (.slice none 0 0) [] [] now most ∧ Fr base mineH w w' := by
  obtain ⟨b1, b2, hk, hm, hs⟩ := a
  have RC := Lib.hid (real_calls h g w (hk.cell 0))
  have c0 := hk.cell 0
  obtain ⟨w1, hrun, hm1, ht⟩ := run_clrU (P := Try.prog) (ty := 41) Try.underlying41 hm
  have hrun2 : ∀ ty, (Builtin.clear_ #[41] ty #[.map (some g)]).run Try.prog w = .ok (.tuple #[]) w1 := fun _ => hrun
  have hne : h ≠ g := blk_ne_map hk hm
  have hk1 := ht.blk hk hne
  have f1 := hk1.frozen 1
  have c1 := hk1.cell 1
  have HM := Lib.hid hm1
  have HK := Lib.hid hk1
  have HF := Lib.hid ((Fr.refl base mineH w).mapTo hm ht b2)
  clear hm hs hk hm1 hk1 ht hrun
  go_enter Try.func14, Try.ntmps14
  go_wp2_with (go_at_call 18; (with_reducible refine (RC.out).mono ?_); rintro e w' ⟨rfl, rfl⟩)
  refine bodyPost_end (results_none rfl _ _ _) rfl ?_
  exact ⟨rfl, ⟨b1, b2, HK.out.set_ 1 _, HM.out.far (p := ⟨h, 1, none⟩) (fun e => hne e.symm) _, SL.nil _ _ _ _⟩, HF.out.set_ HK.out (mineH_h _) b1 1 _⟩
theorem gh_new (most : Int) (w : World) (h0 : 0 ≤ most) (h1 : most ≤ 1024) : Calls Try.prog 6 #[.int .i64 most] w fun e w' => e = .returned (.tuple #[.pointer (some ⟨w.heap.size + 1, 0, none⟩), .int .i64 0]) ∧ GH w.heap.size w' (w.heap.size + 1) w.heap.size most [] 0 ∧ Below w.heap.size w w' :=
  (gnew_ok most w h0 h1).mono fun e w' ⟨e1, e2, e3⟩ => ⟨e1, ⟨_, _, _, _, e2, hrow_new h0, by simp, by simp⟩, e3⟩
theorem gh_put (base h g : Nat) (most k : Int) (row : List Int) (c : Nat) (w : World) (a : GH base w h g most row c) (hk : U64 k) (hc : c ≤ 1000000) (hm : most ≤ 1024) (hbase : base ≤ w.heap.size) :
    Calls Try.prog 7 #[.pointer (some ⟨h, 0, none⟩), .int .u64 k] w fun e w' => e = .returned (.bool (decide (k ∈ putR row k most))) ∧ GH base w' h g most (putR row k most) (c + 1) ∧ Fr base mineH w w' := by
  obtain ⟨sv, M, L, now, h1, h2, h3, h4⟩ := a
  have hp := h2.put k
  have h5 := h2.len
  have h6 := h2.many
  refine (gput_calls base h g sv M L now most k w h1 (by omega) (by omega) h2.n0 (by omega) hbase).mono fun e w' ⟨e1, e2, sv', e3⟩ => ⟨?_, ⟨sv', _, _, _, e3, hp, fun p hp => ?_, by omega⟩, e2⟩
  · rw [e1, hp.has]
  · rcases List.mem_append.1 (settS_sub _ _ _ p hp) with hp | hp
    · exact h3 p hp
    · simp only [List.mem_singleton] at hp; subst hp; exact hk
theorem gh_take (base h g : Nat) (most k : Int) (row : List Int) (c : Nat) (w : World) (a : GH base w h g most row c) (hm : most ≤ 1024) (hbase : base ≤ w.heap.size) :
    Calls Try.prog 12 #[.pointer (some ⟨h, 0, none⟩), .int .u64 k] w fun e w' => e = .returned (.bool (decide (k ∈ row))) ∧ GH base w' h g most (remS row k) c ∧ Fr base mineH w w' := by
  obtain ⟨sv, M, L, now, h1, h2, h3, h4⟩ := a
  have hp := h2.take k
  have h5 := h2.len
  have h6 := h2.many
  refine (gtake_calls base h g sv M L now most k w h1 (by omega) (by omega) hbase).mono fun e w' ⟨e1, e2, e3⟩ => ⟨?_, ?_, e2⟩
  · rw [e1, h2.has]
  · rcases e3 with ⟨-, sv', e4⟩ | ⟨e4, rfl⟩
    · exact ⟨sv', _, _, _, e4, hp, fun p hp => h3 p (settS_sub _ _ _ p hp), h4⟩
    · rw [h2.has] at e4
      rw [remS_none (of_decide_eq_false e4)]
      exact ⟨sv, M, L, now, h1, h2, h3, h4⟩
theorem gh_clear (base h g : Nat) (most : Int) (row : List Int) (c : Nat) (w : World) (a : GH base w h g most row c) :
    Calls Try.prog 14 #[.pointer (some ⟨h, 0, none⟩)] w fun e w' => e = .returned (.tuple #[]) ∧ GH base w' h g most [] c ∧ Fr base mineH w w' := by
  obtain ⟨sv, M, L, now, h1, h2, h3, h4⟩ := a
  exact (gclear_fr base h g sv M L now most w h1).mono fun e w' ⟨e1, e2, e3⟩ => ⟨e1, ⟨_, _, _, _, e2, h2.clear, by simp, h4⟩, e3⟩
theorem gh_all (base h g : Nat) (most : Int) (row : List Int) (c : Nat) (w : World) (a : GH base w h g most row c) (hm : most ≤ 1024) :
    Calls Try.prog 9 #[.pointer (some ⟨h, 0, none⟩)] w fun e w' => ∃ v, e = .returned v ∧ Own .u64 28 w' w.heap.size v row ∧ Below w.heap.size w w' := by
  obtain ⟨sv, M, L, now, h1, h2, h3, h4⟩ := a
  have h5 := h2.len
  have h6 := h2.many
  have := gall_calls base h g sv M L now most w h1 (by omega) h3
  rw [h2.row] at this
  exact this
theorem gh_len (base h g : Nat) (most : Int) (row : List Int) (c : Nat) (w : World) (a : GH base w h g most row c) :
    Calls Try.prog 16 #[.pointer (some ⟨h, 0, none⟩)] w fun e w' => e = .returned (.int .i64 row.length) ∧ w = w' := by
  obtain ⟨sv, M, L, now, h1, h2, h3, h4⟩ := a
  have := glen_calls h g M w h1.cells.1 h1.map
  rw [h2.length] at this
  exact this
theorem gh_has (base h g : Nat) (most : Int) (row : List Int) (c : Nat) (k : Int) (w : World) (a : GH base w h g most row c) :
    Calls Try.prog 17 #[.pointer (some ⟨h, 0, none⟩), .int .u64 k] w fun e w' => e = .returned (.bool (decide (k ∈ row))) ∧ w = w' := by
  obtain ⟨sv, M, L, now, h1, h2, h3, h4⟩ := a
  have := ghas_calls h g M k w h1.cells.1 h1.map
  rw [h2.has] at this
  exact this
set_option maxHeartbeats 4000000 in
theorem awake23_calls (w : World) : Calls Try.prog 10 #[] w fun e w' => e = .returned (.bool true) ∧ Below w.heap.size w w' := by
  have NC := Lib.hid (gh_new 2 w (by decide) (by decide))
  have HZ := Lib.hid (rfl : w.heap.size = w.heap.size)
  have p1 : putR [] 1 2 = [1] := by decide
  have p2 : putR [1] 2 2 = [1, 2] := by decide
  have p3 : putR [1, 2] 1 2 = [2, 1] := by decide
  have p4 : putR [2, 1] 3 2 = [1, 3] := by decide
  have R13 := Lib.hid (fun (W : World) => row_litN (k := .u64) (w := W) 28 [1, 3] (by decide) (by intro x hx; simp only [List.mem_cons, List.not_mem_nil, or_false] at hx; rcases hx with rfl | rfl; exact u64_wf ⟨by decide, by decide⟩; exact u64_wf ⟨by decide, by decide⟩))
  have SC := Lib.hid (fun (a6 : Option Addr) (c6 : Nat) (W : World) (h6 : Row .u64 W a6 [1, 3]) => (show Calls Try.prog 15 #[.slice a6 2 c6, .slice (some ⟨W.heap.size, 0, none⟩) 2 2] (W.alloc (.cells #[.int .u64 1, .int .u64 3] 28)) fun e w' => e = .returned (.bool true) ∧ Below (W.alloc (.cells #[.int .u64 1, .int .u64 3] 28)).heap.size (W.alloc (.cells #[.int .u64 1, .int .u64 3] 28)) w' from rsame23_calls a6 (some ⟨W.heap.size, 0, none⟩) c6 2 [1, 3] [1, 3] _ (h6.below (below_alloc (Below.refl _ _) _)) (R13.out W)))
  have P1 := Lib.hid p1; have P2 := Lib.hid p2; have P3 := Lib.hid p3; have P4 := Lib.hid p4
  clear p1 p2 p3 p4
  go_enter Try.func10, Try.ntmps10
  go_upto_region 2 with (go_at_call 6; (with_reducible refine (NC.out).mono ?_); rintro e w1 ⟨rfl, h1, hb1⟩; have H1 := Lib.hid h1; have B1 := Lib.hid hb1; clear h1 hb1)
  go_wp2_with fail
  refine (gh_put _ _ _ 2 1 [] 0 w1 H1.out ⟨by decide, by decide⟩ (by decide) (by decide) B1.out.size).mono ?_
  rintro e w2 ⟨rfl, h2, hf2⟩
  rw [P1.out] at h2 ⊢
  have H2 := Lib.hid h2; have B2 := Lib.hid (Below.trans B1.out (hf2.to_below B1.out.size)); clear h2 hf2
  go_wp2_with fail
  refine (gh_put _ _ _ 2 2 [1] 1 w2 H2.out ⟨by decide, by decide⟩ (by decide) (by decide) B2.out.size).mono ?_
  rintro e w3 ⟨rfl, h3, hf3⟩
  rw [P2.out] at h3 ⊢
  have H3 := Lib.hid h3; have B3 := Lib.hid (Below.trans B2.out (hf3.to_below B2.out.size)); clear h3 hf3
  go_wp2_with fail
  refine (gh_put _ _ _ 2 1 [1, 2] 2 w3 H3.out ⟨by decide, by decide⟩ (by decide) (by decide) B3.out.size).mono ?_
  rintro e w4 ⟨rfl, h4, hf4⟩
  rw [P3.out] at h4 ⊢
  have H4 := Lib.hid h4; have B4 := Lib.hid (Below.trans B3.out (hf4.to_below B3.out.size)); clear h4 hf4
  go_wp2_with fail
  refine (gh_put _ _ _ 2 3 [2, 1] 3 w4 H4.out ⟨by decide, by decide⟩ (by decide) (by decide) B4.out.size).mono ?_
  rintro e w5 ⟨rfl, h5, hf5⟩
  rw [P4.out] at h5 ⊢
  have H5 := Lib.hid h5; have B5 := Lib.hid (Below.trans B4.out (hf5.to_below B4.out.size)); clear h5 hf5
  go_wp2_with (first
    | (go_at_call 9; (with_reducible refine (gh_all _ _ _ 2 [1, 3] 4 w5 H5.out (by decide)).mono ?_); rintro e w6 ⟨v6, rfl, ho, hb⟩; obtain ⟨a6, c6, hv6, -, -, hr6, -⟩ := ho.form; subst hv6; have R6 := Lib.hid hr6; have B6 := Lib.hid (below_step B5.out hb); clear ho hb hr6)
    | (go_at_call 15; (with_reducible refine (SC.out a6 c6 w6 R6.out).mono ?_); rintro e w7 ⟨rfl, hb⟩; have B7 := Lib.hid (below_step (below_alloc B6.out _) hb); clear hb))
  go_ret
  exact ⟨rfl, B7.out⟩
end Go.Proofs.Ytjjhfllpbicclaa.Ct
