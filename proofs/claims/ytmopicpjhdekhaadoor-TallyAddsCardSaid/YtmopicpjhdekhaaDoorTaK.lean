import Derived.Test.YtmopicpjhdekhaaDoorTaJ
/-! tally.Grown, Right. -/
namespace Go.Proofs.YtmopicpjhdekhaaDoor.Ct
open Go.RowKit
set_option linter.unusedVariables false
set_option linter.unusedSimpArgs false
/-- how many numbers have fallen. -/
def fellN (a b : Nat → Int) : Nat → Nat
  | 0 => 0
  | k + 1 => if b k < a k then fellN a b k + 1 else fellN a b k
theorem fellN_le (a b : Nat → Int) : ∀ k, fellN a b k ≤ k
  | 0 => Nat.le_refl _
  | k + 1 => by have := fellN_le a b k; unfold fellN; split <;> omega
theorem fellN_zero (a b : Nat → Int) : ∀ k, fellN a b k = 0 ↔ ∀ i, i < k → a i ≤ b i
  | 0 => by simp [fellN]
  | k + 1 => by
    have ih := fellN_zero a b k
    unfold fellN
    split
    · constructor
      · intro h; omega
      · intro h; have := h k (by omega); omega
    · rw [ih]
      constructor
      · intro h i hi
        by_cases e : i = k
        · subst e; omega
        · exact h i (by omega)
      · intro h i hi; exact h i (by omega)
def grownS (a b : Nat → Int) : Bool := fellN a b 14 == 0
theorem grownS_iff (a b : Nat → Int) : grownS a b = true ↔ ∀ i, i < 14 → a i ≤ b i := by
  unfold grownS
  rw [beq_iff_eq]
  exact fellN_zero a b 14
set_option maxRecDepth 10000 in
set_option maxHeartbeats 4000000 in
theorem tgrown_calls (a b : Nat → Int) (ha : ∀ i < 14, I64 (a i)) (hb : ∀ i < 14, I64 (b i)) (w : World) :
    Calls Tryd.prog 20 #[.agg (tlC a), .agg (tlC b)] w fun e w' => e = .returned (.bool (grownS a b)) ∧ Below w.heap.size w w' := by
  have K1 := Lib.hid (((Blk.new w 23 (tlC a)).alloc (.cells (tlC b) 23)).alloc (.cells #[.int .i64 0] 3))
  have K2 := Lib.hid ((blk_at (w := w.alloc (.cells (tlC a) 23)) (t := 23) (cs := tlC b) (show w.heap.size + 1 = (w.alloc (.cells (tlC a) 23)).heap.size by simp)).alloc (.cells #[.int .i64 0] 3))
  have K3 := Lib.hid (blk_at (w := (w.alloc (.cells (tlC a) 23)).alloc (.cells (tlC b) 23)) (t := 3) (cs := #[.int .i64 0]) (show w.heap.size + 1 + 1 = ((w.alloc (.cells (tlC a) 23)).alloc (.cells (tlC b) 23)).heap.size by simp))
  have B := Lib.hid (below_alloc (below_alloc (below_alloc (Below.refl w.heap.size w) (.cells (tlC a) 23)) (.cells (tlC b) 23)) (.cells #[.int .i64 0] 3))
  have Z := Lib.hid (show (((w.alloc (.cells (tlC a) 23)).alloc (.cells (tlC b) 23)).alloc (.cells #[.int .i64 0] 3)).heap.size = w.heap.size + 1 + 1 + 1 by simp)
  have BC := Lib.hid (bothG_calls a b (w.heap.size + 1 + 1) (fun k W => Blk W (w.heap.size + 1 + 1) 3 #[.int .i64 (fellN a b k : Nat)]))
  have FL := Lib.hid (fellN_le a b 14)
  have GS := Lib.hid (show (fellN a b 14 == 0) = grownS a b from rfl)
  go_enter Tryd.func20, Tryd.ntmps20
  go_upto_region 2 with (fail)
  generalize ((w.alloc (.cells (tlC a) 23)).alloc (.cells (tlC b) 23)).alloc (.cells _ 3) = w4 at *
  have S1 := Lib.hid (BC.out w4 (by have := Z.out; omega) K3.out (fun k W W' h hb => Blk.belowB h hb (by omega)) (fun k W hk h => (grownc_calls k (w.heap.size + 1 + 1) (a k) (b k) _ W (by have := fellN_le a b k; omega) h).mono fun e W' ⟨h1, h2, h3⟩ => ⟨h1, h2, h3⟩))
  clear BC K3 ha hb
  generalize fellN a b 14 = c at *
  go_wp2_with (first
    | (refine wpl_load (g := w.heap.size) _ rfl rfl rfl K1.out Tryd.underlying23 rfl (by kernel_rfl) ?_)
    | (refine wpl_load (g := w.heap.size + 1) _ rfl rfl rfl K2.out Tryd.underlying23 rfl (by kernel_rfl) ?_)
    | (go_at_call 38; (with_reducible refine (S1.out).mono ?_); rintro e w6 ⟨rfl, hk, hb⟩; have K5 := Lib.hid hk; have B5 := Lib.hid (Below.trans B.out (hb.mono (by omega))); have c0 : w6.cell? ⟨w.heap.size + 1 + 1, 0, none⟩ = some (.int .i64 (c : Nat)) := hk.cell 0; clear hk hb))
  go_ret
  refine ⟨?_, B5.out⟩
  rw [← GS.out]
  by_cases hc : c = 0
  · subst hc; rfl
  · have e1 : ((c : Int) == 0) = false := beq_eq_false_iff_ne.2 (by omega)
    have e2 : (c == 0) = false := beq_eq_false_iff_ne.2 hc
    rw [e1, e2]; rfl
/-- may a tally be? -/
def rightS (a : Nat → Int) : Bool := grownS (fun _ => 0) a && decide (a 1 ≤ a 3) && decide (a 4 ≤ a 3)
set_option maxRecDepth 10000 in
set_option maxHeartbeats 4000000 in
theorem tright_calls (a : Nat → Int) (ha : ∀ i < 14, I64 (a i)) (w : World) :
    Calls Tryd.prog 21 #[.agg (tlC a)] w fun e w' => e = .returned (.bool (rightS a)) ∧ Below w.heap.size w w' := by
  have K1 := Lib.hid (Blk.new w 23 (tlC a))
  have B := Lib.hid (below_alloc (Below.refl w.heap.size w) (.cells (tlC a) 23))
  have GC := Lib.hid (fun W => show Calls Tryd.prog 20 #[.agg zero14, .agg (tlC a)] W fun e w' => e = .returned (.bool (grownS (fun _ => 0) a)) ∧ Below W.heap.size W w' from tgrown_calls (fun _ => 0) a (fun _ _ => ⟨by decide, by decide⟩) ha W)
  have R := Lib.hid (show (grownS (fun _ => 0) a && decide (a 1 ≤ a 3) && decide (a 4 ≤ a 3)) = rightS a from rfl)
  unfold zero14 at GC
  generalize grownS (fun _ => 0) a = gr at *
  have g1 := fun W (h : Blk W w.heap.size 23 (tlC a)) => show W.cell? ⟨w.heap.size, 1, none⟩ = some (.int .i64 (a 1)) from h.cell 1
  have g3 := fun W (h : Blk W w.heap.size 23 (tlC a)) => show W.cell? ⟨w.heap.size, 3, none⟩ = some (.int .i64 (a 3)) from h.cell 3
  have g4 := fun W (h : Blk W w.heap.size 23 (tlC a)) => show W.cell? ⟨w.heap.size, 4, none⟩ = some (.int .i64 (a 4)) from h.cell 4
  have G1 := Lib.hid g1
  have G3 := Lib.hid g3
  have G4 := Lib.hid g4
  clear g1 g3 g4 ha
  cases gr with
  | false =>
    go_enter Tryd.func21, Tryd.ntmps21
    go_wp2_with (first
      | (refine wpl_load (g := w.heap.size) _ rfl rfl rfl K1.out Tryd.underlying23 rfl (by kernel_rfl) ?_)
      | (go_at_call 20; (with_reducible refine (GC.out _).mono ?_); rintro e w6 ⟨rfl, hb⟩; have B6 := Lib.hid (below_step B.out hb); clear hb))
    go_ret
    exact ⟨by rw [← R.out]; rfl, B6.out⟩
  | true =>
    by_cases h1 : a 1 ≤ a 3
    · go_enter Tryd.func21, Tryd.ntmps21
      go_wp2_with (first
        | (refine wpl_load (g := w.heap.size) _ rfl rfl rfl K1.out Tryd.underlying23 rfl (by kernel_rfl) ?_)
        | (go_at_call 20; (with_reducible refine (GC.out _).mono ?_); rintro e w6 ⟨rfl, hb⟩; have B6 := Lib.hid (below_step B.out hb); have c1 := G1.out _ (K1.out.below hb); have c3 := G3.out _ (K1.out.below hb); have c4 := G4.out _ (K1.out.below hb); clear hb))
      go_ret
      refine ⟨?_, B6.out⟩
      rw [← R.out]
      simp [h1]
    · go_enter Tryd.func21, Tryd.ntmps21
      go_wp2_with (first
        | (refine wpl_load (g := w.heap.size) _ rfl rfl rfl K1.out Tryd.underlying23 rfl (by kernel_rfl) ?_)
        | (go_at_call 20; (with_reducible refine (GC.out _).mono ?_); rintro e w6 ⟨rfl, hb⟩; have B6 := Lib.hid (below_step B.out hb); have c1 := G1.out _ (K1.out.below hb); have c3 := G3.out _ (K1.out.below hb); have c4 := G4.out _ (K1.out.below hb); clear hb))
      go_ret
      refine ⟨?_, B6.out⟩
      rw [← R.out]
      have h2 : ¬ a 1 ≤ a 3 := by omega
      simp [h2]
end Go.Proofs.YtmopicpjhdekhaaDoor.Ct
