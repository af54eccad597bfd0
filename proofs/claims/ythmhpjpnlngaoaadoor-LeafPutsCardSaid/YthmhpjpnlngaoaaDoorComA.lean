import Derived.Test.YthmhpjpnlngaoaaDoorComP
import Derived.Test.YthmhpjpnlngaoaaDoorAgg5
/-! Commits: leaf.num, leaf.low, leaf.sealable; three rows joined. -/
namespace Go.Proofs.YthmhpjpnlngaoaaDoor.Ct
open Go.RowKit
set_option linter.unusedVariables false
set_option linter.unusedSimpArgs false
def comC (c : Cm) : Array Value := #[.int .u64 c.snap, .int .i64 c.leaves, .int .u64 c.frm]
def comV (c : Cm) : Value := .agg (comC c)
theorem cells3 {w : World} {g : Nat} {v0 v1 v2 : Value} {t : TypeId} (h : Blk w g t #[v0, v1, v2]) : (w.cell? ⟨g, 0, none⟩ = some v0 ∧ w.cell? ⟨g, 1, none⟩ = some v1 ∧ w.cell? ⟨g, 2, none⟩ = some v2) ∧
    w.frozen? ⟨g, 0, none⟩ = false ∧ w.frozen? ⟨g, 1, none⟩ = false ∧ w.frozen? ⟨g, 2, none⟩ = false :=
  ⟨⟨h.cell 0, h.cell 1, h.cell 2⟩, h.frozen 0, h.frozen 1, h.frozen 2⟩
theorem Blk.set3 {w : World} {g : Nat} {t : TypeId} {a b c : Value} (h : Blk w g t #[a, b, c]) (v0 v1 v2 : Value) :
    Blk (((w.setCell ⟨g, 0, none⟩ v0).setCell ⟨g, 1, none⟩ v1).setCell ⟨g, 2, none⟩ v2) g t #[v0, v1, v2] := by
  have h0 : Blk (World.setCell _ ⟨g, 0, none⟩ v0) g t #[v0, b, c] := h.set_ 0 v0
  have h1 : Blk (World.setCell _ ⟨g, 1, none⟩ v1) g t #[v0, v1, c] := h0.set_ 1 v1
  have h2 : Blk (World.setCell _ ⟨g, 2, none⟩ v2) g t #[v0, v1, v2] := h1.set_ 2 v2
  exact h2
theorem below_set3 {B : Nat} {w0 w : World} {g : Nat} (h : Below B w0 w) (hg : B ≤ g) (v0 v1 v2 : Value) :
    Below B w0 (((w.setCell ⟨g, 0, none⟩ v0).setCell ⟨g, 1, none⟩ v1).setCell ⟨g, 2, none⟩ v2) :=
  ((h.setCell (p := ⟨g, 0, none⟩) hg v0).setCell (p := ⟨g, 1, none⟩) hg v1).setCell (p := ⟨g, 2, none⟩) hg v2
theorem join3 (E : TypeId) (a1 a2 a3 : Option Addr) (d1 d2 d3 : Nat) (x1 x2 x3 : List Int) (W : World) (g : Nat) (hg : g = W.heap.size) (h1 : Row .u8 W a1 x1) (h2 : Row .u8 W a2 x2) (h3 : Row .u8 W a3 x3) (hl : [x1, x2, x3].flatten.length ≤ 1000) :
    Calls Tryd.prog 28 #[.slice (some ⟨g, 0, none⟩) 3 3] (W.alloc (.cells #[.slice a1 x1.length d1, .slice a2 x2.length d2, .slice a3 x3.length d3] E)) fun e w' => ∃ v, e = .returned v ∧ Own .u8 5 w' W.heap.size v [x1, x2, x3].flatten ∧ Below W.heap.size W w' := by
  subst hg
  refine (join_calls (some ⟨W.heap.size, 0, none⟩) 3 [x1, x2, x3] _ (rowS_three h1 h2 h3) (by omega)).mono ?_
  rintro e w' ⟨v, he, ho, hb⟩
  exact ⟨v, he, ho.mono (by simp), below_step (below_alloc (Below.refl _ _) _) hb⟩
set_option maxHeartbeats 2000000 in
theorem lnum_calls (n : Int) (w : World) : Calls Tryd.prog 41 #[.int .u64 n] w fun e w' => e = .returned (.bool (decide (NumOk n))) ∧ w = w' := by
  by_cases h1 : 1 ≤ n
  · have E := Lib.hid (show decide (NumOk n) = decide (n ≤ 4611686018427387904) by unfold NumOk; simp [h1])
    go_enter Tryd.func41, Tryd.ntmps41
    go_wp2
    go_ret
    exact ⟨ret_bool (by rw [E.out]), rfl⟩
  · have E := Lib.hid (show decide (NumOk n) = false from decide_eq_false (fun h => h1 h.1))
    go_enter Tryd.func41, Tryd.ntmps41
    go_wp2
    go_ret
    exact ⟨ret_bool (by rw [E.out]), rfl⟩
def LowOk (n : Int) : Prop := 0 ≤ n ∧ n ≤ 65535
instance (n : Int) : Decidable (LowOk n) := by unfold LowOk; infer_instance
set_option maxHeartbeats 2000000 in
theorem llow_calls (n : Int) (w : World) : Calls Tryd.prog 40 #[.int .i64 n] w fun e w' => e = .returned (.bool (decide (LowOk n))) ∧ w = w' := by
  by_cases h1 : 0 ≤ n
  · have E := Lib.hid (show decide (LowOk n) = decide (n ≤ 65535) by unfold LowOk; simp [h1])
    go_enter Tryd.func40, Tryd.ntmps40
    go_wp2
    go_ret
    exact ⟨ret_bool (by rw [E.out]), rfl⟩
  · have E := Lib.hid (show decide (LowOk n) = false from decide_eq_false (fun h => h1 h.1))
    go_enter Tryd.func40, Tryd.ntmps40
    go_wp2
    go_ret
    exact ⟨ret_bool (by rw [E.out]), rfl⟩
set_option maxHeartbeats 2000000 in
theorem sealable_calls (c : Cm) (w : World) : Calls Tryd.prog 38 #[comV c] w fun e w' => e = .returned (.bool (decide (MayC c))) ∧ Below w.heap.size w w' := by
  have hb1 := below_alloc (Below.refl w.heap.size w) (.cells (comC c) 42)
  have hk1 : Blk (w.alloc (.cells (comC c) 42)) w.heap.size 42 (comC c) := Blk.new _ _ _
  have N1 := Lib.hid (fun w => lnum_calls c.snap w)
  have L1 := Lib.hid (fun w => llow_calls c.leaves w)
  have E := Lib.hid (show decide (MayC c) = (decide (NumOk c.snap) && (decide (LowOk c.leaves) && decide (c.frm ≤ 4611686018427387904))) by rw [← Bool.decide_and, ← Bool.decide_and]; exact decide_eq_decide.2 Iff.rfl)
  unfold comV comC at *
  obtain ⟨c0, c1, c2⟩ := c
  dsimp only at *
  have HB1 := Lib.hid hb1
  have HK1 := Lib.hid hk1
  clear hb1 hk1
  by_cases h1 : NumOk c0
  · rw [decide_eq_true h1] at N1 E
    by_cases h2 : LowOk c1
    · rw [decide_eq_true h2] at L1 E
      clear h1 h2
      go_enter Tryd.func38, Tryd.ntmps38
      go_wp2_with (first
        | (go_at_call 41; (with_reducible refine (N1.out _).mono ?_); rintro e w2 ⟨rfl, rfl⟩)
        | (go_at_call 40; (with_reducible refine (L1.out _).mono ?_); rintro e w2 ⟨rfl, rfl⟩))
      go_ret
      exact ⟨ret_bool (by rw [E.out]; simp), HB1.out⟩
    · rw [decide_eq_false h2] at L1 E
      clear h1 h2
      go_enter Tryd.func38, Tryd.ntmps38
      go_wp2_with (first
        | (go_at_call 41; (with_reducible refine (N1.out _).mono ?_); rintro e w2 ⟨rfl, rfl⟩)
        | (go_at_call 40; (with_reducible refine (L1.out _).mono ?_); rintro e w2 ⟨rfl, rfl⟩))
      go_ret
      exact ⟨ret_bool (by rw [E.out]; simp), HB1.out⟩
  · rw [decide_eq_false h1] at N1 E
    clear h1
    go_enter Tryd.func38, Tryd.ntmps38
    go_wp2_with (go_at_call 41; (with_reducible refine (N1.out _).mono ?_); rintro e w2 ⟨rfl, rfl⟩)
    go_ret
    exact ⟨ret_bool (by rw [E.out]; simp), HB1.out⟩
end Go.Proofs.YthmhpjpnlngaoaaDoor.Ct
