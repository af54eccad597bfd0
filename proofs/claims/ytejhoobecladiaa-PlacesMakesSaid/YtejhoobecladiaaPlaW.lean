import Derived.Test.YtejhoobecladiaaPlaM
import Derived.Test.YtejhoobecladiaaPlaS
/-! Chapter 27: places that nobody made. -/
namespace Go.Proofs.Ytejhoobecladiaa.Ct
open Go.RowKit Go.Shelf
attribute [local go_sem] Oper.semAt_some
set_option linter.unusedVariables false
set_option linter.unusedSimpArgs false
/-- an empty struct of places. -/
def Odd27 (w : World) (x : Nat) : Prop := Blk w x 59 #[.slice none 0 0, .slice none 0 0, .int .i64 0]
theorem Odd27.cx {w : World} {x : Nat} (h : Odd27 w x) : w.cell? ⟨x, 0, none⟩ = some (.slice none 0 0) ∧ w.cell? ⟨x, 1, none⟩ = some (.slice none 0 0) ∧ w.cell? ⟨x, 2, none⟩ = some (.int .i64 0) := ⟨Blk.cell h 0, Blk.cell h 1, Blk.cell h 2⟩
theorem Odd27.below {w w1 : World} {x : Nat} (h : Odd27 w x) (hb : Below w.heap.size w w1) : Odd27 w1 x := Blk.below h hb
section
variable {w : World} {x : Nat}
theorem odd_at (h : Odd27 w x) (l : Int) : Calls Try.prog 25 #[.pointer (some ⟨x, 0, none⟩), .int .i64 l] w fun e w' => e = .returned (oneV o27) ∧ Below w.heap.size w w' :=
  at_bad x l none 0 0 w h.cx.1 (by omega)
theorem odd_At (h : Odd27 w x) (l : Int) : Calls Try.prog 11 #[.pointer (some ⟨x, 0, none⟩), .int .i64 l] w fun e w' => e = .returned (.tuple #[.agg #[.int .i64 0, .int .i64 0, .int .u64 0], .bool false, .bool false]) ∧ Below w.heap.size w w' :=
  at2_z _ l w fun W hb => odd_at (h.below hb) l
theorem odd_drop (h : Odd27 w x) (l : Int) : Calls Try.prog 8 #[.pointer (some ⟨x, 0, none⟩), .int .i64 l] w fun e w' => e = .returned (.tuple #[.int .i64 0, .bool false]) ∧ Below w.heap.size w w' :=
  drop_zero _ l w (odd_at h l)
theorem odd_put (h : Odd27 w x) (i b t : Int) (u : Bool) : Calls Try.prog 9 #[.pointer (some ⟨x, 0, none⟩), .int .i64 i, .int .i64 b, .int .u64 t, .bool u] w fun e w' => e = .returned (.bool false) ∧ w = w' := by
  obtain ⟨c0, c1, c2⟩ := h.cx
  have hc : i < 0 ∨ (¬ i < 0 ∧ (0 : Int) ≤ i) := by omega
  clear h
  rcases hc with h1 | ⟨h1, h2⟩
  all_goals (
    go_enter Try.func9, Try.ntmps9
    go_wp2
    go_ret
    exact ⟨rfl, rfl⟩)
theorem odd_free (h : Odd27 w x) (l : Int) : Calls Try.prog 13 #[.pointer (some ⟨x, 0, none⟩), .int .i64 l] w fun e w' => e = .returned (.slice none 0 0) ∧ Below w.heap.size w w' := by
  obtain ⟨c0, c1, c2⟩ := h.cx
  have mx := fun (ts : Array TypeId) (t : TypeId) (w : World) => max_run (P := Try.prog) l 0 ts t w
  have mn := fun (ts : Array TypeId) (t : TypeId) (w : World) => min_run (P := Try.prog) (max l 0) 0 ts t w
  rw [show min (max l 0) (0 : Int) = 0 by omega] at mn
  generalize max l 0 = l2 at *
  clear h
  go_enter Try.func13, Try.ntmps13
  go_wp2
  go_loopw [5, 6, 17] (fun o u j wr => o = .slice none 0 0 ∧ j = .int .i64 0 ∧ Below w.heap.size w wr) (fun _ _ _ _ => 0)
  case atStart => exact ⟨rfl, rfl, Below.refl _ _⟩
  case round =>
    obtain ⟨rfl, rfl, hb⟩ := hrel
    have HB := Lib.hid hb
    clear hb mx mn
    go_wp2
    go_ret
    exact ⟨rfl, HB.out⟩
theorem odd_len (h : Odd27 w x) : Calls Try.prog 12 #[.pointer (some ⟨x, 0, none⟩)] w fun e w' => e = .returned (.int .i64 0) ∧ w = w' := plen_ok x 0 w h.cx.2.2
end
set_option maxRecDepth 100000 in
set_option maxHeartbeats 4000000 in
theorem each1_odd (n l bx bf bt x : Nat) (fr ft : Int) (J Jx : List Nat → World → Prop) (Nj : Nat) (hn : 1 ≤ n) (hJa : AbidesFrom Nj J)
    (W : World) (hx : W.cell? ⟨bx, 0, none⟩ = some (.pointer (some ⟨x, 0, none⟩))) (hf : W.cell? ⟨bf, 0, none⟩ = some (.int .i64 fr)) (ht : W.cell? ⟨bt, 0, none⟩ = some (.int .i64 ft)) (hs : Odd27 W x) (h0 : J [] W) :
    CallsIn Fence.wide n Try.prog 36 #[.func (.yield l) #[] #[], .pointer (some ⟨bx, 0, none⟩), .pointer (some ⟨bf, 0, none⟩), .pointer (some ⟨bt, 0, none⟩)] W fun e W' => (∃ v, e = .returned v) ∧
      ((∃ ys, ys = [] ∧ J ys W') ∨ (∃ pre, pre <+: [] ∧ Jx pre W')) := by
  have mx := fun (ts : Array TypeId) (t : TypeId) (w : World) => max_run (P := Try.prog) fr 0 ts t w
  have mn := fun (ts : Array TypeId) (t : TypeId) (w : World) => min_run (P := Try.prog) ft 0 ts t w
  have ea : 0 ≤ max fr 0 := by omega
  have eb : min ft 0 ≤ 0 := by omega
  generalize max fr 0 = a at *
  generalize min ft 0 = b at *
  have x2 := hs.cx.1
  have HJ := Lib.hid h0
  clear h0 hs
  refine callsIn_of_wp Try.func36 rfl trivial ?_ rfl
  simp only [Try.ntmps36, List.size_toArray, List.length_cons, List.length_nil, Nat.reduceAdd, Nat.reduceSub, Array.replicate_succ, Array.replicate_zero, List.push_toArray, List.append_toArray, List.nil_append, List.cons_append]
  gi_wp2
  gi_loopw [5, 6, 7, 8] (fun v5 v6 v7 v8 wr => v5 = .int .i64 a ∧ wr = W) (fun _ _ _ _ _ => 0)
  case atStart => exact ⟨rfl, rfl⟩
  case round =>
    obtain ⟨rfl, rfl⟩ := hrel
    have q1 : ¬ a < b := by omega
    have q2 : b ≤ a := by omega
    gi_wp2
    gi_region
    gi_wp2
    go_end0
    exact ⟨⟨_, rfl⟩, .inl ⟨_, rfl, abides_below hJa HJ.out (below_drew (Below.refl _ _))⟩⟩
theorem rows_odd {w : World} {x : Nat} (h : Odd27 w x) (fr ft : Int) :
    Calls Try.prog 28 #[.pointer (some ⟨x, 0, none⟩), .int .i64 fr, .int .i64 ft] w fun e w' => ∃ v, e = .returned v ∧ EntR w' w.heap.size v (fun _ => o27) [] ∧ Below w.heap.size w w' := by
  obtain ⟨W0, e, hb, hz, k1, k2, k3⟩ := rows_blks (some ⟨x, 0, none⟩) fr ft w
  refine (callsIn_wide (n := 5)).1 (rows_core (some ⟨x, 0, none⟩) fr ft (fun _ => o27) [] w (by simp) ?_)
  rw [← e]
  intro l J Jx W hW hJ _ hY h0
  exact each1_odd 4 l _ _ _ x fr ft J Jx W.heap.size (by decide) hJ W ((k1.below hW).cell 0) ((k2.below hW).cell 0) ((k3.below hW).cell 0) ((h.below hb).below hW) h0
theorem leaf_odd {w : World} {x : Nat} (h : Odd27 w x) (no : Int) :
    Calls Try.prog 15 #[.pointer (some ⟨x, 0, none⟩), .int .i64 no] w fun e w' => ∃ v, e = .returned v ∧ EntR w' w.heap.size v (fun _ => o27) [] ∧ Below w.heap.size w w' := by
  have LC := Lib.hid lof_calls
  by_cases h0 : no < 0
  · clear h
    go_enter Try.func15, Try.ntmps15
    go_wp2
    go_ret
    exact ⟨_, rfl, entR_nil _ _ _, Below.refl _ _⟩
  · by_cases h1 : no ≤ 64
    · have RC := Lib.hid (rows_odd h (no * 3) (no * 3 + 3))
      have h2 : ¬ 64 < no := by omega
      clear h
      go_enter Try.func15, Try.ntmps15
      go_wp2_with (first
        | (go_at_call 27; (with_reducible refine (LC.out _).mono ?_); rintro e w' ⟨rfl, rfl⟩)
        | (go_at_call 28; (with_reducible refine (RC.out).mono ?_); rintro e w1 ⟨v, rfl, h1, h2⟩; have H1 := Lib.hid h1; have H2 := Lib.hid h2; clear h1 h2))
      go_ret
      exact ⟨v, rfl, H1.out, H2.out⟩
    · have h2 : 64 < no := by omega
      clear h
      go_enter Try.func15, Try.ntmps15
      go_wp2_with (first
        | (go_at_call 27; (with_reducible refine (LC.out _).mono ?_); rintro e w' ⟨rfl, rfl⟩))
      go_ret
      exact ⟨_, rfl, entR_nil _ _ _, Below.refl _ _⟩
end Go.Proofs.Ytejhoobecladiaa.Ct
