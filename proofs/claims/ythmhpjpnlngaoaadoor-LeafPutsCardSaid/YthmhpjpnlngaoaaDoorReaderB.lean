import Derived.Test.YthmhpjpnlngaoaaDoorReader
/-! octet.Reader: Bytes, Bad, Done, Read; readers that nobody made. -/
namespace Go.Proofs.YthmhpjpnlngaoaaDoor.Ct
open Go.RowKit
set_option linter.unusedVariables false
set_option linter.unusedSimpArgs false
theorem grown_below {w w1 w2 : World} {row : Option Nat} (h : w.grownBy w1 row) (hb : Below w1.heap.size w1 w2) : w.grownBy w2 row :=
  h.trans ⟨hb.os, hb.tape, hb.output, hb.size, fun i hi _ => hb.block i hi⟩
set_option maxHeartbeats 2000000 in
theorem bytes_calls (g bnd : Nat) (st : List Int × Bool) (n : Int) (w : World) (h : Rd w g bnd st true) (hlen : st.1.length ≤ 140737488355328) (n0 : -9223372036854775808 ≤ n) (n1 : n ≤ 9223372036854775807) :
    Calls Tryd.prog 33 #[.pointer (some ⟨g, 0, none⟩), .int .i64 n] w fun e w' => ∃ v, e = .returned v ∧ Own .u8 5 w' w.heap.size v (takeS st n).1 ∧ Rd w' g bnd (takeS st n).2 true ∧ w.grownBy w' (some g) := by
  have TC := Lib.hid (take_calls g bnd st n w h n0 n1)
  have hl : (takeS st n).1.length ≤ 140737488355328 := by
    unfold takeS
    split
    · simp
    · split
      · simp only [List.length_take]; omega
      · simp
  clear h
  go_enter Tryd.func33, Tryd.ntmps33
  go_wp2_with (first
    | (go_at_call 51; (with_reducible refine (TC.out).mono ?_); rintro e w1 ⟨v, rfl, hr, hrd, hg⟩; obtain ⟨a, cap, rfl, _, _, hrow, _⟩ := hr; have CC := Lib.hid (clone_calls a cap _ w1 hrow hl); have HR := Lib.hid hrd; have HG := Lib.hid hg; clear hrow hrd hg)
    | (go_at_call 42; (with_reducible refine (CC.out).mono ?_); rintro e w2 ⟨v2, rfl, ho, hb⟩; have HO := Lib.hid ho; have HB := Lib.hid hb; clear ho hb))
  go_ret
  exact ⟨_, rfl, HO.out.mono HG.out.size, HR.out.below HB.out, grown_below HG.out HB.out⟩
theorem Own.lies {E : TypeId} {w : World} {base bnd : Nat} {v : Value} {xs : List Int} (h : Own .u8 E w base v xs) (hb : w.heap.size ≤ bnd) : Lies w bnd v xs := by
  obtain ⟨a, cap, e, h1, h2, h3, h4, h5⟩ := h.form
  refine ⟨a, cap, e, h1, h2, h3, fun _ ad ea => ?_⟩
  have h6 := (h5 ad ea).1
  refine Nat.lt_of_lt_of_le (h.lt ad.block ?_) hb
  rw [e, ea, h6]; rfl
theorem rd_new {w : World} {xs : List Int} {v : Value} {made bad : Bool} (T : TypeId) (h : Lies w w.heap.size v xs) : Rd (w.alloc (.cells #[v, .bool made, .bool bad] T)) w.heap.size w.heap.size (xs, bad) made := by
  refine ⟨Nat.le_refl _, ⟨v, by rw [World.cell?_alloc_new]; rfl, h.below ((Below.refl _ _).alloc (Nat.le_refl _) _)⟩, by rw [World.cell?_alloc_new]; rfl, by rw [World.cell?_alloc_new]; rfl, fun j => ?_⟩
  simp [go_sem]
set_option maxHeartbeats 2000000 in
theorem read_calls (a : Option Addr) (cap : Nat) (xs : List Int) (w : World) (h : Row .u8 w a xs) (hlen : xs.length ≤ 140737488355328) :
    Calls Tryd.prog 30 #[.slice a xs.length cap] w fun e w' => ∃ g, e = .returned (.pointer (some ⟨g, 0, none⟩)) ∧ w.heap.size ≤ g ∧ Rd w' g g (xs, false) true ∧ Below w.heap.size w w' := by
  have CC := Lib.hid (clone_calls a cap xs w h hlen)
  clear h
  go_enter Tryd.func30, Tryd.ntmps30
  go_wp2_with (go_at_call 42; (with_reducible refine (CC.out).mono ?_); rintro e w1 ⟨v, rfl, ho, hb⟩; have HL := Lib.hid (ho.lies (Nat.le_refl _)); obtain ⟨a1, c1, rfl, _⟩ := ho.form; have HB := Lib.hid hb; clear ho hb)
  go_ret
  exact ⟨_, rfl, HB.out.size, rd_new _ HL.out, HB.out.alloc HB.out.size _⟩

/-! ### readers that nobody made -/
set_option maxHeartbeats 2000000 in
theorem take_nil (n : Int) (w : World) : Calls Tryd.prog 51 #[.pointer none, .int .i64 n] w fun e w' => e = .returned (.slice none 0 0) ∧ w = w' := by
  go_enter Tryd.func51, Tryd.ntmps51
  go_wp2
  go_ret
  exact ⟨rfl, rfl⟩
set_option maxHeartbeats 2000000 in
theorem take_odd (g bnd : Nat) (st : List Int × Bool) (n : Int) (w : World) (h : Rd w g bnd st false) : Calls Tryd.prog 51 #[.pointer (some ⟨g, 0, none⟩), .int .i64 n] w fun e w' => e = .returned (.slice none 0 0) ∧ w = w' := by
  obtain ⟨h0, ⟨v, hv, hr⟩, hm, hbd, hf⟩ := h
  clear hr hf hv h0
  go_enter Tryd.func51, Tryd.ntmps51
  go_wp2
  go_ret
  exact ⟨rfl, rfl⟩
theorem number_nil (w : World) : Calls Tryd.prog 50 #[.slice none 0 0] w fun e w' => e = .returned (.int .u64 0) ∧ w = w' := number_calls none 0 [] w (row_nil _ _) (by decide)
theorem clone_nil (w : World) : Calls Tryd.prog 42 #[.slice none 0 0] w fun e w' => e = .returned (.slice none 0 0) ∧ w = w' := by
  have q := fun (w : World) (a : Option Addr) (n c n' c' : Nat) => Lib.run_eql_slice_nil (P := Tryd.prog) w 27 5 a n c n' c' Tryd.underlying27
  go_enter Tryd.func42, Tryd.ntmps42
  go_wp2
  go_ret
  exact ⟨rfl, rfl⟩
/-- a pointer at which every taking is nothing. -/
def Dead (w : World) (p : Value) : Prop := ∀ n, Calls Tryd.prog 51 #[p, .int .i64 n] w fun e w' => e = .returned (.slice none 0 0) ∧ w = w'
set_option maxHeartbeats 2000000 in
theorem u_dead (p : Value) (n : Int) (w : World) (h : Dead w p) : Calls Tryd.prog 31 #[p, .int .i64 n] w fun e w' => e = .returned (.int .u64 0) ∧ w = w' := by
  unfold Dead at h
  have TC := Lib.hid h; clear h
  have NC := Lib.hid (number_nil w)
  have WC := Lib.hid (wide_calls n w)
  cases hw : wideS n <;> (
    rw [hw] at WC
    clear hw
    go_enter Tryd.func31, Tryd.ntmps31
    go_wp2_with (first
      | (go_at_call 43; (with_reducible refine (WC.out).mono ?_); rintro e w' ⟨rfl, rfl⟩)
      | (go_at_call 51; (with_reducible refine (TC.out _).mono ?_); rintro e w1 ⟨rfl, rfl⟩)
      | (go_at_call 50; (with_reducible refine (NC.out).mono ?_); rintro e w' ⟨rfl, rfl⟩))
    go_ret
    exact ⟨rfl, rfl⟩)
set_option maxHeartbeats 2000000 in
theorem bytes_dead (p : Value) (n : Int) (w : World) (h : Dead w p) : Calls Tryd.prog 33 #[p, .int .i64 n] w fun e w' => e = .returned (.slice none 0 0) ∧ w = w' := by
  unfold Dead at h
  have TC := Lib.hid h; clear h
  have CC := Lib.hid (clone_nil w)
  go_enter Tryd.func33, Tryd.ntmps33
  go_wp2_with (first
    | (go_at_call 51; (with_reducible refine (TC.out _).mono ?_); rintro e w1 ⟨rfl, rfl⟩)
    | (go_at_call 42; (with_reducible refine (CC.out).mono ?_); rintro e w' ⟨rfl, rfl⟩))
  go_ret
  exact ⟨rfl, rfl⟩
theorem left_nil (w : World) : Calls Tryd.prog 34 #[.pointer none] w fun e w' => e = .returned (.int .i64 0) ∧ w = w' := by
  go_enter Tryd.func34, Tryd.ntmps34
  go_wp2
  go_ret
  exact ⟨rfl, rfl⟩
end Go.Proofs.YthmhpjpnlngaoaaDoor.Ct
