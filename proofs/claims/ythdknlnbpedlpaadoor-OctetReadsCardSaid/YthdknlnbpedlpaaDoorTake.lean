import Derived.Test.YthdknlnbpedlpaaDoorReaderB
/-! The reference's Take, and At. -/
namespace Go.Proofs.YthdknlnbpedlpaaDoor.Ct
open Go.RowKit
set_option linter.unusedVariables false
set_option linter.unusedSimpArgs false
def Tk (w : World) (g bnd : Nat) (st : List Int × Bool) : Prop :=
  bnd ≤ g ∧ (∃ v, w.cell? ⟨g, 0, none⟩ = some v ∧ Lies w bnd v st.1) ∧ w.cell? ⟨g, 1, none⟩ = some (.bool st.2) ∧ ∀ j, w.frozen? ⟨g, j, none⟩ = false
theorem Tk.lt {w : World} {g bnd : Nat} {st : List Int × Bool} (h : Tk w g bnd st) : g < w.heap.size := World.block_lt_of_cell? w _ h.2.2.1
theorem Tk.grown {w w' : World} {g bnd g' : Nat} {st : List Int × Bool} (h : Tk w g bnd st) (hg : w.grownBy w' (some g')) (h1 : g ≠ g') (h2 : bnd ≤ g') : Tk w' g bnd st := by
  have hl := h.lt
  obtain ⟨h0, ⟨v, hv, hr⟩, hbd, hf⟩ := h
  have hc := fun j => hg.cell_far ⟨g, j, none⟩ hl (by simpa using h1)
  have hfr := fun j => hg.frozen_far ⟨g, j, none⟩ hl (by simpa using h1)
  exact ⟨h0, ⟨v, (hc 0).trans hv, hr.grown hg h2⟩, (hc 1).trans hbd, fun j => (hfr j).trans (hf j)⟩
theorem Tk.below {w w' : World} {g bnd : Nat} {st : List Int × Bool} (h : Tk w g bnd st) (hb : Below w.heap.size w w') : Tk w' g bnd st := by
  have hl := h.lt
  obtain ⟨h0, ⟨v, hv, hr⟩, hbd, hf⟩ := h
  exact ⟨h0, ⟨v, (hb.cell hl).trans hv, hr.below hb⟩, (hb.cell hl).trans hbd, fun j => (hb.frozen hl).trans (hf j)⟩
theorem Tk.set0 {w : World} {g bnd : Nat} {st : List Int × Bool} {v : Value} {ys : List Int} (h : Tk w g bnd st) (hl : Lies w bnd v ys) : Tk (w.setCell ⟨g, 0, none⟩ v) g bnd (ys, st.2) := by
  obtain ⟨h0, ⟨u, hv, hr⟩, hbd, hf⟩ := h
  exact ⟨h0, ⟨v, cell_set1 hv, hl.grown (grown_setCell w ⟨g, 0, none⟩ v) h0⟩, cell_set2 hbd (by decide), fun j => by rw [World.frozen?_setCell]; exact hf j⟩
theorem Tk.set1 {w : World} {g bnd : Nat} {st : List Int × Bool} {b : Bool} (h : Tk w g bnd st) : Tk (w.setCell ⟨g, 1, none⟩ (.bool b)) g bnd (st.1, b) := by
  obtain ⟨h0, ⟨u, hv, hr⟩, hbd, hf⟩ := h
  exact ⟨h0, ⟨u, cell_set2 hv (by decide), hr.grown (grown_setCell w ⟨g, 1, none⟩ _) h0⟩, cell_set1 hbd, fun j => by rw [World.frozen?_setCell]; exact hf j⟩
def takeT (st : List Int × Bool) (n : Int) : List Int × (List Int × Bool) := if st.2 = true then ([], ([], true)) else takeS st n
theorem takeT_eq {st : List Int × Bool} (h : st.2 = true → st.1 = []) (n : Int) : takeT st n = takeS st n := by
  unfold takeT
  split
  · rename_i hb
    unfold takeS
    rw [if_pos hb]
    obtain ⟨xs, b⟩ := st
    simp only at h hb
    rw [h hb, hb]
  · rfl
theorem takeS_inv {st : List Int × Bool} (h : st.2 = true → st.1 = []) (n : Int) : (takeS st n).2.2 = true → (takeS st n).2.1 = [] := by
  unfold takeS
  split
  · exact h
  · split
    · intro h; cases h
    · intro _; rfl
theorem takeT_len (st : List Int × Bool) (w : Int) : (takeT st (wS w)).1.length ≤ 8 := by
  unfold takeT; split
  · simp
  · exact takeS_len st w
set_option maxHeartbeats 2000000 in
theorem tbytes_calls (g bnd : Nat) (st : List Int × Bool) (n : Int) (w : World) (h : Tk w g bnd st) (n0 : -9223372036854775808 ≤ n) (n1 : n ≤ 9223372036854775807) :
    Calls Tryd.prog 18 #[.pointer (some ⟨g, 0, none⟩), .int .i64 n] w fun e w' => ∃ v, e = .returned v ∧ Lies w' bnd v (takeT st n).1 ∧ Tk w' g bnd (takeT st n).2 ∧ w.grownBy w' (some g) := by
  have HR := Lib.hid h
  have R1 := Lib.hid ((HR.out.set1 (b := true)).set0 (lies_nil _ _))
  have G1 := Lib.hid ((grown_setCell w ⟨g, 1, none⟩ (.bool true)).trans (grown_setCell _ ⟨g, 0, none⟩ (.slice none 0 0)))
  obtain ⟨h0, ⟨v, hv, hr⟩, hbd, hf⟩ := h
  obtain ⟨xs, bad⟩ := st
  have hf0 := hf 0
  have hf1 := hf 1
  cases bad with
  | true =>
    have E : takeT (xs, true) n = ([], ([], true)) := rfl
    rw [E]
    clear h0 hr E
    go_enter Tryd.func18, Tryd.ntmps18
    go_wp2
    go_ret
    exact ⟨_, rfl, lies_nil _ _, R1.out, G1.out⟩
  | false =>
    have E : takeT (xs, false) n = takeS (xs, false) n := rfl
    rw [E]
    clear E
    obtain ⟨a, cap, rfl, hc, hcm, hrow, hlo⟩ := hr
    simp only at hv hbd hc hrow
    by_cases hin : 0 ≤ n ∧ n ≤ xs.length
    · obtain ⟨hin0, hin1⟩ := hin
      obtain ⟨m, rfl⟩ := Int.eq_ofNat_of_zero_le hin0
      have hm1 : m ≤ xs.length := by omega
      rw [takeS_in hm1]
      have L1 := Lib.hid (take_lies hrow hlo hc hcm hm1)
      cases a with
      | none =>
        have hx : xs = [] := by
          rcases Nat.eq_zero_or_pos xs.length with h0 | h0
          · exact List.length_eq_zero_iff.1 h0
          · obtain ⟨ad, e, _⟩ := hrow.2.2 h0; cases e
        subst hx
        obtain rfl : m = 0 := by simpa using hm1
        clear hrow hlo
        simp only [List.length_nil] at hv
        go_enter Tryd.func18, Tryd.ntmps18
        go_wp2
        go_ret
        exact ⟨_, rfl, L1.out.grown (grown_setCell _ _ _) h0, HR.out.set0 (ys := List.drop 0 []) L1.out, grown_setCell w ⟨g, 0, none⟩ _⟩
      | some ad =>
        by_cases hmc : cap = m
        · have hx : xs.length = m := by omega
          have L2 := Lib.hid (drop_lies0 (w := w) (bnd := bnd) (ad := ad) (show xs.length = m by omega) (by omega))
          clear hrow hlo
          subst hmc
          rw [hx] at hv
          go_enter Tryd.func18, Tryd.ntmps18
          go_wp2
          go_ret
          exact ⟨_, rfl, L1.out.grown (grown_setCell _ _ _) h0, HR.out.set0 L2.out, grown_setCell w ⟨g, 0, none⟩ _⟩
        · have hmc2 : m < cap := by omega
          have L2 := Lib.hid (drop_lies hrow (fun hp => hlo hp ad rfl) hc hcm hm1)
          clear hrow hlo
          go_enter Tryd.func18, Tryd.ntmps18
          go_wp2
          go_ret
          exact ⟨_, rfl, L1.out.grown (grown_setCell _ _ _) h0, HR.out.set0 L2.out, grown_setCell w ⟨g, 0, none⟩ _⟩
    · rw [takeS_out hin]
      have hd : n < 0 ∨ (0 ≤ n ∧ (xs.length : Int) < n) := by omega
      clear hrow hlo
      rcases hd with hd | ⟨hd, hd2⟩
      · go_enter Tryd.func18, Tryd.ntmps18
        go_wp2
        go_ret
        exact ⟨_, rfl, lies_nil _ _, R1.out, G1.out⟩
      · go_enter Tryd.func18, Tryd.ntmps18
        go_wp2
        go_ret
        exact ⟨_, rfl, lies_nil _ _, R1.out, G1.out⟩
set_option maxHeartbeats 2000000 in
theorem tu_calls (g bnd : Nat) (st : List Int × Bool) (n : Int) (w : World) (h : Tk w g bnd st) :
    Calls Tryd.prog 16 #[.pointer (some ⟨g, 0, none⟩), .int .i64 n] w fun e w' => e = .returned (.int .u64 (ofS (takeT st (wS n)).1)) ∧ Tk w' g bnd (takeT st (wS n)).2 ∧ w.grownBy w' (some g) := by
  cases hw : wideS n
  · have e : wS n = -1 := by unfold wS; rw [hw]; rfl
    have e2 : takeT st (-1) = ([], ([], true)) := by
      unfold takeT; split
      · rfl
      · obtain ⟨xs, b⟩ := st
        cases b
        · exact takeS_out (by omega)
        · simp at *
    rw [e, e2]
    have R1 := Lib.hid ((h.set1 (b := true)).set0 (lies_nil _ _))
    have G1 := Lib.hid ((grown_setCell w ⟨g, 1, none⟩ (.bool true)).trans (grown_setCell _ ⟨g, 0, none⟩ (.slice none 0 0)))
    obtain ⟨h0, ⟨v, hv, hr⟩, hbd, hf⟩ := h
    have hf0 := hf 0
    have hf1 := hf 1
    have hn : n < 1 ∨ (1 ≤ n ∧ 8 < n) := by have := of_decide_eq_false hw; omega
    clear hr hw e e2
    rcases hn with hn | ⟨hn, hn2⟩ <;> (
      go_enter Tryd.func16, Tryd.ntmps16
      go_wp2
      go_ret
      exact ⟨rfl, R1.out, G1.out⟩)
  · have e : wS n = n := by unfold wS; rw [hw]; rfl
    have hn := of_decide_eq_true hw
    have TC := Lib.hid (tbytes_calls g bnd st n w h (by omega) (by omega))
    have hl := takeT_len st n
    rw [e] at hl ⊢
    obtain ⟨hn1, hn2⟩ := hn
    clear e h hw
    go_enter Tryd.func16, Tryd.ntmps16
    go_wp2_with (first
      | (go_at_call 18; (with_reducible refine (TC.out).mono ?_); rintro e w1 ⟨v, rfl, hr, hrd, hg⟩; obtain ⟨a, cap, rfl, _, _, hrow, _⟩ := hr; have NC := Lib.hid (of_calls a cap _ w1 hrow hl); have HR := Lib.hid hrd; have HG := Lib.hid hg; clear hrow hrd hg)
      | (go_at_call 11; (with_reducible refine (NC.out).mono ?_); rintro e w' ⟨rfl, rfl⟩))
    go_ret
    exact ⟨rfl, HR.out, HG.out⟩
end Go.Proofs.YthdknlnbpedlpaaDoor.Ct
