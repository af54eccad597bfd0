import Derived.Test.YthmhpjpnlngaoaaDoorOctetRef
import Derived.Deep.AppendLies
/-! octet.Reader. -/
namespace Go.Proofs.YthmhpjpnlngaoaaDoor.Ct
open Go.RowKit
set_option linter.unusedVariables false
set_option linter.unusedSimpArgs false
/-- what is kept behind a step that may write one block alone. -/
theorem Row.grown {k : IntKind} {w w' : World} {a : Option Addr} {xs : List Int} {row : Option Nat} (h : Row k w a xs) (hg : w.grownBy w' row) (hne : ∀ ad, a = some ad → some ad.block ≠ row) : Row k w' a xs :=
  ⟨h.1, h.2.1, fun hp => by
    obtain ⟨ad, e, hc⟩ := h.2.2 hp
    exact ⟨ad, e, fun j hj => (hg.cell_far _ (World.block_lt_of_cell? w _ (hc j hj)) (by have := hne ad e; simp only [Addr.add]; split <;> simpa using this)).trans (hc j hj)⟩⟩
theorem grown_setCell (w : World) (a : Addr) (u : Value) : w.grownBy (w.setCell a u) (some a.block) :=
  ⟨rfl, rfl, rfl, by unfold World.setCell; simp, fun i _ hne => Below.heap_setCell w a u i (fun e => hne (by rw [e]))⟩
theorem below_of_grown {B g : Nat} {w0 w w' : World} (h : Below B w0 w) (hg : w.grownBy w' (some g)) (hB : B ≤ w.heap.size) (hb : B ≤ g) : Below B w0 w' := h.grown hg hB (fun k e => by cases e; exact hb)
theorem bnd_of_row {k : IntKind} {w : World} {a : Option Addr} {xs : List Int} (h : Row k w a xs) (hp : 0 < xs.length) : ∀ ad, a = some ad → ad.block < w.heap.size := fun ad e => by
  obtain ⟨ad', e', hc⟩ := h.2.2 hp
  rw [e] at e'; cases e'
  have := World.block_lt_of_cell? w _ (hc 0 hp)
  simpa [Addr.add] using this

/-- A slice value whose data lie below a block. -/
def Lies (w : World) (bnd : Nat) (v : Value) (xs : List Int) : Prop := ∃ a cap, v = .slice a xs.length cap ∧ xs.length ≤ cap ∧ cap ≤ 9223372036854775807 ∧ Row .u8 w a xs ∧ (0 < xs.length → ∀ ad, a = some ad → ad.block < bnd)
theorem Lies.grown {w w' : World} {bnd : Nat} {v : Value} {xs : List Int} {g : Nat} (h : Lies w bnd v xs) (hg : w.grownBy w' (some g)) (hb : bnd ≤ g) : Lies w' bnd v xs := by
  obtain ⟨a, cap, e, h1, h2, h3, h4⟩ := h
  refine ⟨a, cap, e, h1, h2, ?_, h4⟩
  rcases Nat.eq_zero_or_pos xs.length with h0 | h0
  · exact ⟨h3.1, h3.2.1, fun hp => absurd hp (by omega)⟩
  · exact h3.grown hg (fun ad e hh => by have := h4 h0 ad e; simp only [Option.some.injEq] at hh; omega)
theorem Lies.below {w w' : World} {bnd : Nat} {v : Value} {xs : List Int} (h : Lies w bnd v xs) (hb : Below w.heap.size w w') : Lies w' bnd v xs := by
  obtain ⟨a, cap, e, h1, h2, h3, h4⟩ := h
  exact ⟨a, cap, e, h1, h2, h3.below hb, h4⟩
theorem lies_nil (w : World) (bnd : Nat) : Lies w bnd (.slice none 0 0) [] := ⟨none, 0, rfl, by simp, by omega, row_nil _ _, fun _ _ h => by cases h⟩
theorem Lies.mono {w : World} {b b' : Nat} {v : Value} {xs : List Int} (h : Lies w b v xs) (hb : b ≤ b') : Lies w b' v xs := by
  obtain ⟨a, cap, e, h1, h2, h3, h4⟩ := h
  exact ⟨a, cap, e, h1, h2, h3, fun hp ad e => Nat.lt_of_lt_of_le (h4 hp ad e) hb⟩

/-- A reader in block g: what is left, whether it was made, whether it is bad. -/
def Rd (w : World) (g bnd : Nat) (st : List Int × Bool) (made : Bool) : Prop :=
  bnd ≤ g ∧ (∃ v, w.cell? ⟨g, 0, none⟩ = some v ∧ Lies w bnd v st.1) ∧ w.cell? ⟨g, 1, none⟩ = some (.bool made) ∧ w.cell? ⟨g, 2, none⟩ = some (.bool st.2) ∧ ∀ j, w.frozen? ⟨g, j, none⟩ = false
theorem Rd.lt {w : World} {g bnd : Nat} {st : List Int × Bool} {made : Bool} (h : Rd w g bnd st made) : g < w.heap.size := World.block_lt_of_cell? w _ h.2.2.1
theorem Rd.grown {w w' : World} {g bnd g' : Nat} {st : List Int × Bool} {made : Bool} (h : Rd w g bnd st made) (hg : w.grownBy w' (some g')) (h1 : g ≠ g') (h2 : bnd ≤ g') : Rd w' g bnd st made := by
  have hl := h.lt
  obtain ⟨h0, ⟨v, hv, hr⟩, hm, hbd, hf⟩ := h
  have hc := fun j => hg.cell_far ⟨g, j, none⟩ hl (by simpa using h1)
  have hfr := fun j => hg.frozen_far ⟨g, j, none⟩ hl (by simpa using h1)
  exact ⟨h0, ⟨v, (hc 0).trans hv, hr.grown hg h2⟩, (hc 1).trans hm, (hc 2).trans hbd, fun j => (hfr j).trans (hf j)⟩
theorem Rd.below {w w' : World} {g bnd : Nat} {st : List Int × Bool} {made : Bool} (h : Rd w g bnd st made) (hb : Below w.heap.size w w') : Rd w' g bnd st made := by
  have hl := h.lt
  obtain ⟨h0, ⟨v, hv, hr⟩, hm, hbd, hf⟩ := h
  exact ⟨h0, ⟨v, (hb.cell hl).trans hv, hr.below hb⟩, (hb.cell hl).trans hm, (hb.cell hl).trans hbd, fun j => (hb.frozen hl).trans (hf j)⟩
/-- What a step takes: what it answers, and what is behind it. -/
def takeS (st : List Int × Bool) (n : Int) : List Int × (List Int × Bool) :=
  if st.2 = true then ([], st) else if 0 ≤ n ∧ n ≤ st.1.length then (st.1.take n.toNat, (st.1.drop n.toNat, false)) else ([], ([], true))
theorem cell_set2 {w : World} {g j j' : Nat} {v u : Value} (h : w.cell? ⟨g, j, none⟩ = some u) (hne : j' ≠ j) : (w.setCell ⟨g, j', none⟩ v).cell? ⟨g, j, none⟩ = some u := by
  exact (World.cell?_setCell_other (w := w) (a := ⟨g, j', none⟩) (b := ⟨g, j, none⟩) (v := v) (h := by simp [hne])).trans h
theorem cell_set1 {w : World} {g j : Nat} {v u : Value} (h : w.cell? ⟨g, j, none⟩ = some u) : (w.setCell ⟨g, j, none⟩ v).cell? ⟨g, j, none⟩ = some v :=
  World.cell?_setCell_same (w := w) (a := ⟨g, j, none⟩) (v := v) (h := h)
theorem Rd.set0 {w : World} {g bnd : Nat} {st : List Int × Bool} {made : Bool} {v : Value} {ys : List Int} (h : Rd w g bnd st made) (hl : Lies w bnd v ys) : Rd (w.setCell ⟨g, 0, none⟩ v) g bnd (ys, st.2) made := by
  obtain ⟨h0, ⟨u, hv, hr⟩, hm, hbd, hf⟩ := h
  exact ⟨h0, ⟨v, cell_set1 hv, hl.grown (grown_setCell w ⟨g, 0, none⟩ v) h0⟩, cell_set2 hm (by decide), cell_set2 hbd (by decide), fun j => by rw [World.frozen?_setCell]; exact hf j⟩
theorem Rd.set2 {w : World} {g bnd : Nat} {st : List Int × Bool} {made b : Bool} (h : Rd w g bnd st made) : Rd (w.setCell ⟨g, 2, none⟩ (.bool b)) g bnd (st.1, b) made := by
  obtain ⟨h0, ⟨u, hv, hr⟩, hm, hbd, hf⟩ := h
  exact ⟨h0, ⟨u, cell_set2 hv (by decide), hr.grown (grown_setCell w ⟨g, 2, none⟩ _) h0⟩, cell_set2 hm (by decide), cell_set1 hbd, fun j => by rw [World.frozen?_setCell]; exact hf j⟩
theorem take_lies {w : World} {bnd cap m : Nat} {a : Option Addr} {xs : List Int} (h : Row .u8 w a xs) (hl : 0 < xs.length → ∀ ad, a = some ad → ad.block < bnd) (hc : xs.length ≤ cap) (hm : cap ≤ 9223372036854775807) (h1 : m ≤ xs.length) : Lies w bnd (.slice a m cap) (xs.take m) := by
  have l1 : (xs.take m).length = m := by rw [List.length_take]; omega
  exact ⟨a, cap, by rw [l1], by omega, hm, h.take m, fun hp => hl (by omega)⟩
theorem drop_lies {w : World} {bnd cap m : Nat} {ad : Addr} {xs : List Int} (h : Row .u8 w (some ad) xs) (hl : 0 < xs.length → ad.block < bnd) (hc : xs.length ≤ cap) (hm : cap ≤ 9223372036854775807) (h1 : m ≤ xs.length) : Lies w bnd (.slice (some (ad.add m)) (xs.length - m) (cap - m)) (xs.drop m) := by
  have l2 : (xs.drop m).length = xs.length - m := List.length_drop
  refine ⟨some (ad.add m), cap - m, by rw [l2], by omega, by omega, ?_, fun hp ad' e => ?_⟩
  · have := slice_mid h m (xs.length - m) (by omega) ad rfl
    rwa [List.take_of_length_le (by rw [l2]; omega)] at this
  · simp only [Option.some.injEq] at e
    subst e
    have := hl (by omega)
    simp only [Addr.add]; split <;> simpa using this
theorem drop_lies0 {w : World} {bnd cap : Nat} {ad : Addr} {xs : List Int} (hc : xs.length = cap) (hm : cap ≤ 9223372036854775807) : Lies w bnd (.slice (some ad) 0 0) (xs.drop cap) := by
  have : xs.drop cap = [] := List.drop_eq_nil_iff.2 (by omega)
  rw [this]
  exact ⟨some ad, 0, rfl, by simp, by omega, ⟨by decide, by simp, fun h => by simp at h⟩, fun h => by simp at h⟩
theorem takeS_in {xs : List Int} {m : Nat} (h : m ≤ xs.length) : takeS (xs, false) m = (xs.take m, (xs.drop m, false)) := by
  unfold takeS; simp only [Bool.false_eq_true, if_false]; rw [if_pos ⟨by omega, by omega⟩, Int.toNat_natCast]
theorem takeS_out {xs : List Int} {n : Int} (h : ¬ (0 ≤ n ∧ n ≤ xs.length)) : takeS (xs, false) n = ([], ([], true)) := by
  unfold takeS; simp only [Bool.false_eq_true, if_false]; rw [if_neg h]
set_option maxHeartbeats 2000000 in
theorem take_calls (g bnd : Nat) (st : List Int × Bool) (n : Int) (w : World) (h : Rd w g bnd st true) (n0 : -9223372036854775808 ≤ n) (n1 : n ≤ 9223372036854775807) :
    Calls Tryd.prog 51 #[.pointer (some ⟨g, 0, none⟩), .int .i64 n] w fun e w' => ∃ v, e = .returned v ∧ Lies w' bnd v (takeS st n).1 ∧ Rd w' g bnd (takeS st n).2 true ∧ w.grownBy w' (some g) := by
  have HR := Lib.hid h
  obtain ⟨h0, ⟨v, hv, hr⟩, hm, hbd, hf⟩ := h
  obtain ⟨xs, bad⟩ := st
  cases bad with
  | true =>
    have E : takeS (xs, true) n = ([], (xs, true)) := rfl
    rw [E]
    clear h0 hv hr E
    go_enter Tryd.func51, Tryd.ntmps51
    go_wp2
    go_ret
    exact ⟨_, rfl, lies_nil _ _, HR.out, World.grownBy.refl _ _⟩
  | false =>
    obtain ⟨a, cap, rfl, hc, hcm, hrow, hlo⟩ := hr
    have hf0 := hf 0
    have hf2 := hf 2
    simp only at hv hbd hc hrow
    by_cases hin : 0 ≤ n ∧ n ≤ xs.length
    · obtain ⟨hin0, hin1⟩ := hin
      obtain ⟨m, rfl⟩ := Int.eq_ofNat_of_zero_le hin0
      have hm1 : m ≤ xs.length := by omega
      rw [takeS_in hm1]
      have L1 := Lib.hid (take_lies hrow hlo hc hcm hm1)
      cases a with
      | none =>
        have hx : xs = [] := by
          rcases Nat.eq_zero_or_pos xs.length with h0 | h0
          · exact List.length_eq_zero_iff.1 h0
          · obtain ⟨ad, e, _⟩ := hrow.2.2 h0; cases e
        subst hx
        obtain rfl : m = 0 := by simpa using hm1
        clear hrow hlo
        simp only [List.length_nil] at hv
        go_enter Tryd.func51, Tryd.ntmps51
        go_wp2
        go_ret
        exact ⟨_, rfl, L1.out.grown (grown_setCell _ _ _) h0, HR.out.set0 (ys := List.drop 0 []) L1.out, grown_setCell w ⟨g, 0, none⟩ _⟩
      | some ad =>
        by_cases hmc : cap = m
        · have hx : xs.length = m := by omega
          have L2 := Lib.hid (drop_lies0 (w := w) (bnd := bnd) (ad := ad) (show xs.length = m by omega) (by omega))
          clear hrow hlo
          subst hmc
          rw [hx] at hv
          go_enter Tryd.func51, Tryd.ntmps51
          go_wp2
          go_ret
          exact ⟨_, rfl, L1.out.grown (grown_setCell _ _ _) h0, HR.out.set0 L2.out, grown_setCell w ⟨g, 0, none⟩ _⟩
        · have hmc2 : m < cap := by omega
          have L2 := Lib.hid (drop_lies hrow (fun hp => hlo hp ad rfl) hc hcm hm1)
          clear hrow hlo
          go_enter Tryd.func51, Tryd.ntmps51
          go_wp2
          go_ret
          exact ⟨_, rfl, L1.out.grown (grown_setCell _ _ _) h0, HR.out.set0 L2.out, grown_setCell w ⟨g, 0, none⟩ _⟩
    · rw [takeS_out hin]
      have G1 := Lib.hid ((grown_setCell w ⟨g, 2, none⟩ (.bool true)).trans (grown_setCell _ ⟨g, 0, none⟩ (.slice none 0 0)))
      have R1 := Lib.hid ((HR.out.set2 (b := true)).set0 (lies_nil _ _))
      have hd : n < 0 ∨ (0 ≤ n ∧ (xs.length : Int) < n) := by omega
      clear hrow hlo
      rcases hd with hd | ⟨hd, hd2⟩
      · go_enter Tryd.func51, Tryd.ntmps51
        go_wp2
        go_ret
        exact ⟨_, rfl, lies_nil _ _, R1.out, G1.out⟩
      · go_enter Tryd.func51, Tryd.ntmps51
        go_wp2
        go_ret
        exact ⟨_, rfl, lies_nil _ _, R1.out, G1.out⟩

/-! ### the methods -/
def wS (w : Int) : Int := if wideS w = true then w else -1
def uS (st : List Int × Bool) (w : Int) : Int := ofS (takeS st (wS w)).1
theorem takeS_len (st : List Int × Bool) (w : Int) : (takeS st (wS w)).1.length ≤ 8 := by
  unfold takeS
  split
  · simp
  · split
    · rename_i h
      have : wS w ≤ 8 := by
        unfold wS wideS
        split
        · rename_i h2; have := of_decide_eq_true h2; omega
        · omega
      simp only [List.length_take]; omega
    · simp
theorem wS_bd (w : Int) : -1 ≤ wS w ∧ wS w ≤ 8 := by
  unfold wS wideS
  split
  · rename_i h2; have := of_decide_eq_true h2; omega
  · omega
set_option maxHeartbeats 2000000 in
theorem u_calls (g bnd : Nat) (st : List Int × Bool) (n : Int) (w : World) (h : Rd w g bnd st true) :
    Calls Tryd.prog 31 #[.pointer (some ⟨g, 0, none⟩), .int .i64 n] w fun e w' => e = .returned (.int .u64 (uS st n)) ∧ Rd w' g bnd (takeS st (wS n)).2 true ∧ w.grownBy w' (some g) := by
  have hb := wS_bd n
  have TC := Lib.hid (take_calls g bnd st (wS n) w h (by omega) (by omega))
  have hl := takeS_len st n
  unfold uS
  have WC := Lib.hid (wide_calls n w)
  clear h
  cases hw : wideS n
  · have e : wS n = -1 := by unfold wS; rw [hw]; rfl
    rw [e] at TC hl hb ⊢
    rw [hw] at WC
    clear hb e hw
    go_enter Tryd.func31, Tryd.ntmps31
    go_wp2_with (first
      | (go_at_call 43; (with_reducible refine (WC.out).mono ?_); rintro e w' ⟨rfl, rfl⟩)
      | (go_at_call 51; (with_reducible refine (TC.out).mono ?_); rintro e w1 ⟨v, rfl, hr, hrd, hg⟩; obtain ⟨a, cap, rfl, _, _, hrow, _⟩ := hr; have NC := Lib.hid (number_calls a cap _ w1 hrow hl); have HR := Lib.hid hrd; have HG := Lib.hid hg; clear hrow hrd hg)
      | (go_at_call 50; (with_reducible refine (NC.out).mono ?_); rintro e w' ⟨rfl, rfl⟩))
    go_ret
    exact ⟨rfl, HR.out, HG.out⟩
  · have e : wS n = n := by unfold wS; rw [hw]; rfl
    rw [e] at TC hl hb ⊢
    rw [hw] at WC
    clear hb e hw
    go_enter Tryd.func31, Tryd.ntmps31
    go_wp2_with (first
      | (go_at_call 43; (with_reducible refine (WC.out).mono ?_); rintro e w' ⟨rfl, rfl⟩)
      | (go_at_call 51; (with_reducible refine (TC.out).mono ?_); rintro e w1 ⟨v, rfl, hr, hrd, hg⟩; obtain ⟨a, cap, rfl, _, _, hrow, _⟩ := hr; have NC := Lib.hid (number_calls a cap _ w1 hrow hl); have HR := Lib.hid hrd; have HG := Lib.hid hg; clear hrow hrd hg)
      | (go_at_call 50; (with_reducible refine (NC.out).mono ?_); rintro e w' ⟨rfl, rfl⟩))
    go_ret
    exact ⟨rfl, HR.out, HG.out⟩
set_option maxHeartbeats 2000000 in
theorem left_calls (g bnd : Nat) (st : List Int × Bool) (made : Bool) (w : World) (h : Rd w g bnd st made) :
    Calls Tryd.prog 34 #[.pointer (some ⟨g, 0, none⟩)] w fun e w' => e = .returned (.int .i64 st.1.length) ∧ w = w' := by
  obtain ⟨h0, ⟨v, hv, hr⟩, hm, hbd, hf⟩ := h
  obtain ⟨a, cap, rfl, hc, hcm, hrow, hlo⟩ := hr
  clear hrow hlo hc hm hbd hf
  go_enter Tryd.func34, Tryd.ntmps34
  go_wp2
  go_ret
  exact ⟨rfl, rfl⟩
end Go.Proofs.YthmhpjpnlngaoaaDoor.Ct
