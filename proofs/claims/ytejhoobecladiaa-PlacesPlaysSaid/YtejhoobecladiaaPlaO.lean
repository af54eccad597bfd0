import Derived.Test.YtejhoobecladiaaPlaM
import Derived.Test.YtejhoobecladiaaPlaN
/-! Chapter 27, the reference: Free, Within; rows that are the same. -/
namespace Go.Proofs.Ytejhoobecladiaa.Ct
open Go.RowKit
set_option linter.unusedVariables false
set_option linter.unusedSimpArgs false
set_option maxHeartbeats 2000000 in
theorem same_calls (a b : Option Addr) (cap cap' : Nat) (xs : List Int) (w : World) (h : Row .i64 w a xs) (h' : Row .i64 w b xs) :
    Calls Try.prog 26 #[.slice a xs.length cap, .slice b xs.length cap'] w fun e w' => e = .returned (.bool true) ∧ Below w.heap.size w w' := by
  have hl := h.len
  have H := Lib.hid h; have H' := Lib.hid h'; clear h h'
  go_enter Try.func26, Try.ntmps26
  go_wp2
  go_loopw [5] (fun i wr => ∃ k m : Nat, k ≤ xs.length ∧ i = .int .i64 (k : Int) ∧ wr = w.drewN m) (fun i _ => xs.length - (intOf i).toNat)
  case atStart => exact ⟨0, 0, by omega, rfl, rfl⟩
  case round =>
    obtain ⟨k, m, hk, rfl, rfl⟩ := hrel
    by_cases hlt : k < xs.length
    · obtain ⟨ad, rfl, hc, -⟩ := H.out.at_ hlt
      obtain ⟨ad', rfl, hc', -⟩ := H'.out.at_ hlt
      have hk2 : (k : Int) < xs.length := by omega
      go_wp2
      go_quiet (fail)
      go_wp2
      exact ⟨⟨k + 1, _, by omega, by go_num, rfl⟩, by simp [intOf]; omega⟩
    · obtain rfl : k = xs.length := by omega
      go_wp2
      go_ret
      exact ⟨rfl, below_drewN (Below.refl _ _) _⟩
theorem own_same {w : World} {E E' : TypeId} {b1 b2 : Nat} {u v : Value} {xs : List Int} (h : Own .i64 E w b1 u xs) (h' : Own .i64 E' w b2 v xs) :
    Calls Try.prog 26 #[u, v] w fun e w' => e = .returned (.bool true) ∧ Below w.heap.size w w' := by
  obtain ⟨a, ac, rfl, -, -, ha, -⟩ := h.form
  obtain ⟨b, bc, rfl, -, -, hb, -⟩ := h'.form
  exact same_calls a b ac bc xs w ha hb
/-- a row of entries that is read. -/
def RowE (w : World) (a : Option Addr) (s : Nat → One27) (l : List Nat) : Prop :=
  l.length ≤ maxLen ∧ (0 < l.length → ∃ g, a = some ⟨g, 0, none⟩ ∧ ∀ j, j < l.length → w.cell? ⟨g, j * 3, none⟩ = some (.int .i64 (l.getD j 0 : Nat)) ∧ w.cell? ⟨g, j * 3 + 1, none⟩ = some (.int .i64 (((s (l.getD j 0)).lba - 1 : Nat) : Int)) ∧ w.cell? ⟨g, j * 3 + 2, none⟩ = some (.int .u64 (s (l.getD j 0)).tag))
theorem entCells_get (s : Nat → One27) : ∀ (l : List Nat) (j : Nat), j < l.length → (entCells s l)[j * 3]? = some (.int .i64 (l.getD j 0 : Nat)) ∧ (entCells s l)[j * 3 + 1]? = some (.int .i64 (((s (l.getD j 0)).lba - 1 : Nat) : Int)) ∧ (entCells s l)[j * 3 + 2]? = some (.int .u64 (s (l.getD j 0)).tag)
  | [], j, h => absurd h (by simp)
  | y :: l, 0, _ => ⟨rfl, rfl, rfl⟩
  | y :: l, j + 1, h => by
    obtain ⟨h1, h2, h3⟩ := entCells_get s l j (by simpa using h)
    have e : entCells s (y :: l) = entC s y ++ entCells s l := rfl
    have e1 : (entC s y).length = 3 := rfl
    rw [e]
    refine ⟨?_, ?_, ?_⟩
    · rw [List.getElem?_append_right (by omega), e1, show (j + 1) * 3 - 3 = j * 3 by omega, h1]; simp
    · rw [List.getElem?_append_right (by omega), e1, show (j + 1) * 3 + 1 - 3 = j * 3 + 1 by omega, h2]; simp
    · rw [List.getElem?_append_right (by omega), e1, show (j + 1) * 3 + 2 - 3 = j * 3 + 2 by omega, h3]; simp
theorem EntR.form {w : World} {b : Nat} {v : Value} {s : Nat → One27} {l : List Nat} (h : EntR w b v s l) : ∃ a cap, v = .slice a l.length cap ∧ l.length ≤ cap ∧ cap ≤ 9223372036854775807 ∧ RowE w a s l := by
  rcases h.2 with ⟨rfl, h0⟩ | ⟨g, cap, cur, rfl, hb, hh, hn, hc, hs, ht⟩
  · rw [h0]
    exact ⟨none, 0, rfl, by omega, by omega, by unfold maxLen; omega, fun hp => by omega⟩
  · refine ⟨_, cap, rfl, hn, by unfold maxLen at hc; omega, by omega, fun hp => ⟨g, rfl, fun j hj => ?_⟩⟩
    have hk : Blk w g 34 cur := hh
    obtain ⟨h1, h2, h3⟩ := entCells_get s l j hj
    have hg : ∀ i, i < l.length * 3 → w.cell? ⟨g, i, none⟩ = (entCells s l)[i]? := fun i hi => by
      rw [hk.cell, ← ht, List.getElem?_take, if_pos hi]; simp
    exact ⟨(hg _ (by omega)).trans h1, (hg _ (by omega)).trans h2, (hg _ (by omega)).trans h3⟩
set_option maxHeartbeats 2000000 in
theorem samee_calls (a b : Option Addr) (cap cap' : Nat) (s : Nat → One27) (xs : List Nat) (w : World) (h : RowE w a s xs) (h' : RowE w b s xs) :
    Calls Try.prog 16 #[.slice a xs.length cap, .slice b xs.length cap'] w fun e w' => e = .returned (.bool true) ∧ Below w.heap.size w w' := by
  have hl : xs.length ≤ 9223372036854775807 := by have := h.1; unfold maxLen at this; omega
  have H := Lib.hid h.2; have H' := Lib.hid h'.2; clear h h'
  go_enter Try.func16, Try.ntmps16
  go_wp2
  go_loopw [5] (fun i wr => ∃ k m : Nat, k ≤ xs.length ∧ i = .int .i64 (k : Int) ∧ wr = w.drewN m) (fun i _ => xs.length - (intOf i).toNat)
  case atStart => exact ⟨0, 0, by omega, rfl, rfl⟩
  case round =>
    obtain ⟨k, m, hk, rfl, rfl⟩ := hrel
    by_cases hlt : k < xs.length
    · obtain ⟨g, rfl, hg⟩ := H.out (by omega)
      obtain ⟨g', rfl, hg'⟩ := H'.out (by omega)
      obtain ⟨c0, c1, c2⟩ := hg k hlt
      obtain ⟨d0, d1, d2⟩ := hg' k hlt
      have hk2 : (k : Int) < xs.length := by omega
      clear hg hg'
      generalize (((s (xs.getD k 0)).lba - 1 : Nat) : Int) = vl at *
      generalize ((xs.getD k 0 : Nat) : Int) = vi at *
      generalize (s (xs.getD k 0)).tag = vt at *
      go_wp2
      go_quiet (fail)
      go_wp2
      exact ⟨⟨k + 1, _, by omega, by go_num, rfl⟩, by simp [intOf]; omega⟩
    · obtain rfl : k = xs.length := by omega
      go_wp2
      go_ret
      exact ⟨rfl, below_drewN (Below.refl _ _) _⟩
theorem ent_same {w : World} {b1 b2 : Nat} {u v : Value} {s : Nat → One27} {l : List Nat} (h : EntR w b1 u s l) (h' : EntR w b2 v s l) :
    Calls Try.prog 16 #[u, v] w fun e w' => e = .returned (.bool true) ∧ Below w.heap.size w w' := by
  obtain ⟨a, ac, rfl, -, -, ha⟩ := h.form
  obtain ⟨b, bc, rfl, -, -, hb⟩ := h'.form
  exact samee_calls a b ac bc s l w ha hb
section
variable {base x gl n m : Nat} {w w1 : World} {s : Nat → One27}
set_option maxHeartbeats 4000000 in
theorem rfreeQ (h : RS base w x gl n m s) (hm : m ≤ 100000) (l : Int) :
    Calls Try.prog 33 #[.pointer (some ⟨x, 0, none⟩), .int .i64 l] w fun e w' => ∃ v, e = .returned v ∧ Own .i64 3 w' w.heap.size v (freeZ m s l) ∧ Below w.heap.size w w' := by
  have HW := Lib.hid (fun W (hb : Below w.heap.size w W) => (h.below hb))
  obtain ⟨c, hc⟩ : ∃ c : Nat, min (max l 0) (m : Int) = c := ⟨(min (max l 0) m).toNat, by omega⟩
  have hcm : c ≤ m := by omega
  have HC := Lib.hid (show ∀ k : Nat, k < c ↔ ((k : Int) < m ∧ (k : Int) < l) from fun k => by omega)
  unfold freeZ
  rw [hc, Int.toNat_natCast]
  clear h hc
  go_enter Try.func33, Try.ntmps33
  go_wp2
  go_loopw [5, 6] (fun o j wr => ∃ k : Nat, k ≤ c ∧ j = .int .i64 k ∧ Own .i64 3 wr w.heap.size o (freeL s k) ∧ Below w.heap.size w wr) (fun _ j _ => c - (intOf j).toNat)
  case atStart => exact ⟨0, by omega, rfl, own_nil _ _ _ _, Below.refl _ _⟩
  case round =>
    obtain ⟨k, hk, rfl, hown, hbel⟩ := hrel
    have HO := Lib.hid hown; clear hown
    have HB := Lib.hid hbel; clear hbel
    have HP := Lib.hid (HW.out wr HB.out)
    have c1 := HP.out.cx.2
    by_cases hlt : k < c
    · obtain ⟨hki, hkl⟩ := (HC.out k).1 hlt
      have e0 := (HP.out.cl (by omega : k < m)).1
      have hlen := freeL_len s k
      have N0 := Lib.hid (@freeL_hit s k)
      have N1 := Lib.hid (@freeL_miss s k)
      generalize (s k).lba = q at *
      generalize freeL s k = L at *
      by_cases hq0 : q = 0
      · subst hq0
        have N := Lib.hid (N0.out rfl)
        replace e0 : wr.cell? ⟨gl, k * 4, none⟩ = some (.bool false) := e0
        clear N0 N1
        go_wp2_with (first
          | (at_builtin; refine wp_app1 38 3 .i64 8 Try.underlying38 infoI rfl (.tmp 30) (.tmp 32) rfl w.heap.size _ L (k : Int) (by repeat (first | with_reducible apply Own.alloc | with_reducible apply Own.drewN | with_reducible apply Own.drew | exact HO.out)) rfl _ rfl (by simp [go_sem]) (i64wf (by unfold I64; omega)) (by omega) (by decide) (by have := HB.out.size; simp; omega) ?_; intro v2 w2 hown hg; have HB2 := Lib.hid (Below.app (k := .i64) (E := 3) (base := w.heap.size) (xs := L) (by repeat (first | with_reducible exact HB.out | with_reducible apply below_alloc | with_reducible apply below_drewN | with_reducible apply below_drew)) hg (by repeat (first | with_reducible apply Own.alloc | with_reducible apply Own.drewN | with_reducible apply Own.drew | exact HO.out)) (Nat.le_refl _) (by have := HB.out.size; simp; omega)); have HO2 := Lib.hid hown; have HG2 := Lib.hid hg; clear hown hg))
        go_roundw
        case rel => exact ⟨k + 1, by omega, by go_num, by rw [N.out]; exact HO2.out, HB2.out⟩
        case measure => simp [intOf]; omega
      · have N := Lib.hid (N1.out hq0)
        have ed : decide (q ≠ 0) = true := by simp [hq0]
        rw [ed] at e0
        clear N0 N1 ed
        go_wp2
        go_roundw
        case rel => exact ⟨k + 1, by omega, by go_num, by rw [N.out]; exact HO.out, HB.out⟩
        case measure => simp [intOf]; omega
    · obtain rfl : k = c := by omega
      have hno := fun h => hlt ((HC.out k).2 h)
      by_cases h1 : (k : Int) < m
      · have h2 : ¬ (k : Int) < l := fun h2 => hno ⟨h1, h2⟩
        have h3 : l ≤ (k : Int) := by omega
        clear hno
        go_wp2
        go_ret
        exact ⟨_, rfl, HO.out, HB.out⟩
      · have h3 : (m : Int) ≤ (k : Int) := by omega
        clear hno
        go_wp2
        go_ret
        exact ⟨_, rfl, HO.out, HB.out⟩
/-- which slots of the first k have one of a row of blocks, as the reference asks. -/
theorem wit_iff {q : Nat} {lo nn : Int} (hq : q ≤ 100000) (hlo : I64 lo) (hnn : I64 nn) : (lo ≤ (q : Int) ∧ (q : Int) < sat (lo + max nn 0)) ↔ (1 ≤ nn ∧ lo ≤ q ∧ (lo < 0 → (q : Int) < lo + nn) ∧ (0 ≤ lo → (q : Int) - lo < nn)) := by
  unfold I64 at hlo hnn
  unfold sat
  by_cases h1 : 1 ≤ nn
  · rw [show max nn 0 = nn by omega]
    split
    · omega
    · split <;> omega
  · rw [show max nn 0 = 0 by omega]
    split
    · omega
    · split <;> omega
end
end Go.Proofs.Ytejhoobecladiaa.Ct
