import Derived.Test.YtminokbigpckaaaDoorLib
import Derived.BigRegion
namespace Go.Proofs.YtminokbigpckaaaDoor.Ct
open Go.RowKit
set_option linter.unusedVariables false
set_option linter.unusedSimpArgs false
/-- what stands after k exchanges. -/
def Half (xs ys : List Int) (k : Nat) : Prop := ys.length = xs.length ∧ ∀ t, t < xs.length → ys.getD t 0 = if t < k ∨ xs.length - 1 < t + k then xs.getD (xs.length - 1 - t) 0 else xs.getD t 0
theorem getD_set (xs : List Int) (j t : Nat) (z : Int) (hj : j < xs.length) : (xs.set j z).getD t 0 = if t = j then z else xs.getD t 0 := by
  simp only [List.getD_eq_getElem?_getD, List.getElem?_set]
  by_cases h : j = t
  · subst h; simp [hj]
  · rw [if_neg h, if_neg (fun e => h e.symm)]
theorem half_next {xs ys : List Int} {k : Nat} (h : Half xs ys k) (hk : 2 * k + 1 < xs.length) :
    Half xs ((ys.set k (ys.getD (xs.length - 1 - k) 0)).set (xs.length - 1 - k) (ys.getD k 0)) (k + 1) := by
  obtain ⟨hl, hg⟩ := h
  refine ⟨by simp [hl], fun t ht => ?_⟩
  rw [getD_set _ _ _ _ (by simp; omega), getD_set _ _ _ _ (by omega), hg k (by omega), hg (xs.length - 1 - k) (by omega)]
  by_cases h1 : t = xs.length - 1 - k
  · rw [if_pos h1, if_neg (by omega), if_pos (by omega), h1]
    congr 1; omega
  · rw [if_neg h1]
    by_cases h2 : t = k
    · rw [if_pos h2, if_neg (by omega), if_pos (by omega), h2]
    · rw [if_neg h2, hg t ht]
      by_cases h3 : t < k ∨ xs.length - 1 < t + k
      · rw [if_pos h3, if_pos (by omega)]
      · rw [if_neg h3, if_neg (by omega)]
theorem half_end {xs ys : List Int} {k : Nat} (h : Half xs ys k) (hk : xs.length ≤ 2 * k + 1) : ys = xs.reverse := by
  obtain ⟨hl, hg⟩ := h
  refine List.ext_getElem (by simp [hl]) fun i h1 h2 => ?_
  have hi : i < xs.length := by omega
  have := hg i hi
  simp only [List.getD_eq_getElem?_getD, List.getElem?_eq_getElem h1, Option.getD_some] at this
  rw [this, List.getElem_reverse]
  by_cases h3 : i < k ∨ xs.length - 1 < i + k
  · rw [if_pos h3, List.getElem?_eq_getElem (by omega), Option.getD_some]
  · rw [if_neg h3, List.getElem?_eq_getElem hi, Option.getD_some]
    congr 1; omega
theorem half_zero (xs : List Int) : Half xs xs 0 := ⟨rfl, fun t ht => by rw [if_neg (by omega)]⟩

set_option maxHeartbeats 1000000 in
theorem reverse_calls (v : Value) (xs : List Int) (w : World) (base : Nat) (h : Own .u8 5 w base v xs) :
    Calls Tryd.prog 45 #[v] w fun e w' => e = .returned (.tuple #[]) ∧ Own .u8 5 w' base v xs.reverse ∧ Below base w w' := by
  obtain ⟨a, cap, rfl, hcap, hm, hrow, hnil, hfr⟩ := h.form
  have hlen := hrow.len
  cases a with
  | none =>
    obtain ⟨rfl, rfl⟩ := hnil rfl
    have H := Lib.hid h; clear h hrow hfr hnil
    go_enter Tryd.func45, Tryd.ntmps45
    go_wp2
    go_loopw [2, 3] (fun i j wr => i = .int .i64 0 ∧ j = .int .i64 (-1) ∧ wr = w) (fun i j _ => 0)
    case atStart => exact ⟨rfl, rfl, rfl⟩
    case round =>
      obtain ⟨rfl, rfl, rfl⟩ := hrel
      go_wp2
      go_end0
      exact ⟨rfl, H.out, Below.refl _ _⟩
  | some ad =>
    obtain ⟨had, hbase, hfz⟩ := hfr ad rfl
    obtain ⟨g, hg⟩ : ∃ g, ad.block = g := ⟨_, rfl⟩
    rw [hg] at had hbase hfz
    subst had
    clear hg
    clear hfr hnil
    have H := Lib.hid h; clear h hrow hfz
    by_cases h0 : xs.length = 0
    · have : xs = [] := List.length_eq_zero_iff.1 h0
      subst this
      clear h0
      go_enter Tryd.func45, Tryd.ntmps45
      go_wp2
      go_loopw [2, 3] (fun i j wr => i = .int .i64 0 ∧ j = .int .i64 (-1) ∧ wr = w) (fun i j _ => 0)
      case atStart => exact ⟨rfl, rfl, rfl⟩
      case round =>
        obtain ⟨rfl, rfl, rfl⟩ := hrel
        go_wp2
        go_end0
        exact ⟨rfl, H.out, Below.refl _ _⟩
    · go_enter Tryd.func45, Tryd.ntmps45
      go_wp2
      go_loopw [2, 3] (fun i j wr => ∃ (k m : Nat) (ys : List Int), k + m + 1 = xs.length ∧ i = .int .i64 k ∧ j = .int .i64 m ∧ k ≤ m + 1 ∧ Half xs ys k ∧ Own .u8 5 wr base (.slice (some ⟨g, 0, none⟩) xs.length cap) ys ∧ Below base w wr) (fun i j _ => xs.length - (intOf i).toNat)
      case atStart => exact ⟨0, xs.length - 1, xs, by omega, rfl, by go_num, by omega, half_zero xs, H.out, Below.refl _ _⟩
      case round =>
        obtain ⟨k, m, ys, hk, rfl, rfl, hkm, hhalf, hown, hbel⟩ := hrel
        obtain ⟨a', cap', ev, _, _, hrow, _, hfr⟩ := hown.form
        simp only [Value.slice.injEq] at ev
        obtain ⟨rfl, hl, rfl⟩ := ev
        obtain ⟨_, _, hfz⟩ := hfr _ rfl
        by_cases hlt : k < m
        · obtain ⟨_, e1, c1, f1⟩ := hrow.at_ (j := k) (by omega)
          obtain ⟨_, e2, c2, f2⟩ := hrow.at_ (j := m) (by omega)
          simp only [Option.some.injEq] at e1 e2
          subst e1
          subst e2
          rw [add_plain] at c1 c2
          have z1 := hfz k
          have z2 := hfz m
          have hm1 : m < xs.length := by omega
          have hk1 : k < xs.length := by omega
          have hneq : ¬ k = m := by omega
          have hn := half_next hhalf (by omega)
          rw [show xs.length - 1 - k = m from by omega] at hn
          have so := (hown.store hl k (by omega) (ys.getD m 0) f2).store (by rw [List.length_set]; exact hl) m (by rw [List.length_set]; omega) (ys.getD k 0) f1
          have HH := Lib.hid hn; clear hn
          have HO := Lib.hid so; clear so
          have HB := Lib.hid hbel
          have HK := Lib.hid hk
          have HL := Lib.hid hl
          clear hhalf hown hbel hrow hfr hfz hk hl
          generalize ys.getD k 0 = yk at *
          generalize ys.getD m 0 = ym at *
          go_wp2
          go_region
          go_wp2
          go_roundw
          case rel => exact ⟨k + 1, m - 1, _, by have := HK.out; omega, by go_num, by go_num, by omega, HH.out, HO.out.drew, ((HB.out.setCell hbase _).setCell hbase _).drew⟩
          case measure => simp [intOf]; omega
        · have HE := Lib.hid (half_end hhalf (by omega))
          have HO := Lib.hid hown
          have HB := Lib.hid hbel
          clear hhalf hown hbel hrow hfr hfz hk hl hkm
          have hlt' : m ≤ k := by omega
          clear hlt
          go_wp2
          go_end0
          exact ⟨rfl, HE.out ▸ HO.out, HB.out⟩
end Go.Proofs.YtminokbigpckaaaDoor.Ct
