import Derived.Test.YtejhoobecladiaaPlaI
/-! Chapter 27: Free. -/
namespace Go.Proofs.Ytejhoobecladiaa.Ct
open Go.RowKit
set_option linter.unusedVariables false
set_option linter.unusedSimpArgs false
/-- the slots below k that have none. -/
def freeL (s : Nat → One27) : Nat → List Int
  | 0 => []
  | k + 1 => freeL s k ++ (if (s k).lba = 0 then [(k : Int)] else [])
def freeZ (m : Nat) (s : Nat → One27) (l : Int) : List Int := freeL s (min (max l 0) m).toNat
theorem freeL_len (s : Nat → One27) : ∀ k, (freeL s k).length + cnt27 s k = k
  | 0 => rfl
  | k + 1 => by
    have := freeL_len s k
    unfold freeL cnt27
    rw [List.length_append]
    split <;> simp <;> omega
theorem freeL_hit {s : Nat → One27} {k : Nat} (h : (s k).lba = 0) : freeL s (k + 1) = freeL s k ++ [(k : Int)] := by show freeL s k ++ _ = _; rw [if_pos h]
theorem freeL_miss {s : Nat → One27} {k : Nat} (h : (s k).lba ≠ 0) : freeL s (k + 1) = freeL s k := by show freeL s k ++ _ = _; rw [if_neg h, List.append_nil]
theorem infoI : (Try.prog.info? 3).map (fun i => (i.zero, i.size, i.bytes)) = some (some (.int .i64 0), 1, 8) := by kernel_rfl
theorem free_none (l : Int) (w : World) : Calls Try.prog 13 #[.pointer none, .int .i64 l] w fun e w' => e = .returned (.slice none 0 0) ∧ w = w' := by
  go_enter Try.func13, Try.ntmps13
  go_wp2
  go_ret
  exact ⟨rfl, rfl⟩
section
variable {base x gl gw n m : Nat} {w w1 : World} {s : Nat → One27}
set_option maxHeartbeats 4000000 in
theorem freeQ (h : LQ base w x gl gw n m s) (hn : n ≤ 100000) (hm : m ≤ 100000) (l : Int) :
    Calls Try.prog 13 #[.pointer (some ⟨x, 0, none⟩), .int .i64 l] w fun e w' => ∃ v, e = .returned v ∧ Own .i64 3 w' w.heap.size v (freeZ m s l) ∧ Below w.heap.size w w' := by
  have hle := h.le
  obtain ⟨wh, h⟩ := h
  obtain ⟨c, hc⟩ : ∃ c : Nat, min (max l 0) (m : Int) = c := ⟨(min (max l 0) m).toNat, by omega⟩
  have hcm : c ≤ m := by omega
  have mx := fun (ts : Array TypeId) (t : TypeId) (w : World) => max_run (P := Try.prog) l 0 ts t w
  have mn := fun (ts : Array TypeId) (t : TypeId) (w : World) => min_run (P := Try.prog) (max l 0) m ts t w
  unfold freeZ
  rw [hc] at mn ⊢
  rw [Int.toNat_natCast]
  generalize max l 0 = l2 at *
  have c0 := h.cx.1
  have HW := Lib.hid (fun W (hb : Below w.heap.size w W) => (h.below hb))
  clear h hc
  go_enter Try.func13, Try.ntmps13
  go_wp2
  go_loopw [5, 6, 17] (fun o u j wr => ∃ k : Nat, k ≤ c ∧ j = .int .i64 k ∧ Own .i64 3 wr w.heap.size o (freeL s k) ∧ Below w.heap.size w wr) (fun _ _ j _ => c - (intOf j).toNat)
  case atStart => exact ⟨0, by omega, rfl, own_nil _ _ _ _, Below.refl _ _⟩
  case round =>
    clear mx mn c0
    obtain ⟨k, hk, rfl, hown, hbel⟩ := hrel
    have HO := Lib.hid hown; clear hown
    have HB := Lib.hid hbel; clear hbel
    by_cases hlt : k < c
    · have hki : (k : Int) < c := by omega
      have hkm : (k : Int) < m := by omega
      have HP := Lib.hid (HW.out wr HB.out).ps
      have c0 := HP.out.cx.1
      have e0 := (HP.out.cl (by omega : k < m)).1
      have hlen := freeL_len s k
      have N0 := Lib.hid (@freeL_hit s k)
      have N1 := Lib.hid (@freeL_miss s k)
      have hq := hle k
      generalize (s k).lba = q at *
      generalize freeL s k = L at *
      by_cases hq0 : q = 0
      · subst hq0
        have N := Lib.hid (N0.out rfl)
        clear N0 N1
        go_wp2_with (first
          | (at_builtin; refine wp_app1 38 3 .i64 8 Try.underlying38 infoI rfl (.tmp 29) (.tmp 31) rfl w.heap.size _ L (k : Int) (by repeat (first | with_reducible apply Own.alloc | with_reducible apply Own.drewN | with_reducible apply Own.drew | exact HO.out)) rfl _ rfl (by simp [go_sem]) (i64wf (by unfold I64; omega)) (by omega) (by decide) (by have := HB.out.size; simp; omega) ?_; intro v2 w2 hown hg; have HB2 := Lib.hid (Below.app (k := .i64) (E := 3) (base := w.heap.size) (xs := L) (by repeat (first | with_reducible exact HB.out | with_reducible apply below_alloc | with_reducible apply below_drewN | with_reducible apply below_drew)) hg (by repeat (first | with_reducible apply Own.alloc | with_reducible apply Own.drewN | with_reducible apply Own.drew | exact HO.out)) (Nat.le_refl _) (by have := HB.out.size; simp; omega)); have HO2 := Lib.hid hown; have HG2 := Lib.hid hg; clear hown hg))
        go_roundw
        case rel => exact ⟨k + 1, by omega, by go_num, by rw [N.out]; exact HO2.out, HB2.out⟩
        case measure => simp [intOf]; omega
      · have N := Lib.hid (N1.out hq0)
        have hqz : ¬ (q : Int) = 0 := by omega
        have hqb : ((q : Int) == 0) = false := beq_eq_false_iff_ne.2 hqz
        clear N0 N1
        go_wp2
        go_roundw
        case rel => exact ⟨k + 1, by omega, by go_num, by rw [N.out]; exact HO.out, HB.out⟩
        case measure => simp [intOf]; omega
    · obtain rfl : k = c := by omega
      go_wp2
      go_ret
      exact ⟨_, rfl, HO.out, HB.out⟩
end
end Go.Proofs.Ytejhoobecladiaa.Ct
