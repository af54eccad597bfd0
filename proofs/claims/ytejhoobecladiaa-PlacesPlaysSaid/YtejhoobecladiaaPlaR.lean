import Derived.Test.YtejhoobecladiaaPlaO
import Derived.Deep.RegionHeldLaw
import Derived.Deep.AppendLies
/-! Chapter 27, the reference: Rows, Leaf. -/
namespace Go.Proofs.Ytejhoobecladiaa.Ct
open Go.RowKit
set_option linter.unusedVariables false
set_option linter.unusedSimpArgs false
theorem EntR.below {w w' : World} {b : Nat} {v : Value} {s : Nat → One27} {l : List Nat} (h : EntR w b v s l) (hb : Below w.heap.size w w') : EntR w' b v s l :=
  World.ownsRow.kept h (grown_of_below hb none) (by cases v.ownBlock <;> simp)
theorem EntR.drew {w : World} {b : Nat} {v : Value} {s : Nat → One27} {l : List Nat} (h : EntR w b v s l) : EntR w.drew b v s l := h
theorem EntR.drewN {w : World} {b : Nat} {v : Value} {s : Nat → One27} {l : List Nat} (h : EntR w b v s l) (n : Nat) : EntR (w.drewN n) b v s l := h
theorem EntR.alloc {w : World} {b : Nat} {v : Value} {s : Nat → One27} {l : List Nat} (h : EntR w b v s l) (o : Obj) : EntR (w.alloc o) b v s l := h.below (below_alloc (Below.refl _ _) _)
theorem EntR.lt {w : World} {b : Nat} {v : Value} {s : Nat → One27} {l : List Nat} (h : EntR w b v s l) : ∀ g, v.ownBlock = some g → b ≤ g := fun g e => (World.ownsRow.lt h g e).1
theorem wrap_nat {j : Nat} (h : j ≤ 200000) : IntKind.i64.wrap (j : Int) = j := by
  rw [IntKind.wrap_i64]; omega
section
variable {base x gl n m : Nat} {w w1 : World} {s : Nat → One27}
set_option maxRecDepth 100000 in
set_option maxHeartbeats 8000000 in
theorem rrowsQ (h : RS base w x gl n m s) (hf : ∀ j, j < m → (s j).lba ≤ n) (hm : m ≤ 100000) (hn : n ≤ 100000) (fr K : Nat) (hfr : fr ≤ 100000) (hK : K ≤ 100000) :
    Calls Try.prog 32 #[.pointer (some ⟨x, 0, none⟩), .int .i64 fr, .int .i64 K] w fun e w' => ∃ v, e = .returned v ∧ EntR w' w.heap.size v s (occ s fr (min K (m - fr))) ∧ Below w.heap.size w w' := by
  obtain ⟨i0, hi, hz0, hz1, hz2⟩ := info_parts infoE
  have HW := Lib.hid (fun W (hb : Below w.heap.size w W) => (h.below hb))
  clear h
  go_enter Try.func32, Try.ntmps32
  go_wp2
  go_loopw [7, 8] (fun o j wr => ∃ k : Nat, k ≤ K ∧ j = .int .i64 k ∧ EntR wr w.heap.size o s (occ s fr (min k (m - fr))) ∧ Below w.heap.size w wr) (fun _ j _ => K - (intOf j).toNat)
  case atStart => exact ⟨0, by omega, rfl, by rw [Nat.zero_min]; exact entR_nil _ _ _, Below.refl _ _⟩
  case round =>
    obtain ⟨k, hk, rfl, hown, hbel⟩ := hrel
    have HO := Lib.hid hown; clear hown
    have HB := Lib.hid hbel; clear hbel
    have HP := Lib.hid (HW.out wr HB.out)
    have c1 := HP.out.cx.2
    by_cases hlt : k < K
    · have hki : (k : Int) < K := by omega
      have HC := Lib.hid (rhas_calls HP.out ((fr : Int) + k))
      by_cases hin : fr + k < m
      · have ev : hasZ m s ((fr : Int) + k) = decide ((s (fr + k)).lba ≠ 0) := by
          rw [show ((fr : Int) + k) = ((fr + k : Nat) : Int) by omega]
          unfold hasZ; rw [inZ_nat hin, Int.toNat_natCast]; rfl
        rw [ev] at HC
        have M1 : min k (m - fr) = k := by omega
        have M2 : min (k + 1) (m - fr) = k + 1 := by omega
        rw [M1] at HO
        by_cases hz : (s (fr + k)).lba = 0
        · have ed : decide ((s (fr + k)).lba ≠ 0) = false := by simp [hz]
          rw [ed] at HC
          have N := Lib.hid (show occ s fr (min (k + 1) (m - fr)) = occ s fr k by rw [M2]; exact occ_miss hz)
          clear ed hz ev M1 M2
          go_wp2_with (go_at_call 21; (with_reducible refine (HC.out).mono ?_); rintro e w1 ⟨rfl, rfl⟩)
          go_roundw
          case rel => exact ⟨k + 1, by omega, by go_num, by rw [N.out]; exact HO.out, HB.out⟩
          case measure => simp [intOf]; omega
        · have ed : decide ((s (fr + k)).lba ≠ 0) = true := by simp [hz]
          rw [ed] at HC
          have N := Lib.hid (show occ s fr (min (k + 1) (m - fr)) = occ s fr k ++ [fr + k] by rw [M2]; exact occ_hit hz)
          have HLEN := Lib.hid (occ_len s fr k)
          obtain ⟨e0, e1, e2, e3⟩ := HP.out.cl hin
          have ES := Lib.hid (entCells_snoc s (occ s fr k) (fr + k))
          unfold entC at ES
          have hfk : ((fr + k : Nat) : Int) < m := by omega
          have efk : (fr : Int) + k = ((fr + k : Nat) : Int) := by omega
          rw [efk] at HC
          have SD := Lib.hid (fun (W : World) (hb : Below w.heap.size w W) => (show W.cell? ⟨x, 1, none⟩ = some (.slice (some ⟨gl, 0, none⟩) m m) ∧ W.cell? ⟨gl, (fr + k) * 4 + 2, none⟩ = some (.int .i64 (((s (fr + k)).lba - 1 : Nat) : Int)) ∧ W.cell? ⟨gl, (fr + k) * 4 + 3, none⟩ = some (.int .u64 (s (fr + k)).tag) from ⟨(HW.out W hb).cx.2, ((HW.out W hb).cl hin).2.2.1, ((HW.out W hb).cl hin).2.2.2⟩))
          generalize hjj : fr + k = j at *
          generalize (((s j).lba - 1 : Nat) : Int) = vl at *
          generalize (s j).tag = vt at *
          clear ed hz ev M1 M2
          go_upto_region 6 with (go_at_call 21; (with_reducible refine (HC.out).mono ?_); rintro e w1 ⟨rfl, rfl⟩)
          have hl3 : (occ s fr k).length ≤ 200000 := by have := HLEN.out; omega
          have EO := Lib.hid (show ∀ o, (wr.drew.alloc o).ownsRow w.heap.size 34 3 u7 (occ s fr k).length (entCells s (occ s fr k)) from fun o => EntR.alloc (EntR.drew HO.out) o)
          have wj : IntKind.i64.wrap (j : Int) = (j : Int) := wrap_nat (by omega)
          clear c1 e0 e1 e2 e3
          go_region_held_law (fun w' => w'.cell? ⟨x, 1, none⟩ = some (.slice (some ⟨gl, 0, none⟩) m m) ∧ w'.cell? ⟨gl, j * 4 + 2, none⟩ = some (.int .i64 vl) ∧ w'.cell? ⟨gl, j * 4 + 3, none⟩ = some (.int .u64 vt))
            (first | exact SD.out _ (below_drew HB.out) | exact SD.out _ HBA.out | exact SD.out _ (below_alloc (below_drew HB.out) _) | exact SD.out _ (below_drew (below_alloc HB.out _)))
            (first | (refine step_append_lies _ rfl (.tmp 19) (.tmp 44) 42 rfl w.heap.size 34 i0 (.agg #[.int .i64 0, .int .i64 0, .int .u64 0]) 3 24 Try.underlying42 hi hz0 hz1 hz2 rfl (by decide) u7 (occ s fr k).length (entCells s (occ s fr k)) rfl (EO.out _) ⟨wr.heap.size, 0, none⟩ 1 1 [.int .i64 j, .int .i64 vl, .int .u64 vt] rfl rfl (cell_three_new wr.drew _ _ _ _) (by simp [Value.oneCell']) (by decide) (by unfold maxLen; omega) (by omega) (by have := HB.out.size; simp; omega) _ rfl ?_; intro g2 cap2 w2 hown1 hg1 _ _; have HBA := Lib.hid (show Below w.heap.size w w2 from (below_alloc (below_drew HB.out) _).grown hg1 (by have := HB.out.size; simp; omega) (fun g e => (World.ownsRow.lt (EO.out (.cells #[] 0)) g e).1)); have HO1 := Lib.hid hown1; clear hown1 hg1))
          all_goals go_wp2
          all_goals exact ⟨⟨k + 1, by omega, by go_num, by rw [N.out]; unfold EntR; rw [ES.out, List.length_append]; exact HO1.out, HBA.out⟩, by simp [intOf]; omega⟩
      · have ev : hasZ m s ((fr : Int) + k) = false := by
          rw [show ((fr : Int) + k) = ((fr + k : Nat) : Int) by omega]
          unfold hasZ
          have : inZ m ((fr + k : Nat) : Int) = false := decide_eq_false (by omega)
          rw [this]; rfl
        rw [ev] at HC
        have N := Lib.hid (show occ s fr (min (k + 1) (m - fr)) = occ s fr (min k (m - fr)) by rw [show min (k + 1) (m - fr) = min k (m - fr) by omega])
        clear ev
        go_wp2_with (go_at_call 21; (with_reducible refine (HC.out).mono ?_); rintro e w1 ⟨rfl, rfl⟩)
        go_roundw
        case rel => exact ⟨k + 1, by omega, by go_num, by rw [N.out]; exact HO.out, HB.out⟩
        case measure => simp [intOf]; omega
    · obtain rfl : k = K := by omega
      go_wp2
      go_ret
      exact ⟨_, rfl, HO.out, HB.out⟩
end
end Go.Proofs.Ytejhoobecladiaa.Ct
