import Derived.Test.YtejhoobecladiaaPlaO
/-! Chapter 27, the reference: Within. -/
namespace Go.Proofs.Ytejhoobecladiaa.Ct
open Go.RowKit
set_option linter.unusedVariables false
set_option linter.unusedSimpArgs false
section
variable {base x gl n m : Nat} {w w1 : World} {s : Nat → One27}
def witK (s : Nat → One27) (lo hi : Int) (k : Nat) : List Nat := witF s lo hi (occ s 0 k)
theorem witK_miss {s : Nat → One27} {lo hi : Int} {k : Nat} (h : (s k).lba = 0) : witK s lo hi (k + 1) = witK s lo hi k := by
  unfold witK; rw [occ_miss (by rw [Nat.zero_add]; exact h)]
theorem witK_in {s : Nat → One27} {lo hi : Int} {k : Nat} (h : (s k).lba ≠ 0) (hc : lo ≤ (((s k).lba - 1 : Nat) : Int) ∧ (((s k).lba - 1 : Nat) : Int) < hi) : witK s lo hi (k + 1) = witK s lo hi k ++ [k] := by
  unfold witK
  rw [occ_hit (by rw [Nat.zero_add]; exact h), Nat.zero_add, witF_snoc, if_pos hc]
theorem witK_out {s : Nat → One27} {lo hi : Int} {k : Nat} (h : (s k).lba ≠ 0) (hc : ¬ (lo ≤ (((s k).lba - 1 : Nat) : Int) ∧ (((s k).lba - 1 : Nat) : Int) < hi)) : witK s lo hi (k + 1) = witK s lo hi k := by
  unfold witK
  rw [occ_hit (by rw [Nat.zero_add]; exact h), Nat.zero_add, witF_snoc, if_neg hc, List.append_nil]
theorem witK_len (s : Nat → One27) (lo hi : Int) (k : Nat) : (witK s lo hi k).length ≤ k := Nat.le_trans (witF_len _ _ _ _) (occ_len s 0 k)
theorem casts_snoc (l : List Nat) (y : Nat) : casts (l ++ [y]) = casts l ++ [(y : Int)] := by unfold casts; simp
theorem witZ_eq {m : Nat} (hm : m ≤ 192) (s : Nat → One27) (lo nn : Int) : witZ m s lo nn = witK s lo (sat (lo + max nn 0)) m := by
  unfold witZ witK rowN
  have e1 : spanA 0 = 0 := rfl
  have e2 : spanK m 0 192 = m := by unfold spanK; omega
  rw [e1, e2]
set_option maxHeartbeats 8000000 in
theorem rwithinQ (h : RS base w x gl n m s) (hf : ∀ j, j < m → (s j).lba ≤ n) (hm : m ≤ 100000) (hn : n ≤ 100000) (lo nn : Int) (hlo : I64 lo) (hnn : I64 nn) :
    Calls Try.prog 34 #[.pointer (some ⟨x, 0, none⟩), .int .i64 lo, .int .i64 nn] w fun e w' => ∃ v, e = .returned v ∧ Own .i64 3 w' w.heap.size v (casts (witK s lo (sat (lo + max nn 0)) m)) ∧ Below w.heap.size w w' := by
  have HW := Lib.hid (fun W (hb : Below w.heap.size w W) => (h.below hb))
  have HF := Lib.hid hf
  have IFF := Lib.hid (fun q (hq : q ≤ 100000) => wit_iff (q := q) hq hlo hnn)
  obtain ⟨l0, l1⟩ := hlo
  obtain ⟨n0, n1⟩ := hnn
  generalize sat (lo + max nn 0) = hi at *
  clear h hf
  go_enter Try.func34, Try.ntmps34
  go_wp2
  go_loopw [7, 8, 9] (fun o j _ wr => ∃ k : Nat, k ≤ m ∧ j = .int .i64 k ∧ Own .i64 3 wr w.heap.size o (casts (witK s lo hi k)) ∧ Below w.heap.size w wr) (fun _ j _ _ => m - (intOf j).toNat)
  case atStart => exact ⟨0, by omega, rfl, own_nil _ _ _ _, Below.refl _ _⟩
  case round =>
    obtain ⟨k, hk, rfl, hown, hbel⟩ := hrel
    have HO := Lib.hid hown; clear hown
    have HB := Lib.hid hbel; clear hbel
    have HP := Lib.hid (HW.out wr HB.out)
    have c1 := HP.out.cx.2
    by_cases hlt : k < m
    · have hki : (k : Int) < m := by omega
      obtain ⟨e0, e1, e2, e3⟩ := HP.out.cl hlt
      have HL := HF.out k hlt
      have hlen := witK_len s lo hi k
      have W0 := Lib.hid (@witK_miss s lo hi k)
      have W1 := Lib.hid (@witK_in s lo hi k)
      have W2 := Lib.hid (@witK_out s lo hi k)
      generalize witK s lo hi k = L at *
      generalize (s k).tag = tg at *
      generalize (s k).sure = su at *
      generalize (s k).lba = lb at *
      have HCL := Lib.hid (casts_length L)
      have HCS := Lib.hid (casts_snoc L k)
      generalize hcc : casts L = C at *
      have HCC := Lib.hid hcc
      clear hcc
      by_cases hz : lb = 0
      · have N := Lib.hid (W0.out hz)
        have ed : decide (lb ≠ 0) = false := by simp [hz]
        rw [ed] at e0
        clear W0 W1 W2 ed hz
        go_wp2
        go_roundw
        case rel => exact ⟨k + 1, by omega, by go_num, by rw [N.out, HCC.out]; exact HO.out.alloc _, HB.out.alloc HB.out.size _⟩
        case measure => simp [intOf]; omega
      · have ed : decide (lb ≠ 0) = true := by simp [hz]
        rw [ed] at e0
        obtain ⟨q, rfl⟩ : ∃ q, lb = q + 1 := ⟨lb - 1, by omega⟩
        replace e2 : wr.cell? ⟨gl, k * 4 + 2, none⟩ = some (.int .i64 (q : Int)) := e2
        have HI := IFF.out q (by omega)
        by_cases hc : lo ≤ (q : Int) ∧ (q : Int) < hi
        · have N := Lib.hid (W1.out hz hc)
          obtain ⟨a1, a2, a3, a4⟩ := HI.1 hc
          have b1 : ¬ nn < 1 := by omega
          have b2 : ¬ (q : Int) < lo := by omega
          clear W0 W1 W2 ed HI hc
          by_cases hl : lo < 0
          · have a3 := a3 hl
            have hl2 : ¬ 0 ≤ lo := by omega
            clear a4
            go_wp2_with (first
              | (at_builtin; refine wp_app1 38 3 .i64 8 Try.underlying38 infoI rfl (.tmp 61) (.tmp 63) rfl w.heap.size _ C (k : Int) (by repeat (first | with_reducible apply Own.alloc | with_reducible apply Own.drewN | with_reducible apply Own.drew | exact HO.out)) rfl _ rfl (by simp [go_sem]) (i64wf (by unfold I64; omega)) (by have := HCL.out; omega) (by decide) (by have := HB.out.size; simp; omega) ?_; intro v2 w2 hown hg; have HB2 := Lib.hid (Below.app (k := .i64) (E := 3) (base := w.heap.size) (xs := C) (by repeat (first | with_reducible exact HB.out | with_reducible apply below_alloc | with_reducible apply below_drewN | with_reducible apply below_drew)) hg (by repeat (first | with_reducible apply Own.alloc | with_reducible apply Own.drewN | with_reducible apply Own.drew | exact HO.out)) (Nat.le_refl _) (by have := HB.out.size; simp; omega)); have HO2 := Lib.hid hown; have HG2 := Lib.hid hg; clear hown hg))
            go_roundw
            case rel => exact ⟨k + 1, by omega, by go_num, by rw [N.out, HCS.out]; exact HO2.out, HB2.out⟩
            case measure => simp [intOf]; omega
          · have hl2 : 0 ≤ lo := by omega
            have a4 := a4 hl2
            clear a3
            go_wp2_with (first
              | (at_builtin; refine wp_app1 38 3 .i64 8 Try.underlying38 infoI rfl (.tmp 61) (.tmp 63) rfl w.heap.size _ C (k : Int) (by repeat (first | with_reducible apply Own.alloc | with_reducible apply Own.drewN | with_reducible apply Own.drew | exact HO.out)) rfl _ rfl (by simp [go_sem]) (i64wf (by unfold I64; omega)) (by have := HCL.out; omega) (by decide) (by have := HB.out.size; simp; omega) ?_; intro v2 w2 hown hg; have HB2 := Lib.hid (Below.app (k := .i64) (E := 3) (base := w.heap.size) (xs := C) (by repeat (first | with_reducible exact HB.out | with_reducible apply below_alloc | with_reducible apply below_drewN | with_reducible apply below_drew)) hg (by repeat (first | with_reducible apply Own.alloc | with_reducible apply Own.drewN | with_reducible apply Own.drew | exact HO.out)) (Nat.le_refl _) (by have := HB.out.size; simp; omega)); have HO2 := Lib.hid hown; have HG2 := Lib.hid hg; clear hown hg))
            go_roundw
            case rel => exact ⟨k + 1, by omega, by go_num, by rw [N.out, HCS.out]; exact HO2.out, HB2.out⟩
            case measure => simp [intOf]; omega
        · have N := Lib.hid (W2.out hz hc)
          have HI2 : ¬ (1 ≤ nn ∧ lo ≤ q ∧ (lo < 0 → (q : Int) < lo + nn) ∧ (0 ≤ lo → (q : Int) - lo < nn)) := fun h => hc (HI.2 h)
          clear W0 W1 W2 ed HI hc
          have hcase : nn < 1 ∨ (¬ nn < 1 ∧ (q : Int) < lo) ∨ (¬ nn < 1 ∧ ¬ (q : Int) < lo ∧ lo < 0 ∧ ¬ (q : Int) < lo + nn) ∨ (¬ nn < 1 ∧ ¬ (q : Int) < lo ∧ 0 ≤ lo ∧ ¬ (q : Int) - lo < nn) := by
            by_cases x1 : nn < 1
            · exact .inl x1
            · by_cases x2 : (q : Int) < lo
              · exact .inr (.inl ⟨x1, x2⟩)
              · by_cases x3 : lo < 0
                · exact .inr (.inr (.inl ⟨x1, x2, x3, fun h => HI2 ⟨by omega, by omega, fun _ => h, by omega⟩⟩))
                · exact .inr (.inr (.inr ⟨x1, x2, by omega, fun h => HI2 ⟨by omega, by omega, by omega, fun _ => h⟩⟩))
          clear HI2
          rcases hcase with x1 | ⟨x1, x2⟩ | ⟨x1, x2, x3, x4⟩ | ⟨x1, x2, x3, x4⟩
          · go_wp2
            go_roundw
            case rel => exact ⟨k + 1, by omega, by go_num, by rw [N.out, HCC.out]; exact HO.out.alloc _, HB.out.alloc HB.out.size _⟩
            case measure => simp [intOf]; omega
          · go_wp2
            go_roundw
            case rel => exact ⟨k + 1, by omega, by go_num, by rw [N.out, HCC.out]; exact HO.out.alloc _, HB.out.alloc HB.out.size _⟩
            case measure => simp [intOf]; omega
          · have x5 : ¬ 0 ≤ lo := by omega
            go_wp2
            go_roundw
            case rel => exact ⟨k + 1, by omega, by go_num, by rw [N.out, HCC.out]; exact HO.out.alloc _, HB.out.alloc HB.out.size _⟩
            case measure => simp [intOf]; omega
          · have x5 : ¬ lo < 0 := by omega
            go_wp2
            go_roundw
            case rel => exact ⟨k + 1, by omega, by go_num, by rw [N.out, HCC.out]; exact HO.out.alloc _, HB.out.alloc HB.out.size _⟩
            case measure => simp [intOf]; omega
    · obtain rfl : k = m := by omega
      go_wp2
      go_ret
      exact ⟨_, rfl, HO.out, HB.out⟩
end
end Go.Proofs.Ytejhoobecladiaa.Ct
