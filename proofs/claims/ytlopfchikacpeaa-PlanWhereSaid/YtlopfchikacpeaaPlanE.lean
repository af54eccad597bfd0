import Derived.Test.YtlopfchikacpeaaPlanD
/-! The reference's Masks. -/
namespace Go.Proofs.Ytlopfchikacpeaa.Ct
open Go.RowKit
set_option linter.unusedVariables false
set_option linter.unusedSimpArgs false
theorem satAdd_in {lba n : Int} (hl : I64 lba) (hn : I64 n) (i : Int) (h0 : 0 ≤ i) (h1 : i ≤ 512) : (i < satAdd lba n ↔ i < lba + n) := by
  unfold satAdd sat I64 at *
  repeat' split
  all_goals omega
theorem mask_end2 {W w5 : World} {v : Value} {X Y : List Int} {g n cap : Nat} (h1 : Own .i64 3 w5 W.heap.size v X) (h2 : Own .u8 5 w5 W.heap.size (.slice (some ⟨g, 0, none⟩) n cap) Y) (hn : n = Y.length) (j : Nat) (hj : j < Y.length) (z : Int) (hz : (Lit.int .u8 z).wf = true)
    (hb : Below W.heap.size W w5) : Own .i64 3 (w5.setCell ⟨g, j, none⟩ (.int .u8 z)) W.heap.size v X ∧ Own .u8 5 (w5.setCell ⟨g, j, none⟩ (.int .u8 z)) W.heap.size (.slice (some ⟨g, 0, none⟩) n cap) (Y.set j z) ∧ Below W.heap.size W (w5.setCell ⟨g, j, none⟩ (.int .u8 z)) := by
  have hg := grown_setCell w5 ⟨g, j, none⟩ (.int .u8 z)
  have ha := own_apart h1 h2 (by decide)
  refine ⟨h1.kept hg ?_, h2.store hn j hj z hz, below_of_grown hb hg hb.size (h2.base g rfl)⟩
  simpa [Value.ownBlock] using ha
set_option maxRecDepth 100000 in
set_option maxHeartbeats 4000000 in
theorem rmasks_calls (C : Array Value) (v0 lba n : Int) (w : World) (HC0 : Hid (C[0]? = some (.int .i64 v0))) (cz : C.size = 13) (hl : I64 lba) (hn : I64 n) (hv : 0 ≤ v0 ∧ v0 ≤ 512) :
    Calls Try.prog 17 #[.agg C, .int .i64 lba, .int .i64 n] w fun e w' =>
      ∃ va vb, e = .returned (.tuple #[va, vb]) ∧ Own .i64 3 w' w.heap.size va (masksS (max lba 0).toNat ((min (satAdd lba (max n 0)) v0).toNat - (max lba 0).toNat)).1 ∧ Own .u8 5 w' w.heap.size vb (masksS (max lba 0).toNat ((min (satAdd lba (max n 0)) v0).toNat - (max lba 0).toNat)).2 ∧ Below w.heap.size w w' := by
  obtain ⟨v00, v01⟩ := hv
  have hsa := fun i h0 h1 => satAdd_in hl (show I64 (max n 0) by unfold I64 at *; omega) i h0 h1
  obtain ⟨E, hE⟩ : ∃ E, satAdd lba (max n 0) = E := ⟨_, rfl⟩
  rw [hE] at hsa ⊢
  obtain ⟨M, hM⟩ : ∃ M, min E v0 = M := ⟨_, rfl⟩
  obtain ⟨lo, hlo⟩ : ∃ lo, (max lba 0).toNat = lo := ⟨_, rfl⟩
  rw [hM, hlo]
  have HSA := Lib.hid hsa
  obtain ⟨l0, l1⟩ := hl
  obtain ⟨n0, n1⟩ := hn
  have HM := Lib.hid hM; have HLO := Lib.hid hlo
  clear hE hsa hM hlo cz
  obtain ⟨V, rfl⟩ := Int.eq_ofNat_of_zero_le v00
  have HINC := Lib.hid (fun (i : Nat) (hi : (i : Int) < V) => show ((lo : Nat) ≤ i ∧ (i : Int) < M ↔ lba ≤ i ∧ (i : Int) < lba + max n 0) by
    have := HSA.out i (by omega) (by omega); have := HM.out; have := HLO.out; omega)
  go_enter Try.func17, Try.ntmps17
  go_wp2
  have HW : Hid (Blk (w.alloc (.cells C 28)) w.heap.size 28 C) := Lib.hid (Blk.new _ _ _)
  obtain ⟨W, hWd⟩ : ∃ W, W = w.alloc (.cells C 28) := ⟨_, rfl⟩
  rw [← hWd] at HW ⊢
  have HWd := Lib.hid hWd; clear hWd
  go_loopw [8, 9, 10, 11, 12, 13] (fun a b i _ _ _ wr => ∃ j s : Nat, j ≤ V ∧ s = min j M.toNat - lo ∧ i = .int .i64 (j : Int) ∧ Own .i64 3 wr W.heap.size a (masksS lo s).1 ∧ Own .u8 5 wr W.heap.size b (masksS lo s).2 ∧ Below W.heap.size W wr) (fun _ _ i _ _ _ _ => V - (intOf i).toNat)
  case atStart => exact ⟨0, 0, by omega, by omega, rfl, own_nil _ _ _ _, own_nil _ _ _ _, Below.refl _ _⟩
  case round =>
    obtain ⟨j, s, hj, hs, rfl, ho1, ho2, hbel⟩ := hrel
    have HO1 := Lib.hid ho1; have HO2 := Lib.hid ho2; have HB := Lib.hid hbel
    have HBK := Lib.hid (HW.out.below hbel)
    have c0 : wr.cell? ⟨w.heap.size, 0, none⟩ = some (.int .i64 (V : Int)) := by rw [HBK.out.cell]; exact HC0.out
    clear ho1 ho2 hbel
    have HSd := Lib.hid hs; clear hs
    by_cases hlt : j < V
    · by_cases hin : lo ≤ j ∧ (j : Int) < M
      · have hx := (HINC.out j (by omega)).1 hin
        have hs1 : lo + s = j := by have := HSd.out; omega
        have HS := Lib.hid (show masksS lo (s + 1) = mstep (masksS lo s) (lo + s) from rfl)
        have INV := Lib.hid (masks_inv lo s)
        have hi2 : lo + s - 1 = j - 1 := by omega
        rw [hs1] at HS
        rw [hi2] at INV
        have HNX := Lib.hid (show s + 1 = min (j + 1) M.toNat - lo by have := HSd.out; omega)
        obtain ⟨e, he⟩ : ∃ e, j / 8 = e := ⟨_, rfl⟩
        obtain ⟨k, hk⟩ : ∃ k, j % 8 = k := ⟨_, rfl⟩
        have hk8 : k < 8 := by omega
        have he8 : e ≤ 64 := by omega
        have hs5 : s ≤ 512 := by omega
        have hd : (j : Int) / 8 = e := by omega
        have hmd : (j : Int) % 8 = k := by omega
        generalize masksS lo s = st at *
        obtain ⟨X, Y⟩ := st
        simp only at HO1 HO2
        have HI := Lib.hid hs1; have HE8 := Lib.hid he; have HK8 := Lib.hid hk
        obtain ⟨hx1, hx2⟩ := hx
        have hn1 : 1 ≤ n := by omega
        have hx3 : (j : Int) < lba + n := by omega
        clear he hk hs1 hi2 hin hx2
        rcases (show lba < 0 ∨ (0 ≤ lba ∧ (j : Int) - lba < n) by omega) with hlb | ⟨hlb, hjl⟩
        all_goals (
          go_wp2
          go_loop [12, 13] (fun b i => ∃ q : Nat, q ≤ k ∧ i = .int .i64 (q : Int) ∧ b = .int .u8 (2 ^ q)) (fun _ i => k - (intOf i).toNat)
          case atStart => exact ⟨0, by omega, rfl, rfl⟩
          case round =>
            obtain ⟨q, hq, rfl, rfl⟩ := hrel
            by_cases hqk : q < k
            · have hp := two_pow8 (k := q) (by omega)
              have hp2 := (two_pow8 (k := q + 1) (by omega)).2.1
              obtain ⟨hp0, hp1, hp3⟩ := hp
              have HP3 := Lib.hid hp3
              rw [hp3] at hp2
              clear hp3
              obtain ⟨p, hpp⟩ : ∃ p : Int, (2 : Int) ^ q = p := ⟨_, rfl⟩
              rw [hpp] at hp0 hp1 hp2 HP3 ⊢
              clear hpp
              go_wp2
              go_round
              case rel => exact ⟨q + 1, by omega, by go_num, by rw [HP3.out, Int.mul_comm]⟩
              case measure => simp [intOf]; omega
            · obtain rfl : q = k := by omega
              have hp := two_pow8 (k := q) (by omega)
              obtain ⟨hp0, hp1, -⟩ := hp
              have hiv3 := fun h => (INV.out.2.2.2 h).2.2.2
              obtain ⟨p, hpp⟩ : ∃ p : Int, (2 : Int) ^ q = p := ⟨_, rfl⟩
              rw [hpp] at hp0 hp1 ⊢
              have HPP := Lib.hid hpp
              clear hpp hqk
              by_cases hc : X.length = 0 ∨ X.getD (X.length - 1) 0 ≠ (e : Int)
              · have HN1 : Hid (masksS lo (s + 1) = (X ++ [(e : Int)], Y ++ [p])) := Lib.hid (by
                  rw [HS.out]; unfold mstep; rw [HE8.out, HK8.out, if_pos hc, set_last, HPP.out])
                have HAP := Lib.hid (own_apart HO2.out HO1.out (by decide))
                have il1 : X.length = Y.length := INV.out.1; have il2 : X.length ≤ s := INV.out.2.1
                have lx : X.length ≤ 600 := by omega
                have ly : Y.length ≤ 600 := by omega
                obtain ⟨ya, yc, hyv, -⟩ := HO2.out.form
                clear hiv3
                by_cases hX0 : X.length = 0
                · have hX : X = [] := List.length_eq_zero_iff.1 hX0
                  clear hc hX0
                  subst hX
                  obtain ⟨xa, xc, rfl, -⟩ := HO1.out.form
                  subst hyv
                  simp only [List.length_nil] at HO1 HAP ⊢
                  go_wp2_with (first
                    | (at_builtin; refine wp_app1 46 3 .i64 8 Try.underlying46 infoI rfl (.tmp 76) (.tmp 78) rfl W.heap.size _ [] (e : Int) (by repeat (first | with_reducible apply Own.alloc | with_reducible apply Own.drewN | with_reducible apply Own.drew | exact HO1.out)) rfl _ rfl (by simp [go_sem]) (i64wf (by unfold I64; omega)) (by simp) (by decide) (by have := HB.out.size; simp; omega) ?_; intro v3 w3 hown hg; have HB3 := Lib.hid (Below.app (k := .i64) (E := 3) (base := W.heap.size) (xs := []) (by repeat (first | with_reducible exact HB.out | with_reducible apply below_alloc | with_reducible apply below_drewN | with_reducible apply below_drew)) hg (by repeat (first | with_reducible apply Own.alloc | with_reducible apply Own.drewN | with_reducible apply Own.drew | exact HO1.out)) (Nat.le_refl _) (by have := HB.out.size; simp; omega)); have HO3 := Lib.hid hown; have HG3 := Lib.hid hg; have HO4 := Lib.hid (show Own .u8 5 w3 W.heap.size (.slice ya Y.length yc) Y from Own.kept (by repeat (first | with_reducible apply Own.alloc | with_reducible apply Own.drewN | with_reducible apply Own.drew | exact HO2.out)) hg HAP.out); clear hown hg)
                    | (at_builtin; refine wp_app1 47 5 .u8 1 Try.underlying47 infoU8 rfl (.tmp 80) (.tmp 81) rfl W.heap.size _ Y 0 (by repeat (first | with_reducible apply Own.alloc | with_reducible apply Own.drewN | with_reducible apply Own.drew | exact HO4.out)) rfl _ rfl (by simp [go_sem]) (u8_wf (by decide) (by decide)) (by omega) (by decide) (by have := HB3.out.size; simp; omega) ?_; intro v5 w5 hown hg; have HB5 := Lib.hid (Below.app (k := .u8) (E := 5) (base := W.heap.size) (xs := Y) (by repeat (first | with_reducible exact HB3.out | with_reducible apply below_alloc | with_reducible apply below_drewN | with_reducible apply below_drew)) hg (by repeat (first | with_reducible apply Own.alloc | with_reducible apply Own.drewN | with_reducible apply Own.drew | exact HO4.out)) (Nat.le_refl _) (by have := HB3.out.size; simp; omega)); have HO5 := Lib.hid hown; have HG5 := Lib.hid hg; have HO6 := Lib.hid (show Own .i64 3 w5 W.heap.size v3 ([] ++ [(e : Int)]) from Own.kept (by repeat (first | with_reducible apply Own.alloc | with_reducible apply Own.drewN | with_reducible apply Own.drew | exact HO3.out)) hg (own_apart HO3.out HO4.out (by decide))); obtain ⟨g, gc, hv5, hgc, hgm, hgb, hgl, hcel, hfr⟩ := hown.at_ (by simp); subst hv5; have hcl := hcel Y.length (by simp); rw [show (Y ++ [(0 : Int)]).getD Y.length 0 = 0 by simp [List.getD_eq_getElem?_getD]] at hcl; have hf0 := hfr Y.length; rw [show (Y ++ [(0 : Int)]).length = Y.length + 1 by simp] at hgc HO5 ⊢; clear hcel hfr; clear hown hg))
                  have HX := mask_end2 (n := Y.length + 1) HO6.out HO5.out (by simp) Y.length (by simp) p (u8_wf (by omega) (by omega)) HB5.out
                  rw [set_last] at HX
                  exact ⟨⟨j + 1, s + 1, by omega, HNX.out, by go_num, by rw [HN1.out]; exact HX.1, by rw [HN1.out]; exact HX.2.1, HX.2.2⟩, by simp [intOf]; omega⟩
                · obtain ⟨t, hq⟩ : ∃ t, X.length = t + 1 := ⟨X.length - 1, by omega⟩
                  have hc := hc.resolve_left hX0
                  clear hX0
                  obtain ⟨gx, xc, rfl, hxc1, hxc2, -, hgx, hxc, -⟩ := HO1.out.at_ (by omega)
                  have hcx := hxc t (by omega)
                  rw [hq, show t + 1 - 1 = t from rfl] at hc
                  clear hxc
                  generalize X.getD t 0 = zx at *
                  have hne : (zx != (e : Int)) = true := by rw [bne_iff_ne]; exact hc
                  clear hc
                  rw [hq] at HO1 HAP hxc1 ⊢
                  subst hyv
                  have HQ := Lib.hid hq; clear hq
                  go_wp2_with (first
                    | (at_builtin; refine wp_app1 46 3 .i64 8 Try.underlying46 infoI rfl (.tmp 76) (.tmp 78) rfl W.heap.size _ X (e : Int) (by repeat (first | with_reducible apply Own.alloc | with_reducible apply Own.drewN | with_reducible apply Own.drew | exact HO1.out)) rfl _ rfl (by simp [go_sem]) (i64wf (by unfold I64; omega)) (by have := HQ.out; omega) (by decide) (by have := HB.out.size; simp; omega) ?_; intro v3 w3 hown hg; have HB3 := Lib.hid (Below.app (k := .i64) (E := 3) (base := W.heap.size) (xs := X) (by repeat (first | with_reducible exact HB.out | with_reducible apply below_alloc | with_reducible apply below_drewN | with_reducible apply below_drew)) hg (by repeat (first | with_reducible apply Own.alloc | with_reducible apply Own.drewN | with_reducible apply Own.drew | exact HO1.out)) (Nat.le_refl _) (by have := HB.out.size; simp; omega)); have HO3 := Lib.hid hown; have HG3 := Lib.hid hg; have HO4 := Lib.hid (show Own .u8 5 w3 W.heap.size (.slice ya Y.length yc) Y from Own.kept (by repeat (first | with_reducible apply Own.alloc | with_reducible apply Own.drewN | with_reducible apply Own.drew | exact HO2.out)) hg HAP.out); clear hown hg)
                    | (at_builtin; refine wp_app1 47 5 .u8 1 Try.underlying47 infoU8 rfl (.tmp 80) (.tmp 81) rfl W.heap.size _ Y 0 (by repeat (first | with_reducible apply Own.alloc | with_reducible apply Own.drewN | with_reducible apply Own.drew | exact HO4.out)) rfl _ rfl (by simp [go_sem]) (u8_wf (by decide) (by decide)) (by omega) (by decide) (by have := HB3.out.size; simp; omega) ?_; intro v5 w5 hown hg; have HB5 := Lib.hid (Below.app (k := .u8) (E := 5) (base := W.heap.size) (xs := Y) (by repeat (first | with_reducible exact HB3.out | with_reducible apply below_alloc | with_reducible apply below_drewN | with_reducible apply below_drew)) hg (by repeat (first | with_reducible apply Own.alloc | with_reducible apply Own.drewN | with_reducible apply Own.drew | exact HO4.out)) (Nat.le_refl _) (by have := HB3.out.size; simp; omega)); have HO5 := Lib.hid hown; have HG5 := Lib.hid hg; have HO6 := Lib.hid (show Own .i64 3 w5 W.heap.size v3 (X ++ [(e : Int)]) from Own.kept (by repeat (first | with_reducible apply Own.alloc | with_reducible apply Own.drewN | with_reducible apply Own.drew | exact HO3.out)) hg (own_apart HO3.out HO4.out (by decide))); obtain ⟨g, gc, hv5, hgc, hgm, hgb, hgl, hcel, hfr⟩ := hown.at_ (by simp); subst hv5; have hcl := hcel Y.length (by simp); rw [show (Y ++ [(0 : Int)]).getD Y.length 0 = 0 by simp [List.getD_eq_getElem?_getD]] at hcl; have hf0 := hfr Y.length; rw [show (Y ++ [(0 : Int)]).length = Y.length + 1 by simp] at hgc HO5 ⊢; clear hcel hfr; clear hown hg))
                  have HX := mask_end2 (n := Y.length + 1) HO6.out HO5.out (by simp) Y.length (by simp) p (u8_wf (by omega) (by omega)) HB5.out
                  rw [set_last] at HX
                  exact ⟨⟨j + 1, s + 1, by omega, HNX.out, by go_num, by rw [HN1.out]; exact HX.1, by rw [HN1.out]; exact HX.2.1, HX.2.2⟩, by simp [intOf]; omega⟩
              · have hc0 : ¬ X.length = 0 := fun h => hc (.inl h)
                have hc1 : X.getD (X.length - 1) 0 = (e : Int) := Decidable.not_not.1 fun h => hc (.inr h)
                have HN1 : Hid (masksS lo (s + 1) = (X, Y.set (Y.length - 1) (Y.getD (Y.length - 1) 0 + p))) := Lib.hid (by
                  rw [HS.out]; unfold mstep; rw [HE8.out, HK8.out, if_neg hc, HPP.out])
                have il1 : X.length = Y.length := INV.out.1; have il2 : X.length ≤ s := INV.out.2.1
                have hs0 : 0 < s := by rcases Nat.eq_zero_or_pos s with h0 | h0; exact absurd (INV.out.2.2.1 h0) hc0; exact h0
                obtain ⟨-, iv1, iv2, iv3⟩ := INV.out.2.2.2 hs0
                have hkk : (j - 1) % 8 + 1 = q := by
                  have := HK8.out; have := HE8.out; have := HI.out
                  rw [hc1] at iv1
                  omega
                rw [hkk, HPP.out] at iv3
                obtain ⟨t, hq⟩ : ∃ t, X.length = t + 1 := ⟨X.length - 1, by omega⟩
                have hqy : Y.length = t + 1 := by omega
                obtain ⟨gx, xc, rfl, hxc1, hxc2, -, hgx, hxc, -⟩ := HO1.out.at_ (by omega)
                obtain ⟨g, gc, rfl, hgc, hgm, hgb, hgl, hcel, hfr⟩ := HO2.out.at_ (by omega)
                have hcx := hxc t (by omega)
                have hcy := hcel t (by omega)
                have hf0 := hfr t
                have HYD : Hid (Y.getD t 0 = Y.getD (Y.length - 1) 0) := Lib.hid (by rw [hqy]; rfl)
                rw [hqy, show t + 1 - 1 = t from rfl] at iv2 iv3
                rw [hq, show t + 1 - 1 = t from rfl] at hc1
                rw [hc1] at hcx
                clear hxc hcel hfr hc hc0 hc1 hkk iv1 hiv3
                rw [hq] at HO1 hxc1 ⊢
                rw [hqy] at HO2 hgc ⊢
                have HQY := Lib.hid hqy
                clear hq hqy il1 il2
                generalize Y.getD t 0 = zy at *
                go_wp2
                have HX := mask_end2 (n := t + 1) HO1.out HO2.out HQY.out.symm t (by have := HQY.out; omega) (zy + p) (u8_wf (by omega) (by omega)) HB.out
                exact ⟨⟨j + 1, s + 1, by omega, HNX.out, by go_num, by rw [HN1.out]; exact HX.1, by rw [HN1.out, ← HYD.out, HQY.out]; exact HX.2.1, HX.2.2⟩, by simp [intOf]; omega⟩)
      · have HNX := Lib.hid (show s = min (j + 1) M.toNat - lo by have := HSd.out; have := HLO.out; omega)
        have hx : ¬ (lba ≤ j ∧ (j : Int) < lba + max n 0) := fun h => hin ((HINC.out j (by omega)).2 h)
        clear hin
        rcases (show (j : Int) < lba ∨ (lba ≤ j ∧ n < 1) ∨ (lba ≤ j ∧ 1 ≤ n ∧ lba < 0 ∧ lba + n ≤ j) ∨ (lba ≤ j ∧ 1 ≤ n ∧ 0 ≤ lba ∧ n ≤ (j : Int) - lba) by omega) with h1 | ⟨h1, h2⟩ | ⟨h1, h2, h3, h4⟩ | ⟨h1, h2, h3, h4⟩
        all_goals (
          clear hx
          go_wp2
          all_goals exact ⟨⟨j + 1, s, by omega, HNX.out, by go_num, HO1.out, HO2.out, HB.out⟩, by simp [intOf]; omega⟩)
    · obtain rfl : j = V := by omega
      have hse : M.toNat - lo = s := by have := HSd.out; have := HM.out; omega
      have HSE := Lib.hid hse
      clear hse
      go_wp2
      go_ret2
      have hw : w.heap.size ≤ W.heap.size := by rw [HWd.out]; simp
      have hb : Below w.heap.size w W := by rw [HWd.out]; exact below_alloc (Below.refl _ _) _
      exact ⟨_, _, rfl, by rw [HSE.out]; exact HO1.out.mono hw, by rw [HSE.out]; exact HO2.out.mono hw, below_step hb HB.out⟩
end Go.Proofs.Ytlopfchikacpeaa.Ct
