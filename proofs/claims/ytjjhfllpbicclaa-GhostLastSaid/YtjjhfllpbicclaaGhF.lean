import Derived.Test.YtjjhfllpbicclaaGhE
/-! The reference's Put. -/
namespace Go.Proofs.Ytjjhfllpbicclaa.Ct
open Go.RowKit
set_option linter.unusedVariables false
set_option linter.unusedSimpArgs false
theorem row_drop1 {w : World} {g : Nat} {xs : List Int} (h : Row .u64 w (some ⟨g, 0, none⟩) xs) : Row .u64 w (some ⟨g, 1, none⟩) (xs.drop 1) := by
  refine ⟨by rw [List.length_drop]; have := h.1; omega, fun x hx => h.2.1 x (List.mem_of_mem_drop hx), fun hp => ⟨_, rfl, fun j hj => ?_⟩⟩
  rw [List.length_drop] at hj
  obtain ⟨ad, e, hc, -⟩ := h.at_ (j := 1 + j) (by omega)
  injection e with e
  subst e
  rw [add_plain] at hc
  rw [Addr.add_lit, hc]
  simp [List.getD_eq_getElem?_getD, List.getElem?_drop, Nat.add_comm]
def putR (xs : List Int) (k most : Int) : List Int := if most < (remS xs k ++ [k]).length then (remS xs k ++ [k]).drop 1 else remS xs k ++ [k]
set_option maxHeartbeats 8000000 in
theorem rput23_calls (a : Option Addr) (cap : Nat) (xs : List Int) (k most : Int) (w : World) (h : Row .u64 w a xs) (hx : xs.length ≤ 1000) (hk : U64 k) :
    Calls Try.prog 11 #[.slice a xs.length cap, .int .u64 k, .int .i64 most] w fun e w' => ∃ v, e = .returned v ∧ Own .u64 28 w' w.heap.size v (putR xs k most) ∧ Below w.heap.size w w' := by
  have WC := Lib.hid (rwithout_calls a cap xs k w h hx)
  have hl := remS_len xs k
  have HK := Lib.hid (u64_wf hk)
  have PR : Hid (putR xs k most = if most < (remS xs k ++ [k]).length then (remS xs k ++ [k]).drop 1 else remS xs k ++ [k]) := Lib.hid rfl
  clear h hk
  generalize putR xs k most = pr at *
  generalize remS xs k = ys at *
  have hyl : (ys ++ [k]).length = ys.length + 1 := by simp
  generalize hzz : ys ++ [k] = zs at *
  have HZZ := Lib.hid hzz
  have hy1 : ys.length ≤ 1000 := by omega
  obtain ⟨n, hn⟩ : ∃ n : Nat, zs.length = n + 1 := ⟨ys.length, hyl⟩
  have HZN := Lib.hid hn
  have hn1 : n ≤ 1000 := by omega
  rw [hn] at PR
  clear hzz hyl hn
  go_enter Try.func11, Try.ntmps11
  go_upto_region 2 with (first
    | (go_at_call 13; (with_reducible refine (WC.out).mono ?_); rintro e w1 ⟨v1, rfl, hown, hb⟩; have HO1 := Lib.hid hown; have HB1 := Lib.hid hb; clear hown hb)
    | (at_builtin; refine wp_app1 22 28 .u64 8 Try.underlying22 infoU64 rfl (.tmp 10) (.tmp 12) rfl w.heap.size _ ys k (HO1.out.alloc _) rfl _ rfl (by first | (simp [go_sem]; done) | rfl | exact World.cell?_alloc_new _ _ _ _) HK.out (by omega) (by decide) (by have := HB1.out.size; simp; omega) ?_; intro v2 w2 hown1 hg1; have hb1 := Below.app (HB1.out.alloc HB1.out.size _) hg1 (HO1.out.alloc _) (Nat.le_refl _) (by have := HB1.out.size; simp; omega); rw [HZZ.out] at hown1; obtain ⟨a2, cap2, hv2, hc2, hm2, hr2, hnil, had⟩ := hown1.form; subst hv2; have HO2 := Lib.hid hown1; have HB2 := Lib.hid hb1; have HR2 := Lib.hid hr2; clear hb1 hg1))
  rcases a2 with _ | ad
  · have := (hnil rfl).1
    have hz := HZN.out
    rw [this] at hz
    simp at hz
  · obtain ⟨hade, -, -⟩ := had ad rfl
    obtain ⟨g2, hg2⟩ : ∃ g2 : Nat, ad = ⟨g2, 0, none⟩ := ⟨_, hade⟩
    subst hg2
    clear hnil had hade
    have HRT := Lib.hid (row_drop1 HR2.out)
    have HDL := Lib.hid (show (zs.drop 1).length = n by rw [List.length_drop, HZN.out]; omega)
    rw [HZN.out] at hc2 ⊢
    have HO3 : Hid (Own .u64 28 w2 w.heap.size (.slice (some ⟨g2, 0, none⟩) (n + 1) cap2) zs) := Lib.hid (by have := HO2.out; rwa [HZN.out] at this)
    clear hr2 hown1
    by_cases hlt : most < ((n + 1 : Nat) : Int)
    · have P2 := Lib.hid (show pr = zs.drop 1 by rw [PR.out, if_pos hlt])
      have hlt2 : most < (n : Int) + 1 := by omega
      generalize zs.drop 1 = ts at *
      have OL : Own .u64 28 (w2.alloc (.cells #[] 28)) w.heap.size (.slice (some ⟨w2.heap.size, 0, none⟩) 0 0) [] := own_lit [] HB2.out.size (by decide) (by simp)
      have HOL := Lib.hid OL
      clear OL
      by_cases hc1 : cap2 = 1
      · obtain rfl : n = 0 := by omega
        have hts : ts = [] := List.eq_nil_of_length_eq_zero HDL.out
        subst hts hc1
        go_wp2_with (at_builtin; (refine wp_apps 22 28 .u64 8 Try.underlying22 infoU64 rfl (.tmp 18) (.tmp 20) rfl w.heap.size (.slice (some ⟨w2.heap.size, 0, none⟩) 0 0) [] [] HOL.out rfl ⟨g2, 0, none⟩ 0 (by rfl) ⟨by decide, by simp, fun hh => by simp at hh⟩ (by decide) (by decide) (by have := HB2.out.size; simp; omega) ?_); intro v3 w3 hown3 hg3; have hb3 := Below.app (HB2.out.alloc HB2.out.size _) hg3 HOL.out (Nat.le_refl _) (by have := HB2.out.size; simp; omega); have HO4 := Lib.hid hown3; have HB4 := Lib.hid hb3; clear hown3 hb3 hg3)
        go_ret
        exact ⟨_, rfl, by rw [P2.out]; exact HO4.out, HB4.out⟩
      · go_wp2_with (at_builtin; (refine wp_apps 22 28 .u64 8 Try.underlying22 infoU64 rfl (.tmp 18) (.tmp 20) rfl w.heap.size (.slice (some ⟨w2.heap.size, 0, none⟩) 0 0) [] ts HOL.out rfl ⟨g2, 1, none⟩ (cap2 - 1) (by rw [HDL.out]; rfl) (HRT.out.below (below_alloc (Below.refl _ _) _)) (by rw [HDL.out]; simp; omega) (by decide) (by have := HB2.out.size; simp; omega) ?_); intro v3 w3 hown3 hg3; have hb3 := Below.app (HB2.out.alloc HB2.out.size _) hg3 HOL.out (Nat.le_refl _) (by have := HB2.out.size; simp; omega); have HO4 := Lib.hid hown3; have HB4 := Lib.hid hb3; clear hown3 hb3 hg3)
        go_ret
        exact ⟨_, rfl, by rw [P2.out]; exact HO4.out, HB4.out⟩
    · have P2 := Lib.hid (show pr = zs by rw [PR.out, if_neg hlt])
      have hlt2 : ¬ most < (n : Int) + 1 := by omega
      go_wp2
      go_ret
      exact ⟨_, rfl, by rw [P2.out]; exact HO3.out, HB2.out⟩
end Go.Proofs.Ytjjhfllpbicclaa.Ct
