import Derived.Test.YtjjhfllpbicclaaGhD
import Derived.Test.YtjjhfllpbicclaaGhR
/-! Histories: All. -/
namespace Go.Proofs.Ytjjhfllpbicclaa.Ct
open Go.RowKit
set_option linter.unusedVariables false
set_option linter.unusedSimpArgs false
theorem u64_wf {z : Int} (h : U64 z) : (Lit.int .u64 z).wf = true := by
  unfold U64 at h
  simp [Lit.wf, IntKind.min, IntKind.max, IntKind.signed, IntKind.bits]
  omega
theorem put_addr {base : Nat} {w : World} {a : Option Addr} {cap n : Nat} {xs : List Value} (h : SL base w 47 2 (.slice a n cap) n xs) (hn : 0 < n) : ∃ gp off, a = some ⟨gp, off, none⟩ := by
  obtain ⟨g, off', cap', cs, e, -⟩ := h.at_ hn
  simp only [Value.slice.injEq] at e
  exact ⟨g, off', e.1⟩
def keysS (M L : List KV) : List Int := (keepS M L).map Prod.fst
theorem keysS_step {M L : List KV} {j : Nat} (h : j < L.length) : keysS M (L.take (j + 1)) = if cntS M (L.getD j (0, 0)) = true then keysS M (L.take j) ++ [(L.getD j (0, 0)).1] else keysS M (L.take j) := by
  unfold keysS
  rw [keepS_step h]
  split
  · rw [List.map_append]; rfl
  · rfl
theorem keysS_len (M L : List KV) : (keysS M L).length ≤ L.length := by unfold keysS keepS; rw [List.length_map]; exact List.length_filter_le _ _
set_option maxHeartbeats 8000000 in
theorem gall_calls (base h g : Nat) (sv : Value) (M L : List KV) (now most : Int) (w : World) (a : His base w h g sv M L now most) (hL : L.length ≤ 100000) (hU : ∀ p ∈ L, U64 p.1) :
    Calls Try.prog 9 #[.pointer (some ⟨h, 0, none⟩)] w fun e w' => ∃ v, e = .returned v ∧ Own .u64 28 w' w.heap.size v (keysS M L) ∧ Below w.heap.size w w' := by
  obtain ⟨b1, b2, hk, hm, hs⟩ := a
  obtain ⟨sa, cap, rfl, hcap, hcm⟩ := hs.form
  have RC := Lib.hid (real_calls h g w (hk.cell 0))
  have c1 := hk.cell 1
  have HS := Lib.hid (fun (W : World) (hb : Below w.heap.size w W) => hs.below hb)
  have CC := Lib.hid (fun (p : KV) (W : World) (hb : Below w.heap.size w W) => counts_calls h g M p W (bget hb (hk.cell 0)) (hm.below hb))
  have KS := Lib.hid (fun j (hj : j < L.length) => keysS_step (M := M) hj)
  have K0 := Lib.hid (show keysS M (L.take 0) = [] from rfl)
  have KL := Lib.hid (show keysS M (L.take L.length) = keysS M L by rw [List.take_length])
  have KN := Lib.hid (fun j => show (keysS M (L.take j)).length ≤ 100000 from Nat.le_trans (keysS_len _ _) (by rw [List.length_take]; omega))
  have HU := Lib.hid (fun j (hj : j < L.length) => (show U64 (L.getD j (0, 0)).1 from hU _ (by rw [List.getD_eq_getElem?_getD, List.getElem?_eq_getElem hj]; exact List.getElem_mem hj)))
  clear hk hm hs hU
  generalize hks : (fun j => keysS M (L.take j)) = ks
  have HKS := Lib.hid (fun j => (congrFun hks j : keysS M (L.take j) = ks j))
  obtain ⟨n, hn⟩ : ∃ n : Nat, L.length = n := ⟨_, rfl⟩
  have HN := Lib.hid hn
  simp only [hn] at HS KS KL HU hcap hL c1
  clear hks hn
  go_enter Try.func9, Try.ntmps9
  go_wp2_with (go_at_call 18; (with_reducible refine (RC.out).mono ?_); rintro e w' ⟨rfl, rfl⟩)
  go_loopw [3, 14] (fun v i wr => ∃ j : Nat, j ≤ n ∧ i = .int .i64 j ∧ Own .u64 28 wr w.heap.size v (ks j) ∧ Below w.heap.size w wr) (fun _ i _ => n - (intOf i).toNat)
  case atStart => exact ⟨0, by omega, rfl, by rw [← HKS.out, K0.out]; exact own_nil _ _ _ _, Below.refl _ _⟩
  case round =>
    obtain ⟨j, hj, rfl, hown, hbel⟩ := hrel
    have HO := Lib.hid hown
    have HB := Lib.hid hbel
    clear hown
    by_cases hlt : j < n
    · have hlti : (j : Int) < n := by omega
      obtain ⟨gp, off, rfl⟩ := put_addr (HS.out _ hbel) (by omega)
      obtain ⟨d0, d1⟩ := put_cells (HS.out _ hbel) HN.out hlt
      have st := KS.out j hlt
      have sl := KN.out j
      rw [HKS.out, HKS.out] at st
      rw [HKS.out] at sl
      have hu := HU.out j hlt
      have D1 := Lib.hid (CC.out (L.getD j (0, 0)) _ (below_alloc hbel (.cells #[.int .u64 (L.getD j (0, 0)).1, .int .i64 (L.getD j (0, 0)).2] 47)))
      generalize L.getD j (0, 0) = p at *
      obtain ⟨p1, p2⟩ := p
      dsimp only at *
      have hvk : Blk (wr.alloc (.cells #[.int .u64 p1, .int .i64 p2] 47)) wr.heap.size 47 #[.int .u64 p1, .int .i64 p2] := Blk.new _ _ _
      have HVK := Lib.hid hvk
      have HWF := Lib.hid (u64_wf hu)
      clear hvk hu
      cases hq : cntS M (p1, p2)
      · rw [hq] at D1 st
        rw [if_neg (by simp)] at st
        have S2 := Lib.hid st
        clear st hq hbel
        go_wp2_with (go_at_call 20; (with_reducible refine (D1.out).mono ?_); rintro e w2 ⟨rfl, hb⟩; have HB2 := Lib.hid (below_step (below_alloc (Below.refl wr.heap.size wr) _) hb); clear hb)
        go_roundw
        case rel => exact ⟨j + 1, by omega, by go_num, by rw [S2.out]; exact HO.out.below HB2.out, below_step HB.out HB2.out⟩
        case measure => simp [intOf]; omega
      · rw [hq] at D1 st
        rw [if_pos rfl] at st
        have S2 := Lib.hid st
        clear st hq hbel
        go_upto_region 8 with (go_at_call 20; (with_reducible refine (D1.out).mono ?_); rintro e w2 ⟨rfl, hb⟩; have HB2 := Lib.hid (below_step (below_alloc (Below.refl wr.heap.size wr) _) hb); have hv2 := HVK.out.below hb; clear hb)
        have k0 := hv2.cell 0
        have HB3 := Lib.hid (below_step HB.out HB2.out)
        have HO2 := Lib.hid (HO.out.below HB2.out)
        clear d0 d1
        generalize ks j = ys at *
        go_wp2_with (at_builtin; refine wp_app1 22 28 .u64 8 Try.underlying22 infoU64 rfl (.tmp 21) (.tmp 24) rfl w.heap.size _ ys p1 (HO2.out.alloc _) rfl _ rfl (by first | (simp [go_sem]; done) | rfl | exact World.cell?_alloc_new _ _ _ _) HWF.out (by omega) (by decide) (by have := HB3.out.size; simp; omega) ?_; intro v' w5 hown1 hg1; have hb1 := Below.app (HB3.out.alloc HB3.out.size _) hg1 (HO2.out.alloc _) (Nat.le_refl _) (by have := HB3.out.size; simp; omega); have HO1 := Lib.hid hown1; have HB5 := Lib.hid hb1; clear hown1 hb1 hg1)
        go_roundw
        case rel => exact ⟨j + 1, by omega, by go_num, by rw [S2.out]; exact HO1.out, HB5.out⟩
        case measure => simp [intOf]; omega
    · obtain rfl : j = n := by omega
      go_wp2
      go_ret
      exact ⟨_, rfl, by rw [← KL.out, HKS.out]; exact HO.out, HB.out⟩
end Go.Proofs.Ytjjhfllpbicclaa.Ct
