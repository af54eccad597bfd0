import Derived.Test.YtkahnkjbbcfbgaaDoorGenB
import Derived.Test.YtkahnkjbbcfbgaaDoorRowsO
/-! Generation pages: the reference's Put. -/
namespace Go.Proofs.YtkahnkjbbcfbgaaDoor.Ct
open Go.RowKit
set_option linter.unusedVariables false
set_option linter.unusedSimpArgs false
def rowsG (p : Gp) (k : Nat) : List (List Int) := [numS 2 p.no, numS 8 p.ver] ++ (p.gens.take k).map (numS 8)
theorem rowsG_next (p : Gp) {k : Nat} (hk : k < 6) : rowsG p (k + 1) = rowsG p k ++ [numS 8 (p.gens.getD k 0)] := by
  have : k = 0 ∨ k = 1 ∨ k = 2 ∨ k = 3 ∨ k = 4 ∨ k = 5 := by omega
  rcases this with rfl | rfl | rfl | rfl | rfl | rfl <;> rfl
theorem rowsG_len (p : Gp) {k : Nat} (hk : k ≤ 6) : (rowsG p k).length = 2 + k := by
  simp [rowsG, Gp.gens, Nat.min_eq_left hk]; omega
theorem rowsG_all (p : Gp) : (rowsG p 6).flatten = loadG p := by
  simp only [rowsG, Gp.gens, loadG, Gp.all, List.take, List.map_cons, List.map_nil]
  rw [show (8 : Int) = ((8 : Nat) : Int) from rfl, show (2 : Int) = ((2 : Nat) : Int) from rfl]
  simp only [numS_le (show 1 ≤ 2 by decide) (show 2 ≤ 8 by decide), numS_le (show 1 ≤ 8 by decide) (show 8 ≤ 8 by decide)]
  simp [packW, wsG]
set_option maxHeartbeats 4000000 in
theorem rgput_no (p : Gp) (w : World) (hw : WfG p) (hm : ¬ MayG p) : Calls Tryd.prog 7 #[genV p] w fun e w' => PutG w w' p e := by
  have MC := Lib.hid (fun w => rgmay_calls p w hw)
  rw [decide_eq_false hm] at MC
  have E := Lib.hid (show putG p = ([], 1) by unfold putG; rw [if_neg hm])
  have HB1 := Lib.hid (below_alloc (Below.refl w.heap.size w) (.cells (genC p) 25))
  clear hm hw
  unfold genV genC at *
  go_enter Tryd.func7, Tryd.ntmps7
  go_wp2_with (go_at_call 15; (with_reducible refine (MC.out _).mono ?_); rintro e w2 ⟨rfl, hb⟩; have HB2 := Lib.hid (below_step HB1.out hb); clear hb)
  go_ret2
  unfold PutG
  rw [E.out]
  exact ⟨_, rfl, own_nil _ _ _ _, HB2.out⟩
set_option maxHeartbeats 4000000 in
theorem rgput_yes (p : Gp) (w : World) (hw : WfG p) (hm : MayG p) : Calls Tryd.prog 7 #[genV p] w fun e w' => PutG w w' p e := by
  have MC := Lib.hid (fun w => rgmay_calls p w hw)
  rw [decide_eq_true hm] at MC
  have E := Lib.hid (show putG p = (sealS (pageS 1 (loadG p)), 0) by unfold putG; rw [if_pos hm])
  have HB1 := Lib.hid (below_alloc (Below.refl w.heap.size w) (.cells (genC p) 25))
  have HK1 := Lib.hid (show Blk (w.alloc (.cells (genC p) 25)) w.heap.size 25 (genC p) from Blk.new _ _ _)
  have GC := Lib.hid (fun k (hk : k < 6) => genC_cell p hk)
  have NX := Lib.hid (fun k (hk : k < 6) => rowsG_next p hk)
  have RL := Lib.hid (fun k (hk : k ≤ 6) => rowsG_len p hk)
  have RA := Lib.hid (rowsG_all p)
  have R0 := Lib.hid (show rowsG p 0 = [numS 2 p.no, numS 8 p.ver] from rfl)
  have GB := Lib.hid (fun k (hk : k < 6) => gens_at (Q := fun n => 0 ≤ n ∧ n ≤ 18446744073709551615) hw.2.2 hk)
  have LL := Lib.hid (loadG_len p)
  obtain ⟨⟨n0, n1⟩, -, -⟩ := hm
  obtain ⟨-, ⟨v0, v1⟩, -⟩ := hw
  have n2 : p.no ≤ 18446744073709551615 := by omega
  have un := u64_of p.no n0 n2
  have N1 := Lib.hid (fun w => num_calls p.no 2 w n0 n2 (by unfold I64; decide))
  have N2 := Lib.hid (fun w => num_calls p.ver 8 w v0 v1 (by unfold I64; decide))
  unfold PutG
  generalize putG p = pp at *
  generalize rowsG p = rg at *
  generalize loadG p = ld at *
  have GA : Hid (genC p = #[.int .i64 p.no, .int .u64 p.ver, .int .u64 p.g0, .int .u64 p.g1, .int .u64 p.g2, .int .u64 p.g3, .int .u64 p.g4, .int .u64 p.g5]) := Lib.hid rfl
  unfold genV
  unfold genC at HB1 HK1
  unfold genV genC at MC
  rw [GA.out]
  go_enter Tryd.func7, Tryd.ntmps7
  go_upto_region 3 with (go_at_call 15; (with_reducible refine (MC.out _).mono ?_); rintro e w2 ⟨rfl, hb⟩; have HB := Lib.hid (below_step HB1.out hb); have HK := Lib.hid (HK1.out.below hb); clear hb)
  go_region_held (fun w' => w'.cell? ⟨w.heap.size, 0, none⟩ = some (.int .i64 p.no) ∧ w'.cell? ⟨w.heap.size, 1, none⟩ = some (.int .u64 p.ver))
    (exact ⟨(cells8 ((by repeat (first | with_reducible exact HK.out | with_reducible apply Blk.alloc | with_reducible apply Blk.drewN | with_reducible apply Blk.drew | exact HK.out)))).1.1, (cells8 ((by repeat (first | with_reducible exact HK.out | with_reducible apply Blk.alloc | with_reducible apply Blk.drewN | with_reducible apply Blk.drew | exact HK.out)))).1.2.1⟩)
    (first
      | (go_at_call 20; (with_reducible refine (N1.out _).mono ?_); rintro e w3 ⟨v, rfl, ho, hb⟩; obtain ⟨a3, d3, rfl, -, -, -, -, -⟩ := ho.form; have HO3 := Lib.hid (Own.mono (base' := w.heap.size) ho (show w.heap.size ≤ w2.heap.size from HB.out.size)); have HB := Lib.hid (below_step ((by repeat (first | with_reducible exact HB.out | with_reducible apply below_alloc | with_reducible apply below_drewN | with_reducible apply below_drew))) hb); have HK := Lib.hid (Blk.below ((by repeat (first | with_reducible exact HK.out | with_reducible apply Blk.alloc | with_reducible apply Blk.drewN | with_reducible apply Blk.drew | exact HK.out))) hb); clear ho hb)
      | (go_at_call 20; (with_reducible refine (N2.out _).mono ?_); rintro e w4 ⟨v, rfl, ho, hb⟩; obtain ⟨a4, d4, rfl, -, -, -, -, -⟩ := ho.form; have HO4 := Lib.hid (Own.mono (base' := w.heap.size) ho HB.out.size); have HO3 := Lib.hid (Own.below HO3.out hb); have HB := Lib.hid (below_step HB.out hb); have HK := Lib.hid (Blk.below HK.out hb); clear ho hb))
  have hos := ownS_lit (w := w4) (base := w.heap.size) [.slice a3 (numS 2 p.no).length d3, .slice a4 (numS 8 p.ver).length d4] [numS 2 p.no, numS 8 p.ver] rfl HB.out.size rfl (by simp) (fun j hj => by
    have : j = 0 ∨ j = 1 := by simp at hj; omega
    rcases this with rfl | rfl
    · exact ⟨_, rfl, HO3.out⟩
    · exact ⟨_, rfl, HO4.out⟩)
  rw [← R0.out] at hos
  have hb5 := below_alloc HB.out (.cells #[.slice a3 (numS 2 p.no).length d3, .slice a4 (numS 8 p.ver).length d4] 26)
  have hk5 := HK.out.alloc (.cells #[.slice a3 (numS 2 p.no).length d3, .slice a4 (numS 8 p.ver).length d4] 26)
  have hos2 : OwnS (w4.alloc (.cells #[.slice a3 (numS 2 p.no).length d3, .slice a4 (numS 8 p.ver).length d4] 26)) w.heap.size (.slice (some ⟨w4.heap.size, 0, none⟩) 2 2) (rg 0) := by
    have := hos; rw [RL.out 0 (by omega)] at this; exact this
  clear hos
  generalize w4.alloc (.cells #[.slice a3 (numS 2 p.no).length d3, .slice a4 (numS 8 p.ver).length d4] 26) = w5 at *
  have HS5 := Lib.hid hos2
  have HB5 := Lib.hid hb5
  have HK5 := Lib.hid hk5
  clear hos2 hb5 hk5 HB HK HO3 HO4
  go_wp2
  go_loopw [4, 5] (fun l i wr => ∃ k : Nat, k ≤ 6 ∧ i = .int .i64 k ∧ OwnS wr w.heap.size l (rg k) ∧ Blk wr w.heap.size 25 (genC p) ∧ Below w.heap.size w wr) (fun _ i _ => 6 - (intOf i).toNat)
  case atStart => exact ⟨0, by omega, rfl, HS5.out, HK5.out, HB5.out⟩
  case round =>
    clear HS5 HB5 HK5
    obtain ⟨k, hk, rfl, hos, hblk, hbel⟩ := hrel
    by_cases hlt : k < 6
    · have hlt6 : (k : Int) < 6 := by omega
      have c := hblk.cell (2 + k)
      rw [GC.out k hlt] at c
      have HNX := Lib.hid (NX.out k hlt)
      have hrl := RL.out k hk
      obtain ⟨x0, x1⟩ := GB.out k hlt
      generalize p.gens.getD k 0 = n at *
      have NK := Lib.hid (num_calls n 8 wr x0 x1 (by unfold I64; decide))
      have HS := Lib.hid hos
      have HK := Lib.hid hblk
      have HB := Lib.hid hbel
      have HRL := Lib.hid hrl
      clear hos hblk hbel hrl
      go_wp2_with (first
        | (go_at_call 20; (with_reducible refine (NK.out).mono ?_); rintro e w6 ⟨v, rfl, ho, hb⟩; obtain ⟨va, vc, rfl, -, -, -, -, -⟩ := ho.form; have HO6 := Lib.hid (ho.mono HB.out.size); have HB6 := Lib.hid (below_step HB.out hb); have HS6 := Lib.hid (HS.out.below hb); have HK6 := Lib.hid (HK.out.below hb); clear ho hb)
        | (at_builtin; refine wp_appRows (base := w.heap.size) (L := rg k) (M := [numS 8 n]) rfl (.tmp 21) (.tmp 27) rfl rfl (HS6.out.alloc _) w6.heap.size rfl [.slice va (numS 8 n).length vc] rfl (Blk.new _ _ _) (fun j hj => (by obtain rfl : j = 0 := (by simpa using hj); exact ⟨_, rfl, HO6.out.alloc _⟩)) (by rw [HRL.out]; simp; omega) (by have := HB6.out.size; simp; omega) ?_; intro v' w7 hown hf; have HS7 := Lib.hid hown; have HK7 := Lib.hid ((HK6.out.alloc _).fr hf rfl); have HB7 := Lib.hid ((below_alloc HB6.out _).trans (hf.to_below (by have := HB6.out.size; simp; omega))); clear hown hf))
      go_roundw
      case rel => exact ⟨k + 1, by omega, by go_num, by rw [HNX.out]; exact HS7.out, HK7.out, HB7.out⟩
      case measure => simp [intOf]; omega
    · obtain rfl : k = 6 := by omega
      obtain ⟨la, lc, rfl, -, -⟩ := hos.form
      have hr := hos.rows
      have jc := join_calls la lc (rg 6) wr hr (by rw [RA.out, LL.out]; decide)
      rw [RA.out, RL.out 6 (by omega)] at jc
      rw [RL.out 6 (by omega)]
      have JC := Lib.hid jc
      have HB := Lib.hid hbel
      have PL := Lib.hid (fun a c W (h : Row .u8 W a ld) => rput_ok 1 a c ld W (by decide) h (by rw [LL.out]; decide))
      rw [LL.out] at PL
      clear hos hr jc hblk hbel
      go_wp2_with (first
        | (go_at_call 22; (with_reducible refine (JC.out).mono ?_); rintro e w6 ⟨v, rfl, ho, hb⟩; obtain ⟨va, vc, rfl, -, -, hr, -, -⟩ := ho.form; rw [LL.out]; have HB6 := Lib.hid (below_step HB.out hb); have PL6 := Lib.hid (PL.out va vc _ hr); clear ho hr hb)
        | (go_at_call 21; (with_reducible refine (PL6.out).mono ?_); rintro e w7 ⟨v, rfl, ho, hb⟩; have HO7 := Lib.hid (ho.mono HB6.out.size); have HB7 := Lib.hid (below_step HB6.out hb); clear ho hb))
      go_ret2
      rw [E.out]
      exact ⟨_, rfl, HO7.out, HB7.out⟩
theorem rgput_calls (p : Gp) (w : World) (hw : WfG p) : Calls Tryd.prog 7 #[genV p] w fun e w' => PutG w w' p e := by
  by_cases hm : MayG p
  · exact rgput_yes p w hw hm
  · exact rgput_no p w hw hm
end Go.Proofs.YtkahnkjbbcfbgaaDoor.Ct
