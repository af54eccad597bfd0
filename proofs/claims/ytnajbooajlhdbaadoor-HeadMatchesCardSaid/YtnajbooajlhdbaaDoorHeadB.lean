import Derived.Test.YtnajbooajlhdbaaDoorHeadA
/-! head.Put. -/
namespace Go.Proofs.YtnajbooajlhdbaaDoor.Ct
open Go.RowKit
set_option linter.unusedVariables false
set_option linter.unusedSimpArgs false
/-- the widths of a head's numbers, as they lie. -/
def Wid (w : World) : Prop := ∀ i, i < 5 → w.cell? ⟨0, i, none⟩ = some (.int .i64 ((wsH.getD i 0 : Nat) : Int))
theorem Wid.below {w w' : World} (h : Wid w) (hb : Below w.heap.size w w') : Wid w' := fun i hi => (hb.cell (World.block_lt_of_cell? w _ (h i hi))).trans (h i hi)
def valsH (h : Hd) : List Int := [usedN h.used, h.lba, h.gen, h.sum, h.wear]
def prefH (h : Hd) (k : Nat) : List Int := packW (wsH.take k) ((valsH h).take k)
theorem prefH_next (h : Hd) {k : Nat} (hk : k < 5) : prefH h (k + 1) = prefH h k ++ numS ((wsH.getD k 0 : Nat) : Int) ((valsH h).getD k 0) := by
  have : k = 0 ∨ k = 1 ∨ k = 2 ∨ k = 3 ∨ k = 4 := by omega
  rcases this with rfl | rfl | rfl | rfl | rfl <;> (rw [numS_le (by decide) (by decide)]; simp [prefH, valsH, packW, List.take, wsH])
theorem prefH_len (h : Hd) (k : Nat) : (prefH h k).length ≤ 19 := by
  unfold prefH
  rw [packW_len (by simp [valsH])]
  have : (wsH.take k).sum ≤ wsH.sum := by
    conv => rhs; rw [← List.take_append_drop k wsH]
    rw [List.sum_append]; omega
  exact this
def PutH (w w' : World) (h : Hd) (e : Ending) : Prop := ∃ v, e = .returned (.tuple #[v, .int .i64 (putH h).2]) ∧ Own .u8 5 w' w.heap.size v (putH h).1 ∧ Below w.heap.size w w'
def arrH (h : Hd) : Array Value := #[.int .u64 (usedN h.used), .int .u64 h.lba, .int .u64 h.gen, .int .u64 h.sum, .int .u64 h.wear]
theorem arrH_get (h : Hd) {k : Nat} (hk : k < 5) : (arrH h)[k]? = some (.int .u64 ((valsH h).getD k 0)) := by
  have : k = 0 ∨ k = 1 ∨ k = 2 ∨ k = 3 ∨ k = 4 := by omega
  rcases this with rfl | rfl | rfl | rfl | rfl <;> rfl
theorem valsH_u64 {h : Hd} (hw : WfH h) (hm : MayH h) (k : Nat) : 0 ≤ (valsH h).getD k 0 ∧ (valsH h).getD k 0 ≤ 18446744073709551615 := by
  obtain ⟨⟨u0, u1⟩, ⟨l0, l1⟩, ⟨g0, g1⟩, ⟨s0, s1⟩, ⟨x0, x1⟩, -⟩ := mayH_fit hw hm
  simp only [show (256 : Int) ^ 1 = 256 from rfl, show (256 : Int) ^ 2 = 65536 from rfl, show (256 : Int) ^ 4 = 4294967296 from rfl, show (256 : Int) ^ 8 = 18446744073709551616 from rfl] at u1 l1 g1 s1 x1
  match k with
  | 0 => exact ⟨u0, by show usedN h.used ≤ _; omega⟩
  | 1 => exact ⟨l0, by show h.lba ≤ _; omega⟩
  | 2 => exact ⟨g0, by show h.gen ≤ _; omega⟩
  | 3 => exact ⟨s0, by show h.sum ≤ _; omega⟩
  | 4 => exact ⟨x0, by show h.wear ≤ _; omega⟩
  | k + 5 => simp [valsH]
set_option maxHeartbeats 4000000 in
theorem hput_no (h : Hd) (w : World) (hw : WfH h) (hm : ¬ MayH h) : Calls Tryd.prog 6 #[headV h] w fun e w' => PutH w w' h e := by
  have MC := Lib.hid (fun w => hmay_calls h w hw)
  rw [decide_eq_false hm] at MC
  have E := Lib.hid (show putH h = ([], 1) by unfold putH; rw [if_neg hm])
  have HB1 := Lib.hid (below_alloc (Below.refl w.heap.size w) (.cells (headC h) 25))
  clear hm hw
  unfold headV headC at *
  go_enter Tryd.func6, Tryd.ntmps6
  go_wp2_with (go_at_call 18; (with_reducible refine (MC.out _).mono ?_); rintro e w2 ⟨rfl, hb⟩; have HB2 := Lib.hid (below_step HB1.out hb); clear hb)
  go_ret2
  unfold PutH
  rw [E.out]
  exact ⟨_, rfl, own_nil _ _ _ _, HB2.out⟩
set_option maxHeartbeats 8000000 in
theorem hput_yes (h : Hd) (w : World) (hw : WfH h) (hm : MayH h) (hT : Tab w) (hW : Wid w) : Calls Tryd.prog 6 #[headV h] w fun e w' => PutH w w' h e := by
  have MC := Lib.hid (fun w => hmay_calls h w hw)
  rw [decide_eq_true hm] at MC
  have E := Lib.hid (show putH h = (sealS (pageS 3 (loadH h)), 0) by unfold putH; rw [if_pos hm])
  have hv := valsH_u64 hw hm
  have b1 := hv 1
  have b2 := hv 2
  have b3 := hv 3
  have b4 := hv 4
  have HV := Lib.hid hv
  have NX := Lib.hid (fun k (hk : k < 5) => prefH_next h hk)
  have AG := Lib.hid (fun k (hk : k < 5) => arrH_get h hk)
  have PL := Lib.hid (prefH_len h)
  have P5 := Lib.hid (show prefH h 5 = loadH h from rfl)
  have HB1 := Lib.hid (below_alloc (Below.refl w.heap.size w) (.cells (headC h) 25))
  have HK1 := Lib.hid (show Blk (w.alloc (.cells (headC h) 25)) w.heap.size 25 (headC h) from Blk.new _ _ _)
  have HU : Hid (arrH h = #[.int .u64 (usedN h.used), .int .u64 h.lba, .int .u64 h.gen, .int .u64 h.sum, .int .u64 h.wear]) := Lib.hid rfl
  simp only [valsH, List.getD_cons_succ, List.getD_cons_zero] at b1 b2 b3 b4
  obtain ⟨l0, l1⟩ := b1
  obtain ⟨g0, g1⟩ := b2
  obtain ⟨s0, s1⟩ := b3
  obtain ⟨x0, x1⟩ := b4
  clear hv hm hw
  generalize arrH h = A at *
  generalize valsH h = V at *
  have HP0 := Lib.hid (show prefH h 0 = [] from rfl)
  generalize hpf : prefH h = pf at *
  generalize loadH h = ld at *
  unfold headV headC at *
  unfold PutH
  generalize putH h = ph at *
  clear hpf
  obtain ⟨used, lba, gen, sum, wear⟩ := h
  dsimp only at *
  have HT := Lib.hid hT
  have HW := Lib.hid hW
  clear hT hW
  cases used
  all_goals
    first
      | (rw [show usedN false = 0 from rfl] at HU; have tok := Lib.hid (show True from trivial))
      | (rw [show usedN true = 1 from rfl] at HU; have tok := Lib.hid (show True from trivial))
    go_enter Tryd.func6, Tryd.ntmps6
    go_upto_region 6 with (go_at_call 18; (with_reducible refine (MC.out _).mono ?_); rintro e w2 ⟨rfl, hb⟩; have HB2 := Lib.hid (below_step HB1.out hb); have HK2 := Lib.hid (HK1.out.below hb); obtain ⟨⟨k0, k1, k2, k3, k4⟩, -⟩ := cells5 HK2.out; have hz2 := HK2.out.lt; clear hb)
    have hb3 := below_alloc HB2.out (.cells A 42)
    have hk3 : Blk (w2.alloc (.cells A 42)) w2.heap.size 42 A := Blk.new _ _ _
    rw [HU.out] at hb3 hk3
    have HG := Lib.hid HB2.out.size
    generalize w2.alloc (.cells _ 42) = w3 at *
    generalize w2.heap.size = gA at *
    rw [← HU.out] at hk3
    have HB3 := Lib.hid hb3
    have HK3 := Lib.hid hk3
    clear hb3 hk3 k0 k1 k2 k3 k4 hz2
    go_wp2
    go_loopw [5, 6, 25] (fun b i j wr => ∃ k : Nat, k ≤ 5 ∧ j = .int .i64 k ∧ Own .u8 5 wr w.heap.size b (pf k) ∧ Blk wr gA 42 A ∧ Below w.heap.size w wr) (fun _ _ j _ => 5 - (intOf j).toNat)
    case atStart => exact ⟨0, by omega, rfl, by rw [HP0.out]; exact own_nil _ _ _ _, HK3.out, HB3.out⟩
    case round =>
      clear HB3 HK3
      obtain ⟨k, hk, rfl, hown, hblk, hbel⟩ := hrel
      by_cases hlt : k < 5
      · have hlt5 : (k : Int) < 5 := by omega
        have hA := hblk.cell k
        rw [AG.out k hlt] at hA
        have hWi := (HW.out.below hbel) k hlt
        have hn := HV.out k
        have HNX := Lib.hid (NX.out k hlt)
        have hpl := PL.out k
        have HO := Lib.hid hown
        have HB := Lib.hid hbel
        have HK := Lib.hid hblk
        obtain ⟨ba, bc, rfl, -, -, hr, -, -⟩ := hown.form
        obtain ⟨n0, n1⟩ := hn
        generalize V.getD k 0 = n at *
        generalize hwd : ((wsH.getD k 0 : Nat) : Int) = wd at *
        have PC := Lib.hid (fun W (hb : Below wr.heap.size wr W) => put_calls ba bc (pf k) n wd W (hr.below hb) (by omega) n0 n1)
        have HBX := Lib.hid (Below.refl wr.heap.size wr)
        have CA := Lib.hid (fun W (hb : Below wr.heap.size wr W) => (hb.cell (World.block_lt_of_cell? wr _ hA)).trans hA)
        have CW := Lib.hid (fun W (hb : Below wr.heap.size wr W) => (hb.cell (World.block_lt_of_cell? wr _ hWi)).trans hWi)
        clear hwd hown hblk hbel hr hA hWi
        go_upto_region 10 with (fail)
        go_region_held (fun w' => w'.cell? ⟨gA, k, none⟩ = some (.int .u64 n) ∧ w'.cell? ⟨0, k, none⟩ = some (.int .i64 wd))
          (exact ⟨CA.out _ ((by repeat (first | with_reducible exact HBX.out | with_reducible apply below_alloc | with_reducible apply below_drewN | with_reducible apply below_drew))), CW.out _ ((by repeat (first | with_reducible exact HBX.out | with_reducible apply below_alloc | with_reducible apply below_drewN | with_reducible apply below_drew)))⟩)
          (first
            | (go_at_call 19; (with_reducible refine (PC.out _ ((by repeat (first | with_reducible exact HBX.out | with_reducible apply below_alloc | with_reducible apply below_drewN | with_reducible apply below_drew)))).mono ?_); rintro e w4 ⟨v, rfl, ho, hb⟩; have HO4 := Lib.hid ho; have HBX := Lib.hid (below_step ((by repeat (first | with_reducible exact HBX.out | with_reducible apply below_alloc | with_reducible apply below_drewN | with_reducible apply below_drew))) hb); clear ho hb))
        go_wp2
        go_roundw
        case rel => exact ⟨k + 1, by omega, by go_num, by rw [HNX.out]; exact HO4.out.mono HB.out.size, HK.out.below HBX.out, below_step HB.out HBX.out⟩
        case measure => simp [intOf]; omega
      · obtain rfl : k = 5 := by omega
        rw [P5.out] at hown
        have hl : ld.length ≤ 19 := by have := PL.out 5; rw [P5.out] at this; exact this
        obtain ⟨ba, bc, rfl, -, -, hr, -, -⟩ := hown.form
        have pc := pput_calls 3 ba bc ld wr (by unfold I64; decide) hr (HT.out.below hbel)
        unfold PutS at pc
        rw [show putP 3 ld = (sealS (pageS 3 ld), 0) by unfold putP; rw [if_pos (by decide), if_neg (by omega)]] at pc
        have PG := Lib.hid pc
        have HB := Lib.hid hbel
        clear pc hown hblk hbel hr
        go_wp2_with (go_at_call 20; (with_reducible refine (PG.out).mono ?_); rintro e w6 ⟨v, rfl, ho, hb⟩; have HO := Lib.hid ho; have HB6 := Lib.hid (below_step HB.out hb); clear ho hb)
        go_ret2
        rw [E.out]
        exact ⟨_, rfl, HO.out.mono HB.out.size, HB6.out⟩
theorem hput_calls (h : Hd) (w : World) (hw : WfH h) (hT : Tab w) (hW : Wid w) : Calls Tryd.prog 6 #[headV h] w fun e w' => PutH w w' h e := by
  by_cases hm : MayH h
  · exact hput_yes h w hw hm hT hW
  · exact hput_no h w hw hm
end Go.Proofs.YtnajbooajlhdbaaDoor.Ct
