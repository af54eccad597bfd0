import Derived.Test.YthmhpjpnlngaoaaDoorComB
/-! Commits: leaf.Seal. -/
namespace Go.Proofs.YthmhpjpnlngaoaaDoor.Ct
open Go.RowKit
set_option linter.unusedVariables false
set_option linter.unusedSimpArgs false
theorem splice_nums (xs : List Int) (off : Nat) (ys : List Int) : splice (nums .u8 xs) off (nums .u8 ys) = nums .u8 (splice xs off ys) := by
  unfold splice nums
  simp [List.map_take, List.map_drop]
theorem splice_wf {xs ys : List Int} {off : Nat} (hx : ∀ x ∈ xs, (Lit.int .u8 x).wf = true) (hy : ∀ x ∈ ys, (Lit.int .u8 x).wf = true) : ∀ x ∈ splice xs off ys, (Lit.int .u8 x).wf = true := by
  intro x h
  unfold splice at h
  rcases List.mem_append.1 h with h | h
  · exact hx x (List.mem_of_mem_take h)
  · rcases List.mem_append.1 h with h | h
    · exact hy x h
    · exact hx x (List.mem_of_mem_drop h)
theorem copy_cells {w : World} {a : Option Addr} {ys : List Int} (h : Row .u8 w a ys) : (∀ v ∈ nums .u8 ys, v.oneCell' = true) ∧ (0 < (nums .u8 ys).length → ∃ ad, a = some ad ∧ ∀ j v, (nums .u8 ys)[j]? = some v → w.cell? (ad.add j) = some v) := by
  refine ⟨fun v hv => ?_, fun hp => ?_⟩
  · obtain ⟨y, _, rfl⟩ := List.mem_map.1 hv; rfl
  · rw [nums_length] at hp
    obtain ⟨ad, e, hc⟩ := h.2.2 hp
    refine ⟨ad, e, fun j v hv => ?_⟩
    have hj : j < ys.length := by have := (List.getElem?_eq_some_iff.1 hv).1; rwa [nums_length] at this
    rw [hc j hj, ← hv]
    simp [nums, List.getElem?_eq_getElem hj, List.getD_eq_getElem?_getD]
/-- copy of a row that is read into a row of the call's own. -/
theorem wp_copyO {ops : Array Oper} {rest : List Oper} {o : Oper} {a : Act} {w : World} {Q : Exit → Act → World → Prop} (hgd : o.guard = none) (d s : Operand)
    (ho : o.op = .call { callee := .builtin .copy, args := #[d, s], argTypes := #[27, 27] }) (g off n dLen dCap : Nat) (xs ys : List Int) (A : Option Addr) (cap base : Nat)
    (hown : Own .u8 5 w base (.slice (some ⟨g, 0, none⟩) n n) xs) (hn : n = xs.length) (hd : a.eval d = .slice (some ⟨g, off, none⟩) dLen dCap) (hs : a.eval s = .slice A ys.length cap) (hr : Row .u8 w A ys) (hl : ys.length ≤ dLen) (hf : off + ys.length ≤ n)
    (h : ∀ w', Own .u8 5 w' base (.slice (some ⟨g, 0, none⟩) n n) (splice xs off ys) → Below g w w' → wpList Tryd.prog ops Q rest (a.put o.dst (goInt ys.length)) w') : wpList Tryd.prog ops Q (o :: rest) a w := by
  obtain ⟨c1, c2⟩ := copy_cells hr
  have hg := hown.block hn
  have hbase := hown.base g rfl
  have hlen := hown.1.1
  obtain ⟨_, _, _, _, hm, _⟩ := hown.form
  refine wpList_copy_splice hgd d s 27 27 ho 5 Tryd.underlying27 (by kernel_rfl) _ _ _ _ _ _ hd hs g off (nums .u8 xs) 5 hg (nums .u8 ys) (by rw [nums_length]; simp [Nat.min_def]; omega) (fun hp => ⟨rfl, c2 hp⟩) (by rw [nums_length, nums_length]; omega) c1 g w (Below.refl _ _) (Nat.le_refl _) ?_
  intro w' h1 h2
  rw [nums_length]
  have h1 := h1.out
  rw [splice_nums] at h1
  have hls : n = (splice xs off ys).length := by rw [length_splice _ _ _ (by omega)]; exact hn
  refine h w' (own_of_block (n := n) h1 hls hbase ?_ (splice_wf hown.2 hr.2.1)) h2
  omega
theorem step_copyO {ops : Array Oper} {o : Oper} {a : Act} {w : World} {K : Act → World → Prop} {Q : Exit → Act → World → Prop} {F : Prop} (hgd : o.guard = none) (d s : Operand)
    (ho : o.op = .call { callee := .builtin .copy, args := #[d, s], argTypes := #[27, 27] }) (g off n dLen dCap : Nat) (xs ys : List Int) (A : Option Addr) (cap base : Nat)
    (hown : Own .u8 5 w base (.slice (some ⟨g, 0, none⟩) n n) xs) (hn : n = xs.length) (hd : a.eval d = .slice (some ⟨g, off, none⟩) dLen dCap) (hs : a.eval s = .slice A ys.length cap) (hr : Row .u8 w A ys) (hl : ys.length ≤ dLen) (hf : off + ys.length ≤ n)
    (h : ∀ w', Own .u8 5 w' base (.slice (some ⟨g, 0, none⟩) n n) (splice xs off ys) → Below g w w' → K (a.put o.dst (goInt ys.length)) w') :
    if Region.wanted o (yielded ops a.tmps) = true then Oper.wp Tryd.prog o a w K Q else F := by
  obtain ⟨c1, c2⟩ := copy_cells hr
  have hg := hown.block hn
  have hbase := hown.base g rfl
  obtain ⟨_, _, _, _, hm, _⟩ := hown.form
  refine step_copy_splice hgd d s 27 27 ho 5 Tryd.underlying27 (by kernel_rfl) _ _ _ _ _ _ hd hs g off (nums .u8 xs) 5 hg (nums .u8 ys) (by rw [nums_length]; simp [Nat.min_def]; omega) (fun hp => ⟨rfl, c2 hp⟩) (by rw [nums_length, nums_length]; omega) c1 g w (Below.refl _ _) (Nat.le_refl _) ?_
  intro w' h1 h2
  rw [nums_length]
  have h1 := h1.out
  rw [splice_nums] at h1
  have hls : n = (splice xs off ys).length := by rw [length_splice _ _ _ (by omega)]; exact hn
  refine h w' (own_of_block (n := n) h1 hls hbase ?_ (splice_wf hown.2 hr.2.1)) h2
  omega
theorem put0_calls (n width : Int) (w : World) (n0 : 0 ≤ n) (n1 : n ≤ 18446744073709551615) :
    Calls Tryd.prog 23 #[.slice none 0 0, .int .u64 n, .int .i64 width] w fun e w' => ∃ v, e = .returned v ∧ Own .u8 5 w' w.heap.size v (numS width n) ∧ Below w.heap.size w w' :=
  put_calls none 0 [] n width w (row_nil _ _) (by simp) n0 n1
theorem splice3 {a b d : List Int} (ha : a.length = 8) (hb : b.length = 2) (hd : d.length = 8) : splice (splice (splice (List.replicate 18 0) 0 a) 8 b) 10 d = a ++ (b ++ d) := by
  have e1 : splice (List.replicate 18 0) 0 a = a ++ List.replicate 10 0 := by unfold splice; rw [ha]; rfl
  have e2 : splice (a ++ List.replicate 10 0) 8 b = a ++ (b ++ List.replicate 8 0) := by
    unfold splice
    rw [hb, tk_left ha, show 8 + 2 = 8 + 2 from rfl, ← List.drop_drop, dr_left ha]; rfl
  have e3 : splice (a ++ (b ++ List.replicate 8 0)) 10 d = a ++ (b ++ d) := by
    have hab : (a ++ b).length = 10 := by rw [List.length_append, ha, hb]
    rw [← List.append_assoc]
    unfold splice
    rw [hd, tk_left hab, ← List.drop_drop, dr_left hab]
    simp
  rw [e1, e2, e3]
theorem numS8_len (n : Int) : (numS 8 n).length = 8 := by rw [show (8 : Int) = ((8 : Nat) : Int) from rfl, numS_le (by decide) (by decide), leS_len]
theorem numS2_len (n : Int) : (numS 2 n).length = 2 := by rw [show (2 : Int) = ((2 : Nat) : Int) from rfl, numS_le (by decide) (by decide), leS_len]
theorem loadC_splice (c : Cm) : splice (splice (splice (List.replicate 18 0) 0 (numS 8 c.snap)) 8 (numS 2 c.leaves)) 10 (numS 8 c.frm) = loadC c := by
  rw [splice3 (numS8_len _) (numS2_len _) (numS8_len _), ← loadC_flat]; simp
theorem pput_loadC (a : Option Addr) (cap : Nat) (c : Cm) (w : World) (hr : Row .u8 w a (loadC c)) (hT : Tab w) :
    Calls Tryd.prog 24 #[.int .i64 5, .slice a 18 cap] w fun e w' => ∃ v, e = .returned (.tuple #[v, .int .i64 0]) ∧ Own .u8 5 w' w.heap.size v (sealS (pageS 5 (loadC c))) ∧ Below w.heap.size w w' := by
  have := pput_ok 5 a cap (loadC c) w (by decide) hr (by rw [loadC_len]; decide) hT
  rwa [loadC_len] at this
theorem mk18 (w : World) : ∃ (w3 : World) (g : Nat), (Instr.makeSlice 27 (.int .i64 18) (.int .i64 18)).run Tryd.prog w = .ok (.slice (some ⟨g, 0, none⟩) 18 18) w3 ∧ Own .u8 5 w3 w.heap.size (.slice (some ⟨g, 0, none⟩) 18 18) (List.replicate 18 0) ∧ Below w.heap.size w w3 ∧ w.heap.size ≤ g := by
  refine ⟨_, _, run_mk8 18 (by decide) w, ?_, below_alloc (Below.refl _ _) _, Nat.le_refl _⟩
  have := own_lit (k := .u8) (E := 5) (w := w) (List.replicate 18 0) (Nat.le_refl _) (by simp) (zeros_wf 18)
  simpa using this
set_option maxHeartbeats 4000000 in
theorem lseal_no (c : Cm) (w : World) (hm : ¬ MayC c) : Calls Tryd.prog 16 #[comV c] w fun e w' => SealC w w' c e := by
  have E := Lib.hid (show sealC c = ([], 1) by unfold sealC; rw [if_neg hm])
  have HB1 := Lib.hid (below_alloc (Below.refl w.heap.size w) (.cells (comC c) 42))
  have SC := Lib.hid (fun w => sealable_calls c w)
  rw [decide_eq_false hm] at SC
  clear hm
  unfold SealC
  generalize sealC c = sc at *
  unfold comV comC at *
  obtain ⟨c0, c1, c2⟩ := c
  dsimp only at *
  go_enter Tryd.func16, Tryd.ntmps16
  go_wp2_with (go_at_call 38; (with_reducible refine (SC.out _).mono ?_); rintro e w2 ⟨rfl, hb⟩; have HB2 := Lib.hid (below_step HB1.out hb); clear hb)
  go_ret2
  rw [E.out]
  exact ⟨_, rfl, own_nil _ _ _ _, HB2.out⟩
set_option maxHeartbeats 4000000 in
theorem lseal_yes (c : Cm) (w : World) (hw : WfC c) (hm : MayC c) (hT : Tab w) : Calls Tryd.prog 16 #[comV c] w fun e w' => SealC w w' c e := by
  have E := Lib.hid (show sealC c = (sealS (pageS 5 (loadC c)), 0) by unfold sealC; rw [if_pos hm])
  have SC := Lib.hid (fun w => sealable_calls c w)
  rw [decide_eq_true hm] at SC
  obtain ⟨⟨s0, s1⟩, -, ⟨f0, f1⟩⟩ := hw
  obtain ⟨⟨m0, m1⟩, ⟨l0, l1⟩, m2⟩ := hm
  have ul := u64_of c.leaves l0 (by omega)
  have HB1 := Lib.hid (below_alloc (Below.refl w.heap.size w) (.cells (comC c) 42))
  have HK1 := Lib.hid (show Blk (w.alloc (.cells (comC c) 42)) w.heap.size 42 (comC c) from Blk.new _ _ _)
  have P1 := Lib.hid (fun w => put0_calls c.snap 8 w s0 s1)
  have P2 := Lib.hid (fun w => put0_calls c.leaves 2 w l0 (by omega))
  have P3 := Lib.hid (fun w => put0_calls c.frm 8 w f0 f1)
  have L1 := Lib.hid (numS8_len c.snap)
  have L2 := Lib.hid (numS2_len c.leaves)
  have L3 := Lib.hid (numS8_len c.frm)
  have SP := Lib.hid (loadC_splice c)
  have PP := Lib.hid (fun (W : World) (hb : Below w.heap.size w W) va vc hr => pput_loadC va vc c W hr (hT.below hb))
  clear s0 s1 f0 f1 hT
  unfold SealC
  generalize sealC c = ph at *
  generalize loadC c = ld at *
  unfold comV comC at *
  obtain ⟨c0, c1, c2⟩ := c
  dsimp only at *
  generalize numS 8 c0 = x1 at *
  generalize numS 2 c1 = x2 at *
  generalize numS 8 c2 = x3 at *
  go_enter Tryd.func16, Tryd.ntmps16
  go_upto_region 5 with (first
    | (go_at_call 38; (with_reducible refine (SC.out _).mono ?_); rintro e w2 ⟨rfl, hb⟩; obtain ⟨w3, gM, hmk, ho3, hb3, hg3⟩ := mk18 w2; have HGL := Lib.hid (show w.heap.size < gM from Nat.lt_of_lt_of_le (HK1.out.below hb).lt hg3); have HK := Lib.hid ((HK1.out.below hb).below hb3); obtain ⟨⟨k0, k1, k2⟩, -⟩ := cells3 HK.out; have HO := Lib.hid (ho3.mono (below_step HB1.out hb).size); have HW := Lib.hid (below_step (below_step HB1.out hb) hb3); clear hb ho3 hb3 hg3)
    | (go_at_call 23; (with_reducible refine (P1.out _).mono ?_); rintro e w4 ⟨v, rfl, ho, hb⟩; obtain ⟨a1, d1, rfl, -, -, hr1, -, -⟩ := ho.form; have HR1 := Lib.hid hr1; have HW := Lib.hid (below_step ((by repeat (first | with_reducible exact HW.out | with_reducible apply below_alloc | with_reducible apply below_drewN | with_reducible apply below_drew))) hb); have HK := Lib.hid (Blk.below ((by repeat (first | with_reducible exact HK.out | with_reducible apply Blk.alloc | with_reducible apply Blk.drewN | with_reducible apply Blk.drew | exact HK.out))) hb); have HO := Lib.hid (Own.below ((by repeat (first | with_reducible apply Own.alloc | with_reducible apply Own.drewN | with_reducible apply Own.drew | exact HO.out))) hb); clear hr1 ho hb)
    | ((with_reducible refine wp_copyO rfl (.tmp 9) (.tmp 12) rfl gM 0 18 18 18 (List.replicate 18 0) x1 a1 d1 w.heap.size HO.out (by simp) rfl rfl HR1.out (by have := L1.out; omega) (by have := L1.out; omega) ?_); intro w5 ho hb; have HO := Lib.hid ho; have HK := Lib.hid (show Blk w5 w.heap.size 42 _ from (hb.block _ HGL.out).trans HK.out); have HW := Lib.hid (HW.out.trans (hb.mono (Nat.le_of_lt HGL.out))); clear ho hb))
  clear k0 k1 k2 hmk
  go_region_held_law (fun w' => w'.cell? ⟨w.heap.size, 1, none⟩ = some (.int .i64 c1))
    (exact (cells3 ((by repeat (first | with_reducible exact HK.out | with_reducible apply Blk.alloc | with_reducible apply Blk.drewN | with_reducible apply Blk.drew | exact HK.out)))).1.2.1)
    (first
    | (go_at_call 23; (with_reducible refine (P2.out _).mono ?_); rintro e w4 ⟨v, rfl, ho, hb⟩; obtain ⟨a1, d1, rfl, -, -, hr1, -, -⟩ := ho.form; have HR2 := Lib.hid hr1; have HW := Lib.hid (below_step ((by repeat (first | with_reducible exact HW.out | with_reducible apply below_alloc | with_reducible apply below_drewN | with_reducible apply below_drew))) hb); have HK := Lib.hid (Blk.below ((by repeat (first | with_reducible exact HK.out | with_reducible apply Blk.alloc | with_reducible apply Blk.drewN | with_reducible apply Blk.drew | exact HK.out))) hb); have HO := Lib.hid (Own.below ((by repeat (first | with_reducible apply Own.alloc | with_reducible apply Own.drewN | with_reducible apply Own.drew | exact HO.out))) hb); clear hr1 ho hb)
    | ((with_reducible refine step_copyO rfl (.tmp 15) (.tmp 19) rfl gM 8 18 10 10 _ x2 _ _ w.heap.size HO.out (by rw [length_splice _ _ _ (by have := L1.out; simp; omega)]; simp) rfl rfl HR2.out (by have := L2.out; omega) (by have := L2.out; omega) ?_); intro w5 ho hb; have HO := Lib.hid ho; have HK := Lib.hid (show Blk w5 w.heap.size 42 _ from (hb.block _ HGL.out).trans HK.out); have HW := Lib.hid (HW.out.trans (hb.mono (Nat.le_of_lt HGL.out))); clear ho hb))
  all_goals
    go_wp2
    go_region_held_law (fun w' => w'.cell? ⟨w.heap.size, 2, none⟩ = some (.int .u64 c2))
      (exact (cells3 ((by repeat (first | with_reducible exact HK.out | with_reducible apply Blk.alloc | with_reducible apply Blk.drewN | with_reducible apply Blk.drew | exact HK.out)))).1.2.2)
      (first
      | (go_at_call 23; (with_reducible refine (P3.out _).mono ?_); rintro e w4 ⟨v, rfl, ho, hb⟩; obtain ⟨a3, d3, rfl, -, -, hr1, -, -⟩ := ho.form; have HR3 := Lib.hid hr1; have HW := Lib.hid (below_step ((by repeat (first | with_reducible exact HW.out | with_reducible apply below_alloc | with_reducible apply below_drewN | with_reducible apply below_drew))) hb); have HK := Lib.hid (Blk.below ((by repeat (first | with_reducible exact HK.out | with_reducible apply Blk.alloc | with_reducible apply Blk.drewN | with_reducible apply Blk.drew | exact HK.out))) hb); have HO := Lib.hid (Own.below ((by repeat (first | with_reducible apply Own.alloc | with_reducible apply Own.drewN | with_reducible apply Own.drew | exact HO.out))) hb); clear hr1 ho hb)
      | ((with_reducible refine step_copyO rfl (.tmp 22) (.tmp 25) rfl gM 10 18 8 8 _ x3 _ _ w.heap.size HO.out (by rw [length_splice _ _ _ (by rw [length_splice _ _ _ (by have := L1.out; simp; omega)]; have := L2.out; simp; omega), length_splice _ _ _ (by have := L1.out; simp; omega)]; simp) rfl rfl HR3.out (by have := L3.out; omega) (by have := L3.out; omega) ?_); intro w5 ho hb; have HO := Lib.hid ho; have HK := Lib.hid (show Blk w5 w.heap.size 42 _ from (hb.block _ HGL.out).trans HK.out); have HW := Lib.hid (HW.out.trans (hb.mono (Nat.le_of_lt HGL.out))); clear ho hb))
  all_goals
    rw [SP.out] at HO
    obtain ⟨_, _, hv, -, -, hr, -, -⟩ := HO.out.form
    simp only [Value.slice.injEq] at hv
    obtain ⟨rfl, -, rfl⟩ := hv
    have PC := Lib.hid (PP.out _ HW.out _ 18 hr)
    clear hr
    go_wp2_with (go_at_call 24; (with_reducible refine (PC.out).mono ?_); rintro e w7 ⟨v, rfl, ho, hb⟩; have HO7 := Lib.hid (ho.mono HW.out.size); have HW7 := Lib.hid (below_step HW.out hb); clear ho hb)
    go_ret2
    rw [E.out]
    exact ⟨_, rfl, HO7.out, HW7.out⟩
theorem lseal_calls (c : Cm) (w : World) (hw : WfC c) (hT : Tab w) : Calls Tryd.prog 16 #[comV c] w fun e w' => SealC w w' c e := by
  by_cases hm : MayC c
  · exact lseal_yes c w hw hm hT
  · exact lseal_no c w hm
end Go.Proofs.YthmhpjpnlngaoaaDoor.Ct
