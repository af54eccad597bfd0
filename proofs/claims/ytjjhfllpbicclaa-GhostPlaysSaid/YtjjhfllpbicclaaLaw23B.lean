import Derived.Test.YtjjhfllpbicclaaLaw23A
import Derived.Test.YtjjhfllpbicclaaStructs
import Derived.Test.YtjjhfllpbicclaaTakeC
import Derived.Deep.CutBlock
/-! Chapter 23: GhostPlays. -/
namespace Go.Proofs.Ytjjhfllpbicclaa.Ct
open Go.RowKit
set_option linter.unusedVariables false
set_option linter.unusedSimpArgs false
abbrev act23 : List TypeDesc := [.int .i64, .int .u64]
theorem add_field (ad : Addr) (n j : Nat) (hj : 0 < j) : ad.add (n + j) = ⟨(ad.add n).block, (ad.add n).off + j, none⟩ := by
  unfold Addr.add
  by_cases h : n = 0
  · subst h; simp; omega
  · simp [h, Nat.add_assoc]
theorem act23_cells {w : World} {ad : Addr} {L : List (List Value)} (h : RowF act23 w (some ad) L) {i : Nat} (hi : i < L.length) :
    (w.cell? (ad.add (i * 2)) = some (.int .i64 (fI L i 0)) ∧ w.cell? ⟨(ad.add (i * 2)).block, (ad.add (i * 2)).off + 1, none⟩ = some (.int .u64 (fI L i 1))) ∧ I64 (fI L i 0) ∧ U64 (fI L i 1) := by
  have h0 := h.int hi (j := 0) .i64 rfl
  have h1 := h.int hi (j := 1) .u64 rfl
  have e1 := h1.1
  rw [add_field _ _ _ (by decide)] at e1
  exact ⟨⟨h0.1, e1⟩, i64_of_wf h0.2, bounds_u64 h1.2⟩
theorem putR_len {xs : List Int} {k most : Int} (h : (xs.length : Int) ≤ most) : ((putR xs k most).length : Int) ≤ most ∨ (putR xs k most).length ≤ xs.length + 1 := by
  have := remS_len xs k
  right
  unfold putR
  split <;> simp <;> omega
theorem Own.row {k : IntKind} {E : TypeId} {w : World} {base : Nat} {a : Option Addr} {n c : Nat} {xs : List Int} (h : Own k E w base (.slice a n c) xs) : Row k w a xs := by
  obtain ⟨a', c', e, -, -, r, -⟩ := h.form
  injection e with e1 e2 e3
  subst e1
  exact r
theorem belowB_drew {B : Nat} {w W : World} (h : Below B w W) : Below B w W.drew := ⟨h.os, h.tape, h.output, h.size, h.block⟩
theorem belowB_drewN {B : Nat} {w W : World} (h : Below B w W) (n : Nat) : Below B w (W.drewN n) := ⟨h.os, h.tape, h.output, h.size, h.block⟩
theorem GH.mono {base : Nat} {w : World} {h g : Nat} {most : Int} {row : List Int} {c c' : Nat} (a : GH base w h g most row c) (hc : c ≤ c') : GH base w h g most row c' := by
  obtain ⟨sv, M, L, now, h1, h2, h3, h4⟩ := a
  exact ⟨sv, M, L, now, h1, h2, h3, by omega⟩
theorem rsame_refl (a b : Option Addr) (ac bc : Nat) (xs : List Int) (w : World) (h : Row .u64 w a xs) (k : Row .u64 w b xs) :
    Calls Try.prog 15 #[.slice a xs.length ac, .slice b xs.length bc] w fun e w' => e = .returned (.bool true) ∧ Below w.heap.size w w' :=
  (rsame23_calls a b ac bc xs xs w h k).mono fun e w' ⟨h1, h2⟩ => ⟨by rw [h1]; simp, h2⟩
theorem mineH_a : ∀ cs, mineH (.cells cs 35 (0, 0)) = false := fun _ => rfl
theorem gh_all2 (base h g : Nat) (most : Int) (row : List Int) (c : Nat) (w : World) (a : GH base w h g most row c) (hm : most ≤ 1024) :
    Calls Try.prog 9 #[.pointer (some ⟨h, 0, none⟩)] w fun e w' => ∃ a4 c4, e = .returned (.slice a4 row.length c4) ∧ Row .u64 w' a4 row ∧ Below w.heap.size w w' :=
  (gh_all base h g most row c w a hm).mono fun e w' ⟨v, h1, h2, h3⟩ => by
    obtain ⟨a4, c4, hv, -, -, -, -⟩ := h2.form
    subst hv
    exact ⟨a4, c4, h1, h2.row, h3⟩
/-- a round's state: a history, the reference's row. -/
def P23 (base : Nat) (h g : Nat) (most : Int) (c : Nat) (l : Value) (wr : World) : Prop := ∃ row, GH base wr h g most row c ∧ Own .u64 28 wr base l row ∧ base ≤ wr.heap.size
set_option maxRecDepth 100000 in
set_option maxHeartbeats 8000000 in
theorem plays23_walk (mo : Int) (a : Option Addr) (cap : Nat) (L : List (List Value)) (key : Int) (w : World) (hm : 0 ≤ mo ∧ mo ≤ 255) (hc : L.length ≤ cap) (hcm : cap ≤ 9223372036854775807) (h : RowF act23 w a L) (hk : 0 ≤ key ∧ key ≤ 18446744073709551615) :
    Calls Try.prog 4 #[.int .u8 mo, .slice a L.length cap, .int .u64 key] w fun e w' => e = .returned (.bool true) ∧ Below w.heap.size w w' := by
  have H := Lib.hid h; clear h
  obtain ⟨hm0, hm1⟩ := hm
  have M1 : 0 ≤ mo % 12 := by omega
  have M2 : mo % 12 ≤ 11 := by omega
  have NC := Lib.hid (gh_new (mo % 12) w M1 (by omega))
  have KEY := Lib.hid (show U64 key from hk)
  clear hk
  obtain ⟨N, hN⟩ : ∃ N, N = min L.length 60 := ⟨_, rfl⟩
  have hN1 : N ≤ L.length := by omega
  have hN2 : N ≤ 60 := by omega
  have HN := Lib.hid hN; clear hN
  go_enter Try.func4, Try.ntmps4
  go_upto_region 6 with (go_at_call 6; (with_reducible refine (NC.out).mono ?_); rintro e w1 ⟨rfl, hg, hb⟩; have HG := Lib.hid hg; have HB1 := Lib.hid hb; clear hg hb)
  generalize mo % 12 = m at *
  have HST := Lib.hid (show P23 w.heap.size (w.heap.size + 1) w.heap.size m 0 (.slice none 0 0) w1 from ⟨[], HG.out, own_nil _ _ _ _, HB1.out.size⟩)
  generalize hB : w.heap.size = B at *
  clear NC HG
  go_wp2
  go_loopw [10, 11] (fun l i wr => ∃ k : Nat, k ≤ N ∧ i = .int .i64 (k : Int) ∧ P23 B (B + 1) B m k l wr ∧ Below B w wr) (fun _ i _ => N - (intOf i).toNat)
  case atStart => exact ⟨0, by omega, rfl, HST.out, HB1.out⟩
  case round =>
    clear HST
    obtain ⟨k, hk, rfl, ⟨row, hg, ho, hz⟩, hbel⟩ := hrel
    have HG := Lib.hid hg; have HO := Lib.hid ho; have HZ := Lib.hid hz; have HBz := Lib.hid hbel
    clear hg ho hz hbel
    by_cases hlt : k < N
    · have hl3 : k < L.length := by omega
      have hl3i : (k : Int) < L.length := by omega
      have hl4 : (k : Int) < 60 := by omega
      obtain ⟨ad, rfl⟩ := H.out.addr (by omega)
      obtain ⟨⟨e0, e1⟩, b0, b1⟩ := act23_cells (H.out.below (by rw [hB]; exact HBz.out)) hl3
      have BK := Lib.hid b1
      generalize fI L k 0 = kd at *
      generalize fI L k 1 = nn at *
      have hb2 := below_alloc (Below.refl wr.heap.size wr) (.cells #[.int .i64 kd, .int .u64 nn] 35)
      have HBK := Lib.hid (show Blk (wr.alloc (.cells #[.int .i64 kd, .int .u64 nn] 35)) wr.heap.size 35 #[.int .i64 kd, .int .u64 nn] from Blk.new _ _ _)
      have HG2 := Lib.hid (HG.out.below hb2)
      have HO2 := Lib.hid (HO.out.below hb2)
      have HB2 := Lib.hid (HBz.out.alloc HZ.out (.cells #[.int .i64 kd, .int .u64 nn] 35))
      have HZ2 := Lib.hid (show B ≤ (wr.alloc (.cells #[.int .i64 kd, .int .u64 nn] 35)).heap.size from Nat.le_trans HZ.out hb2.size)
      have RL := Lib.hid HG.out.len
      clear hb2 HG HO HBz HZ
      go_upto_block 2 with (fail)
      clear e0 e1
      generalize wr.alloc (.cells #[.int .i64 kd, .int .u64 nn] 35) = w2 at *
      generalize wr.heap.size = g2 at *
      obtain ⟨ra, rc, hrv, -, -, -, -⟩ := HO2.out.form
      subst hrv
      go_cut [10, 13, 14] (fun l ok is wx => ∃ b row', ok = .bool b ∧ is = .bool b ∧ GH B wx (B + 1) B m row' (k + 1) ∧ Own .u64 28 wx B l row' ∧ B ≤ wx.heap.size ∧ Blk wx g2 35 #[.int .i64 kd, .int .u64 nn] ∧ Below B w wx)
      case first =>
        by_cases k0 : kd = 0
        · subst k0
          have d1 := HBK.out.cell 1
          go_upto_region 14 with (go_at_call 11; (with_reducible refine (rput23_calls _ _ row nn m _ HO2.out.row (by have := RL.out; omega) BK.out).mono ?_); rintro e w3 ⟨v3, rfl, ho3, hb3⟩; have HO3 := Lib.hid (ho3.mono HZ2.out); have HG3 := Lib.hid (HG2.out.below hb3); have HBK3 := Lib.hid (HBK.out.below hb3); have HB3 := Lib.hid (Below.trans HB2.out (hb3.mono HZ2.out)); have HZ3 := Lib.hid (Nat.le_trans HZ2.out hb3.size); obtain ⟨a3, c3, hv3, -, -, -, -⟩ := ho3.form; subst hv3; clear ho3 hb3)
          go_region_held (fun w' => w'.cell? ⟨g2, 1, none⟩ = some (.int .u64 nn))
            (exact HBK3.out.cell 1)
            (first
              | (go_at_call 7; (with_reducible refine (gh_put B (B + 1) B m nn row k _ (by repeat (first | with_reducible exact HG3.out | with_reducible apply GH.drewN | with_reducible apply GH.drew | exact HG3.out)) BK.out (by omega) (by omega) (by have := HZ3.out; simp <;> omega)).mono ?_); rintro e w4 ⟨rfl, hg4, hf4⟩; have HO3 := Lib.hid (Own.frx (by repeat (first | with_reducible apply Own.alloc | with_reducible apply Own.drewN | with_reducible apply Own.drew | exact HO3.out)) hf4 mineH_u); have HBK3 := Lib.hid (Blk.fr (by repeat (first | with_reducible exact HBK3.out | with_reducible apply Blk.alloc | with_reducible apply Blk.drewN | with_reducible apply Blk.drew | exact HBK3.out)) hf4 (mineH_a _)); have HB3 := Lib.hid (Below.trans (by repeat (first | with_reducible exact HB3.out | with_reducible apply belowB_drewN | with_reducible apply belowB_drew | exact HB3.out)) (hf4.to_below (by have := HZ3.out; simp <;> omega))); have HZ3 := Lib.hid (Nat.le_trans (show B ≤ _ by have := HZ3.out; simp <;> omega) hf4.size); have HG4 := Lib.hid hg4; clear hg4 hf4)
              | (go_at_call 8; (with_reducible refine (rhas_calls _ _ (putR row nn m) nn _ (Own.row (base := B) (E := 28) (n := (putR row nn m).length) (c := c3) (by repeat (first | with_reducible apply Own.alloc | with_reducible apply Own.drewN | with_reducible apply Own.drew | exact HO3.out)))).mono ?_); rintro e w4 ⟨rfl, rfl⟩))
          all_goals go_wp2
          all_goals go_meet
          all_goals exact ⟨_, _, rfl, rfl, (by repeat (first | with_reducible exact HG4.out | with_reducible apply GH.drewN | with_reducible apply GH.drew | exact HG4.out)), (by repeat (first | with_reducible apply Own.alloc | with_reducible apply Own.drewN | with_reducible apply Own.drew | exact HO3.out)), HZ3.out, (by repeat (first | with_reducible exact HBK3.out | with_reducible apply Blk.alloc | with_reducible apply Blk.drewN | with_reducible apply Blk.drew | exact HBK3.out)), (by repeat (first | with_reducible exact HB3.out | with_reducible apply belowB_drewN | with_reducible apply belowB_drew | exact HB3.out))⟩
        · by_cases k1 : kd = 1
          · subst k1
            have d1 := HBK.out.cell 1
            go_upto_region 16 with (fail)
            go_region_held (fun w' => w'.cell? ⟨g2, 1, none⟩ = some (.int .u64 nn))
              (exact HBK.out.cell 1)
              (first
                | (go_at_call 12; (with_reducible refine (gh_take B (B + 1) B m nn row k _ (by repeat (first | with_reducible exact HG2.out | with_reducible apply GH.drewN | with_reducible apply GH.drew | exact HG2.out)) (by omega) (by have := HZ2.out; simp <;> omega)).mono ?_); rintro e w4 ⟨rfl, hg4, hf4⟩; have HO2 := Lib.hid (Own.frx (by repeat (first | with_reducible apply Own.alloc | with_reducible apply Own.drewN | with_reducible apply Own.drew | exact HO2.out)) hf4 mineH_u); have HBK := Lib.hid (Blk.fr (by repeat (first | with_reducible exact HBK.out | with_reducible apply Blk.alloc | with_reducible apply Blk.drewN | with_reducible apply Blk.drew | exact HBK.out)) hf4 (mineH_a _)); have HB2 := Lib.hid (Below.trans (by repeat (first | with_reducible exact HB2.out | with_reducible apply belowB_drewN | with_reducible apply belowB_drew | exact HB2.out)) (hf4.to_below (by have := HZ2.out; simp <;> omega))); have HZ2 := Lib.hid (Nat.le_trans (show B ≤ _ by have := HZ2.out; simp <;> omega) hf4.size); have HG4 := Lib.hid hg4; clear hg4 hf4)
                | (go_at_call 8; (with_reducible refine (rhas_calls _ _ row nn _ (Own.row (base := B) (E := 28) (n := row.length) (c := rc) (by repeat (first | with_reducible apply Own.alloc | with_reducible apply Own.drewN | with_reducible apply Own.drew | exact HO2.out)))).mono ?_); rintro e w4 ⟨rfl, rfl⟩))
            all_goals have HO4 := HO2
            all_goals have HBK4 := HBK
            all_goals have HB4 := HB2
            all_goals have HZ4 := HZ2
            all_goals have d4 := HBK4.out.cell 1
            all_goals go_wp2_with (go_at_call 13; (with_reducible refine (rwithout_calls _ _ row nn _ HO4.out.row (by have := RL.out; omega)).mono ?_); rintro e w5 ⟨v5, rfl, ho5, hb5⟩; have HO5 := Lib.hid (ho5.mono (show B ≤ _ by have := HZ4.out; simp <;> omega)); have HG5 := Lib.hid (HG4.out.below hb5); have HBK5 := Lib.hid (HBK4.out.below hb5); have HB5 := Lib.hid (Below.trans HB4.out (hb5.mono (show B ≤ _ by have := HZ4.out; simp <;> omega))); have HZ5 := Lib.hid (Nat.le_trans (show B ≤ _ by have := HZ4.out; simp <;> omega) hb5.size); clear ho5 hb5)
            all_goals go_meet
            all_goals exact ⟨_, _, rfl, rfl, HG5.out.mono (by omega), HO5.out, HZ5.out, HBK5.out, HB5.out⟩
          · by_cases k2 : kd = 2
            · subst k2
              go_wp2_with (go_at_call 14; (with_reducible refine (gh_clear B (B + 1) B m row k _ HG2.out).mono ?_); rintro e w4 ⟨rfl, hg4, hf4⟩; have HBK4 := Lib.hid (Blk.fr HBK.out hf4 (mineH_a _)); have HB4 := Lib.hid (Below.trans HB2.out (hf4.to_below HZ2.out)); have HZ4 := Lib.hid (Nat.le_trans HZ2.out hf4.size); have HG4 := Lib.hid hg4; clear hg4 hf4)
              go_meet
              exact ⟨_, _, rfl, rfl, HG4.out.mono (by omega), own_nil _ _ _ _, HZ4.out, HBK4.out, HB4.out⟩
            · have k0b : (kd == 0) = false := beq_eq_false_iff_ne.2 k0
              have k1b : (kd == 1) = false := beq_eq_false_iff_ne.2 k1
              have k2b : (kd == 2) = false := beq_eq_false_iff_ne.2 k2
              go_wp2
              go_meet
              exact ⟨_, _, rfl, rfl, HG2.out.mono (by omega), HO2.out, HZ2.out, HBK.out, HB2.out⟩
      case rest =>
        obtain ⟨b, row', rfl, rfl, hg, ho, hz, hbk, hb⟩ := hcut
        obtain ⟨ra, rc, hrv, -, -, -, -⟩ := ho.form
        subst hrv
        have hb1 : (b != b) = false := bne_self_eq_false b
        obtain ⟨kb, hkb⟩ : ∃ kb, decide (key ∈ row') = kb := ⟨_, rfl⟩
        obtain ⟨nb, hnb⟩ : ∃ nb, decide (nn ∈ row') = nb := ⟨_, rfl⟩
        have hb2 : (kb != kb) = false := bne_self_eq_false kb
        have hb3 : (nb != nb) = false := bne_self_eq_false nb
        have AC := Lib.hid (fun (W : World) (hg : GH B W (B + 1) B m row' (k + 1)) => gh_all2 B (B + 1) B m row' (k + 1) W hg (by omega))
        have SC := Lib.hid (fun (W : World) (a4 : Option Addr) (c4 : Nat) (h4 : Row .u64 W a4 row') (h5 : Row .u64 W ra row') => rsame_refl a4 ra c4 rc row' W h4 h5)
        have LC := Lib.hid (fun (W : World) (hg : GH B W (B + 1) B m row' (k + 1)) => gh_len B (B + 1) B m row' (k + 1) W hg)
        have KC := Lib.hid (fun (W : World) (hg : GH B W (B + 1) B m row' (k + 1)) => gh_has B (B + 1) B m row' (k + 1) key W hg)
        have NC := Lib.hid (fun (W : World) (hg : GH B W (B + 1) B m row' (k + 1)) => gh_has B (B + 1) B m row' (k + 1) nn W hg)
        have KR := Lib.hid (fun (W : World) (h5 : Row .u64 W ra row') => rhas_calls ra rc row' key W h5)
        have NR := Lib.hid (fun (W : World) (h5 : Row .u64 W ra row') => rhas_calls ra rc row' nn W h5)
        simp only [hkb] at KC KR
        simp only [hnb] at NC NR
        have HG := Lib.hid hg; have HO := Lib.hid ho; have HZ := Lib.hid hz; have HK := Lib.hid hbk; have HBz := Lib.hid hb
        clear hg ho hz hbk hb HG2 HO2 HB2 HZ2 HBK RL hkb hnb
        obtain ⟨rl, hrl⟩ : ∃ rl : Nat, row'.length = rl := ⟨_, rfl⟩
        simp only [hrl] at AC SC LC KR NR HO
        have hb4 : ((rl : Int) != rl) = false := bne_self_eq_false _
        have HRL := Lib.hid hrl
        clear hrl
        go_upto_region 21 with (fail)
        rw [HRL.out]
        refine wp_region_held_drew (S := (fun w' => w'.cell? ⟨g2, 1, none⟩ = some (.int .u64 nn) ∧ GH B w' (B + 1) B m row' (k + 1) ∧ Row .u64 w' ra row')) (by kernel_rfl) ?_ (fun hHeld => ?_)
        · (try dsimp only); (exact ⟨Blk.cell (by repeat (first | with_reducible exact HK.out | with_reducible apply Blk.alloc | with_reducible apply Blk.drewN | with_reducible apply Blk.drew | exact HK.out)) 1, (by repeat (first | with_reducible exact HG.out | with_reducible apply GH.drewN | with_reducible apply GH.drew | exact HG.out)), (Own.row (base := B) (E := 28) (n := rl) (c := rc) (by repeat (first | with_reducible apply Own.alloc | with_reducible apply Own.drewN | with_reducible apply Own.drew | exact HO.out)))⟩)
        refine take_w (i := 0) (some 78) (v := ?_) rfl (by rfl) (by kernel_rfl) (by kernel_rfl) (by kernel_rfl) (fun _ _ _ h => h) (by rfl) hHeld ?_ ?_
        rotate_left
        · intro w hSw; (try dsimp only at hSw); (first | (go_simp; done) | (go_simp; with_reducible rfl))
        try simp only [Act.put, List.setIfInBounds_toArray, List.set_cons_zero, List.set_cons_succ]
        refine take_w (i := 1) (some 79) (v := ?_) rfl (by rfl) (by kernel_rfl) (by kernel_rfl) (by kernel_rfl) (fun _ _ _ h => h) (by rfl) hHeld ?_ ?_
        rotate_left
        · intro w hSw; (try dsimp only at hSw); (first | (go_simp; done) | (go_simp; with_reducible rfl))
        try simp only [Act.put, List.setIfInBounds_toArray, List.set_cons_zero, List.set_cons_succ]
        refine take_w (i := 2) (some 80) (v := ?_) rfl (by rfl) (by kernel_rfl) (by kernel_rfl) (by kernel_rfl) (fun _ _ _ h => h) (by rfl) hHeld ?_ ?_
        rotate_left
        · intro w hSw; (try dsimp only at hSw); (first | (go_simp; done) | (go_simp; with_reducible rfl))
        try simp only [Act.put, List.setIfInBounds_toArray, List.set_cons_zero, List.set_cons_succ]
        refine take_w (i := 3) (some 81) (v := ?_) rfl (by rfl) (by kernel_rfl) (by kernel_rfl) (by kernel_rfl) (fun _ _ _ h => h) (by rfl) hHeld ?_ ?_
        rotate_left
        · intro w hSw; (try dsimp only at hSw); (first | (go_simp; done) | (go_simp; with_reducible rfl))
        try simp only [Act.put, List.setIfInBounds_toArray, List.set_cons_zero, List.set_cons_succ]
        refine take_w (i := 4) (some 82) (v := ?_) rfl (by rfl) (by kernel_rfl) (by kernel_rfl) (by kernel_rfl) (fun _ _ _ h => h) (by rfl) hHeld ?_ ?_
        rotate_left
        · intro w hSw; (try dsimp only at hSw); (first | (go_simp; done) | (go_simp; with_reducible rfl))
        try simp only [Act.put, List.setIfInBounds_toArray, List.set_cons_zero, List.set_cons_succ]
        refine take_w (i := 6) (some 84) (v := ?_) rfl (by rfl) (by kernel_rfl) (by kernel_rfl) (by kernel_rfl) (fun _ _ _ h => h) (by rfl) hHeld ?_ ?_
        rotate_left
        · intro w hSw; (try dsimp only at hSw); (first | (go_simp; done) | (go_simp; with_reducible rfl))
        try simp only [Act.put, List.setIfInBounds_toArray, List.set_cons_zero, List.set_cons_succ]
        refine wpAnyH_ready (rs := [5]) (by kernel_rfl) (by simp) ?_
        refine AllReadyH.cons rfl (fun K hK => ?_) ?_
        · go_simp
          go_wp2_with (first | (go_at_call 9; (with_reducible refine (AC.out _ (by repeat (first | with_reducible exact HG.out | with_reducible apply GH.drewN | with_reducible apply GH.drew | exact HG.out))).mono ?_); rintro e w4 ⟨a4, c4, rfl, hr4, hb4⟩; have HG := Lib.hid (GH.below (base := B) (h := B + 1) (g := B) (most := m) (row := row') (c := k + 1) (by repeat (first | with_reducible exact HG.out | with_reducible apply GH.drewN | with_reducible apply GH.drew | exact HG.out)) hb4); have HO := Lib.hid (Own.below (base := B) (by repeat (first | with_reducible apply Own.alloc | with_reducible apply Own.drewN | with_reducible apply Own.drew | exact HO.out)) hb4); have HK := Lib.hid (Blk.below (by repeat (first | with_reducible exact HK.out | with_reducible apply Blk.alloc | with_reducible apply Blk.drewN | with_reducible apply Blk.drew | exact HK.out)) hb4); have HBz := Lib.hid (Below.trans (by repeat (first | with_reducible exact HBz.out | with_reducible apply belowB_drewN | with_reducible apply belowB_drew | exact HBz.out)) (hb4.mono (show B ≤ _ by have := HZ.out; simp <;> omega))); have HZ := Lib.hid (Nat.le_trans (show B ≤ _ by have := HZ.out; simp <;> omega) hb4.size); have HR4 := Lib.hid hr4; clear hr4 hb4) | (go_at_call 15; (with_reducible refine (SC.out _ _ _ HR4.out (Own.row (base := B) (E := 28) (n := rl) (c := rc) (by repeat (first | with_reducible apply Own.alloc | with_reducible apply Own.drewN | with_reducible apply Own.drew | exact HO.out)))).mono ?_); rintro e w5 ⟨rfl, hb4⟩; have HG := Lib.hid (GH.below (base := B) (h := B + 1) (g := B) (most := m) (row := row') (c := k + 1) (by repeat (first | with_reducible exact HG.out | with_reducible apply GH.drewN | with_reducible apply GH.drew | exact HG.out)) hb4); have HO := Lib.hid (Own.below (base := B) (by repeat (first | with_reducible apply Own.alloc | with_reducible apply Own.drewN | with_reducible apply Own.drew | exact HO.out)) hb4); have HK := Lib.hid (Blk.below (by repeat (first | with_reducible exact HK.out | with_reducible apply Blk.alloc | with_reducible apply Blk.drewN | with_reducible apply Blk.drew | exact HK.out)) hb4); have HBz := Lib.hid (Below.trans (by repeat (first | with_reducible exact HBz.out | with_reducible apply belowB_drewN | with_reducible apply belowB_drew | exact HBz.out)) (hb4.mono (show B ≤ _ by have := HZ.out; simp <;> omega))); have HZ := Lib.hid (Nat.le_trans (show B ≤ _ by have := HZ.out; simp <;> omega) hb4.size); clear hb4))
          refine hK.out _ _ ?_ (fun hHeld2 => ?_)
          · (try dsimp only); (exact ⟨Blk.cell (by repeat (first | with_reducible exact HK.out | with_reducible apply Blk.alloc | with_reducible apply Blk.drewN | with_reducible apply Blk.drew | exact HK.out)) 1, (by repeat (first | with_reducible exact HG.out | with_reducible apply GH.drewN | with_reducible apply GH.drew | exact HG.out)), (Own.row (base := B) (E := 28) (n := rl) (c := rc) (by repeat (first | with_reducible apply Own.alloc | with_reducible apply Own.drewN | with_reducible apply Own.drew | exact HO.out)))⟩)
          clear hK K hHeld; have hHeld := hHeld2; clear hHeld2
          refine wpAnyH_ready (rs := [7]) (by kernel_rfl) (by simp) ?_
          refine AllReadyH.cons rfl (fun K hK => ?_) ?_
          · go_simp
            go_wp2_with (first | (go_at_call 9; (with_reducible refine (AC.out _ (by repeat (first | with_reducible exact HG.out | with_reducible apply GH.drewN | with_reducible apply GH.drew | exact HG.out))).mono ?_); rintro e w4 ⟨a4, c4, rfl, hr4, hb4⟩; have HG := Lib.hid (GH.below (base := B) (h := B + 1) (g := B) (most := m) (row := row') (c := k + 1) (by repeat (first | with_reducible exact HG.out | with_reducible apply GH.drewN | with_reducible apply GH.drew | exact HG.out)) hb4); have HO := Lib.hid (Own.below (base := B) (by repeat (first | with_reducible apply Own.alloc | with_reducible apply Own.drewN | with_reducible apply Own.drew | exact HO.out)) hb4); have HK := Lib.hid (Blk.below (by repeat (first | with_reducible exact HK.out | with_reducible apply Blk.alloc | with_reducible apply Blk.drewN | with_reducible apply Blk.drew | exact HK.out)) hb4); have HBz := Lib.hid (Below.trans (by repeat (first | with_reducible exact HBz.out | with_reducible apply belowB_drewN | with_reducible apply belowB_drew | exact HBz.out)) (hb4.mono (show B ≤ _ by have := HZ.out; simp <;> omega))); have HZ := Lib.hid (Nat.le_trans (show B ≤ _ by have := HZ.out; simp <;> omega) hb4.size); have HR4 := Lib.hid hr4; clear hr4 hb4) | (go_at_call 15; (with_reducible refine (SC.out _ _ _ HR4.out (Own.row (base := B) (E := 28) (n := rl) (c := rc) (by repeat (first | with_reducible apply Own.alloc | with_reducible apply Own.drewN | with_reducible apply Own.drew | exact HO.out)))).mono ?_); rintro e w5 ⟨rfl, hb4⟩; have HG := Lib.hid (GH.below (base := B) (h := B + 1) (g := B) (most := m) (row := row') (c := k + 1) (by repeat (first | with_reducible exact HG.out | with_reducible apply GH.drewN | with_reducible apply GH.drew | exact HG.out)) hb4); have HO := Lib.hid (Own.below (base := B) (by repeat (first | with_reducible apply Own.alloc | with_reducible apply Own.drewN | with_reducible apply Own.drew | exact HO.out)) hb4); have HK := Lib.hid (Blk.below (by repeat (first | with_reducible exact HK.out | with_reducible apply Blk.alloc | with_reducible apply Blk.drewN | with_reducible apply Blk.drew | exact HK.out)) hb4); have HBz := Lib.hid (Below.trans (by repeat (first | with_reducible exact HBz.out | with_reducible apply belowB_drewN | with_reducible apply belowB_drew | exact HBz.out)) (hb4.mono (show B ≤ _ by have := HZ.out; simp <;> omega))); have HZ := Lib.hid (Nat.le_trans (show B ≤ _ by have := HZ.out; simp <;> omega) hb4.size); clear hb4))
            refine hK.out _ _ ?_ (fun hHeld2 => ?_)
            · (try dsimp only); (exact ⟨Blk.cell (by repeat (first | with_reducible exact HK.out | with_reducible apply Blk.alloc | with_reducible apply Blk.drewN | with_reducible apply Blk.drew | exact HK.out)) 1, (by repeat (first | with_reducible exact HG.out | with_reducible apply GH.drewN | with_reducible apply GH.drew | exact HG.out)), (Own.row (base := B) (E := 28) (n := rl) (c := rc) (by repeat (first | with_reducible apply Own.alloc | with_reducible apply Own.drewN | with_reducible apply Own.drew | exact HO.out)))⟩)
            clear hK K hHeld; have hHeld := hHeld2; clear hHeld2
            refine take_w (i := 8) (some 86) (v := ?_) rfl (by rfl) (by kernel_rfl) (by kernel_rfl) (by kernel_rfl) (fun _ _ _ h => h) (by rfl) hHeld ?_ ?_
            rotate_left
            · intro w hSw; (try dsimp only at hSw); (first | (go_simp; done) | (go_simp; with_reducible rfl))
            try simp only [Act.put, List.setIfInBounds_toArray, List.set_cons_zero, List.set_cons_succ]
            refine take_w (i := 9) (some 87) (v := ?_) rfl (by rfl) (by kernel_rfl) (by kernel_rfl) (by kernel_rfl) (fun _ _ _ h => h) (by rfl) hHeld ?_ ?_
            rotate_left
            · intro w hSw; (try dsimp only at hSw); (first | (go_simp; done) | (go_simp; with_reducible rfl))
            try simp only [Act.put, List.setIfInBounds_toArray, List.set_cons_zero, List.set_cons_succ]
            refine take_w (i := 10) (some 88) (v := ?_) rfl (by rfl) (by kernel_rfl) (by kernel_rfl) (by kernel_rfl) (fun _ _ _ h => h) (by rfl) hHeld ?_ ?_
            rotate_left
            · intro w hSw; (try dsimp only at hSw); (first | (go_simp; done) | (go_simp; with_reducible rfl))
            try simp only [Act.put, List.setIfInBounds_toArray, List.set_cons_zero, List.set_cons_succ]
            refine take_w (i := 11) (some 89) (v := ?_) rfl (by rfl) (by kernel_rfl) (by kernel_rfl) (by kernel_rfl) (fun _ _ _ h => h) (by rfl) hHeld ?_ ?_
            rotate_left
            · intro w hSw; (try dsimp only at hSw); (first | (go_simp; done) | (go_simp; with_reducible rfl))
            try simp only [Act.put, List.setIfInBounds_toArray, List.set_cons_zero, List.set_cons_succ]
            refine take_c (i := 12) (some 90) rfl (by rfl) (by kernel_rfl) (by kernel_rfl) (by kernel_rfl) (fun _ _ _ h => h) (by rfl) 16 (fun _ _ => by kernel_rfl) #[Operand.tmp 89] #[23] rfl _ (by rfl) (fun W hS => LC.out W hS.2.1) hHeld ?_
            try simp only [Act.put, List.setIfInBounds_toArray, List.set_cons_zero, List.set_cons_succ]
            refine take_w (i := 13) (some 91) (v := ?_) rfl (by rfl) (by kernel_rfl) (by kernel_rfl) (by kernel_rfl) (fun _ _ _ h => h) (by rfl) hHeld ?_ ?_
            rotate_left
            · intro w hSw; (try dsimp only at hSw); (first | (go_simp; done) | (go_simp; with_reducible rfl))
            try simp only [Act.put, List.setIfInBounds_toArray, List.set_cons_zero, List.set_cons_succ]
            refine take_w (i := 14) (some 92) (v := ?_) rfl (by rfl) (by kernel_rfl) (by kernel_rfl) (by kernel_rfl) (fun _ _ _ h => h) (by rfl) hHeld ?_ ?_
            rotate_left
            · intro w hSw; (try dsimp only at hSw); (first | (go_simp; done) | (go_simp; with_reducible rfl))
            try simp only [Act.put, List.setIfInBounds_toArray, List.set_cons_zero, List.set_cons_succ]
            refine take_w (i := 15) (some 93) (v := ?_) rfl (by rfl) (by kernel_rfl) (by kernel_rfl) (by kernel_rfl) (fun _ _ _ h => h) (by rfl) hHeld ?_ ?_
            rotate_left
            · intro w hSw; (try dsimp only at hSw); (first | (go_simp; done) | (go_simp; with_reducible rfl))
            try simp only [Act.put, List.setIfInBounds_toArray, List.set_cons_zero, List.set_cons_succ]
            refine take_w (i := 16) (some 94) (v := ?_) rfl (by rfl) (by kernel_rfl) (by kernel_rfl) (by kernel_rfl) (fun _ _ _ h => h) (by rfl) hHeld ?_ ?_
            rotate_left
            · intro w hSw; (try dsimp only at hSw); (first | (go_simp; done) | (go_simp; with_reducible rfl))
            try simp only [Act.put, List.setIfInBounds_toArray, List.set_cons_zero, List.set_cons_succ]
            refine take_w (i := 17) (some 95) (v := ?_) rfl (by rfl) (by kernel_rfl) (by kernel_rfl) (by kernel_rfl) (fun _ _ _ h => h) (by rfl) hHeld ?_ ?_
            rotate_left
            · intro w hSw; (try dsimp only at hSw); (first | (go_simp; done) | (go_simp; with_reducible rfl))
            try simp only [Act.put, List.setIfInBounds_toArray, List.set_cons_zero, List.set_cons_succ]
            refine take_w (i := 18) (some 96) (v := ?_) rfl (by rfl) (by kernel_rfl) (by kernel_rfl) (by kernel_rfl) (fun _ _ _ h => h) (by rfl) hHeld ?_ ?_
            rotate_left
            · intro w hSw; (try dsimp only at hSw); (first | (go_simp; done) | (go_simp; with_reducible rfl))
            try simp only [Act.put, List.setIfInBounds_toArray, List.set_cons_zero, List.set_cons_succ]
            refine take_w (i := 19) (some 97) (v := ?_) rfl (by rfl) (by kernel_rfl) (by kernel_rfl) (by kernel_rfl) (fun _ _ _ h => h) (by rfl) hHeld ?_ ?_
            rotate_left
            · intro w hSw; (try dsimp only at hSw); (first | (go_simp; done) | (go_simp; with_reducible rfl))
            try simp only [Act.put, List.setIfInBounds_toArray, List.set_cons_zero, List.set_cons_succ]
            refine take_c (i := 20) (some 98) rfl (by rfl) (by kernel_rfl) (by kernel_rfl) (by kernel_rfl) (fun _ _ _ h => h) (by rfl) 17 (fun _ _ => by kernel_rfl) #[Operand.tmp 96, Operand.tmp 97] #[23, 28] rfl _ (by rfl) (fun W hS => KC.out W hS.2.1) hHeld ?_
            try simp only [Act.put, List.setIfInBounds_toArray, List.set_cons_zero, List.set_cons_succ]
            refine take_w (i := 21) (some 99) (v := ?_) rfl (by rfl) (by kernel_rfl) (by kernel_rfl) (by kernel_rfl) (fun _ _ _ h => h) (by rfl) hHeld ?_ ?_
            rotate_left
            · intro w hSw; (try dsimp only at hSw); (first | (go_simp; done) | (go_simp; with_reducible rfl))
            try simp only [Act.put, List.setIfInBounds_toArray, List.set_cons_zero, List.set_cons_succ]
            refine take_w (i := 22) (some 100) (v := ?_) rfl (by rfl) (by kernel_rfl) (by kernel_rfl) (by kernel_rfl) (fun _ _ _ h => h) (by rfl) hHeld ?_ ?_
            rotate_left
            · intro w hSw; (try dsimp only at hSw); (first | (go_simp; done) | (go_simp; with_reducible rfl))
            try simp only [Act.put, List.setIfInBounds_toArray, List.set_cons_zero, List.set_cons_succ]
            refine take_c (i := 23) (some 101) rfl (by rfl) (by kernel_rfl) (by kernel_rfl) (by kernel_rfl) (fun _ _ _ h => h) (by rfl) 8 (fun _ _ => by kernel_rfl) #[Operand.tmp 99, Operand.tmp 100] #[22, 28] rfl _ (by rfl) (fun W hS => KR.out W hS.2.2) hHeld ?_
            try simp only [Act.put, List.setIfInBounds_toArray, List.set_cons_zero, List.set_cons_succ]
            refine take_w (i := 24) (some 102) (v := ?_) rfl (by rfl) (by kernel_rfl) (by kernel_rfl) (by kernel_rfl) (fun _ _ _ h => h) (by rfl) hHeld ?_ ?_
            rotate_left
            · intro w hSw; (try dsimp only at hSw); (first | (go_simp; done) | (go_simp; with_reducible rfl))
            try simp only [Act.put, List.setIfInBounds_toArray, List.set_cons_zero, List.set_cons_succ]
            refine take_w (i := 25) (some 103) (v := ?_) rfl (by rfl) (by kernel_rfl) (by kernel_rfl) (by kernel_rfl) (fun _ _ _ h => h) (by rfl) hHeld ?_ ?_
            rotate_left
            · intro w hSw; (try dsimp only at hSw); (first | (go_simp; done) | (go_simp; with_reducible rfl))
            try simp only [Act.put, List.setIfInBounds_toArray, List.set_cons_zero, List.set_cons_succ]
            refine take_w (i := 26) (some 104) (v := ?_) rfl (by rfl) (by kernel_rfl) (by kernel_rfl) (by kernel_rfl) (fun _ _ _ h => h) (by rfl) hHeld ?_ ?_
            rotate_left
            · intro w hSw; (try dsimp only at hSw); (first | (go_simp; done) | (go_simp; with_reducible rfl))
            try simp only [Act.put, List.setIfInBounds_toArray, List.set_cons_zero, List.set_cons_succ]
            refine take_w (i := 27) (some 105) (v := ?_) rfl (by rfl) (by kernel_rfl) (by kernel_rfl) (by kernel_rfl) (fun _ _ _ h => h) (by rfl) hHeld ?_ ?_
            rotate_left
            · intro w hSw; (try dsimp only at hSw); (first | (go_simp; done) | (go_simp; with_reducible rfl))
            try simp only [Act.put, List.setIfInBounds_toArray, List.set_cons_zero, List.set_cons_succ]
            refine take_w (i := 28) (some 106) (v := ?_) rfl (by rfl) (by kernel_rfl) (by kernel_rfl) (by kernel_rfl) (fun _ _ _ h => h) (by rfl) hHeld ?_ ?_
            rotate_left
            · intro w hSw; (try dsimp only at hSw); (first | (go_simp; done) | (go_simp; with_reducible rfl))
            try simp only [Act.put, List.setIfInBounds_toArray, List.set_cons_zero, List.set_cons_succ]
            refine take_w (i := 29) (some 107) (v := ?_) rfl (by rfl) (by kernel_rfl) (by kernel_rfl) (by kernel_rfl) (fun _ _ _ h => h) (by rfl) hHeld ?_ ?_
            rotate_left
            · intro w hSw; (try dsimp only at hSw); (first | (go_simp; done) | (go_simp; with_reducible rfl))
            try simp only [Act.put, List.setIfInBounds_toArray, List.set_cons_zero, List.set_cons_succ]
            refine take_c (i := 30) (some 108) rfl (by rfl) (by kernel_rfl) (by kernel_rfl) (by kernel_rfl) (fun _ _ _ h => h) (by rfl) 17 (fun _ _ => by kernel_rfl) #[Operand.tmp 105, Operand.tmp 107] #[23, 28] rfl _ (by rfl) (fun W hS => NC.out W hS.2.1) hHeld ?_
            try simp only [Act.put, List.setIfInBounds_toArray, List.set_cons_zero, List.set_cons_succ]
            refine take_w (i := 31) (some 109) (v := ?_) rfl (by rfl) (by kernel_rfl) (by kernel_rfl) (by kernel_rfl) (fun _ _ _ h => h) (by rfl) hHeld ?_ ?_
            rotate_left
            · intro w hSw; (try dsimp only at hSw); (first | (go_simp; done) | (go_simp; with_reducible rfl))
            try simp only [Act.put, List.setIfInBounds_toArray, List.set_cons_zero, List.set_cons_succ]
            refine take_w (i := 32) (some 110) (v := ?_) rfl (by rfl) (by kernel_rfl) (by kernel_rfl) (by kernel_rfl) (fun _ _ _ h => h) (by rfl) hHeld ?_ ?_
            rotate_left
            · intro w hSw; (try dsimp only at hSw); (first | (go_simp; done) | (go_simp; with_reducible rfl))
            try simp only [Act.put, List.setIfInBounds_toArray, List.set_cons_zero, List.set_cons_succ]
            refine take_w (i := 33) (some 111) (v := ?_) rfl (by rfl) (by kernel_rfl) (by kernel_rfl) (by kernel_rfl) (fun _ _ _ h => h) (by rfl) hHeld ?_ ?_
            rotate_left
            · intro w hSw; (try dsimp only at hSw); (first | (go_simp; done) | (go_simp; with_reducible rfl))
            try simp only [Act.put, List.setIfInBounds_toArray, List.set_cons_zero, List.set_cons_succ]
            refine take_c (i := 34) (some 112) rfl (by rfl) (by kernel_rfl) (by kernel_rfl) (by kernel_rfl) (fun _ _ _ h => h) (by rfl) 8 (fun _ _ => by kernel_rfl) #[Operand.tmp 109, Operand.tmp 111] #[22, 28] rfl _ (by rfl) (fun W hS => NR.out W hS.2.2) hHeld ?_
            try simp only [Act.put, List.setIfInBounds_toArray, List.set_cons_zero, List.set_cons_succ]
            refine take_w (i := 35) (some 113) (v := ?_) rfl (by rfl) (by kernel_rfl) (by kernel_rfl) (by kernel_rfl) (fun _ _ _ h => h) (by rfl) hHeld ?_ ?_
            rotate_left
            · intro w hSw; (try dsimp only at hSw); (first | (go_simp; done) | (go_simp; with_reducible rfl))
            try simp only [Act.put, List.setIfInBounds_toArray, List.set_cons_zero, List.set_cons_succ]
            refine take_w (i := 36) (some 114) (v := ?_) rfl (by rfl) (by kernel_rfl) (by kernel_rfl) (by kernel_rfl) (fun _ _ _ h => h) (by rfl) hHeld ?_ ?_
            rotate_left
            · intro w hSw; (try dsimp only at hSw); (first | (go_simp; done) | (go_simp; with_reducible rfl))
            try simp only [Act.put, List.setIfInBounds_toArray, List.set_cons_zero, List.set_cons_succ]
            refine wpAnyH_done (by kernel_rfl) ?_ _
            go_wp2
            exact ⟨⟨k + 1, by omega, by go_num, ⟨row', HG.out, HO.out, HZ.out⟩, HBz.out⟩, by simp [intOf]; omega⟩
          all_goals exact AllReadyH.nil
        all_goals exact AllReadyH.nil
    · obtain rfl : k = N := by omega
      have AW2 := Lib.hid (awake23_calls wr)
      have hq : (k : Int) = L.length ∨ (k : Int) < L.length ∧ (k : Int) = 60 := by have := HN.out; omega
      rcases hq with hq | ⟨hq2, hq⟩
      all_goals (
        go_wp2_with (go_at_call 10; (with_reducible refine (AW2.out).mono ?_); rintro e w4 ⟨rfl, hb⟩; have HB4 := Lib.hid (Below.trans HBz.out (hb.mono HZ.out)); clear hb)
        go_ret
        exact ⟨rfl, by rw [hB]; exact HB4.out⟩)
end Go.Proofs.Ytjjhfllpbicclaa.Ct
