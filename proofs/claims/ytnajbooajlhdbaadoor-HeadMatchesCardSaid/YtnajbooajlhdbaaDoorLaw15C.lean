import Derived.Test.YtnajbooajlhdbaaDoorLaw15B
/-! Chapter 15: HeadMatches. -/
namespace Go.Proofs.YtnajbooajlhdbaaDoor.Ct
open Go.RowKit
set_option linter.unusedVariables false
set_option linter.unusedSimpArgs false
theorem and_ten {A1 A2 A3 A4 A5 B : Prop} (h : A1 ∧ A2 ∧ A3 ∧ A4 ∧ A5) (k : B) : A1 ∧ A2 ∧ A3 ∧ A4 ∧ A5 ∧ B := ⟨h.1, h.2.1, h.2.2.1, h.2.2.2.1, h.2.2.2.2, k⟩
theorem match_self (lba gen wear : Int) (xs : List Int) : matchS (ofH lba gen xs wear) lba xs = 0 := by
  unfold matchS ofH; simp
theorem match_turn {xs : List Int} (hw : ∀ y ∈ xs, 0 ≤ y ∧ y ≤ 255) (lba gen wear : Int) (at_ t : Nat) : matchS (ofH lba gen xs wear) lba (turnS xs at_ t) = if turnS xs at_ t = xs then 0 else 40 := by
  unfold matchS ofH
  dsimp only
  rw [if_pos ⟨rfl, rfl⟩]
  by_cases e : turnS xs at_ t = xs
  · rw [if_pos e, e, if_pos rfl]
  · rw [if_neg e, if_neg]
    intro h
    refine e ((turn_sum hw at_ t).1 ?_)
    apply BitVec.eq_of_toNat_eq
    have : ((sumC xs).toNat : Int) = ((sumC (turnS xs at_ t)).toNat : Int) := h
    omega
set_option maxHeartbeats 16000000 in
theorem matches_walk (lba gen : Int) (a : Option Addr) (cap : Nat) (xs0 : List Int) (wear : Int) (hd : Hd) (other at_ t : Int) (w : World) (hlba : -9223372036854775808 ≤ lba ∧ lba ≤ 9223372036854775807) (hgen : 0 ≤ gen ∧ gen ≤ 18446744073709551615)
    (hc : xs0.length ≤ cap) (hm : cap ≤ 9223372036854775807) (h : Row .u8 w a xs0) (hwear : 0 ≤ wear ∧ wear ≤ 4294967295) (hh : WfH hd) (hoth : -9223372036854775808 ≤ other ∧ other ≤ 9223372036854775807)
    (hat : 0 ≤ at_ ∧ at_ ≤ 65535) (ht : 0 ≤ t ∧ t ≤ 4294967295) (hT : Tab w) (hW : Wid w) :
    Calls Tryd.prog 5 #[.int .i64 lba, .int .u64 gen, .slice a xs0.length cap, .int .u32 wear, headV hd, .int .i64 other, .int .u16 at_, .int .u32 t] w fun e w' => e = .returned (.bool true) ∧ Below w.heap.size w w' := by
  obtain ⟨q, rfl⟩ := Int.eq_ofNat_of_zero_le hat.1
  obtain ⟨t, rfl⟩ := Int.eq_ofNat_of_zero_le ht.1
  have hq := hat.2
  have hb1 := below_alloc (Below.refl w.heap.size w) (.cells (headC hd) 25)
  have FA := Lib.hid (few_calls a cap xs0 _ (h.below hb1) hc hm)
  have hk1 : Blk (w.alloc (.cells (headC hd) 25)) w.heap.size 25 (headC hd) := Blk.new _ _ _
  have hx := h.take 70
  have hbl : (xs0.take 70).length ≤ 70 := List.length_take_le _ _
  clear h hc hat
  generalize xs0.take 70 = b at *
  have hwf : ∀ y ∈ b, 0 ≤ y ∧ y ≤ 255 := fun y hy => bounds_u8 (hx.2.1 y hy)
  have OC := Lib.hid (fun (W : World) (hB : Below w.heap.size w W) => hof_calls lba gen a cap b wear W (hx.below hB) (hT.below hB))
  have RO := Lib.hid (fun (W : World) (hB : Below w.heap.size w W) => rhof_calls lba gen a cap b wear W (hx.below hB))
  have FR := Lib.hid (fun W => free_calls wear W)
  have AW := Lib.hid (fun W (hb : Below w.heap.size w W) => awake_calls W (hT.below hb) (hW.below hb))
  have mx := fun (W : World) (hB : Below w.heap.size w W) => hmat_calls (ofH lba gen b wear) lba a cap b W (hx.below hB) (hT.below hB)
  rw [match_self] at mx
  have M1 := Lib.hid (fun (W : World) (hB : Below w.heap.size w W) => hmat_calls hd other a cap b W (hx.below hB) (hT.below hB))
  have R1 := Lib.hid (fun (W : World) (hB : Below w.heap.size w W) => rhmat_calls hd other a cap b W (hx.below hB))
  have M2 := Lib.hid (fun (W : World) (hB : Below w.heap.size w W) => hmat_calls (ofH lba gen b wear) other a cap b W (hx.below hB) (hT.below hB))
  have R2 := Lib.hid (fun (W : World) (hB : Below w.heap.size w W) => rhmat_calls (ofH lba gen b wear) other a cap b W (hx.below hB))
  have TC := Lib.hid (fun (W : World) (hB : Below w.heap.size w W) => rturn_calls a cap b q t W (hx.below hB) (by omega) ⟨by omega, by omega⟩ (by omega))
  have hdl : (turnS b q t).length = b.length := turnS_len hwf q t
  have hdw := turnS_wf hwf q t
  have mt := fun (W : World) (hB : Below w.heap.size w W) va vc (hr : Row .u8 W va (turnS b q t)) => hmat_calls (ofH lba gen b wear) lba va vc _ W hr (hT.below hB)
  rw [match_turn hwf, hdl] at mt
  have SE := Lib.hid (str_eqb hdw hwf)
  have HDL := Lib.hid hdl
  have KC := Lib.hid (fun (w : World) (a : Option Addr) (cap : Nat) (xs : List Int) (h : Row .u8 w a xs) => run_str (P := Tryd.prog) 26 5 9 Tryd.underlying26 Tryd.underlying5 Tryd.underlying9 a cap xs h)
  have HX := Lib.hid hx
  have MX := Lib.hid mx
  have MT := Lib.hid mt
  have HB1 := Lib.hid hb1
  have HH1 := Lib.hid hk1
  clear mx mt hx hwf hdw hdl hT hW hh hb1 hk1
  generalize turnS b q t = d at *
  generalize matchS hd other b = m1 at *
  generalize matchS (ofH lba gen b wear) other b = m2 at *
  unfold headV headC ofH at *
  dsimp only at *
  generalize sumI b = sm at *
  obtain ⟨h0, h1, h2, h3, h4⟩ := hd
  dsimp only at *
  go_enter Tryd.func5, Tryd.ntmps5
  go_upto_region 3 with (first
    | (go_at_call 10; (with_reducible refine (FA.out).mono ?_); rintro e w' ⟨rfl, rfl⟩)
    | (go_at_call 13; (with_reducible refine (OC.out _ HB1.out).mono ?_); rintro e w2 ⟨rfl, hb⟩; have HB2 := Lib.hid (below_step HB1.out hb); have HH2 := Lib.hid (HH1.out.below hb); clear hb))
  have hb3 := below_alloc HB2.out (.cells #[.bool true, .int .i64 lba, .int .u64 gen, .int .u32 sm, .int .u32 wear] 25)
  have hh3 := HH2.out.alloc (.cells #[.bool true, .int .i64 lba, .int .u64 gen, .int .u32 sm, .int .u32 wear] 25)
  have hk3 : Blk (w2.alloc (.cells #[.bool true, .int .i64 lba, .int .u64 gen, .int .u32 sm, .int .u32 wear] 25)) w2.heap.size 25 #[.bool true, .int .i64 lba, .int .u64 gen, .int .u32 sm, .int .u32 wear] := Blk.new _ _ _
  generalize w2.alloc (.cells #[.bool true, .int .i64 lba, .int .u64 gen, .int .u32 sm, .int .u32 wear] 25) = w3 at *
  generalize w2.heap.size = gX at *
  have HB := Lib.hid hb3
  have HK := Lib.hid hk3
  have HH := Lib.hid hh3
  clear hb3 hk3 hh3
  go_region_held (fun w' => w'.cell? ⟨gX, 0, none⟩ = some (.bool true) ∧ w'.cell? ⟨gX, 1, none⟩ = some (.int .i64 lba) ∧ w'.cell? ⟨gX, 2, none⟩ = some (.int .u64 gen) ∧ w'.cell? ⟨gX, 3, none⟩ = some (.int .u32 sm) ∧ w'.cell? ⟨gX, 4, none⟩ = some (.int .u32 wear))
    (exact (cells5 ((by repeat (first | with_reducible exact HK.out | with_reducible apply Blk.alloc | with_reducible apply Blk.drewN | with_reducible apply Blk.drew | exact HK.out)))).1)
    (first
      | (go_at_call 14; (with_reducible refine (RO.out _ ((by repeat (first | with_reducible exact HB.out | with_reducible apply below_alloc | with_reducible apply below_drewN | with_reducible apply below_drew)))).mono ?_); rintro e w4 ⟨rfl, hb⟩; have HB := Lib.hid (below_step ((by repeat (first | with_reducible exact HB.out | with_reducible apply below_alloc | with_reducible apply below_drewN | with_reducible apply below_drew))) hb); have HK := Lib.hid (Blk.below ((by repeat (first | with_reducible exact HK.out | with_reducible apply Blk.alloc | with_reducible apply Blk.drewN | with_reducible apply Blk.drew | exact HK.out))) hb); have HH := Lib.hid (Blk.below ((by repeat (first | with_reducible exact HH.out | with_reducible apply Blk.alloc | with_reducible apply Blk.drewN | with_reducible apply Blk.drew | exact HH.out))) hb); clear hb)
      | (go_at_call 15; (with_reducible refine (FR.out _).mono ?_); rintro e w4 ⟨rfl, hb⟩; have HB := Lib.hid (below_step ((by repeat (first | with_reducible exact HB.out | with_reducible apply below_alloc | with_reducible apply below_drewN | with_reducible apply below_drew))) hb); have HK := Lib.hid (Blk.below ((by repeat (first | with_reducible exact HK.out | with_reducible apply Blk.alloc | with_reducible apply Blk.drewN | with_reducible apply Blk.drew | exact HK.out))) hb); have HH := Lib.hid (Blk.below ((by repeat (first | with_reducible exact HH.out | with_reducible apply Blk.alloc | with_reducible apply Blk.drewN | with_reducible apply Blk.drew | exact HH.out))) hb); clear hb)
      | (go_at_call 9; (with_reducible refine (AW.out _ ((by repeat (first | with_reducible exact HB.out | with_reducible apply below_alloc | with_reducible apply below_drewN | with_reducible apply below_drew)))).mono ?_); rintro e w4 ⟨rfl, hb⟩; have HB := Lib.hid (below_step ((by repeat (first | with_reducible exact HB.out | with_reducible apply below_alloc | with_reducible apply below_drewN | with_reducible apply below_drew))) hb); have HK := Lib.hid (Blk.below ((by repeat (first | with_reducible exact HK.out | with_reducible apply Blk.alloc | with_reducible apply Blk.drewN | with_reducible apply Blk.drew | exact HK.out))) hb); have HH := Lib.hid (Blk.below ((by repeat (first | with_reducible exact HH.out | with_reducible apply Blk.alloc | with_reducible apply Blk.drewN | with_reducible apply Blk.drew | exact HH.out))) hb); clear hb))
  go_upto_region 5 with (fail)
  go_region_held (fun w' => w'.cell? ⟨gX, 0, none⟩ = some (.bool true) ∧ w'.cell? ⟨gX, 1, none⟩ = some (.int .i64 lba) ∧ w'.cell? ⟨gX, 2, none⟩ = some (.int .u64 gen) ∧ w'.cell? ⟨gX, 3, none⟩ = some (.int .u32 sm) ∧ w'.cell? ⟨gX, 4, none⟩ = some (.int .u32 wear) ∧ w'.cell? ⟨w.heap.size, 0, none⟩ = some (.bool h0) ∧ w'.cell? ⟨w.heap.size, 1, none⟩ = some (.int .i64 h1) ∧ w'.cell? ⟨w.heap.size, 2, none⟩ = some (.int .u64 h2) ∧ w'.cell? ⟨w.heap.size, 3, none⟩ = some (.int .u32 h3) ∧ w'.cell? ⟨w.heap.size, 4, none⟩ = some (.int .u32 h4))
    (exact and_ten (cells5 ((by repeat (first | with_reducible exact HK.out | with_reducible apply Blk.alloc | with_reducible apply Blk.drewN | with_reducible apply Blk.drew | exact HK.out)))).1 (cells5 ((by repeat (first | with_reducible exact HH.out | with_reducible apply Blk.alloc | with_reducible apply Blk.drewN | with_reducible apply Blk.drew | exact HH.out)))).1)
    (first
      | (go_at_call 16; (with_reducible refine (MX.out _ ((by repeat (first | with_reducible exact HB.out | with_reducible apply below_alloc | with_reducible apply below_drewN | with_reducible apply below_drew)))).mono ?_); rintro e w4 ⟨rfl, hb⟩; have HB := Lib.hid (below_step ((by repeat (first | with_reducible exact HB.out | with_reducible apply below_alloc | with_reducible apply below_drewN | with_reducible apply below_drew))) hb); have HK := Lib.hid (Blk.below ((by repeat (first | with_reducible exact HK.out | with_reducible apply Blk.alloc | with_reducible apply Blk.drewN | with_reducible apply Blk.drew | exact HK.out))) hb); have HH := Lib.hid (Blk.below ((by repeat (first | with_reducible exact HH.out | with_reducible apply Blk.alloc | with_reducible apply Blk.drewN | with_reducible apply Blk.drew | exact HH.out))) hb); clear hb)
      | (go_at_call 16; (with_reducible refine (M1.out _ ((by repeat (first | with_reducible exact HB.out | with_reducible apply below_alloc | with_reducible apply below_drewN | with_reducible apply below_drew)))).mono ?_); rintro e w4 ⟨rfl, hb⟩; have HB := Lib.hid (below_step ((by repeat (first | with_reducible exact HB.out | with_reducible apply below_alloc | with_reducible apply below_drewN | with_reducible apply below_drew))) hb); have HK := Lib.hid (Blk.below ((by repeat (first | with_reducible exact HK.out | with_reducible apply Blk.alloc | with_reducible apply Blk.drewN | with_reducible apply Blk.drew | exact HK.out))) hb); have HH := Lib.hid (Blk.below ((by repeat (first | with_reducible exact HH.out | with_reducible apply Blk.alloc | with_reducible apply Blk.drewN | with_reducible apply Blk.drew | exact HH.out))) hb); clear hb)
      | (go_at_call 17; (with_reducible refine (R1.out _ ((by repeat (first | with_reducible exact HB.out | with_reducible apply below_alloc | with_reducible apply below_drewN | with_reducible apply below_drew)))).mono ?_); rintro e w4 ⟨rfl, hb⟩; have HB := Lib.hid (below_step ((by repeat (first | with_reducible exact HB.out | with_reducible apply below_alloc | with_reducible apply below_drewN | with_reducible apply below_drew))) hb); have HK := Lib.hid (Blk.below ((by repeat (first | with_reducible exact HK.out | with_reducible apply Blk.alloc | with_reducible apply Blk.drewN | with_reducible apply Blk.drew | exact HK.out))) hb); have HH := Lib.hid (Blk.below ((by repeat (first | with_reducible exact HH.out | with_reducible apply Blk.alloc | with_reducible apply Blk.drewN | with_reducible apply Blk.drew | exact HH.out))) hb); clear hb)
      | (go_at_call 16; (with_reducible refine (M2.out _ ((by repeat (first | with_reducible exact HB.out | with_reducible apply below_alloc | with_reducible apply below_drewN | with_reducible apply below_drew)))).mono ?_); rintro e w4 ⟨rfl, hb⟩; have HB := Lib.hid (below_step ((by repeat (first | with_reducible exact HB.out | with_reducible apply below_alloc | with_reducible apply below_drewN | with_reducible apply below_drew))) hb); have HK := Lib.hid (Blk.below ((by repeat (first | with_reducible exact HK.out | with_reducible apply Blk.alloc | with_reducible apply Blk.drewN | with_reducible apply Blk.drew | exact HK.out))) hb); have HH := Lib.hid (Blk.below ((by repeat (first | with_reducible exact HH.out | with_reducible apply Blk.alloc | with_reducible apply Blk.drewN | with_reducible apply Blk.drew | exact HH.out))) hb); clear hb)
      | (go_at_call 17; (with_reducible refine (R2.out _ ((by repeat (first | with_reducible exact HB.out | with_reducible apply below_alloc | with_reducible apply below_drewN | with_reducible apply below_drew)))).mono ?_); rintro e w4 ⟨rfl, hb⟩; have HB := Lib.hid (below_step ((by repeat (first | with_reducible exact HB.out | with_reducible apply below_alloc | with_reducible apply below_drewN | with_reducible apply below_drew))) hb); have HK := Lib.hid (Blk.below ((by repeat (first | with_reducible exact HK.out | with_reducible apply Blk.alloc | with_reducible apply Blk.drewN | with_reducible apply Blk.drew | exact HK.out))) hb); have HH := Lib.hid (Blk.below ((by repeat (first | with_reducible exact HH.out | with_reducible apply Blk.alloc | with_reducible apply Blk.drewN | with_reducible apply Blk.drew | exact HH.out))) hb); clear hb))
  go_upto_region 8 with (go_at_call 12; (with_reducible refine (TC.out _ HB.out).mono ?_); rintro e w7 ⟨v, rfl, ho, hb⟩; obtain ⟨da, dc, rfl, -, -, hr, -, -⟩ := ho.form; have HB7 := Lib.hid (below_step HB.out hb); have HK7 := Lib.hid (HK.out.below hb); have HD7 := Lib.hid hr; rw [HDL.out]; clear ho hb hr)
  have HX7 := Lib.hid (HX.out.below HB7.out)
  have kd := fun (W : World) (hb : Below w7.heap.size w7 W) => KC.out W da dc d (HD7.out.below hb)
  rw [HDL.out] at kd
  have KD := Lib.hid kd
  have KB := Lib.hid (fun (W : World) (hb : Below w7.heap.size w7 W) => KC.out W a cap b (HX7.out.below hb))
  have M7 := Lib.hid (fun (W : World) (hB : Below w.heap.size w W) (hb : Below w7.heap.size w7 W) => MT.out W hB da dc (HD7.out.below hb))
  have HY := Lib.hid (Below.refl w7.heap.size w7)
  clear kd
  clear HB HK HH
  have HB := HB7
  have HK := HK7
  clear HB7 HK7
  generalize strOfNums b = s1 at *
  generalize strOfNums d = s2 at *
  by_cases hdb : d = b
  · rw [if_pos hdb] at M7
    have se := SE.out
    rw [decide_eq_true hdb] at se
    clear hdb SE
    go_region_held (fun w' => w'.cell? ⟨gX, 0, none⟩ = some (.bool true) ∧ w'.cell? ⟨gX, 1, none⟩ = some (.int .i64 lba) ∧ w'.cell? ⟨gX, 2, none⟩ = some (.int .u64 gen) ∧ w'.cell? ⟨gX, 3, none⟩ = some (.int .u32 sm) ∧ w'.cell? ⟨gX, 4, none⟩ = some (.int .u32 wear) ∧ (convert 26 9 (.slice da b.length dc)).run Tryd.prog w' = .ok (.string s2) w' ∧ (convert 26 9 (.slice a b.length cap)).run Tryd.prog w' = .ok (.string s1) w')
      (exact and_ten (cells5 ((by repeat (first | with_reducible exact HK.out | with_reducible apply Blk.alloc | with_reducible apply Blk.drewN | with_reducible apply Blk.drew | exact HK.out)))).1 ⟨KD.out _ ((by repeat (first | with_reducible exact HY.out | with_reducible apply below_alloc | with_reducible apply below_drewN | with_reducible apply below_drew))), KB.out _ ((by repeat (first | with_reducible exact HY.out | with_reducible apply below_alloc | with_reducible apply below_drewN | with_reducible apply below_drew)))⟩)
      (first
        | (go_at_call 16; (with_reducible refine (M7.out _ ((by repeat (first | with_reducible exact HB.out | with_reducible apply below_alloc | with_reducible apply below_drewN | with_reducible apply below_drew))) ((by repeat (first | with_reducible exact HY.out | with_reducible apply below_alloc | with_reducible apply below_drewN | with_reducible apply below_drew)))).mono ?_); rintro e w8 ⟨rfl, hb⟩; have HB := Lib.hid (below_step ((by repeat (first | with_reducible exact HB.out | with_reducible apply below_alloc | with_reducible apply below_drewN | with_reducible apply below_drew))) hb); have HY := Lib.hid (below_step ((by repeat (first | with_reducible exact HY.out | with_reducible apply below_alloc | with_reducible apply below_drewN | with_reducible apply below_drew))) hb); have HK := Lib.hid (Blk.below ((by repeat (first | with_reducible exact HK.out | with_reducible apply Blk.alloc | with_reducible apply Blk.drewN | with_reducible apply Blk.drew | exact HK.out))) hb); clear hb))
    all_goals go_wp2
    all_goals go_ret
    all_goals exact ⟨rfl, (by repeat (first | with_reducible exact HB.out | with_reducible apply below_alloc | with_reducible apply below_drewN | with_reducible apply below_drew))⟩
  · rw [if_neg hdb] at M7
    have se := SE.out
    rw [decide_eq_false hdb] at se
    clear hdb SE
    go_region_held (fun w' => w'.cell? ⟨gX, 0, none⟩ = some (.bool true) ∧ w'.cell? ⟨gX, 1, none⟩ = some (.int .i64 lba) ∧ w'.cell? ⟨gX, 2, none⟩ = some (.int .u64 gen) ∧ w'.cell? ⟨gX, 3, none⟩ = some (.int .u32 sm) ∧ w'.cell? ⟨gX, 4, none⟩ = some (.int .u32 wear) ∧ (convert 26 9 (.slice da b.length dc)).run Tryd.prog w' = .ok (.string s2) w' ∧ (convert 26 9 (.slice a b.length cap)).run Tryd.prog w' = .ok (.string s1) w')
      (exact and_ten (cells5 ((by repeat (first | with_reducible exact HK.out | with_reducible apply Blk.alloc | with_reducible apply Blk.drewN | with_reducible apply Blk.drew | exact HK.out)))).1 ⟨KD.out _ ((by repeat (first | with_reducible exact HY.out | with_reducible apply below_alloc | with_reducible apply below_drewN | with_reducible apply below_drew))), KB.out _ ((by repeat (first | with_reducible exact HY.out | with_reducible apply below_alloc | with_reducible apply below_drewN | with_reducible apply below_drew)))⟩)
      (first
        | (go_at_call 16; (with_reducible refine (M7.out _ ((by repeat (first | with_reducible exact HB.out | with_reducible apply below_alloc | with_reducible apply below_drewN | with_reducible apply below_drew))) ((by repeat (first | with_reducible exact HY.out | with_reducible apply below_alloc | with_reducible apply below_drewN | with_reducible apply below_drew)))).mono ?_); rintro e w8 ⟨rfl, hb⟩; have HB := Lib.hid (below_step ((by repeat (first | with_reducible exact HB.out | with_reducible apply below_alloc | with_reducible apply below_drewN | with_reducible apply below_drew))) hb); have HY := Lib.hid (below_step ((by repeat (first | with_reducible exact HY.out | with_reducible apply below_alloc | with_reducible apply below_drewN | with_reducible apply below_drew))) hb); have HK := Lib.hid (Blk.below ((by repeat (first | with_reducible exact HK.out | with_reducible apply Blk.alloc | with_reducible apply Blk.drewN | with_reducible apply Blk.drew | exact HK.out))) hb); clear hb))
    all_goals go_wp2
    all_goals go_ret
    all_goals exact ⟨rfl, (by repeat (first | with_reducible exact HB.out | with_reducible apply below_alloc | with_reducible apply below_drewN | with_reducible apply below_drew))⟩
end Go.Proofs.YtnajbooajlhdbaaDoor.Ct
