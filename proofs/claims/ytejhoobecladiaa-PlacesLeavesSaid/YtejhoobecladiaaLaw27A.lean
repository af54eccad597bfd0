import Derived.Test.YtejhoobecladiaaPlaV
import Derived.Test.YtejhoobecladiaaPlaT
/-! Chapter 27: PlacesBoth. -/
namespace Go.Proofs.Ytejhoobecladiaa.Ct
open Go.RowKit
set_option linter.unusedVariables false
set_option linter.unusedSimpArgs false
/-- the program's places, behind the world in which the law began. -/
structure HP27 (w0 : World) (x gl gw n m : Nat) (w : World) (s : Nat → One27) : Prop where
  q : LQ w0.heap.size w x gl gw n m s
  bel : Below w0.heap.size w0 w
section
variable {w0 w w1 : World} {x gl gw n m : Nat} {s s1 : Nat → One27}
theorem HP27.below (h : HP27 w0 x gl gw n m w s) (hb : Below w.heap.size w w1) : HP27 w0 x gl gw n m w1 s := ⟨h.q.below hb, h.bel.trans (hb.mono h.bel.size)⟩
theorem HP27.alloc (h : HP27 w0 x gl gw n m w s) (o : Obj) : HP27 w0 x gl gw n m (w.alloc o) s := h.below (below_alloc (Below.refl _ _) _)
theorem HP27.step (h : HP27 w0 x gl gw n m w s) (h1 : LQ w0.heap.size w1 x gl gw n m s1) (ht : TchS (Mine27 x gl gw) w w1) : HP27 w0 x gl gw n m w1 s1 := ⟨h1, h.bel.trans (h.q.bel ht h.bel.size)⟩
end
set_option maxRecDepth 100000 in
set_option maxHeartbeats 8000000 in
theorem both27_walk (no li : Int) (a : Option Addr) (cap : Nat) (L : List (List Value)) (w : World) (h1 : 0 ≤ no ∧ no ≤ 255) (h2 : 0 ≤ li ∧ li ≤ 255) (hc : L.length ≤ cap) (hcm : cap ≤ 9223372036854775807) (h : RowF act27 w a L) :
    Calls Try.prog 3 #[.int .u8 no, .int .u8 li, .slice a L.length cap] w fun e w' => e = .returned (.bool true) ∧ Below w.heap.size w w' := by
  have H := Lib.hid h; clear h
  obtain ⟨n0, n1⟩ := h1
  obtain ⟨m0, m1⟩ := h2
  obtain ⟨n, hn⟩ : ∃ n : Nat, no % 30 = n := ⟨(no % 30).toNat, by omega⟩
  obtain ⟨m, hm⟩ : ∃ m : Nat, li % 14 = m := ⟨(li % 14).toNat, by omega⟩
  have N1 : n ≤ 29 := by omega
  have M1 : m ≤ 13 := by omega
  have NC := Lib.hid (new27_ok n m w (by omega) (by omega))
  obtain ⟨N, hN⟩ : ∃ N, N = min L.length 50 := ⟨_, rfl⟩
  have hN1 : N ≤ L.length := by omega
  have hN2 : N ≤ 50 := by omega
  have HN := Lib.hid hN; clear hN
  go_enter Try.func3, Try.ntmps3
  go_upto_region 2 with (fail)
  rw [hn, hm]
  clear hn hm n0 n1 m0 m1
  go_upto_region 5 with (go_at_call 7; (with_reducible refine (NC.out).mono ?_); rintro e w1 ⟨x, rfl, ⟨gl, gw, hp⟩, hb⟩; have HT := Lib.hid (show HP27 w x gl gw n m w1 (fun _ => o27) from ⟨hp, hb⟩); clear hp hb)
  clear NC
  go_wp2
  go_loopw [11, 12] (fun i _ wr => ∃ (k : Nat) (s : Nat → One27), k ≤ N ∧ i = .int .i64 (k : Int) ∧ HP27 w x gl gw n m wr s) (fun i _ _ => N - (intOf i).toNat)
  case atStart => exact ⟨0, _, by omega, rfl, HT.out⟩
  case round =>
    clear HT
    obtain ⟨k, s, hk, rfl, ht⟩ := hrel
    have HT := Lib.hid ht
    clear ht
    by_cases hlt : k < N
    · have hl3 : k < L.length := by omega
      have hl3i : (k : Int) < L.length := by omega
      have hl4 : (k : Int) < 50 := by omega
      obtain ⟨ad, rfl⟩ := H.out.addr (by omega)
      obtain ⟨⟨e0, e1, e2, e3, e4, e5⟩, -, -⟩ := act27_cells (H.out.below HT.out.bel) hl3
      generalize fI L k 0 = kd at *
      generalize fI L k 1 = sl at *
      generalize fI L k 2 = lb at *
      generalize fI L k 3 = nn at *
      generalize fI L k 4 = tg at *
      generalize fB L k 5 = su at *
      have HT2 := Lib.hid (HT.out.alloc (.cells #[.int .i64 kd, .int .i64 sl, .int .i64 lb, .int .i64 nn, .int .u64 tg, .bool su] 29))
      have HK := Lib.hid (Blk.new wr 29 #[.int .i64 kd, .int .i64 sl, .int .i64 lb, .int .i64 nn, .int .u64 tg, .bool su])
      clear HT
      go_upto_region 9 with (fail)
      clear e0 e1 e2 e3 e4 e5
      generalize wr.alloc (.cells #[.int .i64 kd, .int .i64 sl, .int .i64 lb, .int .i64 nn, .int .u64 tg, .bool su] 29) = w3 at *
      generalize wr.heap.size = g at *
      have d0 := HK.out.cell 0
      have d1 := HK.out.cell 1
      have d2 := HK.out.cell 2
      have d4 := HK.out.cell 4
      have d5 := HK.out.cell 5
      by_cases k1 : kd = 1
      · subst k1
        have DC := Lib.hid (dropQ HT2.out.q (by omega) (by omega) sl)
        go_wp2_with (first
          | (go_at_call 8; (with_reducible refine (DC.out).mono ?_); rintro e w4 ⟨rfl, hq, ht⟩; have HT3 := Lib.hid (HT2.out.step hq ht); clear hq ht))
        exact ⟨⟨k + 1, _, by omega, by go_num, HT3.out⟩, by simp [intOf]; omega⟩
      · have k1b : (kd == 1) = false := beq_eq_false_iff_ne.2 k1
        have PC := Lib.hid (putQ HT2.out.q (by omega) (by omega) sl lb tg su)
        go_wp2_with (first
          | (go_at_call 9; (with_reducible refine (PC.out).mono ?_); rintro e w4 ⟨rfl, hq, ht⟩; have HT3 := Lib.hid (HT2.out.step hq ht); clear hq ht))
        exact ⟨⟨k + 1, _, by omega, by go_num, HT3.out⟩, by simp [intOf]; omega⟩
    · obtain rfl : k = N := by omega
      have hq : (¬ (k : Int) < L.length) ∨ (k : Int) < L.length ∧ ¬ (k : Int) < 50 := by have := HN.out; omega
      clear H HN hc hN1
      rcases hq with hq | ⟨hq2, hq⟩
      all_goals (
        go_wp2
        go_loopw [13, 14, 15, 16, 17, 18, 19] (fun c i _ _ _ _ _ wx => ∃ j : Nat, j ≤ n ∧ c = .int .i64 (cntW (fun b => seek27 s b m) j : Nat) ∧ i = .int .i64 (j : Int) ∧ HP27 w x gl gw n m wx s) (fun _ i _ _ _ _ _ _ => n - (intOf i).toNat)
        case atStart => exact ⟨0, by omega, rfl, rfl, HT.out⟩
        case round =>
          obtain ⟨j, hj, rfl, rfl, ht⟩ := hrel
          have HX := Lib.hid ht
          clear ht
          have HCN := Lib.hid (show cntW (fun b => seek27 s b m) (j + 1) = cntW (fun b => seek27 s b m) j + if seek27 s j m = 0 then 0 else 1 from rfl)
          have hcl := cntW_le (fun b => seek27 s b m) j
          by_cases h3 : j < n
          · have h3i : (j : Int) < n := by omega
            have OC := Lib.hid (ofQ HX.out.q (by omega) (j : Int))
            have hz : ofZ n m s j = seek27 s j m := if_pos (inZ_nat h3)
            rw [hz] at OC
            have hle := seek27_le s j m
            have hhit := seek27_hit s j m
            have AW := Lib.hid (fun l => atX HX.out.q (by omega) l)
            have hcc2 : cntW (fun b => seek27 s b m) j ≤ 29 := by omega
            generalize cntW (fun b => seek27 s b m) j = cc at *
            generalize seek27 s j m = z at *
            by_cases hz0 : z = 0
            · subst hz0
              have OC := Lib.hid (show Calls Try.prog 10 #[.pointer (some ⟨x, 0, none⟩), .int .i64 j] wr fun e w' => e = .returned (.tuple #[.int .i64 0, .bool false]) ∧ wr = w' from OC.out)
              have AC := Lib.hid (AW.out 0)
              have hcc : cntW (fun b => seek27 s b m) (j + 1) = cc := by have := HCN.out; simpa using this
              have HCC := Lib.hid hcc
              clear HCN hhit hz hle hcc AW hlt hk hN2 hcl
              go_wp2_with (first
                | (go_at_call 10; (with_reducible refine (OC.out).mono ?_); rintro e w4 ⟨rfl, rfl⟩)
                | (go_at_call 11; (with_reducible refine (AC.out).mono ?_); rintro e w4 ⟨⟨a, b, t, u, rfl, -, -⟩, hb⟩; have HB4 := Lib.hid hb; clear hb))
              exact ⟨⟨j + 1, by omega, by rw [HCC.out], by go_num, (HX.out.below HB4.out).alloc _⟩, by simp [intOf]; omega⟩
            · obtain ⟨i, rfl⟩ : ∃ i, z = i + 1 := ⟨z - 1, by omega⟩
              have hl := hhit (by omega)
              rw [Nat.add_sub_cancel] at hl
              have OC := Lib.hid (show Calls Try.prog 10 #[.pointer (some ⟨x, 0, none⟩), .int .i64 j] wr fun e w' => e = .returned (.tuple #[.int .i64 (i : Int), .bool true]) ∧ wr = w' from by
                have := OC.out
                rw [show decide (i + 1 ≠ 0) = true by simp, Nat.add_sub_cancel] at this
                exact this)
              have hh : hasZ m s (i : Int) = true := by
                unfold hasZ
                rw [inZ_nat (by omega : i < m), Int.toNat_natCast, hl]
                simp
              have AC := Lib.hid (AW.out (i : Int))
              rw [hh] at AC
              have hcc : cntW (fun b => seek27 s b m) (j + 1) = cc + 1 := by have := HCN.out; simpa using this
              have HCC := Lib.hid hcc
              have HLB := Lib.hid (show (((s (i : Int).toNat).lba - 1 : Nat) : Int) = j by rw [Int.toNat_natCast, hl, Nat.add_sub_cancel])
              rw [HLB.out] at AC
              have qj : ((j : Int) != j) = false := bne_self_eq_false _
              have qi : ((i : Int) != i) = false := bne_self_eq_false _
              clear HCN hhit hz hle hcc AW hl hh hlt hk hN2 hcl
              go_wp2_with (first
                | (go_at_call 10; (with_reducible refine (OC.out).mono ?_); rintro e w4 ⟨rfl, rfl⟩)
                | (go_at_call 11; (with_reducible refine (AC.out).mono ?_); rintro e w4 ⟨⟨a, b, t, u, rfl, ht, -⟩, hb⟩; obtain ⟨rfl, rfl, -, -⟩ := ht trivial; have HB4 := Lib.hid hb; clear hb ht))
              exact ⟨⟨j + 1, by omega, by rw [HCC.out]; go_num, by go_num, (HX.out.below HB4.out).alloc _⟩, by simp [intOf]; omega⟩
          · obtain rfl : j = n := by omega
            have LC := Lib.hid (plenQ HX.out.q)
            have FC := Lib.hid (freeQ HX.out.q (by omega) (by omega) (m : Int))
            have hfl := freeL_len s m
            have hfe : freeZ m s m = freeL s m := by unfold freeZ; congr 1; omega
            have hcn := HX.out.q.count
            rw [hfe] at FC
            rw [hcn]
            have HFL := Lib.hid hfl
            have AWC := Lib.hid awake27_calls
            clear hfl hfe hcl HCN hcn hlt hk hN2
            generalize cnt27 s m = cn at *
            generalize hq : freeL s m = F at *
            have hcm : cn ≤ m := by have := HFL.out; omega
            have qq : ((F.length : Int) == (m : Int) - cn) = true := beq_iff_eq.2 (by have := HFL.out; omega)
            go_wp2_with (first
              | (go_at_call 12; (with_reducible refine (LC.out).mono ?_); rintro e w4 ⟨rfl, rfl⟩)
              | (go_at_call 13; (with_reducible refine (FC.out).mono ?_); rintro e w4 ⟨v, rfl, ho, hb⟩; obtain ⟨fa, fc, rfl, fl, fm, -⟩ := ho.form; have HB4 := Lib.hid hb; clear ho hb)
              | (go_at_call 14; (with_reducible refine (AWC.out _).mono ?_); rintro e w5 ⟨rfl, hb⟩; have HB5 := Lib.hid (below_step HB4.out hb); clear hb))
            go_ret
            exact ⟨rfl, HX.out.bel.trans (HB5.out.mono HX.out.bel.size)⟩)
end Go.Proofs.Ytejhoobecladiaa.Ct
