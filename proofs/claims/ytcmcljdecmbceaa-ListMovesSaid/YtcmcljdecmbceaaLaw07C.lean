import Derived.Test.YtcmcljdecmbceaaLiY
import Derived.Test.YtcmcljdecmbceaaLaw07B
import Derived.Test.YtcmcljdecmbceaaOpenS
import Derived.Test.YtcmcljdecmbceaaHeld
/-! Chapter 07: ListMoves. -/
namespace Go.Proofs.Ytcmcljdecmbceaa.Ct
open Go.RowKit
set_option linter.unusedVariables false
set_option linter.unusedSimpArgs false
structure Mv where
  kd : Int
  al : Int
  an : Int
def mvV (x : Mv) : Value := .agg #[.int .i64 x.kd, .int .i64 x.al, .int .i64 x.an]
theorem open_Act {H : Type} {enc : TypeId × Value → H} {w : World} {base : Nat} {spare : Nat → Bool} {held : Bool} {r : Reach} {b0 : Nat} {v : Value} {d : DataW H} {p : List MemPlace}
    (hv : Value.okWide Try.prog w r b0 24 v) (h : DataW.Trod enc Try.prog w base spare held 24 v d p) : ∃ x : Mv, v = mvV x ∧ True := by
  obtain ⟨vs, rfl, hl, hf⟩ := open_structF (ds := [.int .i64, .int .i64, .int .i64]) Try.underlying24 (by kernel_rfl) (by kernel_rfl) (by kernel_rfl) hv h
  match vs, hl with
  | [v0, v1, v2], _ =>
    obtain ⟨n0, e0, w0⟩ := (hf 0 _ rfl).int
    obtain ⟨n1, e1, w1⟩ := (hf 1 _ rfl).int
    obtain ⟨n2, e2, w2⟩ := (hf 2 _ rfl).int
    simp only [List.getD_cons_zero, List.getD_cons_succ] at e0 e1 e2
    subst e0; subst e1; subst e2
    exact ⟨⟨n0, n1, n2⟩, rfl, trivial⟩
set_option maxRecDepth 100000 in
set_option maxHeartbeats 8000000 in
theorem moves07_walk (no : Int) (a : Option Addr) (cap : Nat) (L : List (List Value)) (mv : Mv) (w : World) (h1 : 0 ≤ no ∧ no ≤ 255) (hc : L.length ≤ cap) (hcm : cap ≤ 9223372036854775807) (h : RowF act07 w a L) (hmv : True) :
    Calls Try.prog 3 #[.int .u8 no, .slice a L.length cap, mvV mv] w fun e w' => e = .returned (.bool true) ∧ Below w.heap.size w w' := by
  have H := Lib.hid h; clear h hmv
  obtain ⟨kd, al, an⟩ := mv
  unfold mvV
  dsimp only
  obtain ⟨n0, n1⟩ := h1
  obtain ⟨n, hn⟩ : ∃ n : Nat, no % 40 = n := ⟨(no % 40).toNat, by omega⟩
  have N1 : n ≤ 39 := by omega
  obtain ⟨N, hN⟩ : ∃ N, N = min L.length 50 := ⟨_, rfl⟩
  have hN1 : N ≤ L.length := by omega
  have hN2 : N ≤ 50 := by omega
  have HN := Lib.hid hN; clear hN
  have HB0 := Lib.hid (below_alloc (Below.refl w.heap.size w) (.cells #[.int .i64 kd, .int .i64 al, .int .i64 an] 24))
  have HK0 := Lib.hid (show Blk (w.alloc (.cells #[.int .i64 kd, .int .i64 al, .int .i64 an] 24)) w.heap.size 24 #[.int .i64 kd, .int .i64 al, .int .i64 an] from Blk.new _ _ _)
  have H0 := Lib.hid (H.out.below HB0.out)
  have HZ0 := Lib.hid (show (w.alloc (.cells #[.int .i64 kd, .int .i64 al, .int .i64 an] 24)).heap.size = w.heap.size + 1 by simp)
  go_enter Try.func3, Try.ntmps3
  go_upto_region 1 with (fail)
  go_upto_region 2 with (fail)
  rw [hn]
  clear hn n0 n1
  generalize w.alloc (.cells #[.int .i64 kd, .int .i64 al, .int .i64 an] 24) = wa at *
  have HWB := Lib.hid HB0.out
  obtain ⟨g0, hg0⟩ : ∃ g0, w.heap.size = g0 := ⟨_, rfl⟩
  have HG0 := Lib.hid hg0
  rw [hg0] at HK0 HZ0
  rw [hg0]
  clear hg0 HB0 H
  have NC := Lib.hid (show Calls Try.prog 6 #[.int .i64 n, .int .i64 3] wa fun e w' => ∃ x gl gm, e = .returned (.tuple #[.pointer (some ⟨x, 0, none⟩), .int .i64 0]) ∧ LR wa.heap.size w' x gl gm n 3 (fun _ => []) ∧ Below wa.heap.size wa w' from lnew_ok n 3 wa (by omega) (by decide))
  go_upto_region 5 with (go_at_call 6; (with_reducible refine (NC.out).mono ?_); rintro e w1 ⟨x, gl, gm, rfl, hp, hb⟩; have HP := Lib.hid hp; have HB1 := Lib.hid hb; clear hp hb)
  have HO := Lib.hid (show Onx wa wa.heap.size x gl gm n w1 (fun _ => []) from ⟨HP.out, HB1.out.size, by obtain ⟨f, g, hs, -⟩ := HP.out; exact hs.kx.lt, by obtain ⟨f, g, hs, -⟩ := HP.out; exact hs.kl.lt, by obtain ⟨f, g, hs, -⟩ := HP.out; exact hs.km.lt, HB1.out⟩)
  clear NC HP HB1
  go_wp2
  go_loopw [10] (fun i wr => ∃ (k : Nat) (r : Nat → List Nat), k ≤ N ∧ i = .int .i64 (k : Int) ∧ Onx wa wa.heap.size x gl gm n wr r) (fun i _ => N - (intOf i).toNat)
  case atStart => exact ⟨0, _, by omega, rfl, HO.out⟩
  case round =>
    clear HO
    obtain ⟨k, r, hk, rfl, ho⟩ := hrel
    have HO := Lib.hid ho
    clear ho
    by_cases hlt : k < N
    · have hl3 : k < L.length := by omega
      have hl3i : (k : Int) < L.length := by omega
      have hl4 : (k : Int) < 50 := by omega
      obtain ⟨ad, rfl⟩ := H0.out.addr (by omega)
      have HE := Lib.hid (act07_cells (H0.out.below HO.out.bel) hl3)
      go_upto_region 8 with (fail)
      obtain ⟨e0, e1, e2⟩ := HE.out
      go_region_held (fun w' => w'.cell? ⟨(ad.add (k * 3)).block, (ad.add (k * 3)).off + 1, none⟩ = some (.int .i64 (fI L k 1)) ∧ w'.cell? ⟨(ad.add (k * 3)).block, (ad.add (k * 3)).off + 2, none⟩ = some (.int .i64 (fI L k 2)))
        (exact ⟨(act07_cells (H0.out.below HO.out.bel) hl3).2.1, (act07_cells (H0.out.below HO.out.bel) hl3).2.2⟩)
        (first
          | (go_at_call 7; (with_reducible refine (ppush (n := n) (m := 3) (LR.drewN (Onx.p HO.out) _) _ _ (by omega) (by omega)).mono ?_); rintro e w4 ⟨rfl, hp4, ht4⟩; have HO := Lib.hid (Onx.step (Onx.below HO.out (below_drewN (Below.refl _ _) _)) hp4 ht4); clear hp4 ht4)
          | (go_at_call 7; (with_reducible refine (ppush (n := n) (m := 3) (LR.drew (Onx.p HO.out)) _ _ (by omega) (by omega)).mono ?_); rintro e w4 ⟨rfl, hp4, ht4⟩; have HO := Lib.hid (Onx.step (Onx.drew HO.out) hp4 ht4); clear hp4 ht4))
      all_goals go_wp2
      all_goals exact ⟨⟨k + 1, _, by omega, by go_num, HO.out⟩, by simp [intOf]; omega⟩
    · obtain rfl : k = N := by omega
      have hq : (¬ (k : Int) < L.length) ∨ (k : Int) < L.length ∧ ¬ (k : Int) < 50 := by have := HN.out; omega
      have HK1 := Lib.hid (HK0.out.below HO.out.bel)
      have HRL := Lib.hid (fun j hj => HO.out.p.rlen (k := j) hj)
      clear hcm hc HN
      have G01 : g0 < wr.heap.size := HK1.out.lt
      have X1 : x < wr.heap.size := HO.out.l0
      have X2 : gl < wr.heap.size := HO.out.l1
      have X3 : gm < wr.heap.size := HO.out.l2
      have X4 : wa.heap.size ≤ wr.heap.size := HO.out.sz
      have HRW := Lib.hid (show RowsB (wr.alloc (.cells #[.slice none 0 0, .slice none 0 0, .slice none 0 0] 31)) wr.heap.size r 0 #[.slice none 0 0, .slice none 0 0, .slice none 0 0] from ⟨Blk.new _ _ _, rfl, fun j hj => absurd hj (by omega)⟩)
      have HO2 := Lib.hid (HO.out.below (below_alloc (Below.refl _ _) (.cells #[.slice none 0 0, .slice none 0 0, .slice none 0 0] 31)))
      have HK2 := Lib.hid (HK1.out.alloc (.cells #[.slice none 0 0, .slice none 0 0, .slice none 0 0] 31))
      clear HO HK1 HK0
      rcases hq with hq | ⟨hq2, hq⟩
      all_goals (
        go_upto_region 10 with (fail)
        clear hN1 hN2 hk hlt hq
        generalize wr.alloc (.cells #[.slice none 0 0, .slice none 0 0, .slice none 0 0] 31) = w2 at *
        generalize wr.heap.size = g1 at *
        go_wp2
        go_loopw [12] (fun i wx => ∃ (k : Nat) (V : Array Value), k ≤ 3 ∧ i = .int .i64 (k : Int) ∧ Onx wa wa.heap.size x gl gm n wx r ∧ RowsB wx g1 r k V ∧ Blk wx g0 24 #[.int .i64 kd, .int .i64 al, .int .i64 an]) (fun i _ => 3 - (intOf i).toNat)
        case atStart => exact ⟨0, _, by omega, rfl, HO2.out, HRW.out, HK2.out⟩
        case round =>
          clear HO2 HRW HK2
          obtain ⟨k2, V, hk2, rfl, ho, hrw, hkb⟩ := hrel
          have HO := Lib.hid ho
          have HR := Lib.hid hrw
          have HK := Lib.hid hkb
          clear ho hrw hkb
          by_cases h3 : k2 < 3
          · have h3i : (k2 : Int) < 3 := by omega
            have AC := Lib.hid (pall HO.out.p (k2 : Int) (by omega) (by decide))
            rw [rowI_ok rfl h3] at AC
            go_wp2_with (go_at_call 8; (with_reducible refine (AC.out).mono ?_); rintro e w4 ⟨a4, c4, rfl, ho4, hb4⟩; have O4 := Lib.hid (ho4.mono (HR.out.blk.lt)); have HO := Lib.hid (HO.out.below hb4); have HR := Lib.hid (HR.out.below hb4); have HK := Lib.hid (HK.out.below hb4); have fz := HR.out.blk.frozen k2; obtain ⟨vz, ez⟩ := HR.out.at_ h3; clear ho4 hb4)
            exact ⟨⟨k2 + 1, _, by omega, by go_num, HO.out.far ((Tch.refl g1 g1 w4).set_ (.inl rfl) _) X1 X2 X3 X4, HR.out.put h3 O4.out, HK.out.far (by simp; omega) _⟩, by simp [intOf]; omega⟩
          · obtain rfl : k2 = 3 := by omega
            rw [show ((3 : Nat) : Int) = 3 from rfl]
            have HP := Lib.hid HR.out.blk
            have G02 : g0 ≠ gl := by have := HO.out.p.base.1; have := HZ0.out; omega
            have G03 : g0 ≠ gm := by have := HO.out.p.base.2; have := HZ0.out; omega
            have d0 := HK.out.cell 0
            have d1 := HK.out.cell 1
            have d2 := HK.out.cell 2
            go_upto_block 4 with (fail)
            go_cut [] (fun wx => ∃ r', (∀ j, remS (casts (r' j)) an = remS (casts (r j)) an) ∧ Onx wa wa.heap.size x gl gm n wx r' ∧ RowsB wx g1 r 3 V ∧ Blk wx g0 24 #[.int .i64 kd, .int .i64 al, .int .i64 an])
            case first =>
              by_cases k0 : kd = 0
              · subst k0
                go_wp2_with (go_at_call 7; (with_reducible refine (ppush (n := n) (m := 3) HO.out.p al an (by omega) (by decide)).mono ?_); rintro e w6 ⟨rfl, hp6, ht6⟩; have HO6 := Lib.hid (HO.out.step hp6 ht6); have HR6 := Lib.hid (HR.out.tch ht6 X2 X3); have HK6 := Lib.hid (HK.out.tch ht6 G02 G03); have HS := Lib.hid (fun j => remS_push r n 3 al an j); clear hp6 ht6)
                go_meet
                exact ⟨_, HS.out, HO6.out, HR6.out, HK6.out⟩
              · by_cases k1 : kd = 1
                · subst k1
                  go_wp2_with (go_at_call 9; (with_reducible refine (papp (n := n) (m := 3) HO.out.p al an (by omega) (by decide)).mono ?_); rintro e w6 ⟨rfl, hp6, ht6⟩; have HO6 := Lib.hid (HO.out.step hp6 ht6); have HR6 := Lib.hid (HR.out.tch ht6 X2 X3); have HK6 := Lib.hid (HK.out.tch ht6 G02 G03); have HS := Lib.hid (fun j => remS_app r n 3 al an j); clear hp6 ht6)
                  go_meet
                  exact ⟨_, HS.out, HO6.out, HR6.out, HK6.out⟩
                · have k0b : (kd == 0) = false := beq_eq_false_iff_ne.2 k0
                  have k1b : (kd == 1) = false := beq_eq_false_iff_ne.2 k1
                  go_wp2_with (go_at_call 10; (with_reducible refine (prem2 (n := n) (m := 3) HO.out.p an (by omega) (by decide)).mono ?_); rintro e w6 ⟨rfl, hp6, ht6⟩; have HO6 := Lib.hid (HO.out.step hp6 ht6); have HR6 := Lib.hid (HR.out.tch ht6 X2 X3); have HK6 := Lib.hid (HK.out.tch ht6 G02 G03); have HS := Lib.hid (fun j => remS_rem r an j); clear hp6 ht6)
                  go_meet
                  exact ⟨_, HS.out, HO6.out, HR6.out, HK6.out⟩
            case rest =>
              obtain ⟨r2, hs, ho, hrw, hkb⟩ := hcut
              have HS := Lib.hid hs; have HO3 := Lib.hid ho; have HR3 := Lib.hid hrw; have HK3 := Lib.hid hkb
              obtain ⟨d, hd, hd1⟩ := once ho.p.rws an
              have HD := Lib.hid hd
              have HD1 := Lib.hid hd1
              clear hs ho hrw hkb HO HR HK HP d0 d1 d2 hd hd1
              go_wp2
              go_loopw [13, 14] (fun s i wx => ∃ k3 : Nat, k3 ≤ 3 ∧ s = .int .i64 (sumD d k3 : Int) ∧ i = .int .i64 (k3 : Int) ∧ Below wc.heap.size wc wx) (fun s i _ => 3 - (intOf i).toNat)
              case atStart => exact ⟨0, by omega, rfl, rfl, Below.refl _ _⟩
              case round =>
                obtain ⟨k3, hk3, rfl, rfl, hb⟩ := hrel
                have HBx := Lib.hid hb
                have HO := Lib.hid (HO3.out.below hb)
                have HR := Lib.hid (HR3.out.below hb)
                have HK := Lib.hid (HK3.out.below hb)
                clear hb
                have q1 := sumD_le HD1.out hk3
                by_cases h3 : k3 < 3
                · have h3i : (k3 : Int) < 3 := by omega
                  have AC := Lib.hid (pall HO.out.p (k3 : Int) (by omega) (by decide))
                  rw [rowI_ok rfl h3] at AC
                  obtain ⟨a5, c5, hv5, ho5⟩ := HR.out.row k3 h3
                  have z5 : wr.cell? ⟨g1, k3, none⟩ = some (.slice a5 (r k3).length c5) := (HR.out.blk.cell k3).trans hv5
                  have HR5 := Lib.hid ho5.rowX
                  have l1 := HD.out k3 h3
                  have l2 := HRL.out k3 h3
                  have l3 : (r2 k3).length ≤ n := HO.out.p.rlen h3
                  rw [HS.out] at l1
                  have HSY := Lib.hid (HS.out k3)
                  generalize hys : remS (casts (r k3)) an = ys at *
                  have HYS := Lib.hid hys
                  clear hv5 ho5 hys
                  obtain ⟨N2, hn2⟩ : ∃ N2, (r2 k3).length = N2 := ⟨_, rfl⟩
                  obtain ⟨N5, hn5⟩ : ∃ N5, (r k3).length = N5 := ⟨_, rfl⟩
                  obtain ⟨dk, hdk⟩ : ∃ dk, d k3 = dk := ⟨_, rfl⟩
                  obtain ⟨sk, hsk⟩ : ∃ sk, sumD d k3 = sk := ⟨_, rfl⟩
                  have HN2 := Lib.hid hn2
                  have HN5 := Lib.hid hn5
                  have HSK := Lib.hid (show sumD d (k3 + 1) = sk + dk by rw [← hsk, ← hdk]; rfl)
                  rw [hn2] at AC l1 l3
                  rw [hn5] at z5 l2
                  rw [hdk] at l1
                  rw [hsk] at q1
                  rw [hsk]
                  clear hn2 hn5 hdk hsk
                  have l1a : N2 ≤ ys.length + dk := by omega
                  have l1b : ys.length + dk ≤ N2 := by omega
                  clear l1
                  go_upto_region 25 with (go_at_call 8; (with_reducible refine (AC.out).mono ?_); rintro e w4 ⟨a4, c4, rfl, ho4, hb4⟩; have HR4 := Lib.hid ho4.rowX; have HB4 := Lib.hid hb4; clear ho4 hb4)
                  have WL := Lib.hid (fun (W : World) (hb : Below w4.heap.size w4 W) => wo_calls a4 c4 N2 (casts (r2 k3)) ys an W (HR4.out.below hb) ((casts_length _).trans HN2.out) (by omega) HSY.out)
                  have WR := Lib.hid (fun (W : World) (hb : Below w4.heap.size w4 W) => wo_calls a5 c5 N5 (casts (r k3)) ys an W ((HR5.out.below HB4.out).below hb) ((casts_length _).trans HN5.out) (by omega) HYS.out)
                  have SC := Lib.hid (fun (a6 a7 : Option Addr) (c6 c7 : Nat) (W : World) (h6 : Row .i64 W a6 ys) (h7 : Row .i64 W a7 ys) => (show Calls Try.prog 11 #[.slice a6 ys.length c6, .slice a7 ys.length c7] W fun e w' => e = .returned (.bool true) ∧ Below W.heap.size W w' by
                    have := rsame05_calls a6 a7 c6 c7 ys ys W h6 h7
                    rw [decide_eq_true rfl] at this
                    exact this))
                  have SD := Lib.hid (fun (W : World) (hb : Below w4.heap.size w4 W) => (show W.cell? ⟨g0, 2, none⟩ = some (.int .i64 an) ∧ W.cell? ⟨g1, k3, none⟩ = some (.slice a5 N5 c5) from ⟨bget hb (bget HB4.out (HK.out.cell 2)), bget hb (bget HB4.out z5)⟩))
                  have HB := Lib.hid (Below.refl w4.heap.size w4)
                  go_region_held (fun w' => w'.cell? ⟨g0, 2, none⟩ = some (.int .i64 an) ∧ w'.cell? ⟨g1, k3, none⟩ = some (.slice a5 N5 c5))
                    (exact SD.out _ (by repeat (first | with_reducible exact HB.out | with_reducible apply below_drewN | with_reducible apply below_drew)))
                    (first
                      | (go_at_call 12; (with_reducible refine (WL.out _ (by repeat (first | with_reducible exact HB.out | with_reducible apply below_drewN | with_reducible apply below_drew))).mono ?_); rintro e w6 ⟨aL, cL, rfl, hr6, hb6⟩; have RLL := Lib.hid hr6; (try have RRR := Lib.hid (Row.below RRR.out hb6)); have HB := Lib.hid (below_step (by repeat (first | with_reducible exact HB.out | with_reducible apply below_drewN | with_reducible apply below_drew)) hb6); clear hr6 hb6)
                      | (go_at_call 12; (with_reducible refine (WR.out _ (by repeat (first | with_reducible exact HB.out | with_reducible apply below_drewN | with_reducible apply below_drew))).mono ?_); rintro e w6 ⟨aR, cR, rfl, hr6, hb6⟩; have RRR := Lib.hid hr6; (try have RLL := Lib.hid (Row.below RLL.out hb6)); have HB := Lib.hid (below_step (by repeat (first | with_reducible exact HB.out | with_reducible apply below_drewN | with_reducible apply below_drew)) hb6); clear hr6 hb6)
                      | (go_at_call 11; (with_reducible refine (SC.out aL aR cL cR _ RLL.out RRR.out).mono ?_); rintro e w6 ⟨rfl, hb6⟩; have HB := Lib.hid (below_step (by repeat (first | with_reducible exact HB.out | with_reducible apply below_drewN | with_reducible apply below_drew)) hb6); have f2 := (SD.out _ HB.out).1; clear hb6))
                  all_goals go_wp2_with (go_at_call 12; (with_reducible refine (WL.out _ (by repeat (first | with_reducible exact HB.out | with_reducible apply below_drewN | with_reducible apply below_drew))).mono ?_); rintro e w7 ⟨aM, cM, rfl, hr7, hb7⟩; have HB7 := Lib.hid (below_step HB.out hb7); clear hr7 hb7)
                  all_goals (
                    go_roundw
                    case rel => exact ⟨k3 + 1, by omega, by (rw [HSK.out]; congr 1; omega), by go_num, Below.trans HBx.out ((Below.trans HB4.out (HB7.out.mono HB4.out.size)).mono HBx.out.size)⟩
                    case measure => simp [intOf]; omega)
                · obtain rfl : k3 = 3 := by omega
                  have RC := Lib.hid (right_calls wa.heap.size x gl gm n 3 r2 wr HO.out.p (by omega) (by decide))
                  have q1i : (sumD d 3 : Int) ≤ 1 := by omega
                  go_wp2_with (first
                    | (go_at_call 13; (with_reducible refine (RC.out).mono ?_); rintro e w8 ⟨rfl, hb8⟩; have HO8 := Lib.hid (HO.out.below hb8); clear hb8)
                    | (go_at_call 14; (with_reducible refine (awake07_calls _).mono ?_); rintro e w9 ⟨rfl, hb9⟩; have HO9 := Lib.hid (HO8.out.below hb9); clear hb9))
                  go_ret
                  exact ⟨rfl, Below.trans HWB.out (HO9.out.bel.mono (by have := HZ0.out; have := HG0.out; omega))⟩)
end Go.Proofs.Ytcmcljdecmbceaa.Ct
