import Derived.Test.YtejhoobecladiaaPlaX
import Derived.Test.YtejhoobecladiaaLaw27A
/-! Chapter 27: PlacesLeaves. -/
namespace Go.Proofs.Ytejhoobecladiaa.Ct
open Go.RowKit
set_option linter.unusedVariables false
set_option linter.unusedSimpArgs false
set_option maxRecDepth 100000 in
set_option maxHeartbeats 8000000 in
theorem leaves27_walk (no li : Int) (a : Option Addr) (cap : Nat) (L : List (List Value)) (w : World) (h1 : 0 ≤ no ∧ no ≤ 255) (h2 : 0 ≤ li ∧ li ≤ 255) (hc : L.length ≤ cap) (hcm : cap ≤ 9223372036854775807) (h : RowF act27 w a L) :
    Calls Try.prog 4 #[.int .u8 no, .int .u8 li, .slice a L.length cap] w fun e w' => e = .returned (.bool true) ∧ Below w.heap.size w w' := by
  have H := Lib.hid h; clear h
  obtain ⟨n0, n1⟩ := h1
  obtain ⟨m0, m1⟩ := h2
  obtain ⟨n, hn⟩ : ∃ n : Nat, no % 30 = n := ⟨(no % 30).toNat, by omega⟩
  obtain ⟨m, hm⟩ : ∃ m : Nat, li % 14 = m := ⟨(li % 14).toNat, by omega⟩
  have N1 : n ≤ 29 := by omega
  have M1 : m ≤ 13 := by omega
  have NC := Lib.hid (new27_ok n m w (by omega) (by omega))
  obtain ⟨N, hN⟩ : ∃ N, N = min L.length 50 := ⟨_, rfl⟩
  have hN1 : N ≤ L.length := by omega
  have hN2 : N ≤ 50 := by omega
  have HN := Lib.hid hN; clear hN
  go_enter Try.func4, Try.ntmps4
  go_upto_region 2 with (fail)
  rw [hn, hm]
  clear hn hm n0 n1 m0 m1
  go_upto_region 5 with (go_at_call 7; (with_reducible refine (NC.out).mono ?_); rintro e w1 ⟨x, rfl, ⟨gl, gw, hp⟩, hb⟩; have HT := Lib.hid (show HP27 w x gl gw n m w1 (fun _ => o27) from ⟨hp, hb⟩); clear hp hb)
  clear NC
  go_wp2
  go_loopw [11] (fun i wr => ∃ (k : Nat) (s : Nat → One27), k ≤ N ∧ i = .int .i64 (k : Int) ∧ HP27 w x gl gw n m wr s) (fun i _ => N - (intOf i).toNat)
  case atStart => exact ⟨0, _, by omega, rfl, HT.out⟩
  case round =>
    clear HT
    obtain ⟨k, s, hk, rfl, ht⟩ := hrel
    have HT := Lib.hid ht
    clear ht
    by_cases hlt : k < N
    · have hl3 : k < L.length := by omega
      have hl3i : (k : Int) < L.length := by omega
      have hl4 : (k : Int) < 50 := by omega
      obtain ⟨ad, rfl⟩ := H.out.addr (by omega)
      obtain ⟨⟨e0, e1, e2, e3, e4, e5⟩, -, -⟩ := act27_cells (H.out.below HT.out.bel) hl3
      have SD := Lib.hid (fun (W : World) (hb : Below w.heap.size w W) => (show W.cell? ⟨(ad.add (k * 6)).block, (ad.add (k * 6)).off + 1, none⟩ = some (.int .i64 (fI L k 1)) ∧ W.cell? ⟨(ad.add (k * 6)).block, (ad.add (k * 6)).off + 2, none⟩ = some (.int .i64 (fI L k 2)) ∧ W.cell? ⟨(ad.add (k * 6)).block, (ad.add (k * 6)).off + 4, none⟩ = some (.int .u64 (fI L k 4)) ∧ W.cell? ⟨(ad.add (k * 6)).block, (ad.add (k * 6)).off + 5, none⟩ = some (.bool (fB L k 5)) from by
        obtain ⟨⟨-, g1, g2, -, g4, g5⟩, -, -⟩ := act27_cells (H.out.below hb) hl3
        exact ⟨g1, g2, g4, g5⟩))
      generalize fI L k 0 = kd at *
      generalize fI L k 1 = sl at *
      generalize fI L k 2 = lb at *
      generalize fI L k 3 = nn at *
      generalize fI L k 4 = tg at *
      generalize fB L k 5 = su at *
      have PC := Lib.hid (fun (W : World) (hb : Below wr.heap.size wr W) => (putQ (HT.out.below hb).q (by omega) (by omega) sl lb tg su).mono (R' := fun e w' => e = .returned (.bool (inZ m sl && inZ n lb)) ∧ HP27 w x gl gw n m w' (putZ n m s sl lb tg su)) (by rintro e w' ⟨h1, h2, h3⟩; exact ⟨h1, (HT.out.below hb).step h2 h3⟩))
      have HB := Lib.hid (Below.refl wr.heap.size wr)
      have HBW := Lib.hid HT.out.bel
      clear HT
      go_upto_region 8 with (fail)
      clear e0 e1 e2 e3 e4 e5
      go_region_held (fun w' => w'.cell? ⟨(ad.add (k * 6)).block, (ad.add (k * 6)).off + 1, none⟩ = some (.int .i64 sl) ∧ w'.cell? ⟨(ad.add (k * 6)).block, (ad.add (k * 6)).off + 2, none⟩ = some (.int .i64 lb) ∧ w'.cell? ⟨(ad.add (k * 6)).block, (ad.add (k * 6)).off + 4, none⟩ = some (.int .u64 tg) ∧ w'.cell? ⟨(ad.add (k * 6)).block, (ad.add (k * 6)).off + 5, none⟩ = some (.bool su))
        (first | exact SD.out _ HT3.out.bel | exact SD.out _ (by repeat (first | with_reducible exact HBW.out | with_reducible apply below_drewN | with_reducible apply below_drew)))
        (first
          | (go_at_call 9; (with_reducible refine (PC.out _ (by repeat (first | with_reducible exact HB.out | with_reducible apply below_drewN | with_reducible apply below_drew))).mono ?_); rintro e w4 ⟨rfl, hq⟩; have HT3 := Lib.hid hq; clear hq))
      all_goals go_wp2
      all_goals exact ⟨⟨k + 1, _, by omega, by go_num, HT3.out⟩, by simp [intOf]; omega⟩
    · obtain rfl : k = N := by omega
      have hq : (¬ (k : Int) < L.length) ∨ (k : Int) < L.length ∧ ¬ (k : Int) < 50 := by have := HN.out; omega
      have HL := Lib.hid (fun (W : World) (hb : Below wr.heap.size wr W) => (HT.out.below hb).q)
      have HLE := Lib.hid HT.out.q.le
      have HBW := Lib.hid HT.out.bel
      clear H HN hc hN1 hlt hk hN2
      rcases hq with hq | ⟨hq2, hq⟩
      all_goals (
        go_wp2
        go_loopw [12, 13] (fun v i wx => ∃ j : Nat, j ≤ 6 ∧ i = .int .i64 (j : Int) ∧ EntR wx wr.heap.size v s (occ s 0 (min (j * 3) m)) ∧ Below wr.heap.size wr wx) (fun _ i _ => 6 - (intOf i).toNat)
        case atStart => exact ⟨0, by omega, rfl, by rw [show min (0 * 3) m = 0 by omega]; exact entR_nil _ _ _, Below.refl _ _⟩
        case round =>
          obtain ⟨j, hj, rfl, he, hb⟩ := hrel
          have HE := Lib.hid he
          have HBX := Lib.hid hb
          clear he hb
          by_cases h3 : j < 6
          · have h3i : (j : Int) < 6 := by omega
            have LC := Lib.hid (leafQ (HL.out _ HBX.out) (by omega) (by omega) (j : Int))
            have ST := Lib.hid (leaf_step m s j (by omega))
            have l1 := occ_len s 0 (min (j * 3) m)
            have l2 : (leafN m s j).length ≤ 3 := by rw [leaf_occ m s j (by omega)]; have := occ_len s (j * 3) (min 3 (m - j * 3)); omega
            have l3 : (occ s 0 (min (j * 3) m)).length + (leafN m s j).length ≤ 1000000 := by omega
            generalize occ s 0 (min (j * 3) m) = O1 at *
            generalize leafN m s j = O2 at *
            clear l1 l2
            go_wp2_with (first
              | (go_at_call 15; (with_reducible refine (LC.out).mono ?_); rintro e w4 ⟨v4, rfl, he4, hb4⟩; have HE4 := Lib.hid he4; have HB4 := Lib.hid (Below.trans HBX.out (hb4.mono HBX.out.size)); have HE := Lib.hid (HE.out.below hb4); clear he4 hb4)
              | (at_builtin; refine wp_appE rfl (.tmp 68) (.tmp 71) rfl HE.out HE4.out rfl rfl l3 HB4.out.size ?_; intro v5 w5 he5 hb5; have HE5 := Lib.hid he5; have HB5 := Lib.hid (Below.trans HB4.out hb5); clear he5 hb5))
            exact ⟨⟨j + 1, by omega, by go_num, by rw [← ST.out]; exact HE5.out, HB5.out⟩, by simp [intOf]; omega⟩
          · obtain rfl : j = 6 := by omega
            have e18 : min (6 * 3) m = m := by omega
            rw [e18] at HE
            have hw := wit_all (m := m) (n := n) (s := s) (by omega) (by omega) HLE.out
            have hr1 : rowN m s 0 192 = occ s 0 m := by
              unfold rowN
              have e1 : spanA 0 = 0 := rfl
              have e2 : spanK m 0 192 = m := by unfold spanK; omega
              rw [e1, e2]
            have hfe : freeZ m s 192 = freeL s m := by unfold freeZ; congr 1; omega
            have hfl := freeL_len s m
            rw [← occ_cnt s m] at hfl
            have AA := Lib.hid (fun W hb => hr1 ▸ allQ (HL.out W hb) (by omega) (by omega))
            have FA := Lib.hid (fun W hb => hfe ▸ freeQ (HL.out W hb) (by omega) (by omega) 192)
            have WA := Lib.hid (fun W hb => hw ▸ withinQ (HL.out W hb) (by omega) (by omega) 0 n (by unfold I64; decide) (by unfold I64; omega))
            have LEN := Lib.hid (fun W hb => occ_cnt s m ▸ plenQ (HL.out W hb))
            have AWC := Lib.hid awake27_calls
            have HB := Lib.hid HBX.out
            obtain ⟨va, vc, rfl, v1, v2, -⟩ := HE.out.form
            have CL := casts_length (occ s 0 m)
            generalize casts (occ s 0 m) = LW at *
            generalize occ s 0 m = LO at *
            generalize freeL s m = LF at *
            clear hw hr1 hfe HL HLE HBX e18
            generalize LO.length = c at *
            have WA := Lib.hid (fun W hb => (WA.out W hb).mono (R' := fun e w' => ∃ a2 c2, e = .returned (.slice a2 c c2) ∧ Below W.heap.size W w') (by rintro e w' ⟨v, h1, h2, h3⟩; obtain ⟨a2, c2, rfl, -, -, -⟩ := h2.form; rw [CL] at h1; exact ⟨a2, c2, h1, h3⟩))
            obtain ⟨d, hd⟩ : ∃ d, LF.length = d := ⟨_, rfl⟩
            have FA := Lib.hid (fun W hb => (FA.out W hb).mono (R' := fun e w' => ∃ a2 c2, e = .returned (.slice a2 d c2) ∧ Below W.heap.size W w') (by rintro e w' ⟨v, h1, h2, h3⟩; obtain ⟨a2, c2, rfl, -, -, -⟩ := h2.form; rw [hd] at h1; exact ⟨a2, c2, h1, h3⟩))
            rw [hd] at hfl
            have hs1 : (c : Int) + d = m := by omega
            have hs2 : ((m : Int) == m) = true := beq_self_eq_true _
            have ql : ((c : Int) == c) = true := beq_self_eq_true _
            clear hd CL hfl
            go_wp2_with (first
              | (go_at_call 17; (with_reducible refine (AA.out _ (by repeat (first | with_reducible exact HB.out | with_reducible apply below_drewN | with_reducible apply below_drew))).mono ?_); rintro e w4 ⟨v4, rfl, he4, hb4⟩; have HE4 := Lib.hid he4; have HE := Lib.hid (HE.out.below hb4); have HB := Lib.hid (Below.trans HB.out (hb4.mono HB.out.size)); clear he4 hb4)
              | (go_at_call 16; (with_reducible refine (ent_same HE.out HE4.out).mono ?_); rintro e w4 ⟨rfl, hb4⟩; have HB := Lib.hid (Below.trans HB.out (hb4.mono HB.out.size)); clear hb4)
              | (go_at_call 13; (with_reducible refine (FA.out _ (by repeat (first | with_reducible exact HB.out | with_reducible apply below_drewN | with_reducible apply below_drew))).mono ?_); rintro e w4 ⟨a4, c4, rfl, hb4⟩; have HB := Lib.hid (Below.trans HB.out (hb4.mono HB.out.size)); clear hb4)
              | (go_at_call 18; (with_reducible refine (WA.out _ (by repeat (first | with_reducible exact HB.out | with_reducible apply below_drewN | with_reducible apply below_drew))).mono ?_); rintro e w4 ⟨a5, c5, rfl, hb4⟩; have HB := Lib.hid (Below.trans HB.out (hb4.mono HB.out.size)); clear hb4)
              | (go_at_call 12; (with_reducible refine (LEN.out _ (by repeat (first | with_reducible exact HB.out | with_reducible apply below_drewN | with_reducible apply below_drew))).mono ?_); rintro e w4 ⟨rfl, rfl⟩)
              | (go_at_call 14; (with_reducible refine (AWC.out _).mono ?_); rintro e w4 ⟨rfl, hb4⟩; have HB := Lib.hid (Below.trans HB.out (hb4.mono HB.out.size)); clear hb4))
            go_ret
            exact ⟨rfl, HBW.out.trans (HB.out.mono HBW.out.size)⟩)
end Go.Proofs.Ytejhoobecladiaa.Ct
