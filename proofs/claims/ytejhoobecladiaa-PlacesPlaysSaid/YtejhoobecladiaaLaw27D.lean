import Derived.Test.YtejhoobecladiaaPlaY
import Derived.Test.YtejhoobecladiaaPlaU
import Derived.Deep.DeepCutAuto
/-! Chapter 27: PlacesPlays. -/
namespace Go.Proofs.Ytejhoobecladiaa.Ct
open Go.RowKit
set_option linter.unusedVariables false
set_option linter.unusedSimpArgs false
theorem act27_S {W : World} {g : Nat} {v0 v1 v2 v3 v4 v5 : Value} {t : TypeId} (h : Blk W g t #[v0, v1, v2, v3, v4, v5]) : W.cell? ⟨g, 1, none⟩ = some v1 ∧ W.cell? ⟨g, 2, none⟩ = some v2 ∧ W.cell? ⟨g, 4, none⟩ = some v4 ∧ W.cell? ⟨g, 5, none⟩ = some v5 := ⟨h.cell 1, h.cell 2, h.cell 4, h.cell 5⟩
set_option maxRecDepth 100000 in
set_option maxHeartbeats 8000000 in
theorem plays27_walk (no li : Int) (a : Option Addr) (cap : Nat) (L : List (List Value)) (w : World) (h1 : 0 ≤ no ∧ no ≤ 255) (h2 : 0 ≤ li ∧ li ≤ 255) (hc : L.length ≤ cap) (hcm : cap ≤ 9223372036854775807) (h : RowF act27 w a L) :
    Calls Try.prog 5 #[.int .u8 no, .int .u8 li, .slice a L.length cap] w fun e w' => e = .returned (.bool true) ∧ Below w.heap.size w w' := by
  have H := Lib.hid h; clear h
  obtain ⟨n0, n1⟩ := h1
  obtain ⟨m0, m1⟩ := h2
  obtain ⟨n, hn⟩ : ∃ n : Nat, no % 30 = n := ⟨(no % 30).toNat, by omega⟩
  obtain ⟨m, hm⟩ : ∃ m : Nat, li % 14 = m := ⟨(li % 14).toNat, by omega⟩
  have N1 : n ≤ 29 := by omega
  have M1 : m ≤ 13 := by omega
  have NC := Lib.hid (new27_ok n m w (by omega) (by omega))
  obtain ⟨N, hN⟩ : ∃ N, N = min L.length 50 := ⟨_, rfl⟩
  have hN1 : N ≤ L.length := by omega
  have hN2 : N ≤ 50 := by omega
  have HN := Lib.hid hN; clear hN
  go_enter Try.func5, Try.ntmps5
  go_upto_region 2 with (fail)
  rw [hn, hm]
  clear hn hm n0 n1 m0 m1
  go_upto_region 5 with (go_at_call 7; (with_reducible refine (NC.out).mono ?_); rintro e w1 ⟨x, rfl, ⟨gl, gw, hp⟩, hb⟩; have HP := Lib.hid hp; have HB1 := Lib.hid hb; clear hp hb)
  have RC := Lib.hid (rnew_ok n m w1 (by omega))
  go_upto_region 6 with (go_at_call 19; (with_reducible refine (RC.out).mono ?_); rintro e w2 ⟨q, rfl, ⟨gr, hr⟩, hb⟩; have HR := Lib.hid hr; have HB2 := Lib.hid hb; clear hr hb)
  have HT := Lib.hid (show Six27 w w1.heap.size x gl gw q gr n m w2 (fun _ => o27) from
    ⟨HP.out.below HB2.out, HR.out, ⟨(HP.out.mine x (.inl rfl)).2, (HP.out.mine gl (.inr (.inl rfl))).2, (HP.out.mine gw (.inr (.inr rfl))).2⟩, HB1.out.size, HB1.out.trans (HB2.out.mono HB1.out.size)⟩)
  generalize w1.heap.size = C at *
  clear NC RC HP HR HB1 HB2
  go_wp2
  go_loopw [12, 13, 14, 15, 16, 17] (fun i _ _ _ _ _ wr => ∃ (k : Nat) (s : Nat → One27), k ≤ N ∧ i = .int .i64 (k : Int) ∧ Six27 w C x gl gw q gr n m wr s) (fun i _ _ _ _ _ _ => N - (intOf i).toNat)
  case atStart => exact ⟨0, _, by omega, rfl, HT.out⟩
  case round =>
    clear HT
    obtain ⟨k, s, hk, rfl, ht⟩ := hrel
    have HT := Lib.hid ht
    clear ht
    by_cases hlt : k < N
    · have hl3 : k < L.length := by omega
      have hl3i : (k : Int) < L.length := by omega
      have hl4 : (k : Int) < 50 := by omega
      obtain ⟨ad, rfl⟩ := H.out.addr (by omega)
      obtain ⟨⟨e0, e1, e2, e3, e4, e5⟩, ilb, inn⟩ := act27_cells (H.out.below HT.out.bel) hl3
      generalize fI L k 0 = kd at *
      generalize fI L k 1 = sl at *
      generalize fI L k 2 = lb at *
      generalize fI L k 3 = nn at *
      generalize fI L k 4 = tg at *
      generalize fB L k 5 = su at *
      have HT2 := Lib.hid (HT.out.act #[.int .i64 kd, .int .i64 sl, .int .i64 lb, .int .i64 nn, .int .u64 tg, .bool su])
      have ILB := Lib.hid ilb
      have INN := Lib.hid inn
      clear HT ilb inn
      go_upto_block 2 with (fail)
      clear e0 e1 e2 e3 e4 e5
      generalize wr.alloc (.cells #[.int .i64 kd, .int .i64 sl, .int .i64 lb, .int .i64 nn, .int .u64 tg, .bool su] 29) = w3 at *
      generalize wr.heap.size = g at *
      have FAR := Lib.hid HT2.out.p.far
      have LEN := Lib.hid HT2.out.p.le
      have NO := Lib.hid HT2.out.p.no
      go_cut [14, 15, 16, 17] (fun ok is _ _ wx => ∃ b s', ok = .bool b ∧ is = .bool b ∧ Two27 w C x gl gw q gr n m g #[.int .i64 kd, .int .i64 sl, .int .i64 lb, .int .i64 nn, .int .u64 tg, .bool su] wx s' s')
      case first =>
        by_cases k0 : kd = 0
        · subst k0
          have PP := Lib.hid (fun (W : World) (sr : Nat → One27) (h : Two27 w C x gl gw q gr n m g #[.int .i64 0, .int .i64 sl, .int .i64 lb, .int .i64 nn, .int .u64 tg, .bool su] W s sr) => (putQ h.p (by omega) (by omega) sl lb tg su).mono (R' := fun e w' => e = .returned (.bool (inZ m sl && inZ n lb)) ∧ Two27 w C x gl gw q gr n m g #[.int .i64 0, .int .i64 sl, .int .i64 lb, .int .i64 nn, .int .u64 tg, .bool su] w' (putZ n m s sl lb tg su) sr) (by rintro e w' ⟨h1, h2, h3⟩; exact ⟨h1, h.stepP h2 h3⟩))
          have RR := Lib.hid (fun (W : World) (sp : Nat → One27) (h : Two27 w C x gl gw q gr n m g #[.int .i64 0, .int .i64 sl, .int .i64 lb, .int .i64 nn, .int .u64 tg, .bool su] W sp s) => (rputQ h.r FAR.out (by omega) (by omega) sl lb tg su).mono (R' := fun e w' => e = .returned (.bool (inZ m sl && inZ n lb)) ∧ Two27 w C x gl gw q gr n m g #[.int .i64 0, .int .i64 sl, .int .i64 lb, .int .i64 nn, .int .u64 tg, .bool su] w' sp (putZ n m s sl lb tg su)) (by rintro e w' ⟨h1, h2, h3⟩; exact ⟨h1, h.stepR h2 h3⟩))
          generalize (inZ m sl && inZ n lb) = bz at *
          go_upto_region 13 with (fail)
          go_region_held (fun w' => w'.cell? ⟨g, 1, none⟩ = some (.int .i64 sl) ∧ w'.cell? ⟨g, 2, none⟩ = some (.int .i64 lb) ∧ w'.cell? ⟨g, 4, none⟩ = some (.int .u64 tg) ∧ w'.cell? ⟨g, 5, none⟩ = some (.bool su))
            (exact act27_S (Two27.act (by repeat (first | with_reducible exact HT2.out | with_reducible apply Two27.drewN | with_reducible apply Two27.drew))))
            (first
              | (go_at_call 9; (with_reducible refine (PP.out _ _ (by repeat (first | with_reducible exact HT2.out | with_reducible apply Two27.drewN | with_reducible apply Two27.drew))).mono ?_); rintro e w4 ⟨rfl, h4⟩; have HT2 := Lib.hid h4; clear h4)
              | (go_at_call 20; (with_reducible refine (RR.out _ _ (by repeat (first | with_reducible exact HT2.out | with_reducible apply Two27.drewN | with_reducible apply Two27.drew))).mono ?_); rintro e w4 ⟨rfl, h4⟩; have HT2 := Lib.hid h4; clear h4))
          all_goals go_wp2
          all_goals go_meet
          all_goals exact ⟨_, _, rfl, rfl, HT2.out⟩
        · have k0b : (kd == 0) = false := beq_eq_false_iff_ne.2 k0
          by_cases k1 : kd = 1
          · subst k1
            have DC := Lib.hid ((dropQ HT2.out.p (by omega) (by omega) sl).mono (R' := fun e w' => e = .returned (.tuple #[.int .i64 (dropN m s sl), .bool (hasZ m s sl)]) ∧ Two27 w C x gl gw q gr n m g #[.int .i64 1, .int .i64 sl, .int .i64 lb, .int .i64 nn, .int .u64 tg, .bool su] w' (dropZ m s sl) s) (by rintro e w' ⟨h1, h2, h3⟩; exact ⟨h1, HT2.out.stepP h2 h3⟩))
            have d0 := HT2.out.act.cell 0
            have d1 := HT2.out.act.cell 1
            cases hh : hasZ m s sl with
            | true =>
              have hh2 := hh
              unfold hasZ at hh2
              rw [Bool.and_eq_true] at hh2
              obtain ⟨i, ri, hi⟩ := inZ_true hh2.1
              have eD : dropZ m s sl = updO s i o27 := by unfold dropZ; rw [if_pos hh2.1, ri, Int.toNat_natCast]
              have eN : dropN m s sl = (((s i).lba - 1 : Nat) : Int) := by unfold dropN; rw [if_pos hh, ri, Int.toNat_natCast]
              have hhi := hh
              rw [hh, eD, eN] at DC
              subst ri
              have EQ := Lib.hid hhi
              have hii : (i : Int) < m := by omega
              clear hh2 eD eN hh hhi
              go_upto_region 16 with (first
                | (go_at_call 8; (with_reducible refine (DC.out).mono ?_); rintro e w4 ⟨rfl, h4⟩; have HT4 := Lib.hid h4; clear h4))
              have RH := Lib.hid (rhas_calls HT4.out.r (i : Int))
              rw [EQ.out] at RH
              have d1 := HT4.out.act.cell 1
              obtain ⟨f0, f1, f2, f3⟩ := HT4.out.r.cl hi
              have c1 := HT4.out.r.cx.2
              have qd : ((((s i).lba - 1 : Nat) : Int) != (((s i).lba - 1 : Nat) : Int)) = false := bne_self_eq_false _
              generalize (((s i).lba - 1 : Nat) : Int) = dl at *
              clear d0
              go_upto_region 17 with (first
                | (go_at_call 21; (with_reducible refine (RH.out).mono ?_); rintro e w5 ⟨rfl, rfl⟩))
              clear f0
              go_quiet (fail)
              go_upto_region 20 with (fail)
              have HT5 := Lib.hid (HT4.out.drewN nq)
              clear d1 c1 f1 f2 f3
              generalize w4.drewN nq = w5 at *
              have d1 := HT5.out.act.cell 1
              have c1 := HT5.out.r.cx.2
              obtain ⟨f0, f1, f2, f3⟩ := HT5.out.r.cl hi
              have z0 := HT5.out.r.fz (i * 4)
              have z1 := HT5.out.r.fz (i * 4 + 1)
              have z2 := HT5.out.r.fz (i * 4 + 2)
              have z3 := HT5.out.r.fz (i * 4 + 3)
              have HT6 := Lib.hid (show Two27 w C x gl gw q gr n m g #[.int .i64 1, .int .i64 i, .int .i64 lb, .int .i64 nn, .int .u64 tg, .bool su] (((((w5.setCell ⟨gr, i * 4, none⟩ (.bool false)).setCell ⟨gr, i * 4 + 1, none⟩ (.bool false)).setCell ⟨gr, i * 4 + 2, none⟩ (.int .i64 0)).setCell ⟨gr, i * 4 + 3, none⟩ (.int .u64 0)).drew) (updO s i o27) (updO s i o27) from
                (HT5.out.stepR (HT5.out.r.setL i o27) (((((TchS.refl (MineR gr) w5).set_ (p := ⟨gr, i * 4, none⟩) rfl _).set_ (p := ⟨gr, i * 4 + 1, none⟩) rfl _).set_ (p := ⟨gr, i * 4 + 2, none⟩) rfl _).set_ (p := ⟨gr, i * 4 + 3, none⟩) rfl _)).drew)
              go_region
              go_wp2
              go_meet
              exact ⟨_, _, rfl, rfl, HT6.out⟩
            | false =>
              have eN : dropN m s sl = 0 := by unfold dropN; rw [if_neg (by rw [hh]; simp)]
              have eD : dropZ m s sl = s := by
                unfold dropZ
                by_cases hin : inZ m sl = true
                · rw [if_pos hin]
                  unfold hasZ at hh
                  rw [hin] at hh
                  have h0 : (s sl.toNat).lba = 0 := by simpa using hh
                  exact updO_self (NO.out _ h0)
                · rw [if_neg hin]
              have EQ := Lib.hid hh
              rw [hh, eD, eN] at DC
              clear eD eN hh
              go_upto_region 16 with (first
                | (go_at_call 8; (with_reducible refine (DC.out).mono ?_); rintro e w4 ⟨rfl, h4⟩; have HT4 := Lib.hid h4; clear h4))
              have RH := Lib.hid (rhas_calls HT4.out.r sl)
              rw [EQ.out] at RH
              have d1 := HT4.out.act.cell 1
              clear d0
              go_upto_region 17 with (first
                | (go_at_call 21; (with_reducible refine (RH.out).mono ?_); rintro e w5 ⟨rfl, rfl⟩))
              go_quiet (fail)
              go_wp2
              go_meet
              exact ⟨_, _, rfl, rfl, HT4.out.drewN _⟩
          · have k1b : (kd == 1) = false := beq_eq_false_iff_ne.2 k1
            by_cases k2 : kd = 2
            · subst k2
              have SS := Lib.hid (fun (W : World) (sr : Nat → One27) (h : Two27 w C x gl gw q gr n m g #[.int .i64 2, .int .i64 sl, .int .i64 lb, .int .i64 nn, .int .u64 tg, .bool su] W s sr) => (sureQ h.p (by omega) sl tg).mono (R' := fun e w' => e = .returned (.bool (hasZ m s sl)) ∧ Two27 w C x gl gw q gr n m g #[.int .i64 2, .int .i64 sl, .int .i64 lb, .int .i64 nn, .int .u64 tg, .bool su] w' (sureZ m s sl tg) sr) (by rintro e w' ⟨h1, h2, h3⟩; exact ⟨h1, h.stepP h2 h3⟩))
              have RH := Lib.hid (fun (W : World) (sp : Nat → One27) (h : Two27 w C x gl gw q gr n m g #[.int .i64 2, .int .i64 sl, .int .i64 lb, .int .i64 nn, .int .u64 tg, .bool su] W sp s) => rhas_calls h.r sl)
              have d0 := HT2.out.act.cell 0
              cases hh : hasZ m s sl with
              | true =>
                have hh2 := hh
                unfold hasZ at hh2
                rw [Bool.and_eq_true] at hh2
                obtain ⟨i, ri, hi⟩ := inZ_true hh2.1
                have eD : sureZ m s sl tg = updO s i ⟨(s i).lba, tg, true⟩ := by unfold sureZ; rw [if_pos hh, ri, Int.toNat_natCast]
                simp only [hh, eD] at SS RH
                subst ri
                have hii : (i : Int) < m := by omega
                clear hh2 eD hh
                go_upto_region 22 with (fail)
                clear d0
                go_region_held (fun w' => w'.cell? ⟨g, 1, none⟩ = some (.int .i64 i) ∧ w'.cell? ⟨g, 2, none⟩ = some (.int .i64 lb) ∧ w'.cell? ⟨g, 4, none⟩ = some (.int .u64 tg) ∧ w'.cell? ⟨g, 5, none⟩ = some (.bool su))
                  (exact act27_S (Two27.act (by repeat (first | with_reducible exact HT2.out | with_reducible apply Two27.drewN | with_reducible apply Two27.drew))))
                  (first
                    | (go_at_call 22; (with_reducible refine (SS.out _ _ (by repeat (first | with_reducible exact HT2.out | with_reducible apply Two27.drewN | with_reducible apply Two27.drew))).mono ?_); rintro e w4 ⟨rfl, h4⟩; have HT2 := Lib.hid h4; clear h4)
                    | (go_at_call 21; (with_reducible refine (RH.out _ _ (by repeat (first | with_reducible exact HT2.out | with_reducible apply Two27.drewN | with_reducible apply Two27.drew))).mono ?_); rintro e w4 ⟨rfl, rfl⟩))
                all_goals (
                  go_upto_region 24 with (fail)
                  have A := Lib.hid HT2.out.act
                  have R := Lib.hid HT2.out.r
                  have d1 := A.out.cell 1
                  have d4 := A.out.cell 4
                  have c1 := R.out.cx.2
                  obtain ⟨f0, f1, f2, f3⟩ := R.out.cl hi
                  have z1 := R.out.fz (i * 4 + 1)
                  have HT6 := Lib.hid ((HT2.out.stepR (R.out.set2 i tg) (((TchS.refl (MineR gr) w4).set_ (p := ⟨gr, i * 4 + 1, none⟩) rfl (.bool true)).set_ (p := ⟨gr, i * 4 + 3, none⟩) rfl (.int .u64 tg))).drew.drew)
                  have A2 := Lib.hid (Blk.drew (A.out.far (p := ⟨gr, i * 4 + 1, none⟩) (fun e => (R.out.kl.ne_ A.out (by decide)) e.symm) (.bool true)))
                  have X2 := Lib.hid (Blk.drew (R.out.kx.far (p := ⟨gr, i * 4 + 1, none⟩) R.out.ne (.bool true)))
                  have L2 := Lib.hid (Blk.drew (R.out.kl.set_ (i * 4 + 1) (.bool true)))
                  have V3 := Lib.hid (show ∃ v, (w4.setCell ⟨gr, i * 4 + 1, none⟩ (.bool true)).drew.cell? ⟨gr, i * 4 + 3, none⟩ = some v from by
                    have h := L2.out
                    rw [valsV_upd] at h
                    exact ⟨_, (h.cell (i * 4 + 3)).trans (valsV_get _ (by omega))⟩)
                  go_region
                  clear d1 d4 c1 f0 f1 f2 f3 z1
                  go_upto_region 25 with (fail)
                  have d1 := A2.out.cell 1
                  have d4 := A2.out.cell 4
                  have c1 := X2.out.cell 1
                  have z3 := L2.out.frozen (i * 4 + 3)
                  obtain ⟨v3, f3⟩ := V3.out
                  generalize hw6 : (w4.setCell ⟨gr, i * 4 + 1, none⟩ (.bool true)).drew = w6 at *
                  have HT7 := Lib.hid (show Two27 w C x gl gw q gr n m g #[.int .i64 2, .int .i64 i, .int .i64 lb, .int .i64 nn, .int .u64 tg, .bool su] ((w6.setCell ⟨gr, i * 4 + 3, none⟩ (.int .u64 tg)).drew) (updO s i ⟨(s i).lba, tg, true⟩) (updO s i ⟨(s i).lba, tg, true⟩) from by rw [← hw6]; exact HT6.out)
                  clear hw6 HT6 A2 X2 L2 V3 A R
                  go_region
                  go_wp2
                  go_meet
                  exact ⟨_, _, rfl, rfl, HT7.out⟩)
              | false =>
                have eD : sureZ m s sl tg = s := by unfold sureZ; rw [if_neg (by rw [hh]; simp)]
                simp only [hh, eD] at SS RH
                clear eD hh
                go_upto_region 22 with (fail)
                clear d0
                go_region_held (fun w' => w'.cell? ⟨g, 1, none⟩ = some (.int .i64 sl) ∧ w'.cell? ⟨g, 2, none⟩ = some (.int .i64 lb) ∧ w'.cell? ⟨g, 4, none⟩ = some (.int .u64 tg) ∧ w'.cell? ⟨g, 5, none⟩ = some (.bool su))
                  (exact act27_S (Two27.act (by repeat (first | with_reducible exact HT2.out | with_reducible apply Two27.drewN | with_reducible apply Two27.drew))))
                  (first
                    | (go_at_call 22; (with_reducible refine (SS.out _ _ (by repeat (first | with_reducible exact HT2.out | with_reducible apply Two27.drewN | with_reducible apply Two27.drew))).mono ?_); rintro e w4 ⟨rfl, h4⟩; have HT2 := Lib.hid h4; clear h4)
                    | (go_at_call 21; (with_reducible refine (RH.out _ _ (by repeat (first | with_reducible exact HT2.out | with_reducible apply Two27.drewN | with_reducible apply Two27.drew))).mono ?_); rintro e w4 ⟨rfl, rfl⟩))
                all_goals go_wp2
                all_goals go_meet
                all_goals exact ⟨_, _, rfl, rfl, (by repeat (first | with_reducible exact HT2.out | with_reducible apply Two27.drewN | with_reducible apply Two27.drew))⟩
            · have k2b : (kd == 2) = false := beq_eq_false_iff_ne.2 k2
              have d0 := HT2.out.act.cell 0
              go_wp2
              go_meet
              exact ⟨true, s, rfl, rfl, HT2.out⟩
      case rest =>
        obtain ⟨b, s', rfl, rfl, ht⟩ := hcut
        have HT3 := Lib.hid ht
        have A := Lib.hid ht.act
        have d0 := ht.act.cell 0
        have d1 := ht.act.cell 1
        have d2 := ht.act.cell 2
        have d3 := ht.act.cell 3
        have d4 := ht.act.cell 4
        have d5 := ht.act.cell 5
        have hbb : (b != b) = false := bne_self_eq_false b
        have SM := Lib.hid (same27_calls ht.p ht.r ht.p.far (by omega) (by omega) kd sl lb nn tg su ILB.out INN.out)
        clear ht HT2 FAR LEN NO
        go_wp2_with (first
          | (go_at_call 23; (with_reducible refine (SM.out).mono ?_); rintro e w5 ⟨rfl, hb⟩; have HB5 := Lib.hid hb; clear hb))
        exact ⟨⟨k + 1, s', by omega, by go_num, HT3.out.six.below HB5.out⟩, by simp [intOf]; omega⟩
    · obtain rfl : k = N := by omega
      have hq : (¬ (k : Int) < L.length) ∨ (k : Int) < L.length ∧ ¬ (k : Int) < 50 := by have := HN.out; omega
      have AWC := Lib.hid awake27_calls
      clear H HN hc hN1 hlt hk hN2
      rcases hq with hq | ⟨hq2, hq⟩
      all_goals (
        go_wp2_with (first
          | (go_at_call 14; (with_reducible refine (AWC.out _).mono ?_); rintro e w5 ⟨rfl, hb⟩; have HB5 := Lib.hid hb; clear hb))
        go_ret
        exact ⟨rfl, (HT.out.below HB5.out).bel⟩)
end Go.Proofs.Ytejhoobecladiaa.Ct
