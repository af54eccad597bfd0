import Derived.Test.YtejhoobecladiaaPlaS
import Derived.Deep.CutBlock
/-! Chapter 27: is all told as by a row? -/
namespace Go.Proofs.Ytejhoobecladiaa.Ct
open Go.RowKit
set_option linter.unusedVariables false
set_option linter.unusedSimpArgs false
theorem occ_cnt (s : Nat → One27) : ∀ k, (occ s 0 k).length = cnt27 s k
  | 0 => rfl
  | k + 1 => by
    have := occ_cnt s k
    unfold occ cnt27
    rw [List.length_append, this, Nat.zero_add]
    split <;> rfl
theorem below_drewN' {g : Nat} {w W : World} (h : Below g w W) (n : Nat) : Below g w (W.drewN n) := ⟨h.os, h.tape, h.output, h.size, h.block⟩
section
variable {base bR x gl gw q gr n m : Nat} {w : World} {s : Nat → One27}
theorem atX (h : LQ base w x gl gw n m s) (hn : n ≤ 100000) (l : Int) :
    Calls Try.prog 11 #[.pointer (some ⟨x, 0, none⟩), .int .i64 l] w fun e w' => (∃ (a b t : Int) (u : Bool), e = .returned (.tuple #[.agg #[.int .i64 a, .int .i64 b, .int .u64 t], .bool u, .bool (hasZ m s l)]) ∧
      (hasZ m s l = true → a = l ∧ b = (((s l.toNat).lba - 1 : Nat) : Int) ∧ t = (s l.toNat).tag ∧ u = (s l.toNat).sure) ∧ (hasZ m s l = false → a = 0 ∧ b = 0 ∧ t = 0 ∧ u = false)) ∧ Below w.heap.size w w' := by
  refine (atQ h hn l).mono ?_
  rintro e w' ⟨rfl, hb⟩
  refine ⟨?_, hb⟩
  cases hh : hasZ m s l with
  | true =>
    have e : atZ m s l = tup27 l (((s l.toNat).lba - 1 : Nat) : Int) (s l.toNat).tag (s l.toNat).sure true := if_pos hh
    rw [e]
    exact ⟨_, _, _, _, rfl, fun _ => ⟨rfl, rfl, rfl, rfl⟩, (fun h => by cases h)⟩
  | false =>
    have e : atZ m s l = tup27 0 0 0 false false := if_neg (by rw [hh]; simp)
    rw [e]
    exact ⟨_, _, _, _, rfl, (fun h => by cases h), fun _ => ⟨rfl, rfl, rfl, rfl⟩⟩
set_option maxRecDepth 100000 in
set_option maxHeartbeats 16000000 in
theorem same27_calls (h : LQ base w x gl gw n m s) (k : RS bR w q gr n m s) (h0 : ∀ j, m ≤ j → (s j).lba = 0) (hn : n ≤ 29) (hm : m ≤ 13) (kd sl lb nn tg : Int) (su : Bool) (hlb : I64 lb) (hnn : I64 nn) :
    Calls Try.prog 23 #[.pointer (some ⟨x, 0, none⟩), .pointer (some ⟨q, 0, none⟩), .agg #[.int .i64 kd, .int .i64 sl, .int .i64 lb, .int .i64 nn, .int .u64 tg, .bool su]] w fun e w' => e = .returned (.bool true) ∧ Below w.heap.size w w' := by
  have hle := h.le
  have HKA := Lib.hid (Blk.new w 29 #[.int .i64 kd, .int .i64 sl, .int .i64 lb, .int .i64 nn, .int .u64 tg, .bool su])
  have HB0 := Lib.hid (below_alloc (Below.refl w.heap.size w) (.cells #[.int .i64 kd, .int .i64 sl, .int .i64 lb, .int .i64 nn, .int .u64 tg, .bool su] 29))
  have HL := Lib.hid (fun W (hb : Below w.heap.size w W) => h.below hb)
  have HR := Lib.hid (fun W (hb : Below w.heap.size w W) => k.below hb)
  have HLE := Lib.hid hle
  have H0 := Lib.hid h0
  clear h k hle h0
  go_enter Try.func23, Try.ntmps23
  go_upto_region 1 with (fail)
  generalize hw1 : w.alloc (.cells #[.int .i64 kd, .int .i64 sl, .int .i64 lb, .int .i64 nn, .int .u64 tg, .bool su] 29) = w1 at *
  have HSZ := Lib.hid (show w1.heap.size = w.heap.size + 1 by rw [← hw1]; simp)
  generalize hga : w.heap.size = ga at *
  have OC := Lib.hid (ofQ (HL.out _ HB0.out) (by omega) lb)
  have RO := Lib.hid (rof_calls (HR.out _ HB0.out) (fun j _ => HLE.out j) (by omega) (by omega) lb)
  have AC := Lib.hid (atX (HL.out _ HB0.out) (by omega) sl)
  have RH := Lib.hid (fun W (hb : Below ga w W) => rhas_calls (HR.out W hb) sl)
  have d1 := HKA.out.cell 1
  have d2 := HKA.out.cell 2
  have d3 := HKA.out.cell 3
  clear hw1
  have hz13 : ofZ n m s lb ≤ 13 := by
    unfold ofZ
    split
    · have := seek27_le s lb.toNat m; omega
    · omega
  generalize ofZ n m s lb = z at *
  obtain ⟨so, ok, ro, e1, e2, e3, ZF⟩ : ∃ (so : Int) (ok : Bool) (ro : Int), ((z - 1 : Nat) : Int) = so ∧ decide (z ≠ 0) = ok ∧ (z : Int) - 1 = ro ∧ ((ok = true ∧ so = ro ∧ 0 ≤ ro) ∨ (ok = false ∧ so = 0 ∧ ro = -1)) := by
    refine ⟨_, _, _, rfl, rfl, rfl, ?_⟩
    by_cases hz : z = 0
    · subst hz; exact .inr ⟨rfl, rfl, rfl⟩
    · exact .inl ⟨by simp [hz], by omega, by omega⟩
  rw [e1, e2] at OC
  rw [e3] at RO
  have ZF := Lib.hid ZF
  obtain ⟨hs, hhs⟩ : ∃ hs, hasZ m s sl = hs := ⟨_, rfl⟩
  rw [hhs] at AC
  simp only [hhs] at RH
  have HHS := Lib.hid hhs
  clear e1 e2 e3 hz13 hhs
  go_upto_region 4 with (first
    | (go_at_call 10; (with_reducible refine (OC.out).mono ?_); rintro e w2 ⟨rfl, rfl⟩)
    | (go_at_call 31; (with_reducible refine (RO.out).mono ?_); rintro e w2 ⟨rfl, rfl⟩)
    | (go_at_call 11; (with_reducible refine (AC.out).mono ?_); rintro e w2 ⟨⟨a, b, t, u, rfl, hat, haf⟩, hb⟩; have HB2 := Lib.hid hb; have HAT := Lib.hid hat; have HAF := Lib.hid haf; clear hb hat haf))
  have KE := Lib.hid (Blk.new w2 34 #[.int .i64 a, .int .i64 b, .int .u64 t])
  have HB3 := Lib.hid (show Below ga w (w2.alloc (.cells #[.int .i64 a, .int .i64 b, .int .u64 t] 34)) from by
    have := (Below.trans HB0.out (HB2.out.mono (by have := HSZ.out; omega) : Below ga w1 w2))
    exact this.alloc (by have := this.size; omega) _)
  have HKA := Lib.hid (HKA.out.below (below_alloc HB2.out (.cells #[.int .i64 a, .int .i64 b, .int .u64 t] 34)))
  generalize w2.alloc (.cells #[.int .i64 a, .int .i64 b, .int .u64 t] 34) = w3 at *
  generalize w2.heap.size = ge at *
  clear OC RO AC HB2 d1 d2 d3 HB0 HSZ
  have d1 := HKA.out.cell 1
  have d2 := HKA.out.cell 2
  have d3 := HKA.out.cell 3
  have k0 := KE.out.cell 0
  have k1 := KE.out.cell 1
  have k2 := KE.out.cell 2
  have RHC := Lib.hid (RH.out w3 HB3.out)
  go_cut [60] (fun c wx => c = .bool false ∧ wx = w3)
  case first =>
    have hd : ∀ b : Bool, (b != b) = false := fun b => bne_self_eq_false b
    rcases ZF.out with ⟨rfl, rfl, h1⟩ | ⟨rfl, rfl, rfl⟩
    · go_wp2_with (first | (go_at_call 21; (with_reducible refine (RHC.out).mono ?_); rintro e w4 ⟨rfl, rfl⟩))
      go_meet
      exact ⟨by simp, rfl⟩
    · go_wp2_with (first | (go_at_call 21; (with_reducible refine (RHC.out).mono ?_); rintro e w4 ⟨rfl, rfl⟩))
      go_meet
      exact ⟨by simp, rfl⟩
  case rest =>
  obtain ⟨rfl, rfl⟩ := hcut
  clear RHC
  go_wp2
  go_upto_region 6 with (fail)
  go_cut [111] (fun c wx => c = .bool false ∧ ∃ j, wx = wc.drewN j)
  case first =>
    have hd : ∀ b : Bool, (b != b) = false := fun b => bne_self_eq_false b
    have RSC := Lib.hid (HR.out wc HB3.out)
    cases hs with
    | true =>
      obtain ⟨ra, rb, rt, ru⟩ := HAT.out rfl
      have hh := HHS.out
      unfold hasZ at hh
      rw [Bool.and_eq_true] at hh
      obtain ⟨i, ri, hi⟩ := inZ_true hh.1
      obtain ⟨f0, f1, f2, f3⟩ := RSC.out.cl hi
      have c1 := RSC.out.cx.2
      rw [ri] at ra rb rt ru
      rw [Int.toNat_natCast] at rb rt ru
      have hii : (i : Int) < m := by omega
      rw [← rb] at f2
      rw [← rt] at f3
      rw [← ru] at f1
      subst ra
      subst ri
      clear RH HAT HAF HHS hh rb rt ru f0 HLE H0 HL HR RSC
      go_quiet (fail)
      go_wp2
      go_meet
      exact ⟨by simp, _, rfl⟩
    | false =>
      obtain ⟨rfl, rfl, rfl, rfl⟩ := HAF.out rfl
      clear RH HAT HAF HHS HLE H0 HL HR RSC
      go_quiet (fail)
      go_wp2
      go_meet
      exact ⟨by simp, _, rfl⟩
  case rest =>
  obtain ⟨rfl, j, rfl⟩ := hcut
  have HBW := Lib.hid (below_drewN' HB3.out j)
  have HKA := Lib.hid (HKA.out.drewN j)
  generalize wc.drewN j = w5 at *
  clear d1 d2 d3 k0 k1 k2 KE ZF HAT HAF HHS RH HB3
  have hlen : (occ s 0 m).length = cnt27 s m := occ_cnt s m
  have c1 := (HR.out _ HBW.out).cx.2
  have RWC := Lib.hid (rrowsQ (HR.out _ HBW.out) (fun j _ => HLE.out j) (by omega) (by omega) 0 m (by omega) (by omega))
  rw [show min m (m - 0) = m by omega] at RWC
  have RWC := Lib.hid (show Calls Try.prog 32 #[.pointer (some ⟨q, 0, none⟩), .int .i64 0, .int .i64 m] w5 fun e w' => ∃ v, e = .returned v ∧ EntR w' w5.heap.size v s (occ s 0 m) ∧ Below w5.heap.size w5 w' from RWC.out)
  go_upto_region 9 with (first
    | (go_at_call 32; (with_reducible refine (RWC.out).mono ?_); rintro e w6 ⟨v6, rfl, hr, hb⟩; have EH := Lib.hid hr; have HB6 := Lib.hid hb; clear hr hb))
  have HB7 := Lib.hid (show Below ga w w6 from Below.trans HBW.out (HB6.out.mono (hga ▸ HBW.out.size)))
  have hg6 : ga ≤ w6.heap.size := hga ▸ HB7.out.size
  have HLW := Lib.hid (fun W (hb : Below w6.heap.size w6 W) => HL.out W (Below.trans HB7.out (hb.mono hg6)))
  have HRW := Lib.hid (fun W (hb : Below w6.heap.size w6 W) => HR.out W (Below.trans HB7.out (hb.mono hg6)))
  have hw1 : witZ m s lb nn = witK s lb (sat (lb + max nn 0)) m := witZ_eq (by omega) s lb nn
  have hr1 : rowN m s 0 192 = occ s 0 m := by
    unfold rowN
    have e1 : spanA 0 = 0 := rfl
    have e2 : spanK m 0 192 = m := by unfold spanK; omega
    rw [e1, e2]
  have FA := Lib.hid (fun W hb => freeQ (HLW.out W hb) (by omega) (by omega) nn)
  have FB := Lib.hid (fun W hb => rfreeQ (HRW.out W hb) (by omega) nn)
  have WA := Lib.hid (fun W hb => hw1 ▸ withinQ (HLW.out W hb) (by omega) (by omega) lb nn hlb hnn)
  have WB := Lib.hid (fun W hb => rwithinQ (HRW.out W hb) (fun j _ => HLE.out j) (by omega) (by omega) lb nn hlb hnn)
  have LA := Lib.hid (fun W hb => leafQ (HLW.out W hb) (by omega) (by omega) nn)
  have LB := Lib.hid (fun W hb => rleafQ (HRW.out W hb) (fun j _ => HLE.out j) H0.out (by omega) (by omega) nn hnn)
  have AA := Lib.hid (fun W hb => hr1 ▸ allQ (HLW.out W hb) (by omega) (by omega))
  have LEN := Lib.hid (fun W hb => hlen ▸ plenQ (HLW.out W hb))
  have SD := Lib.hid (fun (W : World) (hb : Below w6.heap.size w6 W) => (show W.cell? ⟨ga, 2, none⟩ = some (.int .i64 lb) ∧ W.cell? ⟨ga, 3, none⟩ = some (.int .i64 nn) from ⟨bget hb ((HKA.out.below HB6.out).cell 2), bget hb ((HKA.out.below HB6.out).cell 3)⟩))
  have HB := Lib.hid (Below.refl w6.heap.size w6)
  obtain ⟨a6, c6, rfl, l6, l7, -⟩ := EH.out.form
  clear hlb hnn HL HR HLE H0 HLW HRW hw1 hr1 RWC HB6 hlen c1 HKA ZF
  generalize casts (witK s lb (sat (lb + max nn 0)) m) = LW at *
  generalize freeZ m s nn = LF at *
  generalize leafN m s nn = LL at *
  generalize occ s 0 m = LO at *
  generalize LO.length = LN at *
  have qn : ((LN : Int) == LN) = true := beq_self_eq_true _
  go_region_held (fun w' => w'.cell? ⟨ga, 2, none⟩ = some (.int .i64 lb) ∧ w'.cell? ⟨ga, 3, none⟩ = some (.int .i64 nn))
    (exact SD.out _ (by repeat (first | with_reducible exact HB.out | with_reducible apply below_drewN | with_reducible apply below_drew | with_reducible apply below_alloc)))
    (first
      | (go_at_call 13; (with_reducible refine (FA.out _ (by repeat (first | with_reducible exact HB.out | with_reducible apply below_drewN | with_reducible apply below_drew | with_reducible apply below_alloc))).mono ?_); rintro e w7 ⟨vA, rfl, hr6, hb6⟩; (try have OB := Lib.hid (Own.below OB.out hb6)); (try have OC := Lib.hid (Own.below OC.out hb6)); (try have OD := Lib.hid (Own.below OD.out hb6)); (try have EA := Lib.hid (EntR.below EA.out hb6)); (try have EB := Lib.hid (EntR.below EB.out hb6)); (try have EC := Lib.hid (EntR.below EC.out hb6)); (first | have EH := Lib.hid (EntR.below EH.out hb6) | have EH := Lib.hid (EntR.below (EntR.drew EH.out) hb6) | have EH := Lib.hid (EntR.below (EntR.drewN EH.out _) hb6)); have OA := Lib.hid hr6; have HB := Lib.hid (below_step (by repeat (first | with_reducible exact HB.out | with_reducible apply below_drewN | with_reducible apply below_drew | with_reducible apply below_alloc)) hb6); clear hr6 hb6)
      | (go_at_call 33; (with_reducible refine (FB.out _ (by repeat (first | with_reducible exact HB.out | with_reducible apply below_drewN | with_reducible apply below_drew | with_reducible apply below_alloc))).mono ?_); rintro e w7 ⟨vB, rfl, hr6, hb6⟩; (try have OA := Lib.hid (Own.below OA.out hb6)); (try have OC := Lib.hid (Own.below OC.out hb6)); (try have OD := Lib.hid (Own.below OD.out hb6)); (try have EA := Lib.hid (EntR.below EA.out hb6)); (try have EB := Lib.hid (EntR.below EB.out hb6)); (try have EC := Lib.hid (EntR.below EC.out hb6)); (first | have EH := Lib.hid (EntR.below EH.out hb6) | have EH := Lib.hid (EntR.below (EntR.drew EH.out) hb6) | have EH := Lib.hid (EntR.below (EntR.drewN EH.out _) hb6)); have OB := Lib.hid hr6; have HB := Lib.hid (below_step (by repeat (first | with_reducible exact HB.out | with_reducible apply below_drewN | with_reducible apply below_drew | with_reducible apply below_alloc)) hb6); clear hr6 hb6)
      | (go_at_call 18; (with_reducible refine (WA.out _ (by repeat (first | with_reducible exact HB.out | with_reducible apply below_drewN | with_reducible apply below_drew | with_reducible apply below_alloc))).mono ?_); rintro e w7 ⟨vC, rfl, hr6, hb6⟩; (try have OA := Lib.hid (Own.below OA.out hb6)); (try have OB := Lib.hid (Own.below OB.out hb6)); (try have OD := Lib.hid (Own.below OD.out hb6)); (try have EA := Lib.hid (EntR.below EA.out hb6)); (try have EB := Lib.hid (EntR.below EB.out hb6)); (try have EC := Lib.hid (EntR.below EC.out hb6)); (first | have EH := Lib.hid (EntR.below EH.out hb6) | have EH := Lib.hid (EntR.below (EntR.drew EH.out) hb6) | have EH := Lib.hid (EntR.below (EntR.drewN EH.out _) hb6)); have OC := Lib.hid hr6; have HB := Lib.hid (below_step (by repeat (first | with_reducible exact HB.out | with_reducible apply below_drewN | with_reducible apply below_drew | with_reducible apply below_alloc)) hb6); clear hr6 hb6)
      | (go_at_call 34; (with_reducible refine (WB.out _ (by repeat (first | with_reducible exact HB.out | with_reducible apply below_drewN | with_reducible apply below_drew | with_reducible apply below_alloc))).mono ?_); rintro e w7 ⟨vD, rfl, hr6, hb6⟩; (try have OA := Lib.hid (Own.below OA.out hb6)); (try have OB := Lib.hid (Own.below OB.out hb6)); (try have OC := Lib.hid (Own.below OC.out hb6)); (try have EA := Lib.hid (EntR.below EA.out hb6)); (try have EB := Lib.hid (EntR.below EB.out hb6)); (try have EC := Lib.hid (EntR.below EC.out hb6)); (first | have EH := Lib.hid (EntR.below EH.out hb6) | have EH := Lib.hid (EntR.below (EntR.drew EH.out) hb6) | have EH := Lib.hid (EntR.below (EntR.drewN EH.out _) hb6)); have OD := Lib.hid hr6; have HB := Lib.hid (below_step (by repeat (first | with_reducible exact HB.out | with_reducible apply below_drewN | with_reducible apply below_drew | with_reducible apply below_alloc)) hb6); clear hr6 hb6)
      | (go_at_call 15; (with_reducible refine (LA.out _ (by repeat (first | with_reducible exact HB.out | with_reducible apply below_drewN | with_reducible apply below_drew | with_reducible apply below_alloc))).mono ?_); rintro e w7 ⟨vE, rfl, hr6, hb6⟩; (try have OA := Lib.hid (Own.below OA.out hb6)); (try have OB := Lib.hid (Own.below OB.out hb6)); (try have OC := Lib.hid (Own.below OC.out hb6)); (try have OD := Lib.hid (Own.below OD.out hb6)); (try have EB := Lib.hid (EntR.below EB.out hb6)); (try have EC := Lib.hid (EntR.below EC.out hb6)); (first | have EH := Lib.hid (EntR.below EH.out hb6) | have EH := Lib.hid (EntR.below (EntR.drew EH.out) hb6) | have EH := Lib.hid (EntR.below (EntR.drewN EH.out _) hb6)); have EA := Lib.hid hr6; have HB := Lib.hid (below_step (by repeat (first | with_reducible exact HB.out | with_reducible apply below_drewN | with_reducible apply below_drew | with_reducible apply below_alloc)) hb6); clear hr6 hb6)
      | (go_at_call 35; (with_reducible refine (LB.out _ (by repeat (first | with_reducible exact HB.out | with_reducible apply below_drewN | with_reducible apply below_drew | with_reducible apply below_alloc))).mono ?_); rintro e w7 ⟨vF, rfl, hr6, hb6⟩; (try have OA := Lib.hid (Own.below OA.out hb6)); (try have OB := Lib.hid (Own.below OB.out hb6)); (try have OC := Lib.hid (Own.below OC.out hb6)); (try have OD := Lib.hid (Own.below OD.out hb6)); (try have EA := Lib.hid (EntR.below EA.out hb6)); (try have EC := Lib.hid (EntR.below EC.out hb6)); (first | have EH := Lib.hid (EntR.below EH.out hb6) | have EH := Lib.hid (EntR.below (EntR.drew EH.out) hb6) | have EH := Lib.hid (EntR.below (EntR.drewN EH.out _) hb6)); have EB := Lib.hid hr6; have HB := Lib.hid (below_step (by repeat (first | with_reducible exact HB.out | with_reducible apply below_drewN | with_reducible apply below_drew | with_reducible apply below_alloc)) hb6); clear hr6 hb6)
      | (go_at_call 17; (with_reducible refine (AA.out _ (by repeat (first | with_reducible exact HB.out | with_reducible apply below_drewN | with_reducible apply below_drew | with_reducible apply below_alloc))).mono ?_); rintro e w7 ⟨vG, rfl, hr6, hb6⟩; (try have OA := Lib.hid (Own.below OA.out hb6)); (try have OB := Lib.hid (Own.below OB.out hb6)); (try have OC := Lib.hid (Own.below OC.out hb6)); (try have OD := Lib.hid (Own.below OD.out hb6)); (try have EA := Lib.hid (EntR.below EA.out hb6)); (try have EB := Lib.hid (EntR.below EB.out hb6)); (first | have EH := Lib.hid (EntR.below EH.out hb6) | have EH := Lib.hid (EntR.below (EntR.drew EH.out) hb6) | have EH := Lib.hid (EntR.below (EntR.drewN EH.out _) hb6)); have EC := Lib.hid hr6; have HB := Lib.hid (below_step (by repeat (first | with_reducible exact HB.out | with_reducible apply below_drewN | with_reducible apply below_drew | with_reducible apply below_alloc)) hb6); clear hr6 hb6)
      | (go_at_call 26; (with_reducible refine (own_same OA.out OB.out).mono ?_); rintro e w7 ⟨rfl, hb6⟩; (try have OA := Lib.hid (Own.below OA.out hb6)); (try have OB := Lib.hid (Own.below OB.out hb6)); (try have OC := Lib.hid (Own.below OC.out hb6)); (try have OD := Lib.hid (Own.below OD.out hb6)); (try have EA := Lib.hid (EntR.below EA.out hb6)); (try have EB := Lib.hid (EntR.below EB.out hb6)); (try have EC := Lib.hid (EntR.below EC.out hb6)); (first | have EH := Lib.hid (EntR.below EH.out hb6) | have EH := Lib.hid (EntR.below (EntR.drew EH.out) hb6) | have EH := Lib.hid (EntR.below (EntR.drewN EH.out _) hb6)); have HB := Lib.hid (below_step (by repeat (first | with_reducible exact HB.out | with_reducible apply below_drewN | with_reducible apply below_drew | with_reducible apply below_alloc)) hb6); have f2 := (SD.out _ HB.out).1; have f3 := (SD.out _ HB.out).2; clear hb6)
      | (go_at_call 26; (with_reducible refine (own_same OC.out OD.out).mono ?_); rintro e w7 ⟨rfl, hb6⟩; (try have OA := Lib.hid (Own.below OA.out hb6)); (try have OB := Lib.hid (Own.below OB.out hb6)); (try have OC := Lib.hid (Own.below OC.out hb6)); (try have OD := Lib.hid (Own.below OD.out hb6)); (try have EA := Lib.hid (EntR.below EA.out hb6)); (try have EB := Lib.hid (EntR.below EB.out hb6)); (try have EC := Lib.hid (EntR.below EC.out hb6)); (first | have EH := Lib.hid (EntR.below EH.out hb6) | have EH := Lib.hid (EntR.below (EntR.drew EH.out) hb6) | have EH := Lib.hid (EntR.below (EntR.drewN EH.out _) hb6)); have HB := Lib.hid (below_step (by repeat (first | with_reducible exact HB.out | with_reducible apply below_drewN | with_reducible apply below_drew | with_reducible apply below_alloc)) hb6); have f2 := (SD.out _ HB.out).1; have f3 := (SD.out _ HB.out).2; clear hb6)
      | (go_at_call 16; (with_reducible refine (ent_same EA.out EB.out).mono ?_); rintro e w7 ⟨rfl, hb6⟩; (try have OA := Lib.hid (Own.below OA.out hb6)); (try have OB := Lib.hid (Own.below OB.out hb6)); (try have OC := Lib.hid (Own.below OC.out hb6)); (try have OD := Lib.hid (Own.below OD.out hb6)); (try have EA := Lib.hid (EntR.below EA.out hb6)); (try have EB := Lib.hid (EntR.below EB.out hb6)); (try have EC := Lib.hid (EntR.below EC.out hb6)); (first | have EH := Lib.hid (EntR.below EH.out hb6) | have EH := Lib.hid (EntR.below (EntR.drew EH.out) hb6) | have EH := Lib.hid (EntR.below (EntR.drewN EH.out _) hb6)); have HB := Lib.hid (below_step (by repeat (first | with_reducible exact HB.out | with_reducible apply below_drewN | with_reducible apply below_drew | with_reducible apply below_alloc)) hb6); have f2 := (SD.out _ HB.out).1; have f3 := (SD.out _ HB.out).2; clear hb6)
      | (go_at_call 16; (with_reducible refine (ent_same EC.out EH.out).mono ?_); rintro e w7 ⟨rfl, hb6⟩; (try have OA := Lib.hid (Own.below OA.out hb6)); (try have OB := Lib.hid (Own.below OB.out hb6)); (try have OC := Lib.hid (Own.below OC.out hb6)); (try have OD := Lib.hid (Own.below OD.out hb6)); (try have EA := Lib.hid (EntR.below EA.out hb6)); (try have EB := Lib.hid (EntR.below EB.out hb6)); (try have EC := Lib.hid (EntR.below EC.out hb6)); (first | have EH := Lib.hid (EntR.below EH.out hb6) | have EH := Lib.hid (EntR.below (EntR.drew EH.out) hb6) | have EH := Lib.hid (EntR.below (EntR.drewN EH.out _) hb6)); have HB := Lib.hid (below_step (by repeat (first | with_reducible exact HB.out | with_reducible apply below_drewN | with_reducible apply below_drew | with_reducible apply below_alloc)) hb6); have f2 := (SD.out _ HB.out).1; have f3 := (SD.out _ HB.out).2; clear hb6)
      | (go_at_call 12; (with_reducible refine (LEN.out _ (by repeat (first | with_reducible exact HB.out | with_reducible apply below_drewN | with_reducible apply below_drew | with_reducible apply below_alloc))).mono ?_); rintro e w7 ⟨rfl, rfl⟩))
  all_goals (
    go_wp2
    go_ret
    exact ⟨rfl, by rw [hga]; exact Below.trans HB7.out (HB.out.mono hg6)⟩)
end
end Go.Proofs.Ytejhoobecladiaa.Ct
