import Derived.Test.YthdknlnbpedlpaaDoorLaw03A
import Derived.Test.YthdknlnbpedlpaaDoorStructs
/-! Chapter 03: OctetReads. -/
namespace Go.Proofs.YthdknlnbpedlpaaDoor.Ct
open Go.RowKit
set_option linter.unusedVariables false
set_option linter.unusedSimpArgs false
theorem add_field (ad : Addr) (n j : Nat) (hj : 0 < j) : ad.add (n + j) = ⟨(ad.add n).block, (ad.add n).off + j, none⟩ := by
  unfold Addr.add
  by_cases h : n = 0
  · subst h; simp; omega
  · simp [h, Nat.add_assoc]
abbrev actDs : List TypeDesc := [.int .i64, .int .i64, .int .i64, .int .u64]
theorem act_three {w : World} {ad : Addr} {L : List (List Value)} (h : RowF actDs w (some ad) L) {i : Nat} (hi : i < L.length) :
    (w.cell? (ad.add (i * 4)) = some (.int .i64 (fI L i 0)) ∧ w.cell? ⟨(ad.add (i * 4)).block, (ad.add (i * 4)).off + 1, none⟩ = some (.int .i64 (fI L i 1)) ∧ w.cell? ⟨(ad.add (i * 4)).block, (ad.add (i * 4)).off + 2, none⟩ = some (.int .i64 (fI L i 2))) ∧ I64 (fI L i 0) ∧ I64 (fI L i 1) ∧ I64 (fI L i 2) := by
  have h0 := h.int hi (j := 0) .i64 rfl
  have h1 := h.int hi (j := 1) .i64 rfl
  have h2 := h.int hi (j := 2) .i64 rfl
  have e0 := h0.1
  have e1 := h1.1
  have e2 := h2.1
  rw [add_field _ _ _ (by decide)] at e1 e2
  exact ⟨⟨e0, e1, e2⟩, i64_of_wf h0.2, i64_of_wf h1.2, i64_of_wf h2.2⟩
theorem tk_new {w : World} {xs : List Int} {v : Value} {bad : Bool} {bnd : Nat} (T : TypeId) (h : Lies w bnd v xs) (hb : bnd ≤ w.heap.size) : Tk (w.alloc (.cells #[v, .bool bad] T)) w.heap.size bnd (xs, bad) := by
  refine ⟨hb, ⟨v, by rw [World.cell?_alloc_new]; rfl, h.below ((Below.refl _ _).alloc (Nat.le_refl _) _)⟩, by rw [World.cell?_alloc_new]; rfl, fun j => ?_⟩
  simp [go_sem]
theorem takeS_short (st : List Int × Bool) (n : Int) : (takeS st n).2.1.length ≤ st.1.length := by
  unfold takeS
  split
  · exact Nat.le_refl _
  · split
    · simp
    · simp
set_option maxRecDepth 10000 in
set_option maxHeartbeats 8000000 in
theorem reads_walk (a : Option Addr) (cap : Nat) (xs0 : List Int) (b : Option Addr) (cap' : Nat) (L : List (List Value)) (w : World) (hc : xs0.length ≤ cap) (hm : cap ≤ 9223372036854775807) (h : Row .u8 w a xs0)
    (hc' : L.length ≤ cap') (hm' : cap' ≤ 9223372036854775807) (h' : RowF actDs w b L) (hT : Dig w) :
    Calls Tryd.prog 4 #[.slice a xs0.length cap, .slice b L.length cap'] w fun e w' => e = .returned (.bool true) ∧ Below w.heap.size w w' := by
  have FA := Lib.hid (few_calls a cap xs0 w h hc hm)
  have hx := h.take 200
  have hlx : (xs0.take 200).length ≤ 200 := List.length_take_le _ _
  have hcx : (xs0.take 200).length ≤ cap := by rw [List.length_take]; omega
  clear h hc
  generalize xs0.take 200 = xs at *
  have HL := Lib.hid (show Lies w w.heap.size (.slice a xs.length cap) xs from ⟨a, cap, rfl, hcx, hm, hx, fun hp => bnd_of_row hx hp⟩)
  have RC := Lib.hid (read_calls a cap xs w hx (by omega))
  have H := Lib.hid h'; clear h' hx
  have HT := Lib.hid hT; clear hT
  obtain ⟨N, hN⟩ : ∃ N, N = min L.length 40 := ⟨_, rfl⟩
  have hN1 : N ≤ L.length := by omega
  have hN2 : N ≤ 40 := by omega
  have HN := Lib.hid hN; clear hN
  go_enter Tryd.func4, Tryd.ntmps4
  go_wp2_with (first
    | (go_at_call 15; (with_reducible refine (FA.out).mono ?_); rintro e w' ⟨rfl, rfl⟩)
    | (go_at_call 9; (with_reducible refine (RC.out).mono ?_); rintro e w1 ⟨g, rfl, hg, hrd, hb⟩; have HG := Lib.hid hg; have HR := Lib.hid hrd; have HB := Lib.hid hb; have HK := Lib.hid (tk_new (bad := false) 38 (HL.out.below hb) hb.size); clear hg hrd hb))
  have HR1 := Lib.hid (HR.out.below ((Below.refl _ _).alloc (Nat.le_refl _) (.cells #[.slice a xs.length cap, .bool false] 38)))
  have HB1 := Lib.hid (HB.out.alloc HB.out.size (.cells #[.slice a xs.length cap, .bool false] 38))
  have HGT := Lib.hid HR.out.lt
  have HWT := Lib.hid HB.out.size
  generalize w1.heap.size = t at *
  go_loopw [7] (fun i wr => ∃ (m : Nat) (st : List Int × Bool), m ≤ N ∧ i = .int .i64 m ∧ Rd wr g g st true ∧ Tk wr t w.heap.size st ∧ (st.2 = true → st.1 = []) ∧ st.1.length ≤ 200 ∧ Below w.heap.size w wr) (fun i _ => N - (intOf i).toNat)
  case atStart => exact ⟨0, (xs, false), by omega, rfl, HR1.out, HK.out, (fun h => by cases h), hlx, HB1.out⟩
  case round =>
    clear HR1 HB1 HK HB HR RC HL
    obtain ⟨m, st, hmN, rfl, hrd, htk, hinv, hsh, hbel⟩ := hrel
    have HR := Lib.hid hrd; have HK := Lib.hid htk; have HI := Lib.hid hinv; have HB := Lib.hid hbel
    clear hrd htk hinv hbel
    by_cases hlt : m < N
    · have hl1 : m < L.length := by omega
      have hl1i : (m : Int) < L.length := by omega
      have hl2 : m < 40 := by omega
      obtain ⟨ad, rfl⟩ := H.out.addr (by omega)
      obtain ⟨⟨k0, -, -⟩, b0, b1, b2⟩ := act_three (H.out.below HB.out) hl1
      have SD := Lib.hid (fun w' (hb : Below w.heap.size w w') => (act_three (H.out.below hb) hl1).1.2)
      generalize fI L m 0 = kd at *
      generalize fI L m 1 = wd at *
      generalize fI L m 2 = nm at *
      have hk : kd = 0 ∨ kd = 1 ∨ (¬ kd = 0 ∧ ¬ kd = 1) := by omega
      rcases hk with rfl | rfl | ⟨hk0, hk1⟩
      · have E := takeT_eq HI.out (wS wd)
        have UC := Lib.hid (u_calls g g st wd wr.drew HR.out)
        have tc := fun w' (h : Tk w' t w.heap.size st) => tu_calls t w.heap.size st wd w' h
        rw [E] at tc
        have INV := Lib.hid (takeS_inv HI.out (wS wd))
        have SH := Lib.hid (Nat.le_trans (takeS_short st (wS wd)) hsh)
        have TC := Lib.hid (show ∀ w', Tk w' t w.heap.size st → _ from tc)
        clear tc
        unfold uS at UC
        generalize ofS (takeS st (wS wd)).1 = val at *
        generalize (takeS st (wS wd)).2 = st2 at *
        clear E hsh
        go_wp2
        go_region_held_law (fun w' => w'.cell? ⟨(ad.add (m * 4)).block, (ad.add (m * 4)).off + 1, none⟩ = some (.int .i64 wd) ∧ w'.cell? ⟨(ad.add (m * 4)).block, (ad.add (m * 4)).off + 2, none⟩ = some (.int .i64 nm))
          (first | exact SD.out _ HB2.out | exact SD.out _ B1.out | exact SD.out _ (below_drew HB.out))
          (first
            | (go_at_call 10; (with_reducible refine (UC.out).mono ?_); rintro e w1 ⟨rfl, hrd, hgr⟩; have R1 := Lib.hid hrd; have K1 := Lib.hid ((show Tk wr.drew t w.heap.size st from HK.out).grown hgr (Nat.ne_of_gt HGT.out) HG.out); have B1 := Lib.hid (below_of_grown (below_drew HB.out) hgr HB.out.size HG.out); clear hrd hgr)
            | (go_at_call 16; (with_reducible refine (TC.out _ K1.out).mono ?_); rintro e w2 ⟨rfl, hk, hgr⟩; have HK2 := Lib.hid hk; have HR2 := Lib.hid (R1.out.grown hgr (Nat.ne_of_lt HGT.out) (Nat.le_of_lt HGT.out)); have HB2 := Lib.hid (below_of_grown B1.out hgr B1.out.size HWT.out); clear hk hgr))
        all_goals go_wp2
        obtain ⟨-, ⟨tv, kt0, hlt0⟩, kt1, -⟩ := HK2.out
        obtain ⟨ta, tc, rfl, -, -, -, -⟩ := hlt0
        have lc := fun n => left_calls g g st2 true (w2.drewN n) (HR2.out.below (below_drewN (Below.refl _ _) n))
        have bc := fun n => bad_calls g g st2 true (w2.drewN n) (HR2.out.below (below_drewN (Below.refl _ _) n))
        have dc := fun n => done_calls g g st2 true (w2.drewN n) (HR2.out.below (below_drewN (Below.refl _ _) n))
        have REL := Lib.hid (fun n => (show _ ∧ _ ∧ _ from ⟨HR2.out.below (below_drewN (Below.refl _ _) n), HK2.out.below (below_drewN (Below.refl _ _) n), below_drewN HB2.out n⟩))
        obtain ⟨ys, bad⟩ := st2
        have hcase : bad = true ∨ (bad = false ∧ (ys.length = 0 ∨ ¬ ys.length = 0)) := by
          cases bad
          · exact .inr ⟨rfl, Decidable.em _⟩
          · exact .inl rfl
        rcases hcase with rfl | ⟨rfl, hz | hz⟩
        · simp only [Bool.not_true, Bool.false_or, Bool.or_true, Bool.false_and] at lc bc dc kt0 kt1
          have LC := Lib.hid lc; have BC := Lib.hid bc; have DC := Lib.hid dc
          clear lc bc dc
          go_wp2
          go_quiet (first | (go_at_call 19; with_reducible exact Calls.quiet_of_same ((LC.out _).mono fun e w' ⟨h1, h2⟩ => ⟨h1, h2.symm⟩)) | (go_at_call 20; with_reducible exact Calls.quiet_of_same ((BC.out _).mono fun e w' ⟨h1, h2⟩ => ⟨h1, h2.symm⟩)) | (go_at_call 13; with_reducible exact Calls.quiet_of_same ((DC.out _).mono fun e w' ⟨h1, h2⟩ => ⟨h1, h2.symm⟩)))
          go_wp2
          exact ⟨⟨m + 1, _, by omega, by go_num, (REL.out _).1, (REL.out _).2.1, (fun _ => by have := INV.out; simpa using this), SH.out, (REL.out _).2.2⟩, by simp [intOf]; omega⟩
        · simp only [Bool.not_true, Bool.false_or, Bool.or_false, Bool.not_false, Bool.true_and, hz, decide_true] at lc bc dc kt0 kt1
          have LC := Lib.hid lc; have BC := Lib.hid bc; have DC := Lib.hid dc
          clear lc bc dc
          go_wp2
          go_quiet (first | (go_at_call 19; with_reducible exact Calls.quiet_of_same ((LC.out _).mono fun e w' ⟨h1, h2⟩ => ⟨h1, h2.symm⟩)) | (go_at_call 20; with_reducible exact Calls.quiet_of_same ((BC.out _).mono fun e w' ⟨h1, h2⟩ => ⟨h1, h2.symm⟩)) | (go_at_call 13; with_reducible exact Calls.quiet_of_same ((DC.out _).mono fun e w' ⟨h1, h2⟩ => ⟨h1, h2.symm⟩)))
          go_wp2
          exact ⟨⟨m + 1, _, by omega, by go_num, (REL.out _).1, (REL.out _).2.1, (fun h => by cases h), SH.out, (REL.out _).2.2⟩, by simp [intOf]; omega⟩
        · simp only [Bool.not_true, Bool.false_or, Bool.or_false, Bool.not_false, Bool.true_and, hz, decide_false] at lc bc dc kt0 kt1
          have LC := Lib.hid lc; have BC := Lib.hid bc; have DC := Lib.hid dc
          have hz2 : (((ys.length : Nat) : Int) == 0) = false := by simp; intro h; exact hz (by rw [h]; rfl)
          clear lc bc dc
          go_wp2
          go_quiet (first | (go_at_call 19; with_reducible exact Calls.quiet_of_same ((LC.out _).mono fun e w' ⟨h1, h2⟩ => ⟨h1, h2.symm⟩)) | (go_at_call 20; with_reducible exact Calls.quiet_of_same ((BC.out _).mono fun e w' ⟨h1, h2⟩ => ⟨h1, h2.symm⟩)) | (go_at_call 13; with_reducible exact Calls.quiet_of_same ((DC.out _).mono fun e w' ⟨h1, h2⟩ => ⟨h1, h2.symm⟩)))
          go_wp2
          exact ⟨⟨m + 1, _, by omega, by go_num, (REL.out _).1, (REL.out _).2.1, (fun h => by cases h), SH.out, (REL.out _).2.2⟩, by simp [intOf]; omega⟩
      · have E := takeT_eq HI.out nm
        have UC := Lib.hid (bytes_calls g g st nm wr.drew HR.out (by omega) b2.1 b2.2)
        have tc := fun w' (h : Tk w' t w.heap.size st) => tbytes_calls t w.heap.size st nm w' h b2.1 b2.2
        rw [E] at tc
        have INV := Lib.hid (takeS_inv HI.out nm)
        have SH := Lib.hid (Nat.le_trans (takeS_short st nm) hsh)
        have TC := Lib.hid (show ∀ w', Tk w' t w.heap.size st → _ from tc)
        clear tc
        have kc := fun (w : World) (base : Nat) (v : Value) (h : Own .u8 5 w base v (takeS st nm).1) => own_str (P := Tryd.prog) 23 5 9 Tryd.underlying23 Tryd.underlying5 Tryd.underlying9 h
        have kd := fun (w' : World) (a : Option Addr) (cap : Nat) (h : Row .u8 w' a (takeS st nm).1) => run_str (P := Tryd.prog) 23 5 9 Tryd.underlying23 Tryd.underlying5 Tryd.underlying9 a cap _ h
        generalize strOfNums (takeS st nm).1 = tx at *
        generalize (takeS st nm).1 = out at *
        generalize (takeS st nm).2 = st2 at *
        have KC := Lib.hid kc; have KD := Lib.hid kd
        clear E hsh kc kd
        go_wp2
        go_region_held_law (fun w' => w'.cell? ⟨(ad.add (m * 4)).block, (ad.add (m * 4)).off + 1, none⟩ = some (.int .i64 wd) ∧ w'.cell? ⟨(ad.add (m * 4)).block, (ad.add (m * 4)).off + 2, none⟩ = some (.int .i64 nm))
          (first | exact SD.out _ HB2.out | exact SD.out _ B1.out | exact SD.out _ (below_drew HB.out))
          (first
            | (go_at_call 17; (with_reducible refine (UC.out).mono ?_); rintro e w1 ⟨v1, rfl, ho, hrd, hgr⟩; have hcv1 := KC.out _ _ _ ho; have O1 := Lib.hid ho; have R1 := Lib.hid hrd; have K1 := Lib.hid ((show Tk wr.drew t w.heap.size st from HK.out).grown hgr (Nat.ne_of_gt HGT.out) HG.out); have B1 := Lib.hid (below_of_grown (below_drew HB.out) hgr HB.out.size HG.out); clear ho hrd hgr)
            | (go_at_call 18; (with_reducible refine (TC.out _ K1.out).mono ?_); rintro e w2 ⟨v2, rfl, hl, hk, hgr⟩; obtain ⟨a2, c2, rfl, -, -, hr2, -⟩ := hl; have hcv2 := KD.out _ _ c2 hr2; have hcv3 := KC.out _ _ _ (O1.out.kept hgr (Or.inr (fun e => by have h1 := O1.out.base _ e; have h2 := HK.out.lt; exact absurd (show t < wr.drew.heap.size from h2) (by omega)))); have HK2 := Lib.hid hk; have HR2 := Lib.hid (R1.out.grown hgr (Nat.ne_of_lt HGT.out) (Nat.le_of_lt HGT.out)); have HB2 := Lib.hid (below_of_grown B1.out hgr B1.out.size HWT.out); clear hk hgr hr2))
        all_goals go_wp2
        all_goals (
          obtain ⟨-, ⟨tv, kt0, hlt0⟩, kt1, -⟩ := HK2.out
          obtain ⟨ta, tc, rfl, -, -, -, -⟩ := hlt0
          have lc := fun n => left_calls g g st2 true (w2.drewN n) (HR2.out.below (below_drewN (Below.refl _ _) n))
          have bc := fun n => bad_calls g g st2 true (w2.drewN n) (HR2.out.below (below_drewN (Below.refl _ _) n))
          have dc := fun n => done_calls g g st2 true (w2.drewN n) (HR2.out.below (below_drewN (Below.refl _ _) n))
          have REL := Lib.hid (fun n => (show _ ∧ _ ∧ _ from ⟨HR2.out.below (below_drewN (Below.refl _ _) n), HK2.out.below (below_drewN (Below.refl _ _) n), below_drewN HB2.out n⟩))
          obtain ⟨ys, bad⟩ := st2
          have hcase : bad = true ∨ (bad = false ∧ (ys.length = 0 ∨ ¬ ys.length = 0)) := by
            cases bad
            · exact .inr ⟨rfl, Decidable.em _⟩
            · exact .inl rfl
          rcases hcase with rfl | ⟨rfl, hz | hz⟩
          · simp only [Bool.not_true, Bool.false_or, Bool.or_true, Bool.false_and] at lc bc dc kt0 kt1
            have LC := Lib.hid lc; have BC := Lib.hid bc; have DC := Lib.hid dc
            clear lc bc dc
            go_wp2
            go_quiet (first | (go_at_call 19; with_reducible exact Calls.quiet_of_same ((LC.out _).mono fun e w' ⟨h1, h2⟩ => ⟨h1, h2.symm⟩)) | (go_at_call 20; with_reducible exact Calls.quiet_of_same ((BC.out _).mono fun e w' ⟨h1, h2⟩ => ⟨h1, h2.symm⟩)) | (go_at_call 13; with_reducible exact Calls.quiet_of_same ((DC.out _).mono fun e w' ⟨h1, h2⟩ => ⟨h1, h2.symm⟩)))
            go_wp2
            exact ⟨⟨m + 1, _, by omega, by go_num, (REL.out _).1, (REL.out _).2.1, (fun _ => by have := INV.out; simpa using this), SH.out, (REL.out _).2.2⟩, by simp [intOf]; omega⟩
          · simp only [Bool.not_true, Bool.false_or, Bool.or_false, Bool.not_false, Bool.true_and, hz, decide_true] at lc bc dc kt0 kt1
            have LC := Lib.hid lc; have BC := Lib.hid bc; have DC := Lib.hid dc
            clear lc bc dc
            go_wp2
            go_quiet (first | (go_at_call 19; with_reducible exact Calls.quiet_of_same ((LC.out _).mono fun e w' ⟨h1, h2⟩ => ⟨h1, h2.symm⟩)) | (go_at_call 20; with_reducible exact Calls.quiet_of_same ((BC.out _).mono fun e w' ⟨h1, h2⟩ => ⟨h1, h2.symm⟩)) | (go_at_call 13; with_reducible exact Calls.quiet_of_same ((DC.out _).mono fun e w' ⟨h1, h2⟩ => ⟨h1, h2.symm⟩)))
            go_wp2
            exact ⟨⟨m + 1, _, by omega, by go_num, (REL.out _).1, (REL.out _).2.1, (fun h => by cases h), SH.out, (REL.out _).2.2⟩, by simp [intOf]; omega⟩
          · simp only [Bool.not_true, Bool.false_or, Bool.or_false, Bool.not_false, Bool.true_and, hz, decide_false] at lc bc dc kt0 kt1
            have LC := Lib.hid lc; have BC := Lib.hid bc; have DC := Lib.hid dc
            have hz2 : (((ys.length : Nat) : Int) == 0) = false := by simp; intro h; exact hz (by rw [h]; rfl)
            clear lc bc dc
            go_wp2
            go_quiet (first | (go_at_call 19; with_reducible exact Calls.quiet_of_same ((LC.out _).mono fun e w' ⟨h1, h2⟩ => ⟨h1, h2.symm⟩)) | (go_at_call 20; with_reducible exact Calls.quiet_of_same ((BC.out _).mono fun e w' ⟨h1, h2⟩ => ⟨h1, h2.symm⟩)) | (go_at_call 13; with_reducible exact Calls.quiet_of_same ((DC.out _).mono fun e w' ⟨h1, h2⟩ => ⟨h1, h2.symm⟩)))
            go_wp2
            exact ⟨⟨m + 1, _, by omega, by go_num, (REL.out _).1, (REL.out _).2.1, (fun h => by cases h), SH.out, (REL.out _).2.2⟩, by simp [intOf]; omega⟩)
      · have f0 : (kd == 0) = false := beq_eq_false_iff_ne.2 hk0
        have f1 : (kd == 1) = false := beq_eq_false_iff_ne.2 hk1
        have INV := HI
        have SH := Lib.hid hsh
        have HR2 := HR
        have HK2 := HK
        have HB2 := HB
        clear hk0 hk1
        go_wp2
        obtain ⟨-, ⟨tv, kt0, hlt0⟩, kt1, -⟩ := HK2.out
        obtain ⟨ta, tc, rfl, -, -, -, -⟩ := hlt0
        have lc := fun n => left_calls g g st true (wr.drewN n) (HR2.out.below (below_drewN (Below.refl _ _) n))
        have bc := fun n => bad_calls g g st true (wr.drewN n) (HR2.out.below (below_drewN (Below.refl _ _) n))
        have dc := fun n => done_calls g g st true (wr.drewN n) (HR2.out.below (below_drewN (Below.refl _ _) n))
        have REL := Lib.hid (fun n => (show _ ∧ _ ∧ _ from ⟨HR2.out.below (below_drewN (Below.refl _ _) n), HK2.out.below (below_drewN (Below.refl _ _) n), below_drewN HB2.out n⟩))
        obtain ⟨ys, bad⟩ := st
        have hcase : bad = true ∨ (bad = false ∧ (ys.length = 0 ∨ ¬ ys.length = 0)) := by
          cases bad
          · exact .inr ⟨rfl, Decidable.em _⟩
          · exact .inl rfl
        rcases hcase with rfl | ⟨rfl, hz | hz⟩
        · simp only [Bool.not_true, Bool.false_or, Bool.or_true, Bool.false_and] at lc bc dc kt0 kt1
          have LC := Lib.hid lc; have BC := Lib.hid bc; have DC := Lib.hid dc
          clear lc bc dc
          go_wp2
          go_quiet (first | (go_at_call 19; with_reducible exact Calls.quiet_of_same ((LC.out _).mono fun e w' ⟨h1, h2⟩ => ⟨h1, h2.symm⟩)) | (go_at_call 20; with_reducible exact Calls.quiet_of_same ((BC.out _).mono fun e w' ⟨h1, h2⟩ => ⟨h1, h2.symm⟩)) | (go_at_call 13; with_reducible exact Calls.quiet_of_same ((DC.out _).mono fun e w' ⟨h1, h2⟩ => ⟨h1, h2.symm⟩)))
          go_wp2
          exact ⟨⟨m + 1, _, by omega, by go_num, (REL.out _).1, (REL.out _).2.1, (fun _ => by have := INV.out; simpa using this), SH.out, (REL.out _).2.2⟩, by simp [intOf]; omega⟩
        · simp only [Bool.not_true, Bool.false_or, Bool.or_false, Bool.not_false, Bool.true_and, hz, decide_true] at lc bc dc kt0 kt1
          have LC := Lib.hid lc; have BC := Lib.hid bc; have DC := Lib.hid dc
          clear lc bc dc
          go_wp2
          go_quiet (first | (go_at_call 19; with_reducible exact Calls.quiet_of_same ((LC.out _).mono fun e w' ⟨h1, h2⟩ => ⟨h1, h2.symm⟩)) | (go_at_call 20; with_reducible exact Calls.quiet_of_same ((BC.out _).mono fun e w' ⟨h1, h2⟩ => ⟨h1, h2.symm⟩)) | (go_at_call 13; with_reducible exact Calls.quiet_of_same ((DC.out _).mono fun e w' ⟨h1, h2⟩ => ⟨h1, h2.symm⟩)))
          go_wp2
          exact ⟨⟨m + 1, _, by omega, by go_num, (REL.out _).1, (REL.out _).2.1, (fun h => by cases h), SH.out, (REL.out _).2.2⟩, by simp [intOf]; omega⟩
        · simp only [Bool.not_true, Bool.false_or, Bool.or_false, Bool.not_false, Bool.true_and, hz, decide_false] at lc bc dc kt0 kt1
          have LC := Lib.hid lc; have BC := Lib.hid bc; have DC := Lib.hid dc
          have hz2 : (((ys.length : Nat) : Int) == 0) = false := by simp; intro h; exact hz (by rw [h]; rfl)
          clear lc bc dc
          go_wp2
          go_quiet (first | (go_at_call 19; with_reducible exact Calls.quiet_of_same ((LC.out _).mono fun e w' ⟨h1, h2⟩ => ⟨h1, h2.symm⟩)) | (go_at_call 20; with_reducible exact Calls.quiet_of_same ((BC.out _).mono fun e w' ⟨h1, h2⟩ => ⟨h1, h2.symm⟩)) | (go_at_call 13; with_reducible exact Calls.quiet_of_same ((DC.out _).mono fun e w' ⟨h1, h2⟩ => ⟨h1, h2.symm⟩)))
          go_wp2
          exact ⟨⟨m + 1, _, by omega, by go_num, (REL.out _).1, (REL.out _).2.1, (fun h => by cases h), SH.out, (REL.out _).2.2⟩, by simp [intOf]; omega⟩
    · obtain rfl : m = N := by omega
      have hnot : ¬ ((m : Int) < L.length ∧ (m : Int) < 40) := by have := HN.out; omega
      have AW := Lib.hid (awake_calls wr (HT.out.below HB.out))
      have hq : (m : Int) = L.length ∨ (m : Int) < L.length ∧ (m : Int) = 40 := by have := HN.out; omega
      rcases hq with hq | ⟨hq2, hq⟩
      all_goals (
        go_wp2_with (go_at_call 14; (with_reducible refine (AW.out).mono ?_); rintro e w4 ⟨rfl, hb⟩; have HB4 := Lib.hid (below_step HB.out hb); clear hb)
        go_ret
        exact ⟨rfl, HB4.out⟩)
end Go.Proofs.YthdknlnbpedlpaaDoor.Ct
