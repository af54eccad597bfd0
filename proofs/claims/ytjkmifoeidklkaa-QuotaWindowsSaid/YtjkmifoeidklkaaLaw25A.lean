import Derived.Test.YtjkmifoeidklkaaQuoE
import Derived.Test.YtjkmifoeidklkaaQuoP
import Derived.Test.YtjkmifoeidklkaaStructs
/-! Chapter 25: QuotaPlays. -/
namespace Go.Proofs.Ytjkmifoeidklkaa.Ct
open Go.RowKit
set_option linter.unusedVariables false
set_option linter.unusedSimpArgs false
theorem add_field (ad : Addr) (n j : Nat) (hj : 0 < j) : ad.add (n + j) = ⟨(ad.add n).block, (ad.add n).off + j, none⟩ := by
  unfold Addr.add
  by_cases h : n = 0
  · subst h; simp; omega
  · simp [h, Nat.add_assoc]
abbrev actDs : List TypeDesc := [.int .i64, .int .i64]
theorem act_cells {w : World} {ad : Addr} {L : List (List Value)} (h : RowF actDs w (some ad) L) {i : Nat} (hi : i < L.length) :
    (w.cell? (ad.add (i * 2)) = some (.int .i64 (fI L i 0)) ∧ w.cell? ⟨(ad.add (i * 2)).block, (ad.add (i * 2)).off + 1, none⟩ = some (.int .i64 (fI L i 1))) ∧ I64 (fI L i 0) ∧ I64 (fI L i 1) := by
  have h0 := h.int hi (j := 0) .i64 rfl
  have h1 := h.int hi (j := 1) .i64 rfl
  have e1 := h1.1
  rw [add_field _ _ _ (by decide)] at e1
  exact ⟨⟨h0.1, e1⟩, i64_of_wf h0.2, i64_of_wf h1.2⟩
theorem Rel.max {W m now used : Int} {LP LR : List (Int × Int)} (h : Rel W m now used LP LR) : LP ≠ [] → 0 ≤ (LP.getD (LP.length - 1) (0, 0)).1 ∧ (LP.getD (LP.length - 1) (0, 0)).1 ≤ 1048576 := by
  intro hne
  have hl : LP.length ≠ 0 := fun e => hne (List.eq_nil_of_length_eq_zero e)
  have hm := getD_mem2 (L := LP) (j := LP.length - 1) (by omega)
  have h1 := (h.inv.all _ hm).1
  refine ⟨h1, ?_⟩
  have hs : (LP.getD (LP.length - 1) (0, 0)).1 ≤ sumL LP := by
    have key : ∀ (L : List (Int × Int)) (p : Int × Int), (∀ q ∈ L, 0 ≤ q.1) → p ∈ L → p.1 ≤ sumL L := by
      intro L
      induction L with
      | nil => intro p _ h; cases h
      | cons q L ih =>
        intro p hn hp
        rw [sumL_cons]
        have h0 := hn q (List.mem_cons_self ..)
        have hs := sumL_nn fun q hq => hn q (List.mem_cons_of_mem _ hq)
        rcases List.mem_cons.1 hp with rfl | hp
        · omega
        · have := ih p (fun q hq => hn q (List.mem_cons_of_mem _ hq)) hp; omega
    exact key LP _ (fun q hq => (h.inv.all q hq).1) hm
  have := h.inv.sum; have := h.inv.um; have := h.inv.m1
  omega
theorem PB.drew {base : Nat} {w : World} {b : Nat} {W m now used : Int} {L : List (Int × Int)} (h : PB base w b W m now used L) : PB base w.drew b W m now used L := h
theorem RB.drew {base : Nat} {w : World} {r : Nat} {W m now : Int} {L : List (Int × Int)} (h : RB base w r W m now L) : RB base w.drew r W m now L := h
theorem RB.drewN {base : Nat} {w : World} {r : Nat} {W m now : Int} {L : List (Int × Int)} (h : RB base w r W m now L) (n : Nat) : RB base (w.drewN n) r W m now L := h
theorem RB.cell2 {base : Nat} {w : World} {r : Nat} {W m now : Int} {L : List (Int × Int)} (h : RB base w r W m now L) : w.cell? ⟨r, 2, none⟩ = some (.int .i64 now) := by
  obtain ⟨_, sv, hb, _⟩ := h; exact hb.cell 2
theorem ret_run {P : Program} {W m now used : Int} {LP LR : List (Int × Int)} {w : World} {f : FuncId} {args : Array Value} (hrl : Rel W m now used LP LR) (h : Calls P f args w fun e w' => e = .returned (.int .i64 (ru W now LR)) ∧ ∃ n, w.drewN n = w') : Calls P f args w fun e w' => e = .returned (.int .i64 used) ∧ ∃ n, w.drewN n = w' := by
  rw [hrl.used] at h; exact h
theorem spend_no' (base b : Nat) (W m now used n : Int) (L : List (Int × Int)) (w : World) (h : PB base w b W m now used L) (hW : 1 ≤ W) (hu : 0 ≤ used) (hm : used ≤ m) (hm2 : m ≤ 1048576) (hn : I64 n) (hc : n < 0 ∨ m - used < n) :
    Calls Try.prog 8 #[.pointer (some ⟨b, 0, none⟩), .int .i64 n] w fun e w' => e = .returned (.bool false) ∧ PB base w' b W m now used L ∧ Fr base mineP w w' :=
  (spend_no base b W m now used n L w h hW hu hm hm2 hn hc).mono fun e w' ⟨h1, j, h2⟩ => ⟨h1, h2 ▸ h.drewN j, h2 ▸ (Fr.refl _ _ _).drewN j⟩
theorem rspend_no' (base r : Nat) (W m now n : Int) (L : List (Int × Int)) (w : World) (h : RB base w r W m now L) (hi : RInv W m now L) (hL : L.length ≤ 1000) (hn : I64 n) (hc : n < 0 ∨ m - ru W now L < n) :
    Calls Try.prog 9 #[.pointer (some ⟨r, 0, none⟩), .int .i64 n] w fun e w' => e = .returned (.bool false) ∧ RB base w' r W m now L ∧ Fr base mineR w w' :=
  (rspend_no base r W m now n L w h hi hL hn hc).mono fun e w' ⟨h1, j, h2⟩ => ⟨h1, h2 ▸ h.drewN j, h2 ▸ (Fr.refl _ _ _).drewN j⟩
/-- a budget, and all that was ever spent, side by side. -/
def PlSt (B : Nat) (w : World) (W m : Int) (i : Nat) (wr : World) : Prop := ∃ (now used : Int) (LP LR : List (Int × Int)),
  PB B wr B W m now used LP ∧ RB B wr (B + 1) W m now LR ∧ Rel W m now used LP LR ∧ LP.length ≤ i ∧ LR.length ≤ i ∧ Below B w wr
set_option maxRecDepth 100000 in
set_option maxHeartbeats 8000000 in
theorem plays_walk (wn mo : Int) (a : Option Addr) (cap : Nat) (L : List (List Value)) (w : World) (hw : 0 ≤ wn ∧ wn ≤ 255) (hm : 0 ≤ mo ∧ mo ≤ 255) (hc : L.length ≤ cap) (hcm : cap ≤ 9223372036854775807) (h : RowF actDs w a L) :
    Calls Try.prog 3 #[.int .u8 wn, .int .u8 mo, .slice a L.length cap] w fun e w' => e = .returned (.bool true) ∧ Below w.heap.size w w' := by
  have H := Lib.hid h; clear h
  obtain ⟨hw0, hw1⟩ := hw
  obtain ⟨hm0, hm1⟩ := hm
  have W1 : 1 ≤ 1 + wn % 20 := by omega
  have W2 : 1 + wn % 20 ≤ 4096 := by omega
  have M1 : 0 ≤ mo % 60 := by omega
  have M2 : mo % 60 ≤ 60 := by omega
  have NC := Lib.hid (new_ok (1 + wn % 20) (mo % 60) w W1 W2 M1 (by omega))
  have AW := Lib.hid awake_calls
  obtain ⟨N, hN⟩ : ∃ N, N = min L.length 60 := ⟨_, rfl⟩
  have hN1 : N ≤ L.length := by omega
  have hN2 : N ≤ 60 := by omega
  have HN := Lib.hid hN; clear hN
  go_enter Try.func3, Try.ntmps3
  go_upto_region 6 with (go_at_call 7; (with_reducible refine (NC.out).mono ?_); rintro e w' ⟨rfl, rfl⟩)
  generalize 1 + wn % 20 = W at *
  generalize mo % 60 = m at *
  have HST : Hid (PlSt w.heap.size w W m 0 ((w.alloc (.cells #[.int .i64 W, .int .i64 m, .int .i64 0, .int .i64 0, .slice none 0 0] 42)).alloc (.cells #[.int .i64 W, .int .i64 m, .int .i64 0, .slice none 0 0] 30))) := Lib.hid
    ⟨0, 0, [], [], ⟨Nat.le_refl _, _, (Blk.new _ _ _).alloc _, SL.nil _ _ _ _⟩, ⟨by omega, _, blk_at (by simp), SL.nil _ _ _ _⟩, rel_new W1 W2 M1 (by omega), by simp, by simp, below_alloc (below_alloc (Below.refl _ _) _) _⟩
  clear NC
  go_wp2
  go_loopw [12] (fun i wr => ∃ k : Nat, k ≤ N ∧ i = .int .i64 (k : Int) ∧ PlSt w.heap.size w W m k wr) (fun i _ => N - (intOf i).toNat)
  case atStart => exact ⟨0, by omega, rfl, HST.out⟩
  case round =>
    clear HST
    obtain ⟨k, hk, rfl, now, used, LP, LR, hp, hr, hrl, hl1, hl2, hbel⟩ := hrel
    have HP := Lib.hid hp; have HR := Lib.hid hr; have HRL := Lib.hid hrl; have HBz := Lib.hid hbel
    clear hp hr hrl hbel
    by_cases hlt : k < N
    · have hl3 : k < L.length := by omega
      have hl3i : (k : Int) < L.length := by omega
      have hl4 : (k : Int) < 60 := by omega
      obtain ⟨ad, rfl⟩ := H.out.addr (by omega)
      obtain ⟨-, b0, b1⟩ := act_cells (H.out.below HBz.out) hl3
      have SD := Lib.hid (fun w' (hb : Below w.heap.size w w') => (act_cells (H.out.below hb) hl3).1)
      generalize fI L k 0 = kd at *
      generalize fI L k 1 = nn at *
      obtain ⟨e0, e1⟩ := SD.out wr HBz.out
      by_cases hkd : kd = 0
      · subst hkd
        by_cases hq : 0 ≤ nn ∧ nn ≤ m - used
        · obtain ⟨q1, q2⟩ := hq
          go_wp2
          go_region_held (fun w' => w'.cell? ⟨(ad.add (k * 2)).block, (ad.add (k * 2)).off + 1, none⟩ = some (.int .i64 nn))
            (first | exact (SD.out _ HBz.out).2 | exact (SD.out _ (by repeat (first | with_reducible exact HBz.out | with_reducible apply below_alloc | with_reducible apply below_drewN | with_reducible apply below_drew))).2)
            (first
              | (go_at_call 8; (with_reducible refine (spend_yes _ _ W m now used nn LP _ (by repeat (first | with_reducible apply PB.drewN | with_reducible apply PB.drew | exact HP.out)) HRL.out.inv.w1 HRL.out.inv.u0 HRL.out.inv.um HRL.out.inv.m1 q1 q2 (by omega) (i64_mk (by have := HRL.out.inv.n0; omega) HRL.out.inv.n1) (by have := HBz.out.size; simp <;> omega) HRL.out.max).mono ?_); rintro e w1 ⟨rfl, hp, hf⟩; have HBz := Lib.hid (Below.trans (by repeat (first | with_reducible exact HBz.out | with_reducible apply below_alloc | with_reducible apply below_drewN | with_reducible apply below_drew)) (hf.to_below (by have := HBz.out.size; simp <;> omega))); have HR := Lib.hid (RB.fr (W := W) (m := m) (now := now) (L := _) (by repeat (first | with_reducible apply RB.drewN | with_reducible apply RB.drew | exact HR.out)) hf); have HP := Lib.hid hp; clear hp hf)
              | (go_at_call 9; (with_reducible refine (rspend_yes _ _ W m now nn LR _ (by repeat (first | with_reducible apply RB.drewN | with_reducible apply RB.drew | exact HR.out)) HRL.out.rinv (by omega) q1 (by rw [HRL.out.used]; exact q2) (by have := HBz.out.size; simp <;> omega)).mono ?_); rintro e w1 ⟨rfl, hp, hf⟩; have HBz := Lib.hid (Below.trans (by repeat (first | with_reducible exact HBz.out | with_reducible apply below_alloc | with_reducible apply below_drewN | with_reducible apply below_drew)) (hf.to_below (by have := HBz.out.size; simp <;> omega))); have HP := Lib.hid (PB.frR (W := W) (m := m) (now := now) (by repeat (first | with_reducible apply PB.drewN | with_reducible apply PB.drew | exact HP.out)) hf); have HR := Lib.hid hp; clear hp hf))
          all_goals go_wp2
          all_goals (
            obtain ⟨now2, used2, LP2, LR2, hp2, hr2, hrl2, hL1, hL2⟩ : ∃ (now2 used2 : Int) (LP2 LR2 : List (Int × Int)), PB w.heap.size w1 w.heap.size W m now2 used2 LP2 ∧ RB w.heap.size w1 (w.heap.size + 1) W m now2 LR2 ∧ Rel W m now2 used2 LP2 LR2 ∧ LP2.length ≤ k + 1 ∧ LR2.length ≤ k + 1 := ⟨_, _, _, _, HP.out, HR.out, HRL.out.spend q1 q2, by have := (addS_props HRL.out.inv HRL.out.fresh HRL.out.sorted q1).2.2.2.2.2; omega, by rw [List.length_append]; simp; omega⟩
            have U1 := Lib.hid (fun q => used_calls _ _ W m now2 used2 LP2 (w1.drewN q) (hp2.drewN q) hrl2.inv.w1)
            have U2 := Lib.hid (fun q => left_calls _ _ W m now2 used2 LP2 (w1.drewN q) (hp2.drewN q) hrl2.inv.w1 hrl2.inv.u0 hrl2.inv.um hrl2.inv.m1)
            have U3 := Lib.hid (fun q => now_calls _ _ W m now2 used2 LP2 (w1.drewN q) (hp2.drewN q) hrl2.inv.w1)
            have U4 := Lib.hid (fun q => ret_run hrl2 (rused_calls _ _ W m now2 LR2 (w1.drewN q) (hr2.drewN q) hrl2.rinv (by omega)))
            have d2 : w1.cell? ⟨w.heap.size + 1, 2, none⟩ = some (.int .i64 now2) := hr2.cell2
            have hwr : IntKind.i64.wrap (m - used2) = m - used2 := i64_wrap (by have := hrl2.inv.u0; have := hrl2.inv.um; have := hrl2.inv.m1; unfold I64; omega)
            have HP2 := Lib.hid hp2; have HR2 := Lib.hid hr2; have HRL2 := Lib.hid hrl2
            clear hp2 hr2 hrl2 HP HR HRL
            go_quiet (first | (go_at_call 12; with_reducible exact Calls.quiet_of_same ((U1.out _).mono fun e w' ⟨h1, h2⟩ => ⟨h1, h2.symm⟩)) | (go_at_call 14; with_reducible exact Calls.quiet_of ((U2.out _).mono fun e w' ⟨h1, m, h2⟩ => ⟨h1, m, h2.symm⟩)) | (go_at_call 15; with_reducible exact Calls.quiet_of_same ((U3.out _).mono fun e w' ⟨h1, h2⟩ => ⟨h1, h2.symm⟩)) | (go_at_call 13; with_reducible exact Calls.quiet_of ((U4.out _).mono fun e w' ⟨h1, m, h2⟩ => ⟨h1, m, h2.symm⟩)))
            go_wp2
            exact ⟨⟨k + 1, by omega, by go_num, now2, used2, LP2, LR2, HP2.out.drewN _, HR2.out.drewN _, HRL2.out, hL1, hL2, (by repeat (first | with_reducible exact HBz.out | with_reducible apply below_alloc | with_reducible apply below_drewN | with_reducible apply below_drew))⟩, by simp [intOf]; omega⟩)
        · have hq2 : nn < 0 ∨ m - used < nn := by omega
          go_wp2
          go_region_held (fun w' => w'.cell? ⟨(ad.add (k * 2)).block, (ad.add (k * 2)).off + 1, none⟩ = some (.int .i64 nn))
            (first | exact (SD.out _ HBz.out).2 | exact (SD.out _ (by repeat (first | with_reducible exact HBz.out | with_reducible apply below_alloc | with_reducible apply below_drewN | with_reducible apply below_drew))).2)
            (first
              | (go_at_call 8; (with_reducible refine (spend_no' _ _ W m now used nn LP _ (by repeat (first | with_reducible apply PB.drewN | with_reducible apply PB.drew | exact HP.out)) HRL.out.inv.w1 HRL.out.inv.u0 HRL.out.inv.um HRL.out.inv.m1 b1 hq2).mono ?_); rintro e w1 ⟨rfl, hp, hf⟩; have HBz := Lib.hid (Below.trans (by repeat (first | with_reducible exact HBz.out | with_reducible apply below_alloc | with_reducible apply below_drewN | with_reducible apply below_drew)) (hf.to_below (by have := HBz.out.size; simp <;> omega))); have HR := Lib.hid (RB.fr (W := W) (m := m) (L := LR) (by repeat (first | with_reducible apply RB.drewN | with_reducible apply RB.drew | exact HR.out)) hf); have HP := Lib.hid hp; clear hp hf)
              | (go_at_call 9; (with_reducible refine (rspend_no' _ _ W m now nn LR _ (by repeat (first | with_reducible apply RB.drewN | with_reducible apply RB.drew | exact HR.out)) HRL.out.rinv (by omega) b1 (by rw [HRL.out.used]; exact hq2)).mono ?_); rintro e w1 ⟨rfl, hp, hf⟩; have HBz := Lib.hid (Below.trans (by repeat (first | with_reducible exact HBz.out | with_reducible apply below_alloc | with_reducible apply below_drewN | with_reducible apply below_drew)) (hf.to_below (by have := HBz.out.size; simp <;> omega))); have HP := Lib.hid (PB.frR (W := W) (m := m) (by repeat (first | with_reducible apply PB.drewN | with_reducible apply PB.drew | exact HP.out)) hf); have HR := Lib.hid hp; clear hp hf))
          all_goals go_wp2
          all_goals (
            obtain ⟨now2, used2, LP2, LR2, hp2, hr2, hrl2, hL1, hL2⟩ : ∃ (now2 used2 : Int) (LP2 LR2 : List (Int × Int)), PB w.heap.size w1 w.heap.size W m now2 used2 LP2 ∧ RB w.heap.size w1 (w.heap.size + 1) W m now2 LR2 ∧ Rel W m now2 used2 LP2 LR2 ∧ LP2.length ≤ k + 1 ∧ LR2.length ≤ k + 1 := ⟨_, _, _, _, HP.out, HR.out, HRL.out, by omega, by omega⟩
            have U1 := Lib.hid (fun q => used_calls _ _ W m now2 used2 LP2 (w1.drewN q) (hp2.drewN q) hrl2.inv.w1)
            have U2 := Lib.hid (fun q => left_calls _ _ W m now2 used2 LP2 (w1.drewN q) (hp2.drewN q) hrl2.inv.w1 hrl2.inv.u0 hrl2.inv.um hrl2.inv.m1)
            have U3 := Lib.hid (fun q => now_calls _ _ W m now2 used2 LP2 (w1.drewN q) (hp2.drewN q) hrl2.inv.w1)
            have U4 := Lib.hid (fun q => ret_run hrl2 (rused_calls _ _ W m now2 LR2 (w1.drewN q) (hr2.drewN q) hrl2.rinv (by omega)))
            have d2 : w1.cell? ⟨w.heap.size + 1, 2, none⟩ = some (.int .i64 now2) := hr2.cell2
            have hwr : IntKind.i64.wrap (m - used2) = m - used2 := i64_wrap (by have := hrl2.inv.u0; have := hrl2.inv.um; have := hrl2.inv.m1; unfold I64; omega)
            have HP2 := Lib.hid hp2; have HR2 := Lib.hid hr2; have HRL2 := Lib.hid hrl2
            clear hp2 hr2 hrl2 HP HR HRL
            go_quiet (first | (go_at_call 12; with_reducible exact Calls.quiet_of_same ((U1.out _).mono fun e w' ⟨h1, h2⟩ => ⟨h1, h2.symm⟩)) | (go_at_call 14; with_reducible exact Calls.quiet_of ((U2.out _).mono fun e w' ⟨h1, m, h2⟩ => ⟨h1, m, h2.symm⟩)) | (go_at_call 15; with_reducible exact Calls.quiet_of_same ((U3.out _).mono fun e w' ⟨h1, h2⟩ => ⟨h1, h2.symm⟩)) | (go_at_call 13; with_reducible exact Calls.quiet_of ((U4.out _).mono fun e w' ⟨h1, m, h2⟩ => ⟨h1, m, h2.symm⟩)))
            go_wp2
            exact ⟨⟨k + 1, by omega, by go_num, now2, used2, LP2, LR2, HP2.out.drewN _, HR2.out.drewN _, HRL2.out, hL1, hL2, (by repeat (first | with_reducible exact HBz.out | with_reducible apply below_alloc | with_reducible apply below_drewN | with_reducible apply below_drew))⟩, by simp [intOf]; omega⟩)
      · have hkb : (kd == 0) = false := beq_eq_false_iff_ne.2 hkd
        have hT : now ≤ satAdd now (max nn 0) ∧ satAdd now (max nn 0) ≤ 9223372036854775807 := by
          have := HRL.out.inv.n0; have := HRL.out.inv.n1
          unfold I64 at b1
          unfold satAdd sat; repeat' split
          all_goals omega
        obtain ⟨hT1, hT2⟩ := hT
        go_wp2
        go_region_held (fun w' => w'.cell? ⟨(ad.add (k * 2)).block, (ad.add (k * 2)).off + 1, none⟩ = some (.int .i64 nn))
          (first | exact (SD.out _ HBz.out).2 | exact (SD.out _ (by repeat (first | with_reducible exact HBz.out | with_reducible apply below_alloc | with_reducible apply below_drewN | with_reducible apply below_drew))).2)
          (first
            | (go_at_call 10; (with_reducible refine (tick_calls _ _ W m now used nn LP _ (by repeat (first | with_reducible apply PB.drewN | with_reducible apply PB.drew | exact HP.out)) HRL.out.inv (by omega) b1).mono ?_); rintro e w1 ⟨rfl, hp, hf⟩; have HBz := Lib.hid (Below.trans (by repeat (first | with_reducible exact HBz.out | with_reducible apply below_alloc | with_reducible apply below_drewN | with_reducible apply below_drew)) (hf.to_below (by have := HBz.out.size; simp <;> omega))); have HR := Lib.hid (RB.fr (W := W) (m := m) (L := LR) (by repeat (first | with_reducible apply RB.drewN | with_reducible apply RB.drew | exact HR.out)) hf); have HP := Lib.hid hp; clear hp hf)
            | (go_at_call 11; (with_reducible refine (rtick_calls _ _ W m now nn LR _ (by repeat (first | with_reducible apply RB.drewN | with_reducible apply RB.drew | exact HR.out)) HRL.out.inv.n0 HRL.out.inv.n1 b1).mono ?_); rintro e w1 ⟨rfl, hp, hf⟩; have HBz := Lib.hid (Below.trans (by repeat (first | with_reducible exact HBz.out | with_reducible apply below_alloc | with_reducible apply below_drewN | with_reducible apply below_drew)) (hf.to_below (by have := HBz.out.size; simp <;> omega))); have HP := Lib.hid (PB.frR (W := W) (m := m) (by repeat (first | with_reducible apply PB.drewN | with_reducible apply PB.drew | exact HP.out)) hf); have HR := Lib.hid hp; clear hp hf))
        all_goals go_wp2
        all_goals (
          obtain ⟨now2, used2, LP2, LR2, hp2, hr2, hrl2, hL1, hL2⟩ : ∃ (now2 used2 : Int) (LP2 LR2 : List (Int × Int)), PB w.heap.size w1 w.heap.size W m now2 used2 LP2 ∧ RB w.heap.size w1 (w.heap.size + 1) W m now2 LR2 ∧ Rel W m now2 used2 LP2 LR2 ∧ LP2.length ≤ k + 1 ∧ LR2.length ≤ k + 1 := ⟨_, _, _, _, HP.out, HR.out, HRL.out.tick hT1 hT2, by have := settS_len W (satAdd now (max nn 0)) LP used; omega, by omega⟩
          have U1 := Lib.hid (fun q => used_calls _ _ W m now2 used2 LP2 (w1.drewN q) (hp2.drewN q) hrl2.inv.w1)
          have U2 := Lib.hid (fun q => left_calls _ _ W m now2 used2 LP2 (w1.drewN q) (hp2.drewN q) hrl2.inv.w1 hrl2.inv.u0 hrl2.inv.um hrl2.inv.m1)
          have U3 := Lib.hid (fun q => now_calls _ _ W m now2 used2 LP2 (w1.drewN q) (hp2.drewN q) hrl2.inv.w1)
          have U4 := Lib.hid (fun q => ret_run hrl2 (rused_calls _ _ W m now2 LR2 (w1.drewN q) (hr2.drewN q) hrl2.rinv (by omega)))
          have d2 : w1.cell? ⟨w.heap.size + 1, 2, none⟩ = some (.int .i64 now2) := hr2.cell2
          have hwr : IntKind.i64.wrap (m - used2) = m - used2 := i64_wrap (by have := hrl2.inv.u0; have := hrl2.inv.um; have := hrl2.inv.m1; unfold I64; omega)
          have HP2 := Lib.hid hp2; have HR2 := Lib.hid hr2; have HRL2 := Lib.hid hrl2
          clear hp2 hr2 hrl2 HP HR HRL
          go_quiet (first | (go_at_call 12; with_reducible exact Calls.quiet_of_same ((U1.out _).mono fun e w' ⟨h1, h2⟩ => ⟨h1, h2.symm⟩)) | (go_at_call 14; with_reducible exact Calls.quiet_of ((U2.out _).mono fun e w' ⟨h1, m, h2⟩ => ⟨h1, m, h2.symm⟩)) | (go_at_call 15; with_reducible exact Calls.quiet_of_same ((U3.out _).mono fun e w' ⟨h1, h2⟩ => ⟨h1, h2.symm⟩)) | (go_at_call 13; with_reducible exact Calls.quiet_of ((U4.out _).mono fun e w' ⟨h1, m, h2⟩ => ⟨h1, m, h2.symm⟩)))
          go_wp2
          exact ⟨⟨k + 1, by omega, by go_num, now2, used2, LP2, LR2, HP2.out.drewN _, HR2.out.drewN _, HRL2.out, hL1, hL2, (by repeat (first | with_reducible exact HBz.out | with_reducible apply below_alloc | with_reducible apply below_drewN | with_reducible apply below_drew))⟩, by simp [intOf]; omega⟩)
    · obtain rfl : k = N := by omega
      have AW2 := Lib.hid (awake_calls wr)
      have hq : (k : Int) = L.length ∨ (k : Int) < L.length ∧ (k : Int) = 60 := by have := HN.out; omega
      rcases hq with hq | ⟨hq2, hq⟩
      all_goals (
        go_wp2_with (go_at_call 16; (with_reducible refine (AW2.out).mono ?_); rintro e w4 ⟨rfl, hb⟩; have HB4 := Lib.hid (below_step HBz.out hb); clear hb)
        go_ret
        exact ⟨rfl, HB4.out⟩)
end Go.Proofs.Ytjkmifoeidklkaa.Ct
