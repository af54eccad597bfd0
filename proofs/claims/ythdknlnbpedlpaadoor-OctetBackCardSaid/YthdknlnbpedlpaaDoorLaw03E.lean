import Derived.Test.YthdknlnbpedlpaaDoorLaw03A
import Derived.Test.YthdknlnbpedlpaaDoorStructs
/-! Chapter 03: OctetBack. -/
namespace Go.Proofs.YthdknlnbpedlpaaDoor.Ct
open Go.RowKit
set_option linter.unusedVariables false
set_option linter.unusedSimpArgs false
/-- the walk's own form of a field's address. -/
theorem add_field (ad : Addr) (n j : Nat) (hj : 0 < j) : ad.add (n + j) = ⟨(ad.add n).block, (ad.add n).off + j, none⟩ := by
  unfold Addr.add
  by_cases h : n = 0
  · subst h; simp; omega
  · simp [h, Nat.add_assoc]
abbrev actDs : List TypeDesc := [.int .i64, .int .i64, .int .i64, .int .u64]
def backS (L : List (List Value)) (m n : Nat) : List Int := (List.range' m n).flatMap fun i => numS (fI L i 1) (fI L i 3)
theorem backS_zero (L : List (List Value)) (m : Nat) : backS L m 0 = [] := rfl
theorem backS_snoc (L : List (List Value)) (n : Nat) : backS L 0 (n + 1) = backS L 0 n ++ numS (fI L n 1) (fI L n 3) := by
  unfold backS
  rw [List.range'_concat]; simp
theorem backS_cons (L : List (List Value)) (m n : Nat) : backS L m (n + 1) = numS (fI L m 1) (fI L m 3) ++ backS L (m + 1) n := by
  unfold backS
  rw [List.range'_succ]; rfl
theorem backS_len (L : List (List Value)) (m n : Nat) : (backS L m n).length ≤ 8 * n := by
  induction n generalizing m with
  | zero => simp [backS]
  | succ n ih =>
    rw [backS_cons, List.length_append]
    have := ih (m + 1)
    have := numS_len (fI L m 1) (fI L m 3)
    omega
theorem act_cells {w : World} {ad : Addr} {L : List (List Value)} (h : RowF actDs w (some ad) L) {i : Nat} (hi : i < L.length) :
    (w.cell? ⟨(ad.add (i * 4)).block, (ad.add (i * 4)).off + 1, none⟩ = some (.int .i64 (fI L i 1)) ∧ w.cell? ⟨(ad.add (i * 4)).block, (ad.add (i * 4)).off + 3, none⟩ = some (.int .u64 (fI L i 3))) ∧ I64 (fI L i 1) ∧ (0 ≤ fI L i 3 ∧ fI L i 3 ≤ 18446744073709551615) := by
  have h1 := h.int hi (j := 1) .i64 rfl
  have h3 := h.int hi (j := 3) .u64 rfl
  have e1 := h1.1
  have e3 := h3.1
  rw [add_field _ _ _ (by decide)] at e1 e3
  exact ⟨⟨e1, e3⟩, i64_of_wf h1.2, bounds_u64 h3.2⟩
set_option maxHeartbeats 4000000 in
theorem back_walk (a : Option Addr) (cap : Nat) (L : List (List Value)) (w : World) (hc : L.length ≤ cap) (hm : cap ≤ 9223372036854775807) (h : RowF actDs w a L) (hT : Dig w) :
    Calls Tryd.prog 3 #[.slice a L.length cap] w fun e w' => e = .returned (.bool true) ∧ Below w.heap.size w w' := by
  have H := Lib.hid h; clear h
  have HT := Lib.hid hT; clear hT
  obtain ⟨N, hN⟩ : ∃ N, N = min L.length 40 := ⟨_, rfl⟩
  have hN1 : N ≤ L.length := by omega
  have hN2 : N ≤ 40 := by omega
  have HN := Lib.hid hN; clear hN
  go_enter Tryd.func3, Tryd.ntmps3
  go_wp2
  go_loopw [3, 4] (fun o i wr => ∃ m : Nat, m ≤ N ∧ i = .int .i64 m ∧ Own .u8 5 wr w.heap.size o (backS L 0 m) ∧ Below w.heap.size w wr) (fun _ i _ => N - (intOf i).toNat)
  case atStart => exact ⟨0, by omega, rfl, own_nil _ _ _ _, Below.refl _ _⟩
  case round =>
    obtain ⟨m, hmN, rfl, hown, hbel⟩ := hrel
    have HO := Lib.hid hown; clear hown
    have HB := Lib.hid hbel; clear hbel
    by_cases hlt : m < N
    · have hl1 : m < L.length := by omega
      have hl1i : (m : Int) < L.length := by omega
      have hl2 : m < 40 := by omega
      obtain ⟨ad, rfl⟩ := H.out.addr (by omega)
      obtain ⟨-, b1, b3⟩ := act_cells (H.out.below HB.out) hl1
      have SD := Lib.hid (fun w' (hb : Below w.heap.size w w') => (act_cells (H.out.below hb) hl1).1)
      have N1 := Lib.hid (backS_snoc L m)
      have hlen := backS_len L 0 m
      obtain ⟨oa, oc, rfl, -, -, hro, -, -⟩ := HO.out.form
      have PC := Lib.hid (put_calls oa oc (backS L 0 m) (fI L m 3) (fI L m 1) wr.drew hro (by omega) b3.1 b3.2)
      generalize backS L 0 m = bb at *
      generalize fI L m 1 = wd at *
      generalize fI L m 3 = nm at *
      clear hro b1 b3
      go_wp2
      go_region_held_law (fun w' => w'.cell? ⟨(ad.add (m * 4)).block, (ad.add (m * 4)).off + 1, none⟩ = some (.int .i64 wd) ∧ w'.cell? ⟨(ad.add (m * 4)).block, (ad.add (m * 4)).off + 3, none⟩ = some (.int .u64 nm))
        (first | exact SD.out _ HB1.out | exact SD.out _ (below_drew HB.out))
        (first | (go_at_call 8; (with_reducible refine (PC.out).mono ?_); rintro e w1 ⟨v1, rfl, ho, hb⟩; have HO1 := Lib.hid (ho.mono HB.out.size); have HB1 := Lib.hid (below_step (below_drew HB.out) hb); clear ho hb))
      all_goals go_wp2
      all_goals exact ⟨⟨m + 1, by omega, by go_num, by rw [N1.out]; exact HO1.out, HB1.out⟩, by simp [intOf]; omega⟩
    · obtain rfl : m = N := by omega
      have hlen := backS_len L 0 m
      obtain ⟨oa, oc, rfl, -, -, hro, -, -⟩ := HO.out.form
      have RC := Lib.hid (read_calls oa oc (backS L 0 m) wr hro (by omega))
      have HNi := Lib.hid (show ((m : Int) = L.length ∨ (m : Int) = 40 ∧ (40 : Int) < L.length) by have := HN.out; omega)
      clear hro
      rcases HNi.out with hq | ⟨hq, hq2⟩
      all_goals (
        go_wp2_with (go_at_call 9; (with_reducible refine (RC.out).mono ?_); rintro e w1 ⟨g, rfl, hg, hrd, hb⟩; have HG := Lib.hid hg; have HR := Lib.hid hrd; have HB1 := Lib.hid (below_step HB.out hb); clear hg hrd hb)
        have HGB := Lib.hid (Nat.le_trans HB.out.size HG.out)
        go_loopw [6] (fun i wx => ∃ q : Nat, q ≤ m ∧ i = .int .i64 q ∧ Rd wx g g (backS L q (m - q), false) true ∧ Below w.heap.size w wx) (fun i _ => m - (intOf i).toNat)
        case atStart => exact ⟨0, by omega, rfl, HR.out, HB1.out⟩
        case round =>
          clear HO HB HR HB1 RC HG hlen
          obtain ⟨q, hqm, rfl, hrd, hbel⟩ := hrel
          have HR := Lib.hid hrd; clear hrd
          have HB := Lib.hid hbel; clear hbel
          by_cases hlt2 : q < m
          · have hl1 : q < L.length := by omega
            have hl1i : (q : Int) < L.length := by omega
            have hl2 : q < 40 := by omega
            obtain ⟨ad, rfl⟩ := H.out.addr (by omega)
            obtain ⟨-, b1, b3⟩ := act_cells (H.out.below HB.out) hl1
            have SD := Lib.hid (fun w' (hb : Below w.heap.size w w') => (act_cells (H.out.below hb) hl1).1)
            have N1 := backS_cons L q (m - q - 1)
            rw [show m - q - 1 + 1 = m - q by omega] at N1
            rw [N1] at HR
            have NC := Lib.hid (fun w' => num_calls (fI L q 3) (fI L q 1) w' b3.1 b3.2 b1)
            have nl := numS_len (fI L q 1) (fI L q 3)
            have ne : ¬ (1 ≤ fI L q 1 ∧ fI L q 1 ≤ 8) → numS (fI L q 1) (fI L q 3) = [] := fun h => by unfold numS; rw [if_neg]; exact fun h2 => h (of_decide_eq_true h2)
            have nu : (1 ≤ fI L q 1 ∧ fI L q 1 ≤ 8) → (wS (fI L q 1) = ((numS (fI L q 1) (fI L q 3)).length : Int)) := fun h => by
              have hw : wideS (fI L q 1) = true := decide_eq_true h
              unfold wS numS; rw [if_pos hw, if_pos hw, leS_len]; omega
            obtain ⟨rest, hrest⟩ : ∃ rest, backS L (q + 1) (m - q - 1) = rest := ⟨_, rfl⟩
            rw [hrest] at HR
            have HS := Lib.hid hrest; clear hrest
            generalize numS (fI L q 1) (fI L q 3) = nn at *
            generalize fI L q 1 = wd at *
            generalize fI L q 3 = nm at *
            obtain ⟨b10, b11⟩ := b1
            obtain ⟨b30, b31⟩ := b3
            clear N1
            have hd : (1 ≤ wd ∧ wd ≤ 8) ∨ wd < 1 ∨ (1 ≤ wd ∧ 8 < wd) := by omega
            rcases hd with ⟨hd1, hd2⟩ | hd | ⟨hd1, hd2⟩
            · have hu := nu ⟨hd1, hd2⟩
              have ht : takeS (nn ++ rest, false) (wS wd) = (nn, (rest, false)) := by
                rw [hu, takeS_in (by simp)]; simp
              have uc := u_calls g g (nn ++ rest, false) wd wr.drew HR.out
              unfold uS at uc
              rw [ht] at uc
              simp only at uc
              have UC := Lib.hid uc; clear uc
              have OC := Lib.hid (fun w' a c (h : Row .u8 w' a nn) => of_calls a c nn w' h nl)
              generalize ofS nn = val at *
              clear ne nu hu ht
              go_wp2
              go_region_held_law (fun w' => w'.cell? ⟨(ad.add (q * 4)).block, (ad.add (q * 4)).off + 1, none⟩ = some (.int .i64 wd) ∧ w'.cell? ⟨(ad.add (q * 4)).block, (ad.add (q * 4)).off + 3, none⟩ = some (.int .u64 nm))
                (first | exact SD.out _ B2.out | exact SD.out _ B1.out | exact SD.out _ (below_drew HB.out))
                (first
                  | (go_at_call 10; (with_reducible refine (UC.out).mono ?_); rintro e w1 ⟨rfl, hrd, hgr⟩; have R1 := Lib.hid hrd; have B1 := Lib.hid (below_of_grown (below_drew HB.out) hgr HB.out.size HGB.out); clear hrd hgr)
                  | (go_at_call 12; (with_reducible refine (NC.out _).mono ?_); rintro e w2 ⟨v, rfl, ho, hb⟩; obtain ⟨na, nc, hv, -, -, hr, -, -⟩ := ho.form; rw [hv]; have O2 := Lib.hid hr; have B2 := Lib.hid (below_step B1.out hb); have R2 := Lib.hid (R1.out.below hb); clear ho hb hr hv)
                  | (go_at_call 11; (with_reducible refine (OC.out _ _ _ O2.out).mono ?_); rintro e w3 ⟨rfl, rfl⟩))
              all_goals go_wp2
              all_goals exact ⟨⟨q + 1, by omega, by go_num, by rw [show m - (q + 1) = m - q - 1 by omega, HS.out]; exact R2.out, B2.out⟩, by simp [intOf]; omega⟩
            · have he : nn = [] := ne (by omega)
              subst he
              have HR2 := Lib.hid (show Rd wr g g (rest, false) true from HR.out)
              have f1 : decide (1 ≤ wd) = false := decide_eq_false (by omega)
              obtain ⟨c1, c3⟩ := SD.out wr HB.out
              clear ne nu HR
              go_wp2
              go_quiet (fail)
              go_wp2
              exact ⟨⟨q + 1, by omega, by go_num, by rw [show m - (q + 1) = m - q - 1 by omega, HS.out]; exact HR2.out, below_drewN HB.out _⟩, by simp [intOf]; omega⟩
            · have he : nn = [] := ne (by omega)
              subst he
              have HR2 := Lib.hid (show Rd wr g g (rest, false) true from HR.out)
              have f2 : decide (wd ≤ 8) = false := decide_eq_false (by omega)
              obtain ⟨c1, c3⟩ := SD.out wr HB.out
              clear ne nu HR
              go_wp2
              go_quiet (fail)
              go_wp2
              exact ⟨⟨q + 1, by omega, by go_num, by rw [show m - (q + 1) = m - q - 1 by omega, HS.out]; exact HR2.out, below_drewN HB.out _⟩, by simp [intOf]; omega⟩
          · obtain rfl : q = m := by omega
            have hR := HR.out
            rw [Nat.sub_self, backS_zero] at hR
            have DC := Lib.hid (done_calls _ _ _ _ wr hR)
            have AW := Lib.hid (awake_calls wr (HT.out.below HB.out))
            clear hR
            go_wp2_with (first
              | (go_at_call 13; (with_reducible refine (DC.out).mono ?_); rintro e w2 ⟨rfl, rfl⟩)
              | (go_at_call 14; (with_reducible refine (AW.out).mono ?_); rintro e w4 ⟨rfl, hb⟩; have HB4 := Lib.hid (below_step HB.out hb); clear hb))
            go_ret
            exact ⟨rfl, HB4.out⟩)
end Go.Proofs.YthdknlnbpedlpaaDoor.Ct
