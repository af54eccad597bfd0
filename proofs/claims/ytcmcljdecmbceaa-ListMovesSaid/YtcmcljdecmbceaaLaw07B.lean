import Derived.Test.YtcmcljdecmbceaaLiW
import Derived.Test.YtcmcljdecmbceaaLiX
import Derived.Test.YtcmcljdecmbceaaStructs
import Derived.Deep.CutBlock
/-! Chapter 07: ListPlays. -/
namespace Go.Proofs.Ytcmcljdecmbceaa.Ct
open Go.RowKit
set_option linter.unusedVariables false
set_option linter.unusedSimpArgs false
abbrev act07 : List TypeDesc := [.int .i64, .int .i64, .int .i64]
theorem add_field (ad : Addr) (n j : Nat) (hj : 0 < j) : ad.add (n + j) = ⟨(ad.add n).block, (ad.add n).off + j, none⟩ := by
  unfold Addr.add
  by_cases h : n = 0
  · subst h; simp; omega
  · simp [h, Nat.add_assoc]
theorem act07_cells {w : World} {ad : Addr} {L : List (List Value)} (h : RowF act07 w (some ad) L) {i : Nat} (hi : i < L.length) :
    w.cell? (ad.add (i * 3)) = some (.int .i64 (fI L i 0)) ∧ w.cell? ⟨(ad.add (i * 3)).block, (ad.add (i * 3)).off + 1, none⟩ = some (.int .i64 (fI L i 1)) ∧ w.cell? ⟨(ad.add (i * 3)).block, (ad.add (i * 3)).off + 2, none⟩ = some (.int .i64 (fI L i 2)) := by
  have h0 := (h.int hi (j := 0) .i64 rfl).1
  have h1 := (h.int hi (j := 1) .i64 rfl).1
  have h2 := (h.int hi (j := 2) .i64 rfl).1
  rw [add_field _ _ _ (by decide)] at h1 h2
  exact ⟨h0, h1, h2⟩
theorem RLb {b b2 C q qb n m : Nat} {w : World} {r : Nat → List Nat} (h : RL b C w q qb n m r) (hb : b2 ≤ b) : RL b2 C w q qb n m r := ⟨Nat.le_trans hb h.bq, Nat.le_trans hb h.bb, h.kq, h.kb⟩
set_option maxRecDepth 100000 in
set_option maxHeartbeats 8000000 in
theorem plays07_walk (no li : Int) (a : Option Addr) (cap : Nat) (L : List (List Value)) (at_ nd : Int) (w : World) (h1 : 0 ≤ no ∧ no ≤ 255) (h2 : 0 ≤ li ∧ li ≤ 255) (hc : L.length ≤ cap) (hcm : cap ≤ 9223372036854775807) (h : RowF act07 w a L) (ha : -9223372036854775808 ≤ at_ ∧ at_ ≤ 9223372036854775807) (hn : -9223372036854775808 ≤ nd ∧ nd ≤ 9223372036854775807) :
    Calls Try.prog 4 #[.int .u8 no, .int .u8 li, .slice a L.length cap, .int .i64 at_, .int .i64 nd] w fun e w' => e = .returned (.bool true) ∧ Below w.heap.size w w' := by
  have H := Lib.hid h; clear h ha hn
  obtain ⟨n0, n1⟩ := h1
  obtain ⟨m0, m1⟩ := h2
  obtain ⟨n, hn⟩ : ∃ n : Nat, no % 40 = n := ⟨(no % 40).toNat, by omega⟩
  obtain ⟨m, hm⟩ : ∃ m : Nat, li % 6 = m := ⟨(li % 6).toNat, by omega⟩
  have N1 : n ≤ 39 := by omega
  have M1 : m ≤ 5 := by omega
  have NC := Lib.hid (lnew_ok n m w (by omega) (by omega))
  obtain ⟨N, hN⟩ : ∃ N, N = min L.length 50 := ⟨_, rfl⟩
  have hN1 : N ≤ L.length := by omega
  have hN2 : N ≤ 50 := by omega
  have HN := Lib.hid hN; clear hN
  go_enter Try.func4, Try.ntmps4
  go_upto_region 2 with (fail)
  rw [hn, hm]
  clear hn hm n0 n1 m0 m1
  go_upto_region 5 with (go_at_call 6; (with_reducible refine (NC.out).mono ?_); rintro e w1 ⟨x, gl, gm, rfl, hp, hb⟩; have HP := Lib.hid hp; have HB1 := Lib.hid hb; clear hp hb)
  have RC := Lib.hid (rnew_calls n m w1 (by omega))
  go_upto_region 6 with (go_at_call 15; (with_reducible refine (RC.out).mono ?_); rintro e w2 ⟨rfl, hr, hb⟩; have HR := Lib.hid hr; have HB2 := Lib.hid hb; clear hr hb)
  have HBB := Lib.hid (Below.trans HB1.out (HB2.out.mono HB1.out.size))
  generalize hC : w1.heap.size = C at *
  have HT := Lib.hid (show Two w w.heap.size C x gl gm n m w2 (fun _ => []) (fun _ => []) from ⟨HP.out.below (by rw [hC]; exact HB2.out), HR.out, by obtain ⟨f, g, hs, -⟩ := HP.out; rw [← hC]; exact hs.kx.lt, by obtain ⟨f, g, hs, -⟩ := HP.out; rw [← hC]; exact hs.kl.lt, by obtain ⟨f, g, hs, -⟩ := HP.out; rw [← hC]; exact hs.km.lt, by rw [← hC]; exact HB1.out.size, by have := HR.out.kq.lt; omega, HBB.out⟩)
  clear NC RC HP HR HB1 HB2 hC
  go_wp2
  go_loopw [16] (fun i wr => ∃ (k : Nat) (r : Nat → List Nat), k ≤ N ∧ i = .int .i64 (k : Int) ∧ Two w w.heap.size C x gl gm n m wr r r) (fun i _ => N - (intOf i).toNat)
  case atStart => exact ⟨0, _, by omega, rfl, HT.out⟩
  case round =>
    clear HT HBB
    obtain ⟨k, r, hk, rfl, ht⟩ := hrel
    have HT := Lib.hid ht
    clear ht
    by_cases hlt : k < N
    · have hl3 : k < L.length := by omega
      have hl3i : (k : Int) < L.length := by omega
      have hl4 : (k : Int) < 50 := by omega
      obtain ⟨ad, rfl⟩ := H.out.addr (by omega)
      obtain ⟨e0, e1, e2⟩ := act07_cells (H.out.below HT.out.bel) hl3
      generalize fI L k 0 = kd at *
      generalize fI L k 1 = al at *
      generalize fI L k 2 = an at *
      have hb2 := below_alloc (Below.refl wr.heap.size wr) (.cells #[.int .i64 kd, .int .i64 al, .int .i64 an] 24)
      have HBK := Lib.hid (show Blk (wr.alloc (.cells #[.int .i64 kd, .int .i64 al, .int .i64 an] 24)) wr.heap.size 24 #[.int .i64 kd, .int .i64 al, .int .i64 an] from Blk.new _ _ _)
      have HT2 := Lib.hid (HT.out.below hb2)
      have HG := Lib.hid (show C + 2 ≤ wr.heap.size from HT.out.sz)
      clear hb2 HT
      go_upto_block 2 with (fail)
      clear e0 e1 e2
      generalize wr.alloc (.cells #[.int .i64 kd, .int .i64 al, .int .i64 an] 24) = w3 at *
      generalize wr.heap.size = g2 at *
      have HW := Lib.hid HT2.out.p.rws
      have HL := Lib.hid (fun j hj => HT2.out.p.rlen (k := j) hj)
      have HCZ := Lib.hid HT2.out.sz
      go_cut [18, 19] (fun ok is wx => ∃ b r', ok = .bool b ∧ is = .bool b ∧ Two w w.heap.size C x gl gm n m wx r' r' ∧ Blk wx g2 24 #[.int .i64 kd, .int .i64 al, .int .i64 an])
      case first =>
        by_cases k0 : kd = 0
        · subst k0
          go_upto_region 14 with (fail)
          go_region_held (fun w' => w'.cell? ⟨g2, 1, none⟩ = some (.int .i64 al) ∧ w'.cell? ⟨g2, 2, none⟩ = some (.int .i64 an))
            (exact ⟨Blk.cell (by repeat (first | with_reducible exact HBK.out | with_reducible apply Blk.alloc | with_reducible apply Blk.drewN | with_reducible apply Blk.drew | exact HBK.out)) 1, Blk.cell (by repeat (first | with_reducible exact HBK.out | with_reducible apply Blk.alloc | with_reducible apply Blk.drewN | with_reducible apply Blk.drew | exact HBK.out)) 2⟩)
            (first
              | (go_at_call 7; (with_reducible refine (ppush (n := n) (m := m) (Two.p (w0 := w) (B := w.heap.size) (C := C) (by repeat (first | with_reducible exact HT2.out | with_reducible apply Two.drewN | with_reducible apply Two.drew | exact HT2.out))) al an (by omega) (by omega)).mono ?_); rintro e w4 ⟨rfl, hp4, ht4⟩; have HBK := Lib.hid (Blk.two (w0 := w) (B := w.heap.size) (C := C) (x := x) (gl := gl) (gm := gm) (n := n) (m := m) (by repeat (first | with_reducible exact HBK.out | with_reducible apply Blk.alloc | with_reducible apply Blk.drewN | with_reducible apply Blk.drew | exact HBK.out)) (by repeat (first | with_reducible exact HT2.out | with_reducible apply Two.drewN | with_reducible apply Two.drew | exact HT2.out)) HG.out (.inl ht4)); have HT2 := Lib.hid (Two.stepP (by repeat (first | with_reducible exact HT2.out | with_reducible apply Two.drewN | with_reducible apply Two.drew | exact HT2.out)) hp4 ht4); clear hp4 ht4)
              | (go_at_call 16; (with_reducible refine (rpush2 (n := n) (m := m) (Two.q (w0 := w) (B := w.heap.size) (C := C) (by repeat (first | with_reducible exact HT2.out | with_reducible apply Two.drewN | with_reducible apply Two.drew | exact HT2.out))) HW.out al an (by omega) (by omega) (by have := HT2.out.szd; simp <;> omega) HL.out).mono ?_); rintro e w4 ⟨rfl, hp4, ht4⟩; have HBK := Lib.hid (Blk.two (w0 := w) (B := w.heap.size) (C := C) (x := x) (gl := gl) (gm := gm) (n := n) (m := m) (by repeat (first | with_reducible exact HBK.out | with_reducible apply Blk.alloc | with_reducible apply Blk.drewN | with_reducible apply Blk.drew | exact HBK.out)) (by repeat (first | with_reducible exact HT2.out | with_reducible apply Two.drewN | with_reducible apply Two.drew | exact HT2.out)) HG.out (.inr ht4)); have HT2 := Lib.hid (Two.stepQ (by repeat (first | with_reducible exact HT2.out | with_reducible apply Two.drewN | with_reducible apply Two.drew | exact HT2.out)) hp4 ht4); clear hp4 ht4))
          all_goals go_wp2
          all_goals go_meet
          all_goals exact ⟨_, _, rfl, rfl, (by repeat (first | with_reducible exact HT2.out | with_reducible apply Two.drewN | with_reducible apply Two.drew | exact HT2.out)), (by repeat (first | with_reducible exact HBK.out | with_reducible apply Blk.alloc | with_reducible apply Blk.drewN | with_reducible apply Blk.drew | exact HBK.out))⟩
        · by_cases k1 : kd = 1
          · subst k1
            go_upto_region 16 with (fail)
            go_region_held (fun w' => w'.cell? ⟨g2, 1, none⟩ = some (.int .i64 al) ∧ w'.cell? ⟨g2, 2, none⟩ = some (.int .i64 an))
              (exact ⟨Blk.cell (by repeat (first | with_reducible exact HBK.out | with_reducible apply Blk.alloc | with_reducible apply Blk.drewN | with_reducible apply Blk.drew | exact HBK.out)) 1, Blk.cell (by repeat (first | with_reducible exact HBK.out | with_reducible apply Blk.alloc | with_reducible apply Blk.drewN | with_reducible apply Blk.drew | exact HBK.out)) 2⟩)
              (first
                | (go_at_call 9; (with_reducible refine (papp (n := n) (m := m) (Two.p (w0 := w) (B := w.heap.size) (C := C) (by repeat (first | with_reducible exact HT2.out | with_reducible apply Two.drewN | with_reducible apply Two.drew | exact HT2.out))) al an (by omega) (by omega)).mono ?_); rintro e w4 ⟨rfl, hp4, ht4⟩; have HBK := Lib.hid (Blk.two (w0 := w) (B := w.heap.size) (C := C) (x := x) (gl := gl) (gm := gm) (n := n) (m := m) (by repeat (first | with_reducible exact HBK.out | with_reducible apply Blk.alloc | with_reducible apply Blk.drewN | with_reducible apply Blk.drew | exact HBK.out)) (by repeat (first | with_reducible exact HT2.out | with_reducible apply Two.drewN | with_reducible apply Two.drew | exact HT2.out)) HG.out (.inl ht4)); have HT2 := Lib.hid (Two.stepP (by repeat (first | with_reducible exact HT2.out | with_reducible apply Two.drewN | with_reducible apply Two.drew | exact HT2.out)) hp4 ht4); clear hp4 ht4)
                | (go_at_call 17; (with_reducible refine (rapp2 (n := n) (m := m) (Two.q (w0 := w) (B := w.heap.size) (C := C) (by repeat (first | with_reducible exact HT2.out | with_reducible apply Two.drewN | with_reducible apply Two.drew | exact HT2.out))) HW.out al an (by omega) (by omega) (by have := HT2.out.szd; simp <;> omega) HL.out).mono ?_); rintro e w4 ⟨rfl, hp4, ht4⟩; have HBK := Lib.hid (Blk.two (w0 := w) (B := w.heap.size) (C := C) (x := x) (gl := gl) (gm := gm) (n := n) (m := m) (by repeat (first | with_reducible exact HBK.out | with_reducible apply Blk.alloc | with_reducible apply Blk.drewN | with_reducible apply Blk.drew | exact HBK.out)) (by repeat (first | with_reducible exact HT2.out | with_reducible apply Two.drewN | with_reducible apply Two.drew | exact HT2.out)) HG.out (.inr ht4)); have HT2 := Lib.hid (Two.stepQ (by repeat (first | with_reducible exact HT2.out | with_reducible apply Two.drewN | with_reducible apply Two.drew | exact HT2.out)) hp4 ht4); clear hp4 ht4))
            all_goals go_wp2
            all_goals go_meet
            all_goals exact ⟨_, _, rfl, rfl, (by repeat (first | with_reducible exact HT2.out | with_reducible apply Two.drewN | with_reducible apply Two.drew | exact HT2.out)), (by repeat (first | with_reducible exact HBK.out | with_reducible apply Blk.alloc | with_reducible apply Blk.drewN | with_reducible apply Blk.drew | exact HBK.out))⟩
          · have k0b : (kd == 0) = false := beq_eq_false_iff_ne.2 k0
            have k1b : (kd == 1) = false := beq_eq_false_iff_ne.2 k1
            go_upto_region 12 with (fail)
            go_region_held (fun w' => w'.cell? ⟨g2, 2, none⟩ = some (.int .i64 an))
              (exact Blk.cell (by repeat (first | with_reducible exact HBK.out | with_reducible apply Blk.alloc | with_reducible apply Blk.drewN | with_reducible apply Blk.drew | exact HBK.out)) 2)
              (first
                | (go_at_call 10; (with_reducible refine (prem2 (n := n) (m := m) (Two.p (w0 := w) (B := w.heap.size) (C := C) (by repeat (first | with_reducible exact HT2.out | with_reducible apply Two.drewN | with_reducible apply Two.drew | exact HT2.out))) an (by omega) (by omega)).mono ?_); rintro e w4 ⟨rfl, hp4, ht4⟩; have HBK := Lib.hid (Blk.two (w0 := w) (B := w.heap.size) (C := C) (x := x) (gl := gl) (gm := gm) (n := n) (m := m) (by repeat (first | with_reducible exact HBK.out | with_reducible apply Blk.alloc | with_reducible apply Blk.drewN | with_reducible apply Blk.drew | exact HBK.out)) (by repeat (first | with_reducible exact HT2.out | with_reducible apply Two.drewN | with_reducible apply Two.drew | exact HT2.out)) HG.out (.inl ht4)); have HT2 := Lib.hid (Two.stepP (by repeat (first | with_reducible exact HT2.out | with_reducible apply Two.drewN | with_reducible apply Two.drew | exact HT2.out)) hp4 ht4); clear hp4 ht4)
                | (go_at_call 18; (with_reducible refine (rrem2 (n := n) (m := m) (Two.q (w0 := w) (B := w.heap.size) (C := C) (by repeat (first | with_reducible exact HT2.out | with_reducible apply Two.drewN | with_reducible apply Two.drew | exact HT2.out))) HW.out an (by omega) (by omega) (by have := HT2.out.szd; simp <;> omega) HL.out).mono ?_); rintro e w4 ⟨rfl, hp4, ht4⟩; have HBK := Lib.hid (Blk.two (w0 := w) (B := w.heap.size) (C := C) (x := x) (gl := gl) (gm := gm) (n := n) (m := m) (by repeat (first | with_reducible exact HBK.out | with_reducible apply Blk.alloc | with_reducible apply Blk.drewN | with_reducible apply Blk.drew | exact HBK.out)) (by repeat (first | with_reducible exact HT2.out | with_reducible apply Two.drewN | with_reducible apply Two.drew | exact HT2.out)) HG.out (.inr ht4)); have HT2 := Lib.hid (Two.stepQ (by repeat (first | with_reducible exact HT2.out | with_reducible apply Two.drewN | with_reducible apply Two.drew | exact HT2.out)) hp4 ht4); clear hp4 ht4))
            all_goals go_wp2
            all_goals go_meet
            all_goals exact ⟨_, _, rfl, rfl, (by repeat (first | with_reducible exact HT2.out | with_reducible apply Two.drewN | with_reducible apply Two.drew | exact HT2.out)), (by repeat (first | with_reducible exact HBK.out | with_reducible apply Blk.alloc | with_reducible apply Blk.drewN | with_reducible apply Blk.drew | exact HBK.out))⟩
      case rest =>
        obtain ⟨b, r', rfl, rfl, ht, hbk⟩ := hcut
        have HT3 := Lib.hid ht; have HBK3 := Lib.hid hbk
        have d1 := hbk.cell 1
        have d2 := hbk.cell 2
        have hbb : (b != b) = false := bne_self_eq_false b
        clear ht hbk HT2 HBK HW HL HCZ
        have SM := Lib.hid (fun (l v : Int) (W : World) (hb : Below wc.heap.size wc W) => same07_calls w.heap.size C x gl gm (C + 1) C n m r' l v W (HT3.out.below hb).p ((RLb (HT3.out.below hb).q (HT3.out.below hb).bC)) (by omega) (by omega))
        have R0 := Lib.hid (Below.refl wc.heap.size wc)
        go_wp2_with (first
          | (go_at_call 19; (with_reducible refine (SM.out at_ nd wc R0.out).mono ?_); rintro e w5 ⟨rfl, hb⟩; have R5 := Lib.hid hb; have f1 := bget hb d1; have f2 := bget hb d2; clear hb)
          | (go_at_call 19; (with_reducible refine (SM.out al an w5 R5.out).mono ?_); rintro e w6 ⟨rfl, hb⟩; have R6 := Lib.hid (below_step R5.out hb); clear hb))
        exact ⟨⟨k + 1, r', by omega, by go_num, HT3.out.below R6.out⟩, by simp [intOf]; omega⟩
    · obtain rfl : k = N := by omega
      have hq : (¬ (k : Int) < L.length) ∨ (k : Int) < L.length ∧ ¬ (k : Int) < 50 := by have := HN.out; omega
      have SM := Lib.hid (fun (l v : Int) (W : World) (hb : Below wr.heap.size wr W) => same07_calls w.heap.size C x gl gm (C + 1) C n m r l v W (HT.out.below hb).p ((RLb (HT.out.below hb).q (HT.out.below hb).bC)) (by omega) (by omega))
      clear H HN hc hN1
      rcases hq with hq | ⟨hq2, hq⟩
      all_goals (
        go_wp2
        go_loopw [20] (fun i wx => ∃ j : Nat, j ≤ m ∧ i = .int .i64 (j : Int) ∧ Below wr.heap.size wr wx) (fun i _ => m - (intOf i).toNat)
        case atStart => exact ⟨0, by omega, rfl, Below.refl _ _⟩
        case round =>
          obtain ⟨j, hj, rfl, hb⟩ := hrel
          have HBx := Lib.hid hb
          clear hb
          by_cases hjm : j < m
          · have hjmi : (j : Int) < m := by omega
            have SJ := Lib.hid (SM.out j nd _ HBx.out)
            go_wp2_with (go_at_call 19; (with_reducible refine (SJ.out).mono ?_); rintro e w6 ⟨rfl, hb⟩; have R6 := Lib.hid (below_step HBx.out hb); clear hb)
            go_roundw
            case rel => exact ⟨j + 1, by omega, by go_num, R6.out⟩
            case measure => simp [intOf]; omega
          · obtain rfl : j = m := by omega
            have AW := Lib.hid (fun W => awake07_calls W)
            go_wp2_with (go_at_call 14; (with_reducible refine (AW.out _).mono ?_); rintro e w7 ⟨rfl, hb⟩; have R7 := Lib.hid (below_step HBx.out hb); clear hb)
            go_ret
            exact ⟨rfl, (HT.out.below R7.out).bel⟩)
end Go.Proofs.Ytcmcljdecmbceaa.Ct
