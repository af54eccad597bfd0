import Derived.Test.YthmhpjpnlngaoaaDoorLeafA
import Derived.Test.YthmhpjpnlngaoaaDoorHeld
/-! Leaves: the reference's may, May. -/
namespace Go.Proofs.YthmhpjpnlngaoaaDoor.Ct
open Go.RowKit
set_option linter.unusedVariables false
set_option linter.unusedSimpArgs false
def entC (x : En) : Array Value := #[.int .i64 x.slot, .int .i64 x.lba, .int .u64 x.tag]
set_option maxHeartbeats 4000000 in
theorem rmayE_calls (x : En) (no last : Int) (w : World) (hno : 0 ≤ no ∧ no ≤ 65535) (hl : -1 ≤ last) : Calls Tryd.prog 46 #[.agg (entC x), .int .i64 no, .int .i64 last] w fun e w' => e = .returned (.bool (decide (MayE no last x))) ∧ Below w.heap.size w w' := by
  have HB1 := Lib.hid (below_alloc (Below.refl w.heap.size w) (.cells (entC x) 52))
  have D := Lib.hid (show decide (MayE no last x) = decide ((last < x.slot) ∧ (3 * no ≤ x.slot) ∧ (x.slot < 3 * no + 3) ∧ 0 ≤ x.lba ∧ x.lba < 65536 ∧ 1 ≤ x.tag ∧ x.tag ≤ 4611686018427387904) by
    refine decide_eq_decide.2 ?_; unfold MayE NumOk; omega)
  obtain ⟨hno0, hno1⟩ := hno
  unfold entC at *
  obtain ⟨xs, xl, xt⟩ := x
  dsimp only at *
  go_enter Tryd.func46, Tryd.ntmps46
  go_wp2
  all_goals go_ret
  all_goals rw [D.out]
  all_goals refine ⟨ret_bool ?_, HB1.out⟩
  all_goals (rw [Bool.eq_iff_iff]; simp only [decide_eq_true_eq, Bool.false_eq_true, false_iff, true_iff])
  all_goals omega
set_option maxHeartbeats 4000000 in
theorem rmayL_head (l : Lf) (a : Option Addr) (c : Nat) (w : World) (hl : l.es.length ≤ 9223372036854775807) (hh : ¬ HeadL l) :
    Calls Tryd.prog 25 #[leafV l a c] w fun e w' => e = .returned (.bool false) ∧ Below w.heap.size w w' := by
  have hs : l.no < 0 ∨ 65535 < l.no ∨ l.snap < 1 ∨ 4611686018427387904 < l.snap ∨ 3 < l.es.length := by
    unfold HeadL NumOk at hh; omega
  clear hh
  have HB1 := Lib.hid (below_alloc (Below.refl w.heap.size w) (.cells (leafC l a c) 25))
  unfold leafV leafC at *
  obtain ⟨no, snap, es⟩ := l
  dsimp only at *
  generalize es.length = n at *
  by_cases h0 : no < 0
  · clear hs
    go_enter Tryd.func25, Tryd.ntmps25
    go_wp2
    go_ret
    exact ⟨rfl, HB1.out⟩
  by_cases h1 : 65535 < no
  · clear hs
    go_enter Tryd.func25, Tryd.ntmps25
    go_wp2
    go_ret
    exact ⟨rfl, HB1.out⟩
  by_cases h2 : snap < 1
  · clear hs
    go_enter Tryd.func25, Tryd.ntmps25
    go_wp2
    go_ret
    exact ⟨rfl, HB1.out⟩
  by_cases h3 : 4611686018427387904 < snap
  · clear hs
    go_enter Tryd.func25, Tryd.ntmps25
    go_wp2
    go_ret
    exact ⟨rfl, HB1.out⟩
  have h4 : (3 : Int) < n := by omega
  clear hs
  go_enter Tryd.func25, Tryd.ntmps25
  go_wp2
  go_ret
  exact ⟨rfl, HB1.out⟩
set_option maxHeartbeats 8000000 in
theorem rmayL_yes (l : Lf) (a : Option Addr) (c : Nat) (w : World) (h : RowE w a l.es) (hw : WfL l) (hc : l.es.length ≤ c) (hm : c ≤ 9223372036854775807) (hh : HeadL l) :
    Calls Tryd.prog 25 #[leafV l a c] w fun e w' => e = .returned (.bool (rowOk l.no (-1) l.es)) ∧ Below w.heap.size w w' := by
  obtain ⟨h1, ⟨h2, h2'⟩, h3⟩ := hh
  have HB1 := Lib.hid (below_alloc (Below.refl w.heap.size w) (.cells (leafC l a c) 25))
  have HK1 := Lib.hid (show Blk (w.alloc (.cells (leafC l a c) 25)) w.heap.size 25 (leafC l a c) from Blk.new _ _ _)
  have H := Lib.hid h
  have WF := Lib.hid hw.2.2
  have hn3 : (l.es.length : Int) ≤ 3 := by omega
  have MC := Lib.hid (fun x last w (hl : -1 ≤ last) => rmayE_calls x l.no last w h1 hl)
  have ST := Lib.hid (fun i (hi : i < l.es.length) => rowOk_step (no := l.no) hi)
  have S0 := Lib.hid (show lastS l.es 0 = -1 from rfl)
  have SN := Lib.hid (fun i => show lastS l.es (i + 1) = (l.es.getD i noEn).slot from by simp [lastS])
  have DN := Lib.hid (show rowOk l.no (lastS l.es l.es.length) (l.es.drop l.es.length) = true by rw [List.drop_length]; rfl)
  have D0 := Lib.hid (show rowOk l.no (lastS l.es 0) (l.es.drop 0) = rowOk l.no (-1) l.es from rfl)
  clear h hw h3
  obtain ⟨hno0, hno1⟩ := h1
  unfold leafV leafC at *
  obtain ⟨no, snap, es⟩ := l
  dsimp only at *
  generalize hro : rowOk no (-1) es = ro at *
  generalize hls : lastS es = ls at *
  clear hro hls
  go_enter Tryd.func25, Tryd.ntmps25
  go_wp2
  go_loopw [3, 4] (fun s i wr => ∃ k : Nat, k ≤ es.length ∧ i = .int .i64 k ∧ s = .int .i64 (ls k) ∧ -1 ≤ ls k ∧ rowOk no (ls k) (es.drop k) = ro ∧ Blk wr w.heap.size 25 #[.int .i64 no, .int .u64 snap, .slice a es.length c] ∧ Below w.heap.size w wr) (fun _ i _ => es.length - (intOf i).toNat)
  case atStart => exact ⟨0, by omega, rfl, by rw [S0.out], by rw [S0.out]; omega, D0.out, HK1.out, HB1.out⟩
  case round =>
    clear HK1 HB1
    obtain ⟨k, hk, rfl, rfl, hge, hrow, hblk, hbel⟩ := hrel
    have HRW := Lib.hid hrow
    by_cases hlt : k < es.length
    · have hlti : (k : Int) < es.length := by omega
      obtain ⟨ad, rfl⟩ := H.out.addr (by omega)
      have st := ST.out k hlt
      have sn := SN.out k
      have e3 := (H.out.below hbel).at_ hlt
      rw [hrow] at st
      generalize hx : es.getD k noEn = x at *
      have SD := Lib.hid (fun W (hb : Below wr.heap.size wr W) => (show (W.cell? ⟨w.heap.size, 0, none⟩ = some (.int .i64 no) ∧ W.cell? ⟨w.heap.size, 2, none⟩ = some (.slice (some ad) es.length c)) ∧ W.cell? (ad.add (k * 3)) = some (.int .i64 x.slot) ∧ W.cell? ⟨(ad.add (k * 3)).block, (ad.add (k * 3)).off + 1, none⟩ = some (.int .i64 x.lba) ∧ W.cell? ⟨(ad.add (k * 3)).block, (ad.add (k * 3)).off + 2, none⟩ = some (.int .u64 x.tag) by
        have hk' := cells3 (hblk.below hb)
        exact ⟨⟨hk'.1.1, hk'.1.2.2⟩, bget hb e3.1, bget hb e3.2.1, bget hb e3.2.2⟩))
      have HKF := Lib.hid (fun W (hb : Below wr.heap.size wr W) => hblk.below hb)
      have HBF := Lib.hid (fun W (hb : Below wr.heap.size wr W) => below_step hbel hb)
      have MC1 := Lib.hid (fun w => MC.out x (ls k) w hge)
      have hx0 : (esAt_wf WF.out hlt).1 = (esAt_wf WF.out hlt).1 := rfl
      obtain ⟨⟨c0, c2⟩, c3, c4, c5⟩ := SD.out wr (Below.refl _ _)
      have HBX := Lib.hid (Below.refl wr.heap.size wr)
      clear hrow hblk hbel e3 hx hx0
      obtain ⟨xs, xl, xt⟩ := x
      dsimp only at *
      unfold entC at MC1
      dsimp only at *
      have STX := Lib.hid st
      have SNX := Lib.hid sn
      clear st sn
      generalize hol : ls k = ol at *
      go_wp2
      go_region_held (fun W => (W.cell? ⟨w.heap.size, 0, none⟩ = some (.int .i64 no) ∧ W.cell? ⟨w.heap.size, 2, none⟩ = some (.slice (some ad) es.length c)) ∧ W.cell? (ad.add (k * 3)) = some (.int .i64 xs) ∧ W.cell? ⟨(ad.add (k * 3)).block, (ad.add (k * 3)).off + 1, none⟩ = some (.int .i64 xl) ∧ W.cell? ⟨(ad.add (k * 3)).block, (ad.add (k * 3)).off + 2, none⟩ = some (.int .u64 xt))
        (exact SD.out _ ((by repeat (first | with_reducible exact HBX.out | with_reducible apply below_alloc | with_reducible apply below_drewN | with_reducible apply below_drew))))
        (first | (go_at_call 46; (with_reducible refine (MC1.out _).mono ?_); rintro e w4 ⟨rfl, hb⟩; have HBX := Lib.hid (below_step ((by repeat (first | with_reducible exact HBX.out | with_reducible apply below_alloc | with_reducible apply below_drewN | with_reducible apply below_drew))) hb); clear hb))
      all_goals
        obtain ⟨⟨c0, c2⟩, c3, c4, c5⟩ := SD.out _ HBX.out
        cases hmy : decide (MayE no ol ⟨xs, xl, xt⟩)
        · have R := Lib.hid (show ro = false by rw [STX.out, hmy]; rfl)
          clear STX
          go_wp2
          go_ret
          rw [R.out]
          exact ⟨rfl, HBF.out _ HBX.out⟩
        · have R := Lib.hid (show rowOk no xs (es.drop (k + 1)) = ro by
            have := STX.out; rw [hmy, SNX.out] at this; exact this.symm)
          have hxs : -1 ≤ xs := by have h9 : ol < xs := (of_decide_eq_true hmy).1; omega
          clear STX
          go_wp2
          go_roundw
          case rel => exact ⟨k + 1, by omega, by go_num, by rw [SNX.out], by rw [SNX.out]; omega, by rw [SNX.out]; exact R.out, HKF.out _ HBX.out, HBF.out _ HBX.out⟩
          case measure => simp [intOf]; omega
    · obtain rfl : k = es.length := by omega
      obtain ⟨⟨k0, k1, k2⟩, -⟩ := cells3 hblk
      have HB := Lib.hid hbel
      have R := Lib.hid (show ro = true by rw [← HRW.out]; exact DN.out)
      clear hblk hbel hrow
      go_wp2
      go_ret
      rw [R.out]
      exact ⟨rfl, HB.out⟩
theorem rmayL_calls (l : Lf) (a : Option Addr) (c : Nat) (w : World) (h : RowE w a l.es) (hw : WfL l) (hc : l.es.length ≤ c) (hm : c ≤ 9223372036854775807) :
    Calls Tryd.prog 25 #[leafV l a c] w fun e w' => e = .returned (.bool (decide (MayL l))) ∧ Below w.heap.size w w' := by
  by_cases hh : HeadL l
  · rw [show decide (MayL l) = rowOk l.no (-1) l.es by unfold MayL; simp [hh]]
    exact rmayL_yes l a c w h hw hc hm hh
  · rw [decide_eq_false (fun k : MayL l => hh k.1)]
    exact rmayL_head l a c w h.len hh
end Go.Proofs.YthmhpjpnlngaoaaDoor.Ct
