import Derived.Test.YthdknlnbpedlpaaDoorLaw03A
/-! Chapter 03: OctetNobody. -/
namespace Go.Proofs.YthdknlnbpedlpaaDoor.Ct
open Go.RowKit
set_option linter.unusedVariables false
set_option linter.unusedSimpArgs false
set_option maxHeartbeats 4000000 in
theorem nobody_walk (a : Option Addr) (cap : Nat) (xs0 : List Int) (n width : Int) (w : World) (hc : xs0.length ≤ cap) (hm : cap ≤ 9223372036854775807) (h : Row .u8 w a xs0)
    (hn : I64 n) (hwd : I64 width) (hT : Dig w) :
    Calls Tryd.prog 5 #[.slice a xs0.length cap, .int .i64 n, .int .i64 width] w fun e w' => e = .returned (.bool true) ∧ Below w.heap.size w w' := by
  have FA := Lib.hid (few_calls a cap xs0 w h hc hm)
  have hx := h.take 200
  have hlx : (xs0.take 200).length ≤ 200 := List.length_take_le _ _
  have hcx : (xs0.take 200).length ≤ cap := by rw [List.length_take]; omega
  clear h hc
  generalize xs0.take 200 = xs at *
  have kc := fun (w' : World) (hb : Below w.heap.size w w') => run_str (P := Tryd.prog) 23 5 9 Tryd.underlying23 Tryd.underlying5 Tryd.underlying9 a cap xs (hx.below hb)
  generalize strOfNums xs = ts at *
  have hk0 := kc _ ((Below.refl w.heap.size w).alloc (Nat.le_refl _) (.cells #[.slice none 0 0, .bool false, .bool false] 43))
  have KC := Lib.hid kc; clear kc
  have HT := Lib.hid hT; clear hT
  have B0 := (Below.refl w.heap.size w).alloc (Nat.le_refl _) (.cells #[.slice none 0 0, .bool false, .bool false] 43)
  have O0 := Lib.hid (rd_new (w := w) (made := false) (bad := false) 43 (lies_nil w w.heap.size))
  have RC := Lib.hid (read_calls a cap xs _ (hx.below B0) (by omega))
  have ex : takeS (xs, false) xs.length = (xs, ([], false)) := by rw [takeS_in (Nat.le_refl _), List.take_length, List.drop_length]
  have bc := fun (w1 : World) g (h : Rd w1 g g (xs, false) true) => bytes_calls g g (xs, false) xs.length w1 h (by simp; omega) (by omega) (by omega)
  rw [ex] at bc
  have BC := Lib.hid bc; clear bc ex
  have HB0 := Lib.hid B0; clear B0 hx
  obtain ⟨w0, w1⟩ := hwd
  obtain ⟨n0, n1⟩ := hn
  have UN := Lib.hid (fun w => u_dead (.pointer none) width w (fun n => take_nil n w))
  have BN := Lib.hid (fun w => bytes_dead (.pointer none) n w (fun n => take_nil n w))
  have LN := Lib.hid left_nil
  have DN := Lib.hid done_nil
  have NB := Lib.hid bad_nil
  have UO := Lib.hid (fun (w1 : World) (h : Rd w1 w.heap.size w.heap.size ([], false) false) => u_dead (.pointer (some ⟨w.heap.size, 0, none⟩)) width w1 (fun n => take_odd _ _ _ n w1 h))
  have BO := Lib.hid (fun (w1 : World) (h : Rd w1 w.heap.size w.heap.size ([], false) false) => bytes_dead (.pointer (some ⟨w.heap.size, 0, none⟩)) n w1 (fun n => take_odd _ _ _ n w1 h))
  have LO := Lib.hid (fun (w1 : World) (h : Rd w1 w.heap.size w.heap.size ([], false) false) => left_calls _ _ _ _ w1 h)
  have NO := Lib.hid (fun (w1 : World) (h : Rd w1 w.heap.size w.heap.size ([], false) false) => bad_calls _ _ _ _ w1 h)
  have DO := Lib.hid (fun (w1 : World) (h : Rd w1 w.heap.size w.heap.size ([], false) false) => done_calls _ _ _ _ w1 h)
  go_enter Tryd.func5, Tryd.ntmps5
  go_wp2_with (first
    | (go_at_call 15; (with_reducible refine (FA.out).mono ?_); rintro e w' ⟨rfl, rfl⟩)
    | (go_at_call 9; (with_reducible refine (RC.out).mono ?_); rintro e w1 ⟨g, rfl, hg, hrd, hb⟩; have HG := Lib.hid hg; have HR := Lib.hid hrd; have HB := Lib.hid hb; clear hg hrd hb)
    | (go_at_call 17; (with_reducible refine (BC.out _ _ HR.out).mono ?_); rintro e w2 ⟨v, rfl, ho, -, hgr⟩; have HO := Lib.hid (ho.mono (show w.heap.size + 1 ≤ _ by have := HB.out.size; simpa using this)); have HGR := Lib.hid hgr; clear ho hgr))
  have B2 := Lib.hid (show Below (w.heap.size + 1) (w.alloc (.cells #[.slice none 0 0, .bool false, .bool false] 43)) w2 from below_of_grown (HB.out.mono (by simp)) HGR.out (by have := HB.out.size; simpa using this) (by have := HG.out; simpa using this))
  obtain ⟨xa, xc, rfl, hxc, hxm, -, -, hxb⟩ := HO.out.form
  go_loopw [11] (fun i wr => ∃ (m : Nat) (ys : List Int), m ≤ xs.length ∧ i = .int .i64 m ∧ ys.length = xs.length ∧ Own .u8 5 wr (w.heap.size + 1) (.slice xa xs.length xc) ys ∧ Below (w.heap.size + 1) (w.alloc (.cells #[.slice none 0 0, .bool false, .bool false] 43)) wr) (fun i _ => xs.length - (intOf i).toNat)
  case atStart => exact ⟨0, xs, by omega, rfl, rfl, HO.out, B2.out⟩
  case round =>
    clear HO B2 HR HB HG HGR RC BC
    obtain ⟨m, ys, hm, rfl, hyl, hown, hbel⟩ := hrel
    have HO := Lib.hid hown; clear hown
    have B2 := Lib.hid hbel; clear hbel
    by_cases hlt : m < xs.length
    · obtain ⟨a', c', hv, -, -, hr, -, hnf⟩ := HO.out.form
      simp only [Value.slice.injEq] at hv
      obtain ⟨rfl, -, rfl⟩ := hv
      obtain ⟨ad, rfl, hc, hwf⟩ := hr.at_ (show m < ys.length by omega)
      obtain ⟨had, hba, hfz⟩ := hnf ad rfl
      obtain ⟨blk, off, spot⟩ := ad
      simp only [Addr.mk.injEq, true_and] at had
      obtain ⟨rfl, rfl⟩ := had
      have hb := bounds_u8 hwf
      rw [add_plain] at hc
      generalize ys.getD m 0 = c at *
      obtain ⟨hb0, hb1⟩ := hb
      have hfm := hfz m
      simp only at hfm
      have hz0 : 0 ≤ IntKind.u8.wrap (c + 1) := by rw [u8_def]; omega
      have hz1 : IntKind.u8.wrap (c + 1) ≤ 255 := by rw [u8_def]; omega
      have HS := Lib.hid (HO.out.store (n := xs.length) hyl.symm m (by omega) _ (u8_wf hz0 hz1))
      have BS := Lib.hid (B2.out.setCell (p := ⟨blk, m, none⟩) hba (.int .u8 (IntKind.u8.wrap (c + 1))))
      have HYL := Lib.hid hyl
      clear hr hnf hfz hwf hz0 hz1 hxb hyl hba
      go_wp2
      go_roundw
      case rel => exact ⟨m + 1, _, by omega, by go_num, by rw [List.length_set]; exact HYL.out, HS.out, BS.out⟩
      case measure => simp [intOf]; omega
    · have HRd := Lib.hid (O0.out.below (by simpa using B2.out))
      have BW := Lib.hid (show Below w.heap.size w wr from Below.trans ((Below.refl w.heap.size w).alloc (Nat.le_refl _) _) (B2.out.mono (by omega)))
      have hcv := KC.out wr BW.out
      have AW := Lib.hid (awake_calls wr (HT.out.below BW.out))
      go_wp2_with (first
        | (go_at_call 10; (with_reducible refine (UN.out _).mono ?_); rintro e w' ⟨rfl, rfl⟩)
        | (go_at_call 10; (with_reducible refine (UO.out _ HRd.out).mono ?_); rintro e w' ⟨rfl, rfl⟩)
        | (go_at_call 17; (with_reducible refine (BN.out _).mono ?_); rintro e w' ⟨rfl, rfl⟩)
        | (go_at_call 17; (with_reducible refine (BO.out _ HRd.out).mono ?_); rintro e w' ⟨rfl, rfl⟩)
        | (go_at_call 19; (with_reducible refine (LN.out _).mono ?_); rintro e w' ⟨rfl, rfl⟩)
        | (go_at_call 19; (with_reducible refine (LO.out _ HRd.out).mono ?_); rintro e w' ⟨rfl, rfl⟩)
        | (go_at_call 20; (with_reducible refine (NB.out _).mono ?_); rintro e w' ⟨rfl, rfl⟩)
        | (go_at_call 20; (with_reducible refine (NO.out _ HRd.out).mono ?_); rintro e w' ⟨rfl, rfl⟩)
        | (go_at_call 13; (with_reducible refine (DN.out _).mono ?_); rintro e w' ⟨rfl, rfl⟩)
        | (go_at_call 13; (with_reducible refine (DO.out _ HRd.out).mono ?_); rintro e w' ⟨rfl, rfl⟩)
        | (go_at_call 14; (with_reducible refine (AW.out).mono ?_); rintro e w4 ⟨rfl, hb⟩; have HB4 := Lib.hid (below_step BW.out hb); clear hb))
      go_ret
      exact ⟨rfl, HB4.out⟩
end Go.Proofs.YthdknlnbpedlpaaDoor.Ct
