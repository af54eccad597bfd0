import Derived.Test.YtejhoobecladiaaPlaH
/-! Chapter 27: Sure. -/
namespace Go.Proofs.Ytejhoobecladiaa.Ct
open Go.RowKit
set_option linter.unusedVariables false
set_option linter.unusedSimpArgs false
theorem psure_zero (p : Option Addr) (l t : Int) (w : World) (h : Calls Try.prog 25 #[.pointer p, .int .i64 l] w fun e w' => e = .returned (oneV o27) ∧ Below w.heap.size w w') : Calls Try.prog 22 #[.pointer p, .int .i64 l, .int .u64 t] w fun e w' => e = .returned (.bool false) ∧ Below w.heap.size w w' := by
  have H := Lib.hid (show Calls Try.prog 25 #[.pointer p, .int .i64 l] w fun e w' => e = .returned (.agg #[.int .i64 0, .int .u64 0, .bool false]) ∧ Below w.heap.size w w' from h)
  clear h
  go_enter Try.func22, Try.ntmps22
  go_wp2_with (go_at_call 25; (with_reducible refine (H.out).mono ?_); rintro e w1 ⟨rfl, hb⟩; have HB := Lib.hid hb; clear hb)
  go_ret
  exact ⟨rfl, HB.out.alloc HB.out.size _⟩
set_option maxHeartbeats 4000000 in
theorem psure_ok {base x gl gw n m : Nat} {w : World} {s : Nat → One27} {wh : Nat → Nat} {k : Int} (h : PS base w x gl gw n m s wh k) {i : Nat} (hi : i < m) (hl : (s i).lba ≤ 100000) (h0 : (s i).lba ≠ 0) (t : Int) :
    Calls Try.prog 22 #[.pointer (some ⟨x, 0, none⟩), .int .i64 i, .int .u64 t] w fun e w' => e = .returned (.bool true) ∧ PS base w' x gl gw n m (updO s i ⟨(s i).lba, t, true⟩) wh k ∧ TchS (Mine27 x gl gw) w w' := by
  have AC := Lib.hid (at_ok h hi)
  obtain ⟨q, hq⟩ : ∃ q, (s i).lba = q + 1 := ⟨(s i).lba - 1, by omega⟩
  unfold oneV at AC
  rw [hq] at AC hl ⊢
  have AC := Lib.hid (show Calls Try.prog 25 #[.pointer (some ⟨x, 0, none⟩), .int .i64 i] w fun e w' => e = .returned (.agg #[.int .i64 ((q : Int) + 1), .int .u64 (s i).tag, .bool (s i).sure]) ∧ Below w.heap.size w w' from AC.out)
  have H := Lib.hid h
  generalize (s i).tag = tg at *
  generalize (s i).sure = su at *
  have hz2 : ¬ ((q : Int) + 1 = 0) := by omega
  have hzb : (((q : Int) + 1) == 0) = false := beq_eq_false_iff_ne.2 hz2
  have hi3 : (i : Int) < m := by omega
  clear h h0 hq
  go_enter Try.func22, Try.ntmps22
  go_upto_region 2 with (go_at_call 25; (with_reducible refine (AC.out).mono ?_); rintro e w1 ⟨rfl, hb⟩; have HB := Lib.hid hb; clear hb)
  have HK := Lib.hid (Blk.new w1 63 #[.int .i64 ((q : Int) + 1), .int .u64 tg, .bool su])
  have HB2 := Lib.hid (HB.out.alloc HB.out.size (.cells #[.int .i64 ((q : Int) + 1), .int .u64 tg, .bool su] 63))
  have H2 := Lib.hid (H.out.below HB2.out)
  have HG := Lib.hid (show gl ≠ w1.heap.size ∧ gw ≠ w1.heap.size ∧ x ≠ w1.heap.size from ⟨by have := (H.out.below HB.out).kl.lt; omega, by have := (H.out.below HB.out).kw.lt; omega, by have := (H.out.below HB.out).kx.lt; omega⟩)
  generalize w1.alloc (.cells #[.int .i64 ((q : Int) + 1), .int .u64 tg, .bool su] 63) = w2 at *
  generalize w1.heap.size = g at *
  clear H HB AC
  have d0 := HK.out.cell 0
  obtain ⟨c0, c1, c2⟩ := H2.out.cx
  have f0 := (H2.out.fz (i * 3)).1
  have f1 := (H2.out.fz (i * 3 + 1)).1
  have f2 := (H2.out.fz (i * 3 + 2)).1
  obtain ⟨e0, e1, e2⟩ := H2.out.cl (by omega : i < m)
  go_upto_region 4 with (fail)
  have H3 := Lib.hid (show PS base ((((w2.setCell ⟨gl, i * 3, none⟩ (.int .i64 ((q : Int) + 1))).setCell ⟨gl, i * 3 + 1, none⟩ (.int .u64 t)).setCell ⟨gl, i * 3 + 2, none⟩ (.bool true)).drew) x gl gw n m (updO s i ⟨q + 1, t, true⟩) wh k from (H2.out.setL i ⟨q + 1, t, true⟩).drew)
  have T3 := Lib.hid (show TchS (Mine27 x gl gw) w ((((w2.setCell ⟨gl, i * 3, none⟩ (.int .i64 ((q : Int) + 1))).setCell ⟨gl, i * 3 + 1, none⟩ (.int .u64 t)).setCell ⟨gl, i * 3 + 2, none⟩ (.bool true)).drew) from ((((TchS.of_below HB2.out).set_ (.inr (.inl rfl)) _).set_ (.inr (.inl rfl)) _).set_ (.inr (.inl rfl)) _).drew)
  go_region
  go_wp2
  go_ret
  exact ⟨rfl, H3.out, T3.out⟩
section
variable {base x gl gw n m : Nat} {w w1 : World} {s : Nat → One27}
theorem sureQ (h : LQ base w x gl gw n m s) (hn : n ≤ 100000) (i t : Int) :
    Calls Try.prog 22 #[.pointer (some ⟨x, 0, none⟩), .int .i64 i, .int .u64 t] w fun e w' => e = .returned (.bool (hasZ m s i)) ∧ LQ base w' x gl gw n m (sureZ m s i t) ∧ TchS (Mine27 x gl gw) w w' := by
  have hle := h.le
  obtain ⟨wh, h⟩ := h
  cases hl : hasZ m s i with
  | false =>
    have e : sureZ m s i t = s := if_neg (by rw [hl]; simp)
    rw [e]
    have ha : Calls Try.prog 25 #[.pointer (some ⟨x, 0, none⟩), .int .i64 i] w fun e w' => e = .returned (oneV o27) ∧ Below w.heap.size w w' := by
      unfold hasZ at hl
      cases hi : inZ m i with
      | false => exact at27_out h hi
      | true =>
        rw [hi] at hl
        obtain ⟨i, rfl, hi'⟩ := inZ_true hi
        have h0 : (s i).lba = 0 := by simpa using hl
        have := at_ok h.ps hi'
        rw [h.inv.no i h0] at this
        exact this
    exact (psure_zero _ _ t w ha).mono fun e w' ⟨h1, h2⟩ => ⟨h1, ⟨wh, h.below h2⟩, TchS.of_below h2⟩
  | true =>
    have e : sureZ m s i t = updO s i.toNat ⟨(s i.toNat).lba, t, true⟩ := if_pos hl
    rw [e]
    unfold hasZ at hl
    rw [Bool.and_eq_true] at hl
    obtain ⟨i, rfl, hi'⟩ := inZ_true hl.1
    have h0 : (s i).lba ≠ 0 := by simpa using hl.2
    rw [Int.toNat_natCast]
    refine (psure_ok h.ps hi' (Nat.le_trans (hle i) hn) h0 t).mono ?_
    rintro e w' ⟨h1, h2, h3⟩
    refine ⟨h1, ⟨wh, ?_, h.inv.sure h0 t true⟩, h3⟩
    have : cnt27 (updO s i ⟨(s i).lba, t, true⟩) m = cnt27 s m := by
      have := cnt27_upd (s := s) (v := ⟨(s i).lba, t, true⟩) hi'
      rw [if_neg h0] at this
      omega
    rw [this]
    exact h2
theorem plenQ (h : LQ base w x gl gw n m s) : Calls Try.prog 12 #[.pointer (some ⟨x, 0, none⟩)] w fun e w' => e = .returned (.int .i64 (cnt27 s m : Nat)) ∧ w = w' := by
  obtain ⟨wh, h⟩ := h
  exact plen_ok x _ w h.cx.2.2
end
end Go.Proofs.Ytejhoobecladiaa.Ct
