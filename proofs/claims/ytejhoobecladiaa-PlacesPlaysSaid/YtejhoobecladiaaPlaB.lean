import Derived.Test.YtejhoobecladiaaPlaA
/-! Chapter 27: Drop. -/
namespace Go.Proofs.Ytejhoobecladiaa.Ct
open Go.RowKit
set_option linter.unusedVariables false
set_option linter.unusedSimpArgs false
def updV (f : Nat → Value) (i : Nat) (v : Value) : Nat → Value := fun j => if j = i then v else f j
theorem valsV_upd (f : Nat → Value) (N i : Nat) (v : Value) : (valsV f N).toArray.setIfInBounds i v = (valsV (updV f i v) N).toArray :=
  valsV_set N i v (if_pos rfl) (fun j hj => if_neg hj)
theorem cel27_upd (s : Nat → One27) (i : Nat) (v : One27) : updV (updV (updV (cel27 s) (i * 3) (.int .i64 v.lba)) (i * 3 + 1) (.int .u64 v.tag)) (i * 3 + 2) (.bool v.sure) = cel27 (updO s i v) := by
  funext j
  unfold updV
  by_cases h2 : j = i * 3 + 2
  · subst h2; rw [if_pos rfl, cel27_2, updO_eq]
  · rw [if_neg h2]
    by_cases h1 : j = i * 3 + 1
    · subst h1; rw [if_pos rfl, cel27_1, updO_eq]
    · rw [if_neg h1]
      by_cases h0 : j = i * 3
      · subst h0; rw [if_pos rfl, cel27_0, updO_eq]
      · rw [if_neg h0]
        unfold cel27
        rw [updO_ne (by omega)]
/-- the blocks that places own. -/
def Mine27 (x gl gw : Nat) : Nat → Prop := fun b => b = x ∨ b = gl ∨ b = gw
section
variable {base x gl gw n m : Nat} {w w1 : World} {s : Nat → One27} {wh : Nat → Nat} {k : Int}
theorem PS.setL (h : PS base w x gl gw n m s wh k) (i : Nat) (v : One27) :
    PS base (((w.setCell ⟨gl, i * 3, none⟩ (.int .i64 v.lba)).setCell ⟨gl, i * 3 + 1, none⟩ (.int .u64 v.tag)).setCell ⟨gl, i * 3 + 2, none⟩ (.bool v.sure)) x gl gw n m (updO s i v) wh k := by
  obtain ⟨n1, n2, n3⟩ := h.ne
  refine ⟨h.bx, h.bl, h.bw, ((h.kx.far (by simpa using n1) _).far (by simpa using n1) _).far (by simpa using n1) _, ?_, ((h.kw.far (by simpa using Ne.symm n3) _).far (by simpa using Ne.symm n3) _).far (by simpa using Ne.symm n3) _⟩
  have h3 := ((h.kl.set_ (i * 3) (.int .i64 v.lba)).set_ (i * 3 + 1) (.int .u64 v.tag)).set_ (i * 3 + 2) (.bool v.sure)
  rw [valsV_upd, valsV_upd, valsV_upd, cel27_upd] at h3
  exact h3
theorem PS.setW (h : PS base w x gl gw n m s wh k) (b v : Nat) : PS base (w.setCell ⟨gw, b, none⟩ (.int .i64 (v : Int))) x gl gw n m s (updW wh b v) k := by
  obtain ⟨n1, n2, n3⟩ := h.ne
  refine ⟨h.bx, h.bl, h.bw, h.kx.far (by simpa using n2) _, h.kl.far (by simpa using n3) _, ?_⟩
  have h3 := h.kw.set_ b (.int .i64 (v : Int))
  have e : (valsV (fun b => .int .i64 (wh b : Int)) n).toArray.setIfInBounds b (.int .i64 (v : Int)) = (valsV (fun c => .int .i64 (updW wh b v c : Int)) n).toArray :=
    valsV_set n b _ (by rw [updW_eq]) (fun c hc => by rw [updW_ne hc])
  rw [e] at h3
  exact h3
theorem PS.setM (h : PS base w x gl gw n m s wh k) (v : Int) : PS base (w.setCell ⟨x, 2, none⟩ (.int .i64 v)) x gl gw n m s wh v := by
  obtain ⟨n1, n2, n3⟩ := h.ne
  exact ⟨h.bx, h.bl, h.bw, h.kx.set_ 2 _, h.kl.far (by simpa using Ne.symm n1) _, h.kw.far (by simpa using Ne.symm n2) _⟩
theorem PS.drew (h : PS base w x gl gw n m s wh k) : PS base w.drew x gl gw n m s wh k := h.below (below_drew (Below.refl _ _))
theorem PS.fz (h : PS base w x gl gw n m s wh k) (i : Nat) : w.frozen? ⟨gl, i, none⟩ = false ∧ w.frozen? ⟨gw, i, none⟩ = false ∧ w.frozen? ⟨x, i, none⟩ = false := ⟨h.kl.frozen i, h.kw.frozen i, h.kx.frozen i⟩
end
/-- a slot that has none. -/
theorem drop_zero (p : Option Addr) (l : Int) (w : World) (h : Calls Try.prog 25 #[.pointer p, .int .i64 l] w fun e w' => e = .returned (oneV o27) ∧ Below w.heap.size w w') : Calls Try.prog 8 #[.pointer p, .int .i64 l] w fun e w' => e = .returned (.tuple #[.int .i64 0, .bool false]) ∧ Below w.heap.size w w' := by
  have H := Lib.hid (show Calls Try.prog 25 #[.pointer p, .int .i64 l] w fun e w' => e = .returned (.agg #[.int .i64 0, .int .u64 0, .bool false]) ∧ Below w.heap.size w w' from h)
  clear h
  go_enter Try.func8, Try.ntmps8
  go_wp2_with (go_at_call 25; (with_reducible refine (H.out).mono ?_); rintro e w1 ⟨rfl, hb⟩; have HB := Lib.hid hb; clear hb)
  go_ret2
  exact ⟨rfl, HB.out.alloc HB.out.size _⟩
set_option maxHeartbeats 4000000 in
theorem drop_ok {base x gl gw n m : Nat} {w : World} {s : Nat → One27} {wh : Nat → Nat} {k : Int} (h : PS base w x gl gw n m s wh k) (hp : PInv n m s wh) {i : Nat} (hi : i < m) (hn : n ≤ 100000) (h0 : (s i).lba ≠ 0) (hk : 0 < k ∧ k ≤ 100000) :
    Calls Try.prog 8 #[.pointer (some ⟨x, 0, none⟩), .int .i64 i] w fun e w' => e = .returned (.tuple #[.int .i64 (((s i).lba - 1 : Nat) : Int), .bool true]) ∧ PS base w' x gl gw n m (updO s i o27) (updW wh ((s i).lba - 1) 0) (k - 1) ∧ TchS (Mine27 x gl gw) w w' := by
  have AC := Lib.hid (at_ok h hi)
  have hln := (hp.lo i hi h0).1
  obtain ⟨q, hq⟩ : ∃ q, (s i).lba = q + 1 := ⟨(s i).lba - 1, by omega⟩
  unfold oneV at AC
  rw [hq] at AC hln ⊢
  rw [Nat.add_sub_cancel]
  have AC := Lib.hid (show Calls Try.prog 25 #[.pointer (some ⟨x, 0, none⟩), .int .i64 i] w fun e w' => e = .returned (.agg #[.int .i64 ((q : Int) + 1), .int .u64 (s i).tag, .bool (s i).sure]) ∧ Below w.heap.size w w' from AC.out)
  have H := Lib.hid h
  generalize (s i).tag = tg at *
  generalize (s i).sure = su at *
  have hz2 : ¬ ((q : Int) + 1 = 0) := by omega
  have hzb : (((q : Int) + 1) == 0) = false := beq_eq_false_iff_ne.2 hz2
  obtain ⟨k0, k1⟩ := hk
  have hi3 : (i : Int) < m := by omega
  clear h hp h0 hq
  go_enter Try.func8, Try.ntmps8
  go_upto_region 2 with (go_at_call 25; (with_reducible refine (AC.out).mono ?_); rintro e w1 ⟨rfl, hb⟩; have HB := Lib.hid hb; clear hb)
  have HK := Lib.hid (Blk.new w1 63 #[.int .i64 ((q : Int) + 1), .int .u64 tg, .bool su])
  have HB2 := Lib.hid (HB.out.alloc HB.out.size (.cells #[.int .i64 ((q : Int) + 1), .int .u64 tg, .bool su] 63))
  have H2 := Lib.hid (H.out.below HB2.out)
  have HG := Lib.hid (show gl ≠ w1.heap.size ∧ gw ≠ w1.heap.size ∧ x ≠ w1.heap.size from ⟨by have := (H.out.below HB.out).kl.lt; omega, by have := (H.out.below HB.out).kw.lt; omega, by have := (H.out.below HB.out).kx.lt; omega⟩)
  generalize w1.alloc (.cells #[.int .i64 ((q : Int) + 1), .int .u64 tg, .bool su] 63) = w2 at *
  generalize w1.heap.size = g at *
  clear H HB AC
  have d0 := HK.out.cell 0
  obtain ⟨c0, c1, c2⟩ := H2.out.cx
  have f0 := (H2.out.fz (i * 3)).1
  have f1 := (H2.out.fz (i * 3 + 1)).1
  have f2 := (H2.out.fz (i * 3 + 2)).1
  obtain ⟨e0, e1, e2⟩ := H2.out.cl (by omega : i < m)
  go_upto_region 5 with (fail)
  have H3 := Lib.hid (show PS base (((w2.setCell ⟨gl, i * 3, none⟩ (.int .i64 0)).setCell ⟨gl, i * 3 + 1, none⟩ (.int .u64 0)).setCell ⟨gl, i * 3 + 2, none⟩ (.bool false)) x gl gw n m (updO s i o27) wh k from H2.out.setL i o27)
  have T3 := Lib.hid (show TchS (Mine27 x gl gw) w (((w2.setCell ⟨gl, i * 3, none⟩ (.int .i64 0)).setCell ⟨gl, i * 3 + 1, none⟩ (.int .u64 0)).setCell ⟨gl, i * 3 + 2, none⟩ (.bool false)) from (((TchS.of_below HB2.out).set_ (.inr (.inl rfl)) _).set_ (.inr (.inl rfl)) _).set_ (.inr (.inl rfl)) _)
  have K3 := Lib.hid (show Blk (((w2.setCell ⟨gl, i * 3, none⟩ (.int .i64 0)).setCell ⟨gl, i * 3 + 1, none⟩ (.int .u64 0)).setCell ⟨gl, i * 3 + 2, none⟩ (.bool false)) g 63 #[.int .i64 ((q : Int) + 1), .int .u64 tg, .bool su] from ((HK.out.far (by simpa using Ne.symm HG.out.1) _).far (by simpa using Ne.symm HG.out.1) _).far (by simpa using Ne.symm HG.out.1) _)
  clear d0 c0 c1 c2 f0 f1 f2 e0 e1 e2 H2 HK HB2
  generalize ((w2.setCell ⟨gl, i * 3, none⟩ (.int .i64 0)).setCell ⟨gl, i * 3 + 1, none⟩ (.int .u64 0)).setCell ⟨gl, i * 3 + 2, none⟩ (.bool false) = w3 at *
  have d0 := K3.out.cell 0
  have c1 := H3.out.cx.2.1
  have f1 := (H3.out.fz q).2.1
  have e1 := H3.out.cw (by omega : q < n)
  have hqi : (q : Int) < n := by omega
  go_region
  have H4 := Lib.hid (show PS base ((w3.setCell ⟨gw, q, none⟩ (.int .i64 0)).drew) x gl gw n m (updO s i o27) (updW wh q 0) k from (H3.out.setW q 0).drew)
  have T4 := Lib.hid ((T3.out.set_ (p := ⟨gw, q, none⟩) (.inr (.inr rfl)) (.int .i64 0)).drew)
  have K4 := Lib.hid ((K3.out.far (p := ⟨gw, q, none⟩) (by simpa using Ne.symm HG.out.2.1) (.int .i64 0)).drew)
  clear d0 c1 f1 e1 H3 T3 K3
  generalize (w3.setCell ⟨gw, q, none⟩ (.int .i64 0)).drew = w4 at *
  have d0 := K4.out.cell 0
  have c2 := H4.out.cx.2.2
  have f2 := (H4.out.fz 2).2.2
  have K5 := Lib.hid (K4.out.far (p := ⟨x, 2, none⟩) (by simpa using Ne.symm HG.out.2.2) (.int .i64 (k - 1)))
  have d1 := K5.out.cell 0
  go_wp2
  go_ret2
  exact ⟨rfl, H4.out.setM (k - 1), T4.out.set_ (.inl rfl) _⟩
end Go.Proofs.Ytejhoobecladiaa.Ct
