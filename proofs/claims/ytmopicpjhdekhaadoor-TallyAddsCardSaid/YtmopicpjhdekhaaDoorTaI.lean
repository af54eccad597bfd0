import Derived.Test.YtmopicpjhdekhaaDoorTaH
import Derived.Test.YtmopicpjhdekhaaDoorRegI
import Derived.Laws.Tables
import Derived.Laws.CopyOwn
/-! tally.both: its two rows. -/
namespace Go.Proofs.YtmopicpjhdekhaaDoor.Ct
open Go.RowKit
set_option linter.unusedVariables false
set_option linter.unusedSimpArgs false
theorem Blk.row {w : World} {g : Nat} {t : TypeId} {cs : Array Value} (h : Blk w g t cs) (new : Array Value) : Blk (w.setRow g new) g t new := setRow_heap w g cs new t (0, 0) h
theorem Blk.rowFar {w : World} {g k : Nat} {t : TypeId} {cs : Array Value} (h : Blk w g t cs) (hk : g ≠ k) (new : Array Value) : Blk (w.setRow k new) g t cs := (setRow_other w k g new hk).trans h
def ptr (g : Nat) : Value := .pointer (some ⟨g, 0, none⟩)
theorem load_blk {P : Program} {ev : Operand → Value} {o : Oper} {w : World} {g : Nat} {t ty : TypeId} {cs : Array Value} {x : Operand} (d : TypeDesc) (ho : o.op = .load ty x) (hx : ev x = ptr g) (h : Blk w g t cs)
    (hu : P.underlying ty = some d) (hd : (match d with | .struct _ | .array _ _ => true | _ => false) = true) (hi : (P.info? ty).map (·.size) = some cs.size) : (execOp ev o).run P w = .ok (.value (.agg cs)) w := by
  unfold execOp
  simp only [ho, hx, ptr, Instr.loadAt, Instr.sureAddr, Sem.run_bind, Sem.run_pure, Result.andThen_ok, run_loadVar_row w g t ty cs (0, 0) d h hu hd hi]
theorem store_blk {P : Program} {ev : Operand → Value} {o : Oper} {w : World} {g : Nat} {t ty : TypeId} {old cs : Array Value} {x y : Operand} (ho : o.op = .store ty x y) (hx : ev x = ptr g) (hy : ev y = .agg cs) (h : Blk w g t old)
    (hi : (P.info? ty).map (·.size) = some cs.size) (hs : old.size = cs.size) (h1 : cs.all (·.oneCell') = true) : (execOp ev o).run P w = .ok .skip (w.setRow g cs) := by
  unfold execOp
  simp only [ho, hx, hy, ptr, Instr.storeAt, Instr.sureAddr, Sem.run_bind, Sem.run_pure, Result.andThen_ok, run_storeVar_row w g t ty old cs h hi hs h1]
theorem tlC_one (f : Nat → Int) : (tlC f).all (·.oneCell') = true := by simp [tlC, Value.oneCell']
theorem of_tl (f : Nat → Int) (w : World) : Calls Tryd.prog 26 #[.agg (tlC f)] w fun e w' => e = .returned (.agg (tlC f)) ∧ Below w.heap.size w w' := of_calls _ _ _ _ _ _ _ _ _ _ _ _ _ _ w
/-- the two rows on their way: what has come up. -/
def BI (base : Nat) (w0 : World) (ga gb : Nat) (tk : Value) (a b : Nat → Int) (d : Nat → Bool) (s : Nat → Value) (W : World) : Prop :=
  s 2 = tk ∧ s 3 = ptr ga ∧ s 4 = ptr gb ∧ Blk W ga 23 (tlC a) ∧ Blk W gb 23 (tlC b) ∧ Below base w0 W ∧ (d 6 = true → d 4 = true) ∧ (d 7 = true → d 5 = true) ∧
  (d 0 = true → s 9 = .agg (tlC a)) ∧ (d 1 = true → s 10 = .agg (tlC a)) ∧ (d 2 = true → s 11 = .agg (tlC b)) ∧ (d 3 = true → s 12 = .agg (tlC b)) ∧
  (d 4 = true → ∃ p, s 6 = ptr p ∧ base ≤ p ∧ p ≠ ga ∧ p ≠ gb ∧ (d 6 = true → Blk W p 48 (tlC a)) ∧ (d 6 = false → Blk W p 48 zero14)) ∧
  (d 5 = true → ∃ q, s 7 = ptr q ∧ base ≤ q ∧ q ≠ ga ∧ q ≠ gb ∧ (d 7 = true → Blk W q 48 (tlC b)) ∧ (d 7 = false → Blk W q 48 zero14)) ∧
  (d 4 = true → d 5 = true → s 6 ≠ s 7)
set_option maxRecDepth 10000 in
set_option maxHeartbeats 4000000 in
theorem bothA_calls (a b : Nat → Int) (g : Nat) (R : Nat → World → Prop) (w : World) (hgw : g < w.heap.size) (h0 : R 0 w) (hst : ∀ k W W', R k W → Below (g + 1) W W' → R k W')
    (hR : ∀ k W, k < 14 → R k W → Calls Tryd.prog 39 #[.int .i64 k, .int .i64 (a k), .int .i64 (b k), .pointer (some ⟨g, 0, none⟩)] W fun e W' => e = .returned (.tuple #[]) ∧ R (k + 1) W' ∧ W.grownBy W' (some g)) :
    Calls Tryd.prog 38 #[.agg (tlC a), .agg (tlC b), .func (.func 39) #[] #[.pointer (some ⟨g, 0, none⟩)]] w fun e w' => e = .returned (.tuple #[]) ∧ R 14 w' ∧ Below g w w' := by
  unfold tlC
  go_enter Tryd.func38, Tryd.ntmps38
  go_upto_region 1 with (fail)
  have Z1 := Lib.hid (Blk.alloc (Blk.new w 23 (tlC a)) (.cells (tlC b) 23))
  have Z2 := Lib.hid (blk_at (w := w.alloc (.cells (tlC a) 23)) (t := 23) (cs := tlC b) (show w.heap.size + 1 = (w.alloc (.cells (tlC a) 23)).heap.size by simp))
  have Z3 := Lib.hid (below_alloc (below_alloc (Below.refl w.heap.size w) (.cells (tlC a) 23)) (.cells (tlC b) 23))
  unfold tlC at Z1 Z2 Z3
  refine wp_region_inv 26 (BI w.heap.size w w.heap.size (w.heap.size + 1) (.func (.func 39) #[] #[.pointer (some ⟨g, 0, none⟩)]) a b) (by kernel_rfl) rfl (by kernel_rfl) (by kernel_rfl) ?_ ?_ ?_
  · exact ⟨rfl, rfl, rfl, Z1.out, Z2.out, below_drew Z3.out, (fun h => by cases h), (fun h => by cases h), (fun h => by cases h), (fun h => by cases h), (fun h => by cases h), (fun h => by cases h), (fun h => by cases h), (fun h => by cases h), (fun h => by cases h)⟩
  · refine ⟨?_, ?_, ?_, ?_, ?_, ?_, ?_, ?_, trivial⟩
    · rintro d s W ⟨h2, h3, h4, ka, kb, bl, g6, g7, q0, q1, q2, q3, q4, q5, q6⟩ hd hw
      refine stp_run rfl (load_blk (g := w.heap.size) _ rfl h3 ka Tryd.underlying23 rfl (by kernel_rfl)) ?_
      exact ⟨h2, h3, h4, ka, kb, bl, g6, g7, fun _ => rfl, q1, q2, q3, q4, q5, q6⟩
    · rintro d s W ⟨h2, h3, h4, ka, kb, bl, g6, g7, q0, q1, q2, q3, q4, q5, q6⟩ hd hw
      have hw : (d 0 && true) = true := hw
      simp only [Bool.and_true] at hw
      have e9 := q0 hw
      refine stp_call 26 (fun _ _ => by kernel_rfl) rfl _ _ rfl #[.agg (tlC a)] (by simp [evS, e9]) ((of_tl a W).mono ?_)
      rintro e W1 ⟨rfl, hb⟩
      refine ⟨_, rfl, h2, h3, h4, ka.below hb, kb.below hb, below_step bl hb, g6, g7, q0, fun _ => rfl, q2, q3, ?_, ?_, q6⟩
      · intro h
        obtain ⟨p, p1, p2, p3, p4, p5, p6⟩ := q4 h
        exact ⟨p, p1, p2, p3, p4, fun h => (p5 h).below hb, fun h => (p6 h).below hb⟩
      · intro h
        obtain ⟨p, p1, p2, p3, p4, p5, p6⟩ := q5 h
        exact ⟨p, p1, p2, p3, p4, fun h => (p5 h).below hb, fun h => (p6 h).below hb⟩
    · rintro d s W ⟨h2, h3, h4, ka, kb, bl, g6, g7, q0, q1, q2, q3, q4, q5, q6⟩ hd hw
      refine stp_run rfl (load_blk (g := w.heap.size + 1) _ rfl h4 kb Tryd.underlying23 rfl (by kernel_rfl)) ?_
      exact ⟨h2, h3, h4, ka, kb, bl, g6, g7, q0, q1, fun _ => rfl, q3, q4, q5, q6⟩
    · rintro d s W ⟨h2, h3, h4, ka, kb, bl, g6, g7, q0, q1, q2, q3, q4, q5, q6⟩ hd hw
      have hw : (d 2 && (d 1 && true)) = true := hw
      simp only [Bool.and_true, Bool.and_eq_true] at hw
      have e9 := q2 hw.1
      refine stp_call 26 (fun _ _ => by kernel_rfl) rfl _ _ rfl #[.agg (tlC b)] (by simp [evS, e9]) ((of_tl b W).mono ?_)
      rintro e W1 ⟨rfl, hb⟩
      refine ⟨_, rfl, h2, h3, h4, ka.below hb, kb.below hb, below_step bl hb, g6, g7, q0, q1, q2, fun _ => rfl, ?_, ?_, q6⟩
      · intro h
        obtain ⟨p, p1, p2, p3, p4, p5, p6⟩ := q4 h
        exact ⟨p, p1, p2, p3, p4, fun h => (p5 h).below hb, fun h => (p6 h).below hb⟩
      · intro h
        obtain ⟨p, p1, p2, p3, p4, p5, p6⟩ := q5 h
        exact ⟨p, p1, p2, p3, p4, fun h => (p5 h).below hb, fun h => (p6 h).below hb⟩
    · rintro d s W ⟨h2, h3, h4, ka, kb, bl, g6, g7, q0, q1, q2, q3, q4, q5, q6⟩ hd hw
      have hsz := kb.lt
      have hsz0 := bl.size
      have al := fun cs t g (k : Blk W g t cs) => Blk.alloc k (.cells zero14 48)
      refine stp_run (v := ptr W.heap.size) (w' := W.alloc (.cells zero14 48)) rfl (by kernel_rfl) ?_
      refine ⟨h2, h3, h4, al _ _ _ ka, al _ _ _ kb, bl.alloc hsz0 _, (fun _ => rfl), g7, q0, q1, q2, q3, ?_, ?_, ?_⟩
      · exact fun _ => ⟨W.heap.size, rfl, hsz0, by omega, by omega, fun h => absurd (g6 h) (by rw [show d 4 = false from hd]; simp), fun h => Blk.new _ _ _⟩
      · intro h
        obtain ⟨p, p1, p2, p3, p4, p5, p6⟩ := q5 h
        exact ⟨p, p1, p2, p3, p4, fun h => al _ _ _ (p5 h), fun h => al _ _ _ (p6 h)⟩
      · intro _ h
        obtain ⟨p, p1, p2, p3, p4, p5, p6⟩ := q5 h
        have hlt : p < W.heap.size := by
          cases hc : d 7 with
          | true => exact (p5 hc).lt
          | false => exact (p6 hc).lt
        show ptr W.heap.size ≠ s 7
        rw [p1]
        intro he
        injection he with he
        injection he with he
        injection he with he
        omega
    · rintro d s W ⟨h2, h3, h4, ka, kb, bl, g6, g7, q0, q1, q2, q3, q4, q5, q6⟩ hd hw
      have hsz := kb.lt
      have hsz0 := bl.size
      have al := fun cs t g (k : Blk W g t cs) => Blk.alloc k (.cells zero14 48)
      refine stp_run (v := ptr W.heap.size) (w' := W.alloc (.cells zero14 48)) rfl (by kernel_rfl) ?_
      refine ⟨h2, h3, h4, al _ _ _ ka, al _ _ _ kb, bl.alloc hsz0 _, g6, (fun _ => rfl), q0, q1, q2, q3, ?_, ?_, ?_⟩
      · intro h
        obtain ⟨p, p1, p2, p3, p4, p5, p6⟩ := q4 h
        exact ⟨p, p1, p2, p3, p4, fun h => al _ _ _ (p5 h), fun h => al _ _ _ (p6 h)⟩
      · exact fun _ => ⟨W.heap.size, rfl, hsz0, by omega, by omega, fun h => absurd (g7 h) (by rw [show d 5 = false from hd]; simp), fun h => Blk.new _ _ _⟩
      · intro h _
        obtain ⟨p, p1, p2, p3, p4, p5, p6⟩ := q4 h
        have hlt : p < W.heap.size := by
          cases hc : d 6 with
          | true => exact (p5 hc).lt
          | false => exact (p6 hc).lt
        show s 6 ≠ ptr W.heap.size
        rw [p1]
        intro he
        injection he with he
        injection he with he
        injection he with he
        omega
    · rintro d s W ⟨h2, h3, h4, ka, kb, bl, g6, g7, q0, q1, q2, q3, q4, q5, q6⟩ hd hw
      simp [waits, Region.binds] at hw
      obtain ⟨w4, w1, w3, w0, -, -, w5⟩ := hw
      obtain ⟨p, p1, p2, p3, p4, p5, p6⟩ := q4 w4
      obtain ⟨q, r1, r2, r3, r4, r5, r6⟩ := q5 w5
      have e10 := q1 w1
      have hpq : p ≠ q := by
        have := q6 w4 w5
        rw [p1, r1] at this
        exact fun e => this (by rw [e])
      refine stp_skip rfl (store_blk (g := p) (old := zero14) (cs := tlC a) rfl p1 e10 (p6 hd) (by kernel_rfl) rfl (tlC_one a)) ?_
      refine ⟨h2, h3, h4, ka.rowFar (Ne.symm p3) _, kb.rowFar (Ne.symm p4) _, below_setRow bl p2 _, (fun _ => w4), g7, q0, q1, q2, q3, fun _ => ⟨p, p1, p2, p3, p4, fun _ => (p6 hd).row _, fun h => by cases h⟩, fun _ => ⟨q, r1, r2, r3, r4, fun h => (r5 h).rowFar (Ne.symm hpq) _, fun h => (r6 h).rowFar (Ne.symm hpq) _⟩, q6⟩
    · rintro d s W ⟨h2, h3, h4, ka, kb, bl, g6, g7, q0, q1, q2, q3, q4, q5, q6⟩ hd hw
      simp [waits, Region.binds] at hw
      obtain ⟨w5, w3, w6, w0, w1, w2, -, w4, -, -⟩ := hw
      obtain ⟨p, p1, p2, p3, p4, p5, p6⟩ := q4 w4
      obtain ⟨q, r1, r2, r3, r4, r5, r6⟩ := q5 w5
      have e10 := q3 w3
      have hpq : p ≠ q := by
        have := q6 w4 w5
        rw [p1, r1] at this
        exact fun e => this (by rw [e])
      refine stp_skip rfl (store_blk (g := q) (old := zero14) (cs := tlC b) rfl r1 e10 (r6 hd) (by kernel_rfl) rfl (tlC_one b)) ?_
      refine ⟨h2, h3, h4, ka.rowFar (Ne.symm r3) _, kb.rowFar (Ne.symm r4) _, below_setRow bl r2 _, g6, (fun _ => w5), q0, q1, q2, q3, fun _ => ⟨p, p1, p2, p3, p4, fun h => (p5 h).rowFar hpq _, fun h => (p6 h).rowFar hpq _⟩, fun _ => ⟨q, r1, r2, r3, r4, fun _ => (r6 hd).row _, fun h => by cases h⟩, q6⟩
  · clear Z1 Z2 Z3
    rintro d s W hall ⟨h2, h3, h4, -, -, bl, -, -, -, -, -, -, q4, q5, q6⟩
    have d4 := hall 4 (by decide)
    have d5 := hall 5 (by decide)
    obtain ⟨p, p1, p2, -, -, p5, -⟩ := q4 d4
    obtain ⟨q, r1, r2, -, -, r5, -⟩ := q5 d5
    have kp := p5 (hall 6 (by decide))
    have kq := r5 (hall 7 (by decide))
    clear q4 q5 q6 p5 r5 h3 h4 hall d4 d5 d
    change Exit.then _ _ Exit.normal ⟨#[s 0, s 1, s 2, s 3, s 4, s 5, s 6, s 7, s 8, s 9, s 10, s 11, s 12, s 13, s 14, s 15, s 16, s 17, s 18, s 19, s 20, s 21, s 22, s 23, s 24, s 25], []⟩ W
    rw [h2, p1, r1]
    clear h2 p1 r1
    generalize s 0 = x0
    generalize s 1 = x1
    generalize s 3 = x3
    generalize s 4 = x4
    generalize s 5 = x5
    generalize s 8 = x8
    generalize s 9 = x9
    generalize s 10 = x10
    generalize s 11 = x11
    generalize s 12 = x12
    generalize s 13 = x13
    generalize s 14 = x14
    generalize s 15 = x15
    generalize s 16 = x16
    generalize s 17 = x17
    generalize s 18 = x18
    generalize s 19 = x19
    generalize s 20 = x20
    generalize s 21 = x21
    generalize s 22 = x22
    generalize s 23 = x23
    generalize s 24 = x24
    generalize s 25 = x25
    unfold ptr
    go_wp2
    have CL := Lib.hid (fun k W (hk : k < 14) (h : R k W) => hR k W hk h)
    have ST := Lib.hid hst
    have R0 := Lib.hid (hst 0 w W h0 (by have := hgw; exact bl.mono (by omega)))
    have KP := Lib.hid kp
    have KQ := Lib.hid kq
    have HNP := Lib.hid (show some p ≠ some g by simp; omega)
    have HNQ := Lib.hid (show some q ≠ some g by simp; omega)
    have B0 := Lib.hid (bl.mono (show g ≤ w.heap.size by omega))
    clear hR hst h0 kp kq bl
    go_loopw [13] (fun i wr => ∃ (k : Nat), k ≤ 14 ∧ i = .int .i64 k ∧ Blk wr p 48 (tlC a) ∧ Blk wr q 48 (tlC b) ∧ R k wr ∧ Below g w wr) (fun i _ => 14 - (intOf i).toNat)
    case atStart => exact ⟨0, by omega, rfl, KP.out, KQ.out, R0.out, B0.out⟩
    case round =>
      clear R0 KP KQ B0
      obtain ⟨k, hk, rfl, kp, kq, hr, hb⟩ := hrel
      have KP := Lib.hid kp
      have KQ := Lib.hid kq
      have HR := Lib.hid hr
      have HB := Lib.hid hb
      by_cases hlt : k < 14
      · have hlti : (k : Int) < 14 := by omega
        have cp := (kp.cell k).trans (tlC_get a k hlt)
        have cq := (kq.cell k).trans (tlC_get b k hlt)
        have CC := Lib.hid (fun W (h : R k W) => CL.out k W hlt h)
        clear kp kq hr hb
        have hix : (k : Int).toNat = k := by simp
        go_wp2
        go_region_held (fun w' => w'.cell? ⟨p, k, none⟩ = some (.int .i64 (a k)) ∧ w'.cell? ⟨q, k, none⟩ = some (.int .i64 (b k)))
          (first | exact ⟨cp, cq⟩ | exact ⟨dp, dq⟩)
          (first
          | (go_at_call 39; (with_reducible refine (CC.out _ (by first | exact HR.out | exact ST.out _ _ _ HR.out (Below.refl (g + 1) wr).drew)).mono ?_); rintro e w3 ⟨rfl, hr2, hb2⟩; have HR2 := Lib.hid hr2; have KP2 := Lib.hid (Blk.grown ((by repeat (first | with_reducible exact KP.out | with_reducible apply Blk.alloc | with_reducible apply Blk.drewN | with_reducible apply Blk.drew | exact KP.out))) hb2 HNP.out); have KQ2 := Lib.hid (Blk.grown ((by repeat (first | with_reducible exact KQ.out | with_reducible apply Blk.alloc | with_reducible apply Blk.drewN | with_reducible apply Blk.drew | exact KQ.out))) hb2 HNQ.out); have HB2 := Lib.hid (Below.grown HB.out.drew hb2 (by have := HB.out.size; show g ≤ wr.heap.size; omega) (fun k hk => by injection hk with hk; omega)); have dp := (KP2.out.cell k).trans (tlC_get a k hlt); have dq := (KQ2.out.cell k).trans (tlC_get b k hlt); clear hr2 hb2))
        all_goals go_wp2
        all_goals go_roundw
        case rel => exact ⟨k + 1, by omega, by go_num, KP2.out, KQ2.out, HR2.out, HB2.out⟩
        case measure => simp [intOf]; omega
      · obtain rfl : k = 14 := by omega
        go_wp2
        refine bodyPost_end (results_none rfl _ _ _) rfl ?_
        exact ⟨rfl, HR.out, HB.out⟩
set_option maxRecDepth 10000 in
set_option maxHeartbeats 4000000 in
theorem bothG_calls (a b : Nat → Int) (g : Nat) (R : Nat → World → Prop) (w : World) (hgw : g < w.heap.size) (h0 : R 0 w) (hst : ∀ k W W', R k W → Below (g + 1) W W' → R k W')
    (hR : ∀ k W, k < 14 → R k W → Calls Tryd.prog 41 #[.int .i64 k, .int .i64 (a k), .int .i64 (b k), .pointer (some ⟨g, 0, none⟩)] W fun e W' => e = .returned (.tuple #[]) ∧ R (k + 1) W' ∧ W.grownBy W' (some g)) :
    Calls Tryd.prog 38 #[.agg (tlC a), .agg (tlC b), .func (.func 41) #[] #[.pointer (some ⟨g, 0, none⟩)]] w fun e w' => e = .returned (.tuple #[]) ∧ R 14 w' ∧ Below g w w' := by
  unfold tlC
  go_enter Tryd.func38, Tryd.ntmps38
  go_upto_region 1 with (fail)
  have Z1 := Lib.hid (Blk.alloc (Blk.new w 23 (tlC a)) (.cells (tlC b) 23))
  have Z2 := Lib.hid (blk_at (w := w.alloc (.cells (tlC a) 23)) (t := 23) (cs := tlC b) (show w.heap.size + 1 = (w.alloc (.cells (tlC a) 23)).heap.size by simp))
  have Z3 := Lib.hid (below_alloc (below_alloc (Below.refl w.heap.size w) (.cells (tlC a) 23)) (.cells (tlC b) 23))
  unfold tlC at Z1 Z2 Z3
  refine wp_region_inv 26 (BI w.heap.size w w.heap.size (w.heap.size + 1) (.func (.func 41) #[] #[.pointer (some ⟨g, 0, none⟩)]) a b) (by kernel_rfl) rfl (by kernel_rfl) (by kernel_rfl) ?_ ?_ ?_
  · exact ⟨rfl, rfl, rfl, Z1.out, Z2.out, below_drew Z3.out, (fun h => by cases h), (fun h => by cases h), (fun h => by cases h), (fun h => by cases h), (fun h => by cases h), (fun h => by cases h), (fun h => by cases h), (fun h => by cases h), (fun h => by cases h)⟩
  · refine ⟨?_, ?_, ?_, ?_, ?_, ?_, ?_, ?_, trivial⟩
    · rintro d s W ⟨h2, h3, h4, ka, kb, bl, g6, g7, q0, q1, q2, q3, q4, q5, q6⟩ hd hw
      refine stp_run rfl (load_blk (g := w.heap.size) _ rfl h3 ka Tryd.underlying23 rfl (by kernel_rfl)) ?_
      exact ⟨h2, h3, h4, ka, kb, bl, g6, g7, fun _ => rfl, q1, q2, q3, q4, q5, q6⟩
    · rintro d s W ⟨h2, h3, h4, ka, kb, bl, g6, g7, q0, q1, q2, q3, q4, q5, q6⟩ hd hw
      have hw : (d 0 && true) = true := hw
      simp only [Bool.and_true] at hw
      have e9 := q0 hw
      refine stp_call 26 (fun _ _ => by kernel_rfl) rfl _ _ rfl #[.agg (tlC a)] (by simp [evS, e9]) ((of_tl a W).mono ?_)
      rintro e W1 ⟨rfl, hb⟩
      refine ⟨_, rfl, h2, h3, h4, ka.below hb, kb.below hb, below_step bl hb, g6, g7, q0, fun _ => rfl, q2, q3, ?_, ?_, q6⟩
      · intro h
        obtain ⟨p, p1, p2, p3, p4, p5, p6⟩ := q4 h
        exact ⟨p, p1, p2, p3, p4, fun h => (p5 h).below hb, fun h => (p6 h).below hb⟩
      · intro h
        obtain ⟨p, p1, p2, p3, p4, p5, p6⟩ := q5 h
        exact ⟨p, p1, p2, p3, p4, fun h => (p5 h).below hb, fun h => (p6 h).below hb⟩
    · rintro d s W ⟨h2, h3, h4, ka, kb, bl, g6, g7, q0, q1, q2, q3, q4, q5, q6⟩ hd hw
      refine stp_run rfl (load_blk (g := w.heap.size + 1) _ rfl h4 kb Tryd.underlying23 rfl (by kernel_rfl)) ?_
      exact ⟨h2, h3, h4, ka, kb, bl, g6, g7, q0, q1, fun _ => rfl, q3, q4, q5, q6⟩
    · rintro d s W ⟨h2, h3, h4, ka, kb, bl, g6, g7, q0, q1, q2, q3, q4, q5, q6⟩ hd hw
      have hw : (d 2 && (d 1 && true)) = true := hw
      simp only [Bool.and_true, Bool.and_eq_true] at hw
      have e9 := q2 hw.1
      refine stp_call 26 (fun _ _ => by kernel_rfl) rfl _ _ rfl #[.agg (tlC b)] (by simp [evS, e9]) ((of_tl b W).mono ?_)
      rintro e W1 ⟨rfl, hb⟩
      refine ⟨_, rfl, h2, h3, h4, ka.below hb, kb.below hb, below_step bl hb, g6, g7, q0, q1, q2, fun _ => rfl, ?_, ?_, q6⟩
      · intro h
        obtain ⟨p, p1, p2, p3, p4, p5, p6⟩ := q4 h
        exact ⟨p, p1, p2, p3, p4, fun h => (p5 h).below hb, fun h => (p6 h).below hb⟩
      · intro h
        obtain ⟨p, p1, p2, p3, p4, p5, p6⟩ := q5 h
        exact ⟨p, p1, p2, p3, p4, fun h => (p5 h).below hb, fun h => (p6 h).below hb⟩
    · rintro d s W ⟨h2, h3, h4, ka, kb, bl, g6, g7, q0, q1, q2, q3, q4, q5, q6⟩ hd hw
      have hsz := kb.lt
      have hsz0 := bl.size
      have al := fun cs t g (k : Blk W g t cs) => Blk.alloc k (.cells zero14 48)
      refine stp_run (v := ptr W.heap.size) (w' := W.alloc (.cells zero14 48)) rfl (by kernel_rfl) ?_
      refine ⟨h2, h3, h4, al _ _ _ ka, al _ _ _ kb, bl.alloc hsz0 _, (fun _ => rfl), g7, q0, q1, q2, q3, ?_, ?_, ?_⟩
      · exact fun _ => ⟨W.heap.size, rfl, hsz0, by omega, by omega, fun h => absurd (g6 h) (by rw [show d 4 = false from hd]; simp), fun h => Blk.new _ _ _⟩
      · intro h
        obtain ⟨p, p1, p2, p3, p4, p5, p6⟩ := q5 h
        exact ⟨p, p1, p2, p3, p4, fun h => al _ _ _ (p5 h), fun h => al _ _ _ (p6 h)⟩
      · intro _ h
        obtain ⟨p, p1, p2, p3, p4, p5, p6⟩ := q5 h
        have hlt : p < W.heap.size := by
          cases hc : d 7 with
          | true => exact (p5 hc).lt
          | false => exact (p6 hc).lt
        show ptr W.heap.size ≠ s 7
        rw [p1]
        intro he
        injection he with he
        injection he with he
        injection he with he
        omega
    · rintro d s W ⟨h2, h3, h4, ka, kb, bl, g6, g7, q0, q1, q2, q3, q4, q5, q6⟩ hd hw
      have hsz := kb.lt
      have hsz0 := bl.size
      have al := fun cs t g (k : Blk W g t cs) => Blk.alloc k (.cells zero14 48)
      refine stp_run (v := ptr W.heap.size) (w' := W.alloc (.cells zero14 48)) rfl (by kernel_rfl) ?_
      refine ⟨h2, h3, h4, al _ _ _ ka, al _ _ _ kb, bl.alloc hsz0 _, g6, (fun _ => rfl), q0, q1, q2, q3, ?_, ?_, ?_⟩
      · intro h
        obtain ⟨p, p1, p2, p3, p4, p5, p6⟩ := q4 h
        exact ⟨p, p1, p2, p3, p4, fun h => al _ _ _ (p5 h), fun h => al _ _ _ (p6 h)⟩
      · exact fun _ => ⟨W.heap.size, rfl, hsz0, by omega, by omega, fun h => absurd (g7 h) (by rw [show d 5 = false from hd]; simp), fun h => Blk.new _ _ _⟩
      · intro h _
        obtain ⟨p, p1, p2, p3, p4, p5, p6⟩ := q4 h
        have hlt : p < W.heap.size := by
          cases hc : d 6 with
          | true => exact (p5 hc).lt
          | false => exact (p6 hc).lt
        show s 6 ≠ ptr W.heap.size
        rw [p1]
        intro he
        injection he with he
        injection he with he
        injection he with he
        omega
    · rintro d s W ⟨h2, h3, h4, ka, kb, bl, g6, g7, q0, q1, q2, q3, q4, q5, q6⟩ hd hw
      simp [waits, Region.binds] at hw
      obtain ⟨w4, w1, w3, w0, -, -, w5⟩ := hw
      obtain ⟨p, p1, p2, p3, p4, p5, p6⟩ := q4 w4
      obtain ⟨q, r1, r2, r3, r4, r5, r6⟩ := q5 w5
      have e10 := q1 w1
      have hpq : p ≠ q := by
        have := q6 w4 w5
        rw [p1, r1] at this
        exact fun e => this (by rw [e])
      refine stp_skip rfl (store_blk (g := p) (old := zero14) (cs := tlC a) rfl p1 e10 (p6 hd) (by kernel_rfl) rfl (tlC_one a)) ?_
      refine ⟨h2, h3, h4, ka.rowFar (Ne.symm p3) _, kb.rowFar (Ne.symm p4) _, below_setRow bl p2 _, (fun _ => w4), g7, q0, q1, q2, q3, fun _ => ⟨p, p1, p2, p3, p4, fun _ => (p6 hd).row _, fun h => by cases h⟩, fun _ => ⟨q, r1, r2, r3, r4, fun h => (r5 h).rowFar (Ne.symm hpq) _, fun h => (r6 h).rowFar (Ne.symm hpq) _⟩, q6⟩
    · rintro d s W ⟨h2, h3, h4, ka, kb, bl, g6, g7, q0, q1, q2, q3, q4, q5, q6⟩ hd hw
      simp [waits, Region.binds] at hw
      obtain ⟨w5, w3, w6, w0, w1, w2, -, w4, -, -⟩ := hw
      obtain ⟨p, p1, p2, p3, p4, p5, p6⟩ := q4 w4
      obtain ⟨q, r1, r2, r3, r4, r5, r6⟩ := q5 w5
      have e10 := q3 w3
      have hpq : p ≠ q := by
        have := q6 w4 w5
        rw [p1, r1] at this
        exact fun e => this (by rw [e])
      refine stp_skip rfl (store_blk (g := q) (old := zero14) (cs := tlC b) rfl r1 e10 (r6 hd) (by kernel_rfl) rfl (tlC_one b)) ?_
      refine ⟨h2, h3, h4, ka.rowFar (Ne.symm r3) _, kb.rowFar (Ne.symm r4) _, below_setRow bl r2 _, g6, (fun _ => w5), q0, q1, q2, q3, fun _ => ⟨p, p1, p2, p3, p4, fun h => (p5 h).rowFar hpq _, fun h => (p6 h).rowFar hpq _⟩, fun _ => ⟨q, r1, r2, r3, r4, fun _ => (r6 hd).row _, fun h => by cases h⟩, q6⟩
  · clear Z1 Z2 Z3
    rintro d s W hall ⟨h2, h3, h4, -, -, bl, -, -, -, -, -, -, q4, q5, q6⟩
    have d4 := hall 4 (by decide)
    have d5 := hall 5 (by decide)
    obtain ⟨p, p1, p2, -, -, p5, -⟩ := q4 d4
    obtain ⟨q, r1, r2, -, -, r5, -⟩ := q5 d5
    have kp := p5 (hall 6 (by decide))
    have kq := r5 (hall 7 (by decide))
    clear q4 q5 q6 p5 r5 h3 h4 hall d4 d5 d
    change Exit.then _ _ Exit.normal ⟨#[s 0, s 1, s 2, s 3, s 4, s 5, s 6, s 7, s 8, s 9, s 10, s 11, s 12, s 13, s 14, s 15, s 16, s 17, s 18, s 19, s 20, s 21, s 22, s 23, s 24, s 25], []⟩ W
    rw [h2, p1, r1]
    clear h2 p1 r1
    generalize s 0 = x0
    generalize s 1 = x1
    generalize s 3 = x3
    generalize s 4 = x4
    generalize s 5 = x5
    generalize s 8 = x8
    generalize s 9 = x9
    generalize s 10 = x10
    generalize s 11 = x11
    generalize s 12 = x12
    generalize s 13 = x13
    generalize s 14 = x14
    generalize s 15 = x15
    generalize s 16 = x16
    generalize s 17 = x17
    generalize s 18 = x18
    generalize s 19 = x19
    generalize s 20 = x20
    generalize s 21 = x21
    generalize s 22 = x22
    generalize s 23 = x23
    generalize s 24 = x24
    generalize s 25 = x25
    unfold ptr
    go_wp2
    have CL := Lib.hid (fun k W (hk : k < 14) (h : R k W) => hR k W hk h)
    have ST := Lib.hid hst
    have R0 := Lib.hid (hst 0 w W h0 (by have := hgw; exact bl.mono (by omega)))
    have KP := Lib.hid kp
    have KQ := Lib.hid kq
    have HNP := Lib.hid (show some p ≠ some g by simp; omega)
    have HNQ := Lib.hid (show some q ≠ some g by simp; omega)
    have B0 := Lib.hid (bl.mono (show g ≤ w.heap.size by omega))
    clear hR hst h0 kp kq bl
    go_loopw [13] (fun i wr => ∃ (k : Nat), k ≤ 14 ∧ i = .int .i64 k ∧ Blk wr p 48 (tlC a) ∧ Blk wr q 48 (tlC b) ∧ R k wr ∧ Below g w wr) (fun i _ => 14 - (intOf i).toNat)
    case atStart => exact ⟨0, by omega, rfl, KP.out, KQ.out, R0.out, B0.out⟩
    case round =>
      clear R0 KP KQ B0
      obtain ⟨k, hk, rfl, kp, kq, hr, hb⟩ := hrel
      have KP := Lib.hid kp
      have KQ := Lib.hid kq
      have HR := Lib.hid hr
      have HB := Lib.hid hb
      by_cases hlt : k < 14
      · have hlti : (k : Int) < 14 := by omega
        have cp := (kp.cell k).trans (tlC_get a k hlt)
        have cq := (kq.cell k).trans (tlC_get b k hlt)
        have CC := Lib.hid (fun W (h : R k W) => CL.out k W hlt h)
        clear kp kq hr hb
        have hix : (k : Int).toNat = k := by simp
        go_wp2
        go_region_held (fun w' => w'.cell? ⟨p, k, none⟩ = some (.int .i64 (a k)) ∧ w'.cell? ⟨q, k, none⟩ = some (.int .i64 (b k)))
          (first | exact ⟨cp, cq⟩ | exact ⟨dp, dq⟩)
          (first
          | (go_at_call 41; (with_reducible refine (CC.out _ (by first | exact HR.out | exact ST.out _ _ _ HR.out (Below.refl (g + 1) wr).drew)).mono ?_); rintro e w3 ⟨rfl, hr2, hb2⟩; have HR2 := Lib.hid hr2; have KP2 := Lib.hid (Blk.grown ((by repeat (first | with_reducible exact KP.out | with_reducible apply Blk.alloc | with_reducible apply Blk.drewN | with_reducible apply Blk.drew | exact KP.out))) hb2 HNP.out); have KQ2 := Lib.hid (Blk.grown ((by repeat (first | with_reducible exact KQ.out | with_reducible apply Blk.alloc | with_reducible apply Blk.drewN | with_reducible apply Blk.drew | exact KQ.out))) hb2 HNQ.out); have HB2 := Lib.hid (Below.grown HB.out.drew hb2 (by have := HB.out.size; show g ≤ wr.heap.size; omega) (fun k hk => by injection hk with hk; omega)); have dp := (KP2.out.cell k).trans (tlC_get a k hlt); have dq := (KQ2.out.cell k).trans (tlC_get b k hlt); clear hr2 hb2))
        all_goals go_wp2
        all_goals go_roundw
        case rel => exact ⟨k + 1, by omega, by go_num, KP2.out, KQ2.out, HR2.out, HB2.out⟩
        case measure => simp [intOf]; omega
      · obtain rfl : k = 14 := by omega
        go_wp2
        refine bodyPost_end (results_none rfl _ _ _) rfl ?_
        exact ⟨rfl, HR.out, HB.out⟩
end Go.Proofs.YtmopicpjhdekhaaDoor.Ct
