import Derived.Test.YtcmcljdecmbceaaLiE
import Derived.RangeFuncBox
import Derived.RangeFuncNested
import Derived.RangeFuncBound
import Derived.RangeFuncCalls
import Derived.RangeFuncLeaves
import Derived.Shelf.Abstract
import Derived.Shelf.RegionOpen
import Derived.OwnWalkIn
import Derived.TacticsInMore
import Derived.LoopNIn
import Derived.LoopIn
import Derived.Maps.AppendAt
/-! Lists over an array: each, a range over a function. -/
namespace Go.Proofs.Ytcmcljdecmbceaa.Ct
open Go.RowKit Go.Shelf
attribute [local go_sem] Oper.semAt_some
set_option linter.unusedVariables false
set_option linter.unusedSimpArgs false
/-- what lies below n is as it was, but for block B. -/
structure Kb (n B : Nat) (w w' : World) : Prop where
  block : ∀ i, i < n → i ≠ B → w'.heap[i]? = w.heap[i]?
theorem Kb.refl (n B : Nat) (w : World) : Kb n B w w := ⟨fun _ _ _ => rfl⟩
theorem Kb.trans {n B : Nat} {w w1 w2 : World} (h : Kb n B w w1) (k : Kb n B w1 w2) : Kb n B w w2 := ⟨fun i h1 h2 => (k.block i h1 h2).trans (h.block i h1 h2)⟩
theorem Kb.cell {n B : Nat} {w w' : World} (h : Kb n B w w') {p : Addr} {v : Value} (hn : p.block < n) (hB : p.block ≠ B) (hc : w.cell? p = some v) : w'.cell? p = some v := by
  rw [World.cell?_of_block (h.block _ hn hB)]; exact hc
theorem kb_b {n B : Nat} {w : World} (hn : n ≤ w.heap.size) (W : World) (l : Nat) (o o' : Obj) (hl : w.heap.size ≤ l) (h : W.heap[l]? = some o) (_ : o.isCells = false) (_ : o.isWalk = false) : Kb n B W (W.putObj l o') :=
  ⟨fun i hi _ => World.putObj_heap_other (by omega)⟩
theorem idx_first {h : Nat} {pre rest : List Nat} (hn : (pre ++ rest).Nodup) (hh : h ∉ pre ++ rest) : (pre ++ rest).idxOf (firstN rest h) = pre.length := by
  cases rest with
  | nil =>
    rw [List.append_nil] at hh ⊢
    exact List.idxOf_eq_length hh
  | cons y rest =>
    rw [List.nodup_append] at hn
    have hy : y ∉ pre := fun hm => hn.2.2 y hm y (List.mem_cons_self ..) rfl
    show (pre ++ y :: rest).idxOf y = _
    rw [List.idxOf_append, if_neg hy]
    simp
set_option maxRecDepth 100000 in
set_option maxHeartbeats 4000000 in
theorem each1_in (n l bx bl B0 n1 base x gl gm nn m k : Nat) (r : Nat → List Nat) (f g : Fn) (J Jx : List Nat → World → Prop) (hn : 1 ≤ n)
    (hY : ∀ (pre : List Nat) (y : Nat) (W : World), J pre W → pre.length < (r k).length → YieldAt Fence.wide (n - 1) Try.prog l #[.int .i64 (y : Int)] W fun e W' =>
      (e = .returned (.bool true) ∧ J (pre ++ [y]) W' ∧ Kb n1 B0 W W') ∨ (e = .returned (.bool false) ∧ Jx (pre ++ [y]) W'))
    (W : World) (hx : W.cell? ⟨bx, 0, none⟩ = some (.pointer (some ⟨x, 0, none⟩))) (hl : W.cell? ⟨bl, 0, none⟩ = some (.int .i64 (k : Int))) (hs : LS base W x gl gm nn m f g) (hr : Rep nn m r f g) (hk : k < m) (hnm : nn + m ≤ 100000)
    (b1 : bx < n1) (b2 : bl < n1) (b3 : x < n1) (b4 : gl < n1) (c1 : bx ≠ B0) (c2 : bl ≠ B0) (c3 : x ≠ B0) (c4 : gl ≠ B0) (h0 : J [] W) :
    CallsIn Fence.wide n Try.prog 36 #[.func (.yield l) #[] #[], .pointer (some ⟨bx, 0, none⟩), .pointer (some ⟨bl, 0, none⟩)] W fun e W' => (∃ v, e = .returned v) ∧
      ((∃ ys, ys = r k ∧ J ys W') ∨ (∃ pre, pre <+: r k ∧ Jx pre W')) := by
  obtain ⟨d0, d1, d2⟩ := hs.cx
  have HC := Lib.hid (head_ok x k nn _ m m W d1 d2 hk (by omega) (by omega))
  have CX := Lib.hid (fun (W' : World) (hb : Kb n1 B0 W W') => (show W'.cell? ⟨bx, 0, none⟩ = some (.pointer (some ⟨x, 0, none⟩)) ∧ W'.cell? ⟨x, 0, none⟩ = some (.slice (some ⟨gl, 0, none⟩) (nn + m) (nn + m)) from ⟨hb.cell b1 c1 hx, hb.cell b3 c3 d0⟩))
  have CL := Lib.hid (fun (W' : World) (hb : Kb n1 B0 W W') (j : Nat) (hj : j < (nn + m) * 3) => (show W'.cell? ⟨gl, j, none⟩ = some (.int .i64 (f j)) from hb.cell b4 c4 (hs.cl hj)))
  have d3 := hs.cl (j := (nn + k) * 3 + 1) (by omega)
  obtain ⟨ff, fl⟩ := hr.front hk
  rw [ff] at d3
  have PT := Lib.hid (hr.path k hk)
  have ND := Lib.hid (hr.nod k hk)
  have LT := Lib.hid (hr.lt k hk)
  have HO := Lib.hid (hr.head_out (j := k) hk)
  have hki : ((nn + k : Nat) : Int) < ((nn + m : Nat) : Int) := by omega
  have HY := Lib.hid hY
  clear hs hr d1 d2 ff hY
  generalize hrow : r k = row at *
  clear hrow
  generalize hhd : nn + k = hd at *
  have HHD := Lib.hid hhd
  clear hhd
  refine callsIn_of_wp Try.func36 rfl trivial ?_ rfl
  simp only [Try.ntmps36, List.size_toArray, List.length_cons, List.length_nil, Nat.reduceAdd, Nat.reduceSub, Array.replicate_succ, Array.replicate_zero, List.push_toArray, List.append_toArray, List.nil_append, List.cons_append]
  gi_wp2_with (refine ⟨trivial, ?_⟩; gi_at_call 24; refine (callsIn_wide.2 HC.out).mono ?_; rintro e w' ⟨rfl, rfl⟩)
  clear d3 fl
  have C0 := CX.out W (Kb.refl _ _ _)
  clear hx hl d0 C0
  gi_loopw [6] (fun p wr => ∃ (pre rest : List Nat), p = .int .i64 (firstN rest hd : Nat) ∧ row = pre ++ rest ∧ (∀ y B', rest = y :: B' → Pth f y B' hd) ∧ Kb n1 B0 W wr ∧ J pre wr)
    (fun p _ => row.length - row.idxOf (intOf p).toNat)
  case atStart => exact ⟨[], row, rfl, rfl, fun y B' e => by have := PT.out; rw [e] at this; exact this.2, Kb.refl _ _ _, h0⟩
  case round =>
    obtain ⟨pre, rest, rfl, hx, hp, hkb, hJ⟩ := hrel
    have HP := Lib.hid hp
    have HJ := Lib.hid hJ
    have HK := Lib.hid hkb
    have HX := Lib.hid hx
    clear hp hJ hx
    cases rest with
    | nil =>
      have q0 : ((hd : Int) != hd) = false := bne_self_eq_false _
      have e0 : firstN [] hd = hd := rfl
      rw [e0]
      clear hkb
      gi_wp2
      go_end0
      exact ⟨⟨_, rfl⟩, .inl ⟨pre, by rw [HX.out, List.append_nil], HJ.out⟩⟩
    | cons y rest =>
      have e0 : firstN (y :: rest) hd = y := rfl
      rw [e0]
      have hylt := LT.out y (by rw [HX.out]; simp)
      have hyne : ¬ y = hd := by have := HHD.out; omega
      have q0 : ((y : Int) != hd) = true := bne_iff_ne.2 (by omega)
      have hyi : (y : Int) < ((nn + m : Nat) : Int) := by omega
      obtain ⟨fn, tmps, assign, body, hy, hR⟩ := HY.out pre y wr HJ.out (by rw [HX.out]; simp)
      clear hkb hyne
      gi_wp2
      refine hR.mono ?_
      rintro e W3 (⟨rfl, hJ3, hk3⟩ | ⟨rfl, hJx3⟩)
      · have hk4 := HK.out.trans hk3
        obtain ⟨x0, x1⟩ := CX.out W3 hk4
        have x3 := CL.out W3 hk4 (y * 3 + 1) (by omega)
        have hp2 := HP.out y rest rfl
        rw [pth_first hp2] at x3
        have HJ3 := Lib.hid hJ3
        have HK4 := Lib.hid hk4
        have HP2 := Lib.hid hp2
        clear hJ3 hk4 hp2 hk3
        gi_wp2
        go_roundw
        case rel => exact ⟨pre ++ [y], rest, rfl, by rw [HX.out]; simp, fun z B' e => by have := HP2.out; rw [e] at this; exact this.2, HK4.out, HJ3.out⟩
        case measure =>
          have n1' := ND.out
          have n2' := HO.out
          have i1 : row.idxOf y = pre.length := by
            have h1 := ND.out; have h2 := HO.out
            rw [HX.out] at h1 h2 ⊢
            exact idx_first (rest := y :: rest) h1 h2
          have i2 : row.idxOf (firstN rest hd) = pre.length + 1 := by
            have h1 := ND.out; have h2 := HO.out
            rw [HX.out, show pre ++ y :: rest = (pre ++ [y]) ++ rest by simp] at h1 h2 ⊢
            have := idx_first h1 h2
            simpa using this
          simp only [intOf, Int.toNat_natCast]
          rw [i1, i2, HX.out]
          simp
          omega
      · gi_wp2
        refine bodyPost_ret (results_none rfl _ _ _) rfl ?_
        exact ⟨⟨_, rfl⟩, .inr ⟨pre ++ [y], ⟨rest, by rw [HX.out]; simp⟩, hJx3⟩⟩
set_option maxRecDepth 100000 in
set_option maxHeartbeats 4000000 in
theorem each1_bad (n l bx bl : Nat) (p : Option Addr) (v : Int) (J Jx : List Nat → World → Prop) (W : World) (hx : W.cell? ⟨bx, 0, none⟩ = some (.pointer p)) (hl : W.cell? ⟨bl, 0, none⟩ = some (.int .i64 v))
    (hn : 1 ≤ n) (hc : Calls Try.prog 24 #[.pointer p, .int .i64 v] W fun e w' => e = .returned (.tuple #[.int .i64 0, .bool false]) ∧ W = w') (h0 : J [] W) :
    CallsIn Fence.wide n Try.prog 36 #[.func (.yield l) #[] #[], .pointer (some ⟨bx, 0, none⟩), .pointer (some ⟨bl, 0, none⟩)] W fun e W' => (∃ v, e = .returned v) ∧
      ((∃ ys, ys = [] ∧ J ys W') ∨ (∃ pre, pre <+: [] ∧ Jx pre W')) := by
  have HC := Lib.hid hc
  clear hc
  refine callsIn_of_wp Try.func36 rfl trivial ?_ rfl
  simp only [Try.ntmps36, List.size_toArray, List.length_cons, List.length_nil, Nat.reduceAdd, Nat.reduceSub, Array.replicate_succ, Array.replicate_zero, List.push_toArray, List.append_toArray, List.nil_append, List.cons_append]
  gi_wp2_with (refine ⟨trivial, ?_⟩; gi_at_call 24; refine (callsIn_wide.2 HC.out).mono ?_; rintro e w' ⟨rfl, rfl⟩)
  refine bodyPost_ret (results_none rfl _ _ _) rfl ?_
  exact ⟨⟨_, rfl⟩, .inl ⟨[], rfl, h0⟩⟩
set_option maxHeartbeats 2000000 in
theorem each_calls (p : Option Addr) (v : Int) (w : World) : Calls Try.prog 27 #[.pointer p, .int .i64 v] w fun e w' =>
    e = .returned (.func (.func 36) #[] #[.pointer (some ⟨w.heap.size, 0, none⟩), .pointer (some ⟨w.heap.size + 1, 0, none⟩)]) ∧ w' = (w.alloc (.cells #[.pointer p] 25)).alloc (.cells #[.int .i64 v] 3) := by
  go_enter Try.func27, Try.ntmps27
  go_wp2
  go_ret
  exact ⟨by simp, rfl⟩
theorem ownsRow_mono {W : World} {b b' : Nat} {e : TypeId} {size : Nat} {v : Value} {k : Nat} {xs : List Value} (h : W.ownsRow b e size v k xs) (hb : b' ≤ b) : W.ownsRow b' e size v k xs := by
  refine ⟨h.1, ?_⟩
  rcases h.2 with h1 | ⟨g, cap, cur, e, h2, r⟩
  · exact .inl h1
  · exact .inr ⟨g, cap, cur, e, Nat.le_trans hb h2, r⟩
theorem kb_app {n B : Nat} {W w1 : World} {e : TypeId} {size : Nat} {v : Value} {k : Nat} {xs : List Value} {o : Obj} (h : W.ownsRow n e size v k xs) (hz : n ≤ W.heap.size) (hg : (W.alloc o).grownBy w1 v.ownBlock) (u : Value) : Kb n B W (w1.setCell ⟨B, 0, none⟩ u) :=
  ⟨fun i hi hB => by
    rw [Below.heap_setCell w1 ⟨B, 0, none⟩ u i hB]
    refine (hg.block i (by simp; omega) ?_).trans (Below.heap_alloc W o i (by omega))
    intro e
    have := (h.lt i e.symm).1
    omega⟩
def casts (l : List Nat) : List Int := l.map fun y : Nat => (y : Int)
theorem infoI : (Try.prog.info? 3).map (fun i => (i.zero, i.size, i.bytes)) = some (some (.int .i64 0), 1, 8) := by kernel_rfl
set_option maxRecDepth 100000 in
set_option maxHeartbeats 4000000 in
theorem all_core (p : Option Addr) (v : Int) (xs : List Nat) (w : World) (hl : xs.length ≤ 100000)
    (SEQ : SeqStopsK Fence.wide 4 Try.prog 36 #[.pointer (some ⟨w.heap.size + 1, 0, none⟩), .pointer (some ⟨w.heap.size + 2, 0, none⟩)] (fun y : Nat => #[Value.int .i64 (y : Int)]) (Kb (w.heap.size + 3) w.heap.size) (fun ys => ys = xs) (fun pre => pre <+: xs) xs.length
      (((w.alloc (.cells #[.slice none 0 0] 30)).alloc (.cells #[.pointer p] 25)).alloc (.cells #[.int .i64 v] 3))) :
    CallsIn Fence.wide 5 Try.prog 8 #[.pointer p, .int .i64 v] w fun e W' => ∃ v, e = .returned v ∧ W'.ownsRow w.heap.size 3 1 v xs.length (xs.map fun y : Nat => Value.int .i64 (y : Int)) ∧ Below w.heap.size w W' := by
  obtain ⟨i0, hi, hz0, hz1, hz2⟩ := info_parts infoI
  refine callsIn_of_wp_marks Try.func8 rfl trivial ?_ rfl
  simp only [Try.ntmps8, List.size_toArray, List.length_cons, List.length_nil, Nat.reduceAdd, Nat.reduceSub, Array.replicate_succ, Array.replicate_zero, List.push_toArray, List.append_toArray, List.nil_append, List.cons_append]
  gi_wp2_with (refine ⟨trivial, ?_⟩; gi_at_call 27; refine (callsIn_wide.2 (each_calls p v _)).mono ?_; rintro e w' ⟨rfl, rfl⟩)
  have bO := Boxed.new w 30 (.slice none 0 0)
  have hsz : (((w.alloc (.cells #[.slice none 0 0] 30)).alloc (.cells #[.pointer p] 25)).alloc (.cells #[.int .i64 v] 3)).heap.size = w.heap.size + 3 := by simp
  have hB0 : Below w.heap.size w (((w.alloc (.cells #[.slice none 0 0] 30)).alloc (.cells #[.pointer p] 25)).alloc (.cells #[.int .i64 v] 3)) := (((Below.refl _ w).alloc (Nat.le_refl _) _).alloc (by simp) _).alloc (by simp; omega) _
  have bO2 := (bO.alloc (.cells #[.pointer p] 25)).alloc (.cells #[.int .i64 v] 3)
  refine wpIn_rangeFunc_ownG rfl (by omega) (gf := 36) (lb := #[.pointer (some ⟨w.heap.size + 1, 0, none⟩), .pointer (some ⟨w.heap.size + 2, 0, none⟩)]) rfl trivial (enters_of Try.func36 (by kernel_rfl) rfl)
    SEQ (fun h k => Kb.trans h k) (kb_b (by rw [hsz]; omega)) (Below.refl _ _) (fun _ => rfl)
    (fun pre W => (∃ u, Boxed W w.heap.size 30 u ∧ W.ownsRow (w.heap.size + 3) 3 1 u pre.length (pre.map fun y : Nat => Value.int .i64 (y : Int)) ∧ True) ∧ Below w.heap.size w W ∧ w.heap.size + 3 ≤ W.heap.size)
    (fun _ _ _ => False)
    ?own ?own2
    ⟨⟨_, bO2, World.ownsRow_nil _ _ _ _, trivial⟩, hB0, by rw [hsz]; exact Nat.le_refl _⟩
    (fun x => { tmps := #[.pointer p, .int .i64 v, undef, undef, .slice none 0 0, .pointer (some ⟨w.heap.size, 0, none⟩), .int .i64 (x : Int), .pointer p, .int .i64 v, .func (.func 36) #[] #[.pointer (some ⟨w.heap.size + 1, 0, none⟩), .pointer (some ⟨w.heap.size + 2, 0, none⟩)], .int .i64 (x : Int), undef, undef, undef, undef, undef], defers := [] }) ?assign ?body ?done ?stop
  case own => exact Go.OwnFrom.and (Go.Own.from (holdsRow_own (w.heap.size + 3) w.heap.size 30 3 1 (fun pre : List Nat => pre.length) (fun pre => pre.map fun y : Nat => Value.int .i64 (y : Int)) (fun _ _ => True)) _) (Go.OwnFrom.and (ownFrom_below (Nat.le_refl _) (by rw [hsz]; omega)) (fun s W W' row hs hg hr => Nat.le_trans hs hg.size))
  case own2 => exact fun _ _ _ _ _ hs _ _ => hs
  case assign =>
    intro l x W K hK
    gi_wp2
    exact hK
  case body =>
    rintro l pre x W ⟨⟨u, hv, hrow, -⟩, hB, hz⟩ hlt
    have hc := hv.cell
    gi_wp2_with (gi_at_builtin; refine wpListIn_append_own _ rfl _ _ 30 rfl (w.heap.size + 3) 3 i0 (.int .i64 0) 1 8 Try.underlying30 hi hz0 hz1 hz2 rfl (by decide) _ _ _ rfl (hrow.alloc _) ⟨W.heap.size, 0, none⟩ 1 1 [.int .i64 (x : Int)] rfl rfl (cell_one_new _ _ _) (by simp [Value.oneCell']) (by unfold maxLen; omega) (by omega) (by simp; omega) ?_; intro v' w1 hown' hgrow _; obtain ⟨g', cap', rfl⟩ := ownsRow_succ hown'; obtain ⟨hv1, hv2, hr2, hk2, hb2⟩ := hv.appended (by decide) (ownsRow_mono hrow (Nat.le_add_right _ 3)) hB.size (Nat.le_refl _) (ownsRow_mono hown' (Nat.le_add_right _ 3)) hgrow; have hr3 := hown'.kept (grownBy_setCell' w1 w.heap.size (.slice (some ⟨g', 0, none⟩) (pre.length + 1) cap')) (.inr (hv1.not_row (by decide) hown').symm); have hkb := kb_app (B := w.heap.size) hrow hz hgrow (.slice (some ⟨g', 0, none⟩) (pre.length + 1) cap'); have hc1 := hv1.cell; have hf1 := hv1.frozen)
    exact ⟨hk2.from _, hkb, ⟨_, hv2, by simpa using hr3, trivial⟩, hB.trans hb2, Nat.le_trans hz (by have := hb2; have h1 := hgrow.size; simp at h1; unfold World.setCell; simp; omega)⟩
  case done =>
    rintro D ys W hD rfl ⟨⟨u, hv, hrow, -⟩, hB, hz⟩ hK
    have hc := hv.cell
    gi_wp2
    refine ⟨by simp, .inl ⟨_, _, rfl, run_takeDeferred hK, ?_⟩⟩
    exact ⟨_, results_tmp rfl _ _ _, u, rfl, ownsRow_putObj (ownsRow_mono hrow (Nat.le_add_right _ 3)) _ hK rfl, hB.trans (belowK_b (w := w) (Nat.le_refl _) W D _ _ (by simp at hD; omega) hK rfl rfl)⟩
  case stop =>
    rintro D c pre W _ _ h _
    exact h.elim
theorem nums_casts (l : List Nat) : nums .i64 (casts l) = l.map fun y : Nat => Value.int .i64 (y : Int) := by unfold nums casts; rw [List.map_map]; rfl
theorem casts_length (l : List Nat) : (casts l).length = l.length := by unfold casts; simp
theorem all_own {w' : World} {b : Nat} {v : Value} {l : List Nat} (h : w'.ownsRow b 3 1 v l.length (l.map fun y : Nat => Value.int .i64 (y : Int))) (hl : ∀ y ∈ l, y ≤ 100000) : Own .i64 3 w' b v (casts l) := by
  refine ⟨by rw [casts_length, nums_casts]; exact h, fun x hx => ?_⟩
  obtain ⟨y, hy, rfl⟩ := List.mem_map.1 hx
  have := hl y hy
  exact i64wf ⟨by omega, by omega⟩
theorem all_ok (base x gl gm n m k : Nat) (r : Nat → List Nat) (w : World) (h : LR base w x gl gm n m r) (hk : k < m) (hnm : n + m ≤ 100000) :
    Calls Try.prog 8 #[.pointer (some ⟨x, 0, none⟩), .int .i64 k] w fun e w' => ∃ v, e = .returned v ∧ Own .i64 3 w' w.heap.size v (casts (r k)) ∧ Below w.heap.size w w' := by
  obtain ⟨f, g, hs, hr⟩ := h
  have hx := hs.kx.lt
  have hg := hs.kl.lt
  have hb : Below w.heap.size w (((w.alloc (.cells #[.slice none 0 0] 30)).alloc (.cells #[.pointer (some ⟨x, 0, none⟩)] 25)).alloc (.cells #[.int .i64 (k : Int)] 3)) := below_alloc (below_alloc (below_alloc (Below.refl _ _) _) _) _
  refine (callsIn_wide (n := 5)).1 ((all_core (some ⟨x, 0, none⟩) k (r k) w (by have := hr.len hk; omega) ?_).mono fun e w' ⟨v, h1, h2, h3⟩ => ⟨v, h1, all_own h2 (fun y hy => by have := hr.lt k hk y hy; omega), h3⟩)
  intro l J Jx W hW _ _ hY h0
  have hs2 := (hs.below hb).below hW
  have c1 : W.cell? ⟨w.heap.size + 1, 0, none⟩ = some (.pointer (some ⟨x, 0, none⟩)) := by
    have hk1 : Blk ((w.alloc (.cells #[.slice none 0 0] 30)).alloc (.cells #[.pointer (some ⟨x, 0, none⟩)] 25)) (w.heap.size + 1) 25 #[.pointer (some ⟨x, 0, none⟩)] := blk_at (by simp)
    exact ((hk1.alloc _).below hW).cell 0
  have c2 : W.cell? ⟨w.heap.size + 2, 0, none⟩ = some (.int .i64 (k : Int)) := by
    have hk1 : Blk (((w.alloc (.cells #[.slice none 0 0] 30)).alloc (.cells #[.pointer (some ⟨x, 0, none⟩)] 25)).alloc (.cells #[.int .i64 (k : Int)] 3)) (w.heap.size + 2) 3 #[.int .i64 (k : Int)] := blk_at (by simp)
    exact (hk1.below hW).cell 0
  exact each1_in 4 l (w.heap.size + 1) (w.heap.size + 2) w.heap.size (w.heap.size + 3) base x gl gm n m k r f g J Jx (by decide) hY W c1 c2 hs2 hr hk hnm (by omega) (by omega) (by omega) (by omega) (by omega) (by omega) (by omega) (by omega) h0
theorem all_bad (p : Option Addr) (v : Int) (w : World) (hc : ∀ W, Below w.heap.size w W → Calls Try.prog 24 #[.pointer p, .int .i64 v] W fun e w' => e = .returned (.tuple #[.int .i64 0, .bool false]) ∧ W = w') :
    Calls Try.prog 8 #[.pointer p, .int .i64 v] w fun e w' => ∃ v, e = .returned v ∧ Own .i64 3 w' w.heap.size v [] ∧ Below w.heap.size w w' := by
  have hb : Below w.heap.size w (((w.alloc (.cells #[.slice none 0 0] 30)).alloc (.cells #[.pointer p] 25)).alloc (.cells #[.int .i64 v] 3)) := below_alloc (below_alloc (below_alloc (Below.refl _ _) _) _) _
  refine (callsIn_wide (n := 5)).1 ((all_core p v [] w (by decide) ?_).mono fun e w' ⟨v, h1, h2, h3⟩ => ⟨v, h1, all_own h2 (by simp), h3⟩)
  intro l J Jx W hW _ _ hY h0
  have c1 : W.cell? ⟨w.heap.size + 1, 0, none⟩ = some (.pointer p) := by
    have hk1 : Blk ((w.alloc (.cells #[.slice none 0 0] 30)).alloc (.cells #[.pointer p] 25)) (w.heap.size + 1) 25 #[.pointer p] := blk_at (by simp)
    exact ((hk1.alloc _).below hW).cell 0
  have c2 : W.cell? ⟨w.heap.size + 2, 0, none⟩ = some (.int .i64 v) := by
    have hk1 : Blk (((w.alloc (.cells #[.slice none 0 0] 30)).alloc (.cells #[.pointer p] 25)).alloc (.cells #[.int .i64 v] 3)) (w.heap.size + 2) 3 #[.int .i64 v] := blk_at (by simp)
    exact (hk1.below hW).cell 0
  exact each1_bad 4 l (w.heap.size + 1) (w.heap.size + 2) p v J Jx W c1 c2 (by decide) (hc W (below_step hb hW)) h0
end Go.Proofs.Ytcmcljdecmbceaa.Ct
