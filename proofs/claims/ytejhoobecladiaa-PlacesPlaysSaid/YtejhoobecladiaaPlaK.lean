import Derived.Test.YtejhoobecladiaaPlaJ
import Derived.Test.YtejhoobecladiaaEachK
/-! Chapter 27: each, a range over a function. -/
namespace Go.Proofs.Ytejhoobecladiaa.Ct
open Go.RowKit Go.Shelf
attribute [local go_sem] Oper.semAt_some
set_option linter.unusedVariables false
set_option linter.unusedSimpArgs false
/-- the slots that have blocks, of so many from one on. -/
def occ (s : Nat → One27) (a : Nat) : Nat → List Nat
  | 0 => []
  | k + 1 => occ s a k ++ (if (s (a + k)).lba = 0 then [] else [a + k])
theorem occ_hit {s : Nat → One27} {a k : Nat} (h : (s (a + k)).lba ≠ 0) : occ s a (k + 1) = occ s a k ++ [a + k] := by show occ s a k ++ _ = _; rw [if_neg h]
theorem occ_miss {s : Nat → One27} {a k : Nat} (h : (s (a + k)).lba = 0) : occ s a (k + 1) = occ s a k := by show occ s a k ++ _ = _; rw [if_pos h, List.append_nil]
theorem occ_prefix (s : Nat → One27) (a : Nat) {k K : Nat} (h : k ≤ K) : occ s a k <+: occ s a K := by
  induction K with
  | zero => obtain rfl : k = 0 := by omega
            exact List.prefix_refl _
  | succ K ih =>
    by_cases e : k = K + 1
    · subst e; exact List.prefix_refl _
    · exact (ih (by omega)).trans (List.prefix_append _ _)
theorem occ_lt {s : Nat → One27} {a k K : Nat} (h : k < K) (h0 : (s (a + k)).lba ≠ 0) : (occ s a k).length < (occ s a K).length := by
  have := (occ_prefix s a (k := k + 1) (K := K) h).length_le
  rw [occ_hit h0, List.length_append] at this
  simp at this
  omega
theorem occ_len (s : Nat → One27) (a : Nat) : ∀ k, (occ s a k).length ≤ k
  | 0 => Nat.le_refl _
  | k + 1 => by
    have := occ_len s a k
    unfold occ
    rw [List.length_append]
    split <;> simp <;> omega
def entV (s : Nat → One27) (i : Nat) : Value := .agg #[.int .i64 (i : Int), .int .i64 (((s i).lba - 1 : Nat) : Int), .int .u64 (s i).tag]
/-- how many slots each asks from one on, up to another one. -/
def spanA (fr : Int) : Nat := (max fr 0).toNat
def spanK (m : Nat) (fr ft : Int) : Nat := (min ft (m : Int) - max fr 0).toNat
def rowN (m : Nat) (s : Nat → One27) (fr ft : Int) : List Nat := occ s (spanA fr) (spanK m fr ft)
section
variable {base x gl gw n m : Nat} {w w1 : World} {s : Nat → One27}
theorem LQ.kb {N B : Nat} (h : LQ base w x gl gw n m s) (hk : Kb N B w w1) (h1 : x < N ∧ gl < N ∧ gw < N) (h2 : x ≠ B ∧ gl ≠ B ∧ gw ≠ B) : LQ base w1 x gl gw n m s := by
  obtain ⟨wh, h⟩ := h
  exact ⟨wh, ⟨h.ps.bx, h.ps.bl, h.ps.bw, hk.blk h1.1 h2.1 h.ps.kx, hk.blk h1.2.1 h2.2.1 h.ps.kl, hk.blk h1.2.2 h2.2.2 h.ps.kw⟩, h.inv⟩
theorem LQ.c0 (h : LQ base w x gl gw n m s) : w.cell? ⟨x, 0, none⟩ = some (.slice (some ⟨gl, 0, none⟩) m m) := by obtain ⟨wh, h⟩ := h; exact h.cx.1
end
set_option maxHeartbeats 2000000 in
theorem each_calls (p : Option Addr) (fr ft : Int) (w : World) : Calls Try.prog 30 #[.pointer p, .int .i64 fr, .int .i64 ft] w fun e w' =>
    e = .returned (.func (.func 36) #[] #[.pointer (some ⟨w.heap.size, 0, none⟩), .pointer (some ⟨w.heap.size + 1, 0, none⟩), .pointer (some ⟨w.heap.size + 1 + 1, 0, none⟩)]) ∧ w' = ((w.alloc (.cells #[.pointer p] 23)).alloc (.cells #[.int .i64 fr] 3)).alloc (.cells #[.int .i64 ft] 3) := by
  go_enter Try.func30, Try.ntmps30
  go_wp2
  go_ret
  exact ⟨by simp, rfl⟩
set_option maxRecDepth 100000 in
set_option maxHeartbeats 4000000 in
theorem each1_in (n l bx bf bt B0 n1 Nj base x gl gw nb m : Nat) (s : Nat → One27) (fr ft : Int) (J Jx : List Nat → World → Prop) (hn : 1 ≤ n) (hJa : AbidesFrom Nj J)
    (hY : ∀ (pre : List Nat) (y : Nat) (W : World), J pre W → pre.length < (rowN m s fr ft).length → YieldAt Fence.wide (n - 1) Try.prog l #[entV s y] W fun e W' =>
      (e = .returned (.bool true) ∧ J (pre ++ [y]) W' ∧ Kb n1 B0 W W') ∨ (e = .returned (.bool false) ∧ Jx (pre ++ [y]) W'))
    (W : World) (hx : W.cell? ⟨bx, 0, none⟩ = some (.pointer (some ⟨x, 0, none⟩))) (hf : W.cell? ⟨bf, 0, none⟩ = some (.int .i64 fr)) (ht : W.cell? ⟨bt, 0, none⟩ = some (.int .i64 ft)) (hs : LQ base W x gl gw nb m s) (hnb : nb ≤ 100000) (hm : m ≤ 100000) (hsz : n1 ≤ W.heap.size)
    (hfr : fr ≤ 100000) (b1 : bx < n1) (b2 : bt < n1) (b3 : x < n1 ∧ gl < n1 ∧ gw < n1) (c1 : bx ≠ B0) (c2 : bt ≠ B0) (c3 : x ≠ B0 ∧ gl ≠ B0 ∧ gw ≠ B0) (h0 : J [] W) :
    CallsIn Fence.wide n Try.prog 36 #[.func (.yield l) #[] #[], .pointer (some ⟨bx, 0, none⟩), .pointer (some ⟨bf, 0, none⟩), .pointer (some ⟨bt, 0, none⟩)] W fun e W' => (∃ v, e = .returned v) ∧
      ((∃ ys, ys = rowN m s fr ft ∧ J ys W') ∨ (∃ pre, pre <+: rowN m s fr ft ∧ Jx pre W')) := by
  have HY := Lib.hid hY
  have CX := Lib.hid (fun (W' : World) (hb : Kb n1 B0 W W') => (show W'.cell? ⟨bx, 0, none⟩ = some (.pointer (some ⟨x, 0, none⟩)) ∧ W'.cell? ⟨bt, 0, none⟩ = some (.int .i64 ft) ∧ LQ base W' x gl gw nb m s from ⟨hb.cell b1 c1 hx, hb.cell b2 c2 ht, hs.kb hb b3 c3⟩))
  have mx := fun (ts : Array TypeId) (t : TypeId) (w : World) => max_run (P := Try.prog) fr 0 ts t w
  have mn := fun (ts : Array TypeId) (t : TypeId) (w : World) => min_run (P := Try.prog) ft m ts t w
  have ea : max fr 0 = (spanA fr : Int) := by unfold spanA; omega
  have EK := Lib.hid (show spanK m fr ft = (min ft (m : Int) - (spanA fr : Int)).toNat by unfold spanK; rw [ea])
  have LA : spanA fr ≤ 100000 := by unfold spanA; omega
  rw [ea] at mx
  have hrow : rowN m s fr ft = occ s (spanA fr) (spanK m fr ft) := rfl
  rw [hrow] at HY ⊢
  clear hrow ea
  generalize spanA fr = a at *
  generalize spanK m fr ft = K at *
  clear hY
  refine callsIn_of_wp Try.func36 rfl trivial ?_ rfl
  simp only [Try.ntmps36, List.size_toArray, List.length_cons, List.length_nil, Nat.reduceAdd, Nat.reduceSub, Array.replicate_succ, Array.replicate_zero, List.push_toArray, List.append_toArray, List.nil_append, List.cons_append]
  gi_wp2
  have HW := Lib.hid hs
  clear hx hf ht hs mx
  gi_loopw [5, 6, 7, 8] (fun v5 v6 v7 v8 wr => ∃ k : Nat, k ≤ K ∧ v5 = .int .i64 ((a + k : Nat) : Int) ∧ Kb n1 B0 W wr ∧ J (occ s a k) wr ∧ n1 ≤ wr.heap.size)
    (fun v5 _ _ _ _ => (a + K) - (intOf v5).toNat)
  case atStart => exact ⟨0, by omega, rfl, Kb.refl _ _ _, h0, hsz⟩
  case round =>
    obtain ⟨k, hk, rfl, hkb, hJ, hz⟩ := hrel
    have HJ := Lib.hid hJ
    have HK := Lib.hid hkb
    have HZ := Lib.hid hz
    clear hJ hkb hz h0
    have hlt : k < K ↔ ((a + k : Nat) : Int) < min ft (m : Int) := by have := EK.out; omega
    obtain ⟨x0, x1, hl⟩ := CX.out wr HK.out
    have x2 := hl.c0
    have HL := Lib.hid hl
    clear hl
    by_cases hq : k < K
    · have q1 := hlt.1 hq
      have q2 : ¬ (min ft (m : Int) ≤ ((a + k : Nat) : Int)) := by omega
      generalize hjj : a + k = j at *
      have hjm : j < m := by omega
      clear hlt
      generalize min ft (m : Int) = e at *
      gi_wp2
      gi_region
      have HJ := Lib.hid (abides_below hJa HJ.out (below_drew (Below.refl _ _)))
      have HK := Lib.hid (HK.out.trans (Kb.of_below HZ.out (below_drew (Below.refl _ _))))
      have HZ := Lib.hid (show n1 ≤ wr.drew.heap.size from HZ.out)
      have HL := Lib.hid HL.out.drew
      have AQ := Lib.hid (atQ HL.out hnb j)
      clear x0 x1 x2 mn
      generalize wr.drew = W1 at *
      obtain ⟨x0, x1, -⟩ := CX.out W1 HK.out
      by_cases hz : (s j).lba = 0
      · have ev : atZ m s j = .tuple #[.agg #[.int .i64 0, .int .i64 0, .int .u64 0], .bool false, .bool false] := if_neg (by unfold hasZ; rw [Int.toNat_natCast]; simp [hz])
        rw [ev] at AQ
        have EO := Lib.hid (occ_miss (s := s) (a := a) (k := k) (by rw [hjj]; exact hz))
        clear ev hz
        gi_upto_region 5 with (refine ⟨trivial, ?_⟩; gi_at_call 11; refine (callsIn_wide.2 AQ.out).mono ?_; rintro e w' ⟨rfl, hb⟩; have HB := Lib.hid hb; clear hb)
        gi_wp2
        refine ⟨(fun f hf => by cases hf), ?_⟩
        gi_wp2
        go_roundw
        case rel => exact ⟨k + 1, by omega, by rw [← hjj]; go_num, HK.out.trans (Kb.of_below HZ.out (below_alloc HB.out _)), by rw [EO.out]; exact abides_below hJa HJ.out (below_alloc HB.out _), Nat.le_trans HZ.out (below_alloc HB.out _).size⟩
        case measure => simp [intOf]; omega
      · have ev : atZ m s j = .tuple #[.agg #[.int .i64 j, .int .i64 (((s j).lba - 1 : Nat) : Int), .int .u64 (s j).tag], .bool (s j).sure, .bool true] := by
          unfold atZ hasZ
          rw [inZ_nat hjm, Int.toNat_natCast]
          exact if_pos (by simp [hz])
        rw [ev] at AQ
        have EO := Lib.hid (occ_hit (s := s) (a := a) (k := k) (by rw [hjj]; exact hz))
        have LO := Lib.hid (occ_lt (s := s) (a := a) hq (by rw [hjj]; exact hz))
        have EV := Lib.hid (show entV s j = .agg #[.int .i64 j, .int .i64 (((s j).lba - 1 : Nat) : Int), .int .u64 (s j).tag] from rfl)
        generalize (((s j).lba - 1 : Nat) : Int) = vl at *
        generalize (s j).tag = vt at *
        generalize (s j).sure = vs at *
        clear ev hz
        gi_upto_region 5 with (refine ⟨trivial, ?_⟩; gi_at_call 11; refine (callsIn_wide.2 AQ.out).mono ?_; rintro e w' ⟨rfl, hb⟩; have HB := Lib.hid hb; clear hb)
        have CN := Lib.hid (Blk.new w' 34 #[.int .i64 j, .int .i64 vl, .int .u64 vt])
        have B2 := Lib.hid (below_alloc HB.out (.cells #[.int .i64 j, .int .i64 vl, .int .u64 vt] 34))
        have HK2 := Lib.hid (HK.out.trans (Kb.of_below HZ.out B2.out))
        have HJ2 := Lib.hid (abides_below hJa HJ.out B2.out)
        have HZ2 := Lib.hid (Nat.le_trans HZ.out B2.out.size)
        have YY := Lib.hid (HY.out (occ s a k) j _ HJ2.out LO.out)
        rw [EV.out] at YY
        clear HJ HK HZ HL AQ x0 x1 B2
        generalize w'.alloc (.cells #[.int .i64 j, .int .i64 vl, .int .u64 vt] 34) = W2 at *
        generalize w'.heap.size = gn at *
        have d0 := CN.out.cell 0
        have d1 := CN.out.cell 1
        have d2 := CN.out.cell 2
        obtain ⟨fn, tmps, assign, body, hy, hR⟩ := YY.out
        gi_wp2
        refine hR.mono ?_
        rintro e3 W3 (⟨rfl, hJ3, hk3⟩ | ⟨rfl, hJx3⟩)
        · have HK3 := Lib.hid (HK2.out.trans hk3)
          have HJ3 := Lib.hid hJ3
          clear hk3 hJ3 hR hy YY
          gi_wp2
          go_roundw
          case rel => exact ⟨k + 1, by omega, by rw [← hjj]; go_num, HK3.out, by rw [EO.out, hjj]; exact HJ3.out, Nat.le_trans hsz HK3.out.size⟩
          case measure => simp [intOf]; omega
        · clear hR hy YY
          gi_wp2
          refine bodyPost_ret (results_none rfl _ _ _) rfl ?_
          exact ⟨⟨_, rfl⟩, .inr ⟨occ s a k ++ [j], by rw [← hjj, ← EO.out]; exact occ_prefix s a hq, hJx3⟩⟩
    · have q1 : ¬ ((a + k : Nat) : Int) < min ft (m : Int) := fun h => hq (hlt.2 h)
      have q2 : min ft (m : Int) ≤ ((a + k : Nat) : Int) := by omega
      obtain rfl : k = K := by omega
      clear hlt HW HL
      generalize a + k = j at *
      generalize min ft (m : Int) = e at *
      gi_wp2
      gi_region
      gi_wp2
      go_end0
      exact ⟨⟨_, rfl⟩, .inl ⟨_, rfl, abides_below hJa HJ.out (below_drew (Below.refl _ _))⟩⟩
end Go.Proofs.Ytejhoobecladiaa.Ct
