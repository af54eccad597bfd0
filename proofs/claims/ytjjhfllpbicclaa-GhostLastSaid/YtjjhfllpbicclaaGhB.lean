import Derived.Test.YtjjhfllpbicclaaGhA
/-! Histories: the closure of settle, IndexFunc. -/
namespace Go.Proofs.Ytjjhfllpbicclaa.Ct
open Go.RowKit
set_option linter.unusedVariables false
set_option linter.unusedSimpArgs false
theorem put_cells {base : Nat} {w : World} {gp off cap n : Nat} {L : List KV} (h : SL base w 47 2 (.slice (some ⟨gp, off, none⟩) n cap) n (flatP L)) (hn : L.length = n) {k : Nat} (hk : k < n) :
    w.cell? ⟨gp, off + k * 2, none⟩ = some (.int .u64 (L.getD k (0, 0)).1) ∧ w.cell? ⟨gp, off + k * 2 + 1, none⟩ = some (.int .i64 (L.getD k (0, 0)).2) := by
  obtain ⟨g, off', cap', cs, e, hb, hblk, h1, h2, hc⟩ := h.at_ (by omega)
  simp only [Value.slice.injEq, Option.some.injEq, Addr.mk.injEq, and_true, true_and] at e
  obtain ⟨⟨rfl, rfl⟩, rfl⟩ := e
  obtain ⟨f0, f1⟩ := flatP_get L k (by omega)
  refine ⟨?_, ?_⟩
  · rw [hblk.cell, hc _ (by omega), f0]
  · rw [Nat.add_assoc, hblk.cell, hc _ (by omega), f1]
set_option maxHeartbeats 4000000 in
theorem del1_calls (b h g : Nat) (M : List KV) (p : KV) (w : World) (hp : w.cell? ⟨b, 0, none⟩ = some (.pointer (some ⟨h, 0, none⟩))) (hc : w.cell? ⟨h, 0, none⟩ = some (.map (some g))) (hm : MapU w g M) :
    Calls Try.prog 22 #[.agg #[.int .u64 p.1, .int .i64 p.2], .pointer (some ⟨b, 0, none⟩)] w fun e w' => e = .returned (.bool (!cntS M p)) ∧ Below w.heap.size w w' := by
  have hb1 := below_alloc (Below.refl w.heap.size w) (.cells #[.int .u64 p.1, .int .i64 p.2] 47)
  have CC := Lib.hid (counts_calls h g M p _ (bget hb1 hc) (hm.below hb1))
  have hp1 := bget hb1 hp
  have hk : Blk (w.alloc (.cells #[.int .u64 p.1, .int .i64 p.2] 47)) w.heap.size 47 #[.int .u64 p.1, .int .i64 p.2] := Blk.new _ _ _
  have k0 := hk.cell 0
  have k1 := hk.cell 1
  have HB := Lib.hid hb1
  obtain ⟨p1, p2⟩ := p
  dsimp only at *
  clear hm hk hb1 hc
  generalize cntS M (p1, p2) = q at *
  go_enter Try.func22, Try.ntmps22
  go_wp2_with (go_at_call 20; (with_reducible refine (CC.out).mono ?_); rintro e w' ⟨rfl, hb⟩; have HB2 := Lib.hid (below_step HB.out hb); clear hb)
  go_ret
  exact ⟨rfl, HB2.out⟩
def IdxP (M L : List KV) (r : Int) : Prop := (r = -1 ∧ ∀ j, j < L.length → cntS M (L.getD j (0, 0)) = true) ∨ ∃ k : Nat, k < L.length ∧ r = k ∧ cntS M (L.getD k (0, 0)) = false ∧ ∀ j, j < k → cntS M (L.getD j (0, 0)) = true
set_option maxHeartbeats 8000000 in
theorem indexP_calls (base b h g gp off cap n : Nat) (M L : List KV) (w : World) (hp : w.cell? ⟨b, 0, none⟩ = some (.pointer (some ⟨h, 0, none⟩))) (hc : w.cell? ⟨h, 0, none⟩ = some (.map (some g))) (hm : MapU w g M)
    (hs : SL base w 47 2 (.slice (some ⟨gp, off, none⟩) n cap) n (flatP L)) (hn : L.length = n) (hn2 : n ≤ 1000000) :
    Calls Try.prog 23 #[.slice (some ⟨gp, off, none⟩) n cap, .func (.func 22) #[] #[.pointer (some ⟨b, 0, none⟩)]] w fun e w' => ∃ r, e = .returned (.int .i64 r) ∧ IdxP M L r ∧ Below w.heap.size w w' := by
  have PC := Lib.hid (fun (W : World) (hb : Below w.heap.size w W) k hk => put_cells (hs.below hb) hn (k := k) hk)
  have DC := Lib.hid (fun (p : KV) (W : World) (hb : Below w.heap.size w W) => del1_calls b h g M p W (bget hb hp) (bget hb hc) (hm.below hb))
  have HN := Lib.hid hn
  clear hs hm hp hc hn
  go_enter Try.func23, Try.ntmps23
  go_wp2
  go_loopw [5, 8] (fun _ j wr => ∃ k : Nat, k ≤ n ∧ j = .int .i64 k ∧ (∀ i, i < k → cntS M (L.getD i (0, 0)) = true) ∧ Below w.heap.size w wr) (fun _ j _ => n - (intOf j).toNat)
  case atStart => exact ⟨0, by omega, rfl, by omega, Below.refl _ _⟩
  case round =>
    obtain ⟨k, hk, rfl, hz, hbel⟩ := hrel
    have HZ := Lib.hid hz
    have HB := Lib.hid hbel
    clear hz
    by_cases hlt : k < n
    · have hlti : (k : Int) < n := by omega
      obtain ⟨c0, c1⟩ := PC.out _ hbel k hlt
      have D1 := Lib.hid (DC.out (L.getD k (0, 0)) wr hbel)
      have HZ1 := Lib.hid (fun (he : cntS M (L.getD k (0, 0)) = true) => (show ∀ i, i < k + 1 → cntS M (L.getD i (0, 0)) = true by
        intro i hi
        rcases Nat.lt_succ_iff_lt_or_eq.1 hi with h1 | rfl
        · exact HZ.out i h1
        · exact he))
      have HF := Lib.hid (fun (he : cntS M (L.getD k (0, 0)) = false) => (show IdxP M L k from .inr ⟨k, by rw [HN.out]; exact hlt, rfl, he, HZ.out⟩))
      clear hbel
      generalize L.getD k (0, 0) = p at *
      obtain ⟨p1, p2⟩ := p
      dsimp only at *
      cases hq : cntS M (p1, p2)
      · rw [hq] at D1
        have R := Lib.hid (HF.out hq)
        clear HZ1 HF hq
        go_wp2_with (go_at_call 22; (with_reducible refine (D1.out).mono ?_); rintro e w' ⟨rfl, hb⟩; have HB2 := Lib.hid (below_step HB.out hb); clear hb)
        go_ret
        exact ⟨_, rfl, R.out, HB2.out⟩
      · rw [hq] at D1
        have R := Lib.hid (HZ1.out hq)
        clear HZ1 HF hq
        go_wp2_with (go_at_call 22; (with_reducible refine (D1.out).mono ?_); rintro e w' ⟨rfl, hb⟩; have HB2 := Lib.hid (below_step HB.out hb); clear hb)
        go_roundw
        case rel => exact ⟨k + 1, by omega, by go_num, R.out, HB2.out⟩
        case measure => simp [intOf]; omega
    · obtain rfl : k = n := by omega
      have R := Lib.hid (show IdxP M L (-1) from .inl ⟨rfl, fun j hj => HZ.out j (by rw [HN.out] at hj; exact hj)⟩)
      go_wp2
      go_ret
      exact ⟨_, rfl, R.out, HB.out⟩
end Go.Proofs.Ytjjhfllpbicclaa.Ct
