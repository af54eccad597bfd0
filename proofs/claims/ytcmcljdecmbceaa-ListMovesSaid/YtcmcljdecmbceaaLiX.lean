import Derived.Test.YtcmcljdecmbceaaLiV
/-! Chapter 07: the reference's calls with any numbers; both together. -/
namespace Go.Proofs.Ytcmcljdecmbceaa.Ct
open Go.RowKit
set_option linter.unusedVariables false
set_option linter.unusedSimpArgs false
def inB (m : Nat) (r : Nat → List Nat) (v : Int) : Bool := (List.range m).any fun k => decide (v ∈ casts (r k))
theorem inB_iff {m : Nat} {r : Nat → List Nat} {v : Int} : inB m r v = true ↔ ∃ k, k < m ∧ v ∈ casts (r k) := by
  unfold inB
  rw [List.any_eq_true]
  exact ⟨fun ⟨k, hk, h⟩ => ⟨k, List.mem_range.1 hk, of_decide_eq_true h⟩, fun ⟨k, hk, h⟩ => ⟨k, List.mem_range.2 hk, decide_eq_true h⟩⟩
theorem prem2 {base x gl gm n m : Nat} {w : World} {r : Nat → List Nat} (h : LR base w x gl gm n m r) (v : Int) (hn : n ≤ 1024) (hm : m ≤ 16) : Calls Try.prog 10 #[.pointer (some ⟨x, 0, none⟩), .int .i64 v] w fun e w' => e = .returned (.bool (inB m r v)) ∧ LR base w' x gl gm n m (remI r v) ∧ Tch gl gm w w' :=
  (prem h v hn hm).mono fun e w' ⟨b, h1, h2, h3⟩ => ⟨by rw [h1, Bool.eq_iff_iff.2 (h2.trans inB_iff.symm)], h3⟩
section
variable {base C q qb n m : Nat} {r : Nat → List Nat} {w : World}
theorem rrem2 (h : RL base C w q qb n m r) (hr : Rws n m r) (v : Int) (hn : n ≤ 1024) (hm : m ≤ 16) (hC : C ≤ w.heap.size) (hL : ∀ k, k < m → (r k).length ≤ n) : Calls Try.prog 18 #[.pointer (some ⟨q, 0, none⟩), .int .i64 v] w fun e w' => e = .returned (.bool (inB m r v)) ∧ RL base C w' q qb n m (remI r v) ∧ Tch qb qb w w' :=
  (rrem_calls base C q qb n m r v w h hr (by omega) hC (fun k hk => by have := hL k hk; omega)).mono fun e w' ⟨b, h1, h2, h3⟩ => ⟨by rw [h1, Bool.eq_iff_iff.2 (h2.trans inB_iff.symm)], h3⟩
theorem rpush2 (h : RL base C w q qb n m r) (hr : Rws n m r) (l v : Int) (hn : n ≤ 1024) (hm : m ≤ 16) (hC : C ≤ w.heap.size) (hL : ∀ k, k < m → (r k).length ≤ n) : Calls Try.prog 16 #[.pointer (some ⟨q, 0, none⟩), .int .i64 l, .int .i64 v] w fun e w' => e = .returned (.bool (decide (mayI n m l v))) ∧ RL base C w' q qb n m (pushV r n m l v) ∧ Tch qb qb w w' := by
  by_cases hb : mayI n m l v
  · unfold pushV
    rw [if_pos hb, decide_eq_true hb]
    obtain ⟨k, y, rfl, rfl, hk, hy⟩ := may_nat hb
    exact rpush_ok base C q qb n m k y r w h hr (by omega) hC (fun k hk => by have := hL k hk; omega) hk hy (by omega)
  · unfold pushV
    rw [if_neg hb, decide_eq_false hb]
    exact (rpush_bad base C q qb n m r l v w h hb).mono fun e w' ⟨h1, h2⟩ => ⟨h1, h2 ▸ h, h2 ▸ Tch.refl _ _ _⟩
theorem rapp2 (h : RL base C w q qb n m r) (hr : Rws n m r) (l v : Int) (hn : n ≤ 1024) (hm : m ≤ 16) (hC : C ≤ w.heap.size) (hL : ∀ k, k < m → (r k).length ≤ n) : Calls Try.prog 17 #[.pointer (some ⟨q, 0, none⟩), .int .i64 l, .int .i64 v] w fun e w' => e = .returned (.bool (decide (mayI n m l v))) ∧ RL base C w' q qb n m (appV r n m l v) ∧ Tch qb qb w w' := by
  by_cases hb : mayI n m l v
  · unfold appV
    rw [if_pos hb, decide_eq_true hb]
    obtain ⟨k, y, rfl, rfl, hk, hy⟩ := may_nat hb
    exact rapp_ok base C q qb n m k y r w h hr (by omega) hC (fun k hk => by have := hL k hk; omega) hk hy (by omega)
  · unfold appV
    rw [if_neg hb, decide_eq_false hb]
    exact (rapp_bad base C q qb n m r l v w h hb).mono fun e w' ⟨h1, h2⟩ => ⟨h1, h2 ▸ h, h2 ▸ Tch.refl _ _ _⟩
end
/-- both sides: program's lists x, the reference's q = C + 1, its rows' block C. -/
structure Two (w0 : World) (B C x gl gm n m : Nat) (w : World) (r : Nat → List Nat) (rr : Nat → List Nat) : Prop where
  p : LR B w x gl gm n m r
  q : RL C C w (C + 1) C n m rr
  x1 : x < C
  x2 : gl < C
  x3 : gm < C
  bC : B ≤ C
  sz : C + 2 ≤ w.heap.size
  bel : Below B w0 w
section
variable {w0 : World} {B C x gl gm n m : Nat} {w w1 : World} {r rr r2 : Nat → List Nat}
theorem LR.base {base x gl gm n m : Nat} {w : World} {r : Nat → List Nat} (h : LR base w x gl gm n m r) : base ≤ gl ∧ base ≤ gm := by obtain ⟨f, g, hs, -⟩ := h; exact ⟨hs.bl, hs.bm⟩
theorem Two.below (h : Two w0 B C x gl gm n m w r rr) (hb : Below w.heap.size w w1) : Two w0 B C x gl gm n m w1 r rr := ⟨h.p.below hb, h.q.below hb, h.x1, h.x2, h.x3, h.bC, Nat.le_trans h.sz hb.size, Below.trans h.bel (hb.mono (by have := h.sz; have := h.bC; omega))⟩
theorem Two.drew (h : Two w0 B C x gl gm n m w r rr) : Two w0 B C x gl gm n m w.drew r rr := h.below (below_drew (Below.refl _ _))
theorem Two.drewN (h : Two w0 B C x gl gm n m w r rr) (k : Nat) : Two w0 B C x gl gm n m (w.drewN k) r rr := h.below (below_drewN (Below.refl _ _) k)
theorem Two.stepP (h : Two w0 B C x gl gm n m w r rr) (hp : LR B w1 x gl gm n m r2) (ht : Tch gl gm w w1) : Two w0 B C x gl gm n m w1 r2 rr :=
  ⟨hp, h.q.tch ht (by have := h.x2; omega) (by have := h.x3; omega) (by have := h.x2; omega) (by have := h.x3; omega) h.x2 h.x3, h.x1, h.x2, h.x3, h.bC, Nat.le_trans h.sz ht.size, Below.trans h.bel (ht.to_below h.p.base.1 h.p.base.2 (by have := h.sz; have := h.bC; omega))⟩
theorem Two.stepQ (h : Two w0 B C x gl gm n m w r rr) (hq : RL C C w1 (C + 1) C n m r2) (ht : Tch C C w w1) : Two w0 B C x gl gm n m w1 r r2 :=
  ⟨h.p.tch ht (by have := h.x1; omega) (by have := h.x1; omega) (by have := h.x2; omega) (by have := h.x2; omega) (by have := h.x3; omega) (by have := h.x3; omega), hq, h.x1, h.x2, h.x3, h.bC, Nat.le_trans h.sz ht.size, Below.trans h.bel (ht.to_below h.bC h.bC (by have := h.sz; have := h.bC; omega))⟩
theorem Two.szd (h : Two w0 B C x gl gm n m w r rr) : C ≤ w.heap.size := by have := h.sz; omega
end
/-- a block of another is as it was. -/
theorem Blk.two {w0 : World} {B C x gl gm n m g : Nat} {t : TypeId} {cs : Array Value} {w w1 : World} {r rr : Nat → List Nat} (hk : Blk w g t cs) (h : Two w0 B C x gl gm n m w r rr) (hg : C + 2 ≤ g) (ht : Tch gl gm w w1 ∨ Tch C C w w1) : Blk w1 g t cs := by
  rcases ht with ht | ht
  · exact hk.tch ht (by have := h.x2; omega) (by have := h.x3; omega)
  · exact hk.tch ht (by omega) (by omega)
/-- the rows of the reference are rows. -/
theorem Rws.rem {n m : Nat} {r : Nat → List Nat} (h : Rws n m r) (v : Int) : Rws n m (remI r v) :=
  ⟨fun k hk => (h.nod k hk).sublist List.filter_sublist, fun j k hj hk hne y hy hy2 => h.dis j k hj hk hne y (List.mem_filter.1 hy).1 (List.mem_filter.1 hy2).1, fun k hk y hy => h.lt k hk y (List.mem_filter.1 hy).1, fun k hk => by unfold remI; rw [h.far k hk]; rfl⟩
end Go.Proofs.Ytcmcljdecmbceaa.Ct
