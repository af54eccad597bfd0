import Derived.Test.YtejhoobecladiaaPlaT
import Derived.Test.YtejhoobecladiaaPlaV
/-! Chapter 27: the program's places and the reference's row, side by side. -/
namespace Go.Proofs.Ytejhoobecladiaa.Ct
open Go.RowKit
set_option linter.unusedVariables false
set_option linter.unusedSimpArgs false
theorem LQ.far {base x gl gw n m : Nat} {w : World} {s : Nat → One27} (h : LQ base w x gl gw n m s) (j : Nat) (hj : m ≤ j) : (s j).lba = 0 := by obtain ⟨wh, h⟩ := h; exact h.inv.far j hj
theorem celR_two (s : Nat → One27) (i : Nat) (t : Int) : updV (updV (celR s) (i * 4 + 1) (.bool true)) (i * 4 + 3) (.int .u64 t) = celR (updO s i ⟨(s i).lba, t, true⟩) := by
  funext j
  unfold updV
  by_cases h3 : j = i * 4 + 3
  · subst h3; rw [if_pos rfl, celR_3, updO_eq]
  · rw [if_neg h3]
    by_cases h1 : j = i * 4 + 1
    · subst h1; rw [if_pos rfl, celR_1, updO_eq]
    · rw [if_neg h1]
      by_cases h2 : j = i * 4 + 2
      · subst h2; rw [celR_2, celR_2, updO_eq]
      · by_cases h0 : j = i * 4
        · subst h0; rw [celR_0, celR_0, updO_eq]
        · unfold celR
          rw [updO_ne (by omega)]
theorem RS.set2 {base x gl n m : Nat} {w : World} {s : Nat → One27} (h : RS base w x gl n m s) (i : Nat) (t : Int) :
    RS base ((w.setCell ⟨gl, i * 4 + 1, none⟩ (.bool true)).setCell ⟨gl, i * 4 + 3, none⟩ (.int .u64 t)) x gl n m (updO s i ⟨(s i).lba, t, true⟩) := by
  have n1 := h.ne
  refine ⟨h.bx, h.bl, (h.kx.far (by simpa using n1) _).far (by simpa using n1) _, ?_⟩
  have h3 := (h.kl.set_ (i * 4 + 1) (.bool true)).set_ (i * 4 + 3) (.int .u64 t)
  rw [valsV_upd, valsV_upd, celR_two] at h3
  exact h3
theorem below_alloc2 {w0 w : World} (h : Below w0.heap.size w0 w) (o : Obj) : Below w0.heap.size w0 (w.alloc o) := h.alloc h.size o
/-- both sides in memory, and the act that is done. -/
structure Two27 (w0 : World) (C x gl gw q gr n m g : Nat) (cs : Array Value) (w : World) (sp sr : Nat → One27) : Prop where
  p : LQ w0.heap.size w x gl gw n m sp
  r : RS C w q gr n m sr
  lt : x < C ∧ gl < C ∧ gw < C
  bC : w0.heap.size ≤ C
  bel : Below w0.heap.size w0 w
  act : Blk w g 29 cs
section
variable {w0 w w1 : World} {C x gl gw q gr n m g : Nat} {cs : Array Value} {sp sr s1 : Nat → One27}
theorem LQ.bel27 {base x gl gw n m : Nat} {w w1 : World} {s : Nat → One27} (h : LQ base w x gl gw n m s) (ht : TchS (Mine27 x gl gw) w w1) (hb : base ≤ w.heap.size) : Below base w w1 := ht.to_below (fun i hi => (h.mine i hi).1) hb
theorem LQ.act_ne (h : LQ w0.heap.size w x gl gw n m sp) (ha : Blk w g 29 cs) : ¬ Mine27 x gl gw g := by
  obtain ⟨wh, h⟩ := h
  rintro (rfl | rfl | rfl)
  · exact (h.ps.kx.ne_ ha (by decide)) rfl
  · exact (h.ps.kl.ne_ ha (by decide)) rfl
  · exact (h.ps.kw.ne_ ha (by decide)) rfl
theorem Two27.below (h : Two27 w0 C x gl gw q gr n m g cs w sp sr) (hb : Below w.heap.size w w1) : Two27 w0 C x gl gw q gr n m g cs w1 sp sr :=
  ⟨h.p.below hb, h.r.below hb, h.lt, h.bC, h.bel.trans (hb.mono h.bel.size), h.act.below hb⟩
theorem Two27.drew (h : Two27 w0 C x gl gw q gr n m g cs w sp sr) : Two27 w0 C x gl gw q gr n m g cs w.drew sp sr := h.below (below_drew (Below.refl _ _))
theorem Two27.drewN (h : Two27 w0 C x gl gw q gr n m g cs w sp sr) (k : Nat) : Two27 w0 C x gl gw q gr n m g cs (w.drewN k) sp sr := h.below (below_drewN (Below.refl _ _) _)
theorem Two27.stepP (h : Two27 w0 C x gl gw q gr n m g cs w sp sr) (h1 : LQ w0.heap.size w1 x gl gw n m s1) (ht : TchS (Mine27 x gl gw) w w1) : Two27 w0 C x gl gw q gr n m g cs w1 s1 sr :=
  ⟨h1, h.r.tchS ht (by rintro (e | e | e) <;> (have := h.r.bx; have := h.lt; omega)) (by rintro (e | e | e) <;> (have := h.r.bl; have := h.lt; omega)), h.lt, h.bC, h.bel.trans (h.p.bel27 ht h.bel.size), h.act.tchS ht (h.p.act_ne h.act)⟩
theorem Two27.stepR (h : Two27 w0 C x gl gw q gr n m g cs w sp sr) (h1 : RS C w1 q gr n m s1) (ht : TchS (MineR gr) w w1) : Two27 w0 C x gl gw q gr n m g cs w1 sp s1 :=
  ⟨h.p.tchS ht (by intro e; have := h.r.bl; have := h.lt; unfold MineR at e; omega) (by intro e; have := h.r.bl; have := h.lt; unfold MineR at e; omega) (by intro e; have := h.r.bl; have := h.lt; unfold MineR at e; omega), h1, h.lt, h.bC,
    h.bel.trans (ht.to_below (fun i hi => by unfold MineR at hi; have := h.r.bl; have := h.bC; omega) h.bel.size), h.act.tchS ht (fun e => by unfold MineR at e; subst e; exact (h.r.kl.ne_ h.act (by decide)) rfl)⟩
/-- both sides in memory, between two acts. -/
structure Six27 (w0 : World) (C x gl gw q gr n m : Nat) (w : World) (s : Nat → One27) : Prop where
  p : LQ w0.heap.size w x gl gw n m s
  r : RS C w q gr n m s
  lt : x < C ∧ gl < C ∧ gw < C
  bC : w0.heap.size ≤ C
  bel : Below w0.heap.size w0 w
theorem Six27.below {s : Nat → One27} (h : Six27 w0 C x gl gw q gr n m w s) (hb : Below w.heap.size w w1) : Six27 w0 C x gl gw q gr n m w1 s :=
  ⟨h.p.below hb, h.r.below hb, h.lt, h.bC, h.bel.trans (hb.mono h.bel.size)⟩
theorem Six27.act {s : Nat → One27} (h : Six27 w0 C x gl gw q gr n m w s) (cs : Array Value) : Two27 w0 C x gl gw q gr n m w.heap.size cs (w.alloc (.cells cs 29)) s s :=
  ⟨h.p.alloc _, h.r.alloc _, h.lt, h.bC, below_alloc2 h.bel _, Blk.new _ _ _⟩
theorem Two27.six {s : Nat → One27} (h : Two27 w0 C x gl gw q gr n m g cs w s s) : Six27 w0 C x gl gw q gr n m w s := ⟨h.p, h.r, h.lt, h.bC, h.bel⟩
end
end Go.Proofs.Ytejhoobecladiaa.Ct
