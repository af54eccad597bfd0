import Derived.Test.YtcmcljdecmbceaaLiP
import Derived.Test.YtcmcljdecmbceaaCells
import Derived.Test.YtcmcljdecmbceaaQuiet
import Derived.Test.YtcmcljdecmbceaaTakeC
/-! Lists over an array: what one is in memory; head, has. -/
namespace Go.Proofs.Ytcmcljdecmbceaa.Ct
open Go.RowKit
set_option linter.unusedVariables false
set_option linter.unusedSimpArgs false
theorem i64_wrap_id {x : Int} (h0 : -9223372036854775808 ≤ x) (h1 : x ≤ 9223372036854775807) : IntKind.i64.wrap x = x := by have := wrap64_id (x := x) ⟨h0, h1⟩; unfold wrap64 at this; rw [IntKind.wrap_i64]; exact this
def valsN (f : Fn) (N : Nat) : List Value := (List.range N).map fun j => .int .i64 (f j)
theorem valsN_len (f : Fn) (N : Nat) : (valsN f N).length = N := by simp [valsN]
theorem valsN_get (f : Fn) {N j : Nat} (h : j < N) : (valsN f N).toArray[j]? = some (.int .i64 (f j)) := by simp [valsN, h]
theorem valsN_set (f : Fn) (N j : Nat) (v : Int) : (valsN f N).toArray.setIfInBounds j (.int .i64 v) = (valsN (upd f j v) N).toArray := by
  apply Array.ext_getElem?
  intro i
  rw [Array.getElem?_setIfInBounds]
  by_cases hi : i < N
  · rw [valsN_get _ hi]
    by_cases e : j = i
    · subst e; rw [if_pos rfl, if_pos (by simpa [valsN] using hi)]; simp [valsN, hi, upd]
    · rw [if_neg e, valsN_get _ hi]; simp [upd, Ne.symm e]
  · have h1 : ∀ f : Fn, (valsN f N).toArray[i]? = none := fun f => Array.getElem?_eq_none (by simp [valsN]; omega)
    rw [h1, h1]
    by_cases e : j = i
    · rw [if_pos e, if_neg (by simp [valsN]; omega)]
    · rw [if_neg e]
/-- nothing but blocks a and b is written, and what is new. -/
structure Tch (a b : Nat) (w w' : World) : Prop where
  os : w'.os = w.os
  tape : w'.tape = w.tape
  output : w'.output = w.output
  size : w.heap.size ≤ w'.heap.size
  block : ∀ i, i < w.heap.size → i ≠ a → i ≠ b → w'.heap[i]? = w.heap[i]?
section
variable {a b : Nat} {w w1 w2 : World}
theorem Tch.refl (a b : Nat) (w : World) : Tch a b w w := ⟨rfl, rfl, rfl, Nat.le_refl _, fun _ _ _ _ => rfl⟩
theorem Tch.trans (h : Tch a b w w1) (k : Tch a b w1 w2) : Tch a b w w2 := ⟨k.os.trans h.os, k.tape.trans h.tape, k.output.trans h.output, Nat.le_trans h.size k.size, fun i hi h1 h2 => (k.block i (Nat.lt_of_lt_of_le hi h.size) h1 h2).trans (h.block i hi h1 h2)⟩
theorem Tch.of_below (h : Below w.heap.size w w1) : Tch a b w w1 := ⟨h.os, h.tape, h.output, h.size, fun i hi _ _ => h.block i hi⟩
theorem Tch.to_below {B : Nat} (h : Tch a b w w1) (ha : B ≤ a) (hb : B ≤ b) (hs : B ≤ w.heap.size) : Below B w w1 := ⟨h.os, h.tape, h.output, h.size, fun i hi => h.block i (by omega) (by omega) (by omega)⟩
theorem Tch.alloc (h : Tch a b w w1) (o : Obj) : Tch a b w (w1.alloc o) := h.trans (Tch.of_below (below_alloc (Below.refl _ _) _))
theorem Tch.drewN (h : Tch a b w w1) (n : Nat) : Tch a b w (w1.drewN n) := h.trans (Tch.of_below (below_drewN (Below.refl _ _) _))
theorem Tch.drew (h : Tch a b w w1) : Tch a b w w1.drew := h.trans (Tch.of_below (below_drew (Below.refl _ _)))
theorem Tch.set_ (h : Tch a b w w1) {p : Addr} (hp : p.block = a ∨ p.block = b) (v : Value) : Tch a b w (w1.setCell p v) :=
  h.trans ⟨rfl, rfl, rfl, by unfold World.setCell; simp, fun i hi h1 h2 => Below.heap_setCell w1 p v i (by rintro rfl; rcases hp with e | e <;> omega)⟩
theorem Blk.tch {g : Nat} {t : TypeId} {cs : Array Value} (hk : Blk w g t cs) (h : Tch a b w w1) (ha : g ≠ a) (hb : g ≠ b) : Blk w1 g t cs := (h.block g hk.lt ha hb).trans hk
theorem Own.tch {k : IntKind} {E : TypeId} {base : Nat} {v : Value} {xs : List Int} (ho : Own k E w base v xs) (h : Tch a b w w1) (ha : a < base) (hb : b < base) : Own k E w1 base v xs := by
  refine ⟨⟨ho.1.1, ?_⟩, ho.2⟩
  rcases ho.1.2 with h1 | ⟨g, cap, cur, e, hg, hh, r⟩
  · exact .inl h1
  · have hbl : Blk w g E cur := hh
    exact .inr ⟨g, cap, cur, e, hg, hbl.tch h (by omega) (by omega), r⟩
theorem Row.tch {k : IntKind} {ad : Option Addr} {xs : List Int} (hr : Row k w ad xs) (h : Tch a b w w1) (ha : ∀ p, ad = some p → p.block ≠ a) (hb : ∀ p, ad = some p → p.block ≠ b) : Row k w1 ad xs :=
  ⟨hr.1, hr.2.1, fun hp => by
    obtain ⟨p, e, hc⟩ := hr.2.2 hp
    refine ⟨p, e, fun j hj => ?_⟩
    have hl := World.block_lt_of_cell? w _ (hc j hj)
    have hbl : (p.add j).block = p.block := by unfold Addr.add; split <;> rfl
    rw [World.cell?_of_block (h.block _ hl (by rw [hbl]; exact ha p e) (by rw [hbl]; exact hb p e))]
    exact hc j hj⟩
end
/-- lists in memory: their struct, the nodes' block, the block of how many each has. -/
structure LS (base : Nat) (w : World) (x gl gm n m : Nat) (f g : Fn) : Prop where
  bx : base ≤ x
  bl : base ≤ gl
  bm : base ≤ gm
  kx : Blk w x 44 #[.slice (some ⟨gl, 0, none⟩) (n + m) (n + m), .int .i64 n, .slice (some ⟨gm, 0, none⟩) m m]
  kl : Blk w gl 50 (valsN f ((n + m) * 3)).toArray
  km : Blk w gm 3 (valsN g m).toArray
section
variable {base x gl gm n m : Nat} {w w1 : World} {f g : Fn}
theorem LS.below (h : LS base w x gl gm n m f g) (hb : Below w.heap.size w w1) : LS base w1 x gl gm n m f g := ⟨h.bx, h.bl, h.bm, h.kx.below hb, h.kl.below hb, h.km.below hb⟩
theorem LS.alloc (h : LS base w x gl gm n m f g) (o : Obj) : LS base (w.alloc o) x gl gm n m f g := h.below (below_alloc (Below.refl _ _) _)
theorem LS.drew (h : LS base w x gl gm n m f g) : LS base w.drew x gl gm n m f g := ⟨h.bx, h.bl, h.bm, h.kx, h.kl, h.km⟩
theorem LS.drewN (h : LS base w x gl gm n m f g) (q : Nat) : LS base (w.drewN q) x gl gm n m f g := ⟨h.bx, h.bl, h.bm, h.kx, h.kl, h.km⟩
theorem LS.ne (h : LS base w x gl gm n m f g) : gl ≠ gm ∧ x ≠ gl ∧ x ≠ gm := ⟨h.kl.ne_ h.km (by decide), h.kx.ne_ h.kl (by decide), h.kx.ne_ h.km (by decide)⟩
theorem LS.setL (h : LS base w x gl gm n m f g) (j : Nat) (v : Int) : LS base (w.setCell ⟨gl, j, none⟩ (.int .i64 v)) x gl gm n m (upd f j v) g := by
  obtain ⟨h1, h2, h3⟩ := h.ne
  exact ⟨h.bx, h.bl, h.bm, h.kx.far (p := ⟨gl, j, none⟩) h2 _, by rw [← valsN_set]; exact h.kl.set_ j _, h.km.far (p := ⟨gl, j, none⟩) (fun e => h1 e.symm) _⟩
theorem LS.setM (h : LS base w x gl gm n m f g) (j : Nat) (v : Int) : LS base (w.setCell ⟨gm, j, none⟩ (.int .i64 v)) x gl gm n m f (upd g j v) := by
  obtain ⟨h1, h2, h3⟩ := h.ne
  exact ⟨h.bx, h.bl, h.bm, h.kx.far (p := ⟨gm, j, none⟩) h3 _, h.kl.far (p := ⟨gm, j, none⟩) h1 _, by rw [← valsN_set]; exact h.km.set_ j _⟩
theorem LS.cx (h : LS base w x gl gm n m f g) : w.cell? ⟨x, 0, none⟩ = some (.slice (some ⟨gl, 0, none⟩) (n + m) (n + m)) ∧ w.cell? ⟨x, 1, none⟩ = some (.int .i64 n) ∧ w.cell? ⟨x, 2, none⟩ = some (.slice (some ⟨gm, 0, none⟩) m m) := ⟨h.kx.cell 0, h.kx.cell 1, h.kx.cell 2⟩
theorem LS.cl (h : LS base w x gl gm n m f g) {j : Nat} (hj : j < (n + m) * 3) : w.cell? ⟨gl, j, none⟩ = some (.int .i64 (f j)) := (h.kl.cell j).trans (valsN_get f hj)
theorem LS.cm (h : LS base w x gl gm n m f g) {j : Nat} (hj : j < m) : w.cell? ⟨gm, j, none⟩ = some (.int .i64 (g j)) := (h.km.cell j).trans (valsN_get g hj)
theorem LS.fl (h : LS base w x gl gm n m f g) (j : Nat) : w.frozen? ⟨gl, j, none⟩ = false := h.kl.frozen j
theorem LS.fm (h : LS base w x gl gm n m f g) (j : Nat) : w.frozen? ⟨gm, j, none⟩ = false := h.km.frozen j
end
set_option maxHeartbeats 2000000 in
theorem head_none (l : Int) (w : World) : Calls Try.prog 24 #[.pointer none, .int .i64 l] w fun e w' => e = .returned (.tuple #[.int .i64 0, .bool false]) ∧ w = w' := by
  go_enter Try.func24, Try.ntmps24
  go_wp2
  go_ret2
  exact ⟨rfl, rfl⟩
set_option maxHeartbeats 2000000 in
theorem head_bad (x : Nat) (l : Int) (a : Option Addr) (m c : Nat) (w : World) (hc : w.cell? ⟨x, 2, none⟩ = some (.slice a m c)) (h : l < 0 ∨ (m : Int) ≤ l) : Calls Try.prog 24 #[.pointer (some ⟨x, 0, none⟩), .int .i64 l] w fun e w' => e = .returned (.tuple #[.int .i64 0, .bool false]) ∧ w = w' := by
  rcases h with h | h
  · go_enter Try.func24, Try.ntmps24
    go_wp2
    go_ret2
    exact ⟨rfl, rfl⟩
  · have h0 : ¬ l < 0 := by omega
    go_enter Try.func24, Try.ntmps24
    go_wp2
    go_ret2
    exact ⟨rfl, rfl⟩
set_option maxHeartbeats 2000000 in
theorem head_ok (x k n : Nat) (a : Option Addr) (m c : Nat) (w : World) (hn : w.cell? ⟨x, 1, none⟩ = some (.int .i64 n)) (hc : w.cell? ⟨x, 2, none⟩ = some (.slice a m c)) (h : k < m) (hb : n ≤ 100000) (hm : m ≤ 100000) : Calls Try.prog 24 #[.pointer (some ⟨x, 0, none⟩), .int .i64 k] w fun e w' => e = .returned (.tuple #[.int .i64 ((n + k : Nat) : Int), .bool true]) ∧ w = w' := by
  have h0 : ¬ (k : Int) < 0 := by omega
  have h1 : ¬ (m : Int) ≤ k := by omega
  have hw : IntKind.i64.wrap ((n : Int) + k) = ((n + k : Nat) : Int) := (i64_wrap_id (by omega) (by omega)).trans (by omega)
  go_enter Try.func24, Try.ntmps24
  go_wp2
  go_ret2
  exact ⟨rfl, rfl⟩
set_option maxHeartbeats 2000000 in
theorem has_none (l : Int) (w : World) : Calls Try.prog 25 #[.pointer none, .int .i64 l] w fun e w' => e = .returned (.bool false) ∧ w = w' := by
  go_enter Try.func25, Try.ntmps25
  go_wp2
  go_ret
  exact ⟨rfl, rfl⟩
set_option maxHeartbeats 2000000 in
theorem has_bad (x : Nat) (l : Int) (n : Nat) (w : World) (hc : w.cell? ⟨x, 1, none⟩ = some (.int .i64 n)) (h : l < 0 ∨ (n : Int) ≤ l) : Calls Try.prog 25 #[.pointer (some ⟨x, 0, none⟩), .int .i64 l] w fun e w' => e = .returned (.bool false) ∧ w = w' := by
  rcases h with h | h
  · have h0 : ¬ 0 ≤ l := by omega
    go_enter Try.func25, Try.ntmps25
    go_wp2
    go_ret
    exact ⟨rfl, rfl⟩
  · have h0 : 0 ≤ l := by omega
    have h1 : ¬ l < n := by omega
    go_enter Try.func25, Try.ntmps25
    go_wp2
    go_ret
    exact ⟨rfl, rfl⟩
set_option maxHeartbeats 2000000 in
theorem has_ok (x k n : Nat) (w : World) (hc : w.cell? ⟨x, 1, none⟩ = some (.int .i64 n)) (h : k < n) : Calls Try.prog 25 #[.pointer (some ⟨x, 0, none⟩), .int .i64 k] w fun e w' => e = .returned (.bool true) ∧ w = w' := by
  have h0 : (0 : Int) ≤ k := by omega
  have h1 : (k : Int) < n := by omega
  go_enter Try.func25, Try.ntmps25
  go_wp2
  go_ret
  exact ⟨rfl, rfl⟩
end Go.Proofs.Ytcmcljdecmbceaa.Ct
