import Derived.Test.YtcmcljdecmbceaaLiW
import Derived.Test.YtcmcljdecmbceaaLiX
/-! Chapter 07: ListMoves: what a move leaves as it was. -/
namespace Go.Proofs.Ytcmcljdecmbceaa.Ct
open Go.RowKit
set_option linter.unusedVariables false
set_option linter.unusedSimpArgs false
theorem remS_rem (r : Nat → List Nat) (v : Int) (j : Nat) : remS (casts (remI r v j)) v = remS (casts (r j)) v := by
  unfold remI remS
  rw [casts_filter, List.filter_filter]
  simp
theorem remS_cons {xs : List Int} {v : Int} : remS (v :: xs) v = remS xs v := by
  unfold remS
  simp
theorem remS_snoc {xs : List Int} {v : Int} : remS (xs ++ [v]) v = remS xs v := by
  unfold remS
  simp
theorem remS_push (r : Nat → List Nat) (n m : Nat) (l v : Int) (j : Nat) : remS (casts (pushV r n m l v j)) v = remS (casts (r j)) v := by
  unfold pushV
  by_cases h : mayI n m l v
  · rw [if_pos h]
    obtain ⟨k, y, rfl, rfl, -, -⟩ := may_nat h
    simp only [Int.toNat_natCast]
    unfold pushR insR
    by_cases e : j = k
    · subst e
      rw [if_pos rfl, ← remS_rem r (y : Int) j, remI_nat]
      show remS ((y : Int) :: casts (remR r y j)) y = _
      rw [remS_cons]
    · rw [if_neg e, ← remS_rem r (y : Int) j, remI_nat]
  · rw [if_neg h]
theorem remS_app (r : Nat → List Nat) (n m : Nat) (l v : Int) (j : Nat) : remS (casts (appV r n m l v j)) v = remS (casts (r j)) v := by
  unfold appV
  by_cases h : mayI n m l v
  · rw [if_pos h]
    obtain ⟨k, y, rfl, rfl, -, -⟩ := may_nat h
    simp only [Int.toNat_natCast]
    unfold appR insR
    by_cases e : j = k
    · subst e
      rw [if_pos rfl, ← remS_rem r (y : Int) j, remI_nat]
      have : casts (remR r y j ++ [y]) = casts (remR r y j) ++ [(y : Int)] := by simp [casts]
      rw [this, remS_snoc]
    · rw [if_neg e, ← remS_rem r (y : Int) j, remI_nat]
  · rw [if_neg h]
/-- how often v lies in three rows: once at most. -/
theorem once {n : Nat} {r : Nat → List Nat} (h : Rws n 3 r) (v : Int) : ∃ d : Nat → Nat, (∀ j, j < 3 → (r j).length = (remS (casts (r j)) v).length + d j) ∧ d 0 + d 1 + d 2 ≤ 1 := by
  refine ⟨fun j => if v ∈ casts (r j) then 1 else 0, fun j hj => ?_, ?_⟩
  · dsimp only
    by_cases hv : v ∈ casts (r j)
    · rw [if_pos hv]
      obtain ⟨A, B, e⟩ := List.append_of_mem hv
      have hn := casts_nodup (h.nod j hj)
      have hl := casts_length (r j)
      rw [e] at hn hl ⊢
      unfold remS
      rw [rem_midI hn]
      simp at hl ⊢
      omega
    · rw [if_neg hv]
      have : remS (casts (r j)) v = casts (r j) := by
        unfold remS
        exact List.filter_eq_self.2 fun x hx => by simp; intro e; subst e; exact hv hx
      rw [this, casts_length]
      rfl
  · have D : ∀ i j, i < 3 → j < 3 → i ≠ j → v ∈ casts (r i) → v ∉ casts (r j) := fun i j hi hj hne hv hw => by
      obtain ⟨y, hy, e1⟩ := casts_mem.1 hv
      obtain ⟨z, hz, e2⟩ := casts_mem.1 hw
      have : y = z := by omega
      subst this
      exact h.dis i j hi hj hne y hy hz
    have d01 := D 0 1 (by decide) (by decide) (by decide)
    have d02 := D 0 2 (by decide) (by decide) (by decide)
    have d12 := D 1 2 (by decide) (by decide) (by decide)
    dsimp only
    by_cases h0 : v ∈ casts (r 0)
    · simp [h0, d01 h0, d02 h0]
    · by_cases h1 : v ∈ casts (r 1)
      · simp [h0, h1, d12 h1]
      · by_cases h2 : v ∈ casts (r 2) <;> simp [h0, h1, h2]
/-- the law's own array of three rows, its first k filled. -/
structure RowsB (w : World) (g : Nat) (r : Nat → List Nat) (k : Nat) (V : Array Value) : Prop where
  blk : Blk w g 31 V
  sz : V.size = 3
  row : ∀ j, j < k → ∃ a c, V[j]? = some (.slice a (r j).length c) ∧ Own .i64 3 w (g + 1) (.slice a (r j).length c) (casts (r j))
section
variable {w w1 : World} {g k a b : Nat} {r : Nat → List Nat} {V : Array Value}
theorem RowsB.below (h : RowsB w g r k V) (hb : Below w.heap.size w w1) : RowsB w1 g r k V :=
  ⟨h.blk.below hb, h.sz, fun j hj => by obtain ⟨a, c, h1, h2⟩ := h.row j hj; exact ⟨a, c, h1, h2.below hb⟩⟩
theorem RowsB.tch (h : RowsB w g r k V) (ht : Tch a b w w1) (ha : a < g) (hb : b < g) : RowsB w1 g r k V :=
  ⟨h.blk.tch ht (by omega) (by omega), h.sz, fun j hj => by obtain ⟨a, c, h1, h2⟩ := h.row j hj; exact ⟨a, c, h1, h2.tch ht (by omega) (by omega)⟩⟩
theorem RowsB.at_ (h : RowsB w g r k V) {j : Nat} (hj : j < 3) : ∃ v, w.cell? ⟨g, j, none⟩ = some v := ⟨V[j]'(by have := h.sz; omega), by rw [h.blk.cell j]; exact Array.getElem?_eq_getElem (by have := h.sz; omega)⟩
theorem RowsB.put (h : RowsB w g r k V) (hk : k < 3) {x : Option Addr} {c : Nat} (ho : Own .i64 3 w (g + 1) (.slice x (r k).length c) (casts (r k))) : RowsB (w.setCell ⟨g, k, none⟩ (.slice x (r k).length c)) g r (k + 1) (V.setIfInBounds k (.slice x (r k).length c)) := by
  have ht : Tch g g w (w.setCell ⟨g, k, none⟩ (.slice x (r k).length c)) := (Tch.refl g g w).set_ (.inl rfl) _
  refine ⟨h.blk.set_ k _, by simp [h.sz], fun j hj => ?_⟩
  by_cases e : j = k
  · subst e
    exact ⟨x, c, Array.getElem?_setIfInBounds_self_of_lt (by have := h.sz; omega), ho.tch ht (by omega) (by omega)⟩
  · obtain ⟨a, c2, h1, h2⟩ := h.row j (by omega)
    exact ⟨a, c2, by rw [Array.getElem?_setIfInBounds_ne (by omega)]; exact h1, h2.tch ht (by omega) (by omega)⟩
theorem wo_calls (a : Option Addr) (cap N : Nat) (xs ys : List Int) (k : Int) (w : World) (h : Row .i64 w a xs) (hN : xs.length = N) (hx : N ≤ 100000) (e : remS xs k = ys) :
    Calls Try.prog 12 #[.slice a N cap, .int .i64 k] w fun e w' => ∃ a2 c2, e = .returned (.slice a2 ys.length c2) ∧ Row .i64 w' a2 ys ∧ Below w.heap.size w w' := by
  subst hN; subst e
  refine (without_calls a cap xs k w h hx).mono ?_
  rintro e w' ⟨v, rfl, ho, hb⟩
  obtain ⟨a2, c2, rfl, -, -, hr, -⟩ := ho.form
  exact ⟨a2, c2, rfl, hr, hb⟩
/-- the program's side. -/
structure Onx (w0 : World) (B x gl gm n : Nat) (w : World) (r : Nat → List Nat) : Prop where
  p : LR B w x gl gm n 3 r
  sz : B ≤ w.heap.size
  l0 : x < w.heap.size
  l1 : gl < w.heap.size
  l2 : gm < w.heap.size
  bel : Below B w0 w
theorem Onx.below {w0 : World} {B x gl gm n : Nat} (h : Onx w0 B x gl gm n w r) (hb : Below w.heap.size w w1) : Onx w0 B x gl gm n w1 r :=
  ⟨h.p.below hb, Nat.le_trans h.sz hb.size, Nat.lt_of_lt_of_le h.l0 hb.size, Nat.lt_of_lt_of_le h.l1 hb.size, Nat.lt_of_lt_of_le h.l2 hb.size, Below.trans h.bel (hb.mono h.sz)⟩
theorem Onx.drew {w0 : World} {B x gl gm n : Nat} (h : Onx w0 B x gl gm n w r) : Onx w0 B x gl gm n w.drew r := h.below (below_drew (Below.refl _ _))
theorem Onx.step {w0 : World} {B x gl gm n : Nat} {r2 : Nat → List Nat} (h : Onx w0 B x gl gm n w r) (hp : LR B w1 x gl gm n 3 r2) (ht : Tch gl gm w w1) : Onx w0 B x gl gm n w1 r2 :=
  ⟨hp, Nat.le_trans h.sz ht.size, Nat.lt_of_lt_of_le h.l0 ht.size, Nat.lt_of_lt_of_le h.l1 ht.size, Nat.lt_of_lt_of_le h.l2 ht.size, Below.trans h.bel (ht.to_below h.p.base.1 h.p.base.2 h.sz)⟩
theorem Onx.far {w0 : World} {B x gl gm n : Nat} (h : Onx w0 B x gl gm n w r) (ht : Tch g g w w1) (h0 : x < g) (h1 : gl < g) (h2 : gm < g) (hB : B ≤ g) : Onx w0 B x gl gm n w1 r :=
  ⟨h.p.tch ht (by omega) (by omega) (by omega) (by omega) (by omega) (by omega), Nat.le_trans h.sz ht.size, Nat.lt_of_lt_of_le h.l0 ht.size, Nat.lt_of_lt_of_le h.l1 ht.size, Nat.lt_of_lt_of_le h.l2 ht.size, Below.trans h.bel (ht.to_below hB hB h.sz)⟩
end
def sumD (d : Nat → Nat) : Nat → Nat
  | 0 => 0
  | k + 1 => sumD d k + d k
theorem sumD_le {d : Nat → Nat} (h : d 0 + d 1 + d 2 ≤ 1) {k : Nat} (hk : k ≤ 3) : sumD d k ≤ 1 := by
  have : k = 0 ∨ k = 1 ∨ k = 2 ∨ k = 3 := by omega
  rcases this with rfl | rfl | rfl | rfl <;> simp only [sumD] <;> omega
end Go.Proofs.Ytcmcljdecmbceaa.Ct
