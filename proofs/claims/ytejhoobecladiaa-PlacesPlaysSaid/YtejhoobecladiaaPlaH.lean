import Derived.Test.YtejhoobecladiaaPlaG
/-! Chapter 27: places, whatever is asked: Put, Drop, Of, At. -/
namespace Go.Proofs.Ytejhoobecladiaa.Ct
open Go.RowKit
set_option linter.unusedVariables false
set_option linter.unusedSimpArgs false
/-- lawful places in memory, that hold a row. -/
def LQ (base : Nat) (w : World) (x gl gw n m : Nat) (s : Nat → One27) : Prop := ∃ wh, LP base w x gl gw n m s wh
/-- is it a slot? -/
def inZ (m : Nat) (l : Int) : Bool := decide (0 ≤ l ∧ l < m)
def hasZ (m : Nat) (s : Nat → One27) (l : Int) : Bool := inZ m l && decide ((s l.toNat).lba ≠ 0)
def putZ (n m : Nat) (s : Nat → One27) (i b t : Int) (u : Bool) : Nat → One27 := if inZ m i = true ∧ inZ n b = true then putR27 s i.toNat b.toNat t u else s
def dropZ (m : Nat) (s : Nat → One27) (i : Int) : Nat → One27 := if inZ m i = true then updO s i.toNat o27 else s
def dropN (m : Nat) (s : Nat → One27) (i : Int) : Int := if hasZ m s i = true then (((s i.toNat).lba - 1 : Nat) : Int) else 0
def sureZ (m : Nat) (s : Nat → One27) (i t : Int) : Nat → One27 := if hasZ m s i = true then updO s i.toNat ⟨(s i.toNat).lba, t, true⟩ else s
def atZ (m : Nat) (s : Nat → One27) (l : Int) : Value := if hasZ m s l = true then tup27 l (((s l.toNat).lba - 1 : Nat) : Int) (s l.toNat).tag (s l.toNat).sure true else tup27 0 0 0 false false
/-- the first slot below k that has a block, and one; 0: none. -/
def seek27 (s : Nat → One27) (b : Nat) : Nat → Nat
  | 0 => 0
  | k + 1 => if seek27 s b k ≠ 0 then seek27 s b k else if (s k).lba = b + 1 then k + 1 else 0
def ofZ (n m : Nat) (s : Nat → One27) (b : Int) : Nat := if inZ n b = true then seek27 s b.toNat m else 0
theorem inZ_nat {m i : Nat} (h : i < m) : inZ m (i : Int) = true := decide_eq_true ⟨by omega, by omega⟩
theorem inZ_true {m : Nat} {l : Int} (h : inZ m l = true) : ∃ i : Nat, l = i ∧ i < m := by
  have := of_decide_eq_true h
  exact ⟨l.toNat, by omega, by omega⟩
theorem inZ_false {m : Nat} {l : Int} (h : inZ m l = false) : l < 0 ∨ (m : Int) ≤ l := by
  have := of_decide_eq_false h
  omega
theorem seek27_le (s : Nat → One27) (b : Nat) : ∀ k, seek27 s b k ≤ k
  | 0 => Nat.le_refl _
  | k + 1 => by
    have := seek27_le s b k
    unfold seek27
    split
    · omega
    · split <;> omega
theorem seek27_hit (s : Nat → One27) (b : Nat) : ∀ k, seek27 s b k ≠ 0 → (s (seek27 s b k - 1)).lba = b + 1
  | 0, h => absurd rfl h
  | k + 1, h => by
    unfold seek27 at h ⊢
    by_cases h0 : seek27 s b k ≠ 0
    · rw [if_pos h0]; exact seek27_hit s b k h0
    · rw [if_neg h0] at h ⊢
      by_cases h1 : (s k).lba = b + 1
      · rw [if_pos h1]; exact h1
      · rw [if_neg h1] at h; exact absurd rfl h
theorem seek27_miss (s : Nat → One27) (b : Nat) : ∀ k, seek27 s b k = 0 → ∀ i, i < k → (s i).lba ≠ b + 1
  | 0, _, i, hi => absurd hi (by omega)
  | k + 1, h, i, hi => by
    unfold seek27 at h
    by_cases h0 : seek27 s b k ≠ 0
    · rw [if_pos h0] at h; exact absurd h h0
    · rw [if_neg h0] at h
      have h0 : seek27 s b k = 0 := by omega
      by_cases h1 : (s k).lba = b + 1
      · rw [if_pos h1] at h; omega
      · by_cases e : i = k
        · subst e; exact h1
        · exact seek27_miss s b k h0 i (by omega)
theorem seek27_eq {n m : Nat} {s : Nat → One27} {wh : Nat → Nat} (h : PInv n m s wh) {b : Nat} (hb : b < n) : seek27 s b m = wh b := by
  by_cases h0 : seek27 s b m = 0
  · rw [h0]
    by_cases hw : wh b = 0
    · exact hw.symm
    · have := h.wo b hb hw
      exact absurd this.2 (seek27_miss s b m h0 _ (by omega))
  · have h1 := seek27_hit s b m h0
    have h2 := seek27_le s b m
    have h3 := (of_iff h hb (by omega : seek27 s b m - 1 < m)).1 h1
    omega
section
variable {base x gl gw n m : Nat} {w w1 : World} {s : Nat → One27}
theorem LQ.below (h : LQ base w x gl gw n m s) (hb : Below w.heap.size w w1) : LQ base w1 x gl gw n m s := by obtain ⟨wh, h⟩ := h; exact ⟨wh, h.below hb⟩
theorem LQ.alloc (h : LQ base w x gl gw n m s) (o : Obj) : LQ base (w.alloc o) x gl gw n m s := h.below (below_alloc (Below.refl _ _) _)
theorem LQ.drew (h : LQ base w x gl gw n m s) : LQ base w.drew x gl gw n m s := h.below (below_drew (Below.refl _ _))
theorem LQ.drewN (h : LQ base w x gl gw n m s) (k : Nat) : LQ base (w.drewN k) x gl gw n m s := h.below (below_drewN (Below.refl _ _) _)
theorem LQ.tchS {S : Nat → Prop} (h : LQ base w x gl gw n m s) (ht : TchS S w w1) (h1 : ¬ S x) (h2 : ¬ S gl) (h3 : ¬ S gw) : LQ base w1 x gl gw n m s := by obtain ⟨wh, h⟩ := h; exact ⟨wh, h.ps.tchS ht h1 h2 h3, h.inv⟩
theorem LQ.mine (h : LQ base w x gl gw n m s) : ∀ i, Mine27 x gl gw i → base ≤ i ∧ i < w.heap.size := by
  obtain ⟨wh, h⟩ := h
  rintro i (rfl | rfl | rfl)
  · exact ⟨h.ps.bx, h.ps.kx.lt⟩
  · exact ⟨h.ps.bl, h.ps.kl.lt⟩
  · exact ⟨h.ps.bw, h.ps.kw.lt⟩
/-- no two slots have one block; each block that a slot has may be. -/
theorem LQ.inj (h : LQ base w x gl gw n m s) {i j : Nat} (hi : i < m) (hj : j < m) (h0 : (s i).lba ≠ 0) (e : (s i).lba = (s j).lba) : i = j := by obtain ⟨wh, h⟩ := h; exact h.inv.inj hi hj h0 e
theorem LQ.le (h : LQ base w x gl gw n m s) (i : Nat) : (s i).lba ≤ n := by
  obtain ⟨wh, h⟩ := h
  by_cases hi : i < m
  · by_cases h0 : (s i).lba = 0
    · omega
    · exact (h.inv.lo i hi h0).1
  · rw [h.inv.far i (by omega)]; omega
theorem LQ.no (h : LQ base w x gl gw n m s) (i : Nat) (h0 : (s i).lba = 0) : s i = o27 := by obtain ⟨wh, h⟩ := h; exact h.inv.no i h0
theorem putQ (h : LQ base w x gl gw n m s) (hn : n ≤ 100000) (hm : m ≤ 100000) (i b t : Int) (u : Bool) :
    Calls Try.prog 9 #[.pointer (some ⟨x, 0, none⟩), .int .i64 i, .int .i64 b, .int .u64 t, .bool u] w fun e w' => e = .returned (.bool (inZ m i && inZ n b)) ∧ LQ base w' x gl gw n m (putZ n m s i b t u) ∧ TchS (Mine27 x gl gw) w w' := by
  obtain ⟨wh, h⟩ := h
  cases hi : inZ m i with
  | false =>
    rw [Bool.false_and]
    have e : putZ n m s i b t u = s := if_neg (by rw [hi]; simp)
    rw [e]
    refine (put_bad x gl gw n m i b t u w h.cx.1 h.cx.2.1 (by have := inZ_false hi; omega)).mono ?_
    rintro e w' ⟨h1, rfl⟩
    exact ⟨h1, ⟨wh, h⟩, TchS.refl _ _⟩
  | true =>
    rw [Bool.true_and]
    cases hb : inZ n b with
    | false =>
      have e : putZ n m s i b t u = s := if_neg (by rw [hb]; simp)
      rw [e]
      refine (put_bad x gl gw n m i b t u w h.cx.1 h.cx.2.1 (by have := inZ_false hb; omega)).mono ?_
      rintro e w' ⟨h1, rfl⟩
      exact ⟨h1, ⟨wh, h⟩, TchS.refl _ _⟩
    | true =>
      have e : putZ n m s i b t u = putR27 s i.toNat b.toNat t u := if_pos ⟨hi, hb⟩
      obtain ⟨i, rfl, hi'⟩ := inZ_true hi
      obtain ⟨b, rfl, hb'⟩ := inZ_true hb
      rw [e, Int.toNat_natCast, Int.toNat_natCast, ← puS_eq h.inv hi' hb']
      refine (put_in h t u hi' hb' hn hm).mono ?_
      rintro e w' ⟨h1, h2, h3⟩
      exact ⟨h1, ⟨_, h2⟩, h3⟩
theorem at27_out {wh : Nat → Nat} (h : LP base w x gl gw n m s wh) {l : Int} (hl : inZ m l = false) : Calls Try.prog 25 #[.pointer (some ⟨x, 0, none⟩), .int .i64 l] w fun e w' => e = .returned (oneV o27) ∧ Below w.heap.size w w' :=
  at_bad x l _ m m w h.cx.1 (inZ_false hl)
theorem dropQ (h : LQ base w x gl gw n m s) (hn : n ≤ 100000) (hm : m ≤ 100000) (i : Int) :
    Calls Try.prog 8 #[.pointer (some ⟨x, 0, none⟩), .int .i64 i] w fun e w' => e = .returned (.tuple #[.int .i64 (dropN m s i), .bool (hasZ m s i)]) ∧ LQ base w' x gl gw n m (dropZ m s i) ∧ TchS (Mine27 x gl gw) w w' := by
  obtain ⟨wh, h⟩ := h
  cases hi : inZ m i with
  | false =>
    have e1 : dropZ m s i = s := if_neg (by rw [hi]; simp)
    have e2 : hasZ m s i = false := by unfold hasZ; rw [hi]; rfl
    have e3 : dropN m s i = 0 := if_neg (by rw [e2]; simp)
    rw [e1, e2, e3]
    exact (drop_zero _ _ w (at27_out h hi)).mono fun e w' ⟨h1, h2⟩ => ⟨h1, ⟨wh, h.below h2⟩, TchS.of_below h2⟩
  | true =>
    have e1 : dropZ m s i = updO s i.toNat o27 := if_pos hi
    have e2 : hasZ m s i = decide ((s i.toNat).lba ≠ 0) := by unfold hasZ; rw [hi]; rfl
    have e3 : dropN m s i = dropL s i.toNat := by
      unfold dropN dropL
      rw [e2]
      by_cases h0 : (s i.toNat).lba = 0
      · rw [if_neg (by simp [h0]), h0]; rfl
      · rw [if_pos (by simp [h0])]
    rw [e1, e2, e3]
    obtain ⟨i, rfl, hi'⟩ := inZ_true hi
    rw [Int.toNat_natCast]
    exact (drop_in h hi' hn hm).mono fun e w' ⟨h1, h2, h3⟩ => ⟨h1, ⟨_, h2⟩, h3⟩
theorem ofQ (h : LQ base w x gl gw n m s) (hm : m ≤ 100000) (b : Int) :
    Calls Try.prog 10 #[.pointer (some ⟨x, 0, none⟩), .int .i64 b] w fun e w' => e = .returned (.tuple #[.int .i64 ((ofZ n m s b - 1 : Nat) : Int), .bool (decide (ofZ n m s b ≠ 0))]) ∧ w = w' := by
  obtain ⟨wh, h⟩ := h
  cases hb : inZ n b with
  | false =>
    have e : ofZ n m s b = 0 := if_neg (by rw [hb]; simp)
    rw [e]
    exact pof_bad x b _ n n w h.cx.2.1 (inZ_false hb)
  | true =>
    have e : ofZ n m s b = seek27 s b.toNat m := if_pos hb
    obtain ⟨b, rfl, hb'⟩ := inZ_true hb
    rw [e, Int.toNat_natCast, seek27_eq h.inv hb']
    exact pof_ok h.ps h.inv hm hb'
theorem below_new {o : Obj} {W : World} (h : Below (w.alloc o).heap.size (w.alloc o) W) : Below (w.heap.size + 1) (w.alloc o) W := by
  have : (w.alloc o).heap.size = w.heap.size + 1 := by simp
  rw [← this]; exact h
theorem at2_z (p : Option Addr) (l : Int) (w : World) (h : ∀ W, Below w.heap.size w W → Calls Try.prog 25 #[.pointer p, .int .i64 l] W fun e w' => e = .returned (oneV o27) ∧ Below W.heap.size W w') : Calls Try.prog 11 #[.pointer p, .int .i64 l] w fun e w' => e = .returned (tup27 0 0 0 false false) ∧ Below w.heap.size w w' :=
  at2_zero p l w ((h _ (below_alloc (Below.refl _ _) _)).mono fun e w' ⟨h1, h2⟩ => ⟨h1, below_new h2⟩)
theorem atQ (h : LQ base w x gl gw n m s) (hn : n ≤ 100000) (l : Int) :
    Calls Try.prog 11 #[.pointer (some ⟨x, 0, none⟩), .int .i64 l] w fun e w' => e = .returned (atZ m s l) ∧ Below w.heap.size w w' := by
  have hle := h.le
  obtain ⟨wh, h⟩ := h
  cases hl : inZ m l with
  | false =>
    have e : atZ m s l = tup27 0 0 0 false false := if_neg (by unfold hasZ; rw [hl]; simp)
    rw [e]
    exact at2_z _ _ _ fun W hW => at27_out (h.below hW) hl
  | true =>
    obtain ⟨i, rfl, hi⟩ := inZ_true hl
    by_cases h0 : (s i).lba = 0
    · have e : atZ m s i = tup27 0 0 0 false false := if_neg (by unfold hasZ; rw [hl, Int.toNat_natCast]; simp [h0])
      rw [e]
      refine at2_z _ _ _ fun W hW => ?_
      have := at_ok (h.below hW).ps hi
      rw [h.inv.no i h0] at this
      exact this
    · have e : atZ m s i = tup27 i (((s i).lba - 1 : Nat) : Int) (s i).tag (s i).sure true := by
        unfold atZ hasZ
        rw [hl, Int.toNat_natCast]
        exact if_pos (by simp [h0])
      rw [e]
      have hq := hle i
      refine at2_some _ _ _ _ _ w ⟨by omega, by omega⟩ ?_
      have := at_ok (h.below (below_alloc (Below.refl _ _) (.cells #[.int .i64 0, .int .i64 0, .int .u64 0] 34))).ps hi
      refine this.mono fun e w' ⟨h1, h2⟩ => ⟨?_, below_new h2⟩
      rw [h1]
      unfold oneV
      have e : ((((s i).lba - 1 : Nat) : Int) + 1) = ((s i).lba : Int) := by omega
      rw [e]
end
end Go.Proofs.Ytejhoobecladiaa.Ct
