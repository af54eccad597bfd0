import Derived.Test.YtejhoobecladiaaCells
/-! Chapter 27, plain law: slots, and where a block is. -/
namespace Go.Proofs.Ytejhoobecladiaa.Ct
set_option linter.unusedVariables false
set_option linter.unusedSimpArgs false
/-- what a slot has: its block, and one (0: none). -/
@[ext] structure One27 where
  lba : Nat
  tag : Int
  sure : Bool
def o27 : One27 := ⟨0, 0, false⟩
def updO (s : Nat → One27) (i : Nat) (v : One27) : Nat → One27 := fun j => if j = i then v else s j
def updW (wh : Nat → Nat) (b v : Nat) : Nat → Nat := fun c => if c = b then v else wh c
theorem updO_eq (s : Nat → One27) (i : Nat) (v : One27) : updO s i v i = v := if_pos rfl
theorem updO_ne {s : Nat → One27} {i j : Nat} {v : One27} (h : j ≠ i) : updO s i v j = s j := if_neg h
theorem updW_eq (s : Nat → Nat) (i v : Nat) : updW s i v i = v := if_pos rfl
theorem updW_ne {s : Nat → Nat} {i j v : Nat} (h : j ≠ i) : updW s i v j = s j := if_neg h
structure PInv (n m : Nat) (s : Nat → One27) (wh : Nat → Nat) : Prop where
  lo : ∀ i, i < m → (s i).lba ≠ 0 → (s i).lba ≤ n ∧ wh ((s i).lba - 1) = i + 1
  wo : ∀ b, b < n → wh b ≠ 0 → wh b ≤ m ∧ (s (wh b - 1)).lba = b + 1
  no : ∀ i, (s i).lba = 0 → s i = o27
  far : ∀ i, m ≤ i → (s i).lba = 0
theorem PInv.new (n m : Nat) : PInv n m (fun _ => o27) (fun _ => 0) := ⟨fun i _ h => absurd rfl h, fun b _ h => absurd rfl h, fun i _ => rfl, fun i _ => rfl⟩
section
variable {n m : Nat} {s : Nat → One27} {wh : Nat → Nat}
/-- two slots never have one block. -/
theorem PInv.inj (h : PInv n m s wh) {i j : Nat} (hi : i < m) (hj : j < m) (h0 : (s i).lba ≠ 0) (e : (s i).lba = (s j).lba) : i = j := by
  have h1 := (h.lo i hi h0).2
  have h2 := (h.lo j hj (by omega)).2
  rw [e] at h1
  omega
theorem PInv.drop (h : PInv n m s wh) {i : Nat} (hi : i < m) (h0 : (s i).lba ≠ 0) : PInv n m (updO s i o27) (updW wh ((s i).lba - 1) 0) := by
  refine ⟨fun j hj hj0 => ?_, fun b hb hb0 => ?_, fun j hj0 => ?_, fun j hj => ?_⟩
  · by_cases e : j = i
    · subst e; rw [updO_eq] at hj0; exact absurd rfl hj0
    · rw [updO_ne e] at hj0 ⊢
      obtain ⟨a1, a2⟩ := h.lo j hj hj0
      have : (s j).lba - 1 ≠ (s i).lba - 1 := fun e2 => e (h.inj hj hi hj0 (by omega))
      rw [updW_ne this]
      exact ⟨a1, a2⟩
  · by_cases e : b = (s i).lba - 1
    · rw [e, updW_eq] at hb0; exact absurd rfl hb0
    · rw [updW_ne e] at hb0 ⊢
      obtain ⟨a1, a2⟩ := h.wo b hb hb0
      have : wh b - 1 ≠ i := fun e2 => e (by rw [e2] at a2; omega)
      rw [updO_ne this]
      exact ⟨a1, a2⟩
  · by_cases e : j = i
    · subst e; exact updO_eq _ _ _
    · rw [updO_ne e] at hj0 ⊢
      exact h.no j hj0
  · by_cases e : j = i
    · subst e; rw [updO_eq]; rfl
    · rw [updO_ne e]; exact h.far j hj
theorem PInv.set (h : PInv n m s wh) {i b : Nat} (hi : i < m) (hb : b < n) (h0 : (s i).lba = 0) (hw : wh b = 0) (t : Int) (u : Bool) : PInv n m (updO s i ⟨b + 1, t, u⟩) (updW wh b (i + 1)) := by
  refine ⟨fun j hj hj0 => ?_, fun c hc hc0 => ?_, fun j hj0 => ?_, fun j hj => ?_⟩
  · by_cases e : j = i
    · subst e
      rw [updO_eq]
      exact ⟨by show b + 1 ≤ n; omega, by show updW wh b (j + 1) (b + 1 - 1) = j + 1; rw [Nat.add_sub_cancel, updW_eq]⟩
    · rw [updO_ne e] at hj0 ⊢
      obtain ⟨a1, a2⟩ := h.lo j hj hj0
      have : (s j).lba - 1 ≠ b := fun e2 => by rw [e2, hw] at a2; omega
      rw [updW_ne this]
      exact ⟨a1, a2⟩
  · by_cases e : c = b
    · subst e
      rw [updW_eq, Nat.add_sub_cancel, updO_eq]
      exact ⟨hi, rfl⟩
    · rw [updW_ne e] at hc0 ⊢
      obtain ⟨a1, a2⟩ := h.wo c hc hc0
      have : wh c - 1 ≠ i := fun e2 => by rw [e2, h0] at a2; omega
      rw [updO_ne this]
      exact ⟨a1, a2⟩
  · by_cases e : j = i
    · subst e; rw [updO_eq] at hj0; exact absurd hj0 (by simp)
    · rw [updO_ne e] at hj0 ⊢
      exact h.no j hj0
  · rw [updO_ne (by omega)]; exact h.far j hj
/-- sure, and a tag, lay nothing else. -/
theorem PInv.sure (h : PInv n m s wh) {i : Nat} (h0 : (s i).lba ≠ 0) (t : Int) (u : Bool) : PInv n m (updO s i ⟨(s i).lba, t, u⟩) wh := by
  have hl : ∀ j, (updO s i ⟨(s i).lba, t, u⟩ j).lba = (s j).lba := fun j => by
    by_cases e : j = i
    · subst e; rw [updO_eq]
    · rw [updO_ne e]
  refine ⟨fun j hj hj0 => ?_, fun c hc hc0 => ?_, fun j hj0 => ?_, fun j hj => ?_⟩
  · rw [hl] at hj0 ⊢; exact h.lo j hj hj0
  · rw [hl]; exact h.wo c hc hc0
  · rw [hl] at hj0
    have : j ≠ i := fun e => h0 (e ▸ hj0)
    rw [updO_ne this]
    exact h.no j hj0
  · rw [hl]; exact h.far j hj
end
/-- how many slots have blocks. -/
def cnt27 (s : Nat → One27) : Nat → Nat
  | 0 => 0
  | k + 1 => cnt27 s k + if (s k).lba = 0 then 0 else 1
theorem cnt27_le (s : Nat → One27) : ∀ k, cnt27 s k ≤ k
  | 0 => Nat.le_refl _
  | k + 1 => by have := cnt27_le s k; unfold cnt27; split <;> omega
theorem cnt27_far {s : Nat → One27} {i : Nat} {v : One27} : ∀ {k : Nat}, k ≤ i → cnt27 (updO s i v) k = cnt27 s k
  | 0, _ => rfl
  | k + 1, h => by unfold cnt27; rw [cnt27_far (by omega), updO_ne (by omega)]
theorem cnt27_upd {s : Nat → One27} {i : Nat} {v : One27} : ∀ {k : Nat}, i < k → cnt27 (updO s i v) k + (if (s i).lba = 0 then 0 else 1) = cnt27 s k + (if v.lba = 0 then 0 else 1)
  | 0, h => absurd h (by omega)
  | k + 1, h => by
    unfold cnt27
    by_cases e : k = i
    · subst e; rw [cnt27_far (Nat.le_refl _), updO_eq]; omega
    · have := cnt27_upd (s := s) (v := v) (k := k) (i := i) (by omega)
      rw [updO_ne e]; omega
/-- what the reference's Put lays: each slot that has the block is emptied first. -/
def putR27 (s : Nat → One27) (i b : Nat) (t : Int) (u : Bool) : Nat → One27 := updO (fun j => if (s j).lba = b + 1 then o27 else s j) i ⟨b + 1, t, u⟩
section
variable {n m : Nat} {s : Nat → One27} {wh : Nat → Nat}
/-- a slot's drop, whether it has a block or none. -/
def drS (s : Nat → One27) (i : Nat) : Nat → One27 := updO s i o27
def drW (s : Nat → One27) (wh : Nat → Nat) (i : Nat) : Nat → Nat := if (s i).lba = 0 then wh else updW wh ((s i).lba - 1) 0
theorem updO_self {s : Nat → One27} {i : Nat} {v : One27} (h : s i = v) : updO s i v = s := by
  funext j
  by_cases e : j = i
  · subst e; rw [updO_eq, h]
  · rw [updO_ne e]
theorem drS_none (h : PInv n m s wh) {i : Nat} (h0 : (s i).lba = 0) : drS s i = s := updO_self (h.no i h0)
theorem PInv.dr (h : PInv n m s wh) {i : Nat} (hi : i < m) : PInv n m (drS s i) (drW s wh i) := by
  unfold drW
  by_cases h0 : (s i).lba = 0
  · rw [if_pos h0, drS_none h h0]; exact h
  · rw [if_neg h0]; exact h.drop hi h0
/-- what Put leaves. -/
def puS (s : Nat → One27) (wh : Nat → Nat) (i b : Nat) (t : Int) (u : Bool) : Nat → One27 :=
  updO (if drW s wh i b = 0 then drS s i else drS (drS s i) (drW s wh i b - 1)) i ⟨b + 1, t, u⟩
def puW (s : Nat → One27) (wh : Nat → Nat) (i b : Nat) : Nat → Nat :=
  updW (if drW s wh i b = 0 then drW s wh i else drW (drS s i) (drW s wh i) (drW s wh i b - 1)) b (i + 1)
theorem PInv.wpos (h : PInv n m s wh) {b : Nat} (hb : b < n) (h0 : wh b ≠ 0) : wh b - 1 < m := by have := (h.wo b hb h0).1; omega
theorem PInv.put (h : PInv n m s wh) {i b : Nat} (hi : i < m) (hb : b < n) (t : Int) (u : Bool) : PInv n m (puS s wh i b t u) (puW s wh i b) := by
  have h1 := h.dr hi
  have e1 : (drS s i i).lba = 0 := by unfold drS; rw [updO_eq]; rfl
  unfold puS puW
  by_cases h0 : drW s wh i b = 0
  · rw [if_pos h0, if_pos h0]
    exact h1.set hi hb e1 h0 t u
  · rw [if_neg h0, if_neg h0]
    have hj := h1.wpos hb h0
    have h2 := h1.dr hj
    have hl := (h1.wo b hb h0).2
    refine h2.set hi hb ?_ ?_ t u
    · by_cases e : i = drW s wh i b - 1
      · rw [← e]; unfold drS; rw [updO_eq]; rfl
      · show (updO (drS s i) _ o27 i).lba = 0
        rw [updO_ne e]; exact e1
    · show drW (drS s i) (drW s wh i) (drW s wh i b - 1) b = 0
      generalize hq : drW s wh i b - 1 = q at *
      unfold drW at *
      rw [if_neg (by omega), hl, Nat.add_sub_cancel, updW_eq]
theorem puS_eq (h : PInv n m s wh) {i b : Nat} (hi : i < m) (hb : b < n) (t : Int) (u : Bool) : puS s wh i b t u = putR27 s i b t u := by
  have h1 := h.dr hi
  funext j
  unfold puS putR27
  by_cases e : j = i
  · subst e; rw [updO_eq, updO_eq]
  · rw [updO_ne e, updO_ne e]
    have e1 : drS s i j = s j := updO_ne e
    by_cases h0 : drW s wh i b = 0
    · rw [if_pos h0, e1]
      by_cases hc : (s j).lba = b + 1
      · exfalso
        by_cases hj : j < m
        · have := (h1.lo j hj (by rw [e1]; omega)).2
          rw [e1, hc, Nat.add_sub_cancel, h0] at this
          omega
        · have := h.far j (by omega); omega
      · rw [if_neg hc]
    · rw [if_neg h0]
      have hl := (h1.wo b hb h0).2
      have hw := h1.wpos hb h0
      by_cases hc : (s j).lba = b + 1
      · rw [if_pos hc]
        by_cases hj : j < m
        · have : j = drW s wh i b - 1 := h1.inj hj hw (by rw [e1]; omega) (by rw [e1, hc, hl])
          rw [← this]; exact updO_eq _ _ _
        · have := h.far j (by omega); omega
      · rw [if_neg hc]
        by_cases ej : j = drW s wh i b - 1
        · rw [← ej, e1] at hl; exact absurd hl hc
        · show updO (drS s i) _ o27 j = s j
          rw [updO_ne ej, e1]
/-- the slot that has a block: the reference's search finds it. -/
theorem of_iff (h : PInv n m s wh) {b j : Nat} (hb : b < n) (hj : j < m) : (s j).lba = b + 1 ↔ wh b = j + 1 := by
  constructor
  · intro e
    have := (h.lo j hj (by omega)).2
    rw [e, Nat.add_sub_cancel] at this
    exact this
  · intro e
    have := (h.wo b hb (by omega)).2
    rw [e, Nat.add_sub_cancel] at this
    exact this
end
end Go.Proofs.Ytejhoobecladiaa.Ct
