import Derived.Test.YtfmmjkacloaloaaDoorCrcTurnY
/-! How far octets are apart. -/
namespace Go.Proofs.YtfmmjkacloaloaaDoor.Ct
open Go.RowKit
set_option linter.unusedVariables false
set_option linter.unusedSimpArgs false
def bitS (xs : List Int) (i : Nat) : Bool := ((xs.getD (i / 8) 0).toNat).testBit (i % 8)
def difS (xs ys : List Int) (i : Nat) : Bool := bitS xs i != bitS ys i
def flS (xs ys : List Int) : Nat → Int × Int
  | 0 => (-1, -1)
  | n + 1 => if difS xs ys n = true then ((if (flS xs ys n).1 < 0 then (n : Int) else (flS xs ys n).1), (n : Int)) else flS xs ys n
def apartS (xs ys : List Int) : Int × Bool :=
  if xs.length ≠ ys.length then (0, false) else if (flS xs ys (8 * xs.length)).1 < 0 then (0, true) else ((flS xs ys (8 * xs.length)).2 - (flS xs ys (8 * xs.length)).1 + 1, true)
theorem flS_bd (xs ys : List Int) (n : Nat) : -1 ≤ (flS xs ys n).1 ∧ (flS xs ys n).1 < n ∧ -1 ≤ (flS xs ys n).2 ∧ (flS xs ys n).2 < n := by
  induction n with
  | zero => show (-1:Int) ≤ -1 ∧ (-1:Int) < ((0:Nat):Int) ∧ (-1:Int) ≤ -1 ∧ (-1:Int) < ((0:Nat):Int); omega
  | succ n ih =>
    unfold flS
    split
    · dsimp only
      split <;> omega
    · omega
/-- what an octet's bits make. -/
theorem flS_in (xs ys : List Int) (i : Nat) (x : Nat) (hx : ∀ k, k < 8 → difS xs ys (8 * i + k) = x.testBit k) : ∀ k, k ≤ 8 →
    flS xs ys (8 * i + k) = ((if (flS xs ys (8 * i)).1 < 0 then (match lowS x k with | none => (flS xs ys (8 * i)).1 | some j => ((8 * i + j : Nat) : Int)) else (flS xs ys (8 * i)).1), (match highS x k with | none => (flS xs ys (8 * i)).2 | some j => ((8 * i + j : Nat) : Int))) := by
  intro k
  induction k with
  | zero => intro _; simp [lowS, highS]
  | succ k ih =>
    intro hk
    have ih := ih (by omega)
    rw [show 8 * i + (k + 1) = (8 * i + k) + 1 by omega]
    show (if difS xs ys (8 * i + k) = true then _ else _) = _
    rw [hx k (by omega), ih]
    rw [show lowS x (k + 1) = (match lowS x k with | some j => some j | none => if x.testBit k then some k else none) from rfl, show highS x (k + 1) = (if x.testBit k then some k else highS x k) from rfl]
    generalize flS xs ys (8 * i) = p
    obtain ⟨f, l⟩ := p
    cases hb : x.testBit k
    · simp only [Bool.false_eq_true, if_false]
      cases lowS x k <;> rfl
    · simp only [if_true]
      cases hl : lowS x k with
      | none =>
        dsimp only
        by_cases hf : f < 0
        · simp only [if_pos hf]
        · simp only [if_neg hf]
      | some j =>
        dsimp only
        by_cases hf : f < 0
        · simp only [if_pos hf]
          rw [if_neg (by have : (0 : Int) ≤ ((8 * i + j : Nat) : Int) := Int.natCast_nonneg _; exact Int.not_lt.2 this)]
        · simp only [if_neg hf]
theorem low_high : ∀ x, x < 256 → (x = 0 ∧ lowS x 8 = none ∧ highS x 8 = none) ∨ (x ≠ 0 ∧ lowS x 8 = some (tzS x) ∧ highS x 8 = some (lenS8 x - 1) ∧ 1 ≤ lenS8 x) := by decide +kernel
/-- one octet more. -/
theorem flS_next (xs ys : List Int) (i x : Nat) (h8 : x < 256) (hx : ∀ k, k < 8 → difS xs ys (8 * i + k) = x.testBit k) :
    flS xs ys (8 * (i + 1)) = if x = 0 then flS xs ys (8 * i) else ((if (flS xs ys (8 * i)).1 < 0 then 8 * (i : Int) + tzS x else (flS xs ys (8 * i)).1), 8 * (i : Int) + 7 - (8 - (lenS8 x : Int))) := by
  rw [show 8 * (i + 1) = 8 * i + 8 by omega, flS_in xs ys i x hx 8 (by omega)]
  rcases low_high x h8 with ⟨h, h1, h2⟩ | ⟨h, h1, h2, h3⟩
  · rw [if_pos h, h1, h2]
    simp
  · rw [if_neg h, h1, h2]
    dsimp only
    refine Prod.ext ?_ ?_
    · dsimp only
      split
      · push_cast; rfl
      · rfl
    · dsimp only
      rw [Int.natCast_add, Int.natCast_mul]
      omega
theorem dif_octet {xs ys : List Int} {i : Nat} : ∀ k, k < 8 → difS xs ys (8 * i + k) = ((xs.getD i 0).toNat ^^^ (ys.getD i 0).toNat).testBit k := by
  intro k hk
  unfold difS bitS
  rw [show (8 * i + k) / 8 = i by omega, show (8 * i + k) % 8 = k by omega, Nat.testBit_xor]
/-! ### those that turned bits make -/
theorem getD_set_ne {l : List Int} {a b : Nat} {z : Int} (h : a ≠ b) : (l.set a z).getD b 0 = l.getD b 0 := by
  simp [List.getD_eq_getElem?_getD, List.getElem?_set, h]
theorem flip_bit (l : List Int) (k j : Nat) (h : j ≠ k) : bitS (flipS l k) j = bitS l j := by
  unfold bitS flipS
  by_cases hq : k / 8 = j / 8
  · by_cases hl : k / 8 < l.length
    · rw [← hq]
      rw [show (l.set (k / 8) ((((l.getD (k / 8) 0).toNat ^^^ 2 ^ (k % 8) : Nat) : Int))).getD (k / 8) 0 = (((l.getD (k / 8) 0).toNat ^^^ 2 ^ (k % 8) : Nat) : Int) by simp [List.getD_eq_getElem?_getD, List.getElem?_set, hl]]
      rw [Int.toNat_natCast, Nat.testBit_xor, Nat.testBit_two_pow]
      have : ¬ (k % 8 = j % 8) := by omega
      rw [decide_eq_false this, Bool.xor_false]
    · rw [List.set_eq_of_length_le (by omega)]
  · rw [getD_set_ne hq]
theorem turn_bits {b : List Int} (at_ : Int) (t i : Nat) (j : Nat) (h : (j : Int) < at_ ∨ at_ + i ≤ j) : bitS (turnI b at_ t i) j = bitS b j := by
  induction i with
  | zero => rfl
  | succ i ih =>
    have ih := ih (by omega)
    unfold turnI
    split
    · rename_i hc
      rw [flip_bit _ _ _ (by omega), ih]
    · exact ih
theorem turn_fl (b : List Int) (at_ : Int) (t n : Nat) : (flS b (turnS b at_ t) n).1 < 0 ∨ (at_ ≤ (flS b (turnS b at_ t) n).1 ∧ (flS b (turnS b at_ t) n).2 < at_ + 32) := by
  induction n with
  | zero => exact .inl (show (-1:Int) < 0 by decide)
  | succ n ih =>
    unfold flS
    split
    · rename_i hd
      have : at_ ≤ n ∧ (n : Int) < at_ + 32 := by
        by_cases hc : at_ ≤ n ∧ (n : Int) < at_ + 32
        · exact hc
        · exfalso
          unfold difS turnS at hd
          rw [turn_bits at_ t 32 n (by omega)] at hd
          simp at hd
      dsimp only
      split <;> omega
    · exact ih
theorem turn_apart {b : List Int} (h : ∀ x ∈ b, 0 ≤ x ∧ x ≤ 255) (at_ : Int) (t : Nat) : (apartS b (turnS b at_ t)).2 = true ∧ (apartS b (turnS b at_ t)).1 ≤ 32 := by
  have hl : (turnS b at_ t).length = b.length := (turnI_props h at_ t 32).1
  have := turn_fl b at_ t (8 * b.length)
  unfold apartS
  rw [if_neg (by omega)]
  split
  · exact ⟨rfl, by decide⟩
  · exact ⟨rfl, by dsimp only; omega⟩
end Go.Proofs.YtfmmjkacloaloaaDoor.Ct
