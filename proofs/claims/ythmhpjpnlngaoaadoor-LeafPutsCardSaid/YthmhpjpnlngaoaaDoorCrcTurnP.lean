import Derived.Test.YthmhpjpnlngaoaaDoorCrcB
/-! Turned bits, and the sum: plain laws. -/
namespace Go.Proofs.YthmhpjpnlngaoaaDoor.Ct
open Go.RowKit
set_option linter.unusedVariables false
set_option linter.unusedSimpArgs false
theorem bitC_inj {x : W32} (h : bitC x = 0#32) : x = 0#32 := by
  unfold bitC at h
  cases hb : x.getLsbD 0
  · rw [hb] at h
    simp at h
    ext i hi
    by_cases h0 : i = 0
    · subst h0
      rw [← BitVec.getLsbD_eq_getElem]; simpa using hb
    · have := congrArg (fun y : W32 => y.getLsbD (i - 1)) h
      simp only [BitVec.getLsbD_ushiftRight] at this
      rw [show 1 + (i - 1) = i by omega] at this
      rw [← BitVec.getLsbD_eq_getElem]; simpa using this
  · rw [hb] at h
    have := congrArg (fun y : W32 => y.getLsbD 31) h
    simp [BitVec.getLsbD_xor, BitVec.getLsbD_ushiftRight] at this
    have hp : PolyC[31] = true := by decide
    rw [hp] at this
    cases this
theorem bitsC_zero' (n : Nat) : bitsC n 0#32 = 0#32 := by
  induction n with
  | zero => rfl
  | succ n ih => simp only [bitsC]; rw [bitC_zero, ih]
theorem bitsC_inj (n : Nat) : ∀ {x : W32}, bitsC n x = 0#32 → x = 0#32 := by
  induction n with
  | zero => intro x h; exact h
  | succ n ih => intro x h; exact bitC_inj (ih h)
theorem bitsC_pow {q m : Nat} (hq : q < 32) (hm : q ≤ m) : bitsC m (BitVec.twoPow 32 q) = bitsC (m - q) 1#32 := by
  have h1 : bitsC q (BitVec.twoPow 32 q) = 1#32 := by
    rw [bitsC_even q _ (fun i hi => by simp [BitVec.getLsbD_twoPow]; omega)]
    ext i hi
    rw [← BitVec.getLsbD_eq_getElem, ← BitVec.getLsbD_eq_getElem]
    rw [BitVec.getLsbD_ushiftRight, BitVec.getLsbD_twoPow]
    simp
    by_cases h : i = 0
    · subst h; simp; omega
    · simp [h]
  conv => lhs; rw [show m = q + (m - q) by omega]
  rw [bitsC_add, h1]
theorem run_xor (l : List Int) : ∀ (x d : W32), runC (x ^^^ d) l = runC x l ^^^ bitsC (8 * l.length) d := by
  induction l with
  | nil => intro x d; rfl
  | cons c l ih =>
    intro x d
    have e : byteC (x ^^^ d) c = byteC x c ^^^ bitsC 8 d := by
      unfold byteC inC
      rw [← bitsC_xor]; congr 1
      rw [BitVec.xor_assoc, BitVec.xor_comm d, ← BitVec.xor_assoc]
    show runC (byteC (x ^^^ d) c) l = runC (byteC x c) l ^^^ _
    rw [e, ih, List.length_cons, show 8 * (l.length + 1) = 8 + 8 * l.length by omega, bitsC_add]
/-- one bit turned. -/
def flipS (l : List Int) (k : Nat) : List Int := l.set (k / 8) (((l.getD (k / 8) 0).toNat ^^^ 2 ^ (k % 8) : Nat) : Int)
theorem flipS_len (l : List Int) (k : Nat) : (flipS l k).length = l.length := by unfold flipS; simp
theorem flipS_wf {l : List Int} (h : ∀ x ∈ l, 0 ≤ x ∧ x ≤ 255) (k : Nat) : ∀ x ∈ flipS l k, 0 ≤ x ∧ x ≤ 255 := by
  intro x hx
  unfold flipS at hx
  rcases List.mem_or_eq_of_mem_set hx with hx | rfl
  · exact h x hx
  · have h1 : (l.getD (k / 8) 0).toNat < 2 ^ 8 := by
      by_cases hl : k / 8 < l.length
      · have := h _ (getD_mem hl); omega
      · rw [List.getD_eq_getElem?_getD, List.getElem?_eq_none (by omega)]; decide
    have h2 : 2 ^ (k % 8) < 2 ^ 8 := Nat.pow_lt_pow_right (by decide) (by omega)
    have := Nat.xor_lt_two_pow h1 h2
    omega
theorem ofInt_xor (a b : Nat) : BitVec.ofInt 32 ((a ^^^ b : Nat) : Int) = BitVec.ofInt 32 (a : Int) ^^^ BitVec.ofInt 32 (b : Int) := by
  rw [BitVec.ofInt_natCast, BitVec.ofInt_natCast, BitVec.ofInt_natCast]
  apply BitVec.eq_of_toNat_eq
  rw [BitVec.toNat_xor, BitVec.toNat_ofNat, BitVec.toNat_ofNat, BitVec.toNat_ofNat, Nat.xor_mod_two_pow]
theorem run_flip {l : List Int} (h : ∀ x ∈ l, 0 ≤ x ∧ x ≤ 255) {k : Nat} (hk : k < 8 * l.length) (x : W32) : runC x (flipS l k) = runC x l ^^^ bitsC (8 * l.length - k) 1#32 := by
  have hl : k / 8 < l.length := by omega
  have e1 : l = l.take (k / 8) ++ l.getD (k / 8) 0 :: l.drop (k / 8 + 1) := by
    conv => lhs; rw [← List.take_append_drop (k / 8) l]
    rw [List.drop_eq_getElem_cons hl, List.getD_eq_getElem?_getD, List.getElem?_eq_getElem hl]; rfl
  have e2 : flipS l k = l.take (k / 8) ++ (((l.getD (k / 8) 0).toNat ^^^ 2 ^ (k % 8) : Nat) : Int) :: l.drop (k / 8 + 1) := by
    unfold flipS
    rw [List.set_eq_take_append_cons_drop, if_pos hl]
  have hc := h _ (getD_mem hl)
  have hlen : (l.drop (k / 8 + 1)).length = l.length - (k / 8 + 1) := List.length_drop ..
  rw [e2]
  conv => rhs; rw [e1]
  generalize l.getD (k / 8) 0 = c at *
  unfold runC
  rw [List.foldl_append, List.foldl_append, List.foldl_cons, List.foldl_cons]
  generalize List.foldl byteC x (l.take (k / 8)) = y
  have eb : byteC y ((c.toNat ^^^ 2 ^ (k % 8) : Nat) : Int) = byteC y c ^^^ bitsC 8 (BitVec.twoPow 32 (k % 8)) := by
    unfold byteC inC
    rw [← bitsC_xor, ofInt_xor]
    congr 1
    rw [← BitVec.xor_assoc]
    have : ((c.toNat : Nat) : Int) = c := by omega
    rw [this]
    congr 1
    rw [BitVec.ofInt_natCast]
    apply BitVec.eq_of_toNat_eq
    rw [BitVec.toNat_ofNat, BitVec.toNat_twoPow]
  rw [eb]
  have := run_xor (l.drop (k / 8 + 1)) (byteC y c) (bitsC 8 (BitVec.twoPow 32 (k % 8)))
  unfold runC at this
  rw [this, hlen, ← bitsC_add, bitsC_pow (by omega) (by omega)]
  congr 2
  simp only [List.length_append, List.length_take, List.length_cons, List.length_drop]
  omega
/-- bits turned, one by one from a place on: those of a word, its first i. -/
def turnI (b : List Int) (at_ : Int) (t : Nat) : Nat → List Int
  | 0 => b
  | i + 1 => if t.testBit i = true ∧ 0 ≤ at_ + i ∧ at_ + i < 8 * b.length then flipS (turnI b at_ t i) (at_ + i).toNat else turnI b at_ t i
def turnS (b : List Int) (at_ : Int) (t : Nat) : List Int := turnI b at_ t 32
theorem turnI_props {b : List Int} (h : ∀ x ∈ b, 0 ≤ x ∧ x ≤ 255) (at_ : Int) (t i : Nat) : (turnI b at_ t i).length = b.length ∧ ∀ x ∈ turnI b at_ t i, 0 ≤ x ∧ x ≤ 255 := by
  induction i with
  | zero => exact ⟨rfl, h⟩
  | succ i ih =>
    unfold turnI
    split
    · exact ⟨by rw [flipS_len]; exact ih.1, flipS_wf ih.2 _⟩
    · exact ih
/-- the bits that lie within, as one word. -/
def effI (n : Nat) (at_ t : Nat) : Nat → W32
  | 0 => 0#32
  | i + 1 => if t.testBit i = true ∧ at_ + i < 8 * n then effI n at_ t i ^^^ BitVec.twoPow 32 i else effI n at_ t i
theorem effI_high (n at_ t i : Nat) : ∀ j, i ≤ j → (effI n at_ t i).getLsbD j = false := by
  induction i with
  | zero => intro j _; simp [effI]
  | succ i ih =>
    intro j hj
    unfold effI
    split
    · rw [BitVec.getLsbD_xor, ih j (by omega), BitVec.getLsbD_twoPow]; simp; omega
    · exact ih j (by omega)
theorem turnI_run {b : List Int} (h : ∀ x ∈ b, 0 ≤ x ∧ x ≤ 255) (at_ t i : Nat) (hi : i ≤ 32) (x : W32) : runC x (turnI b at_ t i) = runC x b ^^^ bitsC (8 * b.length - at_) (effI b.length at_ t i) := by
  induction i with
  | zero => rw [show turnI b at_ t 0 = b from rfl, show effI b.length at_ t 0 = 0#32 from rfl, bitsC_zero']; simp
  | succ i ih =>
    have ih := ih (by omega)
    have hp := turnI_props h at_ t i
    unfold turnI effI
    by_cases hc : t.testBit i = true ∧ at_ + i < 8 * b.length
    · rw [if_pos hc, if_pos ⟨hc.1, by omega, by omega⟩, show ((at_ : Int) + i).toNat = at_ + i by omega]
      rw [run_flip hp.2 (by rw [hp.1]; exact hc.2), ih, hp.1, bitsC_xor, bitsC_pow (show i < 32 by omega) (by omega), BitVec.xor_assoc]
      congr 2
      congr 1; omega
    · rw [if_neg hc, if_neg (fun hh => hc ⟨hh.1, by omega⟩), ih]
theorem turnI_same {b : List Int} (at_ t i : Nat) (hi : i ≤ 32) (h : effI b.length at_ t i = 0#32) : turnI b at_ t i = b := by
  induction i with
  | zero => rfl
  | succ i ih =>
    unfold effI at h
    unfold turnI
    by_cases hc : t.testBit i = true ∧ at_ + i < 8 * b.length
    · exfalso
      rw [if_pos hc] at h
      have := congrArg (fun y : W32 => y.getLsbD i) h
      simp only [BitVec.getLsbD_xor, effI_high _ _ _ i i (Nat.le_refl _), BitVec.getLsbD_twoPow] at this
      simp at this
      omega
    · rw [if_neg hc] at h
      rw [if_neg (fun hh => hc ⟨hh.1, by omega⟩), ih (by omega) h]
/-- THE LAW: what is turned within 32 bits is told. -/
theorem turn_run {b : List Int} (h : ∀ x ∈ b, 0 ≤ x ∧ x ≤ 255) (at_ t : Nat) (x : W32) : runC x (turnS b at_ t) = runC x b ↔ turnS b at_ t = b := by
  constructor
  · intro e
    refine turnI_same at_ t 32 (Nat.le_refl _) (bitsC_inj (8 * b.length - at_) ?_)
    have := turnI_run h at_ t 32 (Nat.le_refl _) x
    rw [show turnI b (at_ : Int) t 32 = turnS b at_ t from rfl, e] at this
    have h2 := congrArg (fun y => runC x b ^^^ y) this
    simp only [BitVec.xor_self, ← BitVec.xor_assoc, BitVec.zero_xor] at h2
    exact h2.symm
  · intro e; rw [e]
theorem turn_sum {b : List Int} (h : ∀ x ∈ b, 0 ≤ x ∧ x ≤ 255) (at_ t : Nat) : sumC (turnS b at_ t) = sumC b ↔ turnS b at_ t = b := by
  rw [← turn_run h at_ t (~~~0#32)]
  unfold sumC moreC
  constructor
  · intro e
    have := congrArg (fun y : W32 => ~~~y) e
    simpa using this
  · intro e; rw [e]
end Go.Proofs.YthmhpjpnlngaoaaDoor.Ct
