import Derived.Test.YthmhpjpnlngaoaaDoorCrcTurnP
/-! What is opened behind turned bits: plain laws. -/
namespace Go.Proofs.YthmhpjpnlngaoaaDoor.Ct
open Go.RowKit
set_option linter.unusedVariables false
set_option linter.unusedSimpArgs false
theorem word_split {C V : Nat} (hC : C < 2 ^ 8) (hV : V < 2 ^ 24) : BitVec.ofNat 32 (2 ^ 8 * V + C) = BitVec.ofNat 32 C ^^^ (BitVec.ofNat 32 V <<< 8) := by
  apply BitVec.eq_of_getLsbD_eq
  intro i hi
  rw [BitVec.getLsbD_xor, BitVec.getLsbD_ofNat, BitVec.getLsbD_ofNat, BitVec.getLsbD_shiftLeft, BitVec.getLsbD_ofNat, Nat.testBit_two_pow_mul_add V hC i]
  by_cases h : i < 8
  · simp [h, hi]
  · have hz : C.testBit i = false := Nat.testBit_lt_two_pow (Nat.lt_of_lt_of_le hC (Nat.pow_le_pow_right (by decide) (by omega)))
    simp [h, hi, hz]; omega
theorem word_shift {V : Nat} (hV : V < 2 ^ 24) : bitsC 8 (BitVec.ofNat 32 V <<< 8) = BitVec.ofNat 32 V := by
  rw [bitsC_even 8 _ (fun i hi => by simp [BitVec.getLsbD_shiftLeft]; omega)]
  apply BitVec.eq_of_getLsbD_eq
  intro i hi
  rw [BitVec.getLsbD_ushiftRight, BitVec.getLsbD_shiftLeft, BitVec.getLsbD_ofNat, BitVec.getLsbD_ofNat]
  by_cases h : i < 24
  · simp [hi, show 8 + i < 32 by omega]
  · have hz : V.testBit i = false := Nat.testBit_lt_two_pow (Nat.lt_of_lt_of_le hV (Nat.pow_le_pow_right (by decide) (by omega)))
    simp [hz]
theorem run_word (l : List Int) : ∀ (y : W32), (∀ x ∈ l, 0 ≤ x ∧ x ≤ 255) → l.length ≤ 4 → runC y l = bitsC (8 * l.length) (y ^^^ BitVec.ofInt 32 (ofS l)) := by
  induction l with
  | nil => intro y _ _; show y = bitsC 0 (y ^^^ BitVec.ofInt 32 0); simp [bitsC]
  | cons c l ih =>
    intro y h hl
    have hc := h c (List.mem_cons_self ..)
    have hw : ∀ x ∈ l, 0 ≤ x ∧ x ≤ 255 := fun x hx => h x (List.mem_cons_of_mem _ hx)
    have hbd := ofS_bd hw
    have hl3 : l.length ≤ 3 := by simp at hl; omega
    have hp : (256 : Int) ^ l.length ≤ 16777216 := by
      have : l.length = 0 ∨ l.length = 1 ∨ l.length = 2 ∨ l.length = 3 := by omega
      rcases this with e | e | e | e <;> rw [e] <;> decide
    show runC (byteC y c) l = _
    rw [ih _ hw (by omega), List.length_cons, show 8 * (l.length + 1) = 8 + 8 * l.length by omega, bitsC_add]
    congr 1
    obtain ⟨C, rfl⟩ := Int.eq_ofNat_of_zero_le hc.1
    obtain ⟨V, hV⟩ := Int.eq_ofNat_of_zero_le hbd.1
    rw [ofS, hV]
    have hV2 : V < 2 ^ 24 := by rw [hV] at hbd; omega
    have hC : C < 2 ^ 8 := by omega
    have e1 : ((C : Int) + 256 * (V : Int)) = ((2 ^ 8 * V + C : Nat) : Int) := by omega
    rw [e1, BitVec.ofInt_natCast, BitVec.ofInt_natCast, word_split hC hV2, ← BitVec.xor_assoc, bitsC_xor, word_shift hV2]
    unfold byteC inC
    rw [BitVec.ofInt_natCast]
/-- what is left where a sum fits. -/
def RestC : W32 := bitsC 32 (~~~0#32)
theorem bitsC_eq {n : Nat} {x y : W32} (h : bitsC n x = bitsC n y) : x = y := by
  have h2 := congrArg (fun z => z ^^^ bitsC n y) h
  simp only [BitVec.xor_self, ← bitsC_xor] at h2
  have := bitsC_inj n h2
  have h3 := congrArg (fun z => z ^^^ y) this
  simpa [BitVec.xor_assoc] using h3
theorem xor_not (y : W32) : y ^^^ ~~~y = ~~~0#32 := by
  apply BitVec.eq_of_getLsbD_eq
  intro i hi
  rw [BitVec.getLsbD_xor, BitVec.getLsbD_not, BitVec.getLsbD_not]
  simp [hi]
theorem xor_ones (y : W32) : y ^^^ ~~~0#32 = ~~~y := by
  apply BitVec.eq_of_getLsbD_eq
  intro i hi
  rw [BitVec.getLsbD_xor, BitVec.getLsbD_not, BitVec.getLsbD_not]
  simp [hi]
theorem open_iff {z : List Int} (h : ∀ x ∈ z, 0 ≤ x ∧ x ≤ 255) (hl : ¬ z.length < 4) : ofS (z.drop (z.length - 4)) = ((sumC (z.take (z.length - 4))).toNat : Int) ↔ runC (~~~0#32) z = RestC := by
  have hd : (z.drop (z.length - 4)).length = 4 := by rw [List.length_drop]; omega
  have hw : ∀ x ∈ z.drop (z.length - 4), 0 ≤ x ∧ x ≤ 255 := fun x hx => h x (List.mem_of_mem_drop hx)
  have e1 : runC (~~~0#32) z = runC (runC (~~~0#32) (z.take (z.length - 4))) (z.drop (z.length - 4)) := by
    unfold runC; rw [← List.foldl_append, List.take_append_drop]
  have hbd := ofS_bd hw
  rw [hd] at hbd
  have e2 : sumC (z.take (z.length - 4)) = ~~~ runC (~~~0#32) (z.take (z.length - 4)) := rfl
  rw [e1, run_word _ _ hw (by omega), hd, e2]
  generalize runC (~~~0#32) (z.take (z.length - 4)) = y at *
  obtain ⟨V, hV⟩ := Int.eq_ofNat_of_zero_le hbd.1
  rw [hV] at hbd ⊢
  have hV2 : V < 2 ^ 32 := by
    have h2 := hbd.2
    have h3 : (256 : Int) ^ 4 = 4294967296 := by decide
    rw [h3] at h2
    omega
  rw [BitVec.ofInt_natCast]
  unfold RestC
  constructor
  · intro e
    have e3 : BitVec.ofNat 32 V = ~~~y := by
      apply BitVec.eq_of_toNat_eq; rw [BitVec.toNat_ofNat, Nat.mod_eq_of_lt hV2]; omega
    rw [e3, xor_not]
  · intro e
    have e3 := bitsC_eq e
    have e4 : BitVec.ofNat 32 V = ~~~y := by
      have := congrArg (fun x => y ^^^ x) e3
      simp only [← BitVec.xor_assoc, BitVec.xor_self, BitVec.zero_xor] at this
      rw [this, xor_ones]
    have := congrArg BitVec.toNat e4
    rw [BitVec.toNat_ofNat, Nat.mod_eq_of_lt hV2] at this
    omega
/-- what is opened of sealed octets of which bits are turned. -/
theorem open_turn {z a : List Int} (h : ∀ x ∈ z, 0 ≤ x ∧ x ≤ 255) (ho : openS z = (a, 0)) (at_ t : Nat) : (turnS z at_ t = z ∧ openS (turnS z at_ t) = (a, 0)) ∨ (turnS z at_ t ≠ z ∧ openS (turnS z at_ t) = ([], 40)) := by
  by_cases e : turnS z at_ t = z
  · exact .inl ⟨e, by rw [e]; exact ho⟩
  · refine .inr ⟨e, ?_⟩
    have hl : ¬ z.length < 4 := by
      intro hl; rw [openS_short hl] at ho; cases ho
    have hf : ofS (z.drop (z.length - 4)) = ((sumC (z.take (z.length - 4))).toNat : Int) := by
      by_cases hf : ofS (z.drop (z.length - 4)) = ((sumC (z.take (z.length - 4))).toNat : Int)
      · exact hf
      · rw [openS_bad hl hf] at ho; cases ho
    have hp := turnI_props h (at_ : Int) t 32
    have hl2 : ¬ (turnS z at_ t).length < 4 := by unfold turnS; rw [hp.1]; exact hl
    refine openS_bad hl2 fun hg => e ?_
    have g1 := (open_iff h hl).1 hf
    have g2 := (open_iff (z := turnS z at_ t) hp.2 hl2).1 hg
    exact (turn_run h at_ t (~~~0#32)).1 (g2.trans g1.symm)
end Go.Proofs.YthmhpjpnlngaoaaDoor.Ct
