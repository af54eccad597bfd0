/-! Sums of 32 bits, bit by bit and four bits by four: plain laws, no program. -/
namespace Go.Proofs.YthmhpjpnlngaoaaDoor.Ct
set_option linter.unusedVariables false
set_option linter.unusedSimpArgs false
abbrev W32 := BitVec 32
def PolyC : W32 := 0xedb88320#32
/-- one bit. -/
def bitC (x : W32) : W32 := (x >>> 1) ^^^ (if x.getLsbD 0 = true then PolyC else 0#32)
theorem bitC_xor (a b : W32) : bitC (a ^^^ b) = bitC a ^^^ bitC b := by
  unfold bitC
  rw [BitVec.ushiftRight_xor_distrib, BitVec.getLsbD_xor]
  generalize a >>> 1 = p
  generalize b >>> 1 = q
  cases a.getLsbD 0 <;> cases b.getLsbD 0 <;>
    (ext i hi
     simp
     try (cases p[i] <;> cases q[i] <;> cases PolyC[i] <;> rfl))
theorem bitC_zero : bitC 0#32 = 0#32 := by decide
def bitsC : Nat → W32 → W32
  | 0, x => x
  | n + 1, x => bitsC n (bitC x)
theorem bitsC_xor (n : Nat) : ∀ a b : W32, bitsC n (a ^^^ b) = bitsC n a ^^^ bitsC n b := by
  induction n with
  | zero => intro a b; rfl
  | succ n ih => intro a b; simp only [bitsC]; rw [bitC_xor, ih]
theorem bitsC_add (m n : Nat) : ∀ x : W32, bitsC (m + n) x = bitsC n (bitsC m x) := by
  induction m with
  | zero => intro x; simp [bitsC]
  | succ m ih => intro x; rw [Nat.add_right_comm]; simp only [bitsC]; exact ih _
theorem bitC_even {x : W32} (h : x.getLsbD 0 = false) : bitC x = x >>> 1 := by unfold bitC; rw [h]; simp
theorem bitsC_even (n : Nat) : ∀ x : W32, (∀ i, i < n → x.getLsbD i = false) → bitsC n x = x >>> n := by
  induction n with
  | zero => intro x _; simp [bitsC]
  | succ n ih =>
    intro x h
    simp only [bitsC]
    rw [bitC_even (h 0 (by omega)), ih _ (fun i hi => by rw [BitVec.getLsbD_ushiftRight]; exact h _ (by omega))]
    rw [← BitVec.shiftRight_add, Nat.add_comm]
def TabC : List Int := [0, 498536548, 997073096, 651767980, 1994146192, 1802195444, 1303535960, 1342533948, 3988292384, 4027552580, 3604390888, 3412177804, 2607071920, 2262029012, 2685067896, 3183342108]
/-- four bits, by the table. -/
def fourC (y : W32) : W32 := (y >>> 4) ^^^ BitVec.ofInt 32 (TabC.getD (y &&& 15#32).toNat 0)
theorem tab_four (i : Fin 16) : bitsC 4 (BitVec.ofNat 32 i.val) = BitVec.ofInt 32 (TabC.getD i.val 0) := by revert i; decide
theorem fourC_bits (y : W32) : fourC y = bitsC 4 y := by
  have hs : y = (y &&& ~~~15#32) ^^^ (y &&& 15#32) := by
    ext i hi
    simp only [BitVec.getElem_xor, BitVec.getElem_and, BitVec.getElem_not]
    cases y[i] <;> cases (15#32)[i] <;> rfl
  have h1 : bitsC 4 (y &&& ~~~15#32) = y >>> 4 := by
    rw [bitsC_even 4]
    · ext i hi
      simp only [BitVec.getElem_ushiftRight, BitVec.getLsbD_and, BitVec.getLsbD_not]
      by_cases h : 4 + i < 32
      · have : (15#32).getLsbD (4 + i) = false := by
          rw [← BitVec.testBit_toNat]
          exact Nat.testBit_lt_two_pow (Nat.lt_of_lt_of_le (show (15#32).toNat < 2 ^ 4 by decide) (Nat.pow_le_pow_right (by decide) (by omega)))
        rw [BitVec.getLsbD_eq_getElem h] at this
        simp [this, h]
      · rw [BitVec.getLsbD_of_ge y _ (by omega)]; rfl
    · intro i hi
      have : i = 0 ∨ i = 1 ∨ i = 2 ∨ i = 3 := by omega
      rcases this with rfl | rfl | rfl | rfl <;> simp [BitVec.getLsbD_and]
  have h2 : bitsC 4 (y &&& 15#32) = BitVec.ofInt 32 (TabC.getD (y &&& 15#32).toNat 0) := by
    have hlt : (y &&& 15#32).toNat < 16 := by
      rw [BitVec.toNat_and]
      exact Nat.lt_of_le_of_lt Nat.and_le_right (by decide)
    have := tab_four ⟨(y &&& 15#32).toNat, hlt⟩
    simp only [BitVec.ofNat_toNat, BitVec.setWidth_eq] at this
    exact this
  unfold fourC
  rw [← h2, ← h1, ← bitsC_xor, ← hs]
/-- an octet more, before its bits are gone through. -/
def inC (x : W32) (c : Int) : W32 := x ^^^ BitVec.ofInt 32 c
def byteC (x : W32) (c : Int) : W32 := bitsC 8 (inC x c)
theorem byteC_four (x : W32) (c : Int) : fourC (fourC (inC x c)) = byteC x c := by
  rw [fourC_bits, fourC_bits, ← bitsC_add]; rfl
def runC (x : W32) (l : List Int) : W32 := l.foldl byteC x
def moreC (s : W32) (l : List Int) : W32 := ~~~ runC (~~~ s) l
theorem moreC_append (s : W32) (a b : List Int) : moreC (moreC s a) b = moreC s (a ++ b) := by
  unfold moreC runC; rw [BitVec.not_not, List.foldl_append]
theorem moreC_nil (s : W32) : moreC s [] = s := by unfold moreC runC; simp
def sumC (l : List Int) : W32 := moreC 0#32 l
theorem sumC_page : sumC [49, 50, 51, 52, 53, 54, 55, 56, 57] = 0xcbf43926#32 := by decide +kernel
theorem sumC_nil : sumC [] = 0#32 := moreC_nil _
end Go.Proofs.YthmhpjpnlngaoaaDoor.Ct
