import Derived.Test.YthmhpjpnlngaoaaDoorLib
import Derived.Test.YthmhpjpnlngaoaaDoorCrcPure
/-! crc.More and the reference's More: the sum of octets. -/
namespace Go.Proofs.YthmhpjpnlngaoaaDoor.Ct
open Go.RowKit
set_option linter.unusedVariables false
set_option linter.unusedSimpArgs false
/-- the table of crc lies as the text lays it. -/
def Tab (w : World) : Prop := ∀ i, i < 16 → w.cell? ⟨0, i, none⟩ = some (.int .u32 (TabC.getD i 0))
theorem Tab.below {w w' : World} (h : Tab w) (hb : Below w.heap.size w w') : Tab w' := fun i hi => (hb.cell (World.block_lt_of_cell? w _ (h i hi))).trans (h i hi)
theorem Tab.alloc {w : World} (h : Tab w) (o : Obj) : Tab (w.alloc o) := h.below ((Below.refl _ _).alloc (Nat.le_refl _) o)
theorem tabC_bd : ∀ i, i < 16 → 0 ≤ TabC.getD i 0 ∧ TabC.getD i 0 ≤ 4294967295 := by decide
theorem ofInt_toNat {c : Int} (h0 : 0 ≤ c) (h1 : c ≤ 4294967295) : ((BitVec.ofInt 32 c).toNat : Int) = c := by
  rw [BitVec.toNat_ofInt]; omega
theorem xor_val (X : W32) {c : Int} (h0 : 0 ≤ c) (h1 : c ≤ 4294967295) : bits BinOp.xor .u32 (X.toNat : Int) c = ((X ^^^ BitVec.ofInt 32 c).toNat : Int) := by
  conv => lhs; rw [← ofInt_toNat h0 h1]
  rw [u32_xor_nat _ _ X.isLt (BitVec.ofInt 32 c).isLt, BitVec.toNat_xor]
theorem div_val (X : W32) : ((X.toNat : Int) / 16) = ((X >>> 4).toNat : Int) := by
  rw [BitVec.toNat_ushiftRight, Nat.shiftRight_eq_div_pow]; rfl
theorem and_val (X : W32) : bits BinOp.and .u32 (X.toNat : Int) 15 = (((X &&& 15#32).toNat : Nat) : Int) := by
  rw [show (15 : Int) = ((15#32).toNat : Int) from rfl, u32_and_nat _ _ X.isLt (by decide), BitVec.toNat_and]
theorem and_lt (X : W32) : (X &&& 15#32).toNat < 16 := by
  rw [BitVec.toNat_and]; exact Nat.lt_of_le_of_lt Nat.and_le_right (by decide)
theorem not_val (X : W32) : bits BinOp.xor .u32 IntKind.u32.max (X.toNat : Int) = ((~~~X).toNat : Int) := by
  rw [show IntKind.u32.max = ((BitVec.allOnes 32).toNat : Int) from rfl, u32_xor_nat _ _ (by decide) X.isLt, ← BitVec.toNat_xor, BitVec.allOnes_xor]
/-- one nibble in the walk's own forms. -/
theorem four_val (w : World) (hT : Tab w) (Y : W32) : ∃ (q t : Int) (m : Nat), ((Y.toNat : Int) / 16) = q ∧ bits BinOp.and .u32 (Y.toNat : Int) 15 = (m : Int) ∧ m < 16 ∧ w.cell? ⟨0, m, none⟩ = some (.int .u32 t) ∧ bits BinOp.xor .u32 q t = ((fourC Y).toNat : Int) := by
  refine ⟨_, _, _, div_val Y, and_val Y, and_lt Y, hT _ (and_lt Y), ?_⟩
  have h := tabC_bd _ (and_lt Y)
  rw [xor_val _ h.1 h.2]; rfl
theorem runC_next {X : W32} {l : List Int} {k : Nat} (h : k < l.length) : runC X (l.take (k + 1)) = byteC (runC X (l.take k)) (l.getD k 0) := by
  unfold runC; rw [take_next h, List.foldl_append]; rfl

set_option maxHeartbeats 2000000 in
theorem more_calls (a : Option Addr) (cap : Nat) (s : Int) (S : W32) (xs : List Int) (w : World) (hs : s = (S.toNat : Int)) (h : Row .u8 w a xs) (hT : Tab w) :
    Calls Tryd.prog 59 #[.int .u32 s, .slice a xs.length cap] w fun e w' => e = .returned (.int .u32 ((moreC S xs).toNat : Int)) ∧ w = w' := by
  have hl := h.len
  have e0 := not_val S
  rw [← hs] at e0
  obtain ⟨n, hn⟩ : ∃ n : Int, ((~~~S).toNat : Int) = n := ⟨_, rfl⟩
  rw [hn] at e0
  have HN := Lib.hid hn; clear hn hs
  have HR := Lib.hid h; clear h
  have HT := Lib.hid hT; clear hT
  go_enter Tryd.func59, Tryd.ntmps59
  go_wp2
  go_loop [5, 7, 12] (fun x c i => ∃ k : Nat, k ≤ xs.length ∧ i = .int .i64 k ∧ x = .int .u32 ((runC (~~~S) (xs.take k)).toNat : Int)) (fun _ _ i => xs.length - (intOf i).toNat)
  case atStart => exact ⟨0, by omega, rfl, by rw [← HN.out]; rfl⟩
  case round =>
    obtain ⟨k, hk, rfl, rfl⟩ := hrel
    by_cases hlt : k < xs.length
    · obtain ⟨ad, rfl, hcell, hwf⟩ := HR.out.at_ hlt
      have hb := bounds_u8 hwf
      obtain ⟨b1, b2⟩ := hb
      have HX := Lib.hid (runC_next (X := ~~~S) hlt)
      clear hwf e0
      generalize xs.getD k 0 = c at *
      generalize runC (~~~S) (xs.take k) = X at *
      have ex := xor_val X b1 (by omega)
      have E8 := Lib.hid (byteC_four X c)
      obtain ⟨Y, hY⟩ : ∃ Y, X ^^^ BitVec.ofInt 32 c = Y := ⟨_, rfl⟩
      have E9 := Lib.hid (show inC X c = Y from hY)
      rw [hY] at ex
      clear hY
      obtain ⟨q, t, m, e1, e2, hm, c1, e3⟩ := four_val w HT.out Y
      obtain ⟨Z, hZ⟩ : ∃ Z, fourC Y = Z := ⟨_, rfl⟩
      rw [hZ] at e3
      obtain ⟨q2, t2, m2, e4, e5, hm2, c2, e6⟩ := four_val w HT.out Z
      obtain ⟨V, hV⟩ : ∃ V, fourC Z = V := ⟨_, rfl⟩
      rw [hV] at e6
      have EE := Lib.hid (show byteC X c = V by rw [← E8.out, E9.out, hZ, hV])
      clear hZ hV
      go_wp2
      go_round
      case rel => exact ⟨k + 1, by omega, by go_num, by rw [HX.out, EE.out]⟩
      case measure => simp [intOf]; omega
    · have : k = xs.length := by omega
      subst this
      have e1 := not_val (runC (~~~S) xs)
      obtain ⟨v, hv⟩ : ∃ v : Int, ((~~~runC (~~~S) xs).toNat : Int) = v := ⟨_, rfl⟩
      rw [hv] at e1
      have HV := Lib.hid (show ((moreC S xs).toNat : Int) = v from hv)
      clear hv e0
      go_wp2
      go_ret
      exact ⟨ret_int HV.out.symm, rfl⟩

theorem bitC_odd (X : W32) : ((((X.toNat : Int) % 2 == 1) = true) → bitC X = (X >>> 1) ^^^ PolyC) ∧ ((((X.toNat : Int) % 2 == 1) = false) → bitC X = X >>> 1) := by
  have e : X.getLsbD 0 = decide (X.toNat % 2 = 1) := by rw [← BitVec.testBit_toNat, Nat.testBit_zero]
  unfold bitC
  constructor
  · intro h; have := beq_iff_eq.1 h; rw [e, decide_eq_true (by omega)]; rfl
  · intro h; have := beq_eq_false_iff_ne.1 h; rw [e, decide_eq_false (by omega)]; simp
theorem half_val (X : W32) : ((X.toNat : Int) / (2 : Int)) = ((X >>> 1).toNat : Int) := by
  rw [BitVec.toNat_ushiftRight, Nat.shiftRight_eq_div_pow]; rfl
theorem poly_val (X : W32) : bits BinOp.xor .u32 (X.toNat : Int) 3988292384 = ((X ^^^ PolyC).toNat : Int) := by
  rw [xor_val X (by decide) (by decide)]; rfl
theorem bitsC_last (n : Nat) (x : W32) : bitsC (n + 1) x = bitC (bitsC n x) := by rw [bitsC_add]; rfl
set_option maxHeartbeats 2000000 in
theorem rmore_calls (a : Option Addr) (cap : Nat) (s : Int) (S : W32) (xs : List Int) (w : World) (hs : s = (S.toNat : Int)) (h : Row .u8 w a xs) :
    Calls Tryd.prog 60 #[.int .u32 s, .slice a xs.length cap] w fun e w' => e = .returned (.int .u32 ((moreC S xs).toNat : Int)) ∧ w = w' := by
  have hl := h.len
  have e0 : bits BinOp.xor .u32 s 4294967295 = ((~~~S).toNat : Int) := by
    rw [hs, show (4294967295 : Int) = ((BitVec.allOnes 32).toNat : Int) from rfl, u32_xor_nat _ _ S.isLt (by decide), ← BitVec.toNat_xor, BitVec.xor_allOnes]
  obtain ⟨n, hn⟩ : ∃ n : Int, ((~~~S).toNat : Int) = n := ⟨_, rfl⟩
  rw [hn] at e0
  have HN := Lib.hid hn; clear hn hs
  have HR := Lib.hid h; clear h
  go_enter Tryd.func60, Tryd.ntmps60
  go_wp2
  go_loop [5, 6, 7, 8] (fun x i k o => ∃ j : Nat, j ≤ xs.length ∧ i = .int .i64 j ∧ x = .int .u32 ((runC (~~~S) (xs.take j)).toNat : Int)) (fun _ i _ _ => xs.length - (intOf i).toNat)
  case atStart => exact ⟨0, by omega, rfl, by rw [← HN.out]; rfl⟩
  case round =>
    obtain ⟨j, hj, rfl, rfl⟩ := hrel
    by_cases hlt : j < xs.length
    · obtain ⟨ad, rfl, hcell, hwf⟩ := HR.out.at_ hlt
      have hb := bounds_u8 hwf
      obtain ⟨b1, b2⟩ := hb
      have HX := Lib.hid (runC_next (X := ~~~S) hlt)
      clear hwf e0
      generalize xs.getD j 0 = c at *
      generalize runC (~~~S) (xs.take j) = X at *
      have ex := xor_val X b1 (by omega)
      obtain ⟨Y, hY⟩ : ∃ Y, X ^^^ BitVec.ofInt 32 c = Y := ⟨_, rfl⟩
      have EE := Lib.hid (show byteC X c = bitsC 8 Y by rw [← hY]; rfl)
      rw [hY] at ex
      clear hY
      go_wp2
      go_loop [5, 7, 8] (fun x k o => ∃ n : Nat, n ≤ 8 ∧ k = .int .i64 n ∧ x = .int .u32 ((bitsC n Y).toNat : Int)) (fun _ k _ => 8 - (intOf k).toNat)
      case atStart => exact ⟨0, by omega, rfl, rfl⟩
      case round =>
        obtain ⟨n, hn, rfl, rfl⟩ := hrel
        by_cases hlt8 : n < 8
        · have HL := Lib.hid (bitsC_last n Y)
          generalize bitsC n Y = Z at *
          have ho := bitC_odd Z
          have eh := half_val Z
          have HO := Lib.hid ho; clear ho
          have ep := poly_val (Z >>> 1)
          cases hq : ((Z.toNat : Int) % 2 == 1)
          · have HQ := Lib.hid (HO.out.2 hq)
            obtain ⟨v, hv⟩ : ∃ v : Int, ((Z >>> 1).toNat : Int) = v := ⟨_, rfl⟩
            rw [hv] at eh
            have HV := Lib.hid hv; clear hv ep
            go_wp2
            go_round
            case rel => exact ⟨n + 1, by omega, by go_num, by rw [HL.out, HQ.out, HV.out]⟩
            case measure => simp [intOf]; omega
          · have HQ := Lib.hid (HO.out.1 hq)
            obtain ⟨v, hv⟩ : ∃ v : Int, ((Z >>> 1).toNat : Int) = v := ⟨_, rfl⟩
            rw [hv] at eh ep
            clear hv
            obtain ⟨u, hu⟩ : ∃ u : Int, (((Z >>> 1) ^^^ PolyC).toNat : Int) = u := ⟨_, rfl⟩
            rw [hu] at ep
            have HU := Lib.hid hu; clear hu
            go_wp2
            go_round
            case rel => exact ⟨n + 1, by omega, by go_num, by rw [HL.out, HQ.out, HU.out]⟩
            case measure => simp [intOf]; omega
        · obtain rfl : n = 8 := by omega
          go_wp2
          go_round
          case rel => exact ⟨j + 1, by omega, by go_num, by rw [HX.out, EE.out]⟩
          case measure => simp [intOf]; omega
    · have : j = xs.length := by omega
      subst this
      have e1 : bits BinOp.xor .u32 ((runC (~~~S) xs).toNat : Int) 4294967295 = ((~~~runC (~~~S) xs).toNat : Int) := by
        rw [show (4294967295 : Int) = ((BitVec.allOnes 32).toNat : Int) from rfl, u32_xor_nat _ _ (BitVec.isLt _) (by decide), ← BitVec.toNat_xor, BitVec.xor_allOnes]
      obtain ⟨v, hv⟩ : ∃ v : Int, ((~~~runC (~~~S) xs).toNat : Int) = v := ⟨_, rfl⟩
      rw [hv] at e1
      have HV := Lib.hid (show ((moreC S xs).toNat : Int) = v from hv)
      clear hv e0
      go_wp2
      go_ret
      exact ⟨ret_int HV.out.symm, rfl⟩
end Go.Proofs.YthmhpjpnlngaoaaDoor.Ct
