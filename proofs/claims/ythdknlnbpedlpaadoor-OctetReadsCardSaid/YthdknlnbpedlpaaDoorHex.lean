import Derived.Test.YthdknlnbpedlpaaDoorTake
import Derived.Deep.RegionHeldLaw
import Derived.Deep.QuietTactic
import Derived.BigQuiet
import Derived.Laws.MakeOwn
/-! octet.Hex and the reference's. -/
namespace Go.Proofs.YthdknlnbpedlpaaDoor.Ct
open Go.RowKit
set_option linter.unusedVariables false
set_option linter.unusedSimpArgs false
/-- an append inside a region, as a step. -/
theorem step_apps {P : Program} {w : World} {ops : Array Oper} {o : Oper} {a : Act} {K : Act → World → Prop} {Q : Exit → Act → World → Prop} {F : Prop} (T E : TypeId) (k : IntKind) (B : Nat)
    (hT : P.underlying T = some (.slice E)) (hE : (P.info? E).map (fun i => (i.zero, i.size, i.bytes)) = some (some (.int k 0), 1, B)) (hgd : o.guard = none) (s x : Operand)
    (ho : o.op = .call { callee := .builtin .append, args := #[s, x], argTypes := #[T, T] }) (base : Nat) (v : Value) (xs ys : List Int) (hown : Own k E w base v xs) (hs : a.eval s = v) (ad : Addr) (cap : Nat) (hx : a.eval x = .slice (some ad) ys.length cap)
    (hr : Row k w (some ad) ys) (hp : 0 < ys.length) (hlen : (xs.length + ys.length) * B ≤ 140737488355328) (hB : 0 < B) (hbase : base ≤ w.heap.size)
    (h : ∀ v' w', Own k E w' base v' (xs ++ ys) → w.grownBy w' v.ownBlock → K (a.put o.dst v') w') : if Region.wanted o (yielded ops a.tmps) = true then Oper.wp P o a w K Q else F := by
  obtain ⟨i, hi, hz0, hz1, hz2⟩ := info_wf hE
  have hm : xs.length + ys.length ≤ 140737488355328 := Nat.le_trans (Nat.le_mul_of_pos_right _ hB) hlen
  refine step_append_lies w hgd s x T ho base E i (.int k 0) 1 B hT hi hz0 hz1 hz2 rfl (by decide) v xs.length (nums k xs) hs hown.1 ad ys.length cap (nums k ys) hx (by rw [nums_length]; omega) ?_ ?_ hp (by unfold maxLen; omega) hlen hbase _ rfl ?_
  · intro j u hj
    have hjl : j < ys.length := by
      have := (List.getElem?_eq_some_iff.1 hj).1
      rwa [nums_length] at this
    obtain ⟨ad', e, hc, _⟩ := hr.at_ hjl
    simp only [Option.some.injEq] at e
    subst e
    rw [hc, ← hj]
    simp [nums, List.getElem?_eq_getElem hjl, List.getD_eq_getElem?_getD]
  · intro u hu
    obtain ⟨y, _, rfl⟩ := List.mem_map.1 hu
    rfl
  · intro g c w' h1 h2 _ _
    refine h _ w' ⟨?_, ?_⟩ h2
    · rw [List.length_append, nums_append]; exact h1
    · intro y hy
      rcases List.mem_append.1 hy with hy | hy
      · exact hown.2 y hy
      · exact hr.2.1 y hy
def DigC : List Int := [48, 49, 50, 51, 52, 53, 54, 55, 56, 57, 97, 98, 99, 100, 101, 102]
def Dig (w : World) : Prop := ∀ i, i < 16 → w.cell? ⟨0, i, none⟩ = some (.int .u8 (DigC.getD i 0))
theorem Dig.below {w w' : World} (h : Dig w) (hb : Below w.heap.size w w') : Dig w' := fun i hi => (hb.cell (World.block_lt_of_cell? w _ (h i hi))).trans (h i hi)
theorem digC_bd : ∀ i, i < 16 → 0 ≤ DigC.getD i 0 ∧ DigC.getD i 0 ≤ 255 := by decide
def hexS : List Int → List Int
  | [] => []
  | b :: l => DigC.getD (b / 16).toNat 0 :: DigC.getD (b % 16).toNat 0 :: hexS l
theorem hexS_append (l m : List Int) : hexS (l ++ m) = hexS l ++ hexS m := by
  induction l with
  | nil => rfl
  | cons b l ih => simp [hexS, ih]
theorem hexS_len (l : List Int) : (hexS l).length = 2 * l.length := by
  induction l with
  | nil => rfl
  | cons b l ih => simp [hexS, ih]; omega
theorem hexS_next {l : List Int} {j : Nat} (h : j < l.length) : hexS (l.take (j + 1)) = hexS (l.take j) ++ [DigC.getD (l.getD j 0 / 16).toNat 0, DigC.getD (l.getD j 0 % 16).toNat 0] := by
  rw [take_next h, hexS_append]; rfl
theorem and15_val {c : Int} (h0 : 0 ≤ c) (h1 : c ≤ 255) : bits BinOp.and .u8 c 15 = ((c % 16).toNat : Int) := by
  obtain ⟨n, rfl⟩ := Int.eq_ofNat_of_zero_le h0
  have hn : n < 256 := by omega
  clear h0 h1
  revert n
  decide +kernel
theorem row_lit {w : World} {k : IntKind} (E : TypeId) (m : Nat × Nat) (xs : List Int) (hm : xs.length ≤ 9223372036854775807) (hw : ∀ x ∈ xs, (Lit.int k x).wf = true) : Row k (w.alloc (.cells (nums k xs).toArray E m)) (some ⟨w.heap.size, 0, none⟩) xs := by
  refine ⟨by unfold maxLen; omega, hw, fun _ => ⟨_, rfl, fun j hj => ?_⟩⟩
  rw [add_plain, World.cell?_alloc_mark]
  simp [nums, List.getElem?_eq_getElem hj, List.getD_eq_getElem?_getD]
set_option maxHeartbeats 4000000 in
theorem hex_calls (a : Option Addr) (cap : Nat) (xs : List Int) (w : World) (h : Row .u8 w a xs) (hlen : xs.length ≤ 1000000000) (hT : Dig w) :
    Calls Tryd.prog 25 #[.slice a xs.length cap] w fun e w' => e = .returned (.string (strOfNums (hexS xs))) ∧ Below w.heap.size w w' := by
  obtain ⟨i0, hi, hz0, hz1, hz2⟩ := info_wf infoU8
  obtain ⟨w1, hmk, hown, hgr⟩ := run_make_own (P := Tryd.prog) w w.heap.size 23 5 i0 (.int .u8 0) 1 Tryd.underlying23 hi hz0 hz1 .i64 .i64 (2 * xs.length) (by rw [hz2]; omega) (by unfold maxLen; omega) (Nat.le_refl _)
  simp only [Int.natCast_mul, Int.cast_ofNat_Int] at hmk
  have HO := Lib.hid (show Own .u8 5 w1 w.heap.size _ [] from ⟨hown, by simp⟩)
  have HB := Lib.hid ((Below.refl w.heap.size w).grown hgr (Nat.le_refl _) (fun k e => by cases e))
  have SD := Lib.hid (fun w' (hb : Below w.heap.size w w') => hT.below hb)
  have H := Lib.hid h
  have kc := fun (w : World) (base : Nat) (v : Value) (xs : List Int) (h : Own .u8 5 w base v xs) => own_str (P := Tryd.prog) 23 5 9 Tryd.underlying23 Tryd.underlying5 Tryd.underlying9 h
  have KC := Lib.hid kc
  clear kc h hT hown hgr hz0 hz1 hz2 hi
  go_enter Tryd.func25, Tryd.ntmps25
  go_wp2
  go_loopw [3, 5, 12] (fun o c j wr => ∃ m : Nat, m ≤ xs.length ∧ j = .int .i64 m ∧ Own .u8 5 wr w.heap.size o (hexS (xs.take m)) ∧ Below w.heap.size w wr) (fun _ _ j _ => xs.length - (intOf j).toNat)
  case atStart => exact ⟨0, by omega, rfl, HO.out, HB.out⟩
  case round =>
    clear HO HB
    obtain ⟨m, hm, rfl, hown, hbel⟩ := hrel
    have HO := Lib.hid hown; clear hown
    have HB := Lib.hid hbel; clear hbel
    by_cases hlt : m < xs.length
    · obtain ⟨ad, rfl, hc, hwf⟩ := (H.out.below HB.out).at_ hlt
      have hb := bounds_u8 hwf
      have N := Lib.hid (hexS_next hlt)
      have hl : (hexS (xs.take m)).length ≤ 2000000000 := by rw [hexS_len, List.length_take]; omega
      generalize xs.getD m 0 = c at *
      generalize hexS (xs.take m) = hs at *
      obtain ⟨p, hp⟩ : ∃ p : Nat, (c / 16).toNat = p := ⟨_, rfl⟩
      obtain ⟨q, hq⟩ : ∃ q : Nat, (c % 16).toNat = q := ⟨_, rfl⟩
      have e1 : c / 16 = (p : Int) := by omega
      have e2 : bits BinOp.and .u8 c 15 = (q : Int) := by rw [and15_val hb.1 hb.2, hq]
      have hp16 : p < 16 := by omega
      have hq16 : q < 16 := by omega
      have hpi : (p : Int) < 16 := by omega
      have hqi : (q : Int) < 16 := by omega
      rw [hp, hq] at N
      have dp := digC_bd p hp16
      have dq := digC_bd q hq16
      have SD2 := Lib.hid (fun w' (hb : Below w.heap.size w w') => And.intro (SD.out w' hb p hp16) (SD.out w' hb q hq16))
      generalize DigC.getD p 0 = x at *
      generalize DigC.getD q 0 = y at *
      obtain ⟨hb0, hb1⟩ := hb
      have HXY := Lib.hid (show ∀ z ∈ [x, y], (Lit.int .u8 z).wf = true from fun z hz => by
        rcases List.mem_cons.1 hz with rfl | hz
        · exact u8_wf dp.1 dp.2
        · simp only [List.mem_singleton] at hz; subst hz; exact u8_wf dq.1 dq.2)
      clear hp hq hwf dp dq
      go_wp2
      go_region_held_law (fun w' => w'.cell? ⟨0, p, none⟩ = some (.int .u8 x) ∧ w'.cell? ⟨0, q, none⟩ = some (.int .u8 y))
        (first | exact SD2.out _ HB1.out | exact SD2.out _ (below_alloc (below_drew HB.out) _) | exact SD2.out _ (below_drew (below_alloc HB.out _)) | exact SD2.out _ (below_drew HB.out))
        (first | (refine step_apps 23 5 .u8 1 Tryd.underlying23 infoU8 rfl (.tmp 16) (.tmp 25) rfl w.heap.size _ hs [x, y] (HO.out.drew.alloc _) rfl _ 2 rfl (row_lit _ _ _ (by simp) HXY.out) (by simp) (by simp; omega) (by decide) (by have := HB.out.size; simp; omega) ?_; intro v' w2 hown1 hg1; have hb1 := Below.app (below_alloc (below_drew HB.out) _) hg1 (HO.out.drew.alloc _) (Nat.le_refl _) (by have := HB.out.size; simp; omega); have HO1 := Lib.hid hown1; have HB1 := Lib.hid hb1; clear hown1 hb1 hg1))
      all_goals go_wp2
      all_goals exact ⟨⟨m + 1, by omega, by go_num, by rw [N.out]; exact HO1.out, HB1.out⟩, by simp [intOf]; omega⟩
    · obtain rfl : m = xs.length := by omega
      rw [List.take_length] at HO
      have hcv := KC.out _ _ _ _ HO.out
      go_wp2
      go_ret
      exact ⟨rfl, HB.out⟩

theorem u8_def (x : Int) : IntKind.u8.wrap x = x % 256 := rfl
theorem dig_extract : ∀ p, p < 16 → (ByteArray.mk #[48, 49, 50, 51, 52, 53, 54, 55, 56, 57, 97, 98, 99, 100, 101, 102]).extract p (p + 1) = strOfNums [DigC.getD p 0] := by decide +kernel
theorem strOfNums_size (xs : List Int) : (strOfNums xs).size = xs.length := by simp [strOfNums, ByteArray.size]
set_option maxHeartbeats 4000000 in
theorem rhex_calls (a : Option Addr) (cap : Nat) (xs : List Int) (w : World) (h : Row .u8 w a xs) (hlen : xs.length ≤ 1000000000) :
    Calls Tryd.prog 27 #[.slice a xs.length cap] w fun e w' => e = .returned (.string (strOfNums (hexS xs))) ∧ Below w.heap.size w w' := by
  have H := Lib.hid h
  clear h
  go_enter Tryd.func27, Tryd.ntmps27
  go_wp2
  go_loopw [4, 5] (fun s j wr => ∃ m n : Nat, m ≤ xs.length ∧ j = .int .i64 m ∧ s = .string (strOfNums (hexS (xs.take m))) ∧ wr = w.drewN n) (fun _ j _ => xs.length - (intOf j).toNat)
  case atStart => exact ⟨0, 0, by omega, rfl, rfl, rfl⟩
  case round =>
    obtain ⟨m, n, hm, rfl, rfl, rfl⟩ := hrel
    by_cases hlt : m < xs.length
    · obtain ⟨ad, rfl, hc, hwf⟩ := H.out.at_ hlt
      have hb := bounds_u8 hwf
      have N := Lib.hid (hexS_next hlt)
      have hl : (hexS (xs.take m)).length ≤ 2000000000 := by rw [hexS_len, List.length_take]; omega
      generalize xs.getD m 0 = c at *
      generalize hexS (xs.take m) = hs at *
      obtain ⟨p, hp⟩ : ∃ p : Nat, (c / 16).toNat = p := ⟨_, rfl⟩
      obtain ⟨q, hq⟩ : ∃ q : Nat, (c % 16).toNat = q := ⟨_, rfl⟩
      obtain ⟨hb0, hb1⟩ := hb
      have e1 : IntKind.u8.wrap (c.tdiv 16) = (p : Int) := by rw [Int.tdiv_eq_ediv_of_nonneg hb0, u8_def]; omega
      have e2 : c.tmod 16 = (q : Int) := by rw [Int.tmod_eq_emod_of_nonneg hb0]; omega
      have e3 : c % 16 = (q : Int) := by omega
      have hp16 : p < 16 := by omega
      have hq16 : q < 16 := by omega
      have hpi : (p : Int) < 16 := by omega
      have hqi : (q : Int) < 16 := by omega
      rw [hp, hq] at N
      have f1 : IntKind.u8.wrap ((p : Int) + 1) = (p : Int) + 1 := by rw [u8_def]; omega
      have f2 : IntKind.u8.wrap ((q : Int) + 1) = (q : Int) + 1 := by rw [u8_def]; omega
      obtain ⟨tp, htp⟩ : ∃ tp, (ByteArray.mk #[48, 49, 50, 51, 52, 53, 54, 55, 56, 57, 97, 98, 99, 100, 101, 102]).extract p (p + 1) = tp := ⟨_, rfl⟩
      obtain ⟨tq, htq⟩ : ∃ tq, (ByteArray.mk #[48, 49, 50, 51, 52, 53, 54, 55, 56, 57, 97, 98, 99, 100, 101, 102]).extract q (q + 1) = tq := ⟨_, rfl⟩
      have ep := (htp.symm.trans (dig_extract p hp16))
      have eq := (htq.symm.trans (dig_extract q hq16))
      have sp : tp.size = 1 := by rw [ep]; rfl
      have sq : tq.size = 1 := by rw [eq]; rfl
      have sh : (strOfNums hs).size ≤ 2000000000 := by rw [strOfNums_size]; exact hl
      have EP := Lib.hid ep
      have EQ := Lib.hid eq
      clear hp hq hwf ep eq
      have S := Lib.hid (show strOfNums hs ++ tp ++ tq = strOfNums (hs ++ [DigC.getD p 0, DigC.getD q 0]) by rw [EP.out, EQ.out, strOfNums_append, strOfNums_append, List.append_assoc]; rfl)
      generalize strOfNums hs = ts at *
      go_wp2
      go_quiet (fail)
      go_wp2
      exact ⟨⟨m + 1, _, by omega, by go_num, by rw [N.out, S.out], rfl⟩, by simp [intOf]; omega⟩
    · obtain rfl : m = xs.length := by omega
      go_wp2
      go_ret
      exact ⟨by simp only [Array.getD]; rw [List.take_length]; rfl, below_drewN (Below.refl _ _) _⟩
end Go.Proofs.YthdknlnbpedlpaaDoor.Ct
