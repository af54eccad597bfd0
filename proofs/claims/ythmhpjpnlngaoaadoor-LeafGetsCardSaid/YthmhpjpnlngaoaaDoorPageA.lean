import Derived.Test.YthmhpjpnlngaoaaDoorCrcTurnW
import Derived.BigQuiet
import Derived.Deep.RegionWith
import Derived.Deep.DeepCutAuto
import Derived.Laws.CopyOwn
import Derived.Deep.OwnRows
import Derived.Laws.OwnMore
/-! Pages: right, Put. -/
namespace Go.Proofs.YthmhpjpnlngaoaaDoor.Ct
open Go.RowKit
set_option linter.unusedVariables false
set_option linter.unusedSimpArgs false
def rightS (k : Int) : Bool := decide (1 ≤ k ∧ k ≤ 7)
theorem rightS_eq (k : Int) : rightS k = (decide (1 ≤ k) && decide (k ≤ 7)) := by unfold rightS; simp
set_option maxHeartbeats 1000000 in
theorem right_calls (k : Int) (w : World) (hk : I64 k) : Calls Tryd.prog 44 #[.int .i64 k] w fun e w' => e = .returned (.bool (rightS k)) ∧ w = w' := by
  obtain ⟨k0, k1⟩ := hk
  by_cases h : 1 ≤ k
  · have E := Lib.hid (show rightS k = decide (k ≤ 7) by rw [rightS_eq, decide_eq_true h]; rfl)
    go_enter Tryd.func44, Tryd.ntmps44
    go_wp2
    go_ret
    exact ⟨ret_bool (by rw [E.out]), rfl⟩
  · have E := Lib.hid (show rightS k = false by rw [rightS_eq, decide_eq_false h]; rfl)
    go_enter Tryd.func44, Tryd.ntmps44
    go_wp2
    go_ret
    exact ⟨ret_bool (by rw [E.out]), rfl⟩
set_option maxHeartbeats 1000000 in
theorem rright_calls (k : Int) (w : World) (hk : I64 k) : Calls Tryd.prog 47 #[.int .i64 k] w fun e w' => e = .returned (.bool (rightS k)) ∧ w = w' := by
  obtain ⟨k0, k1⟩ := hk
  by_cases h : 1 ≤ k
  · have E := Lib.hid (show rightS k = decide (k ≤ 7) by rw [rightS_eq, decide_eq_true h]; rfl)
    go_enter Tryd.func47, Tryd.ntmps47
    go_wp2
    go_ret
    exact ⟨ret_bool (by rw [E.out]), rfl⟩
  · have E := Lib.hid (show rightS k = false by rw [rightS_eq, decide_eq_false h]; rfl)
    go_enter Tryd.func47, Tryd.ntmps47
    go_wp2
    go_ret
    exact ⟨ret_bool (by rw [E.out]), rfl⟩
/-- a row of octets made anew. -/
theorem run_mk8 (n : Nat) (hn : n ≤ 100000) (w : World) : (Instr.makeSlice 27 (.int .i64 (n : Int)) (.int .i64 (n : Int))).run Tryd.prog w = .ok (.slice (some ⟨w.heap.size, 0, none⟩) n n) (w.alloc (.cells (nums .u8 (List.replicate n 0)).toArray 5)) := by
  have h := run_make_row' (P := Tryd.prog) 27 5 (.int .u8 0) 1 Tryd.underlying27 infoU8 rfl .i64 .i64 n (by omega) (by omega) w
  rw [h]
  congr 2
  rw [show nums .u8 (List.replicate n 0) = List.replicate n (.int .u8 0) by simp [nums], ← toList_madeCells_one]
theorem zeros_wf (n : Nat) : ∀ x ∈ List.replicate n (0 : Int), (Lit.int .u8 x).wf = true := by
  intro x hx
  rw [List.eq_of_mem_replicate hx]; rfl
/-- a row known whole is its block. -/
theorem Own.block {k : IntKind} {E : TypeId} {w : World} {base g n : Nat} {xs : List Int} (h : Own k E w base (.slice (some ⟨g, 0, none⟩) n n) xs) (hn : n = xs.length) : w.heap[g]? = some (.cells (nums k xs).toArray E (0, 0)) := by
  subst hn
  obtain ⟨⟨h1, h2⟩, h3⟩ := h
  rcases h2 with ⟨e, h0⟩ | ⟨g', cap, cur, e, hb, hh, hn, hc, hs, ht⟩
  · cases e
  · simp only [Value.slice.injEq, Option.some.injEq, Addr.mk.injEq, and_true, true_and] at e
    obtain ⟨rfl, rfl⟩ := e
    rw [hh]
    congr 2
    apply Array.ext'
    have : cur.toList.length = xs.length := by rw [Array.length_toList]; omega
    rw [← ht, Nat.mul_one, List.take_of_length_le (by omega)]
theorem own_of_block {k : IntKind} {E : TypeId} {w : World} {base g n : Nat} {xs : List Int} (h : w.heap[g]? = some (.cells (nums k xs).toArray E (0, 0))) (hn : n = xs.length) (hb : base ≤ g) (hm : xs.length ≤ 9223372036854775807) (hw : ∀ x ∈ xs, (Lit.int k x).wf = true) : Own k E w base (.slice (some ⟨g, 0, none⟩) n n) xs := by
  subst hn
  refine ⟨⟨by simp [nums], .inr ⟨g, xs.length, _, rfl, hb, h, Nat.le_refl _, by unfold maxLen; omega, by simp [nums], ?_⟩⟩, hw⟩
  rw [Nat.mul_one]; exact List.take_of_length_le (by simp [nums])
def pageS (k : Int) (xs : List Int) : List Int := [213, k] ++ xs ++ List.replicate (58 - xs.length) 0
theorem pageS_len {k : Int} {xs : List Int} (h : xs.length ≤ 58) : (pageS k xs).length = 60 := by unfold pageS; simp; omega
theorem pageS_wf {k : Int} {xs : List Int} (hk : 0 ≤ k ∧ k ≤ 255) (h : ∀ x ∈ xs, (Lit.int .u8 x).wf = true) : ∀ x ∈ pageS k xs, (Lit.int .u8 x).wf = true := by
  intro x hx
  unfold pageS at hx
  rcases List.mem_append.1 hx with hx | hx
  · rcases List.mem_append.1 hx with hx | hx
    · simp at hx
      rcases hx with rfl | rfl
      · rfl
      · exact u8_wf hk.1 hk.2
    · exact h x hx
  · exact zeros_wf _ x hx
theorem page_splice {k : Int} {xs : List Int} (h : xs.length ≤ 58) : splice (nums .u8 (213 :: k :: List.replicate 58 0)) 2 (nums .u8 xs) = nums .u8 (pageS k xs) := by
  unfold splice pageS nums
  generalize 58 = N at *
  simp only [List.map_cons, List.map_append, List.map_replicate, List.length_map, List.take_succ_cons, List.take_zero, List.cons_append, List.nil_append, List.map_nil]
  rw [Nat.add_comm 2 xs.length, List.drop_succ_cons, List.drop_succ_cons, List.drop_replicate]
set_option maxHeartbeats 4000000 in
theorem pput_ok (k : Int) (a : Option Addr) (cap : Nat) (xs : List Int) (w : World) (hk : 1 ≤ k ∧ k ≤ 7) (h : Row .u8 w a xs) (hl : xs.length ≤ 58) (hT : Tab w) :
    Calls Tryd.prog 24 #[.int .i64 k, .slice a xs.length cap] w fun e w' => ∃ v, e = .returned (.tuple #[v, .int .i64 0]) ∧ Own .u8 5 w' w.heap.size v (sealS (pageS k xs)) ∧ Below w.heap.size w w' := by
  obtain ⟨k0, k1⟩ := hk
  have RC := Lib.hid (fun w => right_calls k w ⟨by omega, by omega⟩)
  rw [show rightS k = true from decide_eq_true ⟨k0, k1⟩] at RC
  have hmk : (Instr.makeSlice 27 (.int .i64 60) (.int .i64 60)).run Tryd.prog w = .ok (.slice (some ⟨w.heap.size, 0, none⟩) 60 60) (w.alloc (.cells (nums .u8 (List.replicate 60 0)).toArray 5)) := run_mk8 60 (by decide) w
  have hown : Own .u8 5 (w.alloc (.cells (nums .u8 (List.replicate 60 0)).toArray 5)) w.heap.size (.slice (some ⟨w.heap.size, 0, none⟩) 60 60) (List.replicate 60 0) := by
    have := own_lit (k := .u8) (E := 5) (w := w) (List.replicate 60 0) (Nat.le_refl _) (by simp) (zeros_wf 60)
    simpa using this
  have hb1 : Below w.heap.size w (w.alloc (.cells (nums .u8 (List.replicate 60 0)).toArray 5)) := (Below.refl _ _).alloc (Nat.le_refl _) _
  have h1 := h.below hb1
  have hc0 : (w.alloc (.cells (nums .u8 (List.replicate 60 0)).toArray 5)).cell? ⟨w.heap.size, 0, none⟩ = some (.int .u8 0) := by rw [World.cell?_alloc_new]; rfl
  have hc1 : (w.alloc (.cells (nums .u8 (List.replicate 60 0)).toArray 5)).cell? ⟨w.heap.size, 1, none⟩ = some (.int .u8 0) := by rw [World.cell?_alloc_new]; rfl
  obtain ⟨_, _, hv, -, -, -, -, hnf⟩ := hown.form
  simp only [Value.slice.injEq] at hv
  obtain ⟨rfl, -, rfl⟩ := hv
  obtain ⟨-, -, hfz⟩ := hnf _ rfl
  have hf0 := hfz 0
  have hf1 := hfz 1
  simp only at hf0 hf1
  clear hnf hfz
  generalize w.alloc (.cells (nums .u8 (List.replicate 60 0)).toArray 5) = w1 at *
  have HO2 := Lib.hid (hown.store (n := 60) (by simp) 0 (by simp) 213 rfl)
  have HB2 := Lib.hid (hb1.setCell (p := ⟨w.heap.size, 0, none⟩) (Nat.le_refl _) (.int .u8 213))
  have HO3 := Lib.hid (HO2.out.store (n := 60) (by simp) 1 (by simp) k (u8_wf (by omega) (by omega)))
  have HB3 := Lib.hid (HB2.out.setCell (p := ⟨w.heap.size, 1, none⟩) (Nat.le_refl _) (.int .u8 k))
  have HX3 := Lib.hid (h.below HB3.out)
  have HT := Lib.hid hT
  clear hown hb1 h1 hT h
  go_enter Tryd.func24, Tryd.ntmps24
  go_upto_region 7 with (go_at_call 44; (with_reducible refine (RC.out _).mono ?_); rintro e w' ⟨rfl, rfl⟩)
  have hlist : (((List.replicate 60 (0 : Int)).set 0 213).set 1 k) = 213 :: k :: List.replicate 58 0 := rfl
  rw [hlist] at HO3
  clear hc0 hc1 hf0 hf1 hmk HO2 HB2 hlist
  have hgl := HO3.out.lt w.heap.size rfl
  generalize (w1.setCell ⟨w.heap.size, 0, none⟩ (.int .u8 213)).setCell ⟨w.heap.size, 1, none⟩ (.int .u8 k) = w3 at *
  have hbk := HO3.out.block (by simp)
  have HBK := Lib.hid hbk; clear hbk
  have HPW := Lib.hid (pageS_wf (k := k) (xs := xs) ⟨by omega, by omega⟩ HX3.out.2.1)
  have HSP := Lib.hid (page_splice (k := k) hl)
  have HPL := Lib.hid (pageS_len (k := k) hl)
  have HXL := Lib.hid hl
  have hms := hl
  obtain ⟨cs, hcs⟩ : ∃ cs, nums .u8 xs = cs := ⟨_, rfl⟩
  have HCL := Lib.hid (show cs.length = xs.length by rw [← hcs]; exact nums_length _ _)
  have HC1 := Lib.hid (show ∀ v ∈ cs, v.oneCell' = true by rw [← hcs]; intro v hv; obtain ⟨y, _, rfl⟩ := List.mem_map.1 hv; rfl)
  have HPOS := Lib.hid (show 0 < cs.length → ∃ ad, a = some ad ∧ ∀ j v, cs[j]? = some v → w3.cell? (ad.add j) = some v by
    intro hp
    obtain ⟨ad, e, hcell⟩ := HX3.out.2.2 (by have := HCL.out; omega)
    refine ⟨ad, e, fun j v hv => ?_⟩
    have hj : j < xs.length := by have := (List.getElem?_eq_some_iff.1 hv).1; have := HCL.out; omega
    rw [hcell j hj, ← hv, ← hcs]
    simp [nums, List.getElem?_eq_getElem hj, List.getD_eq_getElem?_getD])
  obtain ⟨cur, hcur⟩ : ∃ cur, nums .u8 (213 :: k :: List.replicate 58 0) = cur := ⟨_, rfl⟩
  rw [hcur] at HBK HSP
  rw [hcs] at HSP
  have HCU := Lib.hid (show cur.length = 60 by rw [← hcur]; simp [nums])
  clear hcs hcur
  go_upto_region 8 with ((with_reducible refine wpList_copy_splice rfl (.tmp 23) (.tmp 24) 27 27 rfl 5 Tryd.underlying27 (by kernel_rfl) _ _ _ _ _ _ rfl rfl w.heap.size 2 cur 5 HBK.out cs (by rw [HCL.out]; have := HXL.out; simp [Nat.min_def] <;> omega) (fun hp => ⟨rfl, HPOS.out hp⟩) (by rw [HCL.out, HCU.out]; have := HXL.out; omega) HC1.out w.heap.size w HB3.out (Nat.le_refl _) ?_); intro w4 hg4 hb4; have HG4 := Lib.hid hg4.out; have HB4 := Lib.hid hb4; clear hg4 hb4)
  rw [HSP.out] at HG4
  have HO4 := Lib.hid (own_of_block (n := 60) (base := w.heap.size) HG4.out HPL.out.symm (Nat.le_refl _) (by have := HPL.out; omega) HPW.out)
  obtain ⟨_, _, hv4, -, -, hr4, -, -⟩ := HO4.out.form
  simp only [Value.slice.injEq] at hv4
  obtain ⟨rfl, -, rfl⟩ := hv4
  have sc := seal_calls (some ⟨w.heap.size, 0, none⟩) 60 (pageS k xs) w4 hr4 (by rw [HPL.out]; decide) (HT.out.below HB4.out)
  rw [HPL.out] at sc
  have SC := Lib.hid sc
  clear sc hr4
  go_wp2_with (go_at_call 45; (with_reducible refine (SC.out).mono ?_); rintro e w5 ⟨v, rfl, ho, hb⟩; have HO5 := Lib.hid (ho.mono HB4.out.size); have HB5 := Lib.hid (below_step HB4.out hb); clear ho hb)
  go_ret2
  exact ⟨_, rfl, HO5.out, HB5.out⟩
set_option maxHeartbeats 4000000 in
theorem pput_bad (k : Int) (a : Option Addr) (cap : Nat) (xs : List Int) (w : World) (hk : I64 k) (hm : xs.length ≤ 9223372036854775807) (hb : ¬ (1 ≤ k ∧ k ≤ 7)) :
    Calls Tryd.prog 24 #[.int .i64 k, .slice a xs.length cap] w fun e w' => e = .returned (.tuple #[.slice none 0 0, .int .i64 1]) ∧ w = w' := by
  have RC := Lib.hid (fun w => right_calls k w hk)
  rw [show rightS k = false from decide_eq_false hb] at RC
  clear hb hk
  go_enter Tryd.func24, Tryd.ntmps24
  go_wp2_with (go_at_call 44; (with_reducible refine (RC.out _).mono ?_); rintro e w' ⟨rfl, rfl⟩)
  go_ret2
  exact ⟨rfl, rfl⟩
set_option maxHeartbeats 4000000 in
theorem pput_long (k : Int) (a : Option Addr) (cap : Nat) (xs : List Int) (w : World) (hk : 1 ≤ k ∧ k ≤ 7) (hm : xs.length ≤ 9223372036854775807) (hl : 58 < xs.length) :
    Calls Tryd.prog 24 #[.int .i64 k, .slice a xs.length cap] w fun e w' => e = .returned (.tuple #[.slice none 0 0, .int .i64 7]) ∧ w = w' := by
  have RC := Lib.hid (fun w => right_calls k w ⟨by omega, by omega⟩)
  rw [show rightS k = true from decide_eq_true hk] at RC
  go_enter Tryd.func24, Tryd.ntmps24
  go_wp2_with (go_at_call 44; (with_reducible refine (RC.out _).mono ?_); rintro e w' ⟨rfl, rfl⟩)
  go_ret2
  exact ⟨rfl, rfl⟩
/-- what Put answers. -/
def putP (k : Int) (xs : List Int) : List Int × Int := if 1 ≤ k ∧ k ≤ 7 then (if 58 < xs.length then ([], 7) else (sealS (pageS k xs), 0)) else ([], 1)
def PutS (w w' : World) (k : Int) (xs : List Int) (e : Ending) : Prop := ∃ v, e = .returned (.tuple #[v, .int .i64 (putP k xs).2]) ∧ Own .u8 5 w' w.heap.size v (putP k xs).1 ∧ Below w.heap.size w w'
theorem pput_calls (k : Int) (a : Option Addr) (cap : Nat) (xs : List Int) (w : World) (hk : I64 k) (h : Row .u8 w a xs) (hT : Tab w) :
    Calls Tryd.prog 24 #[.int .i64 k, .slice a xs.length cap] w fun e w' => PutS w w' k xs e := by
  have hm := h.len
  unfold PutS putP
  by_cases h1 : 1 ≤ k ∧ k ≤ 7
  · rw [if_pos h1]
    by_cases h2 : 58 < xs.length
    · rw [if_pos h2]
      refine (pput_long k a cap xs w h1 hm h2).mono ?_
      rintro e w' ⟨rfl, rfl⟩
      exact ⟨_, rfl, own_nil _ _ _ _, Below.refl _ _⟩
    · rw [if_neg h2]
      exact pput_ok k a cap xs w h1 h (by omega) hT
  · rw [if_neg h1]
    refine (pput_bad k a cap xs w hk hm h1).mono ?_
    rintro e w' ⟨rfl, rfl⟩
    exact ⟨_, rfl, own_nil _ _ _ _, Below.refl _ _⟩
end Go.Proofs.YthmhpjpnlngaoaaDoor.Ct
