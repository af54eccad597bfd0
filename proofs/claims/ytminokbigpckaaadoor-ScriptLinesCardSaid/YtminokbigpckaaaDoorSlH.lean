import Derived.Test.YtminokbigpckaaaDoorSlG
/-! Lines and back: plain. -/
namespace Go.Proofs.YtminokbigpckaaaDoor.Ct
open Go.RowKit
set_option linter.unusedVariables false
set_option linter.unusedSimpArgs false
theorem wordS_nob (op : Int) : ∀ b ∈ (wordS op).data.toList, b ≠ 32 := by
  intro b hb e
  have h := mem_bs hb
  rw [wordS_list] at h
  have := wordL_wf op _ h
  subst e
  have e2 : ((32 : UInt8).toNat : Int) = 32 := rfl
  omega
theorem slW_nob (x : Sp) : ∀ y ∈ (slW x).map (·.data.toList), ∀ b ∈ y, b ≠ 32 := by
  intro y hy b hb
  obtain ⟨z, hz, rfl⟩ := List.mem_map.1 hy
  rw [slW_N] at hz
  rcases List.mem_cons.1 hz with rfl | hz
  · exact wordS_nob _ b hb
  · obtain ⟨q, -, rfl⟩ := List.mem_map.1 hz
    exact text_nob q b hb
theorem wB_slB (x : Sp) : wB (slB x) = slW x := by
  unfold wB slB
  rw [ba_list, wl_join _ (by rw [slW_N]; simp) (slW_nob x)]
  exact map_ba _
section
variable {x : Sp} (hm : MayX x) (hw : WfS x)
include hm in
theorem sl_op : stOp (slW x) = x.op.toNat ∧ ((x.op.toNat : Nat) : Int) = x.op ∧ x.op.toNat ≠ 0 := by
  have h := hm.1
  unfold InS at h
  have e : ((x.op.toNat : Nat) : Int) = x.op := by omega
  refine ⟨?_, e, by omega⟩
  unfold stOp
  rw [slW_N]
  show opW (wordS x.op) = _
  rw [← e]
  rw [opW_word (by omega) (by omega), e]
include hm in
theorem sl_nm : stNm (slW x) = nmS x := by
  unfold stNm nmS
  rw [(sl_op hm).1, (sl_op hm).2.1]
theorem slW_at {i : Nat} (hi : i < (slN x).length) : (slW x).getD (i + 1) ByteArray.empty = tx ((slN x).getD i 0) := by
  rw [slW_N, List.getD_eq_getElem?_getD, List.getElem?_cons_succ, List.getElem?_map, List.getElem?_eq_getElem hi, List.getD_eq_getElem?_getD, List.getElem?_eq_getElem hi]
  rfl
include hw in
theorem sl_n {i : Nat} (hi : i < (slN x).length) : stN (slW x) i = (slN x).getD i 0 ∧ okW ((slW x).getD (i + 1) ByteArray.empty) = true := by
  unfold stN pvW okW
  rw [slW_at hi, parse_tx (slN_bd hw hi)]
  exact ⟨rfl, rfl⟩
theorem slN_lo {j : Nat} (hj : j < nmS x) : (slN x).getD j 0 = valX x j := by
  unfold slN
  rw [List.getD_eq_getElem?_getD, List.getElem?_append_left (by simpa using hj), List.getElem?_map, List.getElem?_range hj]
  rfl
theorem slN_hi {j : Nat} (hj : j < x.fs.length) : (slN x).getD (nmS x + j) 0 = x.fs.getD j 0 := by
  unfold slN
  rw [List.getD_eq_getElem?_getD, List.getElem?_append_right (by simp), List.getD_eq_getElem?_getD]
  congr 2
  simp
include hm hw in
theorem sl_c {j : Nat} (hj : j < 3) : stC (slW x) j = valX x j := by
  unfold stC
  rw [sl_nm hm]
  split
  · rename_i h
    rw [(sl_n hw (by rw [slN_len]; omega)).1, slN_lo h]
  · rename_i h
    have := (lowX_iff x).1 hm.2.1 j (by unfold nmS at h; omega) hj
    exact this.symm
include hm hw in
theorem sl_back : stX (slW x) = x := by
  have hl : (slW x).length - 1 - nmS x = x.fs.length := by rw [slW_len]; omega
  unfold stX
  rw [sl_nm hm, hl, sl_c hm hw (by omega), sl_c hm hw (by omega), sl_c hm hw (by omega), (sl_op hm).1, (sl_op hm).2.1]
  have hf : stF (slW x) x.fs.length = x.fs := by
    unfold stF
    rw [sl_nm hm]
    apply List.ext_getElem (by simp)
    intro j h1 h2
    simp only [List.getElem_map, List.getElem_range]
    rw [(sl_n hw (by rw [slN_len]; omega)).1, slN_hi h2, List.getD_eq_getElem?_getD, List.getElem?_eq_getElem h2]
    rfl
  rw [hf]
  rfl
include hm hw in
theorem sl_ok : StOk (slW x) := by
  refine ⟨?_, ?_, ?_, by rw [sl_back hm hw]; exact hm⟩
  · rw [(sl_op hm).1]; exact (sl_op hm).2.2
  · rw [sl_nm hm, slW_len]; omega
  · intro i hi
    rw [slW_len] at hi
    exact (sl_n hw (by rw [slN_len]; omega)).2
theorem tx3 {n : Int} (h0 : 0 ≤ n) (h1 : n ≤ 999) : (tx n).data.toList.length ≤ 3 := by
  have hl : (textS n).length ≤ 3 := by
    unfold textS
    split
    · simp
    · have := digs_len 3 n.natAbs (by omega)
      rw [if_neg (by omega)]
      simp
      exact this
  unfold tx strOfNums
  simp
  exact hl
theorem joinc {c : Nat} : ∀ xs : List (List UInt8), (∀ x ∈ xs, x.length ≤ c) → (Lib.join xs [32]).length ≤ (c + 1) * xs.length
  | [], _ => by simp [Lib.join, List.intercalate]
  | [x], h => by
    have e : Lib.join [x] [32] = x := by simp [Lib.join, List.intercalate]
    have := h x (by simp)
    rw [e, List.length_singleton]
    omega
  | x :: y :: r, h => by
    have e : Lib.join (x :: y :: r) [32] = x ++ 32 :: Lib.join (y :: r) [32] := by simp [Lib.join, List.intercalate]
    have h1 := h x (by simp)
    have h2 := joinc (y :: r) fun z hz => h z (List.mem_cons_of_mem _ hz)
    rw [e, List.length_append, List.length_cons, List.length_cons (a := x), Nat.mul_add]
    omega
include hm hw in
theorem slB_short : (slB x).size ≤ 512 := by
  by_cases h14 : x.op = 14
  · have hb := hm.2.2.2.2.2.2.2.2 h14
    have hn1 : nmS x = 1 := by unfold nmS; rw [h14]; rfl
    have hj := joinc (c := 6) ((slW x).map (·.data.toList)) (by
      intro y hy
      obtain ⟨z, hz, rfl⟩ := List.mem_map.1 hy
      rw [slW_N] at hz
      rcases List.mem_cons.1 hz with rfl | hz
      · have h := congrArg List.length (wordS_list x.op)
        unfold bs at h
        rw [List.length_map] at h
        have := wordL_len x.op
        omega
      · obtain ⟨q, hq, rfl⟩ := List.mem_map.1 hz
        unfold slN at hq
        rw [hn1] at hq
        rcases List.mem_append.1 hq with hq | hq
        · have hq : q = x.a := by simpa [valX] using hq
          subst hq
          have h1 := hb.2.1
          have h2 := hb.1
          unfold InS at h1
          have := tx3 (n := x.a) (by omega) (by omega)
          omega
        · have h1 := hb.2.2 q hq
          unfold InS at h1
          have := tx3 (n := q) (by omega) (by omega)
          omega)
    rw [List.length_map, slW_len, hn1] at hj
    have h2 := hb.1
    unfold slB
    show (Lib.join _ [32]).toArray.size ≤ _
    rw [List.size_toArray]
    omega
  · have h0 := hm.2.2.1 h14
    have := slB_size hw
    omega
include hm hw in
theorem sp_line : spX (slB x) = x ∧ spC (slB x) = 0 := by
  have h1 := slB_short hm hw
  have h2 := sl_ok hm hw
  unfold spX spC
  rw [wB_slB, if_pos ⟨h1, h2⟩, if_neg (by omega), if_pos h2]
  exact ⟨sl_back hm hw, rfl⟩
end
theorem slN_back {ws : List ByteArray} (h : stNm ws ≤ ws.length - 1) : slN (stX ws) = (List.range (ws.length - 1)).map (stN ws) := by
  have e : ws.length - 1 = stNm ws + (ws.length - 1 - stNm ws) := by omega
  have e0 : nmS (stX ws) = stNm ws := rfl
  have e1 : (stX ws).fs = stF ws (ws.length - 1 - stNm ws) := rfl
  have e3 := stNm_le ws
  unfold slN
  rw [e0, e1]
  rw [show List.range (ws.length - 1) = List.range (stNm ws + (ws.length - 1 - stNm ws)) from congrArg List.range e, List.range_add]
  rw [List.map_append]
  congr 1
  · apply List.map_congr_left
    intro j hj
    have hj := List.mem_range.1 hj
    have hc : stC ws j = stN ws j := by unfold stC; rw [if_pos hj]
    rcases j with _ | _ | _ | j
    · exact hc
    · exact hc
    · exact hc
    · omega
  · unfold stF
    rw [List.map_map]
    rfl
theorem slW_back {ws : List ByteArray} (h : StOk ws) (h0 : ws ≠ []) : slW (stX ws) = ws := by
  obtain ⟨h1, h2, h3, -⟩ := h
  rw [slW_N, slN_back h2]
  cases ws with
  | nil => exact absurd rfl h0
  | cons w r =>
    have hw : wordS (stX (w :: r)).op = w := by
      have h1 : opW w ≠ 0 := h1
      rcases opW_spec w with h | h
      · exact h.2.2
      · exact absurd h.1 h1
    rw [hw, List.map_map]
    congr 1
    apply List.ext_getElem (by simp)
    intro j ha hb
    have := h3 j (by simpa using hb)
    simp only [List.getElem_map, List.getElem_range, Function.comp_apply]
    have e : (w :: r).getD (j + 1) ByteArray.empty = r[j] := by
      rw [List.getD_eq_getElem?_getD, List.getElem?_cons_succ, List.getElem?_eq_getElem hb]; rfl
    rw [e] at this
    unfold stN
    rw [e]
    exact tx_of this
theorem slB_back {s : ByteArray} (h : StOk (wB s)) : slB (stX (wB s)) = s := by
  have h0 : wB s ≠ [] := by
    intro e
    have := wB_len s
    rw [e] at this
    simp at this
  unfold slB
  rw [slW_back h h0]
  unfold wB
  rw [List.map_map]
  have : ((fun x : ByteArray => x.data.toList) ∘ fun l : List UInt8 => (⟨l.toArray⟩ : ByteArray)) = id := by
    funext l; simp
  rw [this, List.map_id, join_wl]
end Go.Proofs.YtminokbigpckaaaDoor.Ct
