import Derived.Test.YtjjhfllpbicclaaGhB
import Derived.Lib.SliceRun
/-! Histories: slices.DeleteFunc: its parts. -/
namespace Go.Proofs.Ytjjhfllpbicclaa.Ct
open Go.RowKit
set_option linter.unusedVariables false
set_option linter.unusedSimpArgs false
theorem zero_put (w : World) : (zeroValue 47).run Try.prog w = .ok (.agg #[.int .u64 0, .int .i64 0]) w := by kernel_rfl
theorem run_clear_put (w : World) (gp o n c : Nat) (hn : 0 < n) (hc : ∀ j, j < n * 2 → (w.cell? ⟨gp, o + j, none⟩).isSome = true) (hf : ∀ j, j < n * 2 → w.frozen? ⟨gp, o + j, none⟩ = false) :
    ∃ zs : List Value, zs.length = n * 2 ∧ ∀ ty, (Builtin.clear_ #[42] ty #[.slice (some ⟨gp, o, none⟩) n c]).run Try.prog w = .ok (.tuple #[]) (w.setCells gp o zs) := by
  have hl : (Builtin.zeroCells (Value.cells (.agg #[.int .u64 0, .int .i64 0])) n).toList.length = n * 2 := by simp [Builtin.zeroCells, Value.cells]
  have h1 : ∀ v ∈ (Builtin.zeroCells (Value.cells (.agg #[.int .u64 0, .int .i64 0])) n).toList, v.oneCell' = true := by
    intro v hv
    simp only [Builtin.zeroCells, Array.toList_map, List.mem_map] at hv
    obtain ⟨i, -, rfl⟩ := hv
    have : i % 2 = 0 ∨ i % 2 = 1 := by omega
    show (#[Value.int .u64 0, Value.int .i64 0][i % 2]!).oneCell' = true
    rcases this with e | e <;> rw [e] <;> rfl
  have hst := run_storeCells_cells (P := Try.prog) gp o (Builtin.zeroCells (Value.cells (.agg #[.int .u64 0, .int .i64 0])) n).toList 0 w (by rw [hl]; simpa using hc) (by rw [hl]; simpa using hf) h1
  simp only [Nat.add_zero] at hst
  refine ⟨_, hl, fun ty => ?_⟩
  obtain ⟨m, rfl⟩ : ∃ m, n = m + 1 := ⟨n - 1, by omega⟩
  simp [Builtin.clear_, run_underlying Try.underlying42, zero_put, hst]
theorem flatP_take : ∀ (L : List KV) (i : Nat), (flatP L).take (i * 2) = flatP (L.take i)
  | [], i => by simp [flatP]
  | p :: L, 0 => rfl
  | p :: L, i + 1 => by
    rw [show (i + 1) * 2 = i * 2 + 1 + 1 by omega]
    simp only [flatP, List.take_succ_cons, flatP_take L i]
theorem flatP_set : ∀ (L : List KV) (i : Nat) (p : KV), i < L.length → ((flatP L).set (i * 2) (.int .u64 p.1)).set (i * 2 + 1) (.int .i64 p.2) = flatP (L.set i p)
  | [], i, p, h => by simp at h
  | q :: L, 0, p, h => rfl
  | q :: L, i + 1, p, h => by
    have := flatP_set L i p (by simpa using h)
    rw [show (i + 1) * 2 = i * 2 + 1 + 1 by omega]
    simp only [flatP, List.set_cons_succ, this]
/-- its head, behind a clearing of the rest. -/
theorem SL.clear_ {base gp off cap n i : Nat} {w : World} {L : List KV} {zs : List Value} (h : SL base w 47 2 (.slice (some ⟨gp, off, none⟩) n cap) n (flatP L)) (hn : L.length = n) (hi : i ≤ n) (hz : zs.length = (n - i) * 2) :
    SL base (w.setCells gp (off + i * 2) zs) 47 2 (.slice (some ⟨gp, off, none⟩) i cap) i (flatP (L.take i)) := by
  refine ⟨by rw [flatP_len, List.length_take, hn, Nat.min_eq_left hi], ?_⟩
  rcases h.2 with ⟨e, h0⟩ | ⟨g, off', cap', cs, e, hb, hbl, h1, h2, h3, h4⟩
  · cases e
  · simp only [Value.slice.injEq, Option.some.injEq, Addr.mk.injEq, and_true, true_and] at e
    obtain ⟨⟨rfl, rfl⟩, rfl⟩ := e
    obtain ⟨cs', k1, k2, k3, -⟩ := setAll_blk zs w (off + i * 2) cs hbl (by omega)
    refine .inr ⟨gp, off, cap, cs', rfl, hb, k1, by omega, h2, by omega, fun q hq => ?_⟩
    rw [k3 _ (by omega), h4 _ (by omega), ← flatP_take, List.getElem?_take, if_pos hq]
def minePut : Obj → Bool | .cells _ t _ => t == 47 | _ => false
theorem minePut_p : ∀ cs, minePut (.cells cs 47 (0, 0)) = true := fun _ => rfl
theorem minePut_h : ∀ cs, minePut (.cells cs 44 (0, 0)) = false := fun _ => rfl
theorem minePut_b : ∀ cs, minePut (.cells cs 23 (0, 0)) = false := fun _ => rfl
theorem MapU.fr {base : Nat} {w w' : World} {g : Nat} {M : List KV} (h : MapU w g M) (hf : Fr base minePut w w') : MapU w' g M := by
  have hl := h.lt
  obtain ⟨es, c, hb, e⟩ := h
  exact ⟨es, c, (hf.block g hl (.inr fun o ho => by rw [hb] at ho; injection ho with ho; rw [← ho]; rfl)).trans hb, e⟩
def keepS (M L : List KV) : List KV := L.filter (cntS M)
theorem keepS_step {M L : List KV} {j : Nat} (h : j < L.length) : keepS M (L.take (j + 1)) = if cntS M (L.getD j (0, 0)) = true then keepS M (L.take j) ++ [L.getD j (0, 0)] else keepS M (L.take j) := by
  have e : L.take (j + 1) = L.take j ++ [L.getD j (0, 0)] := by
    rw [List.take_add_one, List.getElem?_eq_getElem h, List.getD_eq_getElem?_getD, List.getElem?_eq_getElem h]; rfl
  rw [e]
  unfold keepS
  rw [List.filter_append]
  cases hc : cntS M (L.getD j (0, 0))
  · rw [if_neg (by simp)]; simp only [List.filter_cons, hc, Bool.false_eq_true, if_false, List.filter_nil, List.append_nil]
  · rw [if_pos rfl]; simp only [List.filter_cons, hc, if_true, List.filter_nil]
theorem keepS_all {M L : List KV} (h : ∀ j, j < L.length → cntS M (L.getD j (0, 0)) = true) : keepS M L = L := by
  unfold keepS
  rw [List.filter_eq_self]
  intro p hp
  obtain ⟨j, hj, rfl⟩ := List.getElem_of_mem hp
  have := h j hj
  rwa [List.getD_eq_getElem?_getD, List.getElem?_eq_getElem hj] at this
theorem keepS_pre {M L : List KV} {k : Nat} (hk : k ≤ L.length) (h : ∀ j, j < k → cntS M (L.getD j (0, 0)) = true) : keepS M (L.take k) = L.take k := by
  refine keepS_all fun j hj => ?_
  rw [List.length_take] at hj
  have := h j (by omega)
  rwa [List.getD_eq_getElem?_getD, List.getElem?_take, if_pos (by omega), ← List.getD_eq_getElem?_getD]
end Go.Proofs.Ytjjhfllpbicclaa.Ct
