import Derived.Test.YthmhpjpnlngaoaaDoorObj
import Derived.Test.YthmhpjpnlngaoaaDoorReaderB
/-! Slices of rows of octets that the call itself made. -/
namespace Go.Proofs.YthmhpjpnlngaoaaDoor.Ct
open Go.RowKit
set_option linter.unusedVariables false
set_option linter.unusedSimpArgs false
theorem infoRow : (Tryd.prog.info? 27).map (fun i => (i.zero, i.size, i.bytes)) = some (some (.slice none 0 0), 1, 24) := by kernel_rfl
theorem Own.fr {k : IntKind} {E : TypeId} {w w' : World} {base b0 : Nat} {v : Value} {xs : List Int} {mine : Obj → Bool} (h : Own k E w base v xs) (hf : Fr b0 mine w w') (hm : ∀ cs, mine (.cells cs E (0, 0)) = false) : Own k E w' base v xs := by
  refine ⟨⟨h.1.1, ?_⟩, h.2⟩
  rcases h.1.2 with h1 | ⟨g, cap, cur, e, h2, hh, r⟩
  · exact .inl h1
  · exact .inr ⟨g, cap, cur, e, h2, (Blk.fr (w := w) (t := E) (cs := cur) hh hf (hm cur)), r⟩
def mineRow : Obj → Bool | .cells _ t _ => t == 27 | _ => false
theorem mineRow_u8 : ∀ cs, mineRow (.cells cs 5 (0, 0)) = false := fun _ => rfl
theorem mineRow_row : ∀ cs, mineRow (.cells cs 27 (0, 0)) = true := fun _ => rfl
def OwnS (w : World) (base : Nat) (v : Value) (L : List (List Int)) : Prop :=
  ∃ xs : List Value, SL base w 27 1 v L.length xs ∧ ∀ j, j < L.length → ∃ vj, xs[j]? = some vj ∧ Own .u8 5 w base vj (L.getD j [])
theorem OwnS.below {w w' : World} {base : Nat} {v : Value} {L : List (List Int)} (h : OwnS w base v L) (hb : Below w.heap.size w w') : OwnS w' base v L := by
  obtain ⟨xs, h1, h2⟩ := h
  exact ⟨xs, h1.below hb, fun j hj => by obtain ⟨vj, e, ho⟩ := h2 j hj; exact ⟨vj, e, ho.below hb⟩⟩
theorem OwnS.alloc {w : World} {base : Nat} {v : Value} {L : List (List Int)} (h : OwnS w base v L) (o : Obj) : OwnS (w.alloc o) base v L := h.below ((Below.refl _ _).alloc (Nat.le_refl _) o)
theorem OwnS.drew {w : World} {base : Nat} {v : Value} {L : List (List Int)} (h : OwnS w base v L) : OwnS w.drew base v L := h
theorem OwnS.form {w : World} {base : Nat} {v : Value} {L : List (List Int)} (h : OwnS w base v L) : ∃ a c, v = .slice a L.length c ∧ L.length ≤ c ∧ c ≤ 9223372036854775807 := by
  obtain ⟨xs, h1, _⟩ := h; exact h1.form
theorem OwnS.rows {w : World} {base : Nat} {a : Option Addr} {c : Nat} {L : List (List Int)} (h : OwnS w base (.slice a L.length c) L) : RowS w a L := by
  obtain ⟨xs, h1, h2⟩ := h
  refine ⟨?_, fun hp => ?_⟩
  · obtain ⟨_, c', e, hc, hm⟩ := h1.form
    unfold maxLen; omega
  · obtain ⟨g, off, cap, cs, e, hb, hblk, hn, hm, hc⟩ := h1.at_ hp
    simp only [Value.slice.injEq] at e
    obtain ⟨rfl, -, rfl⟩ := e
    refine ⟨_, rfl, fun j hj => ?_⟩
    obtain ⟨vj, ev, ho⟩ := h2 j hj
    obtain ⟨aj, cj, rfl, -, -, hr, -, -⟩ := ho.form
    refine ⟨aj, cj, ?_, hr⟩
    rw [Addr.add_lit, hblk.cell, hc j (by omega), ev]
/-- a literal of rows. -/
theorem ownS_lit {w : World} {base g : Nat} (vs : List Value) (L : List (List Int)) (hg : g = w.heap.size) (hb : base ≤ w.heap.size) (hl : vs.length = L.length) (hm : L.length ≤ 1000) (h : ∀ j, j < L.length → ∃ vj, vs[j]? = some vj ∧ Own .u8 5 w base vj (L.getD j [])) :
    OwnS (w.alloc (.cells vs.toArray 27)) base (.slice (some ⟨g, 0, none⟩) L.length L.length) L := by
  subst hg
  refine ⟨vs, ⟨by omega, .inr ⟨w.heap.size, 0, L.length, vs.toArray, rfl, hb, Blk.new _ _ _, Nat.le_refl _, by unfold maxLen; omega, by simp; omega, fun j hj => by simp⟩⟩, fun j hj => ?_⟩
  obtain ⟨vj, e, ho⟩ := h j hj
  exact ⟨vj, e, ho.alloc _⟩
theorem getD_append_left {α : Type} {L M : List α} {j : Nat} {d : α} (h : j < L.length) : (L ++ M).getD j d = L.getD j d := by
  rw [List.getD_eq_getElem?_getD, List.getD_eq_getElem?_getD, List.getElem?_append_left h]
theorem getD_append_right {α : Type} {L M : List α} {j : Nat} {d : α} (h : L.length ≤ j) : (L ++ M).getD j d = M.getD (j - L.length) d := by
  rw [List.getD_eq_getElem?_getD, List.getD_eq_getElem?_getD, List.getElem?_append_right h]
/-- append of rows that were just laid into a block of their own. -/
theorem wp_appRows {ops : Array Oper} {rest : List Oper} {o : Oper} {a : Act} {w : World} {Q : Exit → Act → World → Prop} {base : Nat} {sv : Value} {L M : List (List Int)} (hgd : o.guard = none) (s x : Operand) (ho : o.op = .call { callee := .builtin .append, args := #[s, x], argTypes := #[55, 55] })
    (hs : a.eval s = sv) (h : OwnS w base sv L) (g : Nat) (hx : a.eval x = .slice (some ⟨g, 0, none⟩) M.length M.length) (vs : List Value) (hvl : vs.length = M.length) (hc : Blk w g 27 vs.toArray) (hv : ∀ j, j < M.length → ∃ vj, vs[j]? = some vj ∧ Own .u8 5 w base vj (M.getD j []))
    (hlen : L.length + M.length ≤ 1000) (hbase : base ≤ w.heap.size)
    (hK : ∀ v' w', OwnS w' base v' (L ++ M) → Fr base mineRow w w' → wpList Tryd.prog ops Q rest (a.put o.dst v') w') : wpList Tryd.prog ops Q (o :: rest) a w := by
  obtain ⟨xs, h1, h2⟩ := h
  refine wp_appSL (mine := mineRow) 55 (.slice none 0 0) 24 Tryd.underlying55 infoRow rfl (by decide) mineRow_row hgd s x ho hs h1 g M.length hx vs.toArray (by simp; omega) ⟨_, _, hc⟩ ?_ (by omega) (by decide) hbase ?_
  · intro u hu
    obtain ⟨j, hj, rfl⟩ := List.getElem_of_mem (by simpa using hu)
    obtain ⟨vj, e, ho⟩ := hv j (by omega)
    rw [List.getElem?_eq_getElem hj] at e
    injection e with e
    rw [e]
    obtain ⟨aj, cj, rfl, -⟩ := ho.form
    rfl
  · intro v' w' r1 r2
    refine hK v' w' ⟨xs ++ vs, by rw [List.length_append]; simpa using r1, fun j hj => ?_⟩ r2
    rw [List.length_append] at hj
    have hxl := h1.1
    by_cases hjl : j < L.length
    · obtain ⟨vj, e, ho⟩ := h2 j hjl
      refine ⟨vj, by rw [List.getElem?_append_left (by omega)]; exact e, ?_⟩
      rw [getD_append_left hjl]
      exact ho.fr r2 mineRow_u8
    · obtain ⟨vj, e, ho⟩ := hv (j - L.length) (by omega)
      refine ⟨vj, by rw [List.getElem?_append_right (by omega), show xs.length = L.length by omega]; exact e, ?_⟩
      rw [getD_append_right (by omega)]
      exact ho.fr r2 mineRow_u8
end Go.Proofs.YthmhpjpnlngaoaaDoor.Ct
