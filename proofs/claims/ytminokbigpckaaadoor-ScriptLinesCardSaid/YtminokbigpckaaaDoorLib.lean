import Derived.Test.YtminokbigpckaaaDoorProg
import Derived.WalkKit
import Derived.OpenShut
import Derived.Lib.Hide
import Derived.RowKit3
import Derived.Deep.Draws
import Derived.Laws.BytesArg
import Derived.Lib.IndexBytes
import Derived.Laws.DeepStrings4
/-! Words of this claim: slices of whole numbers that are read, and those that the call itself makes. Over any program. -/
namespace Go.Proofs.YtminokbigpckaaaDoor.Ct
open Go.RowKit
set_option linter.unusedVariables false
set_option linter.unusedSimpArgs false
theorem ret_int {k : IntKind} {a b : Int} (h : a = b) : Ending.returned (.int k a) = .returned (.int k b) := by rw [h]
def I64 (a : Int) : Prop := -9223372036854775808 ≤ a ∧ a ≤ 9223372036854775807
def U64 (a : Int) : Prop := 0 ≤ a ∧ a ≤ 18446744073709551615
theorem i64_mk {x : Int} (h1 : -9223372036854775808 ≤ x) (h2 : x ≤ 9223372036854775807) : I64 x := ⟨h1, h2⟩
theorem u64_mk {x : Int} (h0 : 0 ≤ x) (h1 : x ≤ 18446744073709551615) : U64 x := ⟨h0, h1⟩
theorem u64_def (x : Int) : IntKind.u64.wrap x = x % 18446744073709551616 := rfl
theorem u64_ok (x : Int) : U64 (IntKind.u64.wrap x) := by unfold U64; rw [u64_def]; omega
theorem wrap64_id {x : Int} (h : I64 x) : wrap64 x = x := by unfold I64 at h; unfold wrap64; omega
theorem i64_of_wf {x : Int} (h : (Lit.int .i64 x).wf = true) : I64 x := bounds_i64 h
theorem getD_mem {xs : List Int} {j : Nat} (h : j < xs.length) : xs.getD j 0 ∈ xs := by
  rw [List.getD_eq_getElem?_getD, List.getElem?_eq_getElem h]; exact List.getElem_mem h
theorem take_next {xs : List Int} {j : Nat} (h : j < xs.length) : xs.take (j + 1) = xs.take j ++ [xs.getD j 0] := by
  rw [List.take_succ_eq_append_getElem h, List.getD_eq_getElem?_getD, List.getElem?_eq_getElem h]; rfl
theorem add_zero_addr (a : Addr) : a.add 0 = a := rfl
theorem add_plain (g j : Nat) : (⟨g, 0, none⟩ : Addr).add j = ⟨g, j, none⟩ := by unfold Addr.add; split <;> simp_all

/-- A slice of whole numbers that reads as a list. -/
def Row (k : IntKind) (w : World) (a : Option Addr) (xs : List Int) : Prop :=
  xs.length ≤ maxLen ∧ (∀ x ∈ xs, (Lit.int k x).wf = true) ∧ (0 < xs.length → ∃ ad, a = some ad ∧ ∀ j, j < xs.length → w.cell? (ad.add j) = some (.int k (xs.getD j 0)))
theorem row_nil (k : IntKind) (w : World) : Row k w none [] := ⟨by decide, by simp, fun h => by simp at h⟩
theorem Row.take {k : IntKind} {w : World} {a : Option Addr} {xs : List Int} (h : Row k w a xs) (n : Nat) : Row k w a (xs.take n) := by
  obtain ⟨h1, h2, h3⟩ := h
  refine ⟨by rw [List.length_take]; omega, fun x hx => h2 x (List.mem_of_mem_take hx), fun hp => ?_⟩
  rw [List.length_take] at hp
  obtain ⟨ad, e, hc⟩ := h3 (by omega)
  refine ⟨ad, e, fun j hj => ?_⟩
  rw [List.length_take] at hj
  rw [hc j (by omega)]
  simp [List.getD_eq_getElem?_getD, List.getElem?_take, show j < n by omega]
theorem Row.below {k : IntKind} {w w' : World} {a : Option Addr} {xs : List Int} (h : Row k w a xs) (hb : Below w.heap.size w w') : Row k w' a xs :=
  ⟨h.1, h.2.1, fun hp => by
    obtain ⟨ad, e, hc⟩ := h.2.2 hp
    exact ⟨ad, e, fun j hj => (hb.cell (World.block_lt_of_cell? w _ (hc j hj))).trans (hc j hj)⟩⟩
theorem row_some {k : IntKind} {w : World} {a : Addr} {len cap : Nat} {zs : List Int} (hl : len ≤ cap) (hm : cap ≤ maxLen) (hz : zs.length = cap)
    (hc : ∀ i, i < zs.length → w.cell? (a.add i) = some (.int k (zs.getD i 0))) (hw : ∀ n ∈ zs, (Lit.int k n).wf = true) :
    ∃ xs : List Int, len = xs.length ∧ xs.length ≤ cap ∧ cap ≤ 9223372036854775807 ∧ Row k w (some a) xs := by
  have hr : Row k w (some a) zs := ⟨by omega, hw, fun _ => ⟨a, rfl, hc⟩⟩
  have e : (zs.take len).length = len := by rw [List.length_take]; omega
  exact ⟨zs.take len, e.symm, by omega, by unfold maxLen at hm; omega, hr.take len⟩
theorem Row.at_ {k : IntKind} {w : World} {a : Option Addr} {xs : List Int} (h : Row k w a xs) {j : Nat} (hj : j < xs.length) :
    ∃ ad, a = some ad ∧ w.cell? (ad.add j) = some (.int k (xs.getD j 0)) ∧ (Lit.int k (xs.getD j 0)).wf = true := by
  obtain ⟨ad, e, hc⟩ := h.2.2 (by omega)
  exact ⟨ad, e, hc j hj, h.2.1 _ (getD_mem hj)⟩
theorem Row.len {k : IntKind} {w : World} {a : Option Addr} {xs : List Int} (h : Row k w a xs) : xs.length ≤ 9223372036854775807 := by
  have := h.1; unfold maxLen at this; omega

def nums (k : IntKind) (xs : List Int) : List Value := xs.map (Value.int k)
theorem nums_length (k : IntKind) (xs : List Int) : (nums k xs).length = xs.length := by simp [nums]
theorem nums_append (k : IntKind) (xs ys : List Int) : nums k (xs ++ ys) = nums k xs ++ nums k ys := by simp [nums]

/-- A slice of whole numbers that the call itself made, from block 'base' on. -/
def Own (k : IntKind) (E : TypeId) (w : World) (base : Nat) (v : Value) (xs : List Int) : Prop :=
  w.ownsRow base E 1 v xs.length (nums k xs) ∧ ∀ x ∈ xs, (Lit.int k x).wf = true
theorem own_nil (k : IntKind) (E : TypeId) (w : World) (base : Nat) : Own k E w base (.slice none 0 0) [] := ⟨World.ownsRow_nil w base E 1, by simp⟩
theorem Own.alloc {k : IntKind} {E : TypeId} {w : World} {base : Nat} {v : Value} {xs : List Int} (h : Own k E w base v xs) (o : Obj) : Own k E (w.alloc o) base v xs := ⟨h.1.alloc o, h.2⟩
theorem Own.drew {k : IntKind} {E : TypeId} {w : World} {base : Nat} {v : Value} {xs : List Int} (h : Own k E w base v xs) : Own k E w.drew base v xs := h
theorem Own.drewN {k : IntKind} {E : TypeId} {w : World} {base : Nat} {v : Value} {xs : List Int} (h : Own k E w base v xs) (n : Nat) : Own k E (w.drewN n) base v xs := h
theorem Own.kept {k : IntKind} {E : TypeId} {w w' : World} {base : Nat} {v : Value} {xs : List Int} (h : Own k E w base v xs) {row : Option Nat} (hg : w.grownBy w' row) (hne : v.ownBlock = none ∨ v.ownBlock ≠ row) : Own k E w' base v xs := ⟨h.1.kept hg hne, h.2⟩
theorem grown_of_below {w w1 : World} (h : Below w.heap.size w w1) (row : Option Nat) : w.grownBy w1 row := ⟨h.os, h.tape, h.output, h.size, fun i hi _ => h.block i hi⟩
theorem Own.below {k : IntKind} {E : TypeId} {w w' : World} {base : Nat} {v : Value} {xs : List Int} (h : Own k E w base v xs) (hb : Below w.heap.size w w') : Own k E w' base v xs :=
  h.kept (grown_of_below hb none) (by cases v.ownBlock <;> simp)
theorem Own.mono {k : IntKind} {E : TypeId} {w : World} {base base' : Nat} {v : Value} {xs : List Int} (h : Own k E w base v xs) (hb : base' ≤ base) : Own k E w base' v xs := by
  refine ⟨⟨h.1.1, ?_⟩, h.2⟩
  rcases h.1.2 with h1 | ⟨g, cap, cur, e, h2, r⟩
  · exact .inl h1
  · exact .inr ⟨g, cap, cur, e, Nat.le_trans hb h2, r⟩
theorem Own.base {k : IntKind} {E : TypeId} {w : World} {base : Nat} {v : Value} {xs : List Int} (h : Own k E w base v xs) : ∀ g, v.ownBlock = some g → base ≤ g := fun g hg => (h.1.lt g hg).1
theorem Own.lt {k : IntKind} {E : TypeId} {w : World} {base : Nat} {v : Value} {xs : List Int} (h : Own k E w base v xs) : ∀ g, v.ownBlock = some g → g < w.heap.size := fun g hg => (h.1.lt g hg).2
/-- What the value is, and that it reads. -/
theorem Own.form {k : IntKind} {E : TypeId} {w : World} {base : Nat} {v : Value} {xs : List Int} (h : Own k E w base v xs) :
    ∃ a cap, v = .slice a xs.length cap ∧ xs.length ≤ cap ∧ cap ≤ 9223372036854775807 ∧ Row k w a xs ∧ (a = none → xs = [] ∧ cap = 0) ∧ ∀ ad, a = some ad → ad = ⟨ad.block, 0, none⟩ ∧ base ≤ ad.block ∧ ∀ j, w.frozen? ⟨ad.block, j, none⟩ = false := by
  have h' := h
  obtain ⟨⟨h1, h2⟩, h3⟩ := h
  rcases h2 with ⟨e, h0⟩ | ⟨g, cap, cur, e, hb, hh, hn, hc, hs, ht⟩
  · have : xs = [] := List.length_eq_zero_iff.1 h0
    subst this
    exact ⟨none, 0, e, by simp, by omega, row_nil k w, fun _ => ⟨rfl, rfl⟩, fun _ h => by simp at h⟩
  · refine ⟨some ⟨g, 0, none⟩, cap, e, hn, by unfold maxLen at hc; omega, ⟨by omega, h3, fun _ => ⟨_, rfl, fun j hj => ?_⟩⟩, fun h => by simp at h, fun ad hh => ?_⟩
    · refine h'.1.cells (g := g) (by rw [e]; rfl) j _ ?_
      simp [nums, List.getElem?_eq_getElem hj, List.getD_eq_getElem?_getD]
    · simp only [Option.some.injEq] at hh
      subst hh
      refine ⟨rfl, hb, fun j => ?_⟩
      have := h'.1
      rw [e] at this
      exact this.frozenAt j

/-- A store into it. -/
theorem Own.store {k : IntKind} {E : TypeId} {w : World} {base g cap : Nat} {xs : List Int} {n : Nat} (h : Own k E w base (.slice (some ⟨g, 0, none⟩) n cap) xs) (hn : n = xs.length) (j : Nat) (hj : j < xs.length) (z : Int) (hz : (Lit.int k z).wf = true) :
    Own k E (w.setCell ⟨g, j, none⟩ (.int k z)) base (.slice (some ⟨g, 0, none⟩) n cap) (xs.set j z) := by
  subst hn
  have := h.1.stored j (.int k z)
  refine ⟨?_, ?_⟩
  · rw [List.length_set]
    have e : nums k (xs.set j z) = (nums k xs).set j (.int k z) := by unfold nums; rw [List.map_set]
    rw [e]; exact this.1
  · intro y hy
    rcases List.mem_or_eq_of_mem_set hy with hy | rfl
    · exact h.2 y hy
    · exact hz
theorem info_wf {P : Program} {E : TypeId} {k : IntKind} {B : Nat} (h : (P.info? E).map (fun i => (i.zero, i.size, i.bytes)) = some (some (.int k 0), 1, B)) :
    ∃ i, P.info? E = some i ∧ i.zero = some (.int k 0) ∧ i.size = 1 ∧ i.bytes = B := info_parts h

/-- append of one number onto a slice of the call's own. -/
theorem wp_app1 {P : Program} {w : World} {ops : Array Oper} {rest : List Oper} {o : Oper} {a : Act} {Q : Exit → Act → World → Prop} (T E : TypeId) (k : IntKind) (B : Nat)
    (hT : P.underlying T = some (.slice E)) (hE : (P.info? E).map (fun i => (i.zero, i.size, i.bytes)) = some (some (.int k 0), 1, B)) (hgd : o.guard = none) (s x : Operand)
    (ho : o.op = .call { callee := .builtin .append, args := #[s, x], argTypes := #[T, T] }) (base : Nat) (v : Value) (xs : List Int) (z : Int) (hown : Own k E w base v xs) (hs : a.eval s = v) (g : Nat) (hx : a.eval x = .slice (some ⟨g, 0, none⟩) 1 1)
    (hc : w.cell? ⟨g, 0, none⟩ = some (.int k z)) (hz : (Lit.int k z).wf = true) (hlen : (xs.length + 1) * B ≤ 140737488355328) (hB : 0 < B) (hbase : base ≤ w.heap.size)
    (h : ∀ v' w', Own k E w' base v' (xs ++ [z]) → w.grownBy w' v.ownBlock → wpList P ops Q rest (a.put o.dst v') w') : wpList P ops Q (o :: rest) a w := by
  obtain ⟨i, hi, hz0, hz1, hz2⟩ := info_wf hE
  have hm : xs.length + 1 ≤ 140737488355328 := Nat.le_trans (Nat.le_mul_of_pos_right _ hB) hlen
  refine wpList_append_own w hgd s x T ho base E i (.int k 0) 1 B hT hi hz0 hz1 hz2 rfl (by decide) v xs.length (nums k xs) hs hown.1 ⟨g, 0, none⟩ 1 1 [.int k z] hx rfl ?_ ?_ (by unfold maxLen; omega) hlen hbase ?_
  · intro j u hj
    cases j with
    | zero => simp at hj; subst hj; exact hc
    | succ j => simp at hj
  · intro u hu; simp at hu; subst hu; rfl
  · intro v' w' h1 h2 _
    refine h v' w' ⟨?_, ?_⟩ h2
    · rw [List.length_append, nums_append]; exact h1
    · intro y hy
      rcases List.mem_append.1 hy with hy | hy
      · exact hown.2 y hy
      · simp at hy; subst hy; exact hz
/-- append of a slice that is read, onto one of the call's own. -/
theorem wp_apps {P : Program} {w : World} {ops : Array Oper} {rest : List Oper} {o : Oper} {a : Act} {Q : Exit → Act → World → Prop} (T E : TypeId) (k : IntKind) (B : Nat)
    (hT : P.underlying T = some (.slice E)) (hE : (P.info? E).map (fun i => (i.zero, i.size, i.bytes)) = some (some (.int k 0), 1, B)) (hgd : o.guard = none) (s x : Operand)
    (ho : o.op = .call { callee := .builtin .append, args := #[s, x], argTypes := #[T, T] }) (base : Nat) (v : Value) (xs ys : List Int) (hown : Own k E w base v xs) (hs : a.eval s = v) (ad : Addr) (cap : Nat) (hx : a.eval x = .slice (some ad) ys.length cap)
    (hr : Row k w (some ad) ys) (hlen : (xs.length + ys.length) * B ≤ 140737488355328) (hB : 0 < B) (hbase : base ≤ w.heap.size)
    (h : ∀ v' w', Own k E w' base v' (xs ++ ys) → w.grownBy w' v.ownBlock → wpList P ops Q rest (a.put o.dst v') w') : wpList P ops Q (o :: rest) a w := by
  obtain ⟨i, hi, hz0, hz1, hz2⟩ := info_wf hE
  have hm : xs.length + ys.length ≤ 140737488355328 := Nat.le_trans (Nat.le_mul_of_pos_right _ hB) hlen
  refine wpList_append_own w hgd s x T ho base E i (.int k 0) 1 B hT hi hz0 hz1 hz2 rfl (by decide) v xs.length (nums k xs) hs hown.1 ad ys.length cap (nums k ys) hx (by rw [nums_length]; omega) ?_ ?_ (by unfold maxLen; omega) hlen hbase ?_
  · intro j u hj
    have hjl : j < ys.length := by
      have := (List.getElem?_eq_some_iff.1 hj).1
      rwa [nums_length] at this
    obtain ⟨ad', e, hc, _⟩ := hr.at_ hjl
    simp only [Option.some.injEq] at e
    subst e
    rw [hc]
    rw [← hj]
    simp [nums, List.getElem?_eq_getElem hjl, List.getD_eq_getElem?_getD]
  · intro u hu
    obtain ⟨y, _, rfl⟩ := List.mem_map.1 hu
    rfl
  · intro v' w' h1 h2 _
    refine h v' w' ⟨?_, ?_⟩ h2
    · rw [List.length_append, nums_append]; exact h1
    · intro y hy
      rcases List.mem_append.1 hy with hy | hy
      · exact hown.2 y hy
      · exact hr.2.1 y hy

theorem run_append_of_nil {P : Program} (w : World) (base : Nat) (t ty e : TypeId) (i : TypeInfo) (size : Nat) (ht : P.underlying t = some (.slice e)) (hi : P.info? e = some i)
    (v : Value) (n : Nat) (xs : List Value) (hown : w.ownsRow base e size v n xs) (c : Nat) : (Builtin.append_ #[t, t] ty #[v, .slice none 0 c]).run P w = .ok v w := by
  rcases hown.2 with ⟨rfl, rfl⟩ | ⟨g, cap, cur, rfl, _, _, hnc, _⟩
  · simp [Builtin.append_, run_underlying ht, sizeOf, typeInfo, hi, Builtin.lenOf, Builtin.firstCells]
  · simp [Builtin.append_, run_underlying ht, sizeOf, typeInfo, hi, Builtin.lenOf, Builtin.firstCells, hnc, storeCells]
/-- append of a slice that is read (nil too), onto one of the call's own. -/
theorem wp_appr {P : Program} {w : World} {ops : Array Oper} {rest : List Oper} {o : Oper} {a : Act} {Q : Exit → Act → World → Prop} (T E : TypeId) (k : IntKind) (B : Nat)
    (hT : P.underlying T = some (.slice E)) (hE : (P.info? E).map (fun i => (i.zero, i.size, i.bytes)) = some (some (.int k 0), 1, B)) (hgd : o.guard = none) (s x : Operand)
    (ho : o.op = .call { callee := .builtin .append, args := #[s, x], argTypes := #[T, T] }) (base : Nat) (v : Value) (xs ys : List Int) (hown : Own k E w base v xs) (hs : a.eval s = v) (A : Option Addr) (cap : Nat) (hx : a.eval x = .slice A ys.length cap)
    (hr : Row k w A ys) (hlen : (xs.length + ys.length) * B ≤ 140737488355328) (hB : 0 < B) (hbase : base ≤ w.heap.size)
    (h : ∀ v' w', Own k E w' base v' (xs ++ ys) → w.grownBy w' v.ownBlock → wpList P ops Q rest (a.put o.dst v') w') : wpList P ops Q (o :: rest) a w := by
  cases A with
  | none =>
    have hy : ys = [] := by
      rcases Nat.eq_zero_or_pos ys.length with h0 | h0
      · exact List.length_eq_zero_iff.1 h0
      · obtain ⟨ad, e, _⟩ := hr.2.2 h0; cases e
    subst hy
    obtain ⟨i, hi, _, hz1, _⟩ := info_parts hE
    refine wpList_plain hgd fun _ hK => ?_
    have hrun := run_append_of_nil (P := P) w base T o.type E i 1 hT hi v xs.length (nums k xs) hown.1 cap
    unfold Oper.wp execOp
    simp only [ho, resolve, invoke, builtin, Sem.run_bind, Sem.run_pure, Result.andThen_ok, List.map_toArray, List.map_cons, List.map_nil, hs, hx, List.length_nil, hrun]
    exact hK _ _ (h v w (by rw [List.append_nil]; exact hown) (World.grownBy.refl w _))
  | some ad => exact wp_apps T E k B hT hE hgd s x ho base v xs ys hown hs ad cap hx hr hlen hB hbase h
theorem own_lit {w : World} {k : IntKind} {E : TypeId} {base : Nat} (xs : List Int) (hb : base ≤ w.heap.size) (hm : xs.length ≤ 9223372036854775807) (hw : ∀ x ∈ xs, (Lit.int k x).wf = true) :
    Own k E (w.alloc (.cells (nums k xs).toArray E)) base (.slice (some ⟨w.heap.size, 0, none⟩) xs.length xs.length) xs := by
  refine ⟨?_, hw⟩
  have := World.ownsRow_lit (e := E) (size := 1) w (nums k xs).toArray xs.length hb (by unfold maxLen; omega) (by simp [nums])
  simpa using this
/-- string(b) of octets that are read. -/
theorem run_str {P : Program} {w : World} (T E S : TypeId) (hT : P.underlying T = some (.slice E)) (hE : P.underlying E = some (.int .u8)) (hS : P.underlying S = some .string) (a : Option Addr) (cap : Nat) (xs : List Int)
    (h : Row .u8 w a xs) : (convert T S (.slice a xs.length cap)).run P w = .ok (.string (strOfNums xs)) w := by
  rw [run_convert_bytes_string w T S E _ _ _ hT hE hS]
  cases a with
  | none =>
    have : xs = [] := by
      rcases Nat.eq_zero_or_pos xs.length with h0 | h0
      · exact List.length_eq_zero_iff.1 h0
      · obtain ⟨ad, e, _⟩ := h.2.2 h0; simp at e
    subst this
    simp [Conv.bytesToString, strOfNums]; rfl
  | some ad =>
    have hl : (loadCells ad xs.length).run P w = .ok (xs.map (Value.int .u8)).toArray w := by
      have := run_loadCells_list (P := P) w ad (xs.map (Value.int .u8)) (fun j v hj => by
        have hjl : j < xs.length := by
          have := (List.getElem?_eq_some_iff.1 hj).1
          simpa using this
        obtain ⟨ad', e, hc, _⟩ := h.at_ hjl
        simp only [Option.some.injEq] at e
        subst e
        rw [hc, ← hj]
        simp [List.getElem?_eq_getElem hjl, List.getD_eq_getElem?_getD])
      simpa using this
    rw [run_bytesToString w _ _ cap xs hl, foldl_push_bytes]
    simp [strOfNums, ByteArray.empty, ByteArray.emptyWithCapacity]
    rfl
theorem own_str {P : Program} {w : World} (T E S : TypeId) (hT : P.underlying T = some (.slice E)) (hE : P.underlying E = some (.int .u8)) (hS : P.underlying S = some .string) {base : Nat} {v : Value} {xs : List Int}
    (h : Own .u8 E w base v xs) : (convert T S v).run P w = .ok (.string (strOfNums xs)) w := by
  obtain ⟨a, cap, rfl, _, _, hr, _, _⟩ := h.form
  exact run_str T E S hT hE hS a cap xs hr
theorem below_alloc {w W : World} (h : Below w.heap.size w W) (o : Obj) : Below w.heap.size w (W.alloc o) := h.alloc h.size o
theorem below_drewN {w W : World} (h : Below w.heap.size w W) (n : Nat) : Below w.heap.size w (W.drewN n) := ⟨h.os, h.tape, h.output, h.size, h.block⟩
theorem below_drew {w W : World} (h : Below w.heap.size w W) : Below w.heap.size w W.drew := ⟨h.os, h.tape, h.output, h.size, h.block⟩
theorem row_drewN {k : IntKind} {w : World} {a : Option Addr} {xs : List Int} (h : Row k w a xs) (n : Nat) : Row k (w.drewN n) a xs := h
theorem below_step {w w1 w2 : World} (h : Below w.heap.size w w1) (k : Below w1.heap.size w1 w2) : Below w.heap.size w w2 := h.trans (k.mono h.size)
/-- Behind an append onto a row of the call's own. -/
theorem Below.app {B base : Nat} {w0 w w' : World} {v : Value} {k : IntKind} {E : TypeId} {xs : List Int} (h : Below B w0 w) (hg : w.grownBy w' v.ownBlock) (ho : Own k E w base v xs) (hB : B ≤ base) (hw : B ≤ w.heap.size) : Below B w0 w' :=
  h.grown hg hw (fun g e => Nat.le_trans hB (ho.base g e))
theorem ret_str {a b : ByteArray} (h : a = b) : Ending.returned (.string a) = .returned (.string b) := by rw [h]
theorem ret_bool {a b : Bool} (h : a = b) : Ending.returned (.bool a) = .returned (.bool b) := by rw [h]
theorem u8_wf {z : Int} (h0 : 0 ≤ z) (h1 : z ≤ 255) : (Lit.int .u8 z).wf = true := by
  simp [Lit.wf, IntKind.min, IntKind.max, IntKind.signed, IntKind.bits]
  omega
/-- a text's octets as numbers. -/
def bs (s : ByteArray) : List Int := s.data.toList.map fun b => (b.toNat : Int)
theorem bs_length (s : ByteArray) : (bs s).length = s.size := by unfold bs; rw [List.length_map]; rfl
theorem bs_get (s : ByteArray) (k : Nat) (h : k < s.size) : (bs s).getD k 0 = ((s[k]'h).toNat : Int) := by
  have hk : k < (bs s).length := by rw [bs_length]; exact h
  rw [List.getD_eq_getElem?_getD, List.getElem?_eq_getElem hk]
  simp [bs]
  rfl
theorem strOfNums_append (xs ys : List Int) : strOfNums xs ++ strOfNums ys = strOfNums (xs ++ ys) := by
  apply ByteArray.ext
  simp [strOfNums]
theorem strOf_bs (s : ByteArray) : strOfNums (bs s) = s := by
  apply ByteArray.ext
  apply Array.toList_inj.1
  unfold strOfNums bs
  rw [List.map_map]
  conv => rhs; rw [← List.map_id s.data.toList]
  exact List.map_congr_left fun b _ => by simp
theorem bs_strOf {xs : List Int} (h : ∀ x ∈ xs, 0 ≤ x ∧ x ≤ 255) : bs (strOfNums xs) = xs := by
  unfold strOfNums bs
  simp only [List.map_map]
  conv => rhs; rw [← List.map_id xs]
  refine List.map_congr_left fun x hx => ?_
  have := h x hx
  simp; omega
theorem bs_inj {s t : ByteArray} (h : bs s = bs t) : s = t := by rw [← strOf_bs s, h, strOf_bs]
theorem str_eq (s t : ByteArray) : (s.toList == t.toList) = decide (bs s = bs t) := by
  by_cases h : bs s = bs t
  · rw [decide_eq_true h, bs_inj h]; simp
  · rw [decide_eq_false h]
    refine beq_eq_false_iff_ne.2 fun e => h ?_
    rw [ByteArray.toList_eq, ByteArray.toList_eq] at e
    unfold bs; rw [e]
theorem bs_extract (s : ByteArray) (a : Nat) : bs (s.extract a s.size) = (bs s).drop a := by
  unfold bs
  rw [Lib.extract_to_end, List.map_drop]
end Go.Proofs.YtminokbigpckaaaDoor.Ct
