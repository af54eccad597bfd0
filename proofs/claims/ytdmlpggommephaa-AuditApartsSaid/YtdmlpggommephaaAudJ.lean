import Derived.Test.YtdmlpggommephaaAudI
import Derived.Test.YtdmlpggommephaaAudG
/-! Rows of steps, appended. -/
namespace Go.Proofs.Ytdmlpggommephaa.Ct
open Go.RowKit
set_option linter.unusedVariables false
set_option linter.unusedSimpArgs false
theorem infoS : (Try.prog.info? 30).map (fun i => (i.zero, i.size, i.bytes)) = some (some (.agg #[.int .i64 0, .int .i64 0, .int .i64 0, .int .i64 0, .slice none 0 0]), 5, 56) := by kernel_rfl
def mineS : Obj → Bool | .cells _ t _ => t == 30 | _ => false
theorem mineS_s : ∀ cs, mineS (.cells cs 30 (0, 0)) = true := fun _ => rfl
theorem heap_last {w : World} {o : Obj} {g : Nat} (h : g = w.heap.size) : (w.alloc o).heap[g]? = some o := h ▸ heap_alloc_new w o
theorem heap_prev {w : World} {o o' : Obj} {g : Nat} (h : g = w.heap.size) : ((w.alloc o).alloc o').heap[g]? = some o := by
  subst h; rw [Below.heap_alloc _ _ _ (by simp)]; exact heap_alloc_new w o
theorem SL.lit0_at {base : Nat} {w : World} {E : TypeId} {size g : Nat} (hg : g = w.heap.size) (hb : base ≤ w.heap.size) : SL base (w.alloc (.cells #[] E)) E size (.slice (some ⟨g, 0, none⟩) 0 0) 0 [] := hg ▸ SL.lit0 hb
/-- append of a slice that lies anywhere onto an empty one without capacity: nothing that was is written. -/
theorem step_app0X {P : Program} {w : World} {base size g off m : Nat} {E : TypeId} {ops : Array Oper} {o : Oper} {a : Act} {K : Act → World → Prop} {Q : Exit → Act → World → Prop} {F : Prop} (t : TypeId) (z : Value) (bytes : Nat) (ht : P.underlying t = some (.slice E)) (hE : (P.info? E).map (fun i => (i.zero, i.size, i.bytes)) = some (some z, size, bytes)) (hzs : z.cells.size = size) (hsz : 0 < size)
    (hgd : o.guard = none) (s x : Operand) (ho : o.op = .call { callee := .builtin .append, args := #[s, x], argTypes := #[t, t] }) (hs : a.eval s = .slice (some ⟨g, off, none⟩) 0 0) (h : SL base w E size (.slice (some ⟨g, off, none⟩) 0 0) 0 []) {xa : Option Addr} {xc : Nat} {ys : List Value} (hxv : a.eval x = .slice xa m xc) (hl : ys.length = m * size)
    (hx : 0 < m → ∃ ad, xa = some ad ∧ ∀ j u, ys[j]? = some u → w.cell? (ad.add j) = some u) (h1 : ∀ u ∈ ys, u.oneCell' = true)
    (hlen : m ≤ 1000000) (hb2 : bytes ≤ 100000) (hbase : base ≤ w.heap.size)
    (hK : ∀ v' w', SL base w' E size v' m ys → Below w.heap.size w w' → K (a.put o.dst v') w') : if Region.wanted o (yielded ops a.tmps) = true then Oper.wp P o a w K Q else F := by
  have hw : Region.wanted o (yielded ops a.tmps) = true := by simp [Region.wanted, hgd]
  rw [if_pos hw]
  obtain ⟨i, hi, hz0, hz1, hz2⟩ := info_parts hE
  have hby : (0 + m) * bytes ≤ 140737488355328 := Nat.le_trans (Nat.mul_le_mul (by omega : 0 + m ≤ 1000000) hb2) (by decide)
  have main : ∃ v' w', (Builtin.append_ #[t, t] o.type #[.slice (some ⟨g, off, none⟩) 0 0, .slice xa m xc]).run P w = .ok v' w' ∧ SL base w' E size v' m ys ∧ Below w.heap.size w w' := by
    rcases Nat.eq_zero_or_pos m with hm | hm
    · subst hm
      have hy : ys = [] := List.eq_nil_of_length_eq_zero (by rw [hl]; simp)
      subst hy
      refine ⟨_, w, ?_, h, Below.refl _ _⟩
      cases xa with
      | none => simp [Builtin.append_, run_underlying ht, sizeOf, typeInfo, hi, Builtin.lenOf, Builtin.firstCells, storeCells]
      | some ad =>
        have := run_append_room_cells (P := P) w t o.type E i ht hi g off 0 0 ad 0 xc [] (by simp) (fun j u hj => by simp at hj) (by simp) (by omega) (fun j hj => by simp at hj) (fun j hj => by simp at hj)
        simpa [World.setCells] using this
    · obtain ⟨ad, rfl, hc⟩ := hx hm
      obtain ⟨v', w', hrun, r1, r2⟩ := run_append_arg_grows (P := P) w t o.type E i z size bytes ht hi hz0 hz1 hz2 hzs hsz ⟨g, off, none⟩ 0 0 [] (by simp) (fun j u hj => by simp at hj) ad m xc ys hl hc (by omega) (by unfold maxLen; omega) hby
      rw [Nat.zero_add, List.nil_append] at r1
      refine ⟨v', w', hrun, ⟨hl, ?_⟩, ⟨r2.os, r2.tape, r2.output, r2.size, fun k hk => r2.block k hk (by simp)⟩⟩
      rcases r1.2 with ⟨e, h0⟩ | ⟨gg, cap, cur, e, hb, hh, hn, hc, hs', htk⟩
      · omega
      · refine .inr ⟨gg, 0, cap, cur, e, by omega, hh, hn, hc, by rw [hs']; omega, fun j hj => ?_⟩
        rw [Nat.zero_add, ← htk, List.getElem?_take, if_pos hj]
        simp
  obtain ⟨v', w', hr, r1, r2⟩ := main
  unfold Oper.wp
  simp only [execOp, ho, resolve, invoke, builtin, Sem.run_bind, Sem.run_pure, Result.andThen_ok, List.map_toArray, List.map_cons, List.map_nil, hs, hxv, hr]
  exact hK v' w' r1 r2
/-- the cells of a row of steps. -/
def FlatX (w : World) (xs : List Value) (L : List Sp) : Prop :=
  xs.length = L.length * 5 ∧ ∀ j, j < L.length → WfS (L.getD j noSp) ∧ ∃ fa fc, xs[j * 5]? = some (.int .i64 (L.getD j noSp).op) ∧ xs[j * 5 + 1]? = some (.int .i64 (L.getD j noSp).a) ∧ xs[j * 5 + 2]? = some (.int .i64 (L.getD j noSp).b) ∧ xs[j * 5 + 3]? = some (.int .i64 (L.getD j noSp).c) ∧
    xs[j * 5 + 4]? = some (.slice fa (L.getD j noSp).fs.length fc) ∧ Row .i64 w fa (L.getD j noSp).fs
theorem FlatX.below {w w' : World} {xs : List Value} {L : List Sp} (h : FlatX w xs L) (hb : Below w.heap.size w w') : FlatX w' xs L :=
  ⟨h.1, fun j hj => by
    obtain ⟨h0, fa, fc, h1, h2, h3, h4, h5, h6⟩ := h.2 j hj
    exact ⟨h0, fa, fc, h1, h2, h3, h4, h5, h6.below hb⟩⟩
theorem FlatX.one {w : World} {xs : List Value} {L : List Sp} (h : FlatX w xs L) : ∀ u ∈ xs, u.oneCell' = true := by
  intro u hu
  obtain ⟨i, hi, rfl⟩ := List.getElem_of_mem hu
  have hl := h.1
  obtain ⟨-, fa, fc, h1, h2, h3, h4, h5, -⟩ := h.2 (i / 5) (by omega)
  have hx : xs[i]? = some xs[i] := List.getElem?_eq_getElem hi
  have : i % 5 = 0 ∨ i % 5 = 1 ∨ i % 5 = 2 ∨ i % 5 = 3 ∨ i % 5 = 4 := by omega
  rcases this with e | e | e | e | e
  · rw [show i / 5 * 5 = i by omega, hx] at h1; injection h1 with h1; rw [h1]; rfl
  · rw [show i / 5 * 5 + 1 = i by omega, hx] at h2; injection h2 with h2; rw [h2]; rfl
  · rw [show i / 5 * 5 + 2 = i by omega, hx] at h3; injection h3 with h3; rw [h3]; rfl
  · rw [show i / 5 * 5 + 3 = i by omega, hx] at h4; injection h4 with h4; rw [h4]; rfl
  · rw [show i / 5 * 5 + 4 = i by omega, hx] at h5; injection h5 with h5; rw [h5]; rfl
theorem FlatX.snoc {w : World} {xs : List Value} {L : List Sp} (h : FlatX w xs L) {x : Sp} (hx : WfS x) {fa : Option Addr} {fc : Nat} (hr : Row .i64 w fa x.fs) :
    FlatX w (xs ++ [.int .i64 x.op, .int .i64 x.a, .int .i64 x.b, .int .i64 x.c, .slice fa x.fs.length fc]) (L ++ [x]) := by
  have hl := h.1
  refine ⟨by rw [List.length_append, List.length_append, hl]; simp; omega, fun j hj => ?_⟩
  rw [List.length_append] at hj
  simp at hj
  by_cases hjl : j < L.length
  · obtain ⟨h0, fa, fc, h1, h2, h3, h4, h5, h6⟩ := h.2 j hjl
    have e : (L ++ [x]).getD j noSp = L.getD j noSp := by rw [List.getD_eq_getElem?_getD, List.getD_eq_getElem?_getD, List.getElem?_append_left hjl]
    rw [e]
    refine ⟨h0, fa, fc, ?_, ?_, ?_, ?_, ?_, h6⟩
    all_goals (rw [List.getElem?_append_left (by omega)]; assumption)
  · obtain rfl : j = L.length := by omega
    have e : (L ++ [x]).getD L.length noSp = x := by simp [List.getD_eq_getElem?_getD]
    rw [e]
    refine ⟨hx, fa, fc, ?_, ?_, ?_, ?_, ?_, hr⟩
    all_goals rw [List.getElem?_append_right (by omega), hl]
    all_goals simp
theorem add_at (ad : Addr) (n j : Nat) (hj : 0 < j) : ad.add (n + j) = ⟨(ad.add n).block, (ad.add n).off + j, none⟩ := by
  unfold Addr.add
  by_cases h : n = 0
  · subst h; simp; omega
  · simp [h, Nat.add_assoc]
theorem RowX.flat {w : World} {a : Option Addr} {L : List Sp} (h : RowX w a L) : ∃ xs, FlatX w xs L ∧ (0 < L.length → ∃ ad, a = some ad ∧ ∀ j u, xs[j]? = some u → w.cell? (ad.add j) = some u) := by
  rcases Nat.eq_zero_or_pos L.length with h0 | h0
  · exact ⟨[], ⟨by simp [h0], fun j hj => by omega⟩, fun hp => by omega⟩
  · obtain ⟨ad, e, hc⟩ := h.2 h0
    have key : ∀ j, j < L.length → ∀ i, i < 5 → ∃ v, w.cell? (ad.add (j * 5 + i)) = some v := by
      intro j hj i hi
      obtain ⟨-, fa, fc, h1, h2, h3, h4, h5, -⟩ := hc j hj
      have : i = 0 ∨ i = 1 ∨ i = 2 ∨ i = 3 ∨ i = 4 := by omega
      rcases this with rfl | rfl | rfl | rfl | rfl
      · exact ⟨_, h1⟩
      · rw [add_at _ _ _ (by decide)]; exact ⟨_, h2⟩
      · rw [add_at _ _ _ (by decide)]; exact ⟨_, h3⟩
      · rw [add_at _ _ _ (by decide)]; exact ⟨_, h4⟩
      · rw [add_at _ _ _ (by decide)]; exact ⟨_, h5⟩
    have get : ∀ i, i < L.length * 5 → ((List.range (L.length * 5)).map fun i => (w.cell? (ad.add i)).getD undef)[i]? = w.cell? (ad.add i) := by
      intro i hi
      obtain ⟨v, hv⟩ := key (i / 5) (by omega) (i % 5) (by omega)
      rw [show i / 5 * 5 + i % 5 = i by omega] at hv
      simp [hi, hv]
    refine ⟨(List.range (L.length * 5)).map fun i => (w.cell? (ad.add i)).getD undef, ⟨by simp, fun j hj => ?_⟩, fun _ => ⟨ad, e, fun j u hj => ?_⟩⟩
    · obtain ⟨k0, fa, fc, h1, h2, h3, h4, h5, h6⟩ := hc j hj
      refine ⟨k0, fa, fc, ?_, ?_, ?_, ?_, ?_, h6⟩
      · rw [get _ (by omega)]; exact h1
      · rw [get _ (by omega), add_at _ _ _ (by decide)]; exact h2
      · rw [get _ (by omega), add_at _ _ _ (by decide)]; exact h3
      · rw [get _ (by omega), add_at _ _ _ (by decide)]; exact h4
      · rw [get _ (by omega), add_at _ _ _ (by decide)]; exact h5
    · have hjl : j < L.length * 5 := by have := (List.getElem?_eq_some_iff.1 hj).1; simpa using this
      rw [← hj, get j hjl]
theorem rowX_of_SL {w : World} {base c : Nat} {a : Option Addr} {xs : List Value} {L : List Sp} (h : SL base w 30 5 (.slice a L.length c) L.length xs) (hf : FlatX w xs L) : RowX w a L := by
  refine ⟨?_, fun hp => ?_⟩
  · obtain ⟨_, c', e, hc, hm⟩ := h.form
    unfold maxLen; omega
  · obtain ⟨g, off, cap, cs, e, hb, hblk, hn, hm, hc⟩ := h.at_ hp
    simp only [Value.slice.injEq] at e
    obtain ⟨rfl, -, rfl⟩ := e
    refine ⟨_, rfl, fun j hj => ?_⟩
    obtain ⟨h0, fa, fc, h1, h2, h3, h4, h5, h6⟩ := hf.2 j hj
    refine ⟨h0, fa, fc, ?_, ?_, ?_, ?_, ?_, h6⟩
    · rw [Addr.add_lit, hblk.cell, hc _ (by omega), h1]
    · rw [Addr.add_lit]; show w.cell? ⟨g, off + j * 5 + 1, none⟩ = _; rw [Nat.add_assoc, hblk.cell, hc _ (by omega), h2]
    · rw [Addr.add_lit]; show w.cell? ⟨g, off + j * 5 + 2, none⟩ = _; rw [Nat.add_assoc, hblk.cell, hc _ (by omega), h3]
    · rw [Addr.add_lit]; show w.cell? ⟨g, off + j * 5 + 3, none⟩ = _; rw [Nat.add_assoc, hblk.cell, hc _ (by omega), h4]
    · rw [Addr.add_lit]; show w.cell? ⟨g, off + j * 5 + 4, none⟩ = _; rw [Nat.add_assoc, hblk.cell, hc _ (by omega), h5]
theorem bsum_pre (lv : Int) (L M : List Sp) : ∀ k, k ≤ L.length → bsum lv (L ++ M) k = bsum lv L k := by
  intro k
  induction k with
  | zero => intro _; rfl
  | succ k ih =>
    intro hk
    unfold bsum
    rw [ih (by omega)]
    congr 2
    rw [List.getD_eq_getElem?_getD, List.getD_eq_getElem?_getD, List.getElem?_append_left (by omega)]
theorem boundS_more {bl sl lg wi bu ru : Int} (L : List Sp) {x : Sp} (hx : WfS x) : boundS bl sl lg wi bu ru L ≤ boundS bl sl lg wi bu ru (L ++ [x]) := by
  unfold boundS
  split
  · rename_i h
    have hb : (1 ≤ bl ∧ bl ≤ 512) ∧ (1 ≤ sl ∧ sl ≤ 192) ∧ (1 ≤ lg ∧ lg ≤ 256) := by
      unfold mayS inS at h
      simp only [Bool.and_eq_true, decide_eq_true_eq] at h
      omega
    have hp : 1 ≤ upS sl 3 ∧ upS sl 3 ≤ 64 := by unfold upS; rw [if_neg (by omega)]; omega
    rw [show (L ++ [x]).length = L.length + 1 by simp]
    show _ ≤ satAdd (bsum (upS sl 3) (L ++ [x]) L.length) (oneS (upS sl 3) ((L ++ [x]).getD L.length noSp))
    rw [bsum_pre _ _ _ _ (Nat.le_refl _), show (L ++ [x]).getD L.length noSp = x by simp [List.getD_eq_getElem?_getD]]
    have h1 := oneS_bd (leaves := upS sl 3) hx (by omega) (by omega)
    have h2 := bsum_bd (upS sl 3) L L.length
    unfold I64 at h2
    unfold satAdd sat
    repeat' split
    all_goals omega
  · exact Int.le_refl _
end Go.Proofs.Ytdmlpggommephaa.Ct
