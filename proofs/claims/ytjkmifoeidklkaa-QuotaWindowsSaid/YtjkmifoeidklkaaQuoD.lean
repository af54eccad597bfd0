import Derived.Test.YtjkmifoeidklkaaQuoC
/-! The reference's budget; New; budgets that nobody made. -/
namespace Go.Proofs.Ytjkmifoeidklkaa.Ct
open Go.RowKit
set_option linter.unusedVariables false
set_option linter.unusedSimpArgs false
set_option maxHeartbeats 1000000 in
theorem new_ok (W m : Int) (w : World) (h1 : 1 ≤ W) (h2 : W ≤ 4096) (h3 : 0 ≤ m) (h4 : m ≤ 1048576) :
    Calls Try.prog 7 #[.int .i64 W, .int .i64 m] w fun e w' => e = .returned (.tuple #[.pointer (some ⟨w.heap.size, 0, none⟩), .int .i64 0]) ∧ w.alloc (.cells #[.int .i64 W, .int .i64 m, .int .i64 0, .int .i64 0, .slice none 0 0] 42) = w' := by
  go_enter Try.func7, Try.ntmps7
  go_wp2
  go_ret2
  exact ⟨rfl, rfl⟩
set_option maxHeartbeats 1000000 in
theorem new_no (W m : Int) (w : World) (h : ¬ (1 ≤ W ∧ W ≤ 4096 ∧ 0 ≤ m ∧ m ≤ 1048576)) :
    Calls Try.prog 7 #[.int .i64 W, .int .i64 m] w fun e w' => e = .returned (.tuple #[.pointer none, .int .i64 1]) ∧ w = w' := by
  rcases (show W < 1 ∨ (1 ≤ W ∧ 4096 < W) ∨ (1 ≤ W ∧ W ≤ 4096 ∧ m < 0) ∨ (1 ≤ W ∧ W ≤ 4096 ∧ 0 ≤ m ∧ 1048576 < m) by omega) with k | ⟨k, k2⟩ | ⟨k, k2, k3⟩ | ⟨k, k2, k3, k4⟩
  all_goals (
    clear h
    go_enter Try.func7, Try.ntmps7
    go_wp2
    go_ret2
    exact ⟨rfl, rfl⟩)
theorem pb_new {w : World} {W m : Int} : PB w.heap.size (w.alloc (.cells #[.int .i64 W, .int .i64 m, .int .i64 0, .int .i64 0, .slice none 0 0] 42)) w.heap.size W m 0 0 [] := ⟨Nat.le_refl _, _, Blk.new _ _ _, SL.nil _ _ _ _⟩
/-! ### the reference's -/
def RB (base : Nat) (w : World) (r : Nat) (W m now : Int) (L : List (Int × Int)) : Prop :=
  base ≤ r ∧ ∃ sv, Blk w r 30 #[.int .i64 W, .int .i64 m, .int .i64 now, sv] ∧ SL base w 39 2 sv L.length (flat L)
theorem RB.fr {base : Nat} {w w' : World} {r : Nat} {W m now : Int} {L : List (Int × Int)} {b0 : Nat} (h : RB base w r W m now L) (hf : Fr b0 mineP w w') : RB base w' r W m now L := by
  obtain ⟨h0, sv, h1, h2⟩ := h
  exact ⟨h0, sv, h1.fr hf rfl, h2.fr hf (fun _ => rfl)⟩
theorem PB.frR {base : Nat} {w w' : World} {b : Nat} {W m now used : Int} {L : List (Int × Int)} {b0 : Nat} (h : PB base w b W m now used L) (hf : Fr b0 mineR w w') : PB base w' b W m now used L := by
  obtain ⟨h0, sv, h1, h2⟩ := h
  exact ⟨h0, sv, h1.fr hf rfl, h2.fr hf (fun _ => rfl)⟩
def ru (W now : Int) : List (Int × Int) → Int := fun L => L.foldl (fun s p => if now - p.2 < W then s + p.1 else s) 0
theorem ru_snoc (W now : Int) (L : List (Int × Int)) (p : Int × Int) : ru W now (L ++ [p]) = if now - p.2 < W then ru W now L + p.1 else ru W now L := by unfold ru; rw [List.foldl_append]; rfl
theorem ru_take {W now : Int} {L : List (Int × Int)} {k : Nat} (h : k < L.length) : ru W now (L.take (k + 1)) = if now - (L.getD k (0, 0)).2 < W then ru W now (L.take k) + (L.getD k (0, 0)).1 else ru W now (L.take k) := by
  rw [List.take_succ_eq_append_getElem h, ru_snoc, List.getD_eq_getElem?_getD, List.getElem?_eq_getElem h]; rfl
structure RInv (W m now : Int) (L : List (Int × Int)) : Prop where
  w1 : 1 ≤ W
  w2 : W ≤ 4096
  m0 : 0 ≤ m
  m1 : m ≤ 1048576
  n0 : 0 ≤ now
  n1 : now ≤ 9223372036854775807
  all : ∀ p ∈ L, 0 ≤ p.1 ∧ p.1 ≤ 1048576 ∧ 0 ≤ p.2 ∧ p.2 ≤ now
theorem ru_bd {W m now : Int} {L : List (Int × Int)} (h : RInv W m now L) (k : Nat) (hk : k ≤ L.length) : 0 ≤ ru W now (L.take k) ∧ ru W now (L.take k) ≤ k * 1048576 := by
  induction k with
  | zero => simp [ru]
  | succ k ih =>
    have := ih (by omega)
    rw [ru_take (by omega)]
    have hp := h.all _ (getD_mem2 (show k < L.length by omega))
    split <;> omega
set_option maxHeartbeats 4000000 in
theorem rused_calls (base r : Nat) (W m now : Int) (L : List (Int × Int)) (w : World) (h : RB base w r W m now L) (hi : RInv W m now L) (hL : L.length ≤ 1000) :
    Calls Try.prog 13 #[.pointer (some ⟨r, 0, none⟩)] w fun e w' => e = .returned (.int .i64 (ru W now L)) ∧ ∃ n, w.drewN n = w' := by
  obtain ⟨hb0, sv, hbk, hsl⟩ := h
  have c0 := hbk.cell 0
  have c2 := hbk.cell 2
  have c3 : w.cell? ⟨r, 3, none⟩ = some sv := hbk.cell 3
  obtain ⟨a, cap, hsv, hcap, hcm⟩ := hsl.form
  have HSL := Lib.hid hsl
  have HBD := Lib.hid (fun k hk => ru_bd hi k hk)
  have HALL := Lib.hid hi.all
  obtain ⟨i1, i2, i0, i3, i4, i5, -⟩ := hi
  subst hsv
  clear hsl hbk
  go_enter Try.func13, Try.ntmps13
  go_wp2
  go_loopw [3, 4] (fun s i wr => ∃ (k q : Nat), k ≤ L.length ∧ i = .int .i64 (k : Int) ∧ s = .int .i64 (ru W now (L.take k)) ∧ wr = w.drewN q) (fun _ i _ => L.length - (intOf i).toNat)
  case atStart => exact ⟨0, 0, by omega, rfl, by simp [ru], rfl⟩
  case round =>
    obtain ⟨k, q, hk, rfl, rfl, rfl⟩ := hrel
    by_cases hlt : k < L.length
    · obtain ⟨g, off, cap', cs, hsv, -, hgk, -, -, hcell⟩ := HSL.out.at_ (by omega)
      simp only [Value.slice.injEq] at hsv
      obtain ⟨rfl, -, rfl⟩ := hsv
      have e0 : w.cell? ⟨g, off + k * 2, none⟩ = some (.int .i64 (L.getD k (0, 0)).1) := (hgk.cell _).trans ((hcell (k * 2) (by omega)).trans (flat_get L k hlt).1)
      have e1 : w.cell? ⟨g, off + k * 2 + 1, none⟩ = some (.int .i64 (L.getD k (0, 0)).2) := (hgk.cell _).trans ((hcell (k * 2 + 1) (by omega)).trans (flat_get L k hlt).2)
      have hp := HALL.out _ (getD_mem2 hlt)
      have HT := Lib.hid (ru_take (W := W) (now := now) hlt)
      have hbd := HBD.out k hk
      clear hgk hcell
      obtain ⟨hz0, hz1, hy0, hy1⟩ := hp
      generalize (L.getD k (0, 0)).1 = z at *
      generalize (L.getD k (0, 0)).2 = y at *
      generalize ru W now (L.take k) = s at *
      obtain ⟨hs0, hs1⟩ := hbd
      have hkl : (k : Int) < L.length := by omega
      have hwr : IntKind.i64.wrap (now - y) = now - y := i64_wrap (by unfold I64; omega)
      have hk10 : (k : Int) ≤ 1000 := by omega
      by_cases hst : now - y < W
      · have HT2 : Hid (ru W now (L.take (k + 1)) = s + z) := Lib.hid (by rw [HT.out, if_pos hst])
        clear HT
        go_wp2
        go_quiet (fail)
        go_wp2
        exact ⟨⟨k + 1, _, by omega, by go_num, by rw [HT2.out], rfl⟩, by simp [intOf]; omega⟩
      · have HT2 : Hid (ru W now (L.take (k + 1)) = s) := Lib.hid (by rw [HT.out, if_neg hst])
        clear HT
        go_wp2
        go_quiet (fail)
        go_wp2
        exact ⟨⟨k + 1, _, by omega, by go_num, by rw [HT2.out], rfl⟩, by simp [intOf]; omega⟩
    · obtain rfl : k = L.length := by omega
      have E := Lib.hid (List.take_length (l := L))
      go_wp2
      go_ret
      exact ⟨ret_int (by rw [E.out]), _, rfl⟩
def mineT : Obj → Bool | .cells _ t _ => t == 39 | _ => false
theorem mineT_s (cs : Array Value) : mineT (.cells cs 39 (0, 0)) = true := rfl
theorem mineT_b (cs : Array Value) : mineT (.cells cs 30 (0, 0)) = false := rfl
theorem mineTR (o : Obj) (h : mineT o = true) : mineR o = true := by
  cases o <;> simp_all [mineT, mineR]
theorem mineR_b (cs : Array Value) : mineR (.cells cs 30 (0, 0)) = true := rfl
theorem infoR : (Try.prog.info? 39).map (fun i => (i.zero, i.size, i.bytes)) = some (some (.agg #[.int .i64 0, .int .i64 0]), 2, 16) := by kernel_rfl
set_option maxHeartbeats 4000000 in
theorem rspend_no (base r : Nat) (W m now n : Int) (L : List (Int × Int)) (w : World) (h : RB base w r W m now L) (hi : RInv W m now L) (hL : L.length ≤ 1000) (hn : I64 n) (hc : n < 0 ∨ m - ru W now L < n) :
    Calls Try.prog 9 #[.pointer (some ⟨r, 0, none⟩), .int .i64 n] w fun e w' => e = .returned (.bool false) ∧ ∃ k, w.drewN k = w' := by
  obtain ⟨n0, n1⟩ := hn
  have hu := ru_bd hi L.length (Nat.le_refl _)
  rw [List.take_length] at hu
  have UC := Lib.hid (fun k => rused_calls base r W m now L (w.drewN k) h hi hL)
  obtain ⟨hb0, sv, hbk, hsl⟩ := h
  have c1 := hbk.cell 1
  have hm1 := hi.m1
  have hm0 := hi.m0
  clear hsl hbk hi
  generalize ru W now L = u at *
  obtain ⟨hu0, hu1⟩ := hu
  rcases (show n < 0 ∨ (0 ≤ n ∧ m - u < n) by omega) with k1 | ⟨k1, k2⟩
  · have hd : decide (n < 0) = true := decide_eq_true k1
    clear hc
    go_enter Try.func9, Try.ntmps9
    go_wp2
    go_quiet (fail)
    go_wp2
    go_ret
    exact ⟨rfl, _, rfl⟩
  · have hd : decide (n < 0) = false := decide_eq_false (by omega)
    have hwr : IntKind.i64.wrap (m - u) = m - u := i64_wrap (by unfold I64; omega)
    have hd2 : decide (m - u < n) = true := decide_eq_true k2
    clear hc
    go_enter Try.func9, Try.ntmps9
    go_wp2
    go_quiet ((go_at_call 13; with_reducible exact Calls.quiet_of ((UC.out _).mono fun e w' ⟨h1, m, h2⟩ => ⟨h1, m, h2.symm⟩)))
    go_wp2
    go_ret
    exact ⟨rfl, _, rfl⟩
theorem heap_last {w : World} {o : Obj} {g : Nat} (h : g = w.heap.size) : (w.alloc o).heap[g]? = some o := h ▸ heap_alloc_new w o
theorem heap_prev {w : World} {o o' : Obj} {g : Nat} (h : g = w.heap.size) : ((w.alloc o).alloc o').heap[g]? = some o := by
  subst h; rw [Below.heap_alloc _ _ _ (by simp)]; exact heap_alloc_new w o
theorem SL.lit0_at {base : Nat} {w : World} {E : TypeId} {size g : Nat} (hg : g = w.heap.size) (hb : base ≤ w.heap.size) : SL base (w.alloc (.cells #[] E)) E size (.slice (some ⟨g, 0, none⟩) 0 0) 0 [] := hg ▸ SL.lit0 hb
/-- append onto an empty one without capacity: nothing that was is written. -/
theorem step_app0 {P : Program} {w : World} {base size g off m : Nat} {E : TypeId} {ops : Array Oper} {o : Oper} {a : Act} {K : Act → World → Prop} {Q : Exit → Act → World → Prop} {F : Prop} (t : TypeId) (z : Value) (bytes : Nat) (ht : P.underlying t = some (.slice E)) (hE : (P.info? E).map (fun i => (i.zero, i.size, i.bytes)) = some (some z, size, bytes)) (hzs : z.cells.size = size) (hsz : 0 < size)
    (hgd : o.guard = none) (s x : Operand) (ho : o.op = .call { callee := .builtin .append, args := #[s, x], argTypes := #[t, t] }) (hs : a.eval s = .slice (some ⟨g, off, none⟩) 0 0) (h : SL base w E size (.slice (some ⟨g, off, none⟩) 0 0) 0 []) {base2 : Nat} {E2 : TypeId} {xv : Value} {ys : List Value} (hxv : a.eval x = xv) (hx : SL base2 w E2 size xv m ys) (h1 : ∀ u ∈ ys, u.oneCell' = true)
    (hlen : m ≤ 1000000) (hb2 : bytes ≤ 100000) (hbase : base ≤ w.heap.size)
    (hK : ∀ v' w', SL base w' E size v' m ys → Below w.heap.size w w' → K (a.put o.dst v') w') : if Region.wanted o (yielded ops a.tmps) = true then Oper.wp P o a w K Q else F := by
  have hw : Region.wanted o (yielded ops a.tmps) = true := by simp [Region.wanted, hgd]
  rw [if_pos hw]
  obtain ⟨i, hi, hz0, hz1, hz2⟩ := info_parts hE
  have hby : (0 + m) * bytes ≤ 140737488355328 := Nat.le_trans (Nat.mul_le_mul (by omega : 0 + m ≤ 1000000) hb2) (by decide)
  have main : ∃ v' w', (Builtin.append_ #[t, t] o.type #[.slice (some ⟨g, off, none⟩) 0 0, xv]).run P w = .ok v' w' ∧ SL base w' E size v' m ys ∧ Below w.heap.size w w' := by
    rcases Nat.eq_zero_or_pos m with hm | hm
    · subst hm
      have hy : ys = [] := List.eq_nil_of_length_eq_zero (by rw [hx.1]; simp)
      subst hy
      refine ⟨_, w, ?_, h, Below.refl _ _⟩
      rcases hx.2 with ⟨rfl, _⟩ | ⟨g', off', cap', cs', rfl, hb, hbl, h3, h4, h5, h6⟩
      · simp [Builtin.append_, run_underlying ht, sizeOf, typeInfo, hi, Builtin.lenOf, Builtin.firstCells, storeCells]
      · have := run_append_room_cells (P := P) w t o.type E i ht hi g off 0 0 ⟨g', off', none⟩ 0 cap' [] (by simp) (fun j u hj => by simp at hj) (by simp) (by omega) (fun j hj => by simp at hj) (fun j hj => by simp at hj)
        simpa [World.setCells] using this
    · rcases hx.2 with ⟨_, h0⟩ | ⟨g', off', cap', cs', rfl, hb, hbl, h3, h4, h5, h6⟩
      · omega
      · obtain ⟨v', w', hrun, r1, r2⟩ := run_append_arg_grows (P := P) w t o.type E i z size bytes ht hi hz0 hz1 hz2 hzs hsz ⟨g, off, none⟩ 0 0 [] (by simp) (fun j u hj => by simp at hj) ⟨g', off', none⟩ m cap' ys hx.1 (fun j u hj => by
          have hjl : j < m * size := by have := (List.getElem?_eq_some_iff.1 hj).1; rw [hx.1] at this; exact this
          rw [Addr.add_lit, hbl.cell, h6 j hjl]; exact hj) (by omega) (by unfold maxLen; omega) hby
        rw [Nat.zero_add, List.nil_append] at r1
        refine ⟨v', w', hrun, ⟨hx.1, ?_⟩, ⟨r2.os, r2.tape, r2.output, r2.size, fun k hk => r2.block k hk (by simp)⟩⟩
        rcases r1.2 with ⟨e, h0⟩ | ⟨gg, cap, cur, e, hb, hh, hn, hc, hs', htk⟩
        · omega
        · refine .inr ⟨gg, 0, cap, cur, e, by omega, hh, hn, hc, by rw [hs']; omega, fun j hj => ?_⟩
          rw [Nat.zero_add, ← htk, List.getElem?_take, if_pos hj]
          simp
  obtain ⟨v', w', hr, r1, r2⟩ := main
  unfold Oper.wp
  simp only [execOp, ho, resolve, invoke, builtin, Sem.run_bind, Sem.run_pure, Result.andThen_ok, List.map_toArray, List.map_cons, List.map_nil, hs, hxv, hr]
  exact hK v' w' r1 r2
set_option maxHeartbeats 8000000 in
theorem rspend_yes (base r : Nat) (W m now n : Int) (L : List (Int × Int)) (w : World) (h : RB base w r W m now L) (hi : RInv W m now L) (hL : L.length ≤ 900) (h0 : 0 ≤ n) (h1 : n ≤ m - ru W now L) (hb : base ≤ w.heap.size) :
    Calls Try.prog 9 #[.pointer (some ⟨r, 0, none⟩), .int .i64 n] w fun e w' => e = .returned (.bool true) ∧ RB base w' r W m now (L ++ [(n, now)]) ∧ Fr base mineR w w' := by
  have hu := ru_bd hi L.length (Nat.le_refl _)
  rw [List.take_length] at hu
  have UC := Lib.hid (fun k => rused_calls base r W m now L (w.drewN k) h hi (by omega))
  obtain ⟨hb0, sv, hbk, hsl⟩ := h
  have c1 := hbk.cell 1
  have hm1 := hi.m1
  have hm0 := hi.m0
  have HBK := Lib.hid hbk; have HSL := Lib.hid hsl
  have HBS := Lib.hid hb
  obtain ⟨a, cap, hsv, hcap, hcm⟩ := hsl.form
  subst hsv
  clear hsl hbk hi
  generalize ru W now L = u at *
  obtain ⟨hu0, hu1⟩ := hu
  have hd : decide (n < 0) = false := decide_eq_false (by omega)
  have hwr : IntKind.i64.wrap (m - u) = m - u := i64_wrap (by unfold I64; omega)
  have hd2 : decide (m - u < n) = false := decide_eq_false (by omega)
  go_enter Try.func9, Try.ntmps9
  go_wp2
  go_quiet ((go_at_call 13; with_reducible exact Calls.quiet_of ((UC.out _).mono fun e w' ⟨h1, m, h2⟩ => ⟨h1, m, h2.symm⟩)))
  go_wp2
  have HB0 : Hid (Blk (w.drewN nq) r 30 #[.int .i64 W, .int .i64 m, .int .i64 now, .slice a L.length cap]) := Lib.hid (HBK.out.drewN nq)
  have HS0 : Hid (SL base (w.drewN nq) 39 2 (.slice a L.length cap) L.length (flat L)) := Lib.hid (HSL.out.drewN nq)
  have HF0 : Hid (Fr base mineR w (w.drewN nq)) := Lib.hid ((Fr.refl _ _ _).drewN _)
  have HBS : Hid (base ≤ (w.drewN nq).heap.size) := Lib.hid hb
  clear HBK HSL UC c1
  generalize w.drewN nq = w1 at *
  have d2 : w1.cell? ⟨r, 2, none⟩ = some (.int .i64 now) := HB0.out.cell 2
  have d3 : w1.cell? ⟨r, 3, none⟩ = some (.slice a L.length cap) := HB0.out.cell 3
  have f3 := HB0.out.frozen 3
  have al2 := fun (o : Obj) => show (w1.alloc o).cell? ⟨r, 2, none⟩ = some (.int .i64 now) from (HB0.out.alloc o).cell 2
  have al3 := fun (o : Obj) => show (w1.alloc o).cell? ⟨r, 3, none⟩ = some (.slice a L.length cap) from (HB0.out.alloc o).cell 3
  have al22 := fun (o o' : Obj) => show ((w1.alloc o).alloc o').cell? ⟨r, 2, none⟩ = some (.int .i64 now) from ((HB0.out.alloc o).alloc o').cell 2
  have al32 := fun (o o' : Obj) => show ((w1.alloc o).alloc o').cell? ⟨r, 3, none⟩ = some (.slice a L.length cap) from ((HB0.out.alloc o).alloc o').cell 3
  go_region_law ((first
    | (refine step_app0 (base := base) 28 (.agg #[.int .i64 0, .int .i64 0]) 16 Try.underlying28 infoR rfl (by decide) rfl (.tmp 19) (.tmp 23) (by rfl) (by rfl) (by first | exact SL.lit0_at (by simp) (by have := HBS.out; simp; omega) | exact SL.alloc (SL.lit0_at (by simp) (by have := HBS.out; simp; omega)) _) (by rfl) (by repeat (first | with_reducible apply SL.alloc | with_reducible apply SL.drewN | with_reducible apply SL.drew | exact HS0.out)) (flat_one _) (by omega) (by decide) (by have := HBS.out; simp; omega) ?_; intro v3 w3 hs3 hb3; obtain ⟨a3, cap3, hv3, -, -⟩ := hs3.form; subst hv3; have HS3 := Lib.hid hs3; have HW3 := Lib.hid hb3; have HB3 := Lib.hid (Blk.below (cs := #[.int .i64 W, .int .i64 m, .int .i64 now, .slice a L.length cap]) (by repeat (first | with_reducible apply Blk.alloc | with_reducible apply Blk.drewN | with_reducible apply Blk.drew | exact HB0.out)) hb3); have HF3 := Lib.hid (Fr.trans (by repeat (first | with_reducible apply Fr.alloc | with_reducible apply Fr.drewN | with_reducible apply Fr.drew | exact HF0.out)) (Fr.of_below hb3)); have HZ3 := Lib.hid (Nat.le_trans (show base ≤ w1.heap.size from HBS.out) (Nat.le_trans (by simp <;> omega) hb3.size)); have f33 := HB3.out.frozen 3; have d33 : w3.cell? ⟨r, 3, none⟩ = some (.slice a L.length cap) := HB3.out.cell 3; have d23 : w3.cell? ⟨r, 2, none⟩ = some (.int .i64 now) := HB3.out.cell 2; have al23 := fun (o : Obj) => show (w3.alloc o).cell? ⟨r, 2, none⟩ = some (.int .i64 now) from (HB3.out.alloc o).cell 2; clear hs3 hb3)
    | (refine step_appSL (mine := mineT) (base := base) 28 (.agg #[.int .i64 0, .int .i64 0]) 16 Try.underlying28 infoR rfl (by decide) mineT_s rfl (.tmp 24) (.tmp 31) (by rfl) (by rfl) (by repeat (first | with_reducible apply SL.alloc | with_reducible apply SL.drewN | with_reducible apply SL.drew | exact HS3.out)) _ 1 (by rfl) #[.int .i64 n, .int .i64 now] (by rfl) (by first | exact ⟨_, _, heap_last (by simp)⟩ | exact ⟨_, _, (HW3.out.block _ (by simp <;> omega)).trans (heap_last (by simp))⟩ | exact ⟨_, _, (HW3.out.block _ (by simp <;> omega)).trans (heap_prev (by simp))⟩) (by simp [Value.oneCell']) (by omega) (by decide) (by have := HZ3.out; simp; omega) ?_; intro v4 w4 hs4 hf4; obtain ⟨a4, cap4, hv4, -, -⟩ := hs4.form; subst hv4; have HS4 := Lib.hid hs4; have HB4 := Lib.hid (Blk.fr (cs := #[.int .i64 W, .int .i64 m, .int .i64 now, .slice a L.length cap]) (by repeat (first | with_reducible apply Blk.alloc | with_reducible apply Blk.drewN | with_reducible apply Blk.drew | exact HB3.out)) hf4 (mineT_b _)); have HF4 := Lib.hid (Fr.trans (by repeat (first | with_reducible apply Fr.alloc | with_reducible apply Fr.drewN | with_reducible apply Fr.drew | exact HF3.out)) (hf4.mono mineTR)); have f34 := HB4.out.frozen 3; have d34 : w4.cell? ⟨r, 3, none⟩ = some (.slice a L.length cap) := HB4.out.cell 3; clear hs4 hf4)))
  all_goals go_wp2
  all_goals go_ret
  all_goals exact ⟨rfl, ⟨hb0, _, HB4.out.set_ 3 _, by rw [flat_append, List.length_append]; exact HS4.out.far HB4.out (by decide) 3 _⟩, HF4.out.set_ HB4.out (mineR_b _) hb0 3 _⟩
end Go.Proofs.Ytjkmifoeidklkaa.Ct
