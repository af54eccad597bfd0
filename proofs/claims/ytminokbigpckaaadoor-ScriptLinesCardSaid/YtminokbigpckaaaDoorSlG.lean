import Derived.Test.YtminokbigpckaaaDoorSlF
/-! The reference's Words, Line. -/
namespace Go.Proofs.YtminokbigpckaaaDoor.Ct
open Go.RowKit
set_option linter.unusedVariables false
set_option linter.unusedSimpArgs false
def wsA : Array Value := #[.string ⟨#[]⟩, .string ⟨#[114, 101, 97, 100]⟩, .string ⟨#[119, 114, 105, 116, 101]⟩, .string ⟨#[116, 114, 105, 109]⟩, .string ⟨#[102, 108, 117, 115, 104]⟩, .string ⟨#[116, 105, 99, 107]⟩, .string ⟨#[100, 114, 111, 112]⟩, .string ⟨#[115, 110, 97, 112]⟩, .string ⟨#[114, 101, 115, 105, 122, 101]⟩, .string ⟨#[100, 114, 97, 105, 110]⟩, .string ⟨#[115, 104, 117, 116]⟩, .string ⟨#[102, 97, 105, 108]⟩, .string ⟨#[114, 111, 116]⟩, .string ⟨#[102, 117, 115, 101]⟩, .string ⟨#[99, 114, 97, 115, 104]⟩]
theorem wsA_get {k : Nat} (h : k ≤ 14) : wsA[k]? = some (.string (wordS k)) := by
  have : k = 0 ∨ k = 1 ∨ k = 2 ∨ k = 3 ∨ k = 4 ∨ k = 5 ∨ k = 6 ∨ k = 7 ∨ k = 8 ∨ k = 9 ∨ k = 10 ∨ k = 11 ∨ k = 12 ∨ k = 13 ∨ k = 14 := by omega
  rcases this with rfl | rfl | rfl | rfl | rfl | rfl | rfl | rfl | rfl | rfl | rfl | rfl | rfl | rfl | rfl <;> rfl
set_option maxHeartbeats 2000000 in
theorem wds_calls (w : World) : Calls Tryd.prog 10 #[] w fun e w' => e = .returned (.slice (some ⟨w.heap.size, 0, none⟩) 15 15) ∧ Blk w' w.heap.size 9 wsA ∧ Below w.heap.size w w' := by
  have K := Lib.hid (Blk.new w 9 wsA)
  have B := Lib.hid (below_alloc (Below.refl w.heap.size w) (.cells wsA 9))
  unfold wsA at *
  go_enter Tryd.func10, Tryd.ntmps10
  go_wp2
  go_ret
  exact ⟨rfl, K.out, B.out⟩
theorem ent_wds : ∀ args w, (callFunc 10 args).run Tryd.prog w = .ok (.enter 10 args) w := fun _ _ => by kernel_rfl
section
variable {P : Program} {ops : Array Oper} {Q : Exit → Act → World → Prop} {n : Nat} {ds : List Deferred} {o : Oper} {s : Nat → Value} {w w' : World} {J : Value → World → Prop}
theorem append_none {base E k : Nat} {sv : Value} {zs : List Value} (t ty : TypeId) (ht : P.underlying t = some (.slice E)) (i : TypeInfo) (hi : P.info? E = some i) (c : Nat) (h : SL base w E 1 sv k zs) :
    (Builtin.append_ #[t, t] ty #[sv, .slice none 0 c]).run P w = .ok sv w := by
  rcases h.2 with ⟨rfl, rfl⟩ | ⟨g, off, cap, cs, rfl, _, _, hnc, _⟩
  · simp [Builtin.append_, run_underlying ht, sizeOf, typeInfo, hi, Builtin.lenOf, Builtin.firstCells]
  · simp [Builtin.append_, run_underlying ht, sizeOf, typeInfo, hi, Builtin.lenOf, Builtin.firstCells, hnc, storeCells]
theorem stp_appRow {mine : Obj → Bool} {base E k c : Nat} {sv : Value} {zs : List Value} {fa : Option Addr} {xs : List Int} (t : TypeId) (ht : P.underlying t = some (.slice E)) (hE : (P.info? E).map (fun i => (i.zero, i.size, i.bytes)) = some (some (.int .i64 0), 1, 8)) (hm : ∀ cs, mine (.cells cs E (0, 0)) = true)
    (hgd : o.guard = none) (x y : Operand) (ho : o.op = .call { callee := .builtin .append, args := #[x, y], argTypes := #[t, t] }) (hs : evS s x = sv) (h : SL base w E 1 sv k zs) (hx : evS s y = .slice fa xs.length c) (hr : Row .i64 w fa xs)
    (hlen : k + xs.length ≤ 1000000) (hbase : base ≤ w.heap.size)
    (hK : ∀ v' w', SL base w' E 1 v' (k + xs.length) (zs ++ xs.map (Value.int .i64)) → Fr base mine w w' → J v' w') : Stp P ops Q n ds o s w J := by
  rintro a rfl - -
  have hw : Region.wanted o (yielded ops a.tmps) = true := by simp [Region.wanted, hgd]
  rw [if_pos hw]
  obtain ⟨i, hi, hz0, hz1, hz2⟩ := info_parts hE
  have main : ∃ v' w', (Builtin.append_ #[t, t] o.type #[sv, .slice fa xs.length c]).run P w = .ok v' w' ∧ SL base w' E 1 v' (k + xs.length) (zs ++ xs.map (Value.int .i64)) ∧ Fr base mine w w' := by
    by_cases h0 : 0 < xs.length
    · obtain ⟨ad, rfl, hc⟩ := hr.2.2 h0
      refine run_append_SL (mine := mine) t o.type i (.int .i64 0) 8 ht hi hz0 hz1 hz2 rfl (by omega) hm h ad xs.length c (xs.map (Value.int .i64)) (by simp) (fun j u hu => ?_) (fun u hu => ?_) (by unfold maxLen; omega) (by omega) hbase
      · rw [List.getElem?_map] at hu
        have hj : j < xs.length := by
          rcases Nat.lt_or_ge j xs.length with hj | hj
          · exact hj
          · rw [List.getElem?_eq_none hj] at hu; cases hu
        rw [hc j hj]
        rw [List.getElem?_eq_getElem hj] at hu
        rw [List.getD_eq_getElem?_getD, List.getElem?_eq_getElem hj]
        exact hu
      · obtain ⟨z, -, rfl⟩ := List.mem_map.1 hu
        rfl
    · have hx0 : xs = [] := List.length_eq_zero_iff.1 (by omega)
      subst hx0
      cases fa with
      | none => exact ⟨sv, w, append_none t o.type ht i hi c h, by simpa using h, Fr.refl _ _ _⟩
      | some ad =>
        refine run_append_SL (mine := mine) t o.type i (.int .i64 0) 8 ht hi hz0 hz1 hz2 rfl (by omega) hm h ad 0 c [] (by simp) (fun j u hu => by simp at hu) (fun u hu => by simp at hu) (by unfold maxLen; simp at hlen; omega) (by simp at hlen; omega) hbase
  obtain ⟨v', w', hr, r1, r2⟩ := main
  unfold Oper.wp
  rw [eval_evS]
  simp only [execOp, ho, resolve, invoke, builtin, Sem.run_bind, Sem.run_pure, Result.andThen_ok, List.map_toArray, List.map_cons, List.map_nil, hs, hx, hr]
  exact ⟨v', rfl, hK v' w' r1 r2⟩
end
/-- a step's numbers, and its fates. -/
def slN (x : Sp) : List Int := (List.range (nmS x)).map (valX x) ++ x.fs
theorem slN_len (x : Sp) : (slN x).length = nmS x + x.fs.length := by simp [slN]
/-- region 2 on its way. -/
structure LI (x : Sp) (fa : Option Addr) (fc : Nat) (o : Nat) (w : World) (d : Nat → Bool) (s : Nat → Value) (W : World) : Prop where
  s3 : s 3 = .string (wordS o)
  s1 : s 1 = .pointer (some ⟨w.heap.size, 0, none⟩)
  k : Blk W w.heap.size 25 (stepC x fa fc)
  b : Below w.heap.size w W
  q0 : d 0 = true → s 11 = .pointer (some ⟨w.heap.size, 1, none⟩)
  q1 : d 1 = true → s 12 = .int .i64 x.a
  q2 : d 2 = true → s 13 = .pointer (some ⟨w.heap.size, 2, none⟩)
  q3 : d 3 = true → s 14 = .int .i64 x.b
  q4 : d 4 = true → s 15 = .pointer (some ⟨w.heap.size, 3, none⟩)
  q5 : d 5 = true → s 16 = .int .i64 x.c
  q6 : d 6 = true → ∃ p, s 17 = .slice (some ⟨p, 0, none⟩) 3 3 ∧ w.heap.size < p ∧ (d 15 = false → Blk W p 3 #[.int .i64 x.a, .int .i64 x.b, .int .i64 x.c])
  q7 : d 7 = true → ∃ q, s 18 = .slice (some ⟨q, 0, none⟩) 15 15 ∧ (d 11 = false → W.cell? ⟨q, o, none⟩ = some (.int .i64 (nmS x : Nat)))
  q8 : d 8 = true → s 19 = .pointer (some ⟨w.heap.size, 0, none⟩)
  q9 : d 9 = true → s 20 = .int .i64 (o : Nat)
  q10 : d 10 = true → ∃ q, s 21 = .pointer (some ⟨q, o, none⟩) ∧ (d 11 = false → W.cell? ⟨q, o, none⟩ = some (.int .i64 (nmS x : Nat)))
  q11 : d 11 = true → s 22 = .int .i64 (nmS x : Nat)
  q12 : d 12 = true → ∃ p, s 23 = .slice (some ⟨p, 0, none⟩) (nmS x) 3 ∧ w.heap.size < p ∧ (d 15 = false → Blk W p 3 #[.int .i64 x.a, .int .i64 x.b, .int .i64 x.c])
  q13 : d 13 = true → s 24 = .pointer (some ⟨w.heap.size, 4, none⟩)
  q14 : d 14 = true → s 25 = .slice fa x.fs.length fc
  c11 : d 12 = true → d 11 = true
  c12 : d 11 = true → d 10 = true
  c16 : d 16 = true → d 15 = true
  q15 : d 15 = true → SL w.heap.size W 3 1 (s 26) (nmS x + x.fs.length) ((slN x).map (Value.int .i64))
  q16 : d 16 = true → SL w.heap.size W 3 1 (s 4) (nmS x + x.fs.length) ((slN x).map (Value.int .i64))
theorem LI.below {x : Sp} {fa : Option Addr} {fc o : Nat} {w : World} {d : Nat → Bool} {s : Nat → Value} {W W' : World} (I : LI x fa fc o w d s W) (hb : Below W.heap.size W W') : LI x fa fc o w d s W' :=
  { I with
    k := I.k.below hb
    b := below_step I.b hb
    q6 := fun h => by obtain ⟨p, e, h1, h2⟩ := I.q6 h; exact ⟨p, e, h1, fun h3 => (h2 h3).below hb⟩
    q7 := fun h => by obtain ⟨p, e, h2⟩ := I.q7 h; exact ⟨p, e, fun h3 => bget hb (h2 h3)⟩
    q10 := fun h => by obtain ⟨p, e, h2⟩ := I.q10 h; exact ⟨p, e, fun h3 => bget hb (h2 h3)⟩
    q12 := fun h => by obtain ⟨p, e, h1, h2⟩ := I.q12 h; exact ⟨p, e, h1, fun h3 => (h2 h3).below hb⟩
    q15 := fun h => (I.q15 h).below hb
    q16 := fun h => (I.q16 h).below hb }
theorem take3 (x : Sp) {k : Nat} (h : k ≤ 3) : ([Value.int .i64 x.a, .int .i64 x.b, .int .i64 x.c]).take k = ((List.range k).map (valX x)).map (Value.int .i64) := by
  rcases k with _ | _ | _ | _ | k
  · rfl
  · rfl
  · rfl
  · rfl
  · omega
theorem sl_take {w : World} {base p k : Nat} (x : Sp) (h : Blk w p 3 #[.int .i64 x.a, .int .i64 x.b, .int .i64 x.c]) (hb : base ≤ p) (hk : k ≤ 3) :
    SL base w 3 1 (.slice (some ⟨p, 0, none⟩) k 3) k (((List.range k).map (valX x)).map (Value.int .i64)) := by
  refine ⟨by simp, .inr ⟨p, 0, 3, _, rfl, hb, h, hk, by unfold maxLen; decide, by simp, fun j hj => ?_⟩⟩
  rw [← take3 x hk, List.getElem?_take, if_pos (by omega), Nat.zero_add]
  simp
theorem ent_many' : ∀ args w, (callFunc 30 args).run Tryd.prog w = .ok (.enter 30 args) w := fun _ _ => by kernel_rfl
theorem slW_N (x : Sp) : slW x = wordS x.op :: (slN x).map tx := by
  unfold slW wordsF wordsK slN
  rw [List.take_length, List.map_append, List.map_map, List.cons_append]
  rfl
theorem slN_bd {x : Sp} (h : WfS x) {k : Nat} (hk : k < (slN x).length) : I64 ((slN x).getD k 0) := by
  rw [List.getD_eq_getElem?_getD, List.getElem?_eq_getElem hk, Option.getD_some]
  have hm := List.getElem_mem hk
  unfold slN at hm
  rcases List.mem_append.1 hm with hm | hm
  · obtain ⟨j, -, e⟩ := List.mem_map.1 hm
    have := valX_bd h j
    unfold slN
    rw [← e]
    exact this
  · exact h.2.2.2.2 _ hm
/-- the line so far: the word and the first k numbers. -/
def lnK (x : Sp) (k : Nat) : ByteArray := ⟨(Lib.join ((wordS x.op :: ((slN x).take k).map tx).map (·.data.toList)) [32]).toArray⟩
theorem lnK_zero (x : Sp) : lnK x 0 = wordS x.op := by
  unfold lnK
  apply ByteArray.ext
  simp [Lib.join, List.intercalate]
theorem lnK_all (x : Sp) {k : Nat} (h : k = (slN x).length) : lnK x k = slB x := by
  subst h
  unfold lnK slB
  rw [List.take_length, slW_N]
theorem lnK_next (x : Sp) {k : Nat} (h : k < (slN x).length) : lnK x (k + 1) = lnK x k ++ ⟨#[32]⟩ ++ tx ((slN x).getD k 0) := by
  unfold lnK
  rw [take_next h, List.map_append, ← List.cons_append, List.map_append, List.map_singleton, List.map_singleton, join_snoc _ _ (by simp)]
  apply ByteArray.ext
  simp
theorem lnK_size {x : Sp} (hw : WfS x) (k : Nat) : (lnK x k).size ≤ 21 * (4 + x.fs.length) := by
  have := join_len ((wordS x.op :: ((slN x).take k).map tx).map (·.data.toList)) (fun y hy => by
    obtain ⟨z, hz, rfl⟩ := List.mem_map.1 hy
    refine slW_small hw z ?_
    rw [slW_N]
    rcases List.mem_cons.1 hz with rfl | hz
    · exact List.mem_cons_self
    · obtain ⟨q, hq, rfl⟩ := List.mem_map.1 hz
      exact List.mem_cons_of_mem _ (List.mem_map_of_mem (List.mem_of_mem_take hq)))
  have h3 := nmS_le x
  rw [List.length_map, List.length_cons, List.length_map, List.length_take, slN_len] at this
  unfold lnK
  show (Lib.join _ [32]).toArray.size ≤ _
  rw [List.size_toArray]
  omega

set_option maxRecDepth 10000 in
set_option maxHeartbeats 8000000 in
theorem r32line_calls (x : Sp) (fa : Option Addr) (fc : Nat) (w : World) (h : Row .i64 w fa x.fs) (hw : WfS x) (hm : MayX x) :
    Calls Tryd.prog 18 #[stepV x fa fc] w fun e w' => e = .returned (.string (slB x)) ∧ Below w.heap.size w w' := by
  obtain ⟨o, ho, ho1, ho2⟩ : ∃ o : Nat, x.op = o ∧ 1 ≤ o ∧ o ≤ 14 := by
    have := hm.1
    unfold InS at this
    exact ⟨x.op.toNat, by omega, by omega, by omega⟩
  have B := Lib.hid (below_alloc (Below.refl w.heap.size w) (.cells (stepC x fa fc) 25))
  have K := Lib.hid (Blk.new w 25 (stepC x fa fc))
  have SZ := Lib.hid (show (w.alloc (.cells (stepC x fa fc) 25)).drew.heap.size = w.heap.size + 1 by simp)
  have R := Lib.hid h
  have NM := Lib.hid (show (.int .i64 (manyS o) : Value) = .int .i64 (nmS x : Nat) by rw [← ho]; have := manyS_bd x.op; unfold nmS; congr 1; omega)
  have NL := Lib.hid (nmS_le x)
  have FL := Lib.hid (may_fs hm)
  clear h
  unfold stepV
  go_enter Tryd.func18, Tryd.ntmps18
  go_upto_region 1 with (fail)
  refine wp_region_E [] [_, _, _, .string (wordS o), _, _, .slice (some ⟨w.heap.size + 1, 0, none⟩) 15 15, .pointer (some ⟨w.heap.size, 0, none⟩), .int .i64 (o : Nat), .pointer (some ⟨w.heap.size + 1, o, none⟩), .string (wordS o), _, _, _, _, _, _, _, _, _, _, _, _, _, _, _, _, _, _, _, _, _, _, _, _, _, _, _, _, _, _, _] (fun d W => Blk W (w.heap.size) 25 (stepC x fa fc) ∧ Below w.heap.size w W ∧ (d 0 = false → W.heap.size = w.heap.size + 1) ∧ (d 0 = true → Blk W (w.heap.size + 1) 9 wsA) ∧ (d 3 = true → d 0 = true)) (by kernel_rfl) rfl (by kernel_rfl) (by kernel_rfl) (by kernel_rfl) ⟨.inr rfl, .inr rfl, .inr rfl, .inl rfl, .inr rfl, .inr rfl, .inl rfl, .inl rfl, .inl rfl, .inl rfl, .inl rfl, .inr rfl, .inr rfl, .inr rfl, .inr rfl, .inr rfl, .inr rfl, .inr rfl, .inr rfl, .inr rfl, .inr rfl, .inr rfl, .inr rfl, .inr rfl, .inr rfl, .inr rfl, .inr rfl, .inr rfl, .inr rfl, .inr rfl, .inr rfl, .inr rfl, .inr rfl, .inr rfl, .inr rfl, .inr rfl, .inr rfl, .inr rfl, .inr rfl, .inr rfl, .inr rfl, .inr rfl, trivial⟩ ⟨K.out.drew, below_drew B.out, fun _ => SZ.out, (fun h => by cases h), (fun h => by cases h)⟩ ⟨?_, ?_, ?_, ?_, ?_, ?_, trivial⟩ ?_
  · refine dete_call 10 ent_wds rfl _ _ rfl #[] rfl (fun d W hW h0 _ => (wds_calls W).mono ?_) (fun t h => by cases h; rfl)
    rintro e W1 ⟨rfl, k, b⟩
    have e1 := hW.2.2.1 h0
    rw [e1] at k b ⊢
    exact ⟨rfl, hW.1.below (b.mono (by omega)), below_step hW.2.1 (by rw [e1]; exact b), (fun h => by cases h), (fun _ => k), (fun _ => rfl)⟩
  · exact dete_ok (v := .pointer (some ⟨w.heap.size, 0, none⟩)) rfl (fun d W hW _ _ => by first | rfl | (simp [execOp, evS, seen, go_sem])) (fun d W h => h) (fun t h => by cases h; rfl)
  · exact dete_ok (v := .int .i64 (o : Nat)) rfl (fun d W hW _ _ => load_cell (g := w.heap.size) (off := 0) rfl rfl (by kernel_rfl) ((hW.1.cell 0).trans (by rw [← ho]; rfl))) (fun d W h => h) (fun t h => by cases h; rfl)
  · exact dete_to (v := .pointer (some ⟨w.heap.size + 1, o, none⟩)) rfl (fun d W hW _ hw => ⟨W, (idx_cell (size := 1) (off := 0) (k := o) (n := 15) (c := 15) rfl rfl rfl (by kernel_rfl) (by kernel_rfl) (by omega)).trans (by rw [Nat.mul_one, Nat.zero_add]), hW.1, hW.2.1, hW.2.2.1, hW.2.2.2.1, fun _ => hw 0 (by decide)⟩) (fun t h => by cases h; rfl)
  · exact dete_ok (v := .string (wordS o)) rfl (fun d W hW _ hw => load_cell (g := w.heap.size + 1) (off := o) rfl rfl (by kernel_rfl) (((hW.2.2.2.1 (hW.2.2.2.2 (hw 3 (by decide)))).cell o).trans (wsA_get (by omega)))) (fun d W h => h) (fun t h => by cases h; rfl)
  · exact dete_ok (v := .string (wordS o)) rfl (fun d W hW _ _ => by first | rfl | (simp [execOp, evS, seen, go_sem])) (fun d W h => h) (fun t h => by cases h; rfl)
  rintro d W hd ⟨k1, b1, -, k2, -⟩
  have W1 := Lib.hid k1
  have B1 := Lib.hid b1
  clear hd k1 b1 k2 K B SZ
  go_upto_region 2 with (fail)
  refine wp_region_inv 42 (LI x fa fc o w) (by kernel_rfl) rfl (by kernel_rfl) (by kernel_rfl) ?_ ?_ ?_
  · exact ⟨rfl, rfl, W1.out.drew, below_drew B1.out, (fun h => by cases h), (fun h => by cases h), (fun h => by cases h), (fun h => by cases h), (fun h => by cases h), (fun h => by cases h), (fun h => by cases h), (fun h => by cases h), (fun h => by cases h), (fun h => by cases h), (fun h => by cases h), (fun h => by cases h), (fun h => by cases h), (fun h => by cases h), (fun h => by cases h), (fun h => by cases h), (fun h => by cases h), (fun h => by cases h), (fun h => by cases h), (fun h => by cases h)⟩
  · refine ⟨?_, ?_, ?_, ?_, ?_, ?_, ?_, ?_, ?_, ?_, ?_, ?_, ?_, ?_, ?_, ?_, ?_, trivial⟩
    · rintro d s W I hd hw
      refine stp_run (v := .pointer (some ⟨w.heap.size, 1, none⟩)) (w' := W) rfl (by simp [execOp, evS, I.s1, go_sem]) ?_
      exact { I with q0 := fun _ => rfl }
    · rintro d s W I hd hw
      have hw : (d 0 && true) = true := hw
      simp only [Bool.and_true, Bool.and_eq_true] at hw
      refine stp_run (v := .int .i64 x.a) (w' := W) rfl (load_cell (g := w.heap.size) (off := 1) rfl (I.q0 hw) (by kernel_rfl) (I.k.cell 1)) ?_
      exact { I with q1 := fun _ => rfl }
    · rintro d s W I hd hw
      refine stp_run (v := .pointer (some ⟨w.heap.size, 2, none⟩)) (w' := W) rfl (by simp [execOp, evS, I.s1, go_sem]) ?_
      exact { I with q2 := fun _ => rfl }
    · rintro d s W I hd hw
      have hw : (d 2 && true) = true := hw
      simp only [Bool.and_true, Bool.and_eq_true] at hw
      refine stp_run (v := .int .i64 x.b) (w' := W) rfl (load_cell (g := w.heap.size) (off := 2) rfl (I.q2 hw) (by kernel_rfl) (I.k.cell 2)) ?_
      exact { I with q3 := fun _ => rfl }
    · rintro d s W I hd hw
      refine stp_run (v := .pointer (some ⟨w.heap.size, 3, none⟩)) (w' := W) rfl (by simp [execOp, evS, I.s1, go_sem]) ?_
      exact { I with q4 := fun _ => rfl }
    · rintro d s W I hd hw
      have hw : (d 4 && true) = true := hw
      simp only [Bool.and_true, Bool.and_eq_true] at hw
      refine stp_run (v := .int .i64 x.c) (w' := W) rfl (load_cell (g := w.heap.size) (off := 3) rfl (I.q4 hw) (by kernel_rfl) (I.k.cell 3)) ?_
      exact { I with q5 := fun _ => rfl }
    · rintro d s W I hd hw
      have hw : (d 1 && (d 3 && (d 5 && true))) = true := hw
      simp only [Bool.and_true, Bool.and_eq_true] at hw
      have e1 := I.q1 hw.1
      have e2 := I.q3 hw.2.1
      have e3 := I.q5 hw.2.2
      have hsz := I.k.lt
      refine stp_run (v := .slice (some ⟨W.heap.size, 0, none⟩) 3 3) (w' := W.alloc (.cells #[.int .i64 x.a, .int .i64 x.b, .int .i64 x.c] 3)) rfl (by simp [execOp, evS, e1, e2, e3, go_sem]) ?_
      exact { I.below (below_alloc (Below.refl _ _) _) with q6 := fun _ => ⟨W.heap.size, rfl, hsz, fun _ => Blk.new _ _ _⟩ }
    · rintro d s W I hd hw
      refine stp_call 30 ent_many' rfl _ _ rfl #[] rfl ((rmany_calls W).mono ?_)
      rintro e W1 ⟨rfl, hr, hb⟩
      exact ⟨_, rfl, { I.below hb with q7 := fun _ => ⟨W.heap.size, rfl, fun _ => (many_cell hr ho1 ho2).trans (by rw [← NM.out])⟩ }⟩
    · rintro d s W I hd hw
      refine stp_run (v := .pointer (some ⟨w.heap.size, 0, none⟩)) (w' := W) rfl (by simp [execOp, evS, I.s1, go_sem]) ?_
      exact { I with q8 := fun _ => rfl }
    · rintro d s W I hd hw
      have hw : (d 8 && true) = true := hw
      simp only [Bool.and_true, Bool.and_eq_true] at hw
      refine stp_run (v := .int .i64 (o : Nat)) (w' := W) rfl (load_cell (g := w.heap.size) (off := 0) rfl (I.q8 hw) (by kernel_rfl) ((I.k.cell 0).trans (by rw [← ho]; rfl))) ?_
      exact { I with q9 := fun _ => rfl }
    · rintro d s W I hd hw
      have hw : (d 7 && (d 9 && true)) = true := hw
      simp only [Bool.and_true, Bool.and_eq_true] at hw
      obtain ⟨q, e1, h1⟩ := I.q7 hw.1
      have e2 := I.q9 hw.2
      refine stp_run (v := .pointer (some ⟨q, o, none⟩)) (w' := W) rfl ((idx_cell (size := 1) (off := 0) (k := o) (n := 15) (c := 15) rfl e1 e2 (by kernel_rfl) (by kernel_rfl) (by omega)).trans (by rw [Nat.mul_one, Nat.zero_add])) ?_
      exact { I with q10 := fun _ => ⟨q, rfl, h1⟩, c12 := fun _ => rfl }
    · rintro d s W I hd hw
      have hw : (d 10 && true) = true := hw
      simp only [Bool.and_true, Bool.and_eq_true] at hw
      obtain ⟨q, e1, h1⟩ := I.q10 hw
      refine stp_run (v := .int .i64 (nmS x : Nat)) (w' := W) rfl (load_cell (g := q) (off := o) rfl e1 (by kernel_rfl) (h1 hd)) ?_
      exact { I with q11 := fun _ => rfl, q7 := (fun h => by obtain ⟨p, e, _⟩ := I.q7 h; exact ⟨p, e, fun h => by cases h⟩), q10 := (fun h => by obtain ⟨p, e, _⟩ := I.q10 h; exact ⟨p, e, fun h => by cases h⟩), c11 := fun _ => rfl, c12 := fun _ => hw }
    · rintro d s W I hd hw
      have hw : (d 6 && (d 11 && true)) = true := hw
      simp only [Bool.and_true, Bool.and_eq_true] at hw
      obtain ⟨p, e1, h0, h1⟩ := I.q6 hw.1
      have e2 := I.q11 hw.2
      have hnl := NL.out
      have hn3 : ((nmS x : Nat) : Int) ≤ 3 := by omega
      have hn0 : (0 : Int) ≤ (nmS x : Nat) := by omega
      refine stp_run (v := .slice (some ⟨p, 0, none⟩) (nmS x) 3) (w' := W) rfl (by simp [execOp, evS, e1, e2, hn3, hn0, go_sem]) ?_
      exact { I with q12 := fun _ => ⟨p, rfl, h0, h1⟩, c11 := fun _ => hw.2 }
    · rintro d s W I hd hw
      refine stp_run (v := .pointer (some ⟨w.heap.size, 4, none⟩)) (w' := W) rfl (by simp [execOp, evS, I.s1, go_sem]) ?_
      exact { I with q13 := fun _ => rfl }
    · rintro d s W I hd hw
      have hw : (d 13 && true) = true := hw
      simp only [Bool.and_true, Bool.and_eq_true] at hw
      refine stp_run (v := .slice fa x.fs.length fc) (w' := W) rfl (load_cell (g := w.heap.size) (off := 4) rfl (I.q13 hw) (by kernel_rfl) (I.k.cell 4)) ?_
      exact { I with q14 := fun _ => rfl }
    · rintro d s W I hd hw
      have hw : (d 12 && (d 14 && (d 7 && true))) = true := hw
      simp only [Bool.and_true, Bool.and_eq_true] at hw
      obtain ⟨p, e1, h0, h1⟩ := I.q12 hw.1
      have e2 := I.q14 hw.2.1
      have h11 := I.c11 hw.1
      have hsz := I.b.size
      refine stp_appRow (mine := mineI) (base := w.heap.size) 23 Tryd.underlying23 infoI (fun _ => rfl) rfl (.tmp 23) (.tmp 25) rfl e1 (sl_take x (h1 hd) (Nat.le_of_lt h0) NL.out) e2 (R.out.below I.b) (by have := FL.out; have := NL.out; omega) hsz ?_
      intro v' W' hs hf
      exact { I with k := I.k.fr hf rfl, b := I.b.trans (hf.to_below hsz), q6 := (fun h => by obtain ⟨p, e, h0, _⟩ := I.q6 h; exact ⟨p, e, h0, fun h => by cases h⟩), q12 := (fun h => by obtain ⟨p, e, h0, _⟩ := I.q12 h; exact ⟨p, e, h0, fun h => by cases h⟩), q7 := (fun h => by obtain ⟨p, e, _⟩ := I.q7 h; exact ⟨p, e, fun h => by rw [show d 11 = false from h] at h11; cases h11⟩), q10 := (fun h => by obtain ⟨p, e, _⟩ := I.q10 h; exact ⟨p, e, fun h => by rw [show d 11 = false from h] at h11; cases h11⟩), q15 := fun _ => (by unfold slN; rw [List.map_append]; exact hs), q16 := (fun h => by have := I.c16 h; rw [show d 15 = false from hd] at this; cases this), c16 := fun _ => rfl }
    · rintro d s W I hd hw
      rw [List.all_eq_true] at hw
      have hw := hw 15 (by decide)
      have e1 := I.q15 hw
      refine stp_run (v := s 26) (w' := W) rfl (by simp [execOp, evS, go_sem]) ?_
      exact { I with q16 := fun _ => e1, c16 := fun _ => hw }
  · intro d s W hall I
    have e4 := I.q16 (hall 16 (by decide))
    have e3 := I.s3
    have hb := I.b
    clear I hall
    obtain ⟨N, hN⟩ : ∃ N, nmS x + x.fs.length = N := ⟨_, rfl⟩
    rw [hN] at e4
    have LN := Lib.hid ((slN_len x).trans hN)
    have N9 := Lib.hid (show N ≤ 67 by have := NL.out; have := FL.out; omega)
    obtain ⟨sa, sc, es, sc0, sc1⟩ := e4.form
    rw [es] at e4
    have HS := Lib.hid e4
    have HB := Lib.hid hb
    have L0 := Lib.hid (show lnK x 0 = wordS o by rw [lnK_zero, ho])
    have LX := Lib.hid (fun k (hk : k < (slN x).length) => lnK_next x hk)
    have LA := Lib.hid (fun k (hk : k = (slN x).length) => lnK_all x hk)
    have LZ := Lib.hid (fun k => Nat.le_trans (lnK_size hw k) (show 21 * (4 + x.fs.length) ≤ 1428 by have := FL.out; omega))
    have NC := Lib.hid (fun W k (hk : k < (slN x).length) => num_calls ((slN x).getD k 0) W (slN_bd hw hk))
    have TZ := Lib.hid (fun k (hk : k < (slN x).length) => show (strOfNums (textS ((slN x).getD k 0))).size ≤ 20 from by have := tx_size (slN_bd hw hk); unfold tx at this; simpa using this)
    change Exit.then _ _ Exit.normal ⟨#[s 0, s 1, s 2, s 3, s 4, s 5, s 6, s 7, s 8, s 9, s 10, s 11, s 12, s 13, s 14, s 15, s 16, s 17, s 18, s 19, s 20, s 21, s 22, s 23, s 24, s 25, s 26, s 27, s 28, s 29, s 30, s 31, s 32, s 33, s 34, s 35, s 36, s 37, s 38, s 39, s 40, s 41], []⟩ W
    rw [e3, es]
    clear e3 es e4 hb hN sc0 sc1 W1 B1 NM ho1 ho2 hw hm ho
    generalize s 0 = v0
    generalize s 1 = v1
    generalize s 2 = v2
    generalize s 5 = v5
    generalize s 6 = v6
    generalize s 7 = v7
    generalize s 8 = v8
    generalize s 9 = v9
    generalize s 10 = v10
    generalize s 11 = v11
    generalize s 12 = v12
    generalize s 13 = v13
    generalize s 14 = v14
    generalize s 15 = v15
    generalize s 16 = v16
    generalize s 17 = v17
    generalize s 18 = v18
    generalize s 19 = v19
    generalize s 20 = v20
    generalize s 21 = v21
    generalize s 22 = v22
    generalize s 23 = v23
    generalize s 24 = v24
    generalize s 25 = v25
    generalize s 26 = v26
    generalize s 27 = v27
    generalize s 28 = v28
    generalize s 29 = v29
    generalize s 30 = v30
    generalize s 31 = v31
    generalize s 32 = v32
    generalize s 33 = v33
    generalize s 34 = v34
    generalize s 35 = v35
    generalize s 36 = v36
    generalize s 37 = v37
    generalize s 38 = v38
    generalize s 39 = v39
    generalize s 40 = v40
    generalize s 41 = v41
    go_wp2
    go_loopw [3, 5] (fun v i wr => ∃ (k : Nat), k ≤ N ∧ i = .int .i64 k ∧ v = .string (lnK x k) ∧ SL w.heap.size wr 3 1 (.slice sa N sc) N ((slN x).map (Value.int .i64)) ∧ Below w.heap.size w wr) (fun _ i _ => N - (intOf i).toNat)
    case atStart => exact ⟨0, by omega, rfl, by rw [L0.out], HS.out, HB.out⟩
    case round =>
      clear HS HB L0
      obtain ⟨k, hk, rfl, rfl, hs, hb⟩ := hrel
      have HS := Lib.hid hs
      have HB := Lib.hid hb
      clear hb
      by_cases hlt : k < N
      · have hlti : (k : Int) < (N : Int) := by omega
        obtain ⟨g, off, cap, cs, e, hg, hbk, hcap, hcm, hcell⟩ := hs.at_ (by omega)
        injection e with e1 e2 e3
        subst e1
        have hkl : k < (slN x).length := by rw [LN.out]; exact hlt
        have cz : wr.cell? ⟨g, off + k, none⟩ = some (.int .i64 ((slN x).getD k 0)) := by
          rw [hbk.cell, hcell k (by omega), List.getElem?_map, List.getElem?_eq_getElem hkl, List.getD_eq_getElem?_getD, List.getElem?_eq_getElem hkl]
          rfl
        have NK := Lib.hid (fun W => NC.out W k hkl)
        have NX := Lib.hid (LX.out k hkl)
        have hk9 : k < 100 := by have := N9.out; omega
        have hz1 := LZ.out k
        have hz2 := TZ.out k hkl
        have TX := Lib.hid (show tx ((slN x).getD k 0) = strOfNums (textS ((slN x).getD k 0)) from rfl)
        generalize (slN x).getD k 0 = vk at *
        have hn1 : ¬ 9223372036854775807 < (lnK x k).size + 1 := by omega
        have hn2 : ¬ 9223372036854775807 < (lnK x k).size + 1 + (strOfNums (textS vk)).size := by omega
        clear hz1 hz2 hs hbk hcell hg hcap hcm e2 e3 hkl
        go_wp2_with (first
          | (go_at_call 37; (with_reducible refine (NK.out _).mono ?_); rintro e w3 ⟨rfl, e4⟩; subst e4))
        exact ⟨⟨k + 1, by omega, by go_num, by rw [NX.out]; rfl, HS.out, HB.out⟩, by simp [intOf]; omega⟩
      · obtain rfl : k = N := by omega
        have LE := Lib.hid (LA.out k LN.out.symm)
        clear hs
        go_wp2
        go_ret
        rw [LE.out]
        exact ⟨rfl, HB.out⟩
end Go.Proofs.YtminokbigpckaaaDoor.Ct
