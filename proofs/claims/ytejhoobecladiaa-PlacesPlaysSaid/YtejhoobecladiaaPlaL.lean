import Derived.Test.YtejhoobecladiaaPlaK
/-! Chapter 27: rows, All, Leaf. -/
namespace Go.Proofs.Ytejhoobecladiaa.Ct
open Go.RowKit Go.Shelf
attribute [local go_sem] Oper.semAt_some
set_option linter.unusedVariables false
set_option linter.unusedSimpArgs false
/-- a row of entries' cells. -/
def entC (s : Nat → One27) (i : Nat) : List Value := [.int .i64 (i : Int), .int .i64 (((s i).lba - 1 : Nat) : Int), .int .u64 (s i).tag]
def entCells (s : Nat → One27) (l : List Nat) : List Value := l.flatMap (entC s)
theorem entCells_len (s : Nat → One27) (l : List Nat) : (entCells s l).length = l.length * 3 := by
  induction l with
  | nil => rfl
  | cons y l ih => simp [entCells, entC] at ih ⊢; omega
theorem entCells_snoc (s : Nat → One27) (l : List Nat) (y : Nat) : entCells s (l ++ [y]) = entCells s l ++ entC s y := by simp [entCells]
theorem infoE : (Try.prog.info? 34).map (fun i => (i.zero, i.size, i.bytes)) = some (some (.agg #[.int .i64 0, .int .i64 0, .int .u64 0]), 3, 24) := by kernel_rfl
theorem blk_from {X Y : World} {g : Nat} {t : TypeId} {cs : Array Value} {row : Option Nat} (h : Blk X g t cs) (hg : X.grownBy Y row) (hr : ∀ r, row = some r → ∃ o : Obj, X.heap[r]? = some o ∧ o.isCells = false) : Blk Y g t cs :=
  h.grown hg (fun e => by
    obtain ⟨o, ho, hc⟩ := hr g e.symm
    rw [show X.heap[g]? = _ from h] at ho; cases ho; cases hc)
theorem cell_three_new (w : World) (a b c : Value) (t : TypeId) : ∀ j u, [a, b, c][j]? = some u → (w.alloc (.cells #[a, b, c] t)).cell? ((⟨w.heap.size, 0, none⟩ : Addr).add j) = some u := by
  intro j u hj
  rw [add_plain]
  refine ((Blk.new w t #[a, b, c]).cell j).trans ?_
  rw [← hj]; simp
set_option maxRecDepth 100000 in
set_option maxHeartbeats 4000000 in
theorem rows_core (p : Option Addr) (fr ft : Int) (s : Nat → One27) (xs : List Nat) (w : World) (hl : xs.length ≤ 100000)
    (SEQ : SeqStopsK Fence.wide 4 Try.prog 36 #[.pointer (some ⟨w.heap.size + 1, 0, none⟩), .pointer (some ⟨w.heap.size + 2, 0, none⟩), .pointer (some ⟨w.heap.size + 3, 0, none⟩)] (fun y : Nat => #[entV s y]) (Kb (w.heap.size + 4) w.heap.size) (fun ys => ys = xs) (fun pre => pre <+: xs) xs.length
      ((((w.alloc (.cells #[.slice none 0 0] 42)).alloc (.cells #[.pointer p] 23)).alloc (.cells #[.int .i64 fr] 3)).alloc (.cells #[.int .i64 ft] 3))) :
    CallsIn Fence.wide 5 Try.prog 28 #[.pointer p, .int .i64 fr, .int .i64 ft] w fun e W' => ∃ v, e = .returned v ∧ W'.ownsRow w.heap.size 34 3 v xs.length (entCells s xs) ∧ Below w.heap.size w W' := by
  obtain ⟨i0, hi, hz0, hz1, hz2⟩ := info_parts infoE
  refine callsIn_of_wp_marks Try.func28 rfl trivial ?_ rfl
  simp only [Try.ntmps28, List.size_toArray, List.length_cons, List.length_nil, Nat.reduceAdd, Nat.reduceSub, Array.replicate_succ, Array.replicate_zero, List.push_toArray, List.append_toArray, List.nil_append, List.cons_append]
  gi_wp2_with (refine ⟨trivial, ?_⟩; gi_at_call 30; refine (callsIn_wide.2 (each_calls p fr ft _)).mono ?_; rintro e w' ⟨rfl, rfl⟩)
  have bO := Boxed.new w 42 (.slice none 0 0)
  have hsz : ((((w.alloc (.cells #[.slice none 0 0] 42)).alloc (.cells #[.pointer p] 23)).alloc (.cells #[.int .i64 fr] 3)).alloc (.cells #[.int .i64 ft] 3)).heap.size = w.heap.size + 4 := by simp
  have hB0 : Below w.heap.size w ((((w.alloc (.cells #[.slice none 0 0] 42)).alloc (.cells #[.pointer p] 23)).alloc (.cells #[.int .i64 fr] 3)).alloc (.cells #[.int .i64 ft] 3)) := below_alloc (below_alloc (below_alloc (below_alloc (Below.refl _ _) _) _) _) _
  have bO2 := ((bO.alloc (.cells #[.pointer p] 23)).alloc (.cells #[.int .i64 fr] 3)).alloc (.cells #[.int .i64 ft] 3)
  refine wpIn_rangeFunc_ownH rfl (by omega) (gf := 36) (lb := #[.pointer (some ⟨w.heap.size + 1, 0, none⟩), .pointer (some ⟨w.heap.size + 2, 0, none⟩), .pointer (some ⟨w.heap.size + 3, 0, none⟩)]) rfl trivial (enters_of Try.func36 (by kernel_rfl) rfl)
    SEQ (fun h k => Kb.trans h k) (kb_b (by rw [hsz]; omega)) (Below.refl _ _) (fun _ => rfl)
    (fun pre W => (∃ u, Boxed W w.heap.size 42 u ∧ W.ownsRow (w.heap.size + 4) 34 3 u pre.length (entCells s pre) ∧ True) ∧ Below w.heap.size w W ∧ w.heap.size + 4 ≤ W.heap.size)
    (fun _ _ _ => False)
    ?own ?own2
    ⟨⟨_, bO2, World.ownsRow_nil _ _ _ _, trivial⟩, hB0, by rw [hsz]; exact Nat.le_refl _⟩
    (fun x a' W => ∃ Bx, w.heap.size + 4 ≤ Bx ∧ Blk W Bx 34 #[.int .i64 (x : Int), .int .i64 (((s x).lba - 1 : Nat) : Int), .int .u64 (s x).tag] ∧
      a' = { tmps := #[.pointer p, .int .i64 fr, .int .i64 ft, undef, undef, undef, .slice none 0 0, .pointer (some ⟨w.heap.size, 0, none⟩), .pointer (some ⟨Bx, 0, none⟩), .pointer p, .int .i64 fr, .int .i64 ft, .func (.func 36) #[] #[.pointer (some ⟨w.heap.size + 1, 0, none⟩), .pointer (some ⟨w.heap.size + 2, 0, none⟩), .pointer (some ⟨w.heap.size + 3, 0, none⟩)], entV s x, undef, undef, undef, undef, undef], defers := [] })
    (fun x a' _ X Y row hs hg hr => by obtain ⟨Bx, h1, h2, h3⟩ := hs; exact ⟨Bx, h1, blk_from h2 hg (fun r e => (hr r e).2), h3⟩)
    ?assign ?body ?done ?stop
  case own => exact Go.OwnFrom.and (Go.Own.from (holdsRow_own (w.heap.size + 4) w.heap.size 42 34 3 (fun pre : List Nat => pre.length) (fun pre => entCells s pre) (fun _ _ => True)) _) (Go.OwnFrom.and (ownFrom_below (Nat.le_refl _) (by rw [hsz]; omega)) (fun s W W' row hs hg hr => Nat.le_trans hs hg.size))
  case own2 => exact fun _ _ _ _ _ hs _ _ => hs
  case assign =>
    rintro l pre x W K ⟨⟨u, hv, hrow, -⟩, hB, hz⟩ hK
    have HK := Lib.hid hK
    clear hK
    unfold entV at HK ⊢
    gi_wp2
    exact HK.out _ _ ((KeepsOthers.alloc _ _).from _) (Kb.of_below hz (below_alloc (Below.refl _ _) _)) ⟨⟨u, hv.alloc _, hrow.alloc _, trivial⟩, below_alloc hB _, Nat.le_trans hz (by simp)⟩ ⟨W.heap.size, hz, Blk.new _ _ _, rfl⟩
  case body =>
    rintro l pre x a' W _ - ⟨⟨u, hv, hrow, -⟩, hB, hz⟩ ⟨Bx, hBx, bX, rfl⟩ hlt
    have hc := hv.cell
    have d0 := bX.cell 0
    have d1 := bX.cell 1
    have d2 := bX.cell 2
    have hce := entCells_snoc s pre x
    unfold entC at hce
    have HCE := Lib.hid hce
    clear hce
    unfold entV
    generalize (((s x).lba - 1 : Nat) : Int) = vl at *
    generalize (s x).tag = vt at *
    gi_wp2_with (gi_at_builtin; refine wpListIn_append_own _ rfl _ _ 42 rfl (w.heap.size + 4) 34 i0 (.agg #[.int .i64 0, .int .i64 0, .int .u64 0]) 3 24 Try.underlying42 hi hz0 hz1 hz2 rfl (by decide) _ _ _ rfl (hrow.alloc _) ⟨W.heap.size, 0, none⟩ 1 1 [.int .i64 (x : Int), .int .i64 vl, .int .u64 vt] rfl rfl (cell_three_new _ _ _ _ _) (by simp [Value.oneCell']) (by unfold maxLen; omega) (by omega) (by simp; omega) ?_; intro v' w1 hown' hgrow _; obtain ⟨g', cap', rfl⟩ := ownsRow_succ hown'; obtain ⟨hv1, hv2, hr2, hk2, hb2⟩ := hv.appended (by decide) (ownsRow_mono hrow (Nat.le_add_right _ 4)) hB.size (Nat.le_refl _) (ownsRow_mono hown' (Nat.le_add_right _ 4)) hgrow; have hr3 := hown'.kept (grownBy_setCell' w1 w.heap.size (.slice (some ⟨g', 0, none⟩) (pre.length + 1) cap')) (.inr (hv1.not_row (by decide) hown').symm); have hkb := kb_app (B := w.heap.size) hrow hz hgrow (.slice (some ⟨g', 0, none⟩) (pre.length + 1) cap'); have hc1 := hv1.cell; have hf1 := hv1.frozen)
    exact ⟨hk2.from _, hkb, ⟨_, hv2, by simpa [HCE.out] using hr3, trivial⟩, hB.trans hb2, Nat.le_trans hz hkb.size⟩
  case done =>
    rintro D ys W hD rfl ⟨⟨u, hv, hrow, -⟩, hB, hz⟩ hK
    have hc := hv.cell
    gi_wp2
    refine ⟨by simp, .inl ⟨_, _, rfl, run_takeDeferred hK, ?_⟩⟩
    exact ⟨_, results_tmp rfl _ _ _, u, rfl, ownsRow_putObj (ownsRow_mono hrow (Nat.le_add_right _ 4)) _ hK rfl, hB.trans (belowK_b (w := w) (Nat.le_refl _) W D _ _ (by simp at hD; omega) hK rfl rfl)⟩
  case stop =>
    rintro D c pre W _ _ h _
    exact h.elim
set_option maxHeartbeats 2000000 in
theorem each1_none (n l bx bf bt : Nat) (fr ft : Int) (J Jx : List Nat → World → Prop) (hn : 1 ≤ n) (W : World) (hx : W.cell? ⟨bx, 0, none⟩ = some (.pointer none)) (h0 : J [] W) :
    CallsIn Fence.wide n Try.prog 36 #[.func (.yield l) #[] #[], .pointer (some ⟨bx, 0, none⟩), .pointer (some ⟨bf, 0, none⟩), .pointer (some ⟨bt, 0, none⟩)] W fun e W' => (∃ v, e = .returned v) ∧
      ((∃ ys, ys = [] ∧ J ys W') ∨ (∃ pre, pre <+: [] ∧ Jx pre W')) := by
  refine callsIn_of_wp Try.func36 rfl trivial ?_ rfl
  simp only [Try.ntmps36, List.size_toArray, List.length_cons, List.length_nil, Nat.reduceAdd, Nat.reduceSub, Array.replicate_succ, Array.replicate_zero, List.push_toArray, List.append_toArray, List.nil_append, List.cons_append]
  gi_wp2
  refine bodyPost_ret (results_none rfl _ _ _) rfl ?_
  exact ⟨⟨_, rfl⟩, .inl ⟨[], rfl, h0⟩⟩
/-- a row of entries of the call's own. -/
def EntR (w : World) (b : Nat) (v : Value) (s : Nat → One27) (l : List Nat) : Prop := w.ownsRow b 34 3 v l.length (entCells s l)
theorem rowN_len (m : Nat) (s : Nat → One27) (fr ft : Int) : (rowN m s fr ft).length ≤ m := by
  have := occ_len s (spanA fr) (spanK m fr ft)
  unfold rowN
  unfold spanK at this ⊢
  omega
section
variable {base x gl gw nb m : Nat} {w : World} {s : Nat → One27}
/-- the cells that each reads, behind the caller's own blocks. -/
theorem each_seq (h : LQ base w x gl gw nb m s) (hn : nb ≤ 100000) (hm : m ≤ 100000) (fr ft : Int) (hfr : fr ≤ 100000) (N B0 : Nat) (W0 : World) (hb : Below w.heap.size w W0) (hB : w.heap.size ≤ B0) (hN : N ≤ W0.heap.size) (bx bf bt : Nat) (h1 : bx < N) (h2 : bt < N) (n1 : bx ≠ B0) (n2 : bt ≠ B0) (hwN : w.heap.size ≤ N)
    (cx : Blk W0 bx 23 #[.pointer (some ⟨x, 0, none⟩)]) (cf : Blk W0 bf 3 #[.int .i64 fr]) (ct : Blk W0 bt 3 #[.int .i64 ft]) :
    SeqStopsK Fence.wide 4 Try.prog 36 #[.pointer (some ⟨bx, 0, none⟩), .pointer (some ⟨bf, 0, none⟩), .pointer (some ⟨bt, 0, none⟩)] (fun y : Nat => #[entV s y]) (Kb N B0) (fun ys => ys = rowN m s fr ft) (fun pre => pre <+: rowN m s fr ft) (rowN m s fr ft).length W0 := by
  intro l J Jx W hW hJ _ hY h0
  have hmine := h.mine
  have m1 := (hmine x (.inl rfl)).2
  have m2 := (hmine gl (.inr (.inl rfl))).2
  have m3 := (hmine gw (.inr (.inr rfl))).2
  exact each1_in 4 l bx bf bt B0 N W.heap.size base x gl gw nb m s fr ft J Jx (by decide) hJ hY W ((cx.below hW).cell 0) ((cf.below hW).cell 0) ((ct.below hW).cell 0) ((h.below hb).below hW) hn hm (Nat.le_trans hN hW.size) hfr h1 h2 ⟨by omega, by omega, by omega⟩ n1 n2 ⟨by omega, by omega, by omega⟩ h0
theorem none_seq (fr ft : Int) (s : Nat → One27) (N B0 : Nat) (W0 : World) (bx bf bt : Nat) (cx : Blk W0 bx 23 #[.pointer none]) :
    SeqStopsK Fence.wide 4 Try.prog 36 #[.pointer (some ⟨bx, 0, none⟩), .pointer (some ⟨bf, 0, none⟩), .pointer (some ⟨bt, 0, none⟩)] (fun y : Nat => #[entV s y]) (Kb N B0) (fun ys => ys = []) (fun pre => pre <+: []) 0 W0 := by
  intro l J Jx W hW hJ _ hY h0
  exact each1_none 4 l bx bf bt fr ft J Jx (by decide) W ((cx.below hW).cell 0) h0
theorem rows_blks (p : Option Addr) (fr ft : Int) (w : World) : ∃ W0, W0 = ((((w.alloc (.cells #[.slice none 0 0] 42)).alloc (.cells #[.pointer p] 23)).alloc (.cells #[.int .i64 fr] 3)).alloc (.cells #[.int .i64 ft] 3)) ∧ Below w.heap.size w W0 ∧ W0.heap.size = w.heap.size + 4 ∧
    Blk W0 (w.heap.size + 1) 23 #[.pointer p] ∧ Blk W0 (w.heap.size + 2) 3 #[.int .i64 fr] ∧ Blk W0 (w.heap.size + 3) 3 #[.int .i64 ft] := by
  refine ⟨_, rfl, below_alloc (below_alloc (below_alloc (below_alloc (Below.refl _ _) _) _) _) _, by simp, ?_, ?_, ?_⟩
  · exact ((blk_at (by simp)).alloc _).alloc _
  · exact (blk_at (by simp)).alloc _
  · exact blk_at (by simp)
theorem rowsQ (h : LQ base w x gl gw nb m s) (hn : nb ≤ 100000) (hm : m ≤ 100000) (fr ft : Int) (hfr : fr ≤ 100000) :
    Calls Try.prog 28 #[.pointer (some ⟨x, 0, none⟩), .int .i64 fr, .int .i64 ft] w fun e w' => ∃ v, e = .returned v ∧ EntR w' w.heap.size v s (rowN m s fr ft) ∧ Below w.heap.size w w' := by
  obtain ⟨W0, e, hb, hz, k1, k2, k3⟩ := rows_blks (some ⟨x, 0, none⟩) fr ft w
  refine (callsIn_wide (n := 5)).1 (rows_core (some ⟨x, 0, none⟩) fr ft s (rowN m s fr ft) w (by have := rowN_len m s fr ft; omega) ?_)
  rw [← e]
  exact each_seq h hn hm fr ft hfr _ _ W0 hb (Nat.le_refl _) (by omega) _ _ _ (by omega) (by omega) (by omega) (by omega) (by omega) k1 k2 k3
theorem rows_none (fr ft : Int) (w : World) :
    Calls Try.prog 28 #[.pointer none, .int .i64 fr, .int .i64 ft] w fun e w' => ∃ v, e = .returned v ∧ EntR w' w.heap.size v (fun _ => o27) [] ∧ Below w.heap.size w w' := by
  obtain ⟨W0, e, hb, hz, k1, k2, k3⟩ := rows_blks none fr ft w
  refine (callsIn_wide (n := 5)).1 (rows_core none fr ft (fun _ => o27) [] w (by simp) ?_)
  rw [← e]
  exact none_seq fr ft _ _ _ W0 _ _ _ k1
theorem lof_calls (w : World) : Calls Try.prog 27 #[.int .i64 192] w fun e w' => e = .returned (.int .i64 64) ∧ w = w' := by
  go_enter Try.func27, Try.ntmps27
  go_wp2
  go_ret
  exact ⟨rfl, rfl⟩
theorem allQ (h : LQ base w x gl gw nb m s) (hn : nb ≤ 100000) (hm : m ≤ 100000) :
    Calls Try.prog 17 #[.pointer (some ⟨x, 0, none⟩)] w fun e w' => ∃ v, e = .returned v ∧ EntR w' w.heap.size v s (rowN m s 0 192) ∧ Below w.heap.size w w' := by
  have RC := Lib.hid (rowsQ h hn hm 0 192 (by decide))
  clear h
  go_enter Try.func17, Try.ntmps17
  go_wp2_with (go_at_call 28; (with_reducible refine (RC.out).mono ?_); rintro e w1 ⟨v, rfl, h1, h2⟩; have H1 := Lib.hid h1; have H2 := Lib.hid h2; clear h1 h2)
  go_ret
  exact ⟨v, rfl, H1.out, H2.out⟩
theorem all_none (w : World) :
    Calls Try.prog 17 #[.pointer none] w fun e w' => ∃ v, e = .returned v ∧ EntR w' w.heap.size v (fun _ => o27) [] ∧ Below w.heap.size w w' := by
  have RC := Lib.hid (rows_none 0 192 w)
  go_enter Try.func17, Try.ntmps17
  go_wp2_with (go_at_call 28; (with_reducible refine (RC.out).mono ?_); rintro e w1 ⟨v, rfl, h1, h2⟩; have H1 := Lib.hid h1; have H2 := Lib.hid h2; clear h1 h2)
  go_ret
  exact ⟨v, rfl, H1.out, H2.out⟩
/-- what the slots of a leaf have. -/
def leafN (m : Nat) (s : Nat → One27) (no : Int) : List Nat := if 0 ≤ no ∧ no ≤ 64 then rowN m s (no * 3) (no * 3 + 3) else []
theorem entR_nil (w : World) (b : Nat) (s : Nat → One27) : EntR w b (.slice none 0 0) s [] := World.ownsRow_nil _ _ _ _
theorem leafQ (h : LQ base w x gl gw nb m s) (hn : nb ≤ 100000) (hm : m ≤ 100000) (no : Int) :
    Calls Try.prog 15 #[.pointer (some ⟨x, 0, none⟩), .int .i64 no] w fun e w' => ∃ v, e = .returned v ∧ EntR w' w.heap.size v s (leafN m s no) ∧ Below w.heap.size w w' := by
  have LC := Lib.hid lof_calls
  by_cases h0 : no < 0
  · have e : leafN m s no = [] := if_neg (by omega)
    rw [e]
    clear h e
    go_enter Try.func15, Try.ntmps15
    go_wp2
    go_ret
    exact ⟨_, rfl, entR_nil _ _ _, Below.refl _ _⟩
  · by_cases h1 : no ≤ 64
    · have e : leafN m s no = rowN m s (no * 3) (no * 3 + 3) := if_pos (by omega)
      rw [e]
      have RC := Lib.hid (rowsQ h hn hm (no * 3) (no * 3 + 3) (by omega))
      have h2 : ¬ 64 < no := by omega
      clear h e
      go_enter Try.func15, Try.ntmps15
      go_wp2_with (first
        | (go_at_call 27; (with_reducible refine (LC.out _).mono ?_); rintro e w' ⟨rfl, rfl⟩)
        | (go_at_call 28; (with_reducible refine (RC.out).mono ?_); rintro e w1 ⟨v, rfl, h1, h2⟩; have H1 := Lib.hid h1; have H2 := Lib.hid h2; clear h1 h2))
      go_ret
      exact ⟨v, rfl, H1.out, H2.out⟩
    · have e : leafN m s no = [] := if_neg (by omega)
      have h2 : 64 < no := by omega
      rw [e]
      clear h e
      go_enter Try.func15, Try.ntmps15
      go_wp2_with (first
        | (go_at_call 27; (with_reducible refine (LC.out _).mono ?_); rintro e w' ⟨rfl, rfl⟩))
      go_ret
      exact ⟨_, rfl, entR_nil _ _ _, Below.refl _ _⟩
end
end Go.Proofs.Ytejhoobecladiaa.Ct
