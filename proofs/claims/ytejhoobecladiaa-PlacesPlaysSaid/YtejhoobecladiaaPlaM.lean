import Derived.Test.YtejhoobecladiaaPlaL
import Derived.Test.YtejhoobecladiaaAdd
/-! Chapter 27: Within. -/
namespace Go.Proofs.Ytejhoobecladiaa.Ct
open Go.RowKit Go.Shelf
attribute [local go_sem] Oper.semAt_some
set_option linter.unusedVariables false
set_option linter.unusedSimpArgs false
def casts (l : List Nat) : List Int := l.map fun y : Nat => (y : Int)
theorem nums_casts (l : List Nat) : nums .i64 (casts l) = l.map fun y : Nat => Value.int .i64 (y : Int) := by unfold nums casts; rw [List.map_map]; rfl
theorem casts_length (l : List Nat) : (casts l).length = l.length := by unfold casts; simp
theorem casts_own {w' : World} {b : Nat} {v : Value} {l : List Nat} (h : w'.ownsRow b 3 1 v l.length (l.map fun y : Nat => Value.int .i64 (y : Int))) (hl : ∀ y ∈ l, y ≤ 1000000) : Own .i64 3 w' b v (casts l) := by
  refine ⟨by rw [casts_length, nums_casts]; exact h, fun x hx => ?_⟩
  obtain ⟨y, hy, rfl⟩ := List.mem_map.1 hx
  have := hl y hy
  exact i64wf ⟨by omega, by omega⟩
/-- of slots those whose block lies from lo on, ahead of hi. -/
def witF (s : Nat → One27) (lo hi : Int) (l : List Nat) : List Nat := l.filter fun i => decide (lo ≤ (((s i).lba - 1 : Nat) : Int)) && decide ((((s i).lba - 1 : Nat) : Int) < hi)
theorem witF_snoc (s : Nat → One27) (lo hi : Int) (l : List Nat) (y : Nat) : witF s lo hi (l ++ [y]) = witF s lo hi l ++ if lo ≤ (((s y).lba - 1 : Nat) : Int) ∧ (((s y).lba - 1 : Nat) : Int) < hi then [y] else [] := by
  unfold witF
  rw [List.filter_append]
  congr 1
  rw [List.filter_cons, List.filter_nil]
  by_cases h1 : lo ≤ (((s y).lba - 1 : Nat) : Int) <;> by_cases h2 : (((s y).lba - 1 : Nat) : Int) < hi <;> simp [h1, h2]
theorem witF_len (s : Nat → One27) (lo hi : Int) (l : List Nat) : (witF s lo hi l).length ≤ l.length := List.length_filter_le _ _
theorem boxed_fresh {W : World} {B : Nat} {t : TypeId} {u : Value} (h : Boxed W B t u) {base size k : Nat} {e : TypeId} {v : Value} {xs : List Value} (hr : W.ownsRow base e size v k xs) (hb : B < base) : some B ≠ v.ownBlock := by
  rcases hr.2 with ⟨rfl, _⟩ | ⟨g, cap, cur, rfl, hg, _, _⟩
  · simp [Value.ownBlock]
  · intro e'
    obtain rfl : B = g := by simpa [Value.ownBlock] using e'
    omega
set_option maxRecDepth 100000 in
set_option maxHeartbeats 8000000 in
theorem within_core (p : Option Addr) (lo nn : Int) (s : Nat → One27) (xs : List Nat) (w : World) (hlo : I64 lo) (hnn : I64 nn) (hl : xs.length ≤ 100000)
    (SEQ : SeqStopsK Fence.wide 4 Try.prog 36 #[.pointer (some ⟨w.heap.size + 3, 0, none⟩), .pointer (some ⟨w.heap.size + 4, 0, none⟩), .pointer (some ⟨w.heap.size + 5, 0, none⟩)] (fun y : Nat => #[entV s y]) (Kb (w.heap.size + 6) (w.heap.size + 2)) (fun ys => ys = xs) (fun pre => pre <+: xs) xs.length
      ((((((w.alloc (.cells #[.int .i64 lo] 3)).alloc (.cells #[.int .i64 (sat (lo + max nn 0))] 3)).alloc (.cells #[.slice none 0 0] 38)).alloc (.cells #[.pointer p] 23)).alloc (.cells #[.int .i64 0] 3)).alloc (.cells #[.int .i64 192] 3))) :
    CallsIn Fence.wide 5 Try.prog 18 #[.pointer p, .int .i64 lo, .int .i64 nn] w fun e W' => ∃ v, e = .returned v ∧ W'.ownsRow w.heap.size 3 1 v (witF s lo (sat (lo + max nn 0)) xs).length ((witF s lo (sat (lo + max nn 0)) xs).map fun y : Nat => Value.int .i64 (y : Int)) ∧ Below w.heap.size w W' := by
  obtain ⟨i0, hi, hz0, hz1, hz2⟩ := info_parts infoI
  have mx := fun (ts : Array TypeId) (t : TypeId) (w : World) => max_run (P := Try.prog) nn 0 ts t w
  have hmx : I64 (max nn 0) := by unfold I64 at hnn ⊢; omega
  generalize max nn 0 = n2 at *
  have AC := Lib.hid (show ∀ w, Calls Try.prog 29 #[.int .i64 lo, .int .i64 n2] w fun e w' => e = .returned (.int .i64 (sat (lo + n2))) ∧ w = w' from fun w => add_calls lo n2 w hlo hmx)
  clear hmx hnn hlo
  generalize sat (lo + n2) = en at *
  refine callsIn_of_wp_marks Try.func18 rfl trivial ?_ rfl
  simp only [Try.ntmps18, List.size_toArray, List.length_cons, List.length_nil, Nat.reduceAdd, Nat.reduceSub, Array.replicate_succ, Array.replicate_zero, List.push_toArray, List.append_toArray, List.nil_append, List.cons_append]
  gi_wp2_with (refine ⟨trivial, ?_⟩; first | (gi_at_call 30; refine (callsIn_wide.2 (each_calls p 0 192 _)).mono ?_; rintro e w' ⟨rfl, rfl⟩) | (gi_at_call 29; refine (callsIn_wide.2 (AC.out _)).mono ?_; rintro e w' ⟨rfl, rfl⟩))
  have hsz : ((((((w.alloc (.cells #[.int .i64 lo] 3)).alloc (.cells #[.int .i64 en] 3)).alloc (.cells #[.slice none 0 0] 38)).alloc (.cells #[.pointer p] 23)).alloc (.cells #[.int .i64 0] 3)).alloc (.cells #[.int .i64 192] 3)).heap.size = w.heap.size + 6 := by simp
  have hB0 : Below w.heap.size w ((((((w.alloc (.cells #[.int .i64 lo] 3)).alloc (.cells #[.int .i64 en] 3)).alloc (.cells #[.slice none 0 0] 38)).alloc (.cells #[.pointer p] 23)).alloc (.cells #[.int .i64 0] 3)).alloc (.cells #[.int .i64 192] 3)) := below_alloc (below_alloc (below_alloc (below_alloc (below_alloc (below_alloc (Below.refl _ _) _) _) _) _) _) _
  have bL : Boxed ((((((w.alloc (.cells #[.int .i64 lo] 3)).alloc (.cells #[.int .i64 en] 3)).alloc (.cells #[.slice none 0 0] 38)).alloc (.cells #[.pointer p] 23)).alloc (.cells #[.int .i64 0] 3)).alloc (.cells #[.int .i64 192] 3)) w.heap.size 3 (.int .i64 lo) := (((((Boxed.new w 3 (.int .i64 lo)).alloc _).alloc _).alloc _).alloc _).alloc _
  have bE : Boxed ((((((w.alloc (.cells #[.int .i64 lo] 3)).alloc (.cells #[.int .i64 en] 3)).alloc (.cells #[.slice none 0 0] 38)).alloc (.cells #[.pointer p] 23)).alloc (.cells #[.int .i64 0] 3)).alloc (.cells #[.int .i64 192] 3)) (w.heap.size + 1) 3 (.int .i64 en) := (((((blk_at (by simp) : Blk _ _ _ #[.int .i64 en]).alloc _).alloc _).alloc _).alloc _)
  have bO : Boxed ((((((w.alloc (.cells #[.int .i64 lo] 3)).alloc (.cells #[.int .i64 en] 3)).alloc (.cells #[.slice none 0 0] 38)).alloc (.cells #[.pointer p] 23)).alloc (.cells #[.int .i64 0] 3)).alloc (.cells #[.int .i64 192] 3)) (w.heap.size + 2) 38 (.slice none 0 0) := ((((blk_at (by simp) : Blk _ _ _ #[.slice none 0 0]).alloc _).alloc _).alloc _)
  refine wpIn_rangeFunc_ownH rfl (by omega) (gf := 36) (lb := #[.pointer (some ⟨w.heap.size + 3, 0, none⟩), .pointer (some ⟨w.heap.size + 4, 0, none⟩), .pointer (some ⟨w.heap.size + 5, 0, none⟩)]) rfl trivial (enters_of Try.func36 (by kernel_rfl) rfl)
    SEQ (fun h k => Kb.trans h k) (kb_b (by rw [hsz]; omega)) (Below.refl _ _) (fun _ => rfl)
    (fun pre W => (∃ u, Boxed W (w.heap.size + 2) 38 u ∧ W.ownsRow (w.heap.size + 6) 3 1 u (witF s lo en pre).length ((witF s lo en pre).map fun y : Nat => Value.int .i64 (y : Int)) ∧ True) ∧ (Boxed W w.heap.size 3 (.int .i64 lo) ∧ Boxed W (w.heap.size + 1) 3 (.int .i64 en)) ∧ Below w.heap.size w W ∧ w.heap.size + 6 ≤ W.heap.size)
    (fun _ _ _ => False)
    ?own ?own2
    ⟨⟨_, bO, World.ownsRow_nil _ _ _ _, trivial⟩, ⟨bL, bE⟩, hB0, by rw [hsz]; exact Nat.le_refl _⟩
    (fun x a' W => ∃ Bx, w.heap.size + 6 ≤ Bx ∧ Blk W Bx 34 #[.int .i64 (x : Int), .int .i64 (((s x).lba - 1 : Nat) : Int), .int .u64 (s x).tag] ∧
      a' = { tmps := #[.pointer p, .int .i64 lo, .int .i64 nn, undef, .pointer (some ⟨w.heap.size, 0, none⟩), undef, .slice none 0 0, .pointer (some ⟨w.heap.size + 1, 0, none⟩), .pointer (some ⟨w.heap.size + 2, 0, none⟩), .pointer (some ⟨Bx, 0, none⟩), .int .i64 lo, .int .i64 nn, .int .i64 n2, .int .i64 en, .pointer p, .func (.func 36) #[] #[.pointer (some ⟨w.heap.size + 3, 0, none⟩), .pointer (some ⟨w.heap.size + 4, 0, none⟩), .pointer (some ⟨w.heap.size + 5, 0, none⟩)], entV s x, undef, undef, undef, undef, undef, undef, undef, undef, undef, undef, undef, undef, undef, undef, undef, undef], defers := [] })
    (fun x a' _ X Y row hs hg hr => by obtain ⟨Bx, h1, h2, h3⟩ := hs; exact ⟨Bx, h1, blk_from h2 hg (fun r e => (hr r e).2), h3⟩)
    ?assign ?body ?done ?stop
  case own => exact Go.OwnFrom.and (Go.Own.from (holdsRow_own (w.heap.size + 6) (w.heap.size + 2) 38 3 1 (fun pre : List Nat => (witF s lo en pre).length) (fun pre => (witF s lo en pre).map fun y : Nat => Value.int .i64 (y : Int)) (fun _ _ => True)) _) (Go.OwnFrom.and (Go.OwnFrom.and (Go.Own.from (boxed_own _ _ _) _) (Go.Own.from (boxed_own _ _ _) _)) (Go.OwnFrom.and (ownFrom_below (Nat.le_refl _) (by rw [hsz]; omega)) (fun s W W' row hs hg hr => Nat.le_trans hs hg.size)))
  case own2 => exact fun _ _ _ _ _ hs _ _ => hs
  case assign =>
    rintro l pre x W K ⟨⟨u, hv, hrow, -⟩, ⟨hL, hE⟩, hB, hz⟩ hK
    have HK := Lib.hid hK
    clear hK
    unfold entV at HK ⊢
    gi_wp2
    exact HK.out _ _ ((KeepsOthers.alloc _ _).from _) (Kb.of_below hz (below_alloc (Below.refl _ _) _)) ⟨⟨u, hv.alloc _, hrow.alloc _, trivial⟩, ⟨hL.alloc _, hE.alloc _⟩, below_alloc hB _, Nat.le_trans hz (by simp)⟩ ⟨W.heap.size, hz, Blk.new _ _ _, rfl⟩
  case body =>
    rintro l pre x a' W _ - ⟨⟨u, hv, hrow, -⟩, ⟨hL, hE⟩, hB, hz⟩ ⟨Bx, hBx, bX, rfl⟩ hlt
    have hc := hv.cell
    have cL := hL.cell
    have cE := hE.cell
    have d0 := bX.cell 0
    have d1 := bX.cell 1
    have d2 := bX.cell 2
    have WS := Lib.hid (witF_snoc s lo en pre x)
    have WL := witF_len s lo en pre
    unfold entV
    generalize (((s x).lba - 1 : Nat) : Int) = vl at *
    generalize (s x).tag = vt at *
    generalize hF : witF s lo en pre = F at *
    have HF := Lib.hid hF
    clear hF
    by_cases h1 : lo ≤ vl
    · by_cases h2 : vl < en
      · have WS := Lib.hid (show witF s lo en (pre ++ [x]) = F ++ [x] by rw [WS.out, if_pos ⟨h1, h2⟩])
        gi_wp2_with (gi_at_builtin; refine wpListIn_append_own _ rfl _ _ 38 rfl (w.heap.size + 6) 3 i0 (.int .i64 0) 1 8 Try.underlying38 hi hz0 hz1 hz2 rfl (by decide) _ _ _ rfl (hrow.alloc _) ⟨W.heap.size, 0, none⟩ 1 1 [.int .i64 (x : Int)] rfl rfl (cell_one_new _ _ _) (by simp [Value.oneCell']) (by unfold maxLen; omega) (by omega) (by simp; omega) ?_; intro v' w1 hown' hgrow _; obtain ⟨g', cap', rfl⟩ := ownsRow_succ hown'; obtain ⟨hv1, hv2, hr2, hk2, hb2⟩ := hv.appended (by decide) (ownsRow_mono hrow (by omega : w.heap.size ≤ w.heap.size + 6)) hB.size (by omega) (ownsRow_mono hown' (by omega : w.heap.size ≤ w.heap.size + 6)) hgrow; have hr3 := hown'.kept (grownBy_setCell' w1 (w.heap.size + 2) (.slice (some ⟨g', 0, none⟩) (F.length + 1) cap')) (.inr (hv1.not_row (by decide) hown').symm); have hkb := kb_app (B := w.heap.size + 2) hrow hz hgrow (.slice (some ⟨g', 0, none⟩) (F.length + 1) cap'); have hc1 := hv1.cell; have hf1 := hv1.frozen)
        refine ⟨hk2.from _, hkb, ⟨_, hv2, by rw [WS.out]; simpa using hr3, trivial⟩, ⟨?_, ?_⟩, hB.trans hb2, Nat.le_trans hz hkb.size⟩
        · exact ((hL.alloc _).kept hgrow (boxed_fresh hL hrow (by omega))).other (by omega) _
        · exact ((hE.alloc _).kept hgrow (boxed_fresh hE hrow (by omega))).other (by omega) _
      · have WS := Lib.hid (show witF s lo en (pre ++ [x]) = F by rw [WS.out, if_neg (by omega), List.append_nil])
        gi_wp2
        exact ⟨KeepsFrom.refl _ _, Kb.refl _ _ _, ⟨u, hv, by rw [WS.out]; exact hrow⟩, ⟨hL, hE⟩, hB, hz⟩
    · have WS := Lib.hid (show witF s lo en (pre ++ [x]) = F by rw [WS.out, if_neg (by omega), List.append_nil])
      gi_wp2
      exact ⟨KeepsFrom.refl _ _, Kb.refl _ _ _, ⟨u, hv, by rw [WS.out]; exact hrow⟩, ⟨hL, hE⟩, hB, hz⟩
  case done =>
    rintro D ys W hD rfl ⟨⟨u, hv, hrow, -⟩, -, hB, hz⟩ hK
    have hc := hv.cell
    gi_wp2
    refine ⟨by simp, .inl ⟨_, _, rfl, run_takeDeferred hK, ?_⟩⟩
    exact ⟨_, results_tmp rfl _ _ _, u, rfl, ownsRow_putObj (ownsRow_mono hrow (by omega)) _ hK rfl, hB.trans (belowK_b (w := w) (Nat.le_refl _) W D _ _ (by simp at hD; omega) hK rfl rfl)⟩
  case stop =>
    rintro D c pre W _ _ h _
    exact h.elim
/-- the slots that have one of a row of blocks. -/
def witZ (m : Nat) (s : Nat → One27) (lo n : Int) : List Nat := witF s lo (sat (lo + max n 0)) (rowN m s 0 192)
theorem occ_mem (s : Nat → One27) (a : Nat) : ∀ k y, y ∈ occ s a k ↔ a ≤ y ∧ y < a + k ∧ (s y).lba ≠ 0
  | 0, y => ⟨fun h => absurd h (List.not_mem_nil), fun h => absurd h.2.1 (by have := h.1; omega)⟩
  | k + 1, y => by
    unfold occ
    rw [List.mem_append, occ_mem s a k y]
    by_cases h : (s (a + k)).lba = 0
    · rw [if_pos h]
      constructor
      · rintro (⟨h1, h2, h3⟩ | h4)
        · exact ⟨h1, by omega, h3⟩
        · cases h4
      · rintro ⟨h1, h2, h3⟩
        have : y ≠ a + k := fun e => h3 (e ▸ h)
        exact .inl ⟨h1, by omega, h3⟩
    · rw [if_neg h, List.mem_singleton]
      constructor
      · rintro (⟨h1, h2, h3⟩ | rfl)
        · exact ⟨h1, by omega, h3⟩
        · exact ⟨by omega, by omega, h⟩
      · rintro ⟨h1, h2, h3⟩
        by_cases e : y = a + k
        · exact .inr e
        · exact .inl ⟨h1, by omega, h3⟩
theorem rowN_lt {m : Nat} {s : Nat → One27} {fr ft : Int} {y : Nat} (h : y ∈ rowN m s fr ft) : y < m := by
  have := (occ_mem s _ _ y).1 h
  unfold spanK spanA at this
  omega
theorem within_blks (p : Option Addr) (lo en : Int) (w : World) : ∃ W0, W0 = ((((((w.alloc (.cells #[.int .i64 lo] 3)).alloc (.cells #[.int .i64 en] 3)).alloc (.cells #[.slice none 0 0] 38)).alloc (.cells #[.pointer p] 23)).alloc (.cells #[.int .i64 0] 3)).alloc (.cells #[.int .i64 192] 3)) ∧ Below w.heap.size w W0 ∧ W0.heap.size = w.heap.size + 6 ∧
    Blk W0 (w.heap.size + 3) 23 #[.pointer p] ∧ Blk W0 (w.heap.size + 4) 3 #[.int .i64 0] ∧ Blk W0 (w.heap.size + 5) 3 #[.int .i64 192] := by
  refine ⟨_, rfl, below_alloc (below_alloc (below_alloc (below_alloc (below_alloc (below_alloc (Below.refl _ _) _) _) _) _) _) _, by simp, ?_, ?_, ?_⟩
  · exact ((blk_at (by simp)).alloc _).alloc _
  · exact (blk_at (by simp)).alloc _
  · exact blk_at (by simp)
section
variable {base x gl gw nb m : Nat} {w : World} {s : Nat → One27}
theorem withinQ (h : LQ base w x gl gw nb m s) (hn : nb ≤ 100000) (hm : m ≤ 100000) (lo n : Int) (hlo : I64 lo) (hnn : I64 n) :
    Calls Try.prog 18 #[.pointer (some ⟨x, 0, none⟩), .int .i64 lo, .int .i64 n] w fun e w' => ∃ v, e = .returned v ∧ Own .i64 3 w' w.heap.size v (casts (witZ m s lo n)) ∧ Below w.heap.size w w' := by
  obtain ⟨W0, e, hb, hz, k1, k2, k3⟩ := within_blks (some ⟨x, 0, none⟩) lo (sat (lo + max n 0)) w
  have hl := rowN_len m s 0 192
  refine (callsIn_wide (n := 5)).1 ((within_core (some ⟨x, 0, none⟩) lo n s (rowN m s 0 192) w hlo hnn (by omega) ?_).mono ?_)
  · rw [← e]
    exact each_seq h hn hm 0 192 (by decide) _ _ W0 hb (by omega) (by omega) _ _ _ (by omega) (by omega) (by omega) (by omega) (by omega) k1 k2 k3
  · rintro e w' ⟨v, h1, h2, h3⟩
    refine ⟨v, h1, casts_own h2 (fun y hy => ?_), h3⟩
    have := rowN_lt (List.mem_filter.1 hy).1
    omega
theorem within_none (lo n : Int) (w : World) (hlo : I64 lo) (hnn : I64 n) :
    Calls Try.prog 18 #[.pointer none, .int .i64 lo, .int .i64 n] w fun e w' => ∃ v, e = .returned v ∧ Own .i64 3 w' w.heap.size v [] ∧ Below w.heap.size w w' := by
  obtain ⟨W0, e, hb, hz, k1, k2, k3⟩ := within_blks none lo (sat (lo + max n 0)) w
  refine (callsIn_wide (n := 5)).1 ((within_core none lo n (fun _ => o27) [] w hlo hnn (by simp) ?_).mono ?_)
  · rw [← e]
    exact none_seq 0 192 _ _ _ W0 _ _ _ k1
  · rintro e w' ⟨v, h1, h2, h3⟩
    exact ⟨v, h1, casts_own (l := []) h2 (fun y hy => by cases hy), h3⟩
end
end Go.Proofs.Ytejhoobecladiaa.Ct
