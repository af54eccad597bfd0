import Derived.Test.YtmopicpjhdekhaaDoorTaI
/-! tally.Add, Grown. -/
namespace Go.Proofs.YtmopicpjhdekhaaDoor.Ct
open Go.RowKit
set_option linter.unusedVariables false
set_option linter.unusedSimpArgs false
theorem wpl_load {P : Program} {ops : Array Oper} {rest : List Oper} {o : Oper} {a : Act} {w : World} {Q : Exit → Act → World → Prop} {g : Nat} {t ty : TypeId} {cs : Array Value} {x : Operand} (d : TypeDesc) (hgd : o.guard = none) (ho : o.op = .load ty x) (hx : a.eval x = .pointer (some ⟨g, 0, none⟩)) (h : Blk w g t cs)
    (hu : P.underlying ty = some d) (hd : (match d with | .struct _ | .array _ _ => true | _ => false) = true) (hi : (P.info? ty).map (·.size) = some cs.size) (hK : wpList P ops Q rest (a.put o.dst (.agg cs)) w) : wpList P ops Q (o :: rest) a w := by
  refine wpList_plain hgd fun K hK' => ?_
  unfold Oper.wp
  rw [load_blk d ho hx h hu hd hi]
  exact hK' _ _ hK
theorem wpl_store {P : Program} {ops : Array Oper} {rest : List Oper} {o : Oper} {a : Act} {w : World} {Q : Exit → Act → World → Prop} {g : Nat} {t ty : TypeId} {old cs : Array Value} {x y : Operand} (hgd : o.guard = none) (ho : o.op = .store ty x y) (hx : a.eval x = .pointer (some ⟨g, 0, none⟩)) (hy : a.eval y = .agg cs) (h : Blk w g t old)
    (hi : (P.info? ty).map (·.size) = some cs.size) (hs : old.size = cs.size) (h1 : cs.all (·.oneCell') = true) (hK : wpList P ops Q rest (a.put o.dst undef) (w.setRow g cs)) : wpList P ops Q (o :: rest) a w := by
  refine wpList_plain hgd fun K hK' => ?_
  unfold Oper.wp
  rw [store_blk ho hx hy h hi hs h1]
  exact hK' _ _ hK
theorem i64_wrap_id {x : Int} (h0 : -9223372036854775808 ≤ x) (h1 : x ≤ 9223372036854775807) : IntKind.i64.wrap x = x := by have := wrap64_id (x := x) ⟨h0, h1⟩; unfold wrap64 at this; rw [IntKind.wrap_i64]; exact this
theorem Blk.belowB {w w' : World} {g B : Nat} {t : TypeId} {cs : Array Value} (h : Blk w g t cs) (hb : Below B w w') (hg : g < B) : Blk w' g t cs := (hb.block g hg).trans h
theorem grown_set {w w' : World} (g j : Nat) (v : Value) : w.grownBy (w.setCell ⟨g, j, none⟩ v) (some g) :=
  ⟨rfl, rfl, rfl, by simp [World.setCell], fun k hk hne => Below.heap_setCell w _ v k (fun e => hne (by rw [e]))⟩
theorem addc_calls (k g : Nat) (x y : Int) (F : Nat → Int) (W : World) (hk : k < 14) (hx : I64 x) (hy : I64 y) (h : Blk W g 48 (tlC F)) :
    Calls Tryd.prog 39 #[.int .i64 k, .int .i64 x, .int .i64 y, .pointer (some ⟨g, 0, none⟩)] W fun e W' => e = .returned (.tuple #[]) ∧ Blk W' g 48 (tlC fun j => if j = k then satAdd x y else F j) ∧ W.grownBy W' (some g) := by
  have AC := Lib.hid (add_calls x y W hx hy)
  have hlti : (k : Int) < 14 := by omega
  have cz := (h.cell k).trans (tlC_get F k hk)
  have fz := h.frozen k
  have KB := Lib.hid (h.set_ k (.int .i64 (satAdd x y)))
  rw [tlC_set F _ k hk] at KB
  have GR := Lib.hid (grown_set (w := W) (w' := W) g k (.int .i64 (satAdd x y)))
  generalize satAdd x y = z at *
  go_enter Tryd.func39, Tryd.ntmps39
  go_wp2_with (first
    | (go_at_call 40; (with_reducible refine (AC.out).mono ?_); rintro e w1 ⟨rfl, rfl⟩))
  refine bodyPost_end (results_none rfl _ _ _) rfl ?_
  exact ⟨rfl, KB.out, GR.out⟩
theorem grownc_calls (k g : Nat) (x y : Int) (c : Nat) (W : World) (hc : c ≤ 14) (h : Blk W g 3 #[.int .i64 c]) :
    Calls Tryd.prog 41 #[.int .i64 k, .int .i64 x, .int .i64 y, .pointer (some ⟨g, 0, none⟩)] W fun e W' => e = .returned (.tuple #[]) ∧ Blk W' g 3 #[.int .i64 ((if y < x then c + 1 else c : Nat) : Int)] ∧ W.grownBy W' (some g) := by
  have cz := h.cell 0
  have fz := h.frozen 0
  by_cases hl : y < x
  · rw [if_pos hl]
    have KB := Lib.hid (h.set_ 0 (.int .i64 ((c + 1 : Nat) : Int)))
    have hw := i64_wrap_id (x := (c : Int) + 1) (by omega) (by omega)
    go_enter Tryd.func41, Tryd.ntmps41
    go_wp2
    refine bodyPost_end (results_none rfl _ _ _) rfl ?_
    exact ⟨rfl, by have := KB.out; simpa using this, grown_set (w := W) (w' := W) g 0 _⟩
  · rw [if_neg hl]
    have KB := Lib.hid h
    go_enter Tryd.func41, Tryd.ntmps41
    go_wp2
    refine bodyPost_end (results_none rfl _ _ _) rfl ?_
    exact ⟨rfl, KB.out, World.grownBy.refl _ _⟩
theorem rtally_tl (f : Nat → Int) (W : World) : Calls Tryd.prog 25 #[.agg (tlC f)] W fun e w' => e = .returned (.agg (tlC f)) ∧ Below W.heap.size W w' := rtally_calls _ _ _ _ _ _ _ _ _ _ _ _ _ _ W
theorem if_lt_zero (F : Nat → Int) : (tlC fun j => if j < 0 then F j else 0) = zero14 := rfl
set_option maxRecDepth 10000 in
set_option maxHeartbeats 4000000 in
theorem tadd_calls (a b : Nat → Int) (ha : ∀ i < 14, I64 (a i)) (hb : ∀ i < 14, I64 (b i)) (w : World) :
    Calls Tryd.prog 18 #[.agg (tlC a), .agg (tlC b)] w fun e w' => e = .returned (.agg (tlC fun j => satAdd (a j) (b j))) ∧ Below w.heap.size w w' := by
  have K1 := Lib.hid ((((Blk.new w 23 (tlC a)).alloc (.cells (tlC b) 23)).alloc (.cells zero14 23)).alloc (.cells zero14 48))
  have K2 := Lib.hid (((blk_at (w := w.alloc (.cells (tlC a) 23)) (t := 23) (cs := tlC b) (show w.heap.size + 1 = (w.alloc (.cells (tlC a) 23)).heap.size by simp)).alloc (.cells zero14 23)).alloc (.cells zero14 48))
  have K3 := Lib.hid ((blk_at (w := (w.alloc (.cells (tlC a) 23)).alloc (.cells (tlC b) 23)) (t := 23) (cs := zero14) (show w.heap.size + 1 + 1 = ((w.alloc (.cells (tlC a) 23)).alloc (.cells (tlC b) 23)).heap.size by simp)).alloc (.cells zero14 48))
  have K4 := Lib.hid (blk_at (w := ((w.alloc (.cells (tlC a) 23)).alloc (.cells (tlC b) 23)).alloc (.cells zero14 23)) (t := 48) (cs := zero14) (show w.heap.size + 1 + 1 + 1 = (((w.alloc (.cells (tlC a) 23)).alloc (.cells (tlC b) 23)).alloc (.cells zero14 23)).heap.size by simp))
  have B := Lib.hid (below_alloc (below_alloc (below_alloc (below_alloc (Below.refl w.heap.size w) (.cells (tlC a) 23)) (.cells (tlC b) 23)) (.cells zero14 23)) (.cells zero14 48))
  have Z := Lib.hid (show ((((w.alloc (.cells (tlC a) 23)).alloc (.cells (tlC b) 23)).alloc (.cells zero14 23)).alloc (.cells zero14 48)).heap.size = w.heap.size + 1 + 1 + 1 + 1 by simp)
  have TA := Lib.hid (tlC_one fun j => satAdd (a j) (b j))
  have BC := Lib.hid (bothA_calls a b (w.heap.size + 1 + 1 + 1) (fun k W => Blk W (w.heap.size + 1 + 1 + 1) 48 (tlC fun j => if j < k then satAdd (a j) (b j) else 0)))
  have RT := Lib.hid (fun W => rtally_tl (fun j => satAdd (a j) (b j)) W)
  unfold zero14 at K1 K2 K3 K4 B Z
  go_enter Tryd.func18, Tryd.ntmps18
  go_upto_region 2 with (fail)
  generalize (((w.alloc (.cells (tlC a) 23)).alloc (.cells (tlC b) 23)).alloc (.cells _ 23)).alloc (.cells _ 48) = w4 at *
  have S1 := Lib.hid (BC.out w4 (by have := Z.out; omega) K4.out (fun k W W' h hb => Blk.belowB h hb (by omega)) (fun k W hk h => (addc_calls k (w.heap.size + 1 + 1 + 1) (a k) (b k) _ W hk (ha k hk) (hb k hk) h).mono fun e W' ⟨h1, h2, h3⟩ => ⟨h1, by
    have e : (fun j => if j = k then satAdd (a k) (b k) else if j < k then satAdd (a j) (b j) else 0) = fun j => if j < k + 1 then satAdd (a j) (b j) else 0 := by
      funext j
      by_cases hj : j = k
      · subst hj; simp
      · rw [if_neg hj]
        by_cases h2 : j < k
        · rw [if_pos h2, if_pos (by omega)]
        · rw [if_neg h2, if_neg (by omega)]
    rw [e] at h2
    exact h2, h3⟩))
  clear BC K4 ha hb
  have E14 := Lib.hid (show tlC (fun j => if j < 14 then satAdd (a j) (b j) else 0) = tlC (fun j => satAdd (a j) (b j)) from rfl)
  go_wp2_with (first
    | (refine wpl_load (g := w.heap.size) _ rfl rfl rfl K1.out Tryd.underlying23 rfl (by kernel_rfl) ?_)
    | (refine wpl_load (g := w.heap.size + 1) _ rfl rfl rfl K2.out Tryd.underlying23 rfl (by kernel_rfl) ?_)
    | (go_at_call 38; (with_reducible refine (S1.out).mono ?_); rintro e w5 ⟨rfl, hk, hb⟩; rw [E14.out] at hk; have K5 := Lib.hid hk; have K3 := Lib.hid (K3.out.belowB hb (by omega)); have B5 := Lib.hid (Below.trans B.out (hb.mono (by omega))); have Z5 := Lib.hid (show w.heap.size + 1 + 1 + 1 < w5.heap.size from hk.lt); clear hk hb)
    | (refine wpl_load (g := w.heap.size + 1 + 1 + 1) _ rfl rfl rfl K5.out Tryd.underlying48 rfl (by kernel_rfl) ?_)
    | (go_at_call 25; (with_reducible refine (RT.out _).mono ?_); rintro e w6 ⟨rfl, hb⟩; have K3 := Lib.hid (K3.out.below hb); have B6 := Lib.hid (Below.trans B5.out (hb.mono (by have := Z5.out; omega))); clear hb)
    | (refine wpl_store (g := w.heap.size + 1 + 1) rfl rfl rfl rfl K3.out (by kernel_rfl) rfl TA.out ?_))
  refine bodyPost_ret (results_c rfl _ _ (w.heap.size + 1 + 1) _ _ _ _ rfl (K3.out.row _) Tryd.underlying23 rfl (by kernel_rfl)) rfl ?_
  exact ⟨rfl, below_setRow B6.out (by omega) _⟩
end Go.Proofs.YtmopicpjhdekhaaDoor.Ct
