import Derived.Test.YtmopicpjhdekhaaDoorLaw28A
import Derived.Test.YtmopicpjhdekhaaDoorRegD
import Derived.Test.YtmopicpjhdekhaaDoorTaI
/-! TallyLines. -/
namespace Go.Proofs.YtmopicpjhdekhaaDoor.Ct
open Go.RowKit
set_option linter.unusedVariables false
set_option linter.unusedSimpArgs false
/-! plain: a line's words, and back -/
theorem wl_nob : ∀ (l : List UInt8), (∀ b ∈ l, b ≠ 32) → wl l = [l]
  | [], _ => rfl
  | b :: l, h => by
    rw [wl_other (h b (by simp)) (h := l) (t := []) (wl_nob l fun x hx => h x (by simp [hx]))]
theorem wl_app : ∀ (x l : List UInt8), (∀ b ∈ x, b ≠ 32) → wl (x ++ 32 :: l) = x :: wl l
  | [], l, _ => wl_blank l
  | b :: x, l, h => by
    rw [List.cons_append, wl_other (h b (by simp)) (wl_app x l fun y hy => h y (by simp [hy]))]
theorem wl_join : ∀ (xs : List (List UInt8)), xs ≠ [] → (∀ x ∈ xs, ∀ b ∈ x, b ≠ 32) → wl (Lib.join xs [32]) = xs
  | [], h, _ => absurd rfl h
  | [x], _, h => by
    have : Lib.join [x] [32] = x := by simp [Lib.join, List.intercalate]
    rw [this, wl_nob x (h x (by simp))]
  | x :: y :: r, _, h => by
    have e : Lib.join (x :: y :: r) [32] = x ++ 32 :: Lib.join (y :: r) [32] := by simp [Lib.join, List.intercalate]
    rw [e, wl_app x _ (h x (by simp)), wl_join (y :: r) (by simp) fun z hz => h z (List.mem_cons_of_mem _ hz)]
theorem join_wl : ∀ (l : List UInt8), Lib.join (wl l) [32] = l
  | [] => rfl
  | b :: l => by
    have ih := join_wl l
    obtain ⟨h, t, hw⟩ := wl_ne l
    by_cases hb : b = 32
    · subst hb
      rw [wl_blank, hw]
      have e : Lib.join ([] :: h :: t) [32] = 32 :: Lib.join (h :: t) [32] := by simp [Lib.join, List.intercalate]
      rw [e, ← hw, ih]
    · rw [wl_other hb hw]
      rw [hw] at ih
      cases t with
      | nil =>
        have e1 : ∀ z : List UInt8, Lib.join [z] [32] = z := fun z => by simp [Lib.join, List.intercalate]
        rw [e1] at ih ⊢; rw [ih]
      | cons y r =>
        have e1 : ∀ z : List UInt8, Lib.join (z :: y :: r) [32] = z ++ 32 :: Lib.join (y :: r) [32] := fun z => by simp [Lib.join, List.intercalate]
        rw [e1] at ih ⊢
        rw [List.cons_append, ih]
theorem below_drew' {B : Nat} {w W : World} (h : Below B w W) : Below B w W.drew := h.drew
theorem eq_tl (h : Nat → Int) (W : World) (ts : TypeId) : True := trivial
theorem textS_chars (n : Int) : ∀ x ∈ textS n, x ≠ 32 := by
  intro x hx e
  subst e
  rw [textS_eq] at hx
  have hd : (32 : Int) ∈ decS n.natAbs → False := fun h => by
    have := (List.all_eq_true.1 (decS_facts n.natAbs).2.1) _ h
    revert this
    decide
  split at hx
  · rcases List.mem_cons.1 hx with h | h
    · omega
    · exact hd h
  · exact hd hx
theorem mem_bs {s : ByteArray} {b : UInt8} (h : b ∈ s.data.toList) : (b.toNat : Int) ∈ bs s := by
  unfold bs
  exact List.mem_map.2 ⟨b, by simpa using h, rfl⟩
theorem text_nob (n : Int) : ∀ b ∈ (tx n).data.toList, b ≠ 32 := by
  intro b hb e
  have h := mem_bs hb
  have e2 : bs (tx n) = textS n := bs_text n
  rw [e2] at h
  exact textS_chars n _ h (by subst e; rfl)
theorem ba_list (l : List UInt8) : (⟨l.toArray⟩ : ByteArray).data.toList = l := by simp
theorem map_ba (xs : List ByteArray) : (xs.map (·.data.toList)).map (fun l : List UInt8 => (⟨l.toArray⟩ : ByteArray)) = xs := by
  rw [List.map_map]
  exact (List.map_congr_left (g := id) fun x _ => (ba_eq rfl).symm).trans (List.map_id _)
theorem wB_line (f : Nat → Int) : wB (lineB f) = txs f 14 := by
  unfold wB lineB
  rw [ba_list, wl_join]
  · exact map_ba _
  · intro e
    have := congrArg List.length e
    simp [txs] at this
  · intro x hx
    obtain ⟨y, hy, rfl⟩ := List.mem_map.1 hx
    obtain ⟨i, hi, rfl⟩ := List.mem_map.1 hy
    exact text_nob (f i)
theorem txs_get (f : Nat → Int) {i : Nat} (h : i < 14) : (txs f 14).getD i ByteArray.empty = tx (f i) := by
  rw [List.getD_eq_getElem?_getD]
  simp [txs, h]
theorem parse_tx {n : Int} (hn : I64 n) : parseS (bs (tx n)) = (n, true) := by
  have e2 : bs (tx n) = textS n := bs_text n
  rw [e2]
  exact parse_text hn
theorem tlC_congr {f g : Nat → Int} (h : ∀ i < 14, f i = g i) : tlC f = tlC g := by
  apply Array.ext_getElem?
  intro i
  by_cases hi : i < 14
  · rw [tlC_get _ i hi, tlC_get _ i hi, h i hi]
  · rw [Array.getElem?_eq_none (by show 14 ≤ i; omega), Array.getElem?_eq_none (by show 14 ≤ i; omega)]
theorem parse_line {f : Nat → Int} (hf : ∀ i < 14, I64 (f i)) : ptV (wB (lineB f)) = .tuple #[.agg (tlC f), .int .i64 0] := by
  rw [wB_line]
  unfold ptV
  rw [if_pos (ptOk_all (txs_len f 14) fun i hi => by rw [txs_get f hi, parse_tx (hf i hi)])]
  rw [tlC_congr (f := pv (txs f 14)) (g := f) fun i hi => by unfold pv; rw [txs_get f hi, parse_tx (hf i hi)]]
theorem tx_of {w : ByteArray} (h : (parseS (bs w)).2 = true) : tx (parseS (bs w)).1 = w := by
  have h1 := (read_yes (l := bs w) (by rw [read_bool, h])).1
  rw [read_val h] at h1
  unfold tx
  rw [← h1]
  exact strOf_bs w
theorem line_parse {s : ByteArray} (h : ptOk (wB s) = true) : lineB (pv (wB s)) = s := by
  unfold ptOk at h
  rw [Bool.and_eq_true, decide_eq_true_eq, List.all_eq_true] at h
  obtain ⟨hl, hp⟩ := h
  have e : txs (pv (wB s)) 14 = wB s := by
    apply List.ext_getElem?
    intro i
    by_cases hi : i < 14
    · have hi2 : i < (wB s).length := by omega
      have hm : (wB s)[i] ∈ wB s := List.getElem_mem _
      have hg : (wB s).getD i ByteArray.empty = (wB s)[i] := by rw [List.getD_eq_getElem?_getD, List.getElem?_eq_getElem hi2]; rfl
      rw [List.getElem?_eq_getElem hi2]
      have := tx_of (hp _ hm)
      simp [txs, hi, pv, List.getElem?_eq_getElem hi2, this]
    · rw [List.getElem?_eq_none (by rw [txs_len]; omega), List.getElem?_eq_none (by omega)]
  unfold lineB
  rw [e]
  have e2 : (wB s).map (·.data.toList) = wl s.data.toList := by
    unfold wB
    rw [List.map_map]
    exact (List.map_congr_left (g := id) fun x _ => by simp).trans (List.map_id _)
  rw [e2, join_wl, ← ba_eq rfl]
set_option maxRecDepth 10000 in
set_option maxHeartbeats 8000000 in
theorem lines_short (f : Nat → Int) (s : ByteArray) (w : World) (hf : ∀ i < 14, I64 (f i)) (hs : s.size ≤ 400) :
    Calls Tryd.prog 3 #[.agg (tlC f), .string s] w fun e w' => e = .returned (.bool true) ∧ Below w.heap.size w w' := by
  have hsi : ¬ (s.size : Int) > 400 := by omega
  have HZ2 := Lib.hid (show (s).size ≤ 400 by omega)
  have LC := Lib.hid (fun W => tline_calls f hf W)
  have RL := Lib.hid (fun W => rline_calls f hf W)
  have P1 := Lib.hid (fun W => show Calls Tryd.prog 6 #[.string (lineB f)] W fun e w' => e = .returned (.tuple #[.agg (tlC f), .int .i64 0]) ∧ Below W.heap.size W w' from by
    have := tparse_calls (lineB f) W (Nat.le_trans (line_size hf) (by decide))
    rw [parse_line hf] at this
    exact this)
  have P2 := Lib.hid (fun W => tparse_calls (s) W (by have := HZ2.out; omega))
  have P3 := Lib.hid (fun W => rtparse_calls (s) W (by have := HZ2.out; omega))
  have AW := Lib.hid (fun W => awake_calls W)
  have OK := Lib.hid (fun (h : ptOk (wB (s)) = true) => line_parse h)
  have LP := Lib.hid (fun W => tline_calls (pv (wB (s))) (fun i _ => pv_bd _ i) W)
  obtain ⟨y, c, hv, hyc⟩ : ∃ (y : Nat → Int) (c : Int), ptV (wB (s)) = .tuple #[.agg (tlC y), .int .i64 c] ∧ ((ptOk (wB (s)) = true ∧ y = pv (wB (s)) ∧ c = 0) ∨ c = 31) := by
    unfold ptV
    by_cases h : ptOk (wB (s)) = true
    · exact ⟨pv (wB (s)), 0, by rw [if_pos h], .inl ⟨h, rfl, rfl⟩⟩
    · exact ⟨fun _ => 0, 31, by rw [if_neg h]; rfl, .inr rfl⟩
  rw [hv] at P2 P3
  have HYC := Lib.hid hyc
  clear hyc hv
  have K0 := Lib.hid (Blk.new w 23 (tlC f))
  have B0 := Lib.hid (below_alloc (Below.refl w.heap.size w) (.cells (tlC f) 23))
  go_enter Tryd.func3, Tryd.ntmps3
  go_upto_region 3 with (fail)
  generalize hs2 : s = s2 at *
  clear hs2
  go_upto_region 4 with (first
    | (refine wpl_load (g := w.heap.size) _ rfl rfl rfl K0.out Tryd.underlying23 rfl (by kernel_rfl) ?_)
    | (go_at_call 7; (with_reducible refine (LC.out _).mono ?_); rintro e w1 ⟨rfl, hb⟩; have B0 := Lib.hid (below_step B0.out hb); have K0 := Lib.hid (K0.out.below hb); clear hb)
    | (go_at_call 6; (with_reducible refine (P1.out _).mono ?_); rintro e w2 ⟨rfl, hb⟩; have B0 := Lib.hid (below_step B0.out hb); have K0 := Lib.hid (K0.out.below hb); clear hb)
    | (refine wpl_store (g := w2.heap.size) rfl rfl rfl rfl (Blk.new w2 23 _) (by kernel_rfl) rfl (tlC_one f) ?_))
  have K5 := Lib.hid ((Blk.new w2 23 zero14).row (tlC f))
  have K0 := Lib.hid ((K0.out.alloc (.cells zero14 23)).rowFar (k := w2.heap.size) (by have := K0.out.lt; omega) (tlC f))
  have B0 := Lib.hid (below_setRow (B0.out.alloc (by have := B0.out.size; omega) (.cells zero14 23)) (g := w2.heap.size) (by have := B0.out.size; omega) (tlC f))
  unfold zero14 at K0 K5 B0
  generalize (w2.alloc _).setRow _ _ = w5 at *
  generalize w2.heap.size = g5 at *
  clear P1
  go_upto_region 5 with (first
    | (go_at_call 6; (with_reducible refine (P2.out _).mono ?_); rintro e w3 ⟨rfl, hb⟩; have B0 := Lib.hid (below_step B0.out hb); have K0 := Lib.hid (K0.out.below hb); have K5 := Lib.hid (K5.out.below hb); clear hb)
    | (refine wpl_store (g := w3.heap.size) rfl rfl rfl rfl (Blk.new w3 23 _) (by kernel_rfl) rfl (tlC_one y) ?_))
  have K7 := Lib.hid ((Blk.new w3 23 zero14).row (tlC y))
  have K0 := Lib.hid ((K0.out.alloc (.cells zero14 23)).rowFar (k := w3.heap.size) (by have := K0.out.lt; omega) (tlC y))
  have K5 := Lib.hid ((K5.out.alloc (.cells zero14 23)).rowFar (k := w3.heap.size) (by have := K5.out.lt; omega) (tlC y))
  have B0 := Lib.hid (below_setRow (B0.out.alloc (by have := B0.out.size; omega) (.cells zero14 23)) (g := w3.heap.size) (by have := B0.out.size; omega) (tlC y))
  unfold zero14 at K0 K5 K7 B0
  generalize (w3.alloc _).setRow _ _ = w7 at *
  generalize w3.heap.size = g7 at *
  clear P2
  go_upto_region 6 with (first
    | (go_at_call 8; (with_reducible refine (P3.out _).mono ?_); rintro e w4 ⟨rfl, hb⟩; have B0 := Lib.hid (below_step B0.out hb); have K0 := Lib.hid (K0.out.below hb); have K5 := Lib.hid (K5.out.below hb); have K7 := Lib.hid (K7.out.below hb); clear hb)
    | (refine wpl_store (g := w4.heap.size) rfl rfl rfl rfl (Blk.new w4 23 _) (by kernel_rfl) rfl (tlC_one y) ?_))
  have K9 := Lib.hid ((Blk.new w4 23 zero14).row (tlC y))
  have K0 := Lib.hid ((K0.out.alloc (.cells zero14 23)).rowFar (k := w4.heap.size) (by have := K0.out.lt; omega) (tlC y))
  have K5 := Lib.hid ((K5.out.alloc (.cells zero14 23)).rowFar (k := w4.heap.size) (by have := K5.out.lt; omega) (tlC y))
  have K7 := Lib.hid ((K7.out.alloc (.cells zero14 23)).rowFar (k := w4.heap.size) (by have := K7.out.lt; omega) (tlC y))
  have B0 := Lib.hid (below_setRow (B0.out.alloc (by have := B0.out.size; omega) (.cells zero14 23)) (g := w4.heap.size) (by have := B0.out.size; omega) (tlC y))
  unfold zero14 at K0 K5 K7 K9 B0
  generalize (w4.alloc _).setRow _ _ = w9 at *
  generalize w4.heap.size = g9 at *
  clear P3
  have EQT := Lib.hid (fun (h : Nat → Int) W => eq_tl h W)
  have WN := Lib.hid (fun W (h : Below w.heap.size w W) => h.size)
  rcases HYC.out with ⟨hok, rfl, rfl⟩ | rfl
  · have LP2 := Lib.hid (show ∀ W, Calls Tryd.prog 7 #[.agg (tlC (pv (wB s2)))] W fun e w' => e = .returned (.string s2) ∧ Below W.heap.size W w' from fun W => by have := LP.out W; rw [OK.out hok] at this; exact this)
    refine wp_region_D [] [.agg (tlC f), .string s2, .pointer (some ⟨w.heap.size, 0, none⟩), undef, .bool true, .pointer (some ⟨g5, 0, none⟩), .int .i64 0, .pointer (some ⟨g7, 0, none⟩), .int .i64 0, .pointer (some ⟨g9, 0, none⟩), .int .i64 0, .string s2, .int .i64 (s2.size : Nat), .bool false, undef, undef, .tuple #[.agg (tlC f), .int .i64 0], .agg (tlC f), .string (lineB f), .tuple #[.agg (tlC f), .int .i64 0], .agg (tlC f), .int .i64 0, .tuple #[.agg (tlC (pv (wB s2))), .int .i64 0], .string s2, .tuple #[.agg (tlC (pv (wB s2))), .int .i64 0], .agg (tlC (pv (wB s2))), .int .i64 0, .tuple #[.agg (tlC (pv (wB s2))), .int .i64 0], .string s2, .tuple #[.agg (tlC (pv (wB s2))), .int .i64 0], .agg (tlC (pv (wB s2))), .int .i64 0, .agg (tlC f), .string (lineB f), .agg (tlC f), .string (lineB f), .bool true, .bool true, .agg (tlC f), .agg (tlC f), .bool true, .bool true, .bool true, .int .i64 0, .bool true, .bool true, .bool true, .agg (tlC (pv (wB s2))), .agg (tlC (pv (wB s2))), .bool true, .bool true, .bool true, .int .i64 0, .int .i64 0, .bool true, .bool true, .bool true, .int .i64 0, .bool false, .bool false, .agg (tlC (pv (wB s2))), .string s2, .string s2, .bool true, .bool true, .bool true, .bool true, .bool true, .bool true] (fun W => Blk W w.heap.size 23 (tlC f) ∧ Blk W g5 23 (tlC f) ∧ Blk W g7 23 (tlC (pv (wB s2))) ∧ Blk W g9 23 (tlC (pv (wB s2))) ∧ Below w.heap.size w W) (by kernel_rfl) rfl (by kernel_rfl) (by kernel_rfl) (by kernel_rfl) ⟨.inr rfl, .inr rfl, .inr rfl, .inr rfl, .inl rfl, .inr rfl, .inr rfl, .inr rfl, .inr rfl, .inr rfl, .inr rfl, .inr rfl, .inr rfl, .inr rfl, .inr rfl, .inr rfl, .inr rfl, .inr rfl, .inr rfl, .inr rfl, .inr rfl, .inr rfl, .inr rfl, .inr rfl, .inr rfl, .inr rfl, .inr rfl, .inr rfl, .inr rfl, .inr rfl, .inr rfl, .inr rfl, .inl rfl, .inl rfl, .inl rfl, .inl rfl, .inl rfl, .inl rfl, .inl rfl, .inl rfl, .inl rfl, .inl rfl, .inl rfl, .inl rfl, .inl rfl, .inl rfl, .inl rfl, .inl rfl, .inl rfl, .inl rfl, .inl rfl, .inl rfl, .inl rfl, .inl rfl, .inl rfl, .inl rfl, .inl rfl, .inl rfl, .inl rfl, .inl rfl, .inl rfl, .inl rfl, .inl rfl, .inl rfl, .inl rfl, .inl rfl, .inl rfl, .inl rfl, .inl rfl, trivial⟩ ⟨K0.out, K5.out, K7.out, K9.out, below_drew' B0.out⟩ ⟨?_, ?_, ?_, ?_, ?_, ?_, ?_, ?_, ?_, ?_, ?_, ?_, ?_, ?_, ?_, ?_, ?_, ?_, ?_, ?_, ?_, ?_, ?_, ?_, ?_, ?_, ?_, ?_, ?_, ?_, ?_, ?_, ?_, ?_, ?_, ?_, ?_, ?_, trivial⟩ ?_
    · exact det_ok rfl (fun W hW => load_blk (g := w.heap.size) _ rfl rfl hW.1 Tryd.underlying23 rfl (by kernel_rfl)) (fun t h => by cases h; rfl)
    · exact det_call 7 (fun _ _ => by kernel_rfl) rfl _ _ rfl #[.agg (tlC f)] (by rfl) (fun W hW => (LC.out W).mono fun e W' ⟨he, hb⟩ => by subst he; exact ⟨rfl, hW.1.below hb, hW.2.1.below hb, hW.2.2.1.below hb, hW.2.2.2.1.below hb, below_step hW.2.2.2.2 hb⟩) (fun t h => by cases h; rfl)
    · exact det_ok rfl (fun W hW => load_blk (g := w.heap.size) _ rfl rfl hW.1 Tryd.underlying23 rfl (by kernel_rfl)) (fun t h => by cases h; rfl)
    · exact det_call 9 (fun _ _ => by kernel_rfl) rfl _ _ rfl #[.agg (tlC f)] (by rfl) (fun W hW => (RL.out W).mono fun e W' ⟨he, hb⟩ => by subst he; exact ⟨rfl, hW.1.below hb, hW.2.1.below hb, hW.2.2.1.below hb, hW.2.2.2.1.below hb, below_step hW.2.2.2.2 hb⟩) (fun t h => by cases h; rfl)
    · exact det_ok (v := .bool true) rfl (fun W hW => by first | rfl | (simp [execOp, evS, seen, go_sem])) (fun t h => by cases h; rfl)
    · exact det_ok (v := .bool true) rfl (fun W hW => by first | rfl | (simp [execOp, evS, seen, go_sem])) (fun t h => by cases h; rfl)
    · exact det_ok rfl (fun W hW => load_blk (g := g5) _ rfl rfl hW.2.1 Tryd.underlying23 rfl (by kernel_rfl)) (fun t h => by cases h; rfl)
    · exact det_ok rfl (fun W hW => load_blk (g := w.heap.size) _ rfl rfl hW.1 Tryd.underlying23 rfl (by kernel_rfl)) (fun t h => by cases h; rfl)
    · exact det_ok (v := .bool true) rfl (fun W hW => by simp [execOp, evS, seen, go_sem, tlC]) (fun t h => by cases h; rfl)
    · exact det_ok (v := .bool true) rfl (fun W hW => by first | rfl | (simp [execOp, evS, seen, go_sem])) (fun t h => by cases h; rfl)
    · exact det_ok (v := .bool true) rfl (fun W hW => by first | rfl | (simp [execOp, evS, seen, go_sem])) (fun t h => by cases h; rfl)
    · exact det_ok (v := .int .i64 0) rfl (fun W hW => by first | rfl | (simp [execOp, evS, seen, go_sem])) (fun t h => by cases h; rfl)
    · exact det_ok (v := .bool true) rfl (fun W hW => by first | rfl | (simp [execOp, evS, seen, go_sem])) (fun t h => by cases h; rfl)
    · exact det_ok (v := .bool true) rfl (fun W hW => by first | rfl | (simp [execOp, evS, seen, go_sem])) (fun t h => by cases h; rfl)
    · exact det_ok (v := .bool true) rfl (fun W hW => by first | rfl | (simp [execOp, evS, seen, go_sem])) (fun t h => by cases h; rfl)
    · exact det_ok rfl (fun W hW => load_blk (g := g7) _ rfl rfl hW.2.2.1 Tryd.underlying23 rfl (by kernel_rfl)) (fun t h => by cases h; rfl)
    · exact det_ok rfl (fun W hW => load_blk (g := g9) _ rfl rfl hW.2.2.2.1 Tryd.underlying23 rfl (by kernel_rfl)) (fun t h => by cases h; rfl)
    · exact det_ok (v := .bool true) rfl (fun W hW => by simp [execOp, evS, seen, go_sem, tlC]) (fun t h => by cases h; rfl)
    · exact det_ok (v := .bool true) rfl (fun W hW => by first | rfl | (simp [execOp, evS, seen, go_sem])) (fun t h => by cases h; rfl)
    · exact det_ok (v := .bool true) rfl (fun W hW => by first | rfl | (simp [execOp, evS, seen, go_sem])) (fun t h => by cases h; rfl)
    · exact det_ok (v := .int .i64 0) rfl (fun W hW => by first | rfl | (simp [execOp, evS, seen, go_sem])) (fun t h => by cases h; rfl)
    · exact det_ok (v := .int .i64 0) rfl (fun W hW => by first | rfl | (simp [execOp, evS, seen, go_sem])) (fun t h => by cases h; rfl)
    · exact det_ok (v := .bool true) rfl (fun W hW => by first | rfl | (simp [execOp, evS, seen, go_sem])) (fun t h => by cases h; rfl)
    · exact det_ok (v := .bool true) rfl (fun W hW => by first | rfl | (simp [execOp, evS, seen, go_sem])) (fun t h => by cases h; rfl)
    · exact det_ok (v := .bool true) rfl (fun W hW => by first | rfl | (simp [execOp, evS, seen, go_sem])) (fun t h => by cases h; rfl)
    · exact det_ok (v := .int .i64 0) rfl (fun W hW => by first | rfl | (simp [execOp, evS, seen, go_sem])) (fun t h => by cases h; rfl)
    · exact det_ok (v := .bool false) rfl (fun W hW => by first | rfl | (simp [execOp, evS, seen, go_sem])) (fun t h => by cases h; rfl)
    · exact det_ok (v := .bool false) rfl (fun W hW => by first | rfl | (simp [execOp, evS, seen, go_sem])) (fun t h => by cases h; rfl)
    · exact det_ok rfl (fun W hW => load_blk (g := g7) _ rfl rfl hW.2.2.1 Tryd.underlying23 rfl (by kernel_rfl)) (fun t h => by cases h; rfl)
    · exact det_call 7 (fun _ _ => by kernel_rfl) rfl _ _ rfl #[.agg (tlC (pv (wB s2)))] (by rfl) (fun W hW => (LP2.out W).mono fun e W' ⟨he, hb⟩ => by subst he; exact ⟨rfl, hW.1.below hb, hW.2.1.below hb, hW.2.2.1.below hb, hW.2.2.2.1.below hb, below_step hW.2.2.2.2 hb⟩) (fun t h => by cases h; rfl)
    · exact det_ok (v := .string s2) rfl (fun W hW => by first | rfl | (simp [execOp, evS, seen, go_sem])) (fun t h => by cases h; rfl)
    · exact det_ok (v := .bool true) rfl (fun W hW => by first | rfl | (simp [execOp, evS, seen, go_sem])) (fun t h => by cases h; rfl)
    · exact det_ok (v := .bool true) rfl (fun W hW => by first | rfl | (simp [execOp, evS, seen, go_sem])) (fun t h => by cases h; rfl)
    · exact det_ok (v := .bool true) rfl (fun W hW => by first | rfl | (simp [execOp, evS, seen, go_sem])) (fun t h => by cases h; rfl)
    · exact det_ok (v := .bool true) rfl (fun W hW => by first | rfl | (simp [execOp, evS, seen, go_sem])) (fun t h => by cases h; rfl)
    · exact det_call 10 (fun _ _ => by kernel_rfl) rfl _ _ rfl #[] (by rfl) (fun W hW => (AW.out W).mono fun e W' ⟨he, hb⟩ => by subst he; exact ⟨rfl, hW.1.below hb, hW.2.1.below hb, hW.2.2.1.below hb, hW.2.2.2.1.below hb, below_step hW.2.2.2.2 hb⟩) (fun t h => by cases h; rfl)
    · exact det_ok (v := .bool true) rfl (fun W hW => by first | rfl | (simp [execOp, evS, seen, go_sem])) (fun t h => by cases h; rfl)
    · exact det_ok (v := .bool true) rfl (fun W hW => by first | rfl | (simp [execOp, evS, seen, go_sem])) (fun t h => by cases h; rfl)
    intro W5 hW5
    go_wp2
    go_ret
    exact ⟨rfl, hW5.2.2.2.2⟩
  · refine wp_region_D [] [.agg (tlC f), .string s2, .pointer (some ⟨w.heap.size, 0, none⟩), undef, .bool true, .pointer (some ⟨g5, 0, none⟩), .int .i64 0, .pointer (some ⟨g7, 0, none⟩), .int .i64 31, .pointer (some ⟨g9, 0, none⟩), .int .i64 31, .string s2, .int .i64 (s2.size : Nat), .bool false, undef, undef, .tuple #[.agg (tlC f), .int .i64 0], .agg (tlC f), .string (lineB f), .tuple #[.agg (tlC f), .int .i64 0], .agg (tlC f), .int .i64 0, .tuple #[.agg (tlC y), .int .i64 31], .string s2, .tuple #[.agg (tlC y), .int .i64 31], .agg (tlC y), .int .i64 31, .tuple #[.agg (tlC y), .int .i64 31], .string s2, .tuple #[.agg (tlC y), .int .i64 31], .agg (tlC y), .int .i64 31, .agg (tlC f), .string (lineB f), .agg (tlC f), .string (lineB f), .bool true, .bool true, .agg (tlC f), .agg (tlC f), .bool true, .bool true, .bool true, .int .i64 0, .bool true, .bool true, .bool true, .agg (tlC y), .agg (tlC y), .bool true, .bool true, .bool true, .int .i64 31, .int .i64 31, .bool true, .bool true, .bool true, .int .i64 31, .bool true, .bool true, undef, undef, undef, undef, .bool true, .bool true, .bool true, .bool true, .bool true] (fun W => Blk W w.heap.size 23 (tlC f) ∧ Blk W g5 23 (tlC f) ∧ Blk W g7 23 (tlC y) ∧ Blk W g9 23 (tlC y) ∧ Below w.heap.size w W) (by kernel_rfl) rfl (by kernel_rfl) (by kernel_rfl) (by kernel_rfl) ⟨.inr rfl, .inr rfl, .inr rfl, .inr rfl, .inl rfl, .inr rfl, .inr rfl, .inr rfl, .inr rfl, .inr rfl, .inr rfl, .inr rfl, .inr rfl, .inr rfl, .inr rfl, .inr rfl, .inr rfl, .inr rfl, .inr rfl, .inr rfl, .inr rfl, .inr rfl, .inr rfl, .inr rfl, .inr rfl, .inr rfl, .inr rfl, .inr rfl, .inr rfl, .inr rfl, .inr rfl, .inr rfl, .inl rfl, .inl rfl, .inl rfl, .inl rfl, .inl rfl, .inl rfl, .inl rfl, .inl rfl, .inl rfl, .inl rfl, .inl rfl, .inl rfl, .inl rfl, .inl rfl, .inl rfl, .inl rfl, .inl rfl, .inl rfl, .inl rfl, .inl rfl, .inl rfl, .inl rfl, .inl rfl, .inl rfl, .inl rfl, .inl rfl, .inl rfl, .inl rfl, .inl rfl, .inl rfl, .inl rfl, .inl rfl, .inl rfl, .inl rfl, .inl rfl, .inl rfl, .inl rfl, trivial⟩ ⟨K0.out, K5.out, K7.out, K9.out, below_drew' B0.out⟩ ⟨?_, ?_, ?_, ?_, ?_, ?_, ?_, ?_, ?_, ?_, ?_, ?_, ?_, ?_, ?_, ?_, ?_, ?_, ?_, ?_, ?_, ?_, ?_, ?_, ?_, ?_, ?_, ?_, ?_, ?_, ?_, ?_, ?_, ?_, ?_, ?_, ?_, ?_, trivial⟩ ?_
    · exact det_ok rfl (fun W hW => load_blk (g := w.heap.size) _ rfl rfl hW.1 Tryd.underlying23 rfl (by kernel_rfl)) (fun t h => by cases h; rfl)
    · exact det_call 7 (fun _ _ => by kernel_rfl) rfl _ _ rfl #[.agg (tlC f)] (by rfl) (fun W hW => (LC.out W).mono fun e W' ⟨he, hb⟩ => by subst he; exact ⟨rfl, hW.1.below hb, hW.2.1.below hb, hW.2.2.1.below hb, hW.2.2.2.1.below hb, below_step hW.2.2.2.2 hb⟩) (fun t h => by cases h; rfl)
    · exact det_ok rfl (fun W hW => load_blk (g := w.heap.size) _ rfl rfl hW.1 Tryd.underlying23 rfl (by kernel_rfl)) (fun t h => by cases h; rfl)
    · exact det_call 9 (fun _ _ => by kernel_rfl) rfl _ _ rfl #[.agg (tlC f)] (by rfl) (fun W hW => (RL.out W).mono fun e W' ⟨he, hb⟩ => by subst he; exact ⟨rfl, hW.1.below hb, hW.2.1.below hb, hW.2.2.1.below hb, hW.2.2.2.1.below hb, below_step hW.2.2.2.2 hb⟩) (fun t h => by cases h; rfl)
    · exact det_ok (v := .bool true) rfl (fun W hW => by first | rfl | (simp [execOp, evS, seen, go_sem])) (fun t h => by cases h; rfl)
    · exact det_ok (v := .bool true) rfl (fun W hW => by first | rfl | (simp [execOp, evS, seen, go_sem])) (fun t h => by cases h; rfl)
    · exact det_ok rfl (fun W hW => load_blk (g := g5) _ rfl rfl hW.2.1 Tryd.underlying23 rfl (by kernel_rfl)) (fun t h => by cases h; rfl)
    · exact det_ok rfl (fun W hW => load_blk (g := w.heap.size) _ rfl rfl hW.1 Tryd.underlying23 rfl (by kernel_rfl)) (fun t h => by cases h; rfl)
    · exact det_ok (v := .bool true) rfl (fun W hW => by simp [execOp, evS, seen, go_sem, tlC]) (fun t h => by cases h; rfl)
    · exact det_ok (v := .bool true) rfl (fun W hW => by first | rfl | (simp [execOp, evS, seen, go_sem])) (fun t h => by cases h; rfl)
    · exact det_ok (v := .bool true) rfl (fun W hW => by first | rfl | (simp [execOp, evS, seen, go_sem])) (fun t h => by cases h; rfl)
    · exact det_ok (v := .int .i64 0) rfl (fun W hW => by first | rfl | (simp [execOp, evS, seen, go_sem])) (fun t h => by cases h; rfl)
    · exact det_ok (v := .bool true) rfl (fun W hW => by first | rfl | (simp [execOp, evS, seen, go_sem])) (fun t h => by cases h; rfl)
    · exact det_ok (v := .bool true) rfl (fun W hW => by first | rfl | (simp [execOp, evS, seen, go_sem])) (fun t h => by cases h; rfl)
    · exact det_ok (v := .bool true) rfl (fun W hW => by first | rfl | (simp [execOp, evS, seen, go_sem])) (fun t h => by cases h; rfl)
    · exact det_ok rfl (fun W hW => load_blk (g := g7) _ rfl rfl hW.2.2.1 Tryd.underlying23 rfl (by kernel_rfl)) (fun t h => by cases h; rfl)
    · exact det_ok rfl (fun W hW => load_blk (g := g9) _ rfl rfl hW.2.2.2.1 Tryd.underlying23 rfl (by kernel_rfl)) (fun t h => by cases h; rfl)
    · exact det_ok (v := .bool true) rfl (fun W hW => by simp [execOp, evS, seen, go_sem, tlC]) (fun t h => by cases h; rfl)
    · exact det_ok (v := .bool true) rfl (fun W hW => by first | rfl | (simp [execOp, evS, seen, go_sem])) (fun t h => by cases h; rfl)
    · exact det_ok (v := .bool true) rfl (fun W hW => by first | rfl | (simp [execOp, evS, seen, go_sem])) (fun t h => by cases h; rfl)
    · exact det_ok (v := .int .i64 31) rfl (fun W hW => by first | rfl | (simp [execOp, evS, seen, go_sem])) (fun t h => by cases h; rfl)
    · exact det_ok (v := .int .i64 31) rfl (fun W hW => by first | rfl | (simp [execOp, evS, seen, go_sem])) (fun t h => by cases h; rfl)
    · exact det_ok (v := .bool true) rfl (fun W hW => by first | rfl | (simp [execOp, evS, seen, go_sem])) (fun t h => by cases h; rfl)
    · exact det_ok (v := .bool true) rfl (fun W hW => by first | rfl | (simp [execOp, evS, seen, go_sem])) (fun t h => by cases h; rfl)
    · exact det_ok (v := .bool true) rfl (fun W hW => by first | rfl | (simp [execOp, evS, seen, go_sem])) (fun t h => by cases h; rfl)
    · exact det_ok (v := .int .i64 31) rfl (fun W hW => by first | rfl | (simp [execOp, evS, seen, go_sem])) (fun t h => by cases h; rfl)
    · exact det_ok (v := .bool true) rfl (fun W hW => by first | rfl | (simp [execOp, evS, seen, go_sem])) (fun t h => by cases h; rfl)
    · exact det_ok (v := .bool true) rfl (fun W hW => by first | rfl | (simp [execOp, evS, seen, go_sem])) (fun t h => by cases h; rfl)
    · exact det_off rfl (fun t h => by cases h; rfl)
    · exact det_off rfl (fun t h => by cases h; rfl)
    · exact det_off rfl (fun t h => by cases h; rfl)
    · exact det_off rfl (fun t h => by cases h; rfl)
    · exact det_ok (v := .bool true) rfl (fun W hW => by first | rfl | (simp [execOp, evS, seen, go_sem])) (fun t h => by cases h; rfl)
    · exact det_ok (v := .bool true) rfl (fun W hW => by first | rfl | (simp [execOp, evS, seen, go_sem])) (fun t h => by cases h; rfl)
    · exact det_ok (v := .bool true) rfl (fun W hW => by first | rfl | (simp [execOp, evS, seen, go_sem])) (fun t h => by cases h; rfl)
    · exact det_call 10 (fun _ _ => by kernel_rfl) rfl _ _ rfl #[] (by rfl) (fun W hW => (AW.out W).mono fun e W' ⟨he, hb⟩ => by subst he; exact ⟨rfl, hW.1.below hb, hW.2.1.below hb, hW.2.2.1.below hb, hW.2.2.2.1.below hb, below_step hW.2.2.2.2 hb⟩) (fun t h => by cases h; rfl)
    · exact det_ok (v := .bool true) rfl (fun W hW => by first | rfl | (simp [execOp, evS, seen, go_sem])) (fun t h => by cases h; rfl)
    · exact det_ok (v := .bool true) rfl (fun W hW => by first | rfl | (simp [execOp, evS, seen, go_sem])) (fun t h => by cases h; rfl)
    intro W5 hW5
    go_wp2
    go_ret
    exact ⟨rfl, hW5.2.2.2.2⟩
set_option maxRecDepth 10000 in
set_option maxHeartbeats 8000000 in
theorem lines_long (f : Nat → Int) (s : ByteArray) (w : World) (hf : ∀ i < 14, I64 (f i)) (hs : 400 < s.size) :
    Calls Tryd.prog 3 #[.agg (tlC f), .string s] w fun e w' => e = .returned (.bool true) ∧ Below w.heap.size w w' := by
  have hsi : (s.size : Int) > 400 := by omega
  have h4 : (400 : Int) ≤ s.size := by omega
  have HZ2 := Lib.hid (show (s.extract 0 400).size ≤ 400 by rw [ByteArray.size_extract]; omega)
  have LC := Lib.hid (fun W => tline_calls f hf W)
  have RL := Lib.hid (fun W => rline_calls f hf W)
  have P1 := Lib.hid (fun W => show Calls Tryd.prog 6 #[.string (lineB f)] W fun e w' => e = .returned (.tuple #[.agg (tlC f), .int .i64 0]) ∧ Below W.heap.size W w' from by
    have := tparse_calls (lineB f) W (Nat.le_trans (line_size hf) (by decide))
    rw [parse_line hf] at this
    exact this)
  have P2 := Lib.hid (fun W => tparse_calls (s.extract 0 400) W (by have := HZ2.out; omega))
  have P3 := Lib.hid (fun W => rtparse_calls (s.extract 0 400) W (by have := HZ2.out; omega))
  have AW := Lib.hid (fun W => awake_calls W)
  have OK := Lib.hid (fun (h : ptOk (wB (s.extract 0 400)) = true) => line_parse h)
  have LP := Lib.hid (fun W => tline_calls (pv (wB (s.extract 0 400))) (fun i _ => pv_bd _ i) W)
  obtain ⟨y, c, hv, hyc⟩ : ∃ (y : Nat → Int) (c : Int), ptV (wB (s.extract 0 400)) = .tuple #[.agg (tlC y), .int .i64 c] ∧ ((ptOk (wB (s.extract 0 400)) = true ∧ y = pv (wB (s.extract 0 400)) ∧ c = 0) ∨ c = 31) := by
    unfold ptV
    by_cases h : ptOk (wB (s.extract 0 400)) = true
    · exact ⟨pv (wB (s.extract 0 400)), 0, by rw [if_pos h], .inl ⟨h, rfl, rfl⟩⟩
    · exact ⟨fun _ => 0, 31, by rw [if_neg h]; rfl, .inr rfl⟩
  rw [hv] at P2 P3
  have HYC := Lib.hid hyc
  clear hyc hv
  have K0 := Lib.hid (Blk.new w 23 (tlC f))
  have B0 := Lib.hid (below_alloc (Below.refl w.heap.size w) (.cells (tlC f) 23))
  go_enter Tryd.func3, Tryd.ntmps3
  go_upto_region 3 with (fail)
  generalize hs2 : s.extract 0 400 = s2 at *
  clear hs2
  go_upto_region 4 with (first
    | (refine wpl_load (g := w.heap.size) _ rfl rfl rfl K0.out Tryd.underlying23 rfl (by kernel_rfl) ?_)
    | (go_at_call 7; (with_reducible refine (LC.out _).mono ?_); rintro e w1 ⟨rfl, hb⟩; have B0 := Lib.hid (below_step B0.out hb); have K0 := Lib.hid (K0.out.below hb); clear hb)
    | (go_at_call 6; (with_reducible refine (P1.out _).mono ?_); rintro e w2 ⟨rfl, hb⟩; have B0 := Lib.hid (below_step B0.out hb); have K0 := Lib.hid (K0.out.below hb); clear hb)
    | (refine wpl_store (g := w2.heap.size) rfl rfl rfl rfl (Blk.new w2 23 _) (by kernel_rfl) rfl (tlC_one f) ?_))
  have K5 := Lib.hid ((Blk.new w2 23 zero14).row (tlC f))
  have K0 := Lib.hid ((K0.out.alloc (.cells zero14 23)).rowFar (k := w2.heap.size) (by have := K0.out.lt; omega) (tlC f))
  have B0 := Lib.hid (below_setRow (B0.out.alloc (by have := B0.out.size; omega) (.cells zero14 23)) (g := w2.heap.size) (by have := B0.out.size; omega) (tlC f))
  unfold zero14 at K0 K5 B0
  generalize (w2.alloc _).setRow _ _ = w5 at *
  generalize w2.heap.size = g5 at *
  clear P1
  go_upto_region 5 with (first
    | (go_at_call 6; (with_reducible refine (P2.out _).mono ?_); rintro e w3 ⟨rfl, hb⟩; have B0 := Lib.hid (below_step B0.out hb); have K0 := Lib.hid (K0.out.below hb); have K5 := Lib.hid (K5.out.below hb); clear hb)
    | (refine wpl_store (g := w3.heap.size) rfl rfl rfl rfl (Blk.new w3 23 _) (by kernel_rfl) rfl (tlC_one y) ?_))
  have K7 := Lib.hid ((Blk.new w3 23 zero14).row (tlC y))
  have K0 := Lib.hid ((K0.out.alloc (.cells zero14 23)).rowFar (k := w3.heap.size) (by have := K0.out.lt; omega) (tlC y))
  have K5 := Lib.hid ((K5.out.alloc (.cells zero14 23)).rowFar (k := w3.heap.size) (by have := K5.out.lt; omega) (tlC y))
  have B0 := Lib.hid (below_setRow (B0.out.alloc (by have := B0.out.size; omega) (.cells zero14 23)) (g := w3.heap.size) (by have := B0.out.size; omega) (tlC y))
  unfold zero14 at K0 K5 K7 B0
  generalize (w3.alloc _).setRow _ _ = w7 at *
  generalize w3.heap.size = g7 at *
  clear P2
  go_upto_region 6 with (first
    | (go_at_call 8; (with_reducible refine (P3.out _).mono ?_); rintro e w4 ⟨rfl, hb⟩; have B0 := Lib.hid (below_step B0.out hb); have K0 := Lib.hid (K0.out.below hb); have K5 := Lib.hid (K5.out.below hb); have K7 := Lib.hid (K7.out.below hb); clear hb)
    | (refine wpl_store (g := w4.heap.size) rfl rfl rfl rfl (Blk.new w4 23 _) (by kernel_rfl) rfl (tlC_one y) ?_))
  have K9 := Lib.hid ((Blk.new w4 23 zero14).row (tlC y))
  have K0 := Lib.hid ((K0.out.alloc (.cells zero14 23)).rowFar (k := w4.heap.size) (by have := K0.out.lt; omega) (tlC y))
  have K5 := Lib.hid ((K5.out.alloc (.cells zero14 23)).rowFar (k := w4.heap.size) (by have := K5.out.lt; omega) (tlC y))
  have K7 := Lib.hid ((K7.out.alloc (.cells zero14 23)).rowFar (k := w4.heap.size) (by have := K7.out.lt; omega) (tlC y))
  have B0 := Lib.hid (below_setRow (B0.out.alloc (by have := B0.out.size; omega) (.cells zero14 23)) (g := w4.heap.size) (by have := B0.out.size; omega) (tlC y))
  unfold zero14 at K0 K5 K7 K9 B0
  generalize (w4.alloc _).setRow _ _ = w9 at *
  generalize w4.heap.size = g9 at *
  clear P3
  have EQT := Lib.hid (fun (h : Nat → Int) W => eq_tl h W)
  have WN := Lib.hid (fun W (h : Below w.heap.size w W) => h.size)
  rcases HYC.out with ⟨hok, rfl, rfl⟩ | rfl
  · have LP2 := Lib.hid (show ∀ W, Calls Tryd.prog 7 #[.agg (tlC (pv (wB s2)))] W fun e w' => e = .returned (.string s2) ∧ Below W.heap.size W w' from fun W => by have := LP.out W; rw [OK.out hok] at this; exact this)
    refine wp_region_D [] [.agg (tlC f), .string s2, .pointer (some ⟨w.heap.size, 0, none⟩), undef, .bool true, .pointer (some ⟨g5, 0, none⟩), .int .i64 0, .pointer (some ⟨g7, 0, none⟩), .int .i64 0, .pointer (some ⟨g9, 0, none⟩), .int .i64 0, .string s, .int .i64 (s.size : Nat), .bool true, .string s, .string s2, .tuple #[.agg (tlC f), .int .i64 0], .agg (tlC f), .string (lineB f), .tuple #[.agg (tlC f), .int .i64 0], .agg (tlC f), .int .i64 0, .tuple #[.agg (tlC (pv (wB s2))), .int .i64 0], .string s2, .tuple #[.agg (tlC (pv (wB s2))), .int .i64 0], .agg (tlC (pv (wB s2))), .int .i64 0, .tuple #[.agg (tlC (pv (wB s2))), .int .i64 0], .string s2, .tuple #[.agg (tlC (pv (wB s2))), .int .i64 0], .agg (tlC (pv (wB s2))), .int .i64 0, .agg (tlC f), .string (lineB f), .agg (tlC f), .string (lineB f), .bool true, .bool true, .agg (tlC f), .agg (tlC f), .bool true, .bool true, .bool true, .int .i64 0, .bool true, .bool true, .bool true, .agg (tlC (pv (wB s2))), .agg (tlC (pv (wB s2))), .bool true, .bool true, .bool true, .int .i64 0, .int .i64 0, .bool true, .bool true, .bool true, .int .i64 0, .bool false, .bool false, .agg (tlC (pv (wB s2))), .string s2, .string s2, .bool true, .bool true, .bool true, .bool true, .bool true, .bool true] (fun W => Blk W w.heap.size 23 (tlC f) ∧ Blk W g5 23 (tlC f) ∧ Blk W g7 23 (tlC (pv (wB s2))) ∧ Blk W g9 23 (tlC (pv (wB s2))) ∧ Below w.heap.size w W) (by kernel_rfl) rfl (by kernel_rfl) (by kernel_rfl) (by kernel_rfl) ⟨.inr rfl, .inr rfl, .inr rfl, .inr rfl, .inl rfl, .inr rfl, .inr rfl, .inr rfl, .inr rfl, .inr rfl, .inr rfl, .inr rfl, .inr rfl, .inr rfl, .inr rfl, .inr rfl, .inr rfl, .inr rfl, .inr rfl, .inr rfl, .inr rfl, .inr rfl, .inr rfl, .inr rfl, .inr rfl, .inr rfl, .inr rfl, .inr rfl, .inr rfl, .inr rfl, .inr rfl, .inr rfl, .inl rfl, .inl rfl, .inl rfl, .inl rfl, .inl rfl, .inl rfl, .inl rfl, .inl rfl, .inl rfl, .inl rfl, .inl rfl, .inl rfl, .inl rfl, .inl rfl, .inl rfl, .inl rfl, .inl rfl, .inl rfl, .inl rfl, .inl rfl, .inl rfl, .inl rfl, .inl rfl, .inl rfl, .inl rfl, .inl rfl, .inl rfl, .inl rfl, .inl rfl, .inl rfl, .inl rfl, .inl rfl, .inl rfl, .inl rfl, .inl rfl, .inl rfl, .inl rfl, trivial⟩ ⟨K0.out, K5.out, K7.out, K9.out, below_drew' B0.out⟩ ⟨?_, ?_, ?_, ?_, ?_, ?_, ?_, ?_, ?_, ?_, ?_, ?_, ?_, ?_, ?_, ?_, ?_, ?_, ?_, ?_, ?_, ?_, ?_, ?_, ?_, ?_, ?_, ?_, ?_, ?_, ?_, ?_, ?_, ?_, ?_, ?_, ?_, ?_, trivial⟩ ?_
    · exact det_ok rfl (fun W hW => load_blk (g := w.heap.size) _ rfl rfl hW.1 Tryd.underlying23 rfl (by kernel_rfl)) (fun t h => by cases h; rfl)
    · exact det_call 7 (fun _ _ => by kernel_rfl) rfl _ _ rfl #[.agg (tlC f)] (by rfl) (fun W hW => (LC.out W).mono fun e W' ⟨he, hb⟩ => by subst he; exact ⟨rfl, hW.1.below hb, hW.2.1.below hb, hW.2.2.1.below hb, hW.2.2.2.1.below hb, below_step hW.2.2.2.2 hb⟩) (fun t h => by cases h; rfl)
    · exact det_ok rfl (fun W hW => load_blk (g := w.heap.size) _ rfl rfl hW.1 Tryd.underlying23 rfl (by kernel_rfl)) (fun t h => by cases h; rfl)
    · exact det_call 9 (fun _ _ => by kernel_rfl) rfl _ _ rfl #[.agg (tlC f)] (by rfl) (fun W hW => (RL.out W).mono fun e W' ⟨he, hb⟩ => by subst he; exact ⟨rfl, hW.1.below hb, hW.2.1.below hb, hW.2.2.1.below hb, hW.2.2.2.1.below hb, below_step hW.2.2.2.2 hb⟩) (fun t h => by cases h; rfl)
    · exact det_ok (v := .bool true) rfl (fun W hW => by first | rfl | (simp [execOp, evS, seen, go_sem])) (fun t h => by cases h; rfl)
    · exact det_ok (v := .bool true) rfl (fun W hW => by first | rfl | (simp [execOp, evS, seen, go_sem])) (fun t h => by cases h; rfl)
    · exact det_ok rfl (fun W hW => load_blk (g := g5) _ rfl rfl hW.2.1 Tryd.underlying23 rfl (by kernel_rfl)) (fun t h => by cases h; rfl)
    · exact det_ok rfl (fun W hW => load_blk (g := w.heap.size) _ rfl rfl hW.1 Tryd.underlying23 rfl (by kernel_rfl)) (fun t h => by cases h; rfl)
    · exact det_ok (v := .bool true) rfl (fun W hW => by simp [execOp, evS, seen, go_sem, tlC]) (fun t h => by cases h; rfl)
    · exact det_ok (v := .bool true) rfl (fun W hW => by first | rfl | (simp [execOp, evS, seen, go_sem])) (fun t h => by cases h; rfl)
    · exact det_ok (v := .bool true) rfl (fun W hW => by first | rfl | (simp [execOp, evS, seen, go_sem])) (fun t h => by cases h; rfl)
    · exact det_ok (v := .int .i64 0) rfl (fun W hW => by first | rfl | (simp [execOp, evS, seen, go_sem])) (fun t h => by cases h; rfl)
    · exact det_ok (v := .bool true) rfl (fun W hW => by first | rfl | (simp [execOp, evS, seen, go_sem])) (fun t h => by cases h; rfl)
    · exact det_ok (v := .bool true) rfl (fun W hW => by first | rfl | (simp [execOp, evS, seen, go_sem])) (fun t h => by cases h; rfl)
    · exact det_ok (v := .bool true) rfl (fun W hW => by first | rfl | (simp [execOp, evS, seen, go_sem])) (fun t h => by cases h; rfl)
    · exact det_ok rfl (fun W hW => load_blk (g := g7) _ rfl rfl hW.2.2.1 Tryd.underlying23 rfl (by kernel_rfl)) (fun t h => by cases h; rfl)
    · exact det_ok rfl (fun W hW => load_blk (g := g9) _ rfl rfl hW.2.2.2.1 Tryd.underlying23 rfl (by kernel_rfl)) (fun t h => by cases h; rfl)
    · exact det_ok (v := .bool true) rfl (fun W hW => by simp [execOp, evS, seen, go_sem, tlC]) (fun t h => by cases h; rfl)
    · exact det_ok (v := .bool true) rfl (fun W hW => by first | rfl | (simp [execOp, evS, seen, go_sem])) (fun t h => by cases h; rfl)
    · exact det_ok (v := .bool true) rfl (fun W hW => by first | rfl | (simp [execOp, evS, seen, go_sem])) (fun t h => by cases h; rfl)
    · exact det_ok (v := .int .i64 0) rfl (fun W hW => by first | rfl | (simp [execOp, evS, seen, go_sem])) (fun t h => by cases h; rfl)
    · exact det_ok (v := .int .i64 0) rfl (fun W hW => by first | rfl | (simp [execOp, evS, seen, go_sem])) (fun t h => by cases h; rfl)
    · exact det_ok (v := .bool true) rfl (fun W hW => by first | rfl | (simp [execOp, evS, seen, go_sem])) (fun t h => by cases h; rfl)
    · exact det_ok (v := .bool true) rfl (fun W hW => by first | rfl | (simp [execOp, evS, seen, go_sem])) (fun t h => by cases h; rfl)
    · exact det_ok (v := .bool true) rfl (fun W hW => by first | rfl | (simp [execOp, evS, seen, go_sem])) (fun t h => by cases h; rfl)
    · exact det_ok (v := .int .i64 0) rfl (fun W hW => by first | rfl | (simp [execOp, evS, seen, go_sem])) (fun t h => by cases h; rfl)
    · exact det_ok (v := .bool false) rfl (fun W hW => by first | rfl | (simp [execOp, evS, seen, go_sem])) (fun t h => by cases h; rfl)
    · exact det_ok (v := .bool false) rfl (fun W hW => by first | rfl | (simp [execOp, evS, seen, go_sem])) (fun t h => by cases h; rfl)
    · exact det_ok rfl (fun W hW => load_blk (g := g7) _ rfl rfl hW.2.2.1 Tryd.underlying23 rfl (by kernel_rfl)) (fun t h => by cases h; rfl)
    · exact det_call 7 (fun _ _ => by kernel_rfl) rfl _ _ rfl #[.agg (tlC (pv (wB s2)))] (by rfl) (fun W hW => (LP2.out W).mono fun e W' ⟨he, hb⟩ => by subst he; exact ⟨rfl, hW.1.below hb, hW.2.1.below hb, hW.2.2.1.below hb, hW.2.2.2.1.below hb, below_step hW.2.2.2.2 hb⟩) (fun t h => by cases h; rfl)
    · exact det_ok (v := .string s2) rfl (fun W hW => by first | rfl | (simp [execOp, evS, seen, go_sem])) (fun t h => by cases h; rfl)
    · exact det_ok (v := .bool true) rfl (fun W hW => by first | rfl | (simp [execOp, evS, seen, go_sem])) (fun t h => by cases h; rfl)
    · exact det_ok (v := .bool true) rfl (fun W hW => by first | rfl | (simp [execOp, evS, seen, go_sem])) (fun t h => by cases h; rfl)
    · exact det_ok (v := .bool true) rfl (fun W hW => by first | rfl | (simp [execOp, evS, seen, go_sem])) (fun t h => by cases h; rfl)
    · exact det_ok (v := .bool true) rfl (fun W hW => by first | rfl | (simp [execOp, evS, seen, go_sem])) (fun t h => by cases h; rfl)
    · exact det_call 10 (fun _ _ => by kernel_rfl) rfl _ _ rfl #[] (by rfl) (fun W hW => (AW.out W).mono fun e W' ⟨he, hb⟩ => by subst he; exact ⟨rfl, hW.1.below hb, hW.2.1.below hb, hW.2.2.1.below hb, hW.2.2.2.1.below hb, below_step hW.2.2.2.2 hb⟩) (fun t h => by cases h; rfl)
    · exact det_ok (v := .bool true) rfl (fun W hW => by first | rfl | (simp [execOp, evS, seen, go_sem])) (fun t h => by cases h; rfl)
    · exact det_ok (v := .bool true) rfl (fun W hW => by first | rfl | (simp [execOp, evS, seen, go_sem])) (fun t h => by cases h; rfl)
    intro W5 hW5
    go_wp2
    go_ret
    exact ⟨rfl, hW5.2.2.2.2⟩
  · refine wp_region_D [] [.agg (tlC f), .string s2, .pointer (some ⟨w.heap.size, 0, none⟩), undef, .bool true, .pointer (some ⟨g5, 0, none⟩), .int .i64 0, .pointer (some ⟨g7, 0, none⟩), .int .i64 31, .pointer (some ⟨g9, 0, none⟩), .int .i64 31, .string s, .int .i64 (s.size : Nat), .bool true, .string s, .string s2, .tuple #[.agg (tlC f), .int .i64 0], .agg (tlC f), .string (lineB f), .tuple #[.agg (tlC f), .int .i64 0], .agg (tlC f), .int .i64 0, .tuple #[.agg (tlC y), .int .i64 31], .string s2, .tuple #[.agg (tlC y), .int .i64 31], .agg (tlC y), .int .i64 31, .tuple #[.agg (tlC y), .int .i64 31], .string s2, .tuple #[.agg (tlC y), .int .i64 31], .agg (tlC y), .int .i64 31, .agg (tlC f), .string (lineB f), .agg (tlC f), .string (lineB f), .bool true, .bool true, .agg (tlC f), .agg (tlC f), .bool true, .bool true, .bool true, .int .i64 0, .bool true, .bool true, .bool true, .agg (tlC y), .agg (tlC y), .bool true, .bool true, .bool true, .int .i64 31, .int .i64 31, .bool true, .bool true, .bool true, .int .i64 31, .bool true, .bool true, undef, undef, undef, undef, .bool true, .bool true, .bool true, .bool true, .bool true] (fun W => Blk W w.heap.size 23 (tlC f) ∧ Blk W g5 23 (tlC f) ∧ Blk W g7 23 (tlC y) ∧ Blk W g9 23 (tlC y) ∧ Below w.heap.size w W) (by kernel_rfl) rfl (by kernel_rfl) (by kernel_rfl) (by kernel_rfl) ⟨.inr rfl, .inr rfl, .inr rfl, .inr rfl, .inl rfl, .inr rfl, .inr rfl, .inr rfl, .inr rfl, .inr rfl, .inr rfl, .inr rfl, .inr rfl, .inr rfl, .inr rfl, .inr rfl, .inr rfl, .inr rfl, .inr rfl, .inr rfl, .inr rfl, .inr rfl, .inr rfl, .inr rfl, .inr rfl, .inr rfl, .inr rfl, .inr rfl, .inr rfl, .inr rfl, .inr rfl, .inr rfl, .inl rfl, .inl rfl, .inl rfl, .inl rfl, .inl rfl, .inl rfl, .inl rfl, .inl rfl, .inl rfl, .inl rfl, .inl rfl, .inl rfl, .inl rfl, .inl rfl, .inl rfl, .inl rfl, .inl rfl, .inl rfl, .inl rfl, .inl rfl, .inl rfl, .inl rfl, .inl rfl, .inl rfl, .inl rfl, .inl rfl, .inl rfl, .inl rfl, .inl rfl, .inl rfl, .inl rfl, .inl rfl, .inl rfl, .inl rfl, .inl rfl, .inl rfl, .inl rfl, trivial⟩ ⟨K0.out, K5.out, K7.out, K9.out, below_drew' B0.out⟩ ⟨?_, ?_, ?_, ?_, ?_, ?_, ?_, ?_, ?_, ?_, ?_, ?_, ?_, ?_, ?_, ?_, ?_, ?_, ?_, ?_, ?_, ?_, ?_, ?_, ?_, ?_, ?_, ?_, ?_, ?_, ?_, ?_, ?_, ?_, ?_, ?_, ?_, ?_, trivial⟩ ?_
    · exact det_ok rfl (fun W hW => load_blk (g := w.heap.size) _ rfl rfl hW.1 Tryd.underlying23 rfl (by kernel_rfl)) (fun t h => by cases h; rfl)
    · exact det_call 7 (fun _ _ => by kernel_rfl) rfl _ _ rfl #[.agg (tlC f)] (by rfl) (fun W hW => (LC.out W).mono fun e W' ⟨he, hb⟩ => by subst he; exact ⟨rfl, hW.1.below hb, hW.2.1.below hb, hW.2.2.1.below hb, hW.2.2.2.1.below hb, below_step hW.2.2.2.2 hb⟩) (fun t h => by cases h; rfl)
    · exact det_ok rfl (fun W hW => load_blk (g := w.heap.size) _ rfl rfl hW.1 Tryd.underlying23 rfl (by kernel_rfl)) (fun t h => by cases h; rfl)
    · exact det_call 9 (fun _ _ => by kernel_rfl) rfl _ _ rfl #[.agg (tlC f)] (by rfl) (fun W hW => (RL.out W).mono fun e W' ⟨he, hb⟩ => by subst he; exact ⟨rfl, hW.1.below hb, hW.2.1.below hb, hW.2.2.1.below hb, hW.2.2.2.1.below hb, below_step hW.2.2.2.2 hb⟩) (fun t h => by cases h; rfl)
    · exact det_ok (v := .bool true) rfl (fun W hW => by first | rfl | (simp [execOp, evS, seen, go_sem])) (fun t h => by cases h; rfl)
    · exact det_ok (v := .bool true) rfl (fun W hW => by first | rfl | (simp [execOp, evS, seen, go_sem])) (fun t h => by cases h; rfl)
    · exact det_ok rfl (fun W hW => load_blk (g := g5) _ rfl rfl hW.2.1 Tryd.underlying23 rfl (by kernel_rfl)) (fun t h => by cases h; rfl)
    · exact det_ok rfl (fun W hW => load_blk (g := w.heap.size) _ rfl rfl hW.1 Tryd.underlying23 rfl (by kernel_rfl)) (fun t h => by cases h; rfl)
    · exact det_ok (v := .bool true) rfl (fun W hW => by simp [execOp, evS, seen, go_sem, tlC]) (fun t h => by cases h; rfl)
    · exact det_ok (v := .bool true) rfl (fun W hW => by first | rfl | (simp [execOp, evS, seen, go_sem])) (fun t h => by cases h; rfl)
    · exact det_ok (v := .bool true) rfl (fun W hW => by first | rfl | (simp [execOp, evS, seen, go_sem])) (fun t h => by cases h; rfl)
    · exact det_ok (v := .int .i64 0) rfl (fun W hW => by first | rfl | (simp [execOp, evS, seen, go_sem])) (fun t h => by cases h; rfl)
    · exact det_ok (v := .bool true) rfl (fun W hW => by first | rfl | (simp [execOp, evS, seen, go_sem])) (fun t h => by cases h; rfl)
    · exact det_ok (v := .bool true) rfl (fun W hW => by first | rfl | (simp [execOp, evS, seen, go_sem])) (fun t h => by cases h; rfl)
    · exact det_ok (v := .bool true) rfl (fun W hW => by first | rfl | (simp [execOp, evS, seen, go_sem])) (fun t h => by cases h; rfl)
    · exact det_ok rfl (fun W hW => load_blk (g := g7) _ rfl rfl hW.2.2.1 Tryd.underlying23 rfl (by kernel_rfl)) (fun t h => by cases h; rfl)
    · exact det_ok rfl (fun W hW => load_blk (g := g9) _ rfl rfl hW.2.2.2.1 Tryd.underlying23 rfl (by kernel_rfl)) (fun t h => by cases h; rfl)
    · exact det_ok (v := .bool true) rfl (fun W hW => by simp [execOp, evS, seen, go_sem, tlC]) (fun t h => by cases h; rfl)
    · exact det_ok (v := .bool true) rfl (fun W hW => by first | rfl | (simp [execOp, evS, seen, go_sem])) (fun t h => by cases h; rfl)
    · exact det_ok (v := .bool true) rfl (fun W hW => by first | rfl | (simp [execOp, evS, seen, go_sem])) (fun t h => by cases h; rfl)
    · exact det_ok (v := .int .i64 31) rfl (fun W hW => by first | rfl | (simp [execOp, evS, seen, go_sem])) (fun t h => by cases h; rfl)
    · exact det_ok (v := .int .i64 31) rfl (fun W hW => by first | rfl | (simp [execOp, evS, seen, go_sem])) (fun t h => by cases h; rfl)
    · exact det_ok (v := .bool true) rfl (fun W hW => by first | rfl | (simp [execOp, evS, seen, go_sem])) (fun t h => by cases h; rfl)
    · exact det_ok (v := .bool true) rfl (fun W hW => by first | rfl | (simp [execOp, evS, seen, go_sem])) (fun t h => by cases h; rfl)
    · exact det_ok (v := .bool true) rfl (fun W hW => by first | rfl | (simp [execOp, evS, seen, go_sem])) (fun t h => by cases h; rfl)
    · exact det_ok (v := .int .i64 31) rfl (fun W hW => by first | rfl | (simp [execOp, evS, seen, go_sem])) (fun t h => by cases h; rfl)
    · exact det_ok (v := .bool true) rfl (fun W hW => by first | rfl | (simp [execOp, evS, seen, go_sem])) (fun t h => by cases h; rfl)
    · exact det_ok (v := .bool true) rfl (fun W hW => by first | rfl | (simp [execOp, evS, seen, go_sem])) (fun t h => by cases h; rfl)
    · exact det_off rfl (fun t h => by cases h; rfl)
    · exact det_off rfl (fun t h => by cases h; rfl)
    · exact det_off rfl (fun t h => by cases h; rfl)
    · exact det_off rfl (fun t h => by cases h; rfl)
    · exact det_ok (v := .bool true) rfl (fun W hW => by first | rfl | (simp [execOp, evS, seen, go_sem])) (fun t h => by cases h; rfl)
    · exact det_ok (v := .bool true) rfl (fun W hW => by first | rfl | (simp [execOp, evS, seen, go_sem])) (fun t h => by cases h; rfl)
    · exact det_ok (v := .bool true) rfl (fun W hW => by first | rfl | (simp [execOp, evS, seen, go_sem])) (fun t h => by cases h; rfl)
    · exact det_call 10 (fun _ _ => by kernel_rfl) rfl _ _ rfl #[] (by rfl) (fun W hW => (AW.out W).mono fun e W' ⟨he, hb⟩ => by subst he; exact ⟨rfl, hW.1.below hb, hW.2.1.below hb, hW.2.2.1.below hb, hW.2.2.2.1.below hb, below_step hW.2.2.2.2 hb⟩) (fun t h => by cases h; rfl)
    · exact det_ok (v := .bool true) rfl (fun W hW => by first | rfl | (simp [execOp, evS, seen, go_sem])) (fun t h => by cases h; rfl)
    · exact det_ok (v := .bool true) rfl (fun W hW => by first | rfl | (simp [execOp, evS, seen, go_sem])) (fun t h => by cases h; rfl)
    intro W5 hW5
    go_wp2
    go_ret
    exact ⟨rfl, hW5.2.2.2.2⟩
theorem lines28_walk (f : Nat → Int) (s : ByteArray) (w : World) (hf : ∀ i < 14, I64 (f i)) (hs : s.size ≤ 9223372036854775807) :
    Calls Tryd.prog 3 #[.agg (tlC f), .string s] w fun e w' => e = .returned (.bool true) ∧ Below w.heap.size w w' := by
  by_cases h : s.size ≤ 400
  · exact lines_short f s w hf h
  · exact lines_long f s w hf (by omega)
end Go.Proofs.YtmopicpjhdekhaaDoor.Ct
