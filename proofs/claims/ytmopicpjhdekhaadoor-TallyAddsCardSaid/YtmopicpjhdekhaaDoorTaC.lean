import Derived.Test.YtmopicpjhdekhaaDoorTaB
/-! tally.Parse. -/
namespace Go.Proofs.YtmopicpjhdekhaaDoor.Ct
open Go.RowKit
set_option linter.unusedVariables false
set_option linter.unusedSimpArgs false
theorem catch_idle (a b : Option Addr) (w : World) :
    CallsD Tryd.prog 22 #[.pointer a, .pointer b] .returning w fun e u' w' => e = .returned (.tuple #[]) ∧ u' = .returning ∧ w' = w := by
  refine callsD_of_wpS Tryd.func22 rfl fun c₀ cs hu => ?_
  apply wpS_seq
  apply wpS_region
  simp [wpOpsS, go_sem, recoverD, hu, Tryd.ntmps22, Exit.thenS]
  simp only [Array.replicate_succ, Array.replicate_zero, List.push_toArray, List.append_toArray, List.nil_append, List.cons_append, List.setIfInBounds_toArray, List.set_cons_zero, List.set_cons_succ]
  refine wpS_of_wp ?_
  go_wp2
  simp [bodyPostS, results, Tryd.results22]
  cases c₀
  simp_all
theorem loadVar_int {P : Program} (w : World) (g : Nat) (t ty : TypeId) (k : IntKind) (v : Value) (hu : P.underlying ty = some (.int k)) (hg : Blk w g t #[v]) : (loadVar ty ⟨g, 0, none⟩).run P w = .ok v w := by
  have hc := hg.cell 0
  have ha : (isAgg ty).run P w = .ok false w := by
    unfold isAgg
    simp [go_sem, run_underlying hu]
  unfold loadVar
  simp [go_sem, ha, hc]
theorem results_cc {P : Program} {fn : Func} {p q : Tmp} {ty tz : TypeId} (h : fn.results = #[.cell p ty, .cell q tz]) (tmps : Array Value) (w : World) (g g2 : Nat) (t t2 : TypeId) (cs : Array Value) (v : Value) (d : TypeDesc) (k : IntKind)
    (hp : tmps.getD p undef = .pointer (some ⟨g, 0, none⟩)) (hq : tmps.getD q undef = .pointer (some ⟨g2, 0, none⟩)) (hg : Blk w g t cs) (hg2 : Blk w g2 t2 #[v])
    (hu : P.underlying ty = some d) (hd : (match d with | .struct _ | .array _ _ => true | _ => false) = true) (hi : (P.info? ty).map (·.size) = some cs.size) (hz : P.underlying tz = some (.int k)) :
    (results fn tmps).run P w = .ok (.tuple #[.agg cs, v]) w := by
  have hp' : tmps[p]?.getD undef = .pointer (some ⟨g, 0, none⟩) := by simpa using hp
  have hq' : tmps[q]?.getD undef = .pointer (some ⟨g2, 0, none⟩) := by simpa using hq
  simp [results, h, hp', hq', asAddr, run_loadVar_row w g t ty cs (0, 0) d hg hu hd hi, loadVar_int w g2 t2 tz k v hz hg2]
/-- may the words be a tally's? -/
def ptOk (ws : List ByteArray) : Bool := decide (ws.length = 14) && ws.all fun x => (parseS (bs x)).2
def pv (ws : List ByteArray) (i : Nat) : Int := (parseS (bs (ws.getD i ByteArray.empty))).1
def ptV (ws : List ByteArray) : Value := .tuple (if ptOk ws = true then #[.agg (tlC (pv ws)), .int .i64 0] else #[.agg zero14, .int .i64 31])
theorem wl_size : ∀ (l : List UInt8) (x : List UInt8), x ∈ wl l → x.length ≤ l.length
  | [], x, h => by simp [wl] at h; subst h; simp
  | b :: l, x, h => by
    by_cases hb : b = 32
    · subst hb
      rw [wl_blank] at h
      rcases List.mem_cons.1 h with rfl | h
      · simp
      · exact Nat.le_succ_of_le (wl_size l x h)
    · obtain ⟨u, t, hw⟩ := wl_ne l
      rw [wl_other hb hw] at h
      rcases List.mem_cons.1 h with rfl | h
      · have := wl_size l u (by rw [hw]; exact List.mem_cons_self)
        simpa using this
      · exact Nat.le_succ_of_le (wl_size l x (by rw [hw]; exact List.mem_cons_of_mem _ h))
theorem wB_size {s x : ByteArray} (h : x ∈ wB s) : x.size ≤ s.size := by
  obtain ⟨l, hl, rfl⟩ := List.mem_map.1 h
  exact wl_size _ l hl
set_option maxRecDepth 10000 in
set_option maxHeartbeats 4000000 in
theorem tparse_short (s : ByteArray) (w : World) (hs : s.size ≤ 900000) (hl : (wB s).length ≠ 14) :
    Calls Tryd.prog 6 #[.string s] w fun e w' => e = .returned (.tuple #[.agg zero14, .int .i64 31]) ∧ Below w.heap.size w w' := by
  have hmf : ∀ (fn : Fn) (first cap : Array Value) (w : World), (Instr.makeFunc fn first cap).run Tryd.prog w = .ok (.func fn first cap) w := fun _ _ _ _ => rfl
  have SC := Lib.hid (fun W => split_calls s W hs)
  have hq : (((wB s).length : Int) != 14) = true := bne_iff_ne.2 (by omega)
  generalize (wB s).length = n at *
  clear hl
  go_enter_defers Tryd.func6, Tryd.ntmps6
  go_wp2_with (go_at_call 23; (with_reducible refine (SC.out _).mono ?_); rintro e w1 ⟨g, rfl, h1, h2, h3⟩; have H1 := Lib.hid h1; have H3 := Lib.hid h3; clear h1 h2 h3)
  have K0 := Lib.hid (show Blk w1 w.heap.size 23 zero14 from ((Blk.new w _ _).alloc _).below H3.out)
  have K1 := Lib.hid (show Blk w1 (w.heap.size + 1) 24 #[.int .i64 0] from (blk_at (by simp)).below H3.out)
  have BEL := Lib.hid (show Below w.heap.size w w1 from below_step (below_alloc (below_alloc (Below.refl _ _) _) _) H3.out)
  refine leaves_cons (f := 22) (args := #[.pointer (some ⟨w.heap.size, 0, none⟩), .pointer (some ⟨w.heap.size + 1, 0, none⟩)]) (by simp) (by simp [go_sem]) ?_
  refine (catch_panicking w.heap.size (w.heap.size + 1) 0 0 0 0 0 0 0 0 0 0 0 0 0 0 0 w1 K0.out K1.out (by omega) w.heap.size (Nat.le_refl _) (by omega) BEL.out.size).mono ?_
  rintro e u' w'' ⟨rfl, rfl, ha, hb, hB⟩
  simp [Leaves, settle, go_sem]
  exact ⟨_, results_cc rfl _ _ w.heap.size (w.heap.size + 1) _ _ _ _ _ _ (by simp) (by simp) ha hb Tryd.underlying23 rfl (by kernel_rfl) Tryd.underlying24, rfl, BEL.out.trans hB⟩
theorem Blk.w14 {w : World} {g : Nat} {t : TypeId} {v0 v1 v2 v3 v4 v5 v6 v7 v8 v9 v10 v11 v12 v13 : Value} (h : Blk w g t #[v0, v1, v2, v3, v4, v5, v6, v7, v8, v9, v10, v11, v12, v13]) (u0 u1 u2 u3 u4 u5 u6 u7 u8 u9 u10 u11 u12 u13 : Value) : Blk ((((((((((((((w.setCell ⟨g, 0, none⟩ u0).setCell ⟨g, 1, none⟩ u1).setCell ⟨g, 2, none⟩ u2).setCell ⟨g, 3, none⟩ u3).setCell ⟨g, 4, none⟩ u4).setCell ⟨g, 5, none⟩ u5).setCell ⟨g, 6, none⟩ u6).setCell ⟨g, 7, none⟩ u7).setCell ⟨g, 8, none⟩ u8).setCell ⟨g, 9, none⟩ u9).setCell ⟨g, 10, none⟩ u10).setCell ⟨g, 11, none⟩ u11).setCell ⟨g, 12, none⟩ u12).setCell ⟨g, 13, none⟩ u13) g t #[u0, u1, u2, u3, u4, u5, u6, u7, u8, u9, u10, u11, u12, u13] := by
  have h0 : Blk (w.setCell ⟨g, 0, none⟩ u0) g t #[u0, v1, v2, v3, v4, v5, v6, v7, v8, v9, v10, v11, v12, v13] := h.set_ 0 u0
  have h1 : Blk ((w.setCell ⟨g, 0, none⟩ u0).setCell ⟨g, 1, none⟩ u1) g t #[u0, u1, v2, v3, v4, v5, v6, v7, v8, v9, v10, v11, v12, v13] := h0.set_ 1 u1
  have h2 : Blk (((w.setCell ⟨g, 0, none⟩ u0).setCell ⟨g, 1, none⟩ u1).setCell ⟨g, 2, none⟩ u2) g t #[u0, u1, u2, v3, v4, v5, v6, v7, v8, v9, v10, v11, v12, v13] := h1.set_ 2 u2
  have h3 : Blk ((((w.setCell ⟨g, 0, none⟩ u0).setCell ⟨g, 1, none⟩ u1).setCell ⟨g, 2, none⟩ u2).setCell ⟨g, 3, none⟩ u3) g t #[u0, u1, u2, u3, v4, v5, v6, v7, v8, v9, v10, v11, v12, v13] := h2.set_ 3 u3
  have h4 : Blk (((((w.setCell ⟨g, 0, none⟩ u0).setCell ⟨g, 1, none⟩ u1).setCell ⟨g, 2, none⟩ u2).setCell ⟨g, 3, none⟩ u3).setCell ⟨g, 4, none⟩ u4) g t #[u0, u1, u2, u3, u4, v5, v6, v7, v8, v9, v10, v11, v12, v13] := h3.set_ 4 u4
  have h5 : Blk ((((((w.setCell ⟨g, 0, none⟩ u0).setCell ⟨g, 1, none⟩ u1).setCell ⟨g, 2, none⟩ u2).setCell ⟨g, 3, none⟩ u3).setCell ⟨g, 4, none⟩ u4).setCell ⟨g, 5, none⟩ u5) g t #[u0, u1, u2, u3, u4, u5, v6, v7, v8, v9, v10, v11, v12, v13] := h4.set_ 5 u5
  have h6 : Blk (((((((w.setCell ⟨g, 0, none⟩ u0).setCell ⟨g, 1, none⟩ u1).setCell ⟨g, 2, none⟩ u2).setCell ⟨g, 3, none⟩ u3).setCell ⟨g, 4, none⟩ u4).setCell ⟨g, 5, none⟩ u5).setCell ⟨g, 6, none⟩ u6) g t #[u0, u1, u2, u3, u4, u5, u6, v7, v8, v9, v10, v11, v12, v13] := h5.set_ 6 u6
  have h7 : Blk ((((((((w.setCell ⟨g, 0, none⟩ u0).setCell ⟨g, 1, none⟩ u1).setCell ⟨g, 2, none⟩ u2).setCell ⟨g, 3, none⟩ u3).setCell ⟨g, 4, none⟩ u4).setCell ⟨g, 5, none⟩ u5).setCell ⟨g, 6, none⟩ u6).setCell ⟨g, 7, none⟩ u7) g t #[u0, u1, u2, u3, u4, u5, u6, u7, v8, v9, v10, v11, v12, v13] := h6.set_ 7 u7
  have h8 : Blk (((((((((w.setCell ⟨g, 0, none⟩ u0).setCell ⟨g, 1, none⟩ u1).setCell ⟨g, 2, none⟩ u2).setCell ⟨g, 3, none⟩ u3).setCell ⟨g, 4, none⟩ u4).setCell ⟨g, 5, none⟩ u5).setCell ⟨g, 6, none⟩ u6).setCell ⟨g, 7, none⟩ u7).setCell ⟨g, 8, none⟩ u8) g t #[u0, u1, u2, u3, u4, u5, u6, u7, u8, v9, v10, v11, v12, v13] := h7.set_ 8 u8
  have h9 : Blk ((((((((((w.setCell ⟨g, 0, none⟩ u0).setCell ⟨g, 1, none⟩ u1).setCell ⟨g, 2, none⟩ u2).setCell ⟨g, 3, none⟩ u3).setCell ⟨g, 4, none⟩ u4).setCell ⟨g, 5, none⟩ u5).setCell ⟨g, 6, none⟩ u6).setCell ⟨g, 7, none⟩ u7).setCell ⟨g, 8, none⟩ u8).setCell ⟨g, 9, none⟩ u9) g t #[u0, u1, u2, u3, u4, u5, u6, u7, u8, u9, v10, v11, v12, v13] := h8.set_ 9 u9
  have h10 : Blk (((((((((((w.setCell ⟨g, 0, none⟩ u0).setCell ⟨g, 1, none⟩ u1).setCell ⟨g, 2, none⟩ u2).setCell ⟨g, 3, none⟩ u3).setCell ⟨g, 4, none⟩ u4).setCell ⟨g, 5, none⟩ u5).setCell ⟨g, 6, none⟩ u6).setCell ⟨g, 7, none⟩ u7).setCell ⟨g, 8, none⟩ u8).setCell ⟨g, 9, none⟩ u9).setCell ⟨g, 10, none⟩ u10) g t #[u0, u1, u2, u3, u4, u5, u6, u7, u8, u9, u10, v11, v12, v13] := h9.set_ 10 u10
  have h11 : Blk ((((((((((((w.setCell ⟨g, 0, none⟩ u0).setCell ⟨g, 1, none⟩ u1).setCell ⟨g, 2, none⟩ u2).setCell ⟨g, 3, none⟩ u3).setCell ⟨g, 4, none⟩ u4).setCell ⟨g, 5, none⟩ u5).setCell ⟨g, 6, none⟩ u6).setCell ⟨g, 7, none⟩ u7).setCell ⟨g, 8, none⟩ u8).setCell ⟨g, 9, none⟩ u9).setCell ⟨g, 10, none⟩ u10).setCell ⟨g, 11, none⟩ u11) g t #[u0, u1, u2, u3, u4, u5, u6, u7, u8, u9, u10, u11, v12, v13] := h10.set_ 11 u11
  have h12 : Blk (((((((((((((w.setCell ⟨g, 0, none⟩ u0).setCell ⟨g, 1, none⟩ u1).setCell ⟨g, 2, none⟩ u2).setCell ⟨g, 3, none⟩ u3).setCell ⟨g, 4, none⟩ u4).setCell ⟨g, 5, none⟩ u5).setCell ⟨g, 6, none⟩ u6).setCell ⟨g, 7, none⟩ u7).setCell ⟨g, 8, none⟩ u8).setCell ⟨g, 9, none⟩ u9).setCell ⟨g, 10, none⟩ u10).setCell ⟨g, 11, none⟩ u11).setCell ⟨g, 12, none⟩ u12) g t #[u0, u1, u2, u3, u4, u5, u6, u7, u8, u9, u10, u11, u12, v13] := h11.set_ 12 u12
  have h13 : Blk ((((((((((((((w.setCell ⟨g, 0, none⟩ u0).setCell ⟨g, 1, none⟩ u1).setCell ⟨g, 2, none⟩ u2).setCell ⟨g, 3, none⟩ u3).setCell ⟨g, 4, none⟩ u4).setCell ⟨g, 5, none⟩ u5).setCell ⟨g, 6, none⟩ u6).setCell ⟨g, 7, none⟩ u7).setCell ⟨g, 8, none⟩ u8).setCell ⟨g, 9, none⟩ u9).setCell ⟨g, 10, none⟩ u10).setCell ⟨g, 11, none⟩ u11).setCell ⟨g, 12, none⟩ u12).setCell ⟨g, 13, none⟩ u13) g t #[u0, u1, u2, u3, u4, u5, u6, u7, u8, u9, u10, u11, u12, u13] := h12.set_ 13 u13
  exact h13
theorem tlC_set (f : Nat → Int) (v : Int) : ∀ i < 14, (tlC f).setIfInBounds i (.int .i64 v) = tlC (fun j => if j = i then v else f j)
  | 0, _ | 1, _ | 2, _ | 3, _ | 4, _ | 5, _ | 6, _ | 7, _ | 8, _ | 9, _ | 10, _ | 11, _ | 12, _ | 13, _ => rfl
theorem tlC_get (f : Nat → Int) : ∀ i < 14, (tlC f)[i]? = some (.int .i64 (f i))
  | 0, _ | 1, _ | 2, _ | 3, _ | 4, _ | 5, _ | 6, _ | 7, _ | 8, _ | 9, _ | 10, _ | 11, _ | 12, _ | 13, _ => rfl
/-- the first i words' numbers. -/
def rowF (ws : List ByteArray) (i : Nat) (j : Nat) : Int := if j < i then pv ws j else 0
theorem rowF_set (ws : List ByteArray) (i : Nat) (hi : i < 14) : (tlC (rowF ws i)).setIfInBounds i (.int .i64 (pv ws i)) = tlC (rowF ws (i + 1)) := by
  rw [tlC_set _ _ _ hi]
  congr 1
  funext j
  unfold rowF
  by_cases h : j = i
  · subst h; simp
  · by_cases h2 : j < i
    · rw [if_neg h, if_pos h2, if_pos (by omega)]
    · rw [if_neg h, if_neg h2, if_neg (by omega)]
theorem ptOk_all {ws : List ByteArray} (hl : ws.length = 14) (h : ∀ i < 14, (parseS (bs (ws.getD i ByteArray.empty))).2 = true) : ptOk ws = true := by
  unfold ptOk
  rw [decide_eq_true hl, Bool.true_and, List.all_eq_true]
  intro x hx
  obtain ⟨i, hi, rfl⟩ := List.mem_iff_getElem.1 hx
  have := h i (by omega)
  rwa [List.getD_eq_getElem?_getD, List.getElem?_eq_getElem hi] at this
theorem ptOk_bad {ws : List ByteArray} {i : Nat} (hl : ws.length = 14) (hi : i < 14) (h : (parseS (bs (ws.getD i ByteArray.empty))).2 = false) : ptOk ws = false := by
  unfold ptOk
  rw [Bool.and_eq_false_iff]
  right
  rw [List.all_eq_false]
  refine ⟨ws[i]'(by omega), List.getElem_mem _, ?_⟩
  rw [List.getD_eq_getElem?_getD, List.getElem?_eq_getElem (by omega)] at h
  simpa using h
set_option maxRecDepth 10000 in
set_option maxHeartbeats 8000000 in
theorem tparse_long (s : ByteArray) (w : World) (hs : s.size ≤ 900000) (hl : (wB s).length = 14) :
    Calls Tryd.prog 6 #[.string s] w fun e w' => e = .returned (ptV (wB s)) ∧ Below w.heap.size w w' := by
  have hmf : ∀ (fn : Fn) (first cap : Array Value) (w : World), (Instr.makeFunc fn first cap).run Tryd.prog w = .ok (.func fn first cap) w := fun _ _ _ _ => rfl
  have SC := Lib.hid (fun W => split_calls s W hs)
  have WS := Lib.hid (fun x hx => Nat.le_trans (wB_size (s := s) (x := x) hx) hs)
  have hq : (((wB s).length : Int) != 14) = false := by rw [hl]; rfl
  generalize wB s = ws at *
  go_enter_defers Tryd.func6, Tryd.ntmps6
  rw [hl] at SC
  go_wp2_with (go_at_call 23; (with_reducible refine (SC.out _).mono ?_); rintro e w1 ⟨g, rfl, h1, h2, h3⟩; have H1 := Lib.hid h1; have H2 := Lib.hid h2; have H3 := Lib.hid h3; clear h1 h2 h3)
  have K0 := Lib.hid (show Blk w1 w.heap.size 23 zero14 from ((Blk.new w _ _).alloc _).below H3.out)
  have K1 := Lib.hid (show Blk w1 (w.heap.size + 1) 24 #[.int .i64 0] from (blk_at (by simp)).below H3.out)
  have BEL := Lib.hid (show Below w.heap.size w w1 from below_step (below_alloc (below_alloc (Below.refl _ _) _) _) H3.out)
  have HSZ := Lib.hid (show w.heap.size + 2 ≤ g ∧ g < w1.heap.size from ⟨by have := H1.out; simpa using this, H2.out.lt⟩)
  clear H1 H3 SC hq
  go_loopw [18] (fun i wr => ∃ n : Nat, i = .int .i64 (n : Int) ∧ n ≤ 14 ∧ (∀ j < n, (parseS (bs (ws.getD j ByteArray.empty))).2 = true) ∧ Blk wr w.heap.size 23 zero14 ∧ Blk wr (w.heap.size + 1) 24 #[.int .i64 0] ∧ Blk wr g 9 (ws.map Value.string).toArray ∧ Blk wr w1.heap.size 48 (tlC (rowF ws n)) ∧ Below w.heap.size w wr) (fun i _ => 14 - (intOf i).toNat)
  case atStart => exact ⟨0, rfl, by omega, fun j hj => by omega, K0.out.alloc _, K1.out.alloc _, H2.out.alloc _, blk_at rfl, below_alloc BEL.out _⟩
  case round =>
    clear K0 K1 H2 BEL
    obtain ⟨n, rfl, hn, hok, k0, k1, k2, k3, hb⟩ := hrel
    have K0 := Lib.hid k0
    have K1 := Lib.hid k1
    have K2 := Lib.hid k2
    have K3 := Lib.hid k3
    have HB := Lib.hid hb
    have OK := Lib.hid hok
    clear hok k0 k1 k2 k3 hb
    by_cases hlt : n < 14
    · have hlti : (n : Int) < 14 := by omega
      have hget := (K2.out.cell n).trans (show (ws.map Value.string).toArray[n]? = some (.string (ws.getD n ByteArray.empty)) by simp [List.getD_eq_getElem?_getD, List.getElem?_eq_getElem (show n < ws.length by omega)])
      have hsz := Lib.hid (show (ws.getD n ByteArray.empty).size ≤ 9223372036854775807 by
        have := WS.out (ws.getD n ByteArray.empty) (by rw [List.getD_eq_getElem?_getD, List.getElem?_eq_getElem (show n < ws.length by omega)]; exact List.getElem_mem _)
        omega)
      cases hp : (parseS (bs (ws.getD n ByteArray.empty))).2 with
      | true =>
        have NC := Lib.hid (fun W => number_ok (ws.getD n ByteArray.empty) W hsz.out hp)
        have OK2 := Lib.hid (show ∀ j < n + 1, (parseS (bs (ws.getD j ByteArray.empty))).2 = true from fun j hj => if e : j = n then e ▸ hp else OK.out j (by omega))
        have ST := Lib.hid (show (tlC (rowF ws n)).setIfInBounds n (.int .i64 (parseS (bs (ws.getD n ByteArray.empty))).1) = tlC (rowF ws (n + 1)) from rowF_set ws n hlt)
        clear hp OK hsz
        generalize ws.getD n ByteArray.empty = x at *
        go_wp2_with (first
          | (go_at_call 24; (with_reducible refine (NC.out _).mono ?_); rintro e w2 ⟨rfl, hb2⟩; have HB2 := Lib.hid hb2; clear hb2; have K0 := Lib.hid (K0.out.below HB2.out); have K1 := Lib.hid (K1.out.below HB2.out); have K2 := Lib.hid (K2.out.below HB2.out); have K3 := Lib.hid (K3.out.below HB2.out); have f0 := K3.out.frozen n; have c0 := (K3.out.cell n).trans (tlC_get _ n hlt)))
        have BK3 := Lib.hid (K3.out.set_ n (.int .i64 (parseS (bs x)).1))
        rw [ST.out] at BK3
        have G0 := HSZ.out.1
        have G1 := HSZ.out.2
        have B3 := Lib.hid ((below_step HB.out HB2.out).setCell (p := ⟨w1.heap.size, n, none⟩) (by show w.heap.size ≤ w1.heap.size; omega) (.int .i64 (parseS (bs x)).1))
        exact ⟨⟨n + 1, by go_num, by omega, OK2.out, K0.out.far (p := ⟨w1.heap.size, n, none⟩) (by show w.heap.size ≠ w1.heap.size; omega) _, K1.out.far (p := ⟨w1.heap.size, n, none⟩) (by show w.heap.size + 1 ≠ w1.heap.size; omega) _, K2.out.far (p := ⟨w1.heap.size, n, none⟩) (by show g ≠ w1.heap.size; omega) _, BK3.out, B3.out⟩, by simp [intOf]; omega⟩
      | false =>
        have NC := Lib.hid (fun W => number_bad (ws.getD n ByteArray.empty) W hsz.out hp)
        have VV := Lib.hid (show ptV ws = .tuple #[.agg zero14, .int .i64 31] by unfold ptV; rw [if_neg (by rw [ptOk_bad hl hlt hp]; simp)])
        clear hp OK hsz
        generalize ws.getD n ByteArray.empty = x at *
        go_wp2_with (first
          | (go_at_call 24; (with_reducible refine (NC.out _).mono ?_); rintro e w2 ⟨rfl, hb2⟩; have HB2 := Lib.hid hb2; clear hb2; have K0 := Lib.hid (K0.out.below HB2.out); have K1 := Lib.hid (K1.out.below HB2.out); have BEL := Lib.hid (below_step HB.out HB2.out)))
        refine leaves_cons (f := 22) (args := #[.pointer (some ⟨w.heap.size, 0, none⟩), .pointer (some ⟨w.heap.size + 1, 0, none⟩)]) (by simp) (by simp [go_sem]) ?_
        refine (catch_panicking w.heap.size (w.heap.size + 1) 0 0 0 0 0 0 0 0 0 0 0 0 0 0 0 w2 K0.out K1.out (by omega) w.heap.size (Nat.le_refl _) (by omega) BEL.out.size).mono ?_
        rintro e u' w'' ⟨rfl, rfl, ha, hb, hB⟩
        simp [Leaves, settle, go_sem]
        exact ⟨_, results_cc rfl _ _ w.heap.size (w.heap.size + 1) _ _ _ _ _ _ (by simp) (by simp) ha hb Tryd.underlying23 rfl (by kernel_rfl) Tryd.underlying24, VV.out.symm, BEL.out.trans hB⟩
    · obtain rfl : n = 14 := by omega
      have c0 : wr.cell? ⟨w1.heap.size, 0, none⟩ = some (.int .i64 (rowF ws 14 0)) := K3.out.cell 0
      have c1 : wr.cell? ⟨w1.heap.size, 1, none⟩ = some (.int .i64 (rowF ws 14 1)) := K3.out.cell 1
      have c2 : wr.cell? ⟨w1.heap.size, 2, none⟩ = some (.int .i64 (rowF ws 14 2)) := K3.out.cell 2
      have c3 : wr.cell? ⟨w1.heap.size, 3, none⟩ = some (.int .i64 (rowF ws 14 3)) := K3.out.cell 3
      have c4 : wr.cell? ⟨w1.heap.size, 4, none⟩ = some (.int .i64 (rowF ws 14 4)) := K3.out.cell 4
      have c5 : wr.cell? ⟨w1.heap.size, 5, none⟩ = some (.int .i64 (rowF ws 14 5)) := K3.out.cell 5
      have c6 : wr.cell? ⟨w1.heap.size, 6, none⟩ = some (.int .i64 (rowF ws 14 6)) := K3.out.cell 6
      have c7 : wr.cell? ⟨w1.heap.size, 7, none⟩ = some (.int .i64 (rowF ws 14 7)) := K3.out.cell 7
      have c8 : wr.cell? ⟨w1.heap.size, 8, none⟩ = some (.int .i64 (rowF ws 14 8)) := K3.out.cell 8
      have c9 : wr.cell? ⟨w1.heap.size, 9, none⟩ = some (.int .i64 (rowF ws 14 9)) := K3.out.cell 9
      have c10 : wr.cell? ⟨w1.heap.size, 10, none⟩ = some (.int .i64 (rowF ws 14 10)) := K3.out.cell 10
      have c11 : wr.cell? ⟨w1.heap.size, 11, none⟩ = some (.int .i64 (rowF ws 14 11)) := K3.out.cell 11
      have c12 : wr.cell? ⟨w1.heap.size, 12, none⟩ = some (.int .i64 (rowF ws 14 12)) := K3.out.cell 12
      have c13 : wr.cell? ⟨w1.heap.size, 13, none⟩ = some (.int .i64 (rowF ws 14 13)) := K3.out.cell 13
      have RC := Lib.hid (fun W => rtally_calls (rowF ws 14 0) (rowF ws 14 1) (rowF ws 14 2) (rowF ws 14 3) (rowF ws 14 4) (rowF ws 14 5) (rowF ws 14 6) (rowF ws 14 7) (rowF ws 14 8) (rowF ws 14 9) (rowF ws 14 10) (rowF ws 14 11) (rowF ws 14 12) (rowF ws 14 13) W)
      have VV := Lib.hid (show ptV ws = .tuple #[.agg (tlC (rowF ws 14)), .int .i64 0] by unfold ptV; rw [if_pos (ptOk_all hl OK.out)]; rfl)
      go_wp2_with (first
          | (go_at_call 25; (with_reducible refine (RC.out _).mono ?_); rintro e w2 ⟨rfl, hb2⟩; have HB2 := Lib.hid hb2; clear hb2; have K0 := Lib.hid (K0.out.below HB2.out); have K1 := Lib.hid (K1.out.below HB2.out); have BEL := Lib.hid (below_step HB.out HB2.out); have y0 : w2.cell? ⟨w.heap.size, 0, none⟩ = some (.int .i64 0) := K0.out.cell 0; have z0 := K0.out.frozen 0; have y1 : w2.cell? ⟨w.heap.size, 1, none⟩ = some (.int .i64 0) := K0.out.cell 1; have z1 := K0.out.frozen 1; have y2 : w2.cell? ⟨w.heap.size, 2, none⟩ = some (.int .i64 0) := K0.out.cell 2; have z2 := K0.out.frozen 2; have y3 : w2.cell? ⟨w.heap.size, 3, none⟩ = some (.int .i64 0) := K0.out.cell 3; have z3 := K0.out.frozen 3; have y4 : w2.cell? ⟨w.heap.size, 4, none⟩ = some (.int .i64 0) := K0.out.cell 4; have z4 := K0.out.frozen 4; have y5 : w2.cell? ⟨w.heap.size, 5, none⟩ = some (.int .i64 0) := K0.out.cell 5; have z5 := K0.out.frozen 5; have y6 : w2.cell? ⟨w.heap.size, 6, none⟩ = some (.int .i64 0) := K0.out.cell 6; have z6 := K0.out.frozen 6; have y7 : w2.cell? ⟨w.heap.size, 7, none⟩ = some (.int .i64 0) := K0.out.cell 7; have z7 := K0.out.frozen 7; have y8 : w2.cell? ⟨w.heap.size, 8, none⟩ = some (.int .i64 0) := K0.out.cell 8; have z8 := K0.out.frozen 8; have y9 : w2.cell? ⟨w.heap.size, 9, none⟩ = some (.int .i64 0) := K0.out.cell 9; have z9 := K0.out.frozen 9; have y10 : w2.cell? ⟨w.heap.size, 10, none⟩ = some (.int .i64 0) := K0.out.cell 10; have z10 := K0.out.frozen 10; have y11 : w2.cell? ⟨w.heap.size, 11, none⟩ = some (.int .i64 0) := K0.out.cell 11; have z11 := K0.out.frozen 11; have y12 : w2.cell? ⟨w.heap.size, 12, none⟩ = some (.int .i64 0) := K0.out.cell 12; have z12 := K0.out.frozen 12; have y13 : w2.cell? ⟨w.heap.size, 13, none⟩ = some (.int .i64 0) := K0.out.cell 13; have z13 := K0.out.frozen 13; have KW := Lib.hid (K0.out.w14 (.int .i64 (rowF ws 14 0)) (.int .i64 (rowF ws 14 1)) (.int .i64 (rowF ws 14 2)) (.int .i64 (rowF ws 14 3)) (.int .i64 (rowF ws 14 4)) (.int .i64 (rowF ws 14 5)) (.int .i64 (rowF ws 14 6)) (.int .i64 (rowF ws 14 7)) (.int .i64 (rowF ws 14 8)) (.int .i64 (rowF ws 14 9)) (.int .i64 (rowF ws 14 10)) (.int .i64 (rowF ws 14 11)) (.int .i64 (rowF ws 14 12)) (.int .i64 (rowF ws 14 13))); have K1W := Lib.hid ((((((((((((((K1.out.far (p := ⟨w.heap.size, 0, none⟩) (by show w.heap.size + 1 ≠ w.heap.size; omega) (.int .i64 (rowF ws 14 0))).far (p := ⟨w.heap.size, 1, none⟩) (by show w.heap.size + 1 ≠ w.heap.size; omega) (.int .i64 (rowF ws 14 1))).far (p := ⟨w.heap.size, 2, none⟩) (by show w.heap.size + 1 ≠ w.heap.size; omega) (.int .i64 (rowF ws 14 2))).far (p := ⟨w.heap.size, 3, none⟩) (by show w.heap.size + 1 ≠ w.heap.size; omega) (.int .i64 (rowF ws 14 3))).far (p := ⟨w.heap.size, 4, none⟩) (by show w.heap.size + 1 ≠ w.heap.size; omega) (.int .i64 (rowF ws 14 4))).far (p := ⟨w.heap.size, 5, none⟩) (by show w.heap.size + 1 ≠ w.heap.size; omega) (.int .i64 (rowF ws 14 5))).far (p := ⟨w.heap.size, 6, none⟩) (by show w.heap.size + 1 ≠ w.heap.size; omega) (.int .i64 (rowF ws 14 6))).far (p := ⟨w.heap.size, 7, none⟩) (by show w.heap.size + 1 ≠ w.heap.size; omega) (.int .i64 (rowF ws 14 7))).far (p := ⟨w.heap.size, 8, none⟩) (by show w.heap.size + 1 ≠ w.heap.size; omega) (.int .i64 (rowF ws 14 8))).far (p := ⟨w.heap.size, 9, none⟩) (by show w.heap.size + 1 ≠ w.heap.size; omega) (.int .i64 (rowF ws 14 9))).far (p := ⟨w.heap.size, 10, none⟩) (by show w.heap.size + 1 ≠ w.heap.size; omega) (.int .i64 (rowF ws 14 10))).far (p := ⟨w.heap.size, 11, none⟩) (by show w.heap.size + 1 ≠ w.heap.size; omega) (.int .i64 (rowF ws 14 11))).far (p := ⟨w.heap.size, 12, none⟩) (by show w.heap.size + 1 ≠ w.heap.size; omega) (.int .i64 (rowF ws 14 12))).far (p := ⟨w.heap.size, 13, none⟩) (by show w.heap.size + 1 ≠ w.heap.size; omega) (.int .i64 (rowF ws 14 13))); have BW := Lib.hid ((((((((((((((BEL.out.setCell (p := ⟨w.heap.size, 0, none⟩) (Nat.le_refl _) (.int .i64 (rowF ws 14 0))).setCell (p := ⟨w.heap.size, 1, none⟩) (Nat.le_refl _) (.int .i64 (rowF ws 14 1))).setCell (p := ⟨w.heap.size, 2, none⟩) (Nat.le_refl _) (.int .i64 (rowF ws 14 2))).setCell (p := ⟨w.heap.size, 3, none⟩) (Nat.le_refl _) (.int .i64 (rowF ws 14 3))).setCell (p := ⟨w.heap.size, 4, none⟩) (Nat.le_refl _) (.int .i64 (rowF ws 14 4))).setCell (p := ⟨w.heap.size, 5, none⟩) (Nat.le_refl _) (.int .i64 (rowF ws 14 5))).setCell (p := ⟨w.heap.size, 6, none⟩) (Nat.le_refl _) (.int .i64 (rowF ws 14 6))).setCell (p := ⟨w.heap.size, 7, none⟩) (Nat.le_refl _) (.int .i64 (rowF ws 14 7))).setCell (p := ⟨w.heap.size, 8, none⟩) (Nat.le_refl _) (.int .i64 (rowF ws 14 8))).setCell (p := ⟨w.heap.size, 9, none⟩) (Nat.le_refl _) (.int .i64 (rowF ws 14 9))).setCell (p := ⟨w.heap.size, 10, none⟩) (Nat.le_refl _) (.int .i64 (rowF ws 14 10))).setCell (p := ⟨w.heap.size, 11, none⟩) (Nat.le_refl _) (.int .i64 (rowF ws 14 11))).setCell (p := ⟨w.heap.size, 12, none⟩) (Nat.le_refl _) (.int .i64 (rowF ws 14 12))).setCell (p := ⟨w.heap.size, 13, none⟩) (Nat.le_refl _) (.int .i64 (rowF ws 14 13))); have b0 := K1W.out.cell 0; have b1 := K1W.out.frozen 0; have K0F := Lib.hid (KW.out.far (p := ⟨w.heap.size + 1, 0, none⟩) (by show w.heap.size ≠ w.heap.size + 1; omega) (.int .i64 0)); have K1F := Lib.hid (K1W.out.set_ 0 (.int .i64 0)); have BF := Lib.hid (BW.out.setCell (p := ⟨w.heap.size + 1, 0, none⟩) (by show w.heap.size ≤ w.heap.size + 1; omega) (.int .i64 0))))
      refine leaves_cons (f := 22) (args := #[.pointer (some ⟨w.heap.size, 0, none⟩), .pointer (some ⟨w.heap.size + 1, 0, none⟩)]) (by simp) (by simp [go_sem]) ?_
      refine (catch_idle _ _ _).mono ?_
      rintro e u' w'' ⟨rfl, rfl, rfl⟩
      simp [Leaves, settle, go_sem]
      exact ⟨_, results_cc rfl _ _ w.heap.size (w.heap.size + 1) _ _ _ _ _ _ (by simp) (by simp) K0F.out K1F.out Tryd.underlying23 rfl (by kernel_rfl) Tryd.underlying24, VV.out.symm, BF.out⟩
/-- tally.Parse. -/
theorem tparse_calls (s : ByteArray) (w : World) (hs : s.size ≤ 900000) :
    Calls Tryd.prog 6 #[.string s] w fun e w' => e = .returned (ptV (wB s)) ∧ Below w.heap.size w w' := by
  by_cases h : (wB s).length = 14
  · exact tparse_long s w hs h
  · have hv : ptV (wB s) = .tuple #[.agg zero14, .int .i64 31] := by unfold ptV ptOk; rw [decide_eq_false h]; rfl
    rw [hv]
    exact tparse_short s w hs h
end Go.Proofs.YtmopicpjhdekhaaDoor.Ct
