import Derived.Test.YtminokbigpckaaaDoorSlD
/-! script.Parse. -/
namespace Go.Proofs.YtminokbigpckaaaDoor.Ct
open Go.RowKit
set_option linter.unusedVariables false
set_option linter.unusedSimpArgs false
theorem catch_idle (a b : Option Addr) (w : World) :
    CallsD Tryd.prog 34 #[.pointer a, .pointer b] .returning w fun e u' w' => e = .returned (.tuple #[]) ∧ u' = .returning ∧ w' = w := by
  refine callsD_of_wpS Tryd.func34 rfl fun c₀ cs hu => ?_
  apply wpS_seq
  apply wpS_region
  simp [wpOpsS, go_sem, recoverD, hu, Tryd.ntmps34, Exit.thenS]
  simp only [Array.replicate_succ, Array.replicate_zero, List.push_toArray, List.append_toArray, List.nil_append, List.cons_append, List.setIfInBounds_toArray, List.set_cons_zero, List.set_cons_succ]
  refine wpS_of_wp ?_
  go_wp2
  simp [bodyPostS, results, Tryd.results34]
  cases c₀
  simp_all
set_option maxHeartbeats 2000000 in
theorem catch_panicking (a b : Nat) (e0 : Int) (w : World) (ha : Blk w a 25 #[.int .i64 0, .int .i64 0, .int .i64 0, .int .i64 0, .slice none 0 0]) (hb : Blk w b 27 #[.int .i64 e0]) (hab : a ≠ b) (B : Nat) (hBa : B ≤ a) (hBb : B ≤ b) (hBw : B ≤ w.heap.size) :
    CallsD Tryd.prog 34 #[.pointer (some ⟨a, 0, none⟩), .pointer (some ⟨b, 0, none⟩)] (.panicking [wrongE]) w fun e u' w' =>
      e = .returned (.tuple #[]) ∧ u' = .panicking [{ v := .iface 60 (.agg #[]), recovered := true }] ∧ Blk w' a 25 #[.int .i64 0, .int .i64 0, .int .i64 0, .int .i64 0, .slice none 0 0] ∧ Blk w' b 27 #[.int .i64 320] ∧ Below B w w' := by
  refine callsD_of_wpS Tryd.func34 rfl fun c₀ cs hu => ?_
  apply wpS_seq
  apply wpS_region
  simp [wpOpsS, go_sem, recoverD, hu, Tryd.ntmps34, Exit.thenS, wrongE]
  have ta : ∀ w, (Instr.typeAssert (.iface 60 (.agg #[])) 20 60 true).run Tryd.prog w = .ok (.tuple #[.agg #[], .bool true]) w := fun _ => by kernel_rfl
  have HA := Lib.hid (ha.alloc (.cells #[] 60))
  have HBB := Lib.hid (hb.alloc (.cells #[] 60))
  obtain ⟨⟨x0, x1, x2, x3, x4⟩, y0, y1, y2, y3, y4⟩ := cells5 HA.out
  have HN := Lib.hid (hab)
  have HA2 := Lib.hid (HA.out.set5 (.int .i64 0) (.int .i64 0) (.int .i64 0) (.int .i64 0) (.slice none 0 0))
  have HB2 := Lib.hid ((((((HBB.out.far (p := ⟨a, 0, none⟩) (fun e => hab e.symm) (.int .i64 0)).far (p := ⟨a, 1, none⟩) (fun e => hab e.symm) (.int .i64 0)).far (p := ⟨a, 2, none⟩) (fun e => hab e.symm) (.int .i64 0)).far (p := ⟨a, 3, none⟩) (fun e => hab e.symm) (.int .i64 0)).far (p := ⟨a, 4, none⟩) (fun e => hab e.symm) (.slice none 0 0)))
  have u1 := HB2.out.cell 0
  have u2 := HB2.out.frozen 0
  have HB0 := Lib.hid (Below.refl B w)
  have BEL := Lib.hid ((below_set5 (HB0.out.alloc hBw (.cells #[] 60)) hBa (.int .i64 0) (.int .i64 0) (.int .i64 0) (.int .i64 0) (.slice none 0 0)).setCell (p := ⟨b, 0, none⟩) hBb (.int .i64 320))
  have A3 := Lib.hid (HA2.out.far (p := ⟨b, 0, none⟩) (fun e => hab e) (.int .i64 320))
  have B3 := Lib.hid (HB2.out.set_ 0 (.int .i64 320))
  clear ha hb
  simp only [Array.replicate_succ, Array.replicate_zero, List.push_toArray, List.append_toArray, List.nil_append, List.cons_append, List.setIfInBounds_toArray, List.set_cons_zero, List.set_cons_succ]
  refine wpS_of_wp ?_
  go_wp2
  simp [bodyPostS, results, Tryd.results34]
  exact ⟨A3.out, B3.out, BEL.out⟩
theorem Blk.rowFar {w : World} {g k : Nat} {t : TypeId} {cs : Array Value} (h : Blk w g t cs) (hk : g ≠ k) (new : Array Value) : Blk (w.setRow k new) g t cs := (setRow_other w k g new hk).trans h
theorem loadVar_int {P : Program} (w : World) (g : Nat) (t ty : TypeId) (k : IntKind) (v : Value) (hu : P.underlying ty = some (.int k)) (hg : Blk w g t #[v]) : (loadVar ty ⟨g, 0, none⟩).run P w = .ok v w := by
  have hc := hg.cell 0
  have ha : (isAgg ty).run P w = .ok false w := by
    unfold isAgg
    simp [go_sem, run_underlying hu]
  unfold loadVar
  simp [go_sem, ha, hc]
theorem results_cc {P : Program} {fn : Func} {p q : Tmp} {ty tz : TypeId} (h : fn.results = #[.cell p ty, .cell q tz]) (tmps : Array Value) (w : World) (g g2 : Nat) (t t2 : TypeId) (cs : Array Value) (v : Value) (d : TypeDesc) (k : IntKind)
    (hp : tmps.getD p undef = .pointer (some ⟨g, 0, none⟩)) (hq : tmps.getD q undef = .pointer (some ⟨g2, 0, none⟩)) (hg : Blk w g t cs) (hg2 : Blk w g2 t2 #[v])
    (hu : P.underlying ty = some d) (hd : (match d with | .struct _ | .array _ _ => true | _ => false) = true) (hi : (P.info? ty).map (·.size) = some cs.size) (hz : P.underlying tz = some (.int k)) :
    (results fn tmps).run P w = .ok (.tuple #[.agg cs, v]) w := by
  have hp' : tmps[p]?.getD undef = .pointer (some ⟨g, 0, none⟩) := by simpa using hp
  have hq' : tmps[q]?.getD undef = .pointer (some ⟨g2, 0, none⟩) := by simpa using hq
  simp [results, h, hp', hq', asAddr, run_loadVar_row w g t ty cs (0, 0) d hg hu hd hi, loadVar_int w g2 t2 tz k v hz hg2]
/-- what Parse answers: the error, and the step. -/
def spC (s : ByteArray) : Int := if 512 < s.size then 7 else if StOk (wB s) then 0 else 320
def spX (s : ByteArray) : Sp := if s.size ≤ 512 ∧ StOk (wB s) then stX (wB s) else noSp
def SpP (s : ByteArray) (w : World) (e : Ending) (w' : World) : Prop :=
  (∃ fa fc, e = .returned (.tuple #[stepV (spX s) fa fc, .int .i64 (spC s)]) ∧ Row .i64 w' fa (spX s).fs ∧ (spX s).fs.length ≤ fc ∧ fc ≤ 9223372036854775807 ∧ ∀ ad, fa = some ad → 0 < (spX s).fs.length → w.heap.size ≤ ad.block) ∧ Below w.heap.size w w'
theorem spP_none {s : ByteArray} {w w' : World} {c : Int} (hx : spX s = noSp) (hc : spC s = c) (hb : Below w.heap.size w w') : SpP s w (.returned (.tuple #[.agg #[.int .i64 0, .int .i64 0, .int .i64 0, .int .i64 0, .slice none 0 0], .int .i64 c])) w' :=
  ⟨⟨none, 0, by rw [hx, hc]; rfl, by rw [hx]; exact row_nil _ _, by rw [hx]; exact Nat.le_refl _, (by decide), fun ad h _ => by cases h⟩, hb⟩
theorem sparse_long (s : ByteArray) (w : World) (hl : 512 < s.size) : Calls Tryd.prog 17 #[.string s] w (SpP s w) := by
  have hli : (s.size : Int) > 512 := by omega
  have X := Lib.hid (show spX s = noSp by unfold spX; rw [if_neg (by omega)])
  have C := Lib.hid (show spC s = 7 by unfold spC; rw [if_pos hl])
  have hmf : ∀ (fn : Fn) (first cap : Array Value) (w : World), (Instr.makeFunc fn first cap).run Tryd.prog w = .ok (.func fn first cap) w := fun _ _ _ _ => rfl
  go_enter_defers Tryd.func17, Tryd.ntmps17
  go_wp2
  have K0 := Lib.hid (show Blk ((w.alloc (.cells #[.int .i64 0, .int .i64 0, .int .i64 0, .int .i64 0, .slice none 0 0] 25)).alloc (.cells #[.int .i64 7] 27)) w.heap.size 25 #[.int .i64 0, .int .i64 0, .int .i64 0, .int .i64 0, .slice none 0 0] from (Blk.new w _ _).alloc _)
  have K1 := Lib.hid (show Blk ((w.alloc (.cells #[.int .i64 0, .int .i64 0, .int .i64 0, .int .i64 0, .slice none 0 0] 25)).alloc (.cells #[.int .i64 7] 27)) (w.heap.size + 1) 27 #[.int .i64 7] from blk_at (by simp))
  have BEL := Lib.hid (show Below w.heap.size w ((w.alloc (.cells #[.int .i64 0, .int .i64 0, .int .i64 0, .int .i64 0, .slice none 0 0] 25)).alloc (.cells #[.int .i64 7] 27)) from below_alloc (below_alloc (Below.refl _ _) _) _)
  simp [bodyPostD, Leaves, settle, go_sem]
  exact ⟨_, results_cc rfl _ _ w.heap.size (w.heap.size + 1) _ _ _ _ _ _ (by simp) (by simp) K0.out K1.out Tryd.underlying25 rfl (by kernel_rfl) Tryd.underlying27, spP_none X.out C.out BEL.out⟩
theorem sparse_bad (s : ByteArray) (w : World) (hl : s.size ≤ 512) (hn : ¬ StOk (wB s)) : Calls Tryd.prog 17 #[.string s] w (SpP s w) := by
  have hli : ¬ (s.size : Int) > 512 := by omega
  have X := Lib.hid (show spX s = noSp by unfold spX; rw [if_neg (fun h => hn h.2)])
  have C := Lib.hid (show spC s = 320 by unfold spC; rw [if_neg (by omega), if_neg hn])
  have hmf : ∀ (fn : Fn) (first cap : Array Value) (w : World), (Instr.makeFunc fn first cap).run Tryd.prog w = .ok (.func fn first cap) w := fun _ _ _ _ => rfl
  have SC := Lib.hid (fun W => split_calls s W (by omega))
  have TC := Lib.hid (fun g W h => (sstep_calls (wB s) g W (by rw [wB_len]; omega) (by have := words_len s; omega) (fun x hx => by have := wB_size hx; omega) h).mono fun e w' (hp : StP (wB s) W e w') => show e = .panicked [wrongE] ∧ Below W.heap.size W w' from ⟨hp.2.1 hn, hp.2.2⟩)
  clear hl hn
  go_enter_defers Tryd.func17, Tryd.ntmps17
  go_wp2_with (first
    | (go_at_call 36; (with_reducible refine (SC.out _).mono ?_); rintro e w1 ⟨g, rfl, h1, h2, h3⟩; have HK := Lib.hid h2; have H3 := Lib.hid h3; clear h1 h2 h3)
    | (go_at_call 35; (with_reducible refine (TC.out _ _ HK.out).mono ?_); rintro e w2 ⟨rfl, hb2⟩; have HB2 := Lib.hid hb2; clear hb2))
  have B1 := Lib.hid (show Below w.heap.size w w1 from below_step (below_alloc (below_alloc (Below.refl _ _) _) _) H3.out)
  have K0 := Lib.hid (show Blk w2 w.heap.size 25 #[.int .i64 0, .int .i64 0, .int .i64 0, .int .i64 0, .slice none 0 0] from (((Blk.new w _ _).alloc _).below H3.out).below HB2.out)
  have K1 := Lib.hid (show Blk w2 (w.heap.size + 1) 27 #[.int .i64 0] from ((blk_at (by simp)).below H3.out).below HB2.out)
  have BEL := Lib.hid (show Below w.heap.size w w2 from below_step B1.out HB2.out)
  refine leaves_cons (f := 34) (args := #[.pointer (some ⟨w.heap.size, 0, none⟩), .pointer (some ⟨w.heap.size + 1, 0, none⟩)]) (by simp) (by simp [go_sem]) ?_
  refine (catch_panicking w.heap.size (w.heap.size + 1) 0 w2 K0.out K1.out (by omega) w.heap.size (Nat.le_refl _) (by omega) BEL.out.size).mono ?_
  rintro e u' w'' ⟨rfl, rfl, ha, hb, hB⟩
  simp [Leaves, settle, go_sem]
  exact ⟨_, results_cc rfl _ _ w.heap.size (w.heap.size + 1) _ _ _ _ _ _ (by simp) (by simp) ha hb Tryd.underlying25 rfl (by kernel_rfl) Tryd.underlying27, spP_none X.out C.out (BEL.out.trans hB)⟩
theorem sparse_ok (s : ByteArray) (w : World) (hl : s.size ≤ 512) (hn : StOk (wB s)) : Calls Tryd.prog 17 #[.string s] w (SpP s w) := by
  have hli : ¬ (s.size : Int) > 512 := by omega
  have X := Lib.hid (show spX s = stX (wB s) by unfold spX; rw [if_pos ⟨hl, hn⟩])
  have C := Lib.hid (show spC s = 0 by unfold spC; rw [if_neg (by omega), if_pos hn])
  have hmf : ∀ (fn : Fn) (first cap : Array Value) (w : World), (Instr.makeFunc fn first cap).run Tryd.prog w = .ok (.func fn first cap) w := fun _ _ _ _ => rfl
  have SC := Lib.hid (fun W => split_calls s W (by omega))
  have TC := Lib.hid (fun g W h => (sstep_calls (wB s) g W (by rw [wB_len]; omega) (by have := words_len s; omega) (fun x hx => by have := wB_size hx; omega) h).mono fun e w' (hp : StP (wB s) W e w') => show (∃ fa fc, e = .returned (.agg (stepC (stX (wB s)) fa fc)) ∧ Row .i64 w' fa (stX (wB s)).fs ∧ (stX (wB s)).fs.length ≤ fc ∧ fc ≤ 9223372036854775807 ∧ ∀ ad, fa = some ad → 0 < (stX (wB s)).fs.length → W.heap.size ≤ ad.block) ∧ Below W.heap.size W w' from ⟨hp.1 hn, hp.2.2⟩)
  have KB0 := Lib.hid (blk_at (w := w.alloc (.cells #[.int .i64 0, .int .i64 0, .int .i64 0, .int .i64 0, .slice none 0 0] 25)) (t := 27) (cs := #[.int .i64 0]) (show w.heap.size + 1 = (w.alloc (.cells #[.int .i64 0, .int .i64 0, .int .i64 0, .int .i64 0, .slice none 0 0] 25)).heap.size by simp))
  have KA0 := Lib.hid ((Blk.new w 25 #[.int .i64 0, .int .i64 0, .int .i64 0, .int .i64 0, .slice none 0 0]).alloc (.cells #[.int .i64 0] 27))
  clear hl hn
  go_enter_defers Tryd.func17, Tryd.ntmps17
  go_wp2_with (first
    | (go_at_call 36; (with_reducible refine (SC.out _).mono ?_); rintro e w1 ⟨g, rfl, h1, h2, h3⟩; have HK := Lib.hid h2; have H3 := Lib.hid h3; have KA := Lib.hid (KA0.out.below h3); have KB := Lib.hid (KB0.out.below h3); clear h1 h2 h3)
    | (go_at_call 35; (with_reducible refine (TC.out _ _ HK.out).mono ?_); rintro e w2 ⟨⟨fa, fc, rfl, hr, hc1, hc2, hc3⟩, hb2⟩; have HC3 := Lib.hid hc3; clear hc3; have HC12 := Lib.hid (And.intro hc1 hc2); clear hc1 hc2; have HB2 := Lib.hid hb2; have HR := Lib.hid hr; have K0 := Lib.hid (KA.out.below hb2); have K1 := Lib.hid ((KB.out.below hb2).rowFar (k := w.heap.size) (by omega) (stepC (stX (wB s)) fa fc)); have q0 := K1.out.cell 0; have p0 := K1.out.frozen 0; clear hb2 hr)
    | (refine wpl_store (g := w.heap.size) rfl rfl rfl rfl K0.out (by kernel_rfl) rfl (stepC_one (stX (wB s)) fa fc) ?_))
  have B1 := Lib.hid (show Below w.heap.size w w1 from below_step (below_alloc (below_alloc (Below.refl _ _) _) _) H3.out)
  have BEL := Lib.hid ((below_setRow (below_step B1.out HB2.out) (g := w.heap.size) (Nat.le_refl _) (stepC (stX (wB s)) fa fc)).setCell (p := ⟨w.heap.size + 1, 0, none⟩) (by show w.heap.size ≤ w.heap.size + 1; omega) (.int .i64 0))
  have KF0 := Lib.hid ((K0.out.row (stepC (stX (wB s)) fa fc)).far (p := ⟨w.heap.size + 1, 0, none⟩) (by show w.heap.size ≠ w.heap.size + 1; omega) (.int .i64 0))
  have KF1 := Lib.hid (K1.out.set_ 0 (.int .i64 0))
  refine leaves_cons (f := 34) (args := #[.pointer (some ⟨w.heap.size, 0, none⟩), .pointer (some ⟨w.heap.size + 1, 0, none⟩)]) (by simp) (by simp [go_sem]) ?_
  refine (catch_idle _ _ _).mono ?_
  rintro e u' w'' ⟨rfl, rfl, rfl⟩
  simp [Leaves, settle, go_sem]
  refine ⟨_, results_cc rfl _ _ w.heap.size (w.heap.size + 1) _ _ _ _ _ _ (by simp) (by simp) KF0.out KF1.out Tryd.underlying25 rfl (by kernel_rfl) Tryd.underlying27, ?_, BEL.out⟩
  have hz := B1.out
  have hz1 : w.heap.size + 2 ≤ w1.heap.size := by have := H3.out.size; simpa using this
  have RF : Row .i64 ((w2.setRow w.heap.size (stepC (stX (wB s)) fa fc)).setCell ⟨w.heap.size + 1, 0, none⟩ (.int .i64 0)) fa (stX (wB s)).fs := by
    have r1 := row_setRow (base := 0) HR.out (g := w.heap.size) (fun ad h hp => by have := HC3.out ad h hp; omega) (stepC (stX (wB s)) fa fc)
    refine ⟨r1.1, r1.2.1, fun hp => ?_⟩
    obtain ⟨ad, e, hcc⟩ := r1.2.2 hp
    refine ⟨ad, e, fun j hj => ?_⟩
    have hbl : (ad.add j).block = ad.block := by unfold Addr.add; split <;> rfl
    rw [World.cell?_setCell_far _ _ _ _ (by rw [hbl]; have := HC3.out ad e hp; show w.heap.size + 1 ≠ ad.block; omega)]
    exact hcc j hj
  exact ⟨fa, fc, by rw [X.out, C.out]; rfl, by rw [X.out]; exact RF, by rw [X.out]; exact HC12.out.1, HC12.out.2, fun ad h hp => by rw [X.out] at hp; have := HC3.out ad h hp; omega⟩
theorem sparse_calls (s : ByteArray) (w : World) : Calls Tryd.prog 17 #[.string s] w (SpP s w) := by
  by_cases hl : s.size ≤ 512
  · by_cases hn : StOk (wB s)
    · exact sparse_ok s w hl hn
    · exact sparse_bad s w hl hn
  · exact sparse_long s w (by omega)
end Go.Proofs.YtminokbigpckaaaDoor.Ct
