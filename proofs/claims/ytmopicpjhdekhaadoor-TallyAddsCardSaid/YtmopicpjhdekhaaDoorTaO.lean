import Derived.Test.YtmopicpjhdekhaaDoorTaN
/-! The reference's Parse. -/
namespace Go.Proofs.YtmopicpjhdekhaaDoor.Ct
open Go.RowKit
set_option linter.unusedVariables false
set_option linter.unusedSimpArgs false
theorem infoI : (Tryd.prog.info? 3).map (fun i => (i.zero, i.size, i.bytes)) = some (some (.int .i64 0), 1, 8) := by kernel_rfl
theorem results_ct {P : Program} {fn : Func} {p u : Tmp} {ty : TypeId} (h : fn.results = #[.cell p ty, .tmp u]) (tmps : Array Value) (w : World) (g : Nat) (t : TypeId) (cs : Array Value) (fr : Nat × Nat) (d : TypeDesc)
    (hp : tmps.getD p undef = .pointer (some ⟨g, 0, none⟩)) (hg : w.heap[g]? = some (.cells cs t fr))
    (hu : P.underlying ty = some d) (hd : (match d with | .struct _ | .array _ _ => true | _ => false) = true) (hi : (P.info? ty).map (·.size) = some cs.size) :
    (results fn tmps).run P w = .ok (.tuple #[.agg cs, tmps.getD u undef]) w := by
  have hp' : tmps[p]?.getD undef = .pointer (some ⟨g, 0, none⟩) := by simpa using hp
  simp [results, h, hp', asAddr, run_loadVar_row w g t ty cs fr d hg hu hd hi]
theorem read_bool (l : List Int) : (readS l).2 = (parseS l).2 := by
  rcases both l with ⟨n, h1, h2⟩ | ⟨h1, c, h2⟩
  · rw [h1, h2]
  · rw [h1, h2]
theorem read_val {l : List Int} (h : (parseS l).2 = true) : (readS l).1 = (parseS l).1 := by
  rcases both l with ⟨n, h1, h2⟩ | ⟨h1, c, h2⟩
  · rw [h1, h2]
  · rw [h1] at h; cases h
theorem pv_bd (ws : List ByteArray) (i : Nat) : I64 (pv ws i) := by
  unfold pv
  cases h : (parseS (bs (ws.getD i ByteArray.empty))).2 with
  | true => rw [← read_val h]; exact (read_yes (by rw [read_bool, h])).2
  | false =>
    rcases both (bs (ws.getD i ByteArray.empty)) with ⟨n, h1, h2⟩ | ⟨h1, c, h2⟩
    · rw [h1] at h; cases h
    · rw [h1]; exact ⟨by decide, by decide⟩
/-- the first k words' numbers. -/
def numsK (ws : List ByteArray) (k : Nat) : List Int := (List.range k).map (pv ws)
theorem numsK_len (ws : List ByteArray) (k : Nat) : (numsK ws k).length = k := by simp [numsK]
theorem numsK_next (ws : List ByteArray) (k : Nat) : numsK ws (k + 1) = numsK ws k ++ [pv ws k] := by simp [numsK, List.range_succ]
theorem numsK_get (ws : List ByteArray) {k j : Nat} (h : j < k) : (numsK ws k).getD j 0 = pv ws j := by
  rw [List.getD_eq_getElem?_getD]
  simp [numsK, h]
theorem c14_own {w : World} {base g c : Nat} {ws : List ByteArray} (h : Row .i64 w (some ⟨g, 0, none⟩) (numsK ws 14)) : C14 w g (pv ws) := by
  have hc : ∀ j, j < 14 → w.cell? ⟨g, j, none⟩ = some (.int .i64 (pv ws j)) := by
    intro j hj
    obtain ⟨ad, e, hcc, -⟩ := h.at_ (j := j) (by rw [numsK_len]; exact hj)
    injection e with e
    subst e
    rw [add_plain, numsK_get _ hj] at hcc
    exact hcc
  exact ⟨hc 0 (by omega), hc 1 (by omega), hc 2 (by omega), hc 3 (by omega), hc 4 (by omega), hc 5 (by omega), hc 6 (by omega), hc 7 (by omega), hc 8 (by omega), hc 9 (by omega), hc 10 (by omega), hc 11 (by omega), hc 12 (by omega), hc 13 (by omega)⟩
theorem zero_one : zero14.all (·.oneCell') = true := by simp [zero14, Value.oneCell']
set_option maxRecDepth 10000 in
set_option maxHeartbeats 4000000 in
theorem rtparse_short (s : ByteArray) (w : World) (hs : s.size ≤ 900000) (hl : (wB s).length ≠ 14) :
    Calls Tryd.prog 8 #[.string s] w fun e w' => e = .returned (.tuple #[.agg zero14, .int .i64 31]) ∧ Below w.heap.size w w' := by
  have WC := Lib.hid (fun W => rwords_calls s W hs)
  generalize wB s = ws at *
  have hne : ((ws.length : Int) == 14) = false := beq_eq_false_iff_ne.2 (by omega)
  have K0 := Lib.hid (Blk.new w 23 zero14)
  have B0 := Lib.hid (below_alloc (Below.refl w.heap.size w) (.cells zero14 23))
  have ZA := Lib.hid zero_one
  unfold zero14 at *
  go_enter Tryd.func8, Tryd.ntmps8
  go_wp2_with (first
    | (go_at_call 29; (with_reducible refine (WC.out _).mono ?_); rintro e w1 ⟨sv, rfl, hsl, hb⟩; obtain ⟨sa, sc, rfl, -, -⟩ := hsl.form; have K0 := Lib.hid (K0.out.below hb); have B1 := Lib.hid (below_step B0.out hb); clear hsl hb)
    | (refine wpl_store (g := w.heap.size) rfl rfl rfl rfl K0.out (by kernel_rfl) rfl ZA.out ?_))
  refine bodyPost_ret (results_ct rfl _ _ w.heap.size _ _ _ _ rfl (K0.out.row _) Tryd.underlying23 rfl (by kernel_rfl)) rfl ?_
  exact ⟨rfl, below_setRow B1.out (Nat.le_refl _) _⟩
set_option maxRecDepth 10000 in
set_option maxHeartbeats 4000000 in
theorem rtparse_long (s : ByteArray) (w : World) (hs : s.size ≤ 900000) (hl : (wB s).length = 14) :
    Calls Tryd.prog 8 #[.string s] w fun e w' => e = .returned (ptV (wB s)) ∧ Below w.heap.size w w' := by
  have WC := Lib.hid (fun W => rwords_calls s W hs)
  rw [hl] at WC
  have RC := Lib.hid (fun j (hj : j < 14) W => read_calls ((wB s).getD j ByteArray.empty) W (by
    have hm : (wB s).getD j ByteArray.empty ∈ wB s := by rw [List.getD_eq_getElem?_getD, List.getElem?_eq_getElem (by omega)]; exact List.getElem_mem _
    have := wB_size hm
    omega))
  generalize wB s = ws at *
  have HL := Lib.hid hl
  clear hl
  have K0 := Lib.hid (Blk.new w 23 zero14)
  have B0 := Lib.hid (below_alloc (Below.refl w.heap.size w) (.cells zero14 23))
  have ZA := Lib.hid zero_one
  have ZP := Lib.hid (tlC_one (pv ws))
  unfold zero14 at K0 B0 ZA
  go_enter Tryd.func8, Tryd.ntmps8
  go_wp2_with (first
    | (go_at_call 29; (with_reducible refine (WC.out _).mono ?_); rintro e w1 ⟨sv, rfl, hsl, hb⟩; obtain ⟨wg, wo, wcap, wcs, rfl, hge, hwb, hcap, hcm, hcell⟩ := hsl.at_ (by omega); have K1 := Lib.hid (K0.out.below hb); have B1 := Lib.hid (below_step B0.out hb); have WBK := Lib.hid hwb; have HWC := Lib.hid hcell; have HGE := Lib.hid hge; clear hsl hb hwb hcell hge))
  clear K0 B0 WC
  go_loopw [5, 6, 7, 8] (fun l i n ok wr => ∃ (k : Nat), k ≤ 14 ∧ i = .int .i64 k ∧ Own .i64 3 wr w1.heap.size l (numsK ws k) ∧ Blk wr wg 9 wcs ∧ Blk wr w.heap.size 23 #[.int .i64 0, .int .i64 0, .int .i64 0, .int .i64 0, .int .i64 0, .int .i64 0, .int .i64 0, .int .i64 0, .int .i64 0, .int .i64 0, .int .i64 0, .int .i64 0, .int .i64 0, .int .i64 0] ∧ Below w1.heap.size w1 wr ∧ ∀ j, j < k → (parseS (bs (ws.getD j ByteArray.empty))).2 = true) (fun _ i _ _ _ => 14 - (intOf i).toNat)
  case atStart => exact ⟨0, by omega, rfl, own_nil _ _ _ _, WBK.out, K1.out, Below.refl _ _, fun j hj => by omega⟩
  case round =>
    have HWG := Lib.hid WBK.out.lt
    have HW0 := Lib.hid K1.out.lt
    clear K1 WBK
    obtain ⟨k, hk, rfl, ho, hwb, hk0, hb, hok⟩ := hrel
    have HO := Lib.hid ho
    have WBK := Lib.hid hwb
    have K1 := Lib.hid hk0
    have HB := Lib.hid hb
    have HOK := Lib.hid hok
    have hO := ho.form
    clear hk0 hb hok ho
    by_cases hlt : k < 14
    · clear hO
      have hlti : (k : Int) < 14 := by omega
      have cw := (hwb.cell (wo + k)).trans (HWC.out k (by omega))
      have hgk : (ws.map Value.string)[k]? = some (.string (ws.getD k ByteArray.empty)) := by
        rw [List.getElem?_map, List.getD_eq_getElem?_getD, List.getElem?_eq_getElem (by have := HL.out; omega)]
        rfl
      rw [hgk] at cw
      clear hgk hwb
      have RK := Lib.hid (RC.out k hlt)
      have PV := Lib.hid (show (parseS (bs (ws.getD k ByteArray.empty))).1 = pv ws k from rfl)
      have hrb := read_bool (bs (ws.getD k ByteArray.empty))
      cases hp : (parseS (bs (ws.getD k ByteArray.empty))).2 with
      | false =>
        rw [hp] at hrb
        rw [hrb] at RK
        have HPO := Lib.hid (ptOk_bad HL.out hlt hp)
        have VV := Lib.hid (show ptV ws = .tuple #[.agg zero14, .int .i64 31] by unfold ptV; rw [HPO.out]; rfl)
        clear hp hrb PV HPO RC HOK
        generalize ws.getD k ByteArray.empty = wk at *
        go_wp2_with (first
          | (go_at_call 30; (with_reducible refine (RK.out _).mono ?_); rintro e w3 ⟨rfl, rfl⟩)
          | (refine wpl_store (g := w.heap.size) rfl rfl rfl rfl K1.out (by kernel_rfl) rfl ZA.out ?_))
        refine bodyPost_ret (results_ct rfl _ _ w.heap.size _ _ _ _ rfl (K1.out.row _) Tryd.underlying23 rfl (by kernel_rfl)) rfl ?_
        rw [VV.out]
        exact ⟨rfl, below_setRow (below_step B1.out HB.out) (Nat.le_refl _) _⟩
      | true =>
        have hrv := read_val hp
        rw [hp] at hrb
        rw [hrb, hrv, PV.out] at RK
        have HPK := Lib.hid hp
        have NN := Lib.hid (numsK_next ws k)
        have NL := numsK_len ws k
        have PB := Lib.hid (pv_bd ws k)
        clear hp hrb hrv PV
        generalize hwk : ws.getD k ByteArray.empty = wk at *
        have HWK := Lib.hid hwk
        clear hwk
        generalize pv ws k = v at *
        go_wp2_with (first
          | (go_at_call 30; (with_reducible refine (RK.out _).mono ?_); rintro e w3 ⟨rfl, rfl⟩)
          | (at_builtin; refine wp_app1 36 3 .i64 8 Tryd.underlying36 infoI rfl (.tmp 30) (.tmp 32) rfl w1.heap.size _ (numsK ws k) v (by repeat (first | with_reducible apply Own.alloc | with_reducible apply Own.drewN | with_reducible apply Own.drew | exact HO.out)) rfl _ rfl (by simp [go_sem]) (i64wf PB.out) (by omega) (by decide) (by have := HB.out.size; simp; omega) ?_; intro v2 w2 hown hg; have HB2 := Lib.hid (Below.app (k := .i64) (E := 3) (base := w1.heap.size) (xs := (numsK ws k)) (by repeat (first | with_reducible exact HB.out | with_reducible apply below_alloc | with_reducible apply below_drewN | with_reducible apply below_drew)) hg (by repeat (first | with_reducible apply Own.alloc | with_reducible apply Own.drewN | with_reducible apply Own.drew | exact HO.out)) (Nat.le_refl _) (by have := HB.out.size; simp; omega)); have HO2 := Lib.hid hown; have HG2 := Lib.hid hg; clear hown hg))
        refine ⟨⟨k + 1, by omega, by go_num, by rw [NN.out]; exact HO2.out, Blk.grown (Blk.alloc WBK.out _) HG2.out ?_, Blk.grown (Blk.alloc K1.out _) HG2.out ?_, HB2.out, fun j hj => ?_⟩, by first | (simp [intOf]; done) | (simp [intOf]; omega)⟩
        · intro e
          have := HO.out.base _ e.symm
          have := HWG.out
          omega
        · intro e
          have := HO.out.base _ e.symm
          have := HW0.out
          omega
        · by_cases e : j = k
          · subst e; rw [HWK.out]; exact HPK.out
          · exact HOK.out j (by omega)
    · obtain rfl : k = 14 := by omega
      obtain ⟨oa, oc, rfl, hoc, hocm, hor, -, hof⟩ := hO
      rw [numsK_len] at hoc
      have hc := hor.at_ (j := 0) (by rw [numsK_len]; omega)
      obtain ⟨od, rfl, -, -⟩ := hc
      obtain ⟨ogb, oo, ok⟩ := od
      obtain ⟨e1, -, -⟩ := hof _ rfl
      injection e1 with e1 e2 e3
      subst e2 e3
      clear e1
      rw [numsK_len]
      have OC := Lib.hid (rof_calls ogb oc (pv ws) wr (by omega) (c14_own (base := 0) (c := oc) hor))
      have VV := Lib.hid (show ptV ws = .tuple #[.agg (tlC (pv ws)), .int .i64 0] by unfold ptV; rw [if_pos (ptOk_all HL.out HOK.out)])
      clear hof hor
      go_wp2_with (first
          | (go_at_call 19; (with_reducible refine (OC.out).mono ?_); rintro e w3 ⟨rfl, hb3⟩; have K1 := Lib.hid (K1.out.below hb3); have HB3 := Lib.hid (below_step (below_step B1.out HB.out) hb3); clear hb3)
          | (refine wpl_store (g := w.heap.size) rfl rfl rfl rfl K1.out (by kernel_rfl) rfl ZP.out ?_))
      refine bodyPost_ret (results_ct rfl _ _ w.heap.size _ _ _ _ rfl (K1.out.row _) Tryd.underlying23 rfl (by kernel_rfl)) rfl ?_
      rw [VV.out]
      exact ⟨rfl, below_setRow HB3.out (Nat.le_refl _) _⟩
theorem rtparse_calls (s : ByteArray) (w : World) (hs : s.size ≤ 900000) :
    Calls Tryd.prog 8 #[.string s] w fun e w' => e = .returned (ptV (wB s)) ∧ Below w.heap.size w w' := by
  by_cases h : (wB s).length = 14
  · exact rtparse_long s w hs h
  · have hv : ptV (wB s) = .tuple #[.agg zero14, .int .i64 31] := by unfold ptV ptOk; rw [decide_eq_false h]; rfl
    rw [hv]
    exact rtparse_short s w hs h
end Go.Proofs.YtmopicpjhdekhaaDoor.Ct
