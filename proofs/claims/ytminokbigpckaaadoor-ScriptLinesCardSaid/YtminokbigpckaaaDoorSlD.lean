import Derived.Test.YtminokbigpckaaaDoorSlP
import Derived.Test.YtminokbigpckaaaDoorRegP
import Derived.Test.YtminokbigpckaaaDoorRegE
import Derived.Deep.RegionLaw
/-! script.step. -/
namespace Go.Proofs.YtminokbigpckaaaDoor.Ct
open Go.RowKit
set_option linter.unusedVariables false
set_option linter.unusedSimpArgs false
theorem infoI : (Tryd.prog.info? 3).map (fun i => (i.zero, i.size, i.bytes)) = some (some (.int .i64 0), 1, 8) := by kernel_rfl
theorem row_of_SLi {base : Nat} {w : World} {a : Option Addr} {c : Nat} {xs : List Int} (h : SL base w 3 1 (.slice a xs.length c) xs.length (xs.map (Value.int .i64))) (hw : ∀ x ∈ xs, I64 x) : Row .i64 w a xs := by
  rcases h.2 with ⟨e, h0⟩ | ⟨g, off, cap, cs, e, hb, hbl, h1, h2, h3, h4⟩
  · injection e with e1 e2 e3
    subst e1
    rw [List.length_eq_zero_iff.1 h0]
    exact row_nil _ _
  · injection e with e1 e2 e3
    subst e1
    refine ⟨by omega, fun x hx => i64wf (hw x hx), fun _ => ⟨_, rfl, fun j hj => ?_⟩⟩
    rw [Addr.add_lit, hbl.cell, h4 j (by omega), List.getElem?_map, List.getElem?_eq_getElem hj, List.getD_eq_getElem?_getD, List.getElem?_eq_getElem hj]
    rfl
theorem wpl_store {P : Program} {ops : Array Oper} {rest : List Oper} {o : Oper} {a : Act} {w : World} {Q : Exit → Act → World → Prop} {g : Nat} {t ty : TypeId} {old cs : Array Value} {x y : Operand} (hgd : o.guard = none) (ho : o.op = .store ty x y) (hx : a.eval x = .pointer (some ⟨g, 0, none⟩)) (hy : a.eval y = .agg cs) (h : Blk w g t old)
    (hi : (P.info? ty).map (·.size) = some cs.size) (hs : old.size = cs.size) (h1 : cs.all (·.oneCell') = true) (hK : wpList P ops Q rest (a.put o.dst undef) (w.setRow g cs)) : wpList P ops Q (o :: rest) a w := by
  refine wpList_plain hgd fun K hK' => ?_
  have e : (execOp a.eval o).run P w = .ok .skip (w.setRow g cs) := by
    unfold execOp
    simp only [ho, hx, hy, Instr.storeAt, Instr.sureAddr, Sem.run_bind, Sem.run_pure, Result.andThen_ok, run_storeVar_row w g t ty old cs h hi hs h1]
  unfold Oper.wp
  rw [e]
  exact hK' _ _ hK
theorem Blk.row {w : World} {g : Nat} {t : TypeId} {cs : Array Value} (h : Blk w g t cs) (new : Array Value) : Blk (w.setRow g new) g t new := setRow_heap w g cs new t (0, 0) h
theorem results_c {P : Program} {fn : Func} {p : Tmp} {ty : TypeId} (h : fn.results = #[.cell p ty]) (tmps : Array Value) (w : World) (g : Nat) (t : TypeId) (cs : Array Value) (fr : Nat × Nat) (d : TypeDesc)
    (hp : tmps.getD p undef = .pointer (some ⟨g, 0, none⟩)) (hg : w.heap[g]? = some (.cells cs t fr))
    (hu : P.underlying ty = some d) (hd : (match d with | .struct _ | .array _ _ => true | _ => false) = true) (hi : (P.info? ty).map (·.size) = some cs.size) :
    (results fn tmps).run P w = .ok (.agg cs) w := by
  have hp' : tmps[p]?.getD undef = .pointer (some ⟨g, 0, none⟩) := by simpa using hp
  simp [results, h, hp', asAddr, run_loadVar_row w g t ty cs fr d hg hu hd hi]
theorem stepC_one (x : Sp) (fa : Option Addr) (fc : Nat) : (stepC x fa fc).all (·.oneCell') = true := by simp [stepC, Value.oneCell']
theorem row_setRow {w : World} {a : Option Addr} {xs : List Int} {base g : Nat} (h : Row .i64 w a xs) (hg : ∀ ad, a = some ad → 0 < xs.length → ad.block ≠ g) (cs : Array Value) : Row .i64 (w.setRow g cs) a xs :=
  ⟨h.1, h.2.1, fun hp => by
    obtain ⟨ad, e, hc⟩ := h.2.2 hp
    refine ⟨ad, e, fun j hj => ?_⟩
    have hbl : (ad.add j).block = ad.block := by unfold Addr.add; split <;> rfl
    rw [cell_setRow_other w g cs (ad.add j) (by rw [hbl]; exact hg ad e hp)]
    exact hc j hj⟩
def mineI : Obj → Bool
  | .cells _ t _ => t == 3
  | _ => false
theorem ent_snum : ∀ args w, (callFunc 51 args).run Tryd.prog w = .ok (.enter 51 args) w := fun _ _ => by kernel_rfl
/-- the numbers on their way. -/
def nmC (ws : List ByteArray) (k : Nat) : Array Value := #[.int .i64 (if 0 < k then stN ws 0 else 0), .int .i64 (if 1 < k then stN ws 1 else 0), .int .i64 (if 2 < k then stN ws 2 else 0)]
theorem nmC_next (ws : List ByteArray) {k : Nat} (h : k < 3) : (nmC ws k).setIfInBounds k (.int .i64 (stN ws k)) = nmC ws (k + 1) := by
  rcases k with _ | _ | _ | k
  · rfl
  · rfl
  · rfl
  · omega
theorem nmC_get (ws : List ByteArray) (m : Nat) {k : Nat} (h : k < 3) : ∃ v, (nmC ws m)[k]? = some v := by
  rcases k with _ | _ | _ | k
  · exact ⟨_, rfl⟩
  · exact ⟨_, rfl⟩
  · exact ⟨_, rfl⟩
  · omega
/-- what step answers. -/
def StP (ws : List ByteArray) (w : World) (e : Ending) (w' : World) : Prop :=
  (StOk ws → ∃ fa fc, e = .returned (stepV (stX ws) fa fc) ∧ Row .i64 w' fa (stX ws).fs ∧ (stX ws).fs.length ≤ fc ∧ fc ≤ 9223372036854775807 ∧ ∀ ad, fa = some ad → 0 < (stX ws).fs.length → w.heap.size ≤ ad.block) ∧ (¬ StOk ws → e = .panicked [wrongE]) ∧ Below w.heap.size w w'
theorem stP_bad {ws : List ByteArray} {w w' : World} (h : ¬ StOk ws) (hb : Below w.heap.size w w') : StP ws w (.panicked [wrongE]) w' := ⟨fun h2 => absurd h2 h, fun _ => rfl, hb⟩
set_option maxRecDepth 10000 in
set_option maxHeartbeats 8000000 in
theorem sstep_calls (ws : List ByteArray) (g : Nat) (w : World) (hN : 1 ≤ ws.length) (hN2 : ws.length ≤ 900001) (hsz : ∀ x ∈ ws, x.size ≤ 900000) (hbl : Blk w g 9 (ws.map Value.string).toArray) :
    Calls Tryd.prog 35 #[.slice (some ⟨g, 0, none⟩) ws.length ws.length] w (StP ws w) := by
  have WB := Lib.hid hbl
  have WV := Lib.hid (fun i (hi : i < ws.length) => show (ws.map Value.string).toArray[i]? = some (.string (ws.getD i ByteArray.empty)) by rw [List.getElem?_toArray, List.getElem?_map, List.getD_eq_getElem?_getD, List.getElem?_eq_getElem hi]; rfl)
  have SZ := Lib.hid (fun i (hi : i < ws.length) => show (ws.getD i ByteArray.empty).size ≤ 9223372036854775807 by
    have hm : ws.getD i ByteArray.empty ∈ ws := by rw [List.getD_eq_getElem?_getD, List.getElem?_eq_getElem hi]; exact List.getElem_mem _
    have := hsz _ hm
    omega)
  have c0 := (hbl.cell 0).trans (WV.out 0 hN)
  have c0A := fun o => ((hbl.alloc o).cell 0).trans (WV.out 0 hN)
  have HN2 := Lib.hid hN2
  have OPD := Lib.hid (show opW (ws.getD 0 ByteArray.empty) = stOp ws from rfl)
  obtain ⟨M, hM⟩ : ∃ M, ws.length = M + 1 := ⟨ws.length - 1, by omega⟩
  have HM := Lib.hid hM
  rw [hM]
  have h0i : (0 : Int) < (M : Int) + 1 := by omega
  have B0 := Lib.hid (below_alloc (Below.refl w.heap.size w) (.cells #[.int .i64 0, .int .i64 0, .int .i64 0, .int .i64 0, .slice none 0 0] 25))
  clear hsz hbl hM hN hN2
  by_cases hop : stOp ws = 0
  · have OC := Lib.hid (fun W => sop_bad (ws.getD 0 ByteArray.empty) W hop)
    have NO := Lib.hid (fun h : StOk ws => h.1 hop)
    clear hop
    generalize ws.getD 0 ByteArray.empty = w0 at *
    go_enter Tryd.func35, Tryd.ntmps35
    go_wp2_with (first
      | (go_at_call 50; (with_reducible refine (OC.out _).mono ?_); rintro e w1 ⟨rfl, hb1⟩; have B1 := Lib.hid (below_step B0.out hb1); clear hb1))
    exact ⟨rfl, stP_bad NO.out B1.out⟩
  · have OC := Lib.hid (fun W => sop_ok (ws.getD 0 ByteArray.empty) W hop)
    rw [OPD.out] at OC
    have o14 : stOp ws ≤ 14 := by
      unfold stOp
      rcases opW_spec (ws.getD 0 ByteArray.empty) with h | h
      · exact h.2.1
      · omega
    have MC := Lib.hid (fun W => smany_calls (stOp ws : Nat) W)
    have NM := Lib.hid (show manyS (stOp ws : Nat) = (stNm ws : Nat) by have := manyS_bd (stOp ws : Nat); unfold stNm; omega)
    rw [NM.out] at MC
    have NL := Lib.hid (stNm_le ws)
    have HOP := Lib.hid hop
    clear hop o14
    generalize ws.getD 0 ByteArray.empty = w0 at *
    go_enter Tryd.func35, Tryd.ntmps35
    go_upto_region 2 with (first
      | (go_at_call 50; (with_reducible refine (OC.out _).mono ?_); rintro e w1 ⟨rfl, e1⟩; subst e1))
    have K0 := Lib.hid ((Blk.new w 25 #[.int .i64 0, .int .i64 0, .int .i64 0, .int .i64 0, .slice none 0 0]).alloc (.cells #[.int .i64 (stOp ws : Nat), .int .i64 0, .int .i64 0, .int .i64 0, .slice none 0 0] 25))
    have KX := Lib.hid (blk_at (w := w.alloc (.cells #[.int .i64 0, .int .i64 0, .int .i64 0, .int .i64 0, .slice none 0 0] 25)) (t := 25) (cs := #[.int .i64 (stOp ws : Nat), .int .i64 0, .int .i64 0, .int .i64 0, .slice none 0 0]) (show w.heap.size + 1 = (w.alloc (.cells #[.int .i64 0, .int .i64 0, .int .i64 0, .int .i64 0, .slice none 0 0] 25)).heap.size by simp))
    have B2 := Lib.hid (below_alloc B0.out (.cells #[.int .i64 (stOp ws : Nat), .int .i64 0, .int .i64 0, .int .i64 0, .slice none 0 0] 25))
    have Z2 := Lib.hid (show ((w.alloc (.cells #[.int .i64 0, .int .i64 0, .int .i64 0, .int .i64 0, .slice none 0 0] 25)).alloc (.cells #[.int .i64 (stOp ws : Nat), .int .i64 0, .int .i64 0, .int .i64 0, .slice none 0 0] 25)).heap.size = w.heap.size + 1 + 1 by simp)
    clear c0 c0A OC B0
    generalize (w.alloc _).alloc _ = w2 at *
    have x0 : w2.cell? ⟨w.heap.size + 1, 0, none⟩ = some (.int .i64 (stOp ws : Nat)) := KX.out.cell 0
    have h1i : (1 : Int) ≤ (M : Int) + 1 := by omega
    go_upto_region 4 with (first
      | (go_at_call 25; (with_reducible refine (MC.out _).mono ?_); rintro e w1 ⟨rfl, e1⟩; subst e1))
    obtain ⟨ro, hro, hr1⟩ : ∃ ro, (if M = 0 then some (⟨g, 0, none⟩ : Addr) else some ⟨g, 1, none⟩) = some ⟨g, ro, none⟩ ∧ (0 < M → ro = 1) := by
      by_cases h : M = 0
      · exact ⟨0, by rw [if_pos h], fun h2 => by omega⟩
      · exact ⟨1, by rw [if_neg h], fun _ => rfl⟩
    simp only [hro]
    have HR1 := Lib.hid hr1
    clear hro hr1 x0 h1i h0i MC
    by_cases hshort : M < stNm ws
    · have hsi : (M : Int) < (stNm ws : Nat) := by omega
      have NO := Lib.hid (fun h : StOk ws => show False by have := h.2.1; have := HM.out; omega)
      go_wp2
      exact ⟨rfl, stP_bad NO.out B2.out⟩
    · have hsi : ¬ (M : Int) < (stNm ws : Nat) := by omega
      go_upto_region 7 with (fail)
      have K0 := Lib.hid (K0.out.alloc (.cells #[.int .i64 0, .int .i64 0, .int .i64 0] 52))
      have KX := Lib.hid (KX.out.alloc (.cells #[.int .i64 0, .int .i64 0, .int .i64 0] 52))
      have KN := Lib.hid (show Blk (w2.alloc (.cells #[.int .i64 0, .int .i64 0, .int .i64 0] 52)) w2.heap.size 52 (nmC ws 0) from Blk.new _ _ _)
      have B3 := Lib.hid (B2.out.alloc B2.out.size (.cells #[.int .i64 0, .int .i64 0, .int .i64 0] 52))
      have ZN := Lib.hid (show w.heap.size + 1 < w2.heap.size by have := Z2.out; omega)
      clear B2 Z2
      generalize w2.alloc _ = w3 at *
      generalize w2.heap.size = gn at *
      have NB := Lib.hid (fun i (hi : i < M) (hb : okW (ws.getD (i + 1) ByteArray.empty) = false) => fun h : StOk ws => show False by
        have h2 := h.2.2.1 i (by have := HM.out; omega)
        rw [hb] at h2
        cases h2)
      go_wp2
      go_loopw [7, 27] (fun i c wr => ∃ (k : Nat), k ≤ stNm ws ∧ c = .int .i64 k ∧ Blk wr gn 52 (nmC ws k) ∧ Blk wr (w.heap.size + 1) 25 #[.int .i64 (stOp ws : Nat), .int .i64 0, .int .i64 0, .int .i64 0, .slice none 0 0] ∧ Blk wr w.heap.size 25 #[.int .i64 0, .int .i64 0, .int .i64 0, .int .i64 0, .slice none 0 0] ∧ Below w.heap.size w wr ∧ ∀ i, i < k → okW (ws.getD (i + 1) ByteArray.empty) = true) (fun _ c _ => stNm ws - (intOf c).toNat)
      case atStart => exact ⟨0, by omega, rfl, KN.out, KX.out, K0.out, B3.out, fun i hi => by omega⟩
      case round =>
        clear KN KX K0 B3
        obtain ⟨k, hk, rfl, hkn, hkx, hk0, hb, hok⟩ := hrel
        have KN := Lib.hid hkn
        have KX := Lib.hid hkx
        have K0 := Lib.hid hk0
        have HB := Lib.hid hb
        have HOK := Lib.hid hok
        have hnl := NL.out
        clear hkx hk0 hok
        by_cases hlt : k < stNm ws
        · have hlti : (k : Int) < (stNm ws : Nat) := by omega
          have hk3 : k < 3 := by omega
          have hk3i : (k : Int) < 3 := by omega
          have hkm : (k : Int) < (M : Nat) := by omega
          obtain rfl := HR1.out (by omega)
          have cw := bget hb ((WB.out.cell (1 + k)).trans (WV.out (1 + k) (by have := HM.out; omega)))
          rw [show 1 + k = k + 1 by omega] at cw
          have cw2 : wr.cell? ⟨g, 1 + k, none⟩ = some (.string (ws.getD (k + 1) ByteArray.empty)) := by rw [show 1 + k = k + 1 by omega]; exact cw
          obtain ⟨y, cy⟩ := nmC_get ws k hk3
          have cn := (hkn.cell k).trans cy
          have fn := hkn.frozen k
          have SZK := Lib.hid (SZ.out (k + 1) (by have := HM.out; omega))
          have NX := Lib.hid (nmC_next ws hk3)
          have NBK := Lib.hid (NB.out k (by omega))
          have PV := Lib.hid (show (parseS (bs (ws.getD (k + 1) ByteArray.empty))).1 = stN ws k from rfl)
          have HW := Lib.hid (rfl : okW (ws.getD (k + 1) ByteArray.empty) = okW (ws.getD (k + 1) ByteArray.empty))
          clear hb hkn cw cy
          cases hp : okW (ws.getD (k + 1) ByteArray.empty) with
          | false =>
            have NC := Lib.hid (fun W => snumber_bad (ws.getD (k + 1) ByteArray.empty) W SZK.out hp)
            have NO := Lib.hid (NBK.out hp)
            clear hp
            generalize ws.getD (k + 1) ByteArray.empty = wk at *
            go_wp2_with (first
              | (go_at_call 51; (with_reducible refine (NC.out _).mono ?_); rintro e w4 ⟨rfl, hb4⟩; have HB4 := Lib.hid (below_step HB.out hb4); clear hb4))
            exact ⟨rfl, stP_bad NO.out HB4.out⟩
          | true =>
            have NC := Lib.hid (fun W => snumber_ok (ws.getD (k + 1) ByteArray.empty) W SZK.out hp)
            rw [PV.out] at NC
            have HP := Lib.hid hp
            clear hp PV
            generalize hwk : ws.getD (k + 1) ByteArray.empty = wk at *
            have HWK := Lib.hid hwk
            clear hwk
            generalize stN ws k = vk at *
            go_wp2_with (first
              | (go_at_call 51; (with_reducible refine (NC.out _).mono ?_); rintro e w4 ⟨rfl, hb4⟩; have HB4 := Lib.hid (below_step HB.out hb4); have K0 := Lib.hid (K0.out.below hb4); have KX := Lib.hid (KX.out.below hb4); have KN := Lib.hid (KN.out.below hb4); have cn := bget hb4 cn; have fn := KN.out.frozen k; clear hb4))
            refine ⟨⟨k + 1, by omega, by go_num, ?_, KX.out.far (p := ⟨gn, k, none⟩) (by have := ZN.out; show w.heap.size + 1 ≠ gn; omega) _, K0.out.far (p := ⟨gn, k, none⟩) (by have := ZN.out; show w.heap.size ≠ gn; omega) _, HB4.out.setCell (p := ⟨gn, k, none⟩) (by have := ZN.out; show w.heap.size ≤ gn; omega) _, fun i hi => ?_⟩, by first | (simp [intOf]; done) | (simp [intOf]; omega)⟩
            · have := KN.out.set_ k (.int .i64 vk)
              rw [NX.out] at this
              exact this
            · by_cases e : i = k
              · subst e; rw [HWK.out]; exact HP.out
              · exact HOK.out i (by omega)
        · obtain rfl : k = stNm ws := by omega
          have KN := Lib.hid (show Blk wr gn 52 #[.int .i64 (stC ws 0), .int .i64 (stC ws 1), .int .i64 (stC ws 2)] from KN.out)
          have NG := Lib.hid (fun W (h : Blk W gn 52 #[.int .i64 (stC ws 0), .int .i64 (stC ws 1), .int .i64 (stC ws 2)]) => show W.cell? ⟨gn, 0, none⟩ = some (.int .i64 (stC ws 0)) ∧ W.cell? ⟨gn, 1, none⟩ = some (.int .i64 (stC ws 1)) ∧ W.cell? ⟨gn, 2, none⟩ = some (.int .i64 (stC ws 2)) from ⟨h.cell 0, h.cell 1, h.cell 2⟩)
          have NE := ZN.out
          clear hb hkn
          go_upto_region 12 with (fail)
          refine wp_region_E [] [_, _, _, _, _, _, _, _, _, _, _, _, _, _, _, _, _, _, _, _, _, _, _, _, _, _, _, _, _, _, _, _, _, _, _, _, _, _, .pointer (some ⟨gn, 0, none⟩), .int .i64 (stC ws 0), .pointer (some ⟨gn, 1, none⟩), .int .i64 (stC ws 1), .pointer (some ⟨gn, 2, none⟩), .int .i64 (stC ws 2), .pointer (some ⟨w.heap.size + 1, 1, none⟩), .pointer (some ⟨w.heap.size + 1, 2, none⟩), .pointer (some ⟨w.heap.size + 1, 3, none⟩), _, _, _, _, _, _, _, _, _, _, _, _, _, _, _, _, _, _, _, _, _, _] (fun d W => Blk W gn 52 #[.int .i64 (stC ws 0), .int .i64 (stC ws 1), .int .i64 (stC ws 2)] ∧ Blk W (w.heap.size + 1) 25 #[.int .i64 (stOp ws : Nat), .int .i64 (if d 7 = true then stC ws 0 else 0), .int .i64 (if d 9 = true then stC ws 1 else 0), .int .i64 (if d 11 = true then stC ws 2 else 0), .slice none 0 0] ∧ Blk W w.heap.size 25 #[.int .i64 0, .int .i64 0, .int .i64 0, .int .i64 0, .slice none 0 0] ∧ Below w.heap.size w W) (by kernel_rfl) rfl (by kernel_rfl) (by kernel_rfl) (by kernel_rfl) ⟨.inr rfl, .inr rfl, .inr rfl, .inr rfl, .inr rfl, .inr rfl, .inr rfl, .inr rfl, .inr rfl, .inr rfl, .inr rfl, .inr rfl, .inr rfl, .inr rfl, .inr rfl, .inr rfl, .inr rfl, .inr rfl, .inr rfl, .inr rfl, .inr rfl, .inr rfl, .inr rfl, .inr rfl, .inr rfl, .inr rfl, .inr rfl, .inr rfl, .inr rfl, .inr rfl, .inr rfl, .inr rfl, .inr rfl, .inr rfl, .inr rfl, .inr rfl, .inr rfl, .inr rfl, .inl rfl, .inl rfl, .inl rfl, .inl rfl, .inl rfl, .inl rfl, .inl rfl, .inl rfl, .inl rfl, .inr rfl, .inr rfl, .inr rfl, .inr rfl, .inr rfl, .inr rfl, .inr rfl, .inr rfl, .inr rfl, .inr rfl, .inr rfl, .inr rfl, .inr rfl, .inr rfl, .inr rfl, .inr rfl, .inr rfl, .inr rfl, .inr rfl, .inr rfl, .inr rfl, .inr rfl, trivial⟩ ⟨KN.out.drew, KX.out.drew, K0.out.drew, HB.out.drew⟩ ⟨?_, ?_, ?_, ?_, ?_, ?_, ?_, ?_, ?_, ?_, ?_, ?_, trivial⟩ ?_
          · exact dete_ok (v := .pointer (some ⟨gn, 0, none⟩)) rfl (fun d W hW _ _ => by first | rfl | (simp [execOp, evS, seen, go_sem])) (fun d W h => h) (fun t h => by cases h; rfl)
          · exact dete_ok (v := .int .i64 (stC ws 0)) rfl (fun d W hW _ _ => load_cell (g := gn) (off := 0) rfl rfl (by kernel_rfl) (hW.1.cell 0)) (fun d W h => h) (fun t h => by cases h; rfl)
          · exact dete_ok (v := .pointer (some ⟨gn, 1, none⟩)) rfl (fun d W hW _ _ => by first | rfl | (simp [execOp, evS, seen, go_sem])) (fun d W h => h) (fun t h => by cases h; rfl)
          · exact dete_ok (v := .int .i64 (stC ws 1)) rfl (fun d W hW _ _ => load_cell (g := gn) (off := 1) rfl rfl (by kernel_rfl) (hW.1.cell 1)) (fun d W h => h) (fun t h => by cases h; rfl)
          · exact dete_ok (v := .pointer (some ⟨gn, 2, none⟩)) rfl (fun d W hW _ _ => by first | rfl | (simp [execOp, evS, seen, go_sem])) (fun d W h => h) (fun t h => by cases h; rfl)
          · exact dete_ok (v := .int .i64 (stC ws 2)) rfl (fun d W hW _ _ => load_cell (g := gn) (off := 2) rfl rfl (by kernel_rfl) (hW.1.cell 2)) (fun d W h => h) (fun t h => by cases h; rfl)
          · exact dete_ok (v := .pointer (some ⟨w.heap.size + 1, 1, none⟩)) rfl (fun d W hW _ _ => by first | rfl | (simp [execOp, evS, seen, go_sem])) (fun d W h => h) (fun t h => by cases h; rfl)
          · exact dete_skip rfl rfl (fun d W hW h1 h2 => ⟨_, store_cell (g := w.heap.size + 1) (off := 1) (v := .int .i64 (stC ws 0)) rfl rfl rfl hW.2.1 rfl (by kernel_rfl) rfl rfl, hW.1.far (p := ⟨w.heap.size + 1, 1, none⟩) (by show gn ≠ w.heap.size + 1; omega) _, hW.2.1.set_ 1 _, hW.2.2.1.far (p := ⟨w.heap.size + 1, 1, none⟩) (by show w.heap.size ≠ w.heap.size + 1; omega) _, hW.2.2.2.setCell (p := ⟨w.heap.size + 1, 1, none⟩) (by show w.heap.size ≤ w.heap.size + 1; omega) _⟩)
          · exact dete_ok (v := .pointer (some ⟨w.heap.size + 1, 2, none⟩)) rfl (fun d W hW _ _ => by first | rfl | (simp [execOp, evS, seen, go_sem])) (fun d W h => h) (fun t h => by cases h; rfl)
          · exact dete_skip rfl rfl (fun d W hW h1 h2 => ⟨_, store_cell (g := w.heap.size + 1) (off := 2) (v := .int .i64 (stC ws 1)) rfl rfl rfl hW.2.1 rfl (by kernel_rfl) rfl rfl, hW.1.far (p := ⟨w.heap.size + 1, 2, none⟩) (by show gn ≠ w.heap.size + 1; omega) _, hW.2.1.set_ 2 _, hW.2.2.1.far (p := ⟨w.heap.size + 1, 2, none⟩) (by show w.heap.size ≠ w.heap.size + 1; omega) _, hW.2.2.2.setCell (p := ⟨w.heap.size + 1, 2, none⟩) (by show w.heap.size ≤ w.heap.size + 1; omega) _⟩)
          · exact dete_ok (v := .pointer (some ⟨w.heap.size + 1, 3, none⟩)) rfl (fun d W hW _ _ => by first | rfl | (simp [execOp, evS, seen, go_sem])) (fun d W h => h) (fun t h => by cases h; rfl)
          · exact dete_skip rfl rfl (fun d W hW h1 h2 => ⟨_, store_cell (g := w.heap.size + 1) (off := 3) (v := .int .i64 (stC ws 2)) rfl rfl rfl hW.2.1 rfl (by kernel_rfl) rfl rfl, hW.1.far (p := ⟨w.heap.size + 1, 3, none⟩) (by show gn ≠ w.heap.size + 1; omega) _, hW.2.1.set_ 3 _, hW.2.2.1.far (p := ⟨w.heap.size + 1, 3, none⟩) (by show w.heap.size ≠ w.heap.size + 1; omega) _, hW.2.2.2.setCell (p := ⟨w.heap.size + 1, 3, none⟩) (by show w.heap.size ≤ w.heap.size + 1; omega) _⟩)
          intro d12 W12 hd12 hW12
          have e7 := hd12 7 (by decide)
          have e9 := hd12 9 (by decide)
          have e11 := hd12 11 (by decide)
          rw [e7, e9, e11] at hW12
          have KX := Lib.hid (show Blk W12 (w.heap.size + 1) 25 #[.int .i64 (stOp ws : Nat), .int .i64 (stC ws 0), .int .i64 (stC ws 1), .int .i64 (stC ws 2), .slice none 0 0] from hW12.2.1)
          have K0 := Lib.hid hW12.2.2.1
          have HB := Lib.hid hW12.2.2.2
          clear e7 e9 e11 hW12 hd12 KN NG d12
          have hsl : (stNm ws : Int) ≤ (M : Nat) := by omega
          have MY := Lib.hid (fun (hok : ∀ i, i < M → okW (ws.getD (i + 1) ByteArray.empty) = true) => show StOk ws ↔ MayX (stX ws) from
            ⟨fun h => h.2.2.2, fun h => ⟨HOP.out, by have := HM.out; omega, fun i hi => hok i (by have := HM.out; omega), h⟩⟩)
          have FS := Lib.hid (show (stX ws).fs = stF ws (M - stNm ws) by show stF ws (ws.length - 1 - stNm ws) = _; rw [HM.out]; rfl)
          have HR1b := HR1
          clear NL NB HR1 hk hlt hnl hsi hshort
          by_cases hMK : M = stNm ws
          · have MYK := Lib.hid (MY.out (fun i hi => HOK.out i (by omega)))
            have FS0 := Lib.hid (show (stX ws).fs = [] by rw [FS.out, hMK, Nat.sub_self]; rfl)
            have KX := Lib.hid (show Blk W12 (w.heap.size + 1) 25 (stepC (stX ws) none 0) from by unfold stepC; rw [FS0.out]; exact KX.out)
            have RW := Lib.hid (show Row .i64 W12 none (stX ws).fs by rw [FS0.out]; exact row_nil _ _)
            have FC := Lib.hid (show (stX ws).fs.length ≤ 0 by rw [FS0.out]; exact Nat.le_refl _)
            have RNE := Lib.hid (fun (ad : Addr) (h : (none : Option Addr) = some ad) (_ : 0 < (stX ws).fs.length) => show w.heap.size ≤ ad.block ∧ ad.block ≠ w.heap.size by cases h)
            have FCB := Lib.hid (show 0 ≤ 9223372036854775807 by decide)
            clear MY FS FS0 HOK
            generalize stNm ws = K at *
            subst hMK
            have h00 : ¬ (0 : Int) < 0 := by omega
            go_upto_region 14 with (fail)
            go_loopw [9, 51] (fun n c wr => c = .int .i64 0 ∧ wr = W12) (fun _ _ _ => 0)
            case atStart => exact ⟨rfl, rfl⟩
            case round =>
              obtain ⟨rfl, rfl⟩ := hrel
              have CC := Lib.hid (fun W2 (hr : Row .i64 W2 none (stX ws).fs) => check_calls' (stX ws) none 0 W2 hr)
              by_cases hmay : MayX (stX ws)
              · have EC := Lib.hid (show codeX (stX ws) = 0 by unfold codeX; rw [if_pos hmay])
                rw [EC.out] at CC
                unfold stepV at CC
                go_wp2_with (first
                  | (refine wpl_load (g := w.heap.size + 1) _ rfl rfl rfl KX.out Tryd.underlying25 rfl (by kernel_rfl) ?_)
                  | (go_at_call 16; (with_reducible refine (CC.out _ RW.out).mono ?_); rintro e w8 ⟨rfl, hb8⟩; have KX := Lib.hid (KX.out.below hb8); have K0 := Lib.hid (K0.out.below hb8); have RW := Lib.hid (RW.out.below hb8); have HB8 := Lib.hid (below_step HB.out hb8); clear hb8)
                  | (refine wpl_store (g := w.heap.size) rfl rfl rfl rfl K0.out (by kernel_rfl) rfl (stepC_one (stX ws) none 0) ?_))
                refine bodyPost_ret (results_c rfl _ _ w.heap.size _ _ _ _ rfl (K0.out.row _) Tryd.underlying25 rfl (by kernel_rfl)) rfl ?_
                exact ⟨fun _ => ⟨none, 0, rfl, row_setRow (base := 0) RW.out (fun ad h hp => (RNE.out ad h hp).2) _, FC.out, (by have := FCB.out; omega), fun ad h hp => (RNE.out ad h hp).1⟩, fun hno => absurd (MYK.out.2 hmay) hno, below_setRow HB8.out (Nat.le_refl _) _⟩
              · have EC := Lib.hid (show codeX (stX ws) = 320 by unfold codeX; rw [if_neg hmay])
                rw [EC.out] at CC
                unfold stepV at CC
                go_wp2_with (first
                  | (refine wpl_load (g := w.heap.size + 1) _ rfl rfl rfl KX.out Tryd.underlying25 rfl (by kernel_rfl) ?_)
                  | (go_at_call 16; (with_reducible refine (CC.out _ RW.out).mono ?_); rintro e w8 ⟨rfl, hb8⟩; have HB8 := Lib.hid (below_step HB.out hb8); clear hb8))
                exact ⟨rfl, stP_bad (fun h => hmay (MYK.out.1 h)) HB8.out⟩
          · have hKM : stNm ws < M := by omega
            obtain rfl := HR1b.out (by omega)
            have WVM := Lib.hid (fun m (hm : m < M - stNm ws) => show w.cell? ⟨g, 1 + stNm ws + m, none⟩ = some (.string (ws.getD (stNm ws + m + 1) ByteArray.empty)) by
              have := (WB.out.cell (1 + stNm ws + m)).trans (WV.out (1 + stNm ws + m) (by have := HM.out; omega))
              rw [show 1 + stNm ws + m = stNm ws + m + 1 by omega] at this ⊢
              exact this)
            have SZM := Lib.hid (fun m (hm : m < M - stNm ws) => SZ.out (stNm ws + m + 1) (by have := HM.out; omega))
            have NBM := Lib.hid (fun m (hm : m < M - stNm ws) (hb : okW (ws.getD (stNm ws + m + 1) ByteArray.empty) = false) => fun h : StOk ws => show False by
              have h2 := h.2.2.1 (stNm ws + m) (by have := HM.out; omega)
              rw [hb] at h2
              cases h2)
            have FN := Lib.hid (fun m => stF_next ws m)
            have FB := Lib.hid (fun m => pvW_bd (ws.getD (stNm ws + m + 1) ByteArray.empty))
            have FZ := Lib.hid (show M - stNm ws ≤ 900000 by have := HM.out; have := HN2.out; omega)
            have MX := Lib.hid (fun (hok : ∀ m, m < M - stNm ws → okW (ws.getD (stNm ws + m + 1) ByteArray.empty) = true) => MY.out (fun i hi => by
              by_cases h : i < stNm ws
              · exact HOK.out i h
              · have := hok (i - stNm ws) (by omega)
                rwa [show stNm ws + (i - stNm ws) + 1 = i + 1 by omega] at this))
            clear MY HOK HR1b
            go_upto_region 14 with (fail)
            have HKF := Lib.hid (show M - stNm ws = M - stNm ws from rfl)
            generalize hF : M - stNm ws = F at *
            clear hF HKF
            go_loopw [9, 51] (fun n c wr => ∃ (m : Nat) (v : Value), m ≤ F ∧ c = .int .i64 m ∧ SL w.heap.size wr 3 1 v m ((stF ws m).map (Value.int .i64)) ∧ Blk wr (w.heap.size + 1) 25 #[.int .i64 (stOp ws : Nat), .int .i64 (stC ws 0), .int .i64 (stC ws 1), .int .i64 (stC ws 2), v] ∧ Blk wr w.heap.size 25 #[.int .i64 0, .int .i64 0, .int .i64 0, .int .i64 0, .slice none 0 0] ∧ Below w.heap.size w wr ∧ ∀ i, i < m → okW (ws.getD (stNm ws + i + 1) ByteArray.empty) = true) (fun _ c _ => F - (intOf c).toNat)
            case atStart => exact ⟨0, _, by omega, rfl, SL.nil _ _ _ _, KX.out, K0.out, HB.out, fun i hi => by omega⟩
            case round =>
              clear KX K0 HB
              obtain ⟨m, v, hm, rfl, hs, hkx, hk0, hb, hok⟩ := hrel
              have HS := Lib.hid hs
              have KX := Lib.hid hkx
              have K0 := Lib.hid hk0
              have HB := Lib.hid hb
              have HOK := Lib.hid hok
              obtain ⟨sa, sc, rfl, hsc, hscm⟩ := hs.form
              clear hs hk0 hok
              by_cases hlt : m < F
              · have hlti : (m : Int) < (F : Nat) := by omega
                have HLT := Lib.hid hlt
                have hmz : m < 900000 := by have := FZ.out; omega
                have cw := bget hb (WVM.out m hlt)
                have SZK := Lib.hid (SZM.out m hlt)
                have NBK := Lib.hid (NBM.out m hlt)
                have FNK := Lib.hid (FN.out m)
                have FBK := Lib.hid (FB.out m)
                have PV := Lib.hid (show (parseS (bs (ws.getD (stNm ws + m + 1) ByteArray.empty))).1 = stN ws (stNm ws + m) from rfl)
                have PW := Lib.hid (show pvW (ws.getD (stNm ws + m + 1) ByteArray.empty) = stN ws (stNm ws + m) from rfl)
                rw [PW.out] at FBK
                clear hb
                cases hp : okW (ws.getD (stNm ws + m + 1) ByteArray.empty) with
                | false =>
                  have NC := Lib.hid (fun W => snumber_bad (ws.getD (stNm ws + m + 1) ByteArray.empty) W SZK.out hp)
                  have NO := Lib.hid (NBK.out hp)
                  clear hp PV PW FBK hkx
                  generalize ws.getD (stNm ws + m + 1) ByteArray.empty = wk at *
                  go_upto_region 16 with (fail)
                  refine wp_region_inv 69 (fun d s W => d 3 = false ∧ s 9 = .string wk ∧ s 3 = .pointer (some ⟨w.heap.size + 1, 0, none⟩) ∧ (d 0 = true → s 55 = .pointer (some ⟨w.heap.size + 1, 4, none⟩)) ∧ (d 2 = true → s 57 = .string wk) ∧ Blk W (w.heap.size + 1) 25 #[.int .i64 (stOp ws : Nat), .int .i64 (stC ws 0), .int .i64 (stC ws 1), .int .i64 (stC ws 2), .slice sa m sc] ∧ Below w.heap.size w W) (by kernel_rfl) rfl (by kernel_rfl) (by kernel_rfl) ⟨rfl, rfl, rfl, (fun h => by cases h), (fun h => by cases h), KX.out.drew, HB.out.drew⟩ ⟨?_, ?_, ?_, ?_, ?_, ?_, ?_, ?_, trivial⟩ (fun d s W hall hI => by have := hall 3 (by decide); rw [hI.1] at this; cases this)
                  · rintro d s W ⟨h3, h9, hs3, h0, h2, hk, hb⟩ hd hw
                    refine stp_run (v := .pointer (some ⟨w.heap.size + 1, 4, none⟩)) (w' := W) rfl (by simp [execOp, evS, hs3, go_sem]) ?_
                    exact ⟨h3, h9, hs3, fun _ => rfl, h2, hk, hb⟩
                  · rintro d s W ⟨h3, h9, hs3, h0, h2, hk, hb⟩ hd hw
                    have hw : (d 0 && true) = true := hw
                    simp only [Bool.and_true] at hw
                    have e55 := h0 hw
                    refine stp_run rfl (load_cell (g := w.heap.size + 1) (off := 4) rfl e55 (by kernel_rfl) (hk.cell 4)) ?_
                    exact ⟨h3, h9, hs3, h0, h2, hk, hb⟩
                  · rintro d s W ⟨h3, h9, hs3, h0, h2, hk, hb⟩ hd hw
                    refine stp_run (v := .string wk) (w' := W) rfl (by simp [execOp, evS, h9, go_sem]) ?_
                    exact ⟨h3, h9, hs3, h0, fun _ => rfl, hk, hb⟩
                  · rintro d s W ⟨h3, h9, hs3, h0, h2, hk, hb⟩ hd hw
                    have hw : (d 2 && true) = true := hw
                    simp only [Bool.and_true] at hw
                    have e57 := h2 hw
                    refine stp_panic 51 ent_snum rfl _ _ rfl #[.string wk] (by simp [evS, e57]) [wrongE] ((NC.out W).mono fun e W4 ⟨he, hb4⟩ => ⟨he, fun a had => ?_⟩)
                    have HB4 := Lib.hid (below_step hb hb4)
                    obtain ⟨tm, df⟩ := a
                    dsimp only at had
                    subst had
                    clear hb hb4 hk h0 h2 h3 h9 hs3 hw hd e57 he
                    go_wp2
                    exact ⟨rfl, stP_bad NO.out HB4.out⟩
                  · rintro d s W ⟨h3, -⟩ hd hw
                    have hw : (d 3 && true) = true := hw
                    rw [h3] at hw; cases hw
                  · rintro d s W ⟨h3, -⟩ hd hw
                    have hw : (d 1 && (d 4 && (d 3 && true))) = true := hw
                    rw [h3] at hw; simp at hw
                  · rintro d s W ⟨h3, -⟩ hd hw
                    simp [waits, Region.binds, h3] at hw
                  · rintro d s W ⟨h3, -⟩ hd hw
                    simp [waits, Region.binds, h3] at hw
                | true =>
                  have NC := Lib.hid (fun W => snumber_ok (ws.getD (stNm ws + m + 1) ByteArray.empty) W SZK.out hp)
                  rw [PV.out] at NC
                  have HP := Lib.hid hp
                  have q4 := hkx.cell 4
                  have f4 := hkx.frozen 4
                  clear hp PV PW hkx
                  generalize hwk : ws.getD (stNm ws + m + 1) ByteArray.empty = wk at *
                  have HWK := Lib.hid hwk
                  clear hwk
                  generalize stN ws (stNm ws + m) = vk at *
                  go_upto_region 16 with (fail)
                  go_region_law
                    ((first
                      | ((refine step_call 51 ent_snum (by rfl) #[.tmp 57] #[9] (by rfl) #[.string wk] (by rfl) ((NC.out _).mono ?_)); rintro e w4 ⟨rfl, hb4⟩; have HS := Lib.hid (SL.below ((by repeat (first | with_reducible exact HS.out | with_reducible apply SL.alloc | with_reducible apply SL.drewN | with_reducible apply SL.drew | exact HS.out))) hb4); have KX := Lib.hid (Blk.below ((by repeat (first | with_reducible exact KX.out | with_reducible apply Blk.alloc | with_reducible apply Blk.drewN | with_reducible apply Blk.drew | exact KX.out))) hb4); have K0 := Lib.hid (Blk.below ((by repeat (first | with_reducible exact K0.out | with_reducible apply Blk.alloc | with_reducible apply Blk.drewN | with_reducible apply Blk.drew | exact K0.out))) hb4); have HB := Lib.hid (below_step HB.out.drew hb4); have q4 := KX.out.cell 4; have qa := fun o => (Blk.alloc KX.out o).cell 4; clear hb4; refine ⟨_, rfl, ?_⟩)
                      | (refine step_appSL (mine := mineI) (base := w.heap.size) 23 (.int .i64 0) 8 Tryd.underlying23 infoI rfl (by decide) (fun _ => rfl) (by rfl) (.tmp 56) (.tmp 59) (by rfl) (by rfl) ((by repeat (first | with_reducible exact HS.out | with_reducible apply SL.alloc | with_reducible apply SL.drewN | with_reducible apply SL.drew | exact HS.out))) _ 1 (by rfl) #[.int .i64 vk] rfl ⟨_, _, heap_alloc_new _ _⟩ (by simp [Value.oneCell']) (by have := FZ.out; omega) (by decide) (by have := HB.out.size; simp; omega) ?_; intro v5 w5 hs5 hf5; obtain ⟨a5, c5, hv5, -, -⟩ := hs5.form; subst hv5; have KX := Lib.hid (Blk.fr ((by repeat (first | with_reducible exact KX.out | with_reducible apply Blk.alloc | with_reducible apply Blk.drewN | with_reducible apply Blk.drew | exact KX.out))) hf5 rfl); have K0 := Lib.hid (Blk.fr ((by repeat (first | with_reducible exact K0.out | with_reducible apply Blk.alloc | with_reducible apply Blk.drewN | with_reducible apply Blk.drew | exact K0.out))) hf5 rfl); have HB := Lib.hid (Below.trans (HB.out.alloc HB.out.size _) (hf5.to_below (by have := HB.out.size; simp; omega))); have HS := Lib.hid hs5; have q4 := KX.out.cell 4; have f4 := KX.out.frozen 4; clear hs5 hf5)))
                  all_goals
                    have KX2 := Lib.hid (show Blk (w5.setCell ⟨w.heap.size + 1, 4, none⟩ (.slice a5 (m + 1) c5)) (w.heap.size + 1) 25 #[.int .i64 (stOp ws : Nat), .int .i64 (stC ws 0), .int .i64 (stC ws 1), .int .i64 (stC ws 2), .slice a5 (m + 1) c5] from KX.out.set_ 4 _)
                    have HS2 := Lib.hid (HS.out.far KX.out (by decide) 4 (.slice a5 (m + 1) c5))
                    have K02 := Lib.hid (K0.out.far (p := ⟨w.heap.size + 1, 4, none⟩) (by show w.heap.size ≠ w.heap.size + 1; omega) (.slice a5 (m + 1) c5))
                    have HB2 := Lib.hid (HB.out.setCell (p := ⟨w.heap.size + 1, 4, none⟩) (by show w.heap.size ≤ w.heap.size + 1; omega) (.slice a5 (m + 1) c5))
                    have HFL := Lib.hid (show (stF ws (m + 1)).map (Value.int .i64) = (stF ws m).map (Value.int .i64) ++ [.int .i64 vk] by rw [FNK.out, List.map_append]; rfl)
                    go_wp2
                    go_roundw
                    case rel =>
                      refine ⟨m + 1, _, HLT.out, by go_num, by rw [HFL.out]; exact HS2.out, KX2.out, K02.out, HB2.out, fun i hi => ?_⟩
                      by_cases e : i = m
                      · subst e; rw [HWK.out]; exact HP.out
                      · exact HOK.out i (by omega)
                    case measure => have := HLT.out; simp [intOf]; omega
              · obtain rfl : m = F := by omega
                have MYK := Lib.hid (MX.out HOK.out)
                have FSL := Lib.hid (show (stX ws).fs.length = m by rw [FS.out, stF_len])
                have RW := Lib.hid (show Row .i64 wr sa (stX ws).fs from row_of_SLi (base := w.heap.size) (c := sc) (by rw [FSL.out, FS.out]; exact HS.out) (fun x hx => (stX_wf ws).2.2.2.2 x hx))
                have FC := Lib.hid (show (stX ws).fs.length ≤ sc by rw [FSL.out]; exact hsc)
                have FCB := Lib.hid hscm
                have RNE := Lib.hid (fun (ad : Addr) (h : sa = some ad) (hp : 0 < (stX ws).fs.length) => show w.heap.size ≤ ad.block ∧ ad.block ≠ w.heap.size by
                  obtain ⟨g5, o5, c5, cs5, e5, hg5, hb5, -⟩ := HS.out.at_ (by rw [FSL.out] at hp; exact hp)
                  injection e5 with e5
                  rw [h] at e5
                  injection e5 with e5
                  rw [e5]
                  exact ⟨hg5, hb5.ne_ K0.out (by decide)⟩)
                have KX := Lib.hid (show Blk wr (w.heap.size + 1) 25 (stepC (stX ws) sa sc) from by unfold stepC; rw [FSL.out]; exact KX.out)
                clear MX FS FSL HOK hkx hsc hscm
                have CC := Lib.hid (fun W2 (hr : Row .i64 W2 sa (stX ws).fs) => check_calls' (stX ws) sa sc W2 hr)
                by_cases hmay : MayX (stX ws)
                · have EC := Lib.hid (show codeX (stX ws) = 0 by unfold codeX; rw [if_pos hmay])
                  rw [EC.out] at CC
                  unfold stepV at CC
                  go_wp2_with (first
                    | (refine wpl_load (g := w.heap.size + 1) _ rfl rfl rfl KX.out Tryd.underlying25 rfl (by kernel_rfl) ?_)
                    | (go_at_call 16; (with_reducible refine (CC.out _ RW.out).mono ?_); rintro e w8 ⟨rfl, hb8⟩; have KX := Lib.hid (KX.out.below hb8); have K0 := Lib.hid (K0.out.below hb8); have RW := Lib.hid (RW.out.below hb8); have HB8 := Lib.hid (below_step HB.out hb8); clear hb8)
                    | (refine wpl_store (g := w.heap.size) rfl rfl rfl rfl K0.out (by kernel_rfl) rfl (stepC_one (stX ws) sa sc) ?_))
                  refine bodyPost_ret (results_c rfl _ _ w.heap.size _ _ _ _ rfl (K0.out.row _) Tryd.underlying25 rfl (by kernel_rfl)) rfl ?_
                  exact ⟨fun _ => ⟨sa, sc, rfl, row_setRow (base := 0) RW.out (fun ad h hp => (RNE.out ad h hp).2) _, FC.out, (by have := FCB.out; omega), fun ad h hp => (RNE.out ad h hp).1⟩, fun hno => absurd (MYK.out.2 hmay) hno, below_setRow HB8.out (Nat.le_refl _) _⟩
                · have EC := Lib.hid (show codeX (stX ws) = 320 by unfold codeX; rw [if_neg hmay])
                  rw [EC.out] at CC
                  unfold stepV at CC
                  go_wp2_with (first
                    | (refine wpl_load (g := w.heap.size + 1) _ rfl rfl rfl KX.out Tryd.underlying25 rfl (by kernel_rfl) ?_)
                    | (go_at_call 16; (with_reducible refine (CC.out _ RW.out).mono ?_); rintro e w8 ⟨rfl, hb8⟩; have HB8 := Lib.hid (below_step HB.out hb8); clear hb8))
                  exact ⟨rfl, stP_bad (fun h => hmay (MYK.out.1 h)) HB8.out⟩
end Go.Proofs.YtminokbigpckaaaDoor.Ct
