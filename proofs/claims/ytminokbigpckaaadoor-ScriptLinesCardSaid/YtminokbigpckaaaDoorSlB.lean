import Derived.Test.YtminokbigpckaaaDoorSlA
import Derived.Test.YtminokbigpckaaaDoorRegD
/-! script.Line. -/
namespace Go.Proofs.YtminokbigpckaaaDoor.Ct
open Go.RowKit
set_option linter.unusedVariables false
set_option linter.unusedSimpArgs false
theorem wpl_load {P : Program} {ops : Array Oper} {rest : List Oper} {o : Oper} {a : Act} {w : World} {Q : Exit → Act → World → Prop} {g : Nat} {t ty : TypeId} {cs : Array Value} {x : Operand} (d : TypeDesc) (hgd : o.guard = none) (ho : o.op = .load ty x) (hx : a.eval x = .pointer (some ⟨g, 0, none⟩)) (h : Blk w g t cs)
    (hu : P.underlying ty = some d) (hd : (match d with | .struct _ | .array _ _ => true | _ => false) = true) (hi : (P.info? ty).map (·.size) = some cs.size) (hK : wpList P ops Q rest (a.put o.dst (.agg cs)) w) : wpList P ops Q (o :: rest) a w := by
  refine wpList_plain hgd fun K hK' => ?_
  have e : (execOp a.eval o).run P w = .ok (.value (.agg cs)) w := by
    unfold execOp
    simp only [ho, hx, Instr.loadAt, Instr.sureAddr, Sem.run_bind, Sem.run_pure, Result.andThen_ok, run_loadVar_row w g t ty cs (0, 0) d h hu hd hi]
  unfold Oper.wp
  rw [e]
  exact hK' _ _ hK
theorem SL.lit1 {base : Nat} {w : World} {E : TypeId} (v : Value) (hb : base ≤ w.heap.size) : SL base (w.alloc (.cells #[v] E)) E 1 (.slice (some ⟨w.heap.size, 0, none⟩) 1 1) 1 [v] :=
  ⟨rfl, .inr ⟨w.heap.size, 0, 1, #[v], rfl, hb, Blk.new _ _ _, Nat.le_refl _, (by decide), (by simp), fun j hj => by
    obtain rfl : j = 0 := by omega
    rfl⟩⟩
def mineS : Obj → Bool
  | .cells _ t _ => t == 9
  | _ => false
theorem sline_no (x : Sp) (fa : Option Addr) (fc : Nat) (w : World) (h : Row .i64 w fa x.fs) (hm : ¬ MayX x) :
    Calls Tryd.prog 8 #[stepV x fa fc] w fun e w' => e = .returned (slV x) ∧ Below w.heap.size w w' := by
  have B := Lib.hid (below_alloc (Below.refl w.heap.size w) (.cells (stepC x fa fc) 25))
  have K := Lib.hid (Blk.new w 25 (stepC x fa fc))
  have CC := Lib.hid (check_calls' x fa fc _ (h.below (below_alloc (Below.refl w.heap.size w) (.cells (stepC x fa fc) 25))))
  have E := Lib.hid (show codeX x = 320 by unfold codeX; rw [if_neg hm])
  rw [E.out] at CC
  have V := Lib.hid (slV_no hm)
  clear h
  unfold stepV at *
  go_enter Tryd.func8, Tryd.ntmps8
  go_wp2_with (first
    | (refine wpl_load (g := w.heap.size) _ rfl rfl rfl K.out Tryd.underlying25 rfl (by kernel_rfl) ?_)
    | (go_at_call 16; (with_reducible refine (CC.out).mono ?_); rintro e w1 ⟨rfl, hb⟩; have B1 := Lib.hid (below_step B.out hb); clear hb))
  go_ret2
  rw [V.out]
  exact ⟨rfl, B1.out⟩
theorem val3 (x : Sp) {k : Nat} (h : k < 3) : (#[.int .i64 x.a, .int .i64 x.b, .int .i64 x.c] : Array Value)[k]? = some (.int .i64 (valX x k)) := by
  rcases k with _ | _ | _ | k
  · rfl
  · rfl
  · rfl
  · omega
set_option maxRecDepth 10000 in
set_option maxHeartbeats 8000000 in
theorem sline_yes (x : Sp) (fa : Option Addr) (fc : Nat) (w : World) (h : Row .i64 w fa x.fs) (hw : WfS x) (hm : MayX x) :
    Calls Tryd.prog 8 #[stepV x fa fc] w fun e w' => e = .returned (slV x) ∧ Below w.heap.size w w' := by
  have B := Lib.hid (below_alloc (Below.refl w.heap.size w) (.cells (stepC x fa fc) 25))
  have K := Lib.hid (Blk.new w 25 (stepC x fa fc))
  have R := Lib.hid h
  have CC := Lib.hid (check_calls' x fa fc _ (h.below (below_alloc (Below.refl w.heap.size w) (.cells (stepC x fa fc) 25))))
  have E := Lib.hid (show codeX x = 0 by unfold codeX; rw [if_pos hm])
  rw [E.out] at CC
  have V := Lib.hid (slV_yes hm)
  have WC := Lib.hid (fun W => word_calls x.op W)
  have MC := Lib.hid (fun W => smany_calls x.op W)
  have NM := Lib.hid (show manyS x.op = (nmS x : Nat) by have := manyS_bd x.op; unfold nmS; omega)
  rw [NM.out] at MC
  have NL := Lib.hid (nmS_le x)
  have FL := Lib.hid (may_fs hm)
  have HW := Lib.hid hw
  have TC := Lib.hid (fun n (hn : I64 n) W => text_calls n W hn)
  clear h hw
  have KC := Lib.hid (fun W g (hk : Blk W g 25 (stepC x fa fc)) => show W.cell? ⟨g, 0, none⟩ = some (.int .i64 x.op) ∧ W.cell? ⟨g, 1, none⟩ = some (.int .i64 x.a) ∧ W.cell? ⟨g, 2, none⟩ = some (.int .i64 x.b) ∧ W.cell? ⟨g, 3, none⟩ = some (.int .i64 x.c) ∧ W.cell? ⟨g, 4, none⟩ = some (.slice fa x.fs.length fc) from ⟨hk.cell 0, hk.cell 1, hk.cell 2, hk.cell 3, hk.cell 4⟩)
  unfold stepV at *
  go_enter Tryd.func8, Tryd.ntmps8
  go_upto_region 5 with (first
    | (refine wpl_load (g := w.heap.size) _ rfl rfl rfl K.out Tryd.underlying25 rfl (by kernel_rfl) ?_)
    | (go_at_call 16; (with_reducible refine (CC.out).mono ?_); rintro e w1 ⟨rfl, hb⟩; have B1 := Lib.hid (below_step B.out hb); have K := Lib.hid (K.out.below hb); obtain ⟨c0, c1, c2, c3, c4⟩ := KC.out _ _ K.out; clear hb)
    | (go_at_call 13; (with_reducible refine (WC.out _).mono ?_); rintro e w2 ⟨rfl, e2⟩; subst e2))
  have HS := Lib.hid (SL.lit1 (base := w.heap.size) (w := w1) (E := 9) (.string (wordS x.op)) B1.out.size)
  have HB := Lib.hid (B1.out.alloc B1.out.size (.cells #[.string (wordS x.op)] 9))
  have K := Lib.hid (K.out.alloc (.cells #[.string (wordS x.op)] 9))
  clear CC WC B1 c0 c1 c2 c3 c4
  generalize w1.alloc _ = w2 at *
  generalize w1.heap.size = gs at *
  obtain ⟨c0, c1, c2, c3, c4⟩ := KC.out _ _ K.out
  have d0 := fun o => (KC.out _ _ (K.out.alloc o)).1
  go_upto_region 7 with (first
    | (go_at_call 25; (with_reducible refine (MC.out _).mono ?_); rintro e w3 ⟨rfl, e3⟩; subst e3))
  have HS := Lib.hid (HS.out.alloc (.cells #[.int .i64 x.a, .int .i64 x.b, .int .i64 x.c] 52))
  have HB := Lib.hid (HB.out.alloc HB.out.size (.cells #[.int .i64 x.a, .int .i64 x.b, .int .i64 x.c] 52))
  have K := Lib.hid (K.out.alloc (.cells #[.int .i64 x.a, .int .i64 x.b, .int .i64 x.c] 52))
  have KN := Lib.hid (Blk.new w2 52 #[.int .i64 x.a, .int .i64 x.b, .int .i64 x.c])
  have HS := Lib.hid (show SL w.heap.size (w2.alloc (.cells #[.int .i64 x.a, .int .i64 x.b, .int .i64 x.c] 52)) 9 1 (.slice (some ⟨gs, 0, none⟩) 1 1) 1 ((wordsK x 0).map Value.string) from HS.out)
  clear MC c0 c1 c2 c3 c4 d0
  generalize w2.alloc _ = w3 at *
  generalize w2.heap.size = gn at *
  go_loopw [5, 7, 29] (fun l i c wr => ∃ (k : Nat), k ≤ nmS x ∧ c = .int .i64 k ∧ SL w.heap.size wr 9 1 l (k + 1) ((wordsK x k).map Value.string) ∧ Blk wr gn 52 #[.int .i64 x.a, .int .i64 x.b, .int .i64 x.c] ∧ Blk wr w.heap.size 25 (stepC x fa fc) ∧ Below w.heap.size w wr) (fun _ _ c _ => nmS x - (intOf c).toNat)
  case atStart => exact ⟨0, by omega, rfl, HS.out, KN.out, K.out, HB.out⟩
  case round =>
    clear HS KN K HB
    obtain ⟨k, hk, rfl, hs, hkn, hkk, hb⟩ := hrel
    have HS := Lib.hid hs
    have KN := Lib.hid hkn
    have K := Lib.hid hkk
    have HB := Lib.hid hb
    have hnl := NL.out
    clear hs hb hkk
    by_cases hlt : k < nmS x
    · have hlti : (k : Int) < (nmS x : Nat) := by omega
      have hk3 : k < 3 := by omega
      have hk3i : (k : Int) < 3 := by omega
      have cn := (hkn.cell k).trans (val3 x hk3)
      have TK := Lib.hid (fun W => TC.out (valX x k) (valX_bd HW.out k) W)
      have NX := Lib.hid (wordsK_next x k)
      have TX := Lib.hid (show tx (valX x k) = strOfNums (textS (valX x k)) from rfl)
      clear hkn
      generalize valX x k = vk at *
      go_wp2_with (first
        | (go_at_call 26; (with_reducible refine (TK.out _).mono ?_); rintro e w4 ⟨rfl, hb4⟩; have HS := Lib.hid (HS.out.below hb4); have KN := Lib.hid (KN.out.below hb4); have K := Lib.hid (K.out.below hb4); have HB := Lib.hid (below_step HB.out hb4); clear hb4)
        | (at_builtin; refine wp_appSL (mine := mineS) (base := w.heap.size) 31 (.string ByteArray.empty) 16 Tryd.underlying31 infoS rfl (by decide) (fun _ => rfl) rfl (.tmp 32) (.tmp 37) rfl rfl (by repeat (first | with_reducible exact HS.out | with_reducible apply SL.alloc | with_reducible apply SL.drewN | with_reducible apply SL.drew | exact HS.out)) _ 1 rfl #[.string (strOfNums (textS vk))] rfl ⟨_, _, heap_alloc_new _ _⟩ (by simp [Value.oneCell']) (by omega) (by decide) (by have := HB.out.size; simp; omega) ?_; intro v5 w5 hs5 hf5; have HS5 := Lib.hid hs5; have HB5 := Lib.hid (Below.trans (by repeat (first | with_reducible exact HB.out | with_reducible apply below_alloc | with_reducible apply below_drewN | with_reducible apply below_drew)) (hf5.to_below (by have := HB.out.size; simp; omega))); have HF5 := Lib.hid hf5; clear hs5 hf5))
      refine ⟨⟨k + 1, by omega, by go_num, ?_, Blk.fr (KN.out.alloc _) HF5.out rfl, Blk.fr (K.out.alloc _) HF5.out rfl, HB5.out⟩, by first | (simp [intOf]; done) | (simp [intOf]; omega)⟩
      rw [NX.out, List.map_append]
      exact HS5.out
    · obtain rfl : k = nmS x := by omega
      obtain ⟨-, -, -, -, c4⟩ := KC.out _ _ K.out
      have HS := Lib.hid (show SL w.heap.size wr 9 1 u5 (nmS x + 1 + 0) ((wordsF x 0).map Value.string) by rw [wordsF_zero]; exact HS.out)
      clear KN K hkn hlt
      go_wp2
      go_loopw [5, 9, 43] (fun l n c wr => ∃ (m : Nat), m ≤ x.fs.length ∧ c = .int .i64 m ∧ SL w.heap.size wr 9 1 l (nmS x + 1 + m) ((wordsF x m).map Value.string) ∧ Below w.heap.size w wr) (fun _ _ c _ => x.fs.length - (intOf c).toNat)
      case atStart => exact ⟨0, by omega, rfl, HS.out, HB.out⟩
      case round =>
        clear HS HB c4
        obtain ⟨m, hm2, rfl, hs, hb⟩ := hrel
        have HS := Lib.hid hs
        have HB := Lib.hid hb
        have hfl := FL.out
        clear hs
        by_cases hlt : m < x.fs.length
        · have hlti : (m : Int) < (x.fs.length : Nat) := by omega
          obtain ⟨ad, rfl, hc, hwf⟩ := R.out.at_ hlt
          have cf := bget hb hc
          have FB := bounds_i64 hwf
          have TK := Lib.hid (fun W => TC.out (x.fs.getD m 0) FB W)
          have NX := Lib.hid (wordsF_next x hlt)
          clear hb hc hwf FB
          generalize x.fs.getD m 0 = vk at *
          go_wp2_with (first
            | (go_at_call 26; (with_reducible refine (TK.out _).mono ?_); rintro e w4 ⟨rfl, hb4⟩; have HS := Lib.hid (HS.out.below hb4); have HB := Lib.hid (below_step HB.out hb4); clear hb4)
            | (at_builtin; refine wp_appSL (mine := mineS) (base := w.heap.size) 31 (.string ByteArray.empty) 16 Tryd.underlying31 infoS rfl (by decide) (fun _ => rfl) rfl (.tmp 47) (.tmp 50) rfl rfl (by repeat (first | with_reducible exact HS.out | with_reducible apply SL.alloc | with_reducible apply SL.drewN | with_reducible apply SL.drew | exact HS.out)) _ 1 rfl #[.string (strOfNums (textS vk))] rfl ⟨_, _, heap_alloc_new _ _⟩ (by simp [Value.oneCell']) (by omega) (by decide) (by have := HB.out.size; simp; omega) ?_; intro v5 w5 hs5 hf5; have HS5 := Lib.hid hs5; have HB5 := Lib.hid (Below.trans (by repeat (first | with_reducible exact HB.out | with_reducible apply below_alloc | with_reducible apply below_drewN | with_reducible apply below_drew)) (hf5.to_below (by have := HB.out.size; simp; omega))); have HF5 := Lib.hid hf5; clear hs5 hf5))
          refine ⟨⟨m + 1, by omega, by go_num, ?_, HB5.out⟩, by first | (simp [intOf]; done) | (simp [intOf]; omega)⟩
          rw [NX.out, List.map_append]
          exact HS5.out
        · obtain rfl : m = x.fs.length := by omega
          obtain ⟨g, off, cap, cs, rfl, hg, hbk, hcap, hcm, hcell⟩ := HS.out.at_ (by omega)
          have SW := Lib.hid (show slW x = wordsF x x.fs.length from rfl)
          have SL0 := slW_len x
          have JN := Lib.hid (Tryd.strings_Join g off cap (slW x) ⟨#[32]⟩ wr (fun j y hy => by
            have hj : j < (slW x).length := (List.getElem?_eq_some_iff.1 hy).1
            rw [hbk.cell, hcell j (by rw [SL0] at hj; omega), ← SW.out, List.getElem?_map, hy]
            rfl) hbk.lt (by rw [SL0]; omega) (by rw [SL0]; omega) (Nat.le_trans (slB_len HW.out) (by omega)))
          rw [SL0] at JN
          clear hbk hcell SL0 SW
          go_wp2_with (first
            | (go_at_call 27; (with_reducible refine (JN.out).mono ?_); rintro e w5 ⟨rfl, hb5⟩; have HB5 := Lib.hid (below_step HB.out hb5); clear hb5))
          go_ret2
          rw [V.out]
          exact ⟨rfl, HB5.out⟩
theorem sline_calls (x : Sp) (fa : Option Addr) (fc : Nat) (w : World) (h : Row .i64 w fa x.fs) (hw : WfS x) :
    Calls Tryd.prog 8 #[stepV x fa fc] w fun e w' => e = .returned (slV x) ∧ Below w.heap.size w w' := by
  by_cases hm : MayX x
  · exact sline_yes x fa fc w h hw hm
  · exact sline_no x fa fc w h hm
end Go.Proofs.YtminokbigpckaaaDoor.Ct
