import Derived.Test.YthmhpjpnlngaoaaDoorLeafD
import Derived.Test.YthmhpjpnlngaoaaDoorComE
/-! Leaves: leaf.Get. -/
namespace Go.Proofs.YthmhpjpnlngaoaaDoor.Ct
open Go.RowKit
set_option linter.unusedVariables false
set_option linter.unusedSimpArgs false
/-- a call of a Go function as one step of a region that draws (for go_region_law). -/
theorem step_call {P : Program} {ops : Array Oper} {o : Oper} {a : Act} {w : World} {K : Act → World → Prop} {Q : Exit → Act → World → Prop} {E : Prop} (f : FuncId) (hent : ∀ args w, (callFunc f args).run P w = .ok (.enter f args) w) (hgd : o.guard = none) (xs : Array Operand) (ts : Array TypeId)
    (ho : o.op = .call { callee := .value (.func f), args := xs, argTypes := ts }) (args : Array Value) (hargs : xs.toList.map a.eval = args.toList) (h : Calls P f args w fun e w' => ∃ v, e = .returned v ∧ K (a.put o.dst v) w') :
    if Region.wanted o (yielded ops a.tmps) = true then Oper.wp P o a w K Q else E := by
  have hw : Region.wanted o (yielded ops a.tmps) = true := by simp [Region.wanted, hgd]
  rw [if_pos hw]
  have he : execOp a.eval o = callFunc f args := by
    have hx : #[] ++ xs.map a.eval ++ #[] = args := by
      apply Array.toList_inj.1
      rw [← hargs]; simp
    subst hx
    unfold execOp
    simp only [ho]
    rfl
  unfold Oper.wp
  rw [he, hent args w]
  refine Calls.mono h fun e w' hh => ?_
  obtain ⟨v, rfl, hk⟩ := hh
  exact hk
theorem ent_U : ∀ args w, (callFunc 31 args).run Tryd.prog w = .ok (.enter 31 args) w := fun _ _ => by kernel_rfl
def flatE (es : List En) : List Value := (es.map fun e => [Value.int .i64 e.slot, .int .i64 e.lba, .int .u64 e.tag]).flatten
theorem flatE_len (es : List En) : (flatE es).length = es.length * 3 := by
  unfold flatE
  induction es with
  | nil => rfl
  | cons e es ih => simp [ih]; omega
theorem flatE_snoc (es : List En) (e : En) : flatE (es ++ [e]) = flatE es ++ [Value.int .i64 e.slot, .int .i64 e.lba, .int .u64 e.tag] := by unfold flatE; simp
theorem flatE_get (es : List En) : ∀ (j : Nat), j < es.length → (flatE es)[j * 3]? = some (.int .i64 (es.getD j noEn).slot) ∧ (flatE es)[j * 3 + 1]? = some (.int .i64 (es.getD j noEn).lba) ∧ (flatE es)[j * 3 + 2]? = some (.int .u64 (es.getD j noEn).tag) := by
  induction es with
  | nil => intro j h; simp at h
  | cons e es ih =>
    intro j h
    have hc : flatE (e :: es) = Value.int .i64 e.slot :: .int .i64 e.lba :: .int .u64 e.tag :: flatE es := by unfold flatE; simp
    cases j with
    | zero => rw [hc]; exact ⟨rfl, rfl, rfl⟩
    | succ j =>
      obtain ⟨a, b, c⟩ := ih j (by simpa using h)
      rw [hc, show (j + 1) * 3 = (j * 3 + 2) + 1 by omega, show (j * 3 + 2) + 1 + 1 = (j * 3 + 1 + 2) + 1 by omega, show (j * 3 + 2) + 1 + 2 = (j * 3 + 2 + 2) + 1 by omega]
      exact ⟨a, b, c⟩
theorem add_off (ad : Addr) (j i : Nat) : (⟨(ad.add j).block, (ad.add j).off + i, none⟩ : Addr) = ⟨ad.block, ad.off + (j + i), none⟩ := by
  unfold Addr.add
  split <;> simp_all <;> omega
theorem rowE_of_SL {base : Nat} {w : World} {a : Option Addr} {n c : Nat} {es : List En} (h : SL base w 52 3 (.slice a n c) n (flatE es)) (hn : n = es.length) : RowE w a es := by
  refine ⟨?_, fun hp => ?_⟩
  · obtain ⟨_, c', e, hc, hm⟩ := h.form
    unfold maxLen; omega
  · obtain ⟨g, off, cap, cs, e, hb, hbl, hnc, hm, hcell⟩ := h.at_ (by omega)
    simp only [Value.slice.injEq] at e
    obtain ⟨rfl, -, rfl⟩ := e
    refine ⟨_, rfl, fun j hj => ?_⟩
    obtain ⟨h0, h1, h2⟩ := flatE_get es j hj
    rw [add_off, add_off, Addr.add_lit]
    refine ⟨?_, ?_, ?_⟩
    · rw [hbl.cell, hcell (j * 3) (by omega)]; exact h0
    · rw [hbl.cell, hcell (j * 3 + 1) (by omega)]; exact h1
    · rw [hbl.cell, hcell (j * 3 + 2) (by omega)]; exact h2
theorem Lies.belowB {w w' : World} {bnd B : Nat} {v : Value} {xs : List Int} (h : Lies w bnd v xs) (hb : Below B w w') (hB : bnd ≤ B) : Lies w' bnd v xs := by
  obtain ⟨a, cap, e, h1, h2, h3, h4⟩ := h
  refine ⟨a, cap, e, h1, h2, ⟨h3.1, h3.2.1, fun hp => ?_⟩, h4⟩
  obtain ⟨ad, e, hc⟩ := h3.2.2 hp
  refine ⟨ad, e, fun j hj => (hb.cell ?_).trans (hc j hj)⟩
  have := h4 hp ad e
  simp only [Addr.add]; split <;> (simp; omega)
theorem Rd.belowB {w w' : World} {g bnd B : Nat} {st : List Int × Bool} {made : Bool} (h : Rd w g bnd st made) (hb : Below B w w') (hg : g < B) : Rd w' g bnd st made := by
  obtain ⟨h0, ⟨v, hv, hr⟩, hm, hbd, hf⟩ := h
  exact ⟨h0, ⟨v, (hb.cell (p := ⟨g, 0, none⟩) hg).trans hv, hr.belowB hb (by omega)⟩, (hb.cell (p := ⟨g, 1, none⟩) hg).trans hm, (hb.cell (p := ⟨g, 2, none⟩) hg).trans hbd, fun j => (hb.frozen (p := ⟨g, j, none⟩) hg).trans (hf j)⟩
theorem Blk.belowB {w w' : World} {g B : Nat} {t : TypeId} {cs : Array Value} (h : Blk w g t cs) (hb : Below B w w') (hg : g < B) : Blk w' g t cs := (hb.block g hg).trans h
theorem SL.set3 {base : Nat} {w : World} {E : TypeId} {size : Nat} {sv : Value} {n : Nat} {xs : List Value} (h : SL base w E size sv n xs) {p : Nat} {t : TypeId} {a b c : Value} (hp : Blk w p t #[a, b, c]) (hne : E ≠ t) (v0 v1 v2 : Value) :
    SL base (((w.setCell ⟨p, 0, none⟩ v0).setCell ⟨p, 1, none⟩ v1).setCell ⟨p, 2, none⟩ v2) E size sv n xs := by
  have h0 : Blk (World.setCell _ ⟨p, 0, none⟩ v0) p t #[v0, b, c] := hp.set_ 0 v0
  have h1 : Blk (World.setCell _ ⟨p, 1, none⟩ v1) p t #[v0, v1, c] := h0.set_ 1 v1
  exact ((h.far hp hne 0 v0).far h0 hne 1 v1).far h1 hne 2 v2
theorem Rd.drew {w : World} {g bnd : Nat} {st : List Int × Bool} {made : Bool} (h : Rd w g bnd st made) : Rd w.drew g bnd st made := h
def mineE : Obj → Bool | .cells _ t _ => t == 52 | _ => false
theorem mineE_e : ∀ cs, mineE (.cells cs 52 (0, 0)) = true := fun _ => rfl
theorem infoE : (Tryd.prog.info? 52).map (fun i => (i.zero, i.size, i.bytes)) = some (some (.agg #[.int .i64 0, .int .i64 0, .int .u64 0]), 3, 24) := by kernel_rfl
def GetL (w w' : World) (l : Lf) (z : Int) (e : Ending) : Prop := ∃ a c, e = .returned (.tuple #[leafV l a c, .int .i64 z]) ∧ RowE w' a l.es ∧ l.es.length ≤ c ∧ c ≤ 9223372036854775807 ∧ Below w.heap.size w w'
theorem getL_no {w w' : World} {z : Int} (h : Below w.heap.size w w') : GetL w w' noLf z (.returned (.tuple #[.agg #[.int .i64 0, .int .u64 0, .slice none 0 0], .int .i64 z])) :=
  ⟨none, 0, rfl, rowE_nil _ _, by simp [noLf], by omega, h⟩
theorem entL_next (x : List Int) (k : Nat) : (List.range (k + 1)).map (entL x) = (List.range k).map (entL x) ++ [entL x k] := by rw [List.range_succ]; simp
set_option maxHeartbeats 8000000 in
theorem lget_calls (a : Option Addr) (cap : Nat) (b : List Int) (pno psnap : Int) (w : World) (h : Row .u8 w a b) (hlen : b.length ≤ 1000000) (hcap : b.length ≤ cap) (hm : cap ≤ 9223372036854775807) (hT : Tab w) :
    Calls Tryd.prog 11 #[.slice a b.length cap, .int .i64 pno, .int .u64 psnap] w fun e w' => GetL w w' (getL b pno psnap).1 (getL b pno psnap).2 e := by
  have hb1 := below_alloc (Below.refl w.heap.size w) (.cells (leafC noLf none 0) 25)
  have gc := pget_calls a cap b 4 _ (h.below hb1) (by omega) hcap hm (by unfold I64; decide) (hT.below hb1)
  have hwf : ∀ y ∈ b, 0 ≤ y ∧ y ≤ 255 := fun y hy => bounds_u8 (h.2.1 y hy)
  have hk0 : Blk (w.alloc (.cells (leafC noLf none 0) 25)) w.heap.size 25 (leafC noLf none 0) := Blk.new _ _ _
  have G : Hid (getL b pno psnap = if (getP b 4).2 ≠ 0 then (noLf, (getP b 4).2) else
    if 3 < cntL (getP b 4).1 then (noLf, 31) else
    if MayL (parseN (getP b 4).1 (cntL (getP b 4).1)) ∧ (parseN (getP b 4).1 (cntL (getP b 4).1)).no = pno ∧ (parseN (getP b 4).1 (cntL (getP b 4).1)).snap = psnap ∧ blankS ((getP b 4).1.drop (11 + 14 * cntL (getP b 4).1)) = true then (parseN (getP b 4).1 (cntL (getP b 4).1), 0) else (noLf, 31)) := Lib.hid rfl
  clear h hT
  unfold leafC noLf at hb1 gc hk0
  dsimp only [List.length_nil] at hb1 gc hk0
  by_cases hz : (getP b 4).2 = 0
  · have hp : getP b 4 = ((getP b 4).1, 0) := by rw [← hz]
    obtain ⟨hx, h58, -⟩ := pack_page (ws := wsC) hp hwf (by decide)
    rw [hz] at G
    unfold Two at gc
    rw [hz] at gc
    generalize (getP b 4).1 = x at *
    have G2 := Lib.hid (show getL b pno psnap = if 3 < cntL x then (noLf, 31) else if MayL (parseN x (cntL x)) ∧ (parseN x (cntL x)).no = pno ∧ (parseN x (cntL x)).snap = psnap ∧ blankS (x.drop (11 + 14 * cntL x)) = true then (parseN x (cntL x), 0) else (noLf, 31) by rw [G.out, if_neg (by simp)])
    obtain ⟨⟨p0, p1⟩, ⟨q0, q1⟩⟩ := headL_bd hx
    obtain ⟨c0, c1, c2⟩ := cntI_bd hx
    have U1 := Lib.hid (fun g bnd w (h : Rd w g bnd (x, false) true) => u_at g bnd x 0 2 2 2 _ w h rfl rfl (by decide) (by decide) (by omega) rfl)
    have U2 := Lib.hid (fun g bnd w (h : Rd w g bnd (x.drop 2, false) true) => u_at g bnd x 2 10 8 8 _ w h rfl rfl (by decide) (by decide) (by omega) rfl)
    have U3 := Lib.hid (fun g bnd w (h : Rd w g bnd (x.drop 10, false) true) => u_at g bnd x 10 11 1 1 (cntI x) w h rfl rfl (by decide) (by decide) (by omega) rfl)
    have RD := Lib.hid (fun a c w h => read_calls a c x w h (by omega))
    have GC := Lib.hid gc
    have HB1 := Lib.hid hb1
    have HK := Lib.hid hk0
    have HX := Lib.hid hx
    have HX8 := Lib.hid h58
    have HPN := Lib.hid (show ∀ n, (parseN x n).no = ofS (x.take 2) ∧ (parseN x n).snap = ofS ((x.drop 2).take 8) from fun n => ⟨rfl, rfl⟩)
    have D0 := Lib.hid (show (x.drop 0).take 2 = x.take 2 from rfl)
    rw [D0.out] at U1
    clear G hz gc hb1 hk0 hp hx h58 D0
    generalize hn0 : ofS (x.take 2) = n0 at *
    generalize hn1 : ofS ((x.drop 2).take 8) = n1 at *
    have HN0 := Lib.hid hn0
    have HN1 := Lib.hid hn1
    have HC := Lib.hid c2
    have hcq : cntI x = (cntL x : Int) := c2.symm
    rw [hcq] at U3 c0 c1
    generalize cntL x = n at *
    clear hn0 hn1 c2 hcq
    go_enter Tryd.func11, Tryd.ntmps11
    go_upto_region 5 with (first
      | (go_at_call 29; (with_reducible refine (GC.out).mono ?_); rintro e w1 ⟨⟨a1, c1, rfl, hr, -, -⟩, hb⟩; have HB := Lib.hid (below_step HB1.out hb); have HK := Lib.hid (HK.out.below hb); have RD1 := Lib.hid (RD.out _ c1 _ hr); clear hr hb)
      | (go_at_call 30; (with_reducible refine (RD1.out).mono ?_); rintro e w2 ⟨g, rfl, hge, hr, hb⟩; have HB := Lib.hid (below_step HB.out hb); have HNE := Lib.hid (show w.heap.size ≠ g by have := HK.out.lt; omega); have HGE := Lib.hid (show w.heap.size ≤ g by have := HK.out.lt; omega); have HK := Lib.hid (HK.out.below hb); have HR := Lib.hid hr; clear hr hb hge))
    go_upto_region 6 with (first
      | (go_at_call 31; (with_reducible refine (U1.out _ _ _ HR.out).mono ?_); rintro e w3 ⟨rfl, hr, hg⟩; have HB := Lib.hid (below_of_grown HB.out hg HB.out.size HGE.out); have HK := Lib.hid (HK.out.grown hg (by simpa using HNE.out)); have HR := Lib.hid hr; clear hr hg)
      | (go_at_call 31; (with_reducible refine (U2.out _ _ _ HR.out).mono ?_); rintro e w4 ⟨rfl, hr, hg⟩; have HB := Lib.hid (below_of_grown HB.out hg HB.out.size HGE.out); have HK := Lib.hid (HK.out.grown hg (by simpa using HNE.out)); have HR := Lib.hid hr; clear hr hg))
    have hk8 := HK.out.alloc (.cells #[.int .i64 n0, .int .u64 n1, .slice none 0 0] 25)
    have hv8 : Blk (w4.alloc (.cells #[.int .i64 n0, .int .u64 n1, .slice none 0 0] 25)) w4.heap.size 25 #[.int .i64 n0, .int .u64 n1, .slice none 0 0] := Blk.new _ _ _
    have hr8 := HR.out.alloc (.cells #[.int .i64 n0, .int .u64 n1, .slice none 0 0] 25)
    have hb8 := below_alloc HB.out (.cells #[.int .i64 n0, .int .u64 n1, .slice none 0 0] 25)
    have hgl : g < w4.heap.size := HR.out.lt
    have hkl : w.heap.size < w4.heap.size := HK.out.lt
    have hz8 : w4.heap.size + 1 ≤ (w4.alloc (.cells #[.int .i64 n0, .int .u64 n1, .slice none 0 0] 25)).heap.size := by simp
    generalize w4.alloc (.cells #[.int .i64 n0, .int .u64 n1, .slice none 0 0] 25) = w8 at *
    generalize w4.heap.size = gL at *
    have HGL := Lib.hid hgl
    have HKL := Lib.hid hkl
    have HZ := Lib.hid hz8
    have HK := Lib.hid hk8
    have HV := Lib.hid hv8
    have HR := Lib.hid hr8
    have HB := Lib.hid hb8
    clear hk8 hv8 hr8 hb8 hgl hkl hz8 U1 U2 GC RD RD1 HB1
    go_upto_region 7 with (go_at_call 31; (with_reducible refine (U3.out _ _ _ HR.out).mono ?_); rintro e w5 ⟨rfl, hr, hg⟩; have HB := Lib.hid (below_of_grown HB.out hg HB.out.size HGE.out); have HK := Lib.hid (HK.out.grown hg (by simpa using HNE.out)); have HV := Lib.hid (HV.out.grown hg (by simp; have := HGL.out; omega)); have HZ := Lib.hid (Nat.le_trans HZ.out hg.size); have HR := Lib.hid hr; clear hr hg)
    by_cases hn3 : 3 < n
    · have hn3i : (3 : Int) < n := by omega
      have G3 := Lib.hid (show getL b pno psnap = (noLf, 31) by rw [G2.out, if_pos hn3])
      obtain ⟨⟨k0, k1, k2⟩, f0, f1, f2⟩ := cells3 HK.out
      clear hn3 G2
      go_wp2
      refine bodyPost_ret (results_ct rfl _ _ w.heap.size _ _ _ _ rfl (HK.out.set3 _ _ _) Tryd.underlying25 rfl (by kernel_rfl)) rfl ?_
      rw [G3.out]
      exact getL_no (below_set3 HB.out (Nat.le_refl _) _ _ _)
    · have hn3i : (n : Int) ≤ 3 := by omega
      have G3 := Lib.hid (show getL b pno psnap = if MayL (parseN x n) ∧ n0 = pno ∧ n1 = psnap ∧ blankS (x.drop (11 + 14 * n)) = true then (parseN x n, 0) else (noLf, 31) by rw [G2.out, if_neg hn3, (HPN.out n).1, (HPN.out n).2])
      clear G2 U3
      have NX := Lib.hid (entL_next x)
      have UA := Lib.hid (fun k (hk : k < 3) w (h : Rd w g g (x.drop (11 + 14 * k), false) true) => u_at g g x (11 + 14 * k) (15 + 14 * k) 4 4 (entL x k).slot w h rfl (by omega) (by decide) (by decide) (by have := HX8.out; omega) rfl)
      have UB := Lib.hid (fun k (hk : k < 3) w (h : Rd w g g (x.drop (15 + 14 * k), false) true) => u_at g g x (15 + 14 * k) (17 + 14 * k) 2 2 (entL x k).lba w h rfl (by omega) (by decide) (by decide) (by have := HX8.out; omega) rfl)
      have UC := Lib.hid (fun k (hk : k < 3) w (h : Rd w g g (x.drop (17 + 14 * k), false) true) => u_at g g x (17 + 14 * k) (11 + 14 * (k + 1)) 8 8 (entL x k).tag w h rfl (by omega) (by decide) (by decide) (by have := HX8.out; omega) rfl)
      have EW := Lib.hid (fun k => entL_wf HX.out k)
      generalize hef : entL x = ef at *
      go_wp2
      go_loopw [37] (fun i wr => ∃ (k : Nat) (sv : Value), k ≤ n ∧ i = .int .i64 k ∧ Rd wr g g (x.drop (11 + 14 * k), false) true ∧ Blk wr gL 25 #[.int .i64 n0, .int .u64 n1, sv] ∧ SL (gL + 1) wr 52 3 sv k (flatE ((List.range k).map ef)) ∧ Blk wr w.heap.size 25 #[.int .i64 0, .int .u64 0, .slice none 0 0] ∧ Below w.heap.size w wr ∧ gL + 1 ≤ wr.heap.size) (fun i _ => n - (intOf i).toNat)
      case atStart => exact ⟨0, _, by omega, rfl, HR.out, HV.out, SL.nil _ _ _ _, HK.out, HB.out, HZ.out⟩
      case round =>
        clear HR HV HK HB HZ
        obtain ⟨k, sv, hk, rfl, hr, hv, hs, hk0, hb, hz⟩ := hrel
        obtain ⟨sa, sc, rfl, hsc, hscm⟩ := hs.form
        have HR := Lib.hid hr
        have HV := Lib.hid hv
        have HS := Lib.hid hs
        have HK := Lib.hid hk0
        have HB := Lib.hid hb
        have HZ := Lib.hid hz
        have q2 := hv.cell 2
        clear hr hv hs hk0 hb hz
        by_cases hlt : k < n
        · have hlti : (k : Int) < n := by omega
          have hk3 : k < 3 := by omega
          have nx := NX.out k
          have UA1 := Lib.hid (UA.out k hk3)
          have UB1 := Lib.hid (UB.out k hk3)
          have UC1 := Lib.hid (UC.out k hk3)
          obtain ⟨⟨s0, s1⟩, ⟨l0, l1⟩, -⟩ := EW.out k
          have NX1 := Lib.hid nx
          clear nx
          generalize hee : ef k = ee at *
          obtain ⟨xs, xl, xt⟩ := ee
          dsimp only at *
          have HEE := Lib.hid hee
          have ws := i64_wrap_id (x := xs) (by omega) (by omega)
          have wl := i64_wrap_id (x := xl) (by omega) (by omega)
          clear hee
          go_wp2
          go_region_law
            ((first
              | ((refine step_call 31 ent_U (by rfl) #[.tmp 41, .const (.int .i64 4)] #[58, 3] (by rfl) #[.pointer (some ⟨g, 0, none⟩), .int .i64 4] (by rfl) ((UA1.out _ (by first | exact HR.out | exact HR.out.drew)).mono ?_)); rintro e w9 ⟨rfl, hr, hg⟩; have HB := Lib.hid (below_of_grown ((by repeat (first | with_reducible exact HB.out | with_reducible apply below_alloc | with_reducible apply below_drewN | with_reducible apply below_drew))) hg (by have := HB.out.size; exact this) HGE.out); have HK := Lib.hid (Blk.grown ((by repeat (first | with_reducible exact HK.out | with_reducible apply Blk.alloc | with_reducible apply Blk.drewN | with_reducible apply Blk.drew | exact HK.out))) hg (by simpa using HNE.out)); have HV := Lib.hid (Blk.grown ((by repeat (first | with_reducible exact HV.out | with_reducible apply Blk.alloc | with_reducible apply Blk.drewN | with_reducible apply Blk.drew | exact HV.out))) hg (by simp; have := HGL.out; omega)); have HS := Lib.hid (SL.keep ((by repeat (first | with_reducible exact HS.out | with_reducible apply SL.alloc | with_reducible apply SL.drewN | with_reducible apply SL.drew | exact HS.out))) (w' := w9) (fun g' cs hb hbl => hbl.grown hg (by simp; have := HGL.out; omega))); have HZ := Lib.hid (Nat.le_trans HZ.out hg.size); have HR := Lib.hid hr; have q2 := HV.out.cell 2; have qa := fun o => (Blk.alloc HV.out o).cell 2; clear hr hg; refine ⟨_, rfl, ?_⟩)
              | ((refine step_call 31 ent_U (by rfl) #[.tmp 44, .const (.int .i64 2)] #[58, 3] (by rfl) #[.pointer (some ⟨g, 0, none⟩), .int .i64 2] (by rfl) ((UB1.out _ (by first | exact HR.out | exact HR.out.drew)).mono ?_)); rintro e w10 ⟨rfl, hr, hg⟩; have HB := Lib.hid (below_of_grown ((by repeat (first | with_reducible exact HB.out | with_reducible apply below_alloc | with_reducible apply below_drewN | with_reducible apply below_drew))) hg (by have := HB.out.size; exact this) HGE.out); have HK := Lib.hid (Blk.grown ((by repeat (first | with_reducible exact HK.out | with_reducible apply Blk.alloc | with_reducible apply Blk.drewN | with_reducible apply Blk.drew | exact HK.out))) hg (by simpa using HNE.out)); have HV := Lib.hid (Blk.grown ((by repeat (first | with_reducible exact HV.out | with_reducible apply Blk.alloc | with_reducible apply Blk.drewN | with_reducible apply Blk.drew | exact HV.out))) hg (by simp; have := HGL.out; omega)); have HS := Lib.hid (SL.keep ((by repeat (first | with_reducible exact HS.out | with_reducible apply SL.alloc | with_reducible apply SL.drewN | with_reducible apply SL.drew | exact HS.out))) (w' := w10) (fun g' cs hb hbl => hbl.grown hg (by simp; have := HGL.out; omega))); have HZ := Lib.hid (Nat.le_trans HZ.out hg.size); have HR := Lib.hid hr; have q2 := HV.out.cell 2; have qa := fun o => (Blk.alloc HV.out o).cell 2; clear hr hg; refine ⟨_, rfl, ?_⟩)
              | ((refine step_call 31 ent_U (by rfl) #[.tmp 47, .const (.int .i64 8)] #[58, 3] (by rfl) #[.pointer (some ⟨g, 0, none⟩), .int .i64 8] (by rfl) ((UC1.out _ (by first | exact HR.out | exact HR.out.drew)).mono ?_)); rintro e w11 ⟨rfl, hr, hg⟩; have HB := Lib.hid (below_of_grown ((by repeat (first | with_reducible exact HB.out | with_reducible apply below_alloc | with_reducible apply below_drewN | with_reducible apply below_drew))) hg (by have := HB.out.size; exact this) HGE.out); have HK := Lib.hid (Blk.grown ((by repeat (first | with_reducible exact HK.out | with_reducible apply Blk.alloc | with_reducible apply Blk.drewN | with_reducible apply Blk.drew | exact HK.out))) hg (by simpa using HNE.out)); have HV := Lib.hid (Blk.grown ((by repeat (first | with_reducible exact HV.out | with_reducible apply Blk.alloc | with_reducible apply Blk.drewN | with_reducible apply Blk.drew | exact HV.out))) hg (by simp; have := HGL.out; omega)); have HS := Lib.hid (SL.keep ((by repeat (first | with_reducible exact HS.out | with_reducible apply SL.alloc | with_reducible apply SL.drewN | with_reducible apply SL.drew | exact HS.out))) (w' := w11) (fun g' cs hb hbl => hbl.grown hg (by simp; have := HGL.out; omega))); have HZ := Lib.hid (Nat.le_trans HZ.out hg.size); have HR := Lib.hid hr; have q2 := HV.out.cell 2; have qa := fun o => (Blk.alloc HV.out o).cell 2; clear hr hg; refine ⟨_, rfl, ?_⟩)
              | (refine step_appSL (mine := mineE) (base := gL + 1) 23 (.agg #[.int .i64 0, .int .i64 0, .int .u64 0]) 24 Tryd.underlying23 infoE rfl (by decide) mineE_e rfl (.tmp 40) (.tmp 50) (by rfl) (by rfl) ((by repeat (first | with_reducible exact HS.out | with_reducible apply SL.alloc | with_reducible apply SL.drewN | with_reducible apply SL.drew | exact HS.out))) _ 1 (by rfl) _ (by rfl) ⟨_, _, heap_alloc_new _ _⟩ (by simp [Value.oneCell']) (by omega) (by decide) (by have := HZ.out; simp; omega) ?_; intro v3 w13 hs3 hf3; obtain ⟨a3, c3, hv3, -, -⟩ := hs3.form; subst hv3; have hb3 := hf3.to_below (by have := HZ.out; simp; omega); have HR := Lib.hid (Rd.belowB (HR.out.alloc _) hb3 (by have := HGL.out; omega)); have HV := Lib.hid (Blk.belowB ((by repeat (first | with_reducible exact HV.out | with_reducible apply Blk.alloc | with_reducible apply Blk.drewN | with_reducible apply Blk.drew | exact HV.out))) hb3 (by omega)); have HK := Lib.hid (Blk.belowB ((by repeat (first | with_reducible exact HK.out | with_reducible apply Blk.alloc | with_reducible apply Blk.drewN | with_reducible apply Blk.drew | exact HK.out))) hb3 (by have := HKL.out; omega)); have HB := Lib.hid (Below.trans ((by repeat (first | with_reducible exact HB.out | with_reducible apply below_alloc | with_reducible apply below_drewN | with_reducible apply below_drew))) (hb3.mono (by have := HKL.out; omega))); have HZ := Lib.hid (Nat.le_trans (Nat.le_trans HZ.out (by simp)) hb3.size); have HS := Lib.hid hs3; have q2 := HV.out.cell 2; have f2 := HV.out.frozen 2; clear hs3 hf3 hb3)))
          all_goals
            have HR2 := Lib.hid (HR.out.grown (grown_setCell w13 ⟨gL, 2, none⟩ (.slice a3 (k + 1) c3)) (show g ≠ gL by have := HGL.out; omega) (show g ≤ gL by have := HGL.out; omega))
            have HV2 := Lib.hid (show Blk (w13.setCell ⟨gL, 2, none⟩ (.slice a3 (k + 1) c3)) gL 25 #[.int .i64 n0, .int .u64 n1, .slice a3 (k + 1) c3] from HV.out.set_ 2 _)
            have HS2 := Lib.hid (HS.out.far HV.out (by decide) 2 (.slice a3 (k + 1) c3))
            have HK2 := Lib.hid (HK.out.far (p := ⟨gL, 2, none⟩) (by have := HKL.out; simp; omega) (.slice a3 (k + 1) c3))
            have HB2 := Lib.hid (HB.out.setCell (p := ⟨gL, 2, none⟩) (by have := HKL.out; simp; omega) (.slice a3 (k + 1) c3))
            have HZ2 := Lib.hid (show gL + 1 ≤ (w13.setCell ⟨gL, 2, none⟩ (.slice a3 (k + 1) c3)).heap.size by unfold World.setCell; simp; exact HZ.out)
            have HFL := Lib.hid (show flatE ((List.range (k + 1)).map ef) = flatE ((List.range k).map ef) ++ [.int .i64 xs, .int .i64 xl, .int .u64 xt] by rw [NX1.out, flatE_snoc])
            go_wp2
            go_roundw
            case rel => exact ⟨k + 1, _, by omega, by go_num, HR2.out, HV2.out, by rw [HFL.out]; exact HS2.out, HK2.out, HB2.out, HZ2.out⟩
            case measure => simp [intOf]; omega
        · obtain rfl : k = n := by omega
          have hyl : (x.drop (11 + 14 * k)).length = 58 - (11 + 14 * k) := by rw [List.length_drop, HX8.out]
          generalize hy : x.drop (11 + 14 * k) = y at *
          obtain ⟨m, hm2⟩ : ∃ m : Nat, y.length = m := ⟨_, rfl⟩
          have hy1 : y.length ≤ 1000 := by omega
          have HYL := Lib.hid (show (y.length : Int) = (m : Int) by rw [hm2])
          have hmm : (m : Int) ≤ 1000 := by omega
          have BL := Lib.hid (fun a c w h => pblank_calls a c y w h)
          have HES := Lib.hid (show (parseN x k).es = (List.range k).map ef from by unfold parseN; rw [← hef])
          have hpl := parseN_len x k
          have hpw := parseN_wf HX.out k
          have HPE := Lib.hid (show parseN x k = ⟨n0, n1, (List.range k).map ef⟩ from (Lf.ext_iff' _ _).2 ⟨(HPN.out k).1, (HPN.out k).2, HES.out⟩)
          have rE := rowE_of_SL HS.out (by simp)
          have mc := lmay_calls (parseN x k) sa sc wr (by rw [HES.out]; exact rE) hpw (by omega) hscm
          rw [HPE.out] at mc
          unfold leafV leafC at mc
          dsimp only at mc
          rw [show ((List.range k).map ef).length = k by simp] at mc
          have MC := Lib.hid mc
          rw [HPE.out] at G3
          have HFE := Lib.hid (show ((List.range k).map ef).length = k by simp)
          generalize (List.range k).map ef = es at *
          obtain ⟨⟨j0, j1, j2⟩, -⟩ := cells3 HV.out
          clear hyl mc rE hpl hpw hm2 hy HES HPE hef NX UA UB UC EW
          by_cases hmay : MayL ⟨n0, n1, es⟩
          · rw [decide_eq_true hmay] at MC
            by_cases hno : n0 = pno
            · have d1 : (n0 != pno) = false := bne_eq_false_iff_eq.2 hno
              by_cases hsn : n1 = psnap
              · have d2 : (n1 != psnap) = false := bne_eq_false_iff_eq.2 hsn
                cases hbl : blankS y
                · rw [hbl] at BL
                  have G4 := Lib.hid (show getL b pno psnap = (noLf, 31) by rw [G3.out, if_neg (fun h => by rw [hbl] at h; cases h.2.2.2)])
                  clear G3 hmay hno hsn hbl
                  go_wp2_with (first
                  | (go_at_call 22; (with_reducible refine (MC.out).mono ?_); rintro e w14 ⟨rfl, hb⟩; have HB4 := Lib.hid (below_step HB.out hb); have HK4 := Lib.hid (HK.out.below hb); have HV4 := Lib.hid (HV.out.below hb); have HS4 := Lib.hid (HS.out.below hb); have HR4 := Lib.hid (HR.out.below hb); obtain ⟨⟨j0, j1, j2⟩, -⟩ := cells3 HV4.out; obtain ⟨⟨k0, k1, k2⟩, f0, f1, f2⟩ := cells3 HK4.out; clear hb)
                  | (go_at_call 34; (with_reducible refine (left_at _ _ _ _ _ HR4.out HYL.out).mono ?_); rintro e w' ⟨rfl, rfl⟩)
                  | (go_at_call 33; (with_reducible refine (bytes_at _ _ _ _ _ HR4.out HYL.out hy1).mono ?_); rintro e w15 ⟨ya, yc, rfl, hr, hg⟩; have HB5 := Lib.hid (below_of_grown HB4.out hg HB4.out.size HGE.out); have HK5 := Lib.hid (HK4.out.grown hg (by simpa using HNE.out)); have HV5 := Lib.hid (HV4.out.grown hg (by simp; have := HGL.out; omega)); have HS5 := Lib.hid (SL.keep HS4.out (w' := w15) (fun g' cs hb hbl => hbl.grown hg (by simp; have := HGL.out; omega))); have BL1 := Lib.hid (BL.out _ yc _ hr); obtain ⟨⟨i0, i1, i2⟩, -⟩ := cells3 HV5.out; obtain ⟨⟨k0, k1, k2⟩, f0, f1, f2⟩ := cells3 HK5.out; clear hr hg)
                  | (go_at_call 32; (with_reducible refine (BL1.out).mono ?_); rintro e w' ⟨rfl, rfl⟩))
                  refine bodyPost_ret (results_ct rfl _ _ w.heap.size _ _ _ _ rfl (HK5.out.set3 _ _ _) Tryd.underlying25 rfl (by kernel_rfl)) rfl ?_
                  rw [G4.out]
                  exact getL_no (below_set3 HB5.out (Nat.le_refl _) _ _ _)
                · rw [hbl] at BL
                  have G4 := Lib.hid (show getL b pno psnap = (⟨n0, n1, es⟩, 0) by rw [G3.out, if_pos ⟨hmay, hno, hsn, hbl⟩])
                  clear G3 hmay hno hsn hbl
                  go_wp2_with (first
                  | (go_at_call 22; (with_reducible refine (MC.out).mono ?_); rintro e w14 ⟨rfl, hb⟩; have HB4 := Lib.hid (below_step HB.out hb); have HK4 := Lib.hid (HK.out.below hb); have HV4 := Lib.hid (HV.out.below hb); have HS4 := Lib.hid (HS.out.below hb); have HR4 := Lib.hid (HR.out.below hb); obtain ⟨⟨j0, j1, j2⟩, -⟩ := cells3 HV4.out; obtain ⟨⟨k0, k1, k2⟩, f0, f1, f2⟩ := cells3 HK4.out; clear hb)
                  | (go_at_call 34; (with_reducible refine (left_at _ _ _ _ _ HR4.out HYL.out).mono ?_); rintro e w' ⟨rfl, rfl⟩)
                  | (go_at_call 33; (with_reducible refine (bytes_at _ _ _ _ _ HR4.out HYL.out hy1).mono ?_); rintro e w15 ⟨ya, yc, rfl, hr, hg⟩; have HB5 := Lib.hid (below_of_grown HB4.out hg HB4.out.size HGE.out); have HK5 := Lib.hid (HK4.out.grown hg (by simpa using HNE.out)); have HV5 := Lib.hid (HV4.out.grown hg (by simp; have := HGL.out; omega)); have HS5 := Lib.hid (SL.keep HS4.out (w' := w15) (fun g' cs hb hbl => hbl.grown hg (by simp; have := HGL.out; omega))); have BL1 := Lib.hid (BL.out _ yc _ hr); obtain ⟨⟨i0, i1, i2⟩, -⟩ := cells3 HV5.out; obtain ⟨⟨k0, k1, k2⟩, f0, f1, f2⟩ := cells3 HK5.out; clear hr hg)
                  | (go_at_call 32; (with_reducible refine (BL1.out).mono ?_); rintro e w' ⟨rfl, rfl⟩))
                  have HS6 := Lib.hid (HS5.out.set3 HK5.out (by decide) (.int .i64 n0) (.int .u64 n1) (.slice sa k sc))
                  refine bodyPost_ret (results_ct rfl _ _ w.heap.size _ _ _ _ rfl (HK5.out.set3 _ _ _) Tryd.underlying25 rfl (by kernel_rfl)) rfl ?_
                  rw [G4.out]
                  refine ⟨sa, sc, ?_, rowE_of_SL HS6.out HFE.out.symm, by rw [HFE.out]; exact hsc, hscm, below_set3 HB5.out (Nat.le_refl _) _ _ _⟩
                  unfold leafV leafC
                  rw [HFE.out]
                  rfl
              · have d2 : (n1 != psnap) = true := bne_iff_ne.2 hsn
                have G4 := Lib.hid (show getL b pno psnap = (noLf, 31) by rw [G3.out, if_neg (fun h => hsn h.2.2.1)])
                clear G3 hmay hno hsn
                go_wp2_with (go_at_call 22; (with_reducible refine (MC.out).mono ?_); rintro e w14 ⟨rfl, hb⟩; have HB4 := Lib.hid (below_step HB.out hb); have HK4 := Lib.hid (HK.out.below hb); have HV4 := Lib.hid (HV.out.below hb); have HS4 := Lib.hid (HS.out.below hb); have HR4 := Lib.hid (HR.out.below hb); obtain ⟨⟨j0, j1, j2⟩, -⟩ := cells3 HV4.out; obtain ⟨⟨k0, k1, k2⟩, f0, f1, f2⟩ := cells3 HK4.out; clear hb)
                refine bodyPost_ret (results_ct rfl _ _ w.heap.size _ _ _ _ rfl (HK4.out.set3 _ _ _) Tryd.underlying25 rfl (by kernel_rfl)) rfl ?_
                rw [G4.out]
                exact getL_no (below_set3 HB4.out (Nat.le_refl _) _ _ _)
            · have d1 : (n0 != pno) = true := bne_iff_ne.2 hno
              have G4 := Lib.hid (show getL b pno psnap = (noLf, 31) by rw [G3.out, if_neg (fun h => hno h.2.1)])
              clear G3 hmay hno
              go_wp2_with (go_at_call 22; (with_reducible refine (MC.out).mono ?_); rintro e w14 ⟨rfl, hb⟩; have HB4 := Lib.hid (below_step HB.out hb); have HK4 := Lib.hid (HK.out.below hb); have HV4 := Lib.hid (HV.out.below hb); have HS4 := Lib.hid (HS.out.below hb); have HR4 := Lib.hid (HR.out.below hb); obtain ⟨⟨j0, j1, j2⟩, -⟩ := cells3 HV4.out; obtain ⟨⟨k0, k1, k2⟩, f0, f1, f2⟩ := cells3 HK4.out; clear hb)
              refine bodyPost_ret (results_ct rfl _ _ w.heap.size _ _ _ _ rfl (HK4.out.set3 _ _ _) Tryd.underlying25 rfl (by kernel_rfl)) rfl ?_
              rw [G4.out]
              exact getL_no (below_set3 HB4.out (Nat.le_refl _) _ _ _)
          · rw [decide_eq_false hmay] at MC
            have G4 := Lib.hid (show getL b pno psnap = (noLf, 31) by rw [G3.out, if_neg (fun h => hmay h.1)])
            clear G3 hmay
            go_wp2_with (go_at_call 22; (with_reducible refine (MC.out).mono ?_); rintro e w14 ⟨rfl, hb⟩; have HB4 := Lib.hid (below_step HB.out hb); have HK4 := Lib.hid (HK.out.below hb); have HV4 := Lib.hid (HV.out.below hb); have HS4 := Lib.hid (HS.out.below hb); have HR4 := Lib.hid (HR.out.below hb); obtain ⟨⟨j0, j1, j2⟩, -⟩ := cells3 HV4.out; obtain ⟨⟨k0, k1, k2⟩, f0, f1, f2⟩ := cells3 HK4.out; clear hb)
            refine bodyPost_ret (results_ct rfl _ _ w.heap.size _ _ _ _ rfl (HK4.out.set3 _ _ _) Tryd.underlying25 rfl (by kernel_rfl)) rfl ?_
            rw [G4.out]
            exact getL_no (below_set3 HB4.out (Nat.le_refl _) _ _ _)
  · have G2 := Lib.hid (show getL b pno psnap = (noLf, (getP b 4).2) by rw [G.out, if_pos hz])
    have hne : ((getP b 4).2 != 0) = true := bne_iff_ne.2 hz
    have GC := Lib.hid gc
    have HB1 := Lib.hid hb1
    have HK := Lib.hid hk0
    clear G hz gc hb1 hk0
    generalize getP b 4 = p at *
    obtain ⟨x, z⟩ := p
    dsimp only at hne
    go_enter Tryd.func11, Tryd.ntmps11
    go_wp2_with (go_at_call 29; (with_reducible refine (GC.out).mono ?_); rintro e w1 ⟨⟨a1, c1, rfl, -, -, -⟩, hb⟩; have HB := Lib.hid (below_step HB1.out hb); have HK1 := Lib.hid (HK.out.below hb); obtain ⟨⟨k0, k1, k2⟩, f0, f1, f2⟩ := cells3 HK1.out; clear hb)
    refine bodyPost_ret (results_ct rfl _ _ w.heap.size _ _ _ _ rfl (HK1.out.set3 _ _ _) Tryd.underlying25 rfl (by kernel_rfl)) rfl ?_
    rw [G2.out]
    exact getL_no (below_set3 HB.out (Nat.le_refl _) _ _ _)
end Go.Proofs.YthmhpjpnlngaoaaDoor.Ct
