import Derived.Test.YthmhpjpnlngaoaaDoorLeafF
import Derived.Test.YthmhpjpnlngaoaaDoorLeafG
import Derived.Test.YthmhpjpnlngaoaaDoorOpenS
import Derived.Test.YthmhpjpnlngaoaaDoorCrcTurnW
/-! Chapter 17: arguments, few, short, the page's example. -/
namespace Go.Proofs.YthmhpjpnlngaoaaDoor.Ct
open Go.RowKit
open Go.ChangeShapes Go.WideShapes Go.Deep
set_option linter.unusedVariables false
set_option linter.unusedSimpArgs false
theorem open_rowV {H : Type} {enc : TypeId × Value → H} {P : Program} {W : World} {spare : Nat → Bool} {held : Bool} {base : Nat} {t e : TypeId} {fs : Array Field} {ds : List TypeDesc} {n : Nat} {v : Value} {y : DataW H × List MemPlace}
    (ht : P.underlying t = some (.slice e)) (he : P.underlying e = some (.struct fs)) (hone : oneCellFields P fs = true) (hC : P.cellsOf e = fs.size) (hds : fs.toList.mapM (fun f => P.underlying f.type) = some ds)
    (h : DataW.trod enc P W base spare held n t [v] = some y) : ∃ (a : Option Addr) (L : List (List Value)) (cap : Nat), v = .slice a L.length cap ∧ L.length ≤ cap ∧ cap ≤ 9223372036854775807 ∧ RowF ds W a L := by
  have key : ∀ a len cap, v = .slice a len cap → ∃ (a : Option Addr) (L : List (List Value)) (cap : Nat), v = .slice a L.length cap ∧ L.length ≤ cap ∧ cap ≤ 9223372036854775807 ∧ RowF ds W a L := by
    intro a len cap hv
    subst hv
    obtain ⟨L, hl, h1, h2, h3⟩ := open_rowF (d := y.1) (p := y.2) ht he hone hC hds ⟨n, by simpa [Value.cells] using h⟩
    exact ⟨a, L, cap, by rw [hl], h1, h2, h3⟩
  rcases open_slice_fields ht he hone hC h with ⟨hcs, _⟩ | ⟨ad, l, c, m, D, Pl, hcs, _⟩
  · simp only [List.cons.injEq, and_true] at hcs
    exact key _ _ _ hcs
  · simp only [List.cons.injEq, and_true] at hcs
    exact key _ _ _ hcs
theorem add_field (ad : Addr) (n j : Nat) (hj : 0 < j) : ad.add (n + j) = ⟨(ad.add n).block, (ad.add n).off + j, none⟩ := by
  unfold Addr.add
  by_cases h : n = 0
  · subst h; simp; omega
  · simp [h, Nat.add_assoc]
abbrev entDs : List TypeDesc := [.int .i64, .int .i64, .int .u64]
def entsOf (L : List (List Value)) : List En := (List.range L.length).map fun i => ⟨fI L i 0, fI L i 1, fI L i 2⟩
theorem entsOf_len (L : List (List Value)) : (entsOf L).length = L.length := by simp [entsOf]
theorem entsOf_at {L : List (List Value)} {i : Nat} (h : i < L.length) : (entsOf L).getD i noEn = ⟨fI L i 0, fI L i 1, fI L i 2⟩ := by
  unfold entsOf
  rw [List.getD_eq_getElem?_getD, List.getElem?_map, List.getElem?_range h]
  rfl
theorem rowE_of_rowF {w : World} {a : Option Addr} {L : List (List Value)} (h : RowF entDs w a L) : RowE w a (entsOf L) ∧ ∀ e ∈ entsOf L, WfE e := by
  refine ⟨⟨by rw [entsOf_len]; exact h.1, fun hp => ?_⟩, fun e he => ?_⟩
  · rw [entsOf_len] at hp
    obtain ⟨ad, rfl⟩ := h.addr hp
    refine ⟨ad, rfl, fun j hj => ?_⟩
    rw [entsOf_len] at hj
    rw [entsOf_at hj]
    have h0 := (h.int hj (j := 0) .i64 rfl).1
    have h1 := (h.int hj (j := 1) .i64 rfl).1
    have h2 := (h.int hj (j := 2) .u64 rfl).1
    rw [add_field _ _ _ (by decide)] at h1 h2
    exact ⟨h0, h1, h2⟩
  · unfold entsOf at he
    obtain ⟨i, hi, rfl⟩ := List.mem_map.1 he
    have hi := List.mem_range.1 hi
    obtain ⟨ad, rfl⟩ := h.addr (by omega)
    exact ⟨bounds_i64 (h.int hi (j := 0) .i64 rfl).2, bounds_i64 (h.int hi (j := 1) .i64 rfl).2, bounds_u64 (h.int hi (j := 2) .u64 rfl).2⟩
/-- a leaf as an argument: its numbers, where its entries lie, their room. -/
structure LfA where
  l : Lf
  a : Option Addr
  c : Nat
def leafA (x : LfA) : Value := leafV x.l x.a x.c
def WfA (w : World) (x : LfA) : Prop := RowE w x.a x.l.es ∧ WfL x.l ∧ x.l.es.length ≤ x.c ∧ x.c ≤ 9223372036854775807
theorem open_Leaf {H : Type} {enc : TypeId × Value → H} {w : World} {base : Nat} {spare : Nat → Bool} {held : Bool} {r : Reach} {b0 : Nat} {v : Value} {d : DataW H} {p : List MemPlace}
    (hv : Value.okWide Tryd.prog w r b0 25 v) (h : DataW.Trod enc Tryd.prog w base spare held 25 v d p) : ∃ x : LfA, v = leafA x ∧ WfA w x := by
  obtain ⟨cs, rfl, hl, n, hg⟩ := open_structT Tryd.underlying25 hv h
  have c0 : Tryd.prog.cellsOf 25 = 3 := by kernel_rfl
  have c1 : Tryd.prog.cellsOf 3 = 1 := by kernel_rfl
  have c2 : Tryd.prog.cellsOf 22 = 1 := by kernel_rfl
  have c3 : Tryd.prog.cellsOf 23 = 1 := by kernel_rfl
  rw [c0] at hl
  match cs, hl with
  | [v0, v1, v2], _ =>
    obtain ⟨y0, h0⟩ := hg 0 _ rfl
    obtain ⟨y1, h1⟩ := hg 1 _ rfl
    obtain ⟨y2, h2⟩ := hg 2 _ rfl
    have h0 : DataW.trod enc Tryd.prog w base spare held n 3 [v0] = some y0 := by simpa [c1] using h0
    have h1 : DataW.trod enc Tryd.prog w base spare held n 22 [v1] = some y1 := by simpa [c2] using h1
    have h2 : DataW.trod enc Tryd.prog w base spare held n 23 [v2] = some y2 := by simpa [c3] using h2
    obtain ⟨n0, e0, w0⟩ := (fits_of Tryd.underlying3 h0).int
    obtain ⟨n1, e1, w1⟩ := (fits_of Tryd.underlying22 h1).int
    obtain ⟨a, L, cap, e2, k1, k2, k3⟩ := open_rowV (ds := entDs) Tryd.underlying23 Tryd.underlying52 (by kernel_rfl) (by kernel_rfl) (by kernel_rfl) h2
    subst e0; subst e1; subst e2
    obtain ⟨q1, q2⟩ := rowE_of_rowF k3
    refine ⟨⟨⟨n0, n1, entsOf L⟩, a, cap⟩, ?_, q1, ⟨bounds_i64 w0, bounds_u64 w1, q2⟩, by show (entsOf L).length ≤ cap; rw [entsOf_len]; exact k1, k2⟩
    unfold leafA leafV leafC
    rw [entsOf_len]
theorem open_Commit {H : Type} {enc : TypeId × Value → H} {w : World} {base : Nat} {spare : Nat → Bool} {held : Bool} {r : Reach} {b0 : Nat} {v : Value} {d : DataW H} {p : List MemPlace}
    (hv : Value.okWide Tryd.prog w r b0 42 v) (h : DataW.Trod enc Tryd.prog w base spare held 42 v d p) : ∃ x : Cm, v = comV x ∧ WfC x := by
  obtain ⟨vs, rfl, hl, hf⟩ := open_structF (ds := [.int .u64, .int .i64, .int .u64]) Tryd.underlying42 (by kernel_rfl) (by kernel_rfl) (by kernel_rfl) hv h
  match vs, hl with
  | [v0, v1, v2], _ =>
    obtain ⟨n0, e0, w0⟩ := (hf 0 _ rfl).int
    obtain ⟨n1, e1, w1⟩ := (hf 1 _ rfl).int
    obtain ⟨n2, e2, w2⟩ := (hf 2 _ rfl).int
    simp only [List.getD_cons_zero, List.getD_cons_succ] at e0 e1 e2
    subst e0; subst e1; subst e2
    exact ⟨⟨n0, n1, n2⟩, rfl, bounds_u64 w0, bounds_i64 w1, bounds_u64 w2⟩
theorem few_calls (a : Option Addr) (cap : Nat) (xs : List Int) (w : World) (h : Row .u8 w a xs) (hc : xs.length ≤ cap) (hm : cap ≤ 9223372036854775807) :
    Calls Tryd.prog 13 #[.slice a xs.length cap] w fun e w' => e = .returned (.slice a (xs.take 70).length cap) ∧ w = w' := by
  by_cases c : 70 < xs.length
  · obtain ⟨ad, rfl, _⟩ := h.2.2 (by omega)
    have e : (xs.take 70).length = 70 := by rw [List.length_take]; omega
    rw [e]
    clear h e
    go_enter Tryd.func13, Tryd.ntmps13
    go_wp2
    go_ret
    exact ⟨rfl, rfl⟩
  · have e : (xs.take 70).length = xs.length := by rw [List.length_take]; omega
    rw [e]
    clear h e
    go_enter Tryd.func13, Tryd.ntmps13
    go_wp2
    go_ret
    exact ⟨rfl, rfl⟩
def cutL (l : Lf) : Lf := ⟨l.no, l.snap, l.es.take 6⟩
theorem cutL_wf {l : Lf} (h : WfL l) : WfL (cutL l) := ⟨h.1, h.2.1, fun e he => h.2.2 e (List.mem_of_mem_take he)⟩
set_option maxHeartbeats 4000000 in
theorem short_calls (l : Lf) (a : Option Addr) (c : Nat) (w : World) (h : RowE w a l.es) (hc : l.es.length ≤ c) (hm : c ≤ 9223372036854775807) :
    Calls Tryd.prog 7 #[leafV l a c] w fun e w' => e = .returned (leafV (cutL l) a c) ∧ Below w.heap.size w w' := by
  have hb1 := below_alloc (below_alloc (Below.refl w.heap.size w) (.cells (leafC l a c) 25)) (.cells (leafC noLf none 0) 25)
  have hk1 : Blk (w.alloc (.cells (leafC l a c) 25)) w.heap.size 25 (leafC l a c) := Blk.new _ _ _
  have hk2 := hk1.alloc (.cells (leafC noLf none 0) 25)
  have hk3 : Blk ((w.alloc (.cells (leafC l a c) 25)).alloc (.cells (leafC noLf none 0) 25)) (w.heap.size + 1) 25 (leafC noLf none 0) := blk_at (by simp)
  unfold leafC noLf at hb1 hk2 hk3
  unfold leafV leafC cutL
  obtain ⟨no, snap, es⟩ := l
  have HA := Lib.hid (fun hp => h.addr hp)
  clear h hk1
  dsimp only [List.length_nil] at *
  have hgl : w.heap.size ≠ w.heap.size + 1 := by omega
  have hgl2 : w.heap.size ≤ w.heap.size + 1 := by omega
  go_enter Tryd.func7, Tryd.ntmps7
  go_upto_region 1 with (fail)
  generalize (w.alloc (.cells #[.int .i64 no, .int .u64 snap, .slice a es.length c] 25)).alloc (.cells #[.int .i64 0, .int .u64 0, .slice none 0 0] 25) = w2 at *
  generalize w.heap.size + 1 = g at *
  have HB := Lib.hid hb1
  have HV := Lib.hid hk3
  have HGL := Lib.hid hgl
  have HGL2 := Lib.hid hgl2
  obtain ⟨⟨k0, k1, k2⟩, f0, f1, f2⟩ := cells3 hk2
  obtain ⟨⟨j0, j1, j2⟩, g0, g1, g2⟩ := cells3 hk3
  by_cases c6 : 6 < es.length
  · obtain ⟨ad, rfl⟩ := HA.out (by omega)
    have e : (es.take 6).length = 6 := by rw [List.length_take]; omega
    have c6i : (6 : Int) < es.length := by omega
    have E := Lib.hid e
    have HK := Lib.hid (hk2.set_ 2 (.slice (some ad) 6 c))
    have HB4 := Lib.hid (HB.out.setCell (p := ⟨w.heap.size, 2, none⟩) (Nat.le_refl _) (.slice (some ad) 6 c))
    have HV4 := Lib.hid (HV.out.far (p := ⟨w.heap.size, 2, none⟩) (Ne.symm HGL.out) (.slice (some ad) 6 c))
    clear e hb1 hk2 hk3 hgl hgl2
    go_upto_region 3 with (fail)
    generalize w2.setCell ⟨w.heap.size, 2, none⟩ (.slice (some ad) 6 c) = w3 at *
    clear k0 k1 k2 f0 f1 f2 j0 j1 j2 g0 g1 g2
    obtain ⟨⟨k0, k1, k2⟩, f0, f1, f2⟩ := cells3 (show Blk w3 w.heap.size 25 #[.int .i64 no, .int .u64 snap, .slice (some ad) 6 c] from HK.out)
    obtain ⟨⟨j0, j1, j2⟩, g0, g1, g2⟩ := cells3 HV4.out
    go_wp2
    refine bodyPost_ret (results_c rfl _ _ g _ _ _ _ rfl (HV4.out.set3 _ _ _) Tryd.underlying25 rfl (by kernel_rfl)) rfl ?_
    rw [E.out]
    exact ⟨rfl, below_set3 HB4.out HGL2.out _ _ _⟩
  · have e : (es.take 6).length = es.length := by rw [List.length_take]; omega
    have E := Lib.hid e
    clear e hb1 hk2 hk3 hgl hgl2
    go_wp2
    refine bodyPost_ret (results_c rfl _ _ g _ _ _ _ rfl (HV.out.set3 _ _ _) Tryd.underlying25 rfl (by kernel_rfl)) rfl ?_
    rw [E.out]
    exact ⟨rfl, below_set3 HB.out HGL2.out _ _ _⟩
def exL : Lf := ⟨2, 5, [⟨6, 4, 1⟩, ⟨8, 5, 3⟩]⟩
def exC : Cm := ⟨5, 9, 3⟩
theorem exL_may : MayL exL := by unfold exL; decide
theorem exL_wf : WfL exL := by
  refine ⟨by unfold exL I64; decide, by unfold exL U64; decide, fun e he => ?_⟩
  unfold exL at he
  simp only [List.mem_cons, List.not_mem_nil, or_false] at he
  rcases he with rfl | rfl
  · exact ⟨by unfold I64; decide, by unfold I64; decide, by unfold U64; decide⟩
  · exact ⟨by unfold I64; decide, by unfold I64; decide, by unfold U64; decide⟩
theorem exC_may : MayC exC := by unfold exC; decide
theorem exC_wf : WfC exC := ⟨by unfold exC U64; decide, by unfold exC I64; decide, by unfold exC U64; decide⟩
theorem rowE_lit (w : World) (es : List En) (hm : es.length ≤ 1000) : RowE (w.alloc (.cells (flatE es).toArray 52)) (some ⟨w.heap.size, 0, none⟩) es := by
  refine ⟨by unfold maxLen; omega, fun _ => ⟨_, rfl, fun j hj => ?_⟩⟩
  obtain ⟨h0, h1, h2⟩ := flatE_get es j hj
  have hb : Blk (w.alloc (.cells (flatE es).toArray 52)) w.heap.size 52 (flatE es).toArray := Blk.new _ _ _
  rw [add_off, add_off, Addr.add_lit]
  refine ⟨?_, ?_, ?_⟩
  · rw [hb.cell]; simpa using h0
  · rw [hb.cell]; simpa using h1
  · rw [hb.cell]; simpa using h2
theorem ex_get (a : Option Addr) (c : Nat) (W : World) (ss : List Int) (hs : sealS (pageS 4 (loadL exL)) = ss) (hr : Row .u8 W a ss) (hc : 64 ≤ c) (hm : c ≤ 9223372036854775807) (hT : Tab W) :
    Calls Tryd.prog 11 #[.slice a 64 c, .int .i64 2, .int .u64 5] W fun e w' => ∃ a' c', e = .returned (.tuple #[.agg #[.int .i64 2, .int .u64 5, .slice a' 2 c'], .int .i64 0]) ∧ RowE w' a' exL.es ∧ Below W.heap.size W w' := by
  subst hs
  have hl : (sealS (pageS 4 (loadL exL))).length = 64 := page_len (by rw [loadL_len]; decide)
  have h := lget_calls a c _ 2 5 W hr (by omega) (by omega) hm hT
  rw [getL_put exL_may, if_pos (by unfold exL; decide), hl] at h
  refine h.mono ?_
  rintro e w' ⟨a', c', he, hre, -, -, hb⟩
  exact ⟨a', c', he, hre, hb⟩
theorem ex_put (a : Option Addr) (W : World) (ss : List Int) (hs : sealS (pageS 4 (loadL exL)) = ss) (hr : RowE W a exL.es) (hT : Tab W) :
    Calls Tryd.prog 8 #[.agg #[.int .i64 2, .int .u64 5, .slice a 2 2]] W fun e w' => ∃ v, e = .returned (.tuple #[v, .int .i64 0]) ∧ Own .u8 5 w' W.heap.size v ss ∧ Below W.heap.size W w' := by
  subst hs
  have h := lput_calls exL a 2 W hr exL_wf (by decide) (by decide) hT
  unfold PutL at h
  rw [show putL exL = (sealS (pageS 4 (loadL exL)), 0) by unfold putL; rw [if_pos exL_may]] at h
  exact h
theorem ex_seal (W : World) (ss : List Int) (hs : sealS (pageS 5 (loadC exC)) = ss) (hT : Tab W) :
    Calls Tryd.prog 16 #[.agg #[.int .u64 5, .int .i64 9, .int .u64 3]] W fun e w' => ∃ v, e = .returned (.tuple #[v, .int .i64 0]) ∧ Own .u8 5 w' W.heap.size v ss ∧ Below W.heap.size W w' := by
  subst hs
  have h := lseal_calls exC W exC_wf hT
  unfold SealC at h
  rw [show sealC exC = (sealS (pageS 5 (loadC exC)), 0) by unfold sealC; rw [if_pos exC_may]] at h
  exact h
theorem ex_open (a : Option Addr) (c : Nat) (W : World) (ss : List Int) (hs : sealS (pageS 5 (loadC exC)) = ss) (hr : Row .u8 W a ss) (hc : 64 ≤ c) (hm : c ≤ 9223372036854775807) (hT : Tab W) :
    Calls Tryd.prog 18 #[.slice a 64 c] W fun e w' => e = .returned (.tuple #[.agg #[.int .u64 5, .int .i64 9, .int .u64 3], .int .i64 0]) ∧ Below W.heap.size W w' := by
  subst hs
  have hl : (sealS (pageS 5 (loadC exC))).length = 64 := page_len (by rw [loadC_len]; decide)
  have h := lopen_calls a c _ W hr (by omega) (by omega) hm hT
  rw [openC_seal exC_wf exC_may, hl] at h
  exact h
theorem ex_same (f : FuncId) (a b : Option Addr) (c : Nat) (W : World) (h : Calls Tryd.prog f #[leafV exL a c, leafV exL b 2] W fun e w' => e = .returned (.bool (decide (exL = exL))) ∧ Below W.heap.size W w') :
    Calls Tryd.prog f #[.agg #[.int .i64 2, .int .u64 5, .slice a 2 c], .agg #[.int .i64 2, .int .u64 5, .slice b 2 2]] W fun e w' => e = .returned (.bool true) ∧ Below W.heap.size W w' := by
  rw [decide_eq_true rfl] at h
  exact h
set_option maxHeartbeats 8000000 in
theorem awake_calls (w : World) (hT : Tab w) : Calls Tryd.prog 10 #[] w fun e w' => e = .returned (.bool true) ∧ Below w.heap.size w w' := by
  have hre := rowE_lit w exL.es (by decide)
  rw [show (flatE exL.es).toArray = #[.int .i64 6, .int .i64 4, .int .u64 1, .int .i64 8, .int .i64 5, .int .u64 3] from rfl] at hre
  have hb0 := below_alloc (Below.refl w.heap.size w) (.cells #[.int .i64 6, .int .i64 4, .int .u64 1, .int .i64 8, .int .i64 5, .int .u64 3] 52)
  have hb1 := below_alloc hb0 (.cells #[.int .i64 2, .int .u64 5, .slice (some ⟨w.heap.size, 0, none⟩) 2 2] 25)
  have hk1 : Blk ((w.alloc (.cells #[.int .i64 6, .int .i64 4, .int .u64 1, .int .i64 8, .int .i64 5, .int .u64 3] 52)).alloc (.cells #[.int .i64 2, .int .u64 5, .slice (some ⟨w.heap.size, 0, none⟩) 2 2] 25)) (w.heap.size + 1) 25 #[.int .i64 2, .int .u64 5, .slice (some ⟨w.heap.size, 0, none⟩) 2 2] := blk_at (by simp)
  have hre1 := hre.below (below_alloc (Below.refl _ _) (.cells #[.int .i64 2, .int .u64 5, .slice (some ⟨w.heap.size, 0, none⟩) 2 2] 25))
  have HT := Lib.hid (fun W (hb : Below w.heap.size w W) => hT.below hb)
  obtain ⟨ss, hss⟩ : ∃ ss, sealS (pageS 4 (loadL exL)) = ss := ⟨_, rfl⟩
  obtain ⟨cs, hcs⟩ : ∃ cs, sealS (pageS 5 (loadC exC)) = cs := ⟨_, rfl⟩
  have HSL := Lib.hid (show ss.length = 64 by rw [← hss]; exact page_len (by rw [loadL_len]; decide))
  have HCL := Lib.hid (show cs.length = 64 by rw [← hcs]; exact page_len (by rw [loadC_len]; decide))
  have HSS := Lib.hid hss
  have HCS := Lib.hid hcs
  have OF := Lib.hid (fun W => lof_calls 8 W (by unfold I64; decide))
  rw [show ofS0 8 = 2 from rfl] at OF
  clear hre hb0 hT hss hcs
  go_enter Tryd.func10, Tryd.ntmps10
  go_upto_region 2 with (fail)
  generalize (w.alloc (.cells #[.int .i64 6, .int .i64 4, .int .u64 1, .int .i64 8, .int .i64 5, .int .u64 3] 52)).alloc (.cells #[.int .i64 2, .int .u64 5, .slice (some ⟨w.heap.size, 0, none⟩) 2 2] 25) = w1 at *
  generalize w.heap.size + 1 = g1 at *
  have HB := Lib.hid hb1
  have HK := Lib.hid hk1
  have HE := Lib.hid hre1
  have PC := Lib.hid (ex_put _ _ _ HSS.out hre1 (HT.out _ hb1))
  obtain ⟨⟨k0, k1, k2⟩, -⟩ := cells3 hk1
  clear hb1 hk1 hre1
  go_upto_region 4 with (first
    | (go_at_call 8; (with_reducible refine (PC.out).mono ?_); rintro e w2 ⟨v, rfl, ho, hb⟩; obtain ⟨sa, sc, rfl, hsc, hsm, hr, -, -⟩ := ho.form; have HB := Lib.hid (below_step HB.out hb); have HK := Lib.hid (HK.out.below hb); have HE := Lib.hid (HE.out.below hb); rw [HSL.out] at hsc ⊢; have GC := Lib.hid (ex_get _ sc _ _ HSS.out hr hsc hsm (HT.out _ HB.out)); clear ho hb hr)
    | (go_at_call 11; (with_reducible refine (GC.out).mono ?_); rintro e w3 ⟨a4, c4, rfl, hre, hb⟩; have HB := Lib.hid (below_step HB.out hb); have HK := Lib.hid (HK.out.below hb); have HE := Lib.hid (HE.out.below hb); have HF := Lib.hid hre; clear hb hre))
  have hb4 := below_alloc HB.out (.cells #[.int .i64 2, .int .u64 5, .slice a4 2 c4] 25)
  have hk4 := HK.out.alloc (.cells #[.int .i64 2, .int .u64 5, .slice a4 2 c4] 25)
  have hv4 : Blk (w3.alloc (.cells #[.int .i64 2, .int .u64 5, .slice a4 2 c4] 25)) w3.heap.size 25 #[.int .i64 2, .int .u64 5, .slice a4 2 c4] := Blk.new _ _ _
  have he4 := HE.out.below (below_alloc (Below.refl _ _) (.cells #[.int .i64 2, .int .u64 5, .slice a4 2 c4] 25))
  have hf4 := HF.out.below (below_alloc (Below.refl _ _) (.cells #[.int .i64 2, .int .u64 5, .slice a4 2 c4] 25))
  generalize w3.alloc (.cells #[.int .i64 2, .int .u64 5, .slice a4 2 c4] 25) = w4 at *
  generalize w3.heap.size = g4 at *
  have HB := Lib.hid hb4
  have HK := Lib.hid hk4
  have HV := Lib.hid hv4
  have HE := Lib.hid he4
  have HF := Lib.hid hf4
  have SC := Lib.hid (ex_seal _ _ HCS.out (HT.out _ hb4))
  clear hb4 hk4 hv4 he4 hf4 k0 k1 k2 PC GC
  go_upto_region 6 with (first
    | (go_at_call 16; (with_reducible refine (SC.out).mono ?_); rintro e w5 ⟨v, rfl, ho, hb⟩; obtain ⟨sa', sc', rfl, hsc', hsm', hr, -, -⟩ := ho.form; have HB := Lib.hid (below_step HB.out hb); have HK := Lib.hid (HK.out.below hb); have HV := Lib.hid (HV.out.below hb); have HE := Lib.hid (HE.out.below hb); have HF := Lib.hid (HF.out.below hb); rw [HCL.out] at hsc' ⊢; have OC := Lib.hid (ex_open _ sc' _ _ HCS.out hr hsc' hsm' (HT.out _ HB.out)); clear ho hb hr)
    | (go_at_call 18; (with_reducible refine (OC.out).mono ?_); rintro e w6 ⟨rfl, hb⟩; have HB := Lib.hid (below_step HB.out hb); have HK := Lib.hid (HK.out.below hb); have HV := Lib.hid (HV.out.below hb); have HE := Lib.hid (HE.out.below hb); have HF := Lib.hid (HF.out.below hb); clear hb))
  have hb7 := below_alloc HB.out (.cells #[.int .u64 5, .int .i64 9, .int .u64 3] 42)
  have hk7 := HK.out.alloc (.cells #[.int .u64 5, .int .i64 9, .int .u64 3] 42)
  have hv7 := HV.out.alloc (.cells #[.int .u64 5, .int .i64 9, .int .u64 3] 42)
  have hc7 : Blk (w6.alloc (.cells #[.int .u64 5, .int .i64 9, .int .u64 3] 42)) w6.heap.size 42 #[.int .u64 5, .int .i64 9, .int .u64 3] := Blk.new _ _ _
  have he7 := HE.out.below (below_alloc (Below.refl _ _) (.cells #[.int .u64 5, .int .i64 9, .int .u64 3] 42))
  have hf7 := HF.out.below (below_alloc (Below.refl _ _) (.cells #[.int .u64 5, .int .i64 9, .int .u64 3] 42))
  generalize w6.alloc (.cells #[.int .u64 5, .int .i64 9, .int .u64 3] 42) = w7 at *
  generalize w6.heap.size = g7 at *
  have HB := Lib.hid hb7
  have HK := Lib.hid hk7
  have HV := Lib.hid hv7
  have HC := Lib.hid hc7
  have HE := Lib.hid he7
  have HF := Lib.hid hf7
  have R1 := Lib.hid (ex_same _ _ _ _ _ (rsame_calls exL exL a4 (some ⟨w.heap.size, 0, none⟩) c4 2 _ hf7 he7))
  obtain ⟨⟨k0, k1, k2⟩, -⟩ := cells3 hk7
  obtain ⟨⟨j0, j1, j2⟩, -⟩ := cells3 hv7
  clear hb7 hk7 hv7 hc7 he7 hf7 SC OC
  go_wp2_with (first
    | (go_at_call 12; (with_reducible refine (R1.out).mono ?_); rintro e w8 ⟨rfl, hb⟩; have HB := Lib.hid (below_step HB.out hb); have hk8 := HK.out.below hb; have hv8 := HV.out.below hb; have hc8 := HC.out.below hb; have R2 := Lib.hid (ex_same _ _ _ _ _ (lsame_calls exL exL a4 (some ⟨w.heap.size, 0, none⟩) c4 2 _ (HF.out.below hb) (HE.out.below hb))); obtain ⟨⟨k0, k1, k2⟩, -⟩ := cells3 hk8; obtain ⟨⟨j0, j1, j2⟩, -⟩ := cells3 hv8; obtain ⟨⟨i0, i1, i2⟩, -⟩ := cells3 hc8; clear hb hk8 hv8 hc8)
    | (go_at_call 20; (with_reducible refine (OF.out _).mono ?_); rintro e w' ⟨rfl, rfl⟩)
    | (go_at_call 21; (with_reducible refine (R2.out).mono ?_); rintro e w9 ⟨rfl, hb⟩; have HB := Lib.hid (below_step HB.out hb); clear hb))
  go_ret
  exact ⟨rfl, HB.out⟩
end Go.Proofs.YthmhpjpnlngaoaaDoor.Ct
