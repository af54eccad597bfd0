import Derived.Test.YtgkodkgonafnlaaDoorRecC
/-! Records: Get, both. -/
namespace Go.Proofs.YtgkodkgonafnlaaDoor.Ct
open Go.RowKit
set_option linter.unusedVariables false
set_option linter.unusedSimpArgs false
/-- a number that a reader takes at a place. -/
theorem u_at (g bnd : Nat) (x : List Int) (i j k : Nat) (n v : Int) (w : World) (h : Rd w g bnd (x.drop i, false) true) (hn : n = (k : Int)) (hj : i + k = j) (h0 : 1 ≤ k) (h1 : k ≤ 8) (hl : j ≤ x.length) (hv : ofS ((x.drop i).take k) = v) :
    Calls Tryd.prog 26 #[.pointer (some ⟨g, 0, none⟩), .int .i64 n] w fun e w' => e = .returned (.int .u64 v) ∧ Rd w' g bnd (x.drop j, false) true ∧ w.grownBy w' (some g) := by
  subst hn
  have hd : (x.drop i).length = x.length - i := List.length_drop
  have e1 := take_ok (x := x.drop i) (w := k) h0 h1 (by omega)
  have e2 := uS_ok (x := x.drop i) (w := k) h0 h1 (by omega)
  refine (u_calls g bnd (x.drop i, false) (k : Int) w h).mono ?_
  rintro e w' ⟨he, hr, hg⟩
  rw [e2, hv] at he
  rw [e1] at hr
  dsimp only at hr
  rw [List.drop_drop, hj] at hr
  exact ⟨he, hr, hg⟩
theorem Rd.alloc {w : World} {g bnd : Nat} {st : List Int × Bool} {made : Bool} (h : Rd w g bnd st made) (o : Obj) : Rd (w.alloc o) g bnd st made := h.below ((Below.refl _ _).alloc (Nat.le_refl _) o)
theorem left_at (g bnd : Nat) (y : List Int) (n : Int) (w : World) (h : Rd w g bnd (y, false) true) (hn : (y.length : Int) = n) :
    Calls Tryd.prog 29 #[.pointer (some ⟨g, 0, none⟩)] w fun e w' => e = .returned (.int .i64 n) ∧ w = w' := by
  subst hn
  exact left_calls g bnd (y, false) true w h
theorem bytes_at (g bnd : Nat) (y : List Int) (n : Int) (w : World) (h : Rd w g bnd (y, false) true) (hn : (y.length : Int) = n) (hl : y.length ≤ 1000) :
    Calls Tryd.prog 28 #[.pointer (some ⟨g, 0, none⟩), .int .i64 n] w fun e w' => ∃ a c, e = .returned (.slice a y.length c) ∧ Row .u8 w' a y ∧ w.grownBy w' (some g) := by
  subst hn
  refine (bytes_calls g bnd (y, false) (y.length : Int) w h (by simp only; omega) (by omega) (by omega)).mono ?_
  rintro e w' ⟨v, he, ho, -, hg⟩
  rw [takeS_in (Nat.le_refl _)] at ho
  dsimp only at ho
  rw [List.take_length] at ho
  obtain ⟨a, c, rfl, -, -, hr, -, -⟩ := ho.form
  exact ⟨a, c, he, hr, hg⟩
def GetR (w w' : World) (r : Rec) (z : Int) (e : Ending) : Prop := e = .returned (.tuple #[recV r, .int .i64 z]) ∧ Below w.heap.size w w'
/-- results of which the first lies in memory. -/
theorem results_ct {P : Program} {fn : Func} {p u : Tmp} {ty : TypeId} (h : fn.results = #[.cell p ty, .tmp u]) (tmps : Array Value) (w : World) (g : Nat) (t : TypeId) (cs : Array Value) (fr : Nat × Nat) (d : TypeDesc)
    (hp : tmps.getD p undef = .pointer (some ⟨g, 0, none⟩)) (hg : w.heap[g]? = some (.cells cs t fr))
    (hu : P.underlying ty = some d) (hd : (match d with | .struct _ | .array _ _ => true | _ => false) = true) (hi : (P.info? ty).map (·.size) = some cs.size) :
    (results fn tmps).run P w = .ok (.tuple #[.agg cs, tmps.getD u undef]) w := by
  have hp' : tmps[p]?.getD undef = .pointer (some ⟨g, 0, none⟩) := by simpa using hp
  simp [results, h, hp', asAddr, run_loadVar_row w g t ty cs fr d hg hu hd hi]
theorem rmay_below (r : Rec) (w : World) (hr : WfR r) : Calls Tryd.prog 16 #[recV r] w fun e w' => e = .returned (.bool (decide (MayR r))) ∧ Below w.heap.size w w' :=
  (rmay_calls r w hr).mono fun e w' ⟨h1, h2⟩ => ⟨h1, h2 ▸ below_alloc (Below.refl _ _) _⟩
theorem Blk.set5 {w : World} {g : Nat} {t : TypeId} {a b c d e : Value} (h : Blk w g t #[a, b, c, d, e]) (v0 v1 v2 v3 v4 : Value) :
    Blk (((((w.setCell ⟨g, 0, none⟩ v0).setCell ⟨g, 1, none⟩ v1).setCell ⟨g, 2, none⟩ v2).setCell ⟨g, 3, none⟩ v3).setCell ⟨g, 4, none⟩ v4) g t #[v0, v1, v2, v3, v4] := by
  have := ((((h.set_ 0 v0).set_ 1 v1).set_ 2 v2).set_ 3 v3).set_ 4 v4
  exact this
theorem below_set5 {B : Nat} {w0 w : World} {g : Nat} (h : Below B w0 w) (hg : B ≤ g) (v0 v1 v2 v3 v4 : Value) :
    Below B w0 (((((w.setCell ⟨g, 0, none⟩ v0).setCell ⟨g, 1, none⟩ v1).setCell ⟨g, 2, none⟩ v2).setCell ⟨g, 3, none⟩ v3).setCell ⟨g, 4, none⟩ v4) :=
  ((((h.setCell (p := ⟨g, 0, none⟩) hg v0).setCell (p := ⟨g, 1, none⟩) hg v1).setCell (p := ⟨g, 2, none⟩) hg v2).setCell (p := ⟨g, 3, none⟩) hg v3).setCell (p := ⟨g, 4, none⟩) hg v4
theorem rec_cellz {w : World} {g : Nat} {v0 v1 v2 v3 v4 : Value} {t : TypeId} (h : Blk w g t #[v0, v1, v2, v3, v4]) : (w.cell? ⟨g, 0, none⟩ = some v0 ∧ w.cell? ⟨g, 1, none⟩ = some v1 ∧ w.cell? ⟨g, 2, none⟩ = some v2 ∧ w.cell? ⟨g, 3, none⟩ = some v3 ∧ w.cell? ⟨g, 4, none⟩ = some v4) ∧
    w.frozen? ⟨g, 0, none⟩ = false ∧ w.frozen? ⟨g, 1, none⟩ = false ∧ w.frozen? ⟨g, 2, none⟩ = false ∧ w.frozen? ⟨g, 3, none⟩ = false ∧ w.frozen? ⟨g, 4, none⟩ = false :=
  ⟨⟨h.cell 0, h.cell 1, h.cell 2, h.cell 3, h.cell 4⟩, h.frozen 0, h.frozen 1, h.frozen 2, h.frozen 3, h.frozen 4⟩
set_option maxHeartbeats 4000000 in
theorem recget_calls (a : Option Addr) (cap : Nat) (b : List Int) (w : World) (h : Row .u8 w a b) (hlen : b.length ≤ 1000000) (hcap : b.length ≤ cap) (hm : cap ≤ 9223372036854775807) (hT : Tab w) :
    Calls Tryd.prog 8 #[.slice a b.length cap] w fun e w' => GetR w w' (getR b).1 (getR b).2 e := by
  have hb1 := below_alloc (Below.refl w.heap.size w) (.cells (recC noRec) 24)
  have gc := pget_calls a cap b 2 _ (h.below hb1) (by omega) hcap hm (by unfold I64; decide) (hT.below hb1)
  have hwf : ∀ y ∈ b, 0 ≤ y ∧ y ≤ 255 := fun y hy => bounds_u8 (h.2.1 y hy)
  have hk0 : Blk (w.alloc (.cells (recC noRec) 24)) w.heap.size 24 (recC noRec) := Blk.new _ _ _
  have hT1 := hT.below hb1
  have G : Hid (getR b = if (getP b 2).2 ≠ 0 then (noRec, (getP b 2).2) else if MayR (parseR (getP b 2).1) ∧ blankS ((getP b 2).1.drop 27) = true then (parseR (getP b 2).1, 0) else (noRec, 31)) := Lib.hid rfl
  clear h hT
  unfold recC noRec at hb1 gc hk0 hT1
  dsimp only at hb1 gc hk0 hT1
  by_cases hz : (getP b 2).2 = 0
  · have hp : getP b 2 = ((getP b 2).1, 0) := by rw [← hz]
    obtain ⟨-, h64, h58, -, hs⟩ := getP_back hp hwf
    have hx : ∀ y ∈ (getP b 2).1, 0 ≤ y ∧ y ≤ 255 := by
      intro y hy
      refine hwf y ?_
      rw [← hs]; unfold sealS; simp [hy]
    rw [hz] at G
    unfold Two at gc
    rw [hz] at gc
    generalize (getP b 2).1 = x at *
    have G2 := Lib.hid (show getR b = if MayR (parseR x) ∧ blankS (x.drop 27) = true then (parseR x, 0) else (noRec, 31) by rw [G.out, if_neg (by simp)])
    obtain ⟨hwr, xx1, xx0⟩ := parseR_wf hx
    have U1 := Lib.hid (fun g bnd w h => u_at g bnd x 0 8 8 8 (parseR x).seq w h rfl rfl (by decide) (by decide) (by omega) rfl)
    have U2 := Lib.hid (fun g bnd w h => u_at g bnd x 8 16 8 8 (parseR x).epo w h rfl rfl (by decide) (by decide) (by omega) rfl)
    have U3 := Lib.hid (fun g bnd w h => u_at g bnd x 16 18 2 2 (parseR x).ext w h rfl rfl (by decide) (by decide) (by omega) rfl)
    have U4 := Lib.hid (fun g bnd w h => u_at g bnd x 18 26 8 8 (parseR x).gen w h rfl rfl (by decide) (by decide) (by omega) rfl)
    have U5 := Lib.hid (fun g bnd w h => u_at g bnd x 26 27 1 1 (parseR x).msk w h rfl rfl (by decide) (by decide) (by omega) rfl)
    have hyl : (x.drop 27).length = 31 := by rw [List.length_drop]; omega
    have RD := Lib.hid (fun a c w h => read_calls a c x w h (by omega))
    have MC := Lib.hid (fun w => rmay_below (parseR x) w hwr)
    have GC := Lib.hid gc
    have HB1 := Lib.hid hb1
    have HK := Lib.hid hk0
    clear G hz gc hb1 hk0 hp h64 hs hx h58
    generalize x.drop 27 = y at *
    generalize parseR x = r at *
    have HYL := Lib.hid (show (y.length : Int) = 31 by omega)
    have BL := Lib.hid (fun a c w h => pblank_calls a c y w h)
    obtain ⟨⟨s0, s1⟩, ⟨e0, e1⟩, -, ⟨g0, g1⟩, m0, m1⟩ := hwr
    have hy1 : y.length ≤ 1000 := by omega
    clear hyl
    unfold recV at MC
    go_enter Tryd.func8, Tryd.ntmps8
    go_upto_region 6 with (first
      | (go_at_call 24; (with_reducible refine (GC.out).mono ?_); rintro e w1 ⟨⟨a1, c1, rfl, hr, -, -⟩, hb⟩; have HB := Lib.hid (below_step HB1.out hb); have HK1 := Lib.hid (HK.out.below hb); have RD1 := Lib.hid (RD.out _ c1 _ hr); clear hr hb)
      | (go_at_call 25; (with_reducible refine (RD1.out).mono ?_); rintro e w2 ⟨g, rfl, hge, hr, hb⟩; have HB2 := Lib.hid (below_step HB.out hb); have HK2 := Lib.hid (HK1.out.below hb); have HNE := Lib.hid (show w.heap.size ≠ g by have := HK1.out.lt; omega); have HGE := Lib.hid (show w.heap.size ≤ g by have := HK1.out.lt; omega); have HR2 := Lib.hid (show Rd w2 g g (x.drop 0, false) true from hr); clear hr hb hge)
      | (go_at_call 26; (with_reducible refine (U1.out _ _ _ HR2.out).mono ?_); rintro e w3 ⟨rfl, hr, hg⟩; have HB3 := Lib.hid (below_of_grown HB2.out hg HB2.out.size HGE.out); have HK3 := Lib.hid (HK2.out.grown hg (by simpa using HNE.out)); have HR3 := Lib.hid hr; clear hr hg)
      | (go_at_call 26; (with_reducible refine (U2.out _ _ _ HR3.out).mono ?_); rintro e w4 ⟨rfl, hr, hg⟩; have HB4 := Lib.hid (below_of_grown HB3.out hg HB3.out.size HGE.out); have HK4 := Lib.hid (HK3.out.grown hg (by simpa using HNE.out)); have HR4 := Lib.hid hr; clear hr hg)
      | (go_at_call 26; (with_reducible refine (U3.out _ _ _ HR4.out).mono ?_); rintro e w5 ⟨rfl, hr, hg⟩; have HB5 := Lib.hid (below_of_grown HB4.out hg HB4.out.size HGE.out); have HK5 := Lib.hid (HK4.out.grown hg (by simpa using HNE.out)); have HR5 := Lib.hid hr; clear hr hg)
      | (go_at_call 26; (with_reducible refine (U4.out _ _ _ HR5.out).mono ?_); rintro e w6 ⟨rfl, hr, hg⟩; have HB6 := Lib.hid (below_of_grown HB5.out hg HB5.out.size HGE.out); have HK6 := Lib.hid (HK5.out.grown hg (by simpa using HNE.out)); have HR6 := Lib.hid hr; clear hr hg)
      | (go_at_call 26; (with_reducible refine (U5.out _ _ _ HR6.out).mono ?_); rintro e w7 ⟨rfl, hr, hg⟩; have HB7 := Lib.hid (below_of_grown HB6.out hg HB6.out.size HGE.out); have HK7 := Lib.hid (HK6.out.grown hg (by simpa using HNE.out)); have HR7 := Lib.hid hr; clear hr hg))
    have hk8 := HK7.out.alloc (.cells (recC r) 24)
    have hv8 : Blk (w7.alloc (.cells (recC r) 24)) w7.heap.size 24 (recC r) := Blk.new _ _ _
    have hr8 := HR7.out.alloc (.cells (recC r) 24)
    have hb8 := below_alloc HB7.out (.cells (recC r) 24)
    have hgv : some w7.heap.size ≠ some g := by have := HR7.out.lt; simp; omega
    unfold recC at hk8 hv8 hr8 hb8 MC
    generalize w7.alloc (.cells #[.int .u64 r.seq, .int .u64 r.epo, .int .i64 r.ext, .int .u64 r.gen, .int .u8 r.msk] 24) = w8 at *
    generalize w7.heap.size = g7 at *
    have HGV := Lib.hid hgv
    have HK8 := Lib.hid hk8
    have HV8 := Lib.hid hv8
    have HR8 := Lib.hid hr8
    have HB8 := Lib.hid hb8
    obtain ⟨⟨j0, j1, j2, j3, j4⟩, -⟩ := rec_cellz hv8
    clear hk8 hv8 hr8 hb8 hgv U1 U2 U3 U4 U5 RD RD1 GC HR2 HR3 HR4 HR5 HR6 HR7 HK2 HK3 HK4 HK5 HK6 HK7 HB2 HB3 HB4 HB5 HB6 HB7
    by_cases hmay : MayR r
    · rw [decide_eq_true hmay] at MC
      have gg := hmay.2.2.2.2.1
      have hgn : (r.gen == 0) = false := beq_eq_false_iff_ne.2 (by omega)
      cases hbl : blankS y
      · rw [hbl] at BL
        have G3 := Lib.hid (show getR b = (noRec, 31) by rw [G2.out, if_neg (fun h => by rw [hbl] at h; cases h.2)])
        clear hbl G2 hmay gg
        go_wp2_with (first
          | (go_at_call 16; (with_reducible refine (MC.out _).mono ?_); rintro e w9 ⟨rfl, hb⟩; have HB9 := Lib.hid (below_step HB8.out hb); have HK9 := Lib.hid (HK8.out.below hb); have HV9 := Lib.hid (HV8.out.below hb); have HR9 := Lib.hid (HR8.out.below hb); clear hb)
          | (go_at_call 29; (with_reducible refine (left_at _ _ _ _ _ HR9.out HYL.out).mono ?_); rintro e w' ⟨rfl, rfl⟩)
          | (go_at_call 28; (with_reducible refine (bytes_at _ _ _ _ _ HR9.out HYL.out hy1).mono ?_); rintro e w10 ⟨ya, yc, rfl, hr, hg⟩; have HB10 := Lib.hid (below_of_grown HB9.out hg HB9.out.size HGE.out); have HK10 := Lib.hid (HK9.out.grown hg (by simpa using HNE.out)); have HV10 := Lib.hid (HV9.out.grown hg HGV.out); have BL1 := Lib.hid (BL.out _ yc _ hr); obtain ⟨⟨i0, i1, i2, i3, i4⟩, -⟩ := rec_cellz HV10.out; obtain ⟨⟨k0, k1, k2, k3, k4⟩, f0, f1, f2, f3, f4⟩ := rec_cellz HK10.out; clear hr hg)
          | (go_at_call 27; (with_reducible refine (BL1.out).mono ?_); rintro e w' ⟨rfl, rfl⟩))
        refine bodyPost_ret (results_ct rfl _ _ w.heap.size _ _ _ _ rfl (HK10.out.set5 _ _ _ _ _) Tryd.underlying24 rfl (by kernel_rfl)) rfl ?_
        rw [G3.out]
        exact ⟨rfl, below_set5 HB10.out (Nat.le_refl _) _ _ _ _ _⟩
      · rw [hbl] at BL
        have G3 := Lib.hid (show getR b = (r, 0) by rw [G2.out, if_pos ⟨hmay, hbl⟩])
        clear hbl G2 hmay gg
        go_wp2_with (first
          | (go_at_call 16; (with_reducible refine (MC.out _).mono ?_); rintro e w9 ⟨rfl, hb⟩; have HB9 := Lib.hid (below_step HB8.out hb); have HK9 := Lib.hid (HK8.out.below hb); have HV9 := Lib.hid (HV8.out.below hb); have HR9 := Lib.hid (HR8.out.below hb); clear hb)
          | (go_at_call 29; (with_reducible refine (left_at _ _ _ _ _ HR9.out HYL.out).mono ?_); rintro e w' ⟨rfl, rfl⟩)
          | (go_at_call 28; (with_reducible refine (bytes_at _ _ _ _ _ HR9.out HYL.out hy1).mono ?_); rintro e w10 ⟨ya, yc, rfl, hr, hg⟩; have HB10 := Lib.hid (below_of_grown HB9.out hg HB9.out.size HGE.out); have HK10 := Lib.hid (HK9.out.grown hg (by simpa using HNE.out)); have HV10 := Lib.hid (HV9.out.grown hg HGV.out); have BL1 := Lib.hid (BL.out _ yc _ hr); obtain ⟨⟨i0, i1, i2, i3, i4⟩, -⟩ := rec_cellz HV10.out; obtain ⟨⟨k0, k1, k2, k3, k4⟩, f0, f1, f2, f3, f4⟩ := rec_cellz HK10.out; clear hr hg)
          | (go_at_call 27; (with_reducible refine (BL1.out).mono ?_); rintro e w' ⟨rfl, rfl⟩))
        refine bodyPost_ret (results_ct rfl _ _ w.heap.size _ _ _ _ rfl (HK10.out.set5 _ _ _ _ _) Tryd.underlying24 rfl (by kernel_rfl)) rfl ?_
        rw [G3.out]
        exact ⟨rfl, below_set5 HB10.out (Nat.le_refl _) _ _ _ _ _⟩
    · rw [decide_eq_false hmay] at MC
      have G3 := Lib.hid (show getR b = (noRec, 31) by rw [G2.out, if_neg (fun h => hmay h.1)])
      clear hmay G2
      go_wp2_with (go_at_call 16; (with_reducible refine (MC.out _).mono ?_); rintro e w9 ⟨rfl, hb⟩; have HB9 := Lib.hid (below_step HB8.out hb); have HK9 := Lib.hid (HK8.out.below hb); obtain ⟨⟨k0, k1, k2, k3, k4⟩, f0, f1, f2, f3, f4⟩ := rec_cellz HK9.out; clear hb)
      refine bodyPost_ret (results_ct rfl _ _ w.heap.size _ _ _ _ rfl (HK9.out.set5 _ _ _ _ _) Tryd.underlying24 rfl (by kernel_rfl)) rfl ?_
      rw [G3.out]
      exact ⟨rfl, below_set5 HB9.out (Nat.le_refl _) _ _ _ _ _⟩
  · have G2 := Lib.hid (show getR b = (noRec, (getP b 2).2) by rw [G.out, if_pos hz])
    have hne : ((getP b 2).2 != 0) = true := bne_iff_ne.2 hz
    have GC := Lib.hid gc
    have HB1 := Lib.hid hb1
    have HK := Lib.hid hk0
    clear G hz gc hb1 hk0
    generalize getP b 2 = p at *
    obtain ⟨x, z⟩ := p
    dsimp only at hne
    go_enter Tryd.func8, Tryd.ntmps8
    go_wp2_with (go_at_call 24; (with_reducible refine (GC.out).mono ?_); rintro e w1 ⟨⟨a1, c1, rfl, -, -, -⟩, hb⟩; have HB := Lib.hid (below_step HB1.out hb); have HK1 := Lib.hid (HK.out.below hb); obtain ⟨⟨k0, k1, k2, k3, k4⟩, f0, f1, f2, f3, f4⟩ := rec_cellz HK1.out; clear hb)
    refine bodyPost_ret (results_ct rfl _ _ w.heap.size _ _ _ _ rfl (HK1.out.set5 _ _ _ _ _) Tryd.underlying24 rfl (by kernel_rfl)) rfl ?_
    rw [G2.out]
    exact ⟨rfl, below_set5 HB.out (Nat.le_refl _) _ _ _ _ _⟩
end Go.Proofs.YtgkodkgonafnlaaDoor.Ct
