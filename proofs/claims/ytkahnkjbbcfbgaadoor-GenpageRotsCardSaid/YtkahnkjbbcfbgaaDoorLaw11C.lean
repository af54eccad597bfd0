import Derived.Test.YtkahnkjbbcfbgaaDoorLaw11B
/-! Chapter 11: GenpageRots. -/
namespace Go.Proofs.YtkahnkjbbcfbgaaDoor.Ct
open Go.RowKit
set_option linter.unusedVariables false
set_option linter.unusedSimpArgs false
def Gp.at (p : Gp) (v : Int) : Gp := ⟨p.no, v, p.g0, p.g1, p.g2, p.g3, p.g4, p.g5⟩
theorem at_may {p : Gp} {v more : Int} (hm : MayG p) (hp : WfG p) (h0 : 0 ≤ more) (hv : v = min (p.ver + more) 4611686018427387904) : MayG (p.at v) ∧ WfG (p.at v) := by
  obtain ⟨a, ⟨b1, b2⟩, c⟩ := hm
  obtain ⟨d, e, f⟩ := hp
  have h1 : 1 ≤ v ∧ v ≤ 4611686018427387904 := by omega
  exact ⟨⟨a, h1, c⟩, ⟨d, (show U64 v by unfold U64; omega), f⟩⟩
theorem Row.far {k : IntKind} {w : World} {a : Option Addr} {xs : List Int} (h : Row k w a xs) {p : Addr} (hp : ∀ ad, a = some ad → p.block ≠ ad.block) (u : Value) : Row k (w.setCell p u) a xs := by
  refine ⟨h.1, h.2.1, fun hl => ?_⟩
  obtain ⟨ad, rfl, hc⟩ := h.2.2 hl
  refine ⟨ad, rfl, fun j hj => ?_⟩
  have hb := hp ad rfl
  exact (World.cell?_setCell_other (w := w) (a := p) (b := ad.add j) (v := u) (h := fun e => hb (by rw [e]; unfold Addr.add; split <;> rfl))).trans (hc j hj)
theorem Row.far8 {w : World} {a : Option Addr} {xs : List Int} (h : Row .u8 w a xs) {g : Nat} (hp : ∀ ad, a = some ad → g ≠ ad.block) (v0 v1 v2 v3 v4 v5 v6 v7 : Value) :
    Row .u8 ((((((((w.setCell ⟨g, 0, none⟩ v0).setCell ⟨g, 1, none⟩ v1).setCell ⟨g, 2, none⟩ v2).setCell ⟨g, 3, none⟩ v3).setCell ⟨g, 4, none⟩ v4).setCell ⟨g, 5, none⟩ v5).setCell ⟨g, 6, none⟩ v6).setCell ⟨g, 7, none⟩ v7) a xs :=
  (((((((h.far (p := ⟨g, 0, none⟩) hp v0).far (p := ⟨g, 1, none⟩) hp v1).far (p := ⟨g, 2, none⟩) hp v2).far (p := ⟨g, 3, none⟩) hp v3).far (p := ⟨g, 4, none⟩) hp v4).far (p := ⟨g, 5, none⟩) hp v5).far (p := ⟨g, 6, none⟩) hp v6).far (p := ⟨g, 7, none⟩) hp v7
theorem newer_of {x y : List Int} {no : Int} {p q : Gp} {za zb : Int} (hx : getG x no = (p, za)) (hy : getG y no = (q, zb)) : newerG x y no = if za = 0 ∧ (zb ≠ 0 ∨ q.ver ≤ p.ver) then (p, 0, true) else if zb = 0 then (q, 1, true) else (noGp, 0, false) := by
  unfold newerG
  rw [hx, hy]
set_option maxHeartbeats 8000000 in
theorem rots_bde (p : Gp) (more : Int) (q t : Nat) (w : World) (v : Int) (d : List Int) (hp : WfG p) (hm : MayG p) (hmo : 0 ≤ more ∧ more ≤ 255) (hq : q ≤ 65535) (ht : t ≤ 4294967295) (hT : Tab w)
    (hv : v = min (p.ver + more) 4611686018427387904) (he : v = p.ver) (hd : d = turnS (sealS (pageS 1 (loadG (p.at v)))) q t) (hdd : ¬ d = sealS (pageS 1 (loadG (p.at v)))) :
    Calls Tryd.prog 5 #[genV p, .int .u8 more, .bool true, .int .u16 q, .int .u32 t] w fun e w' => e = .returned (.bool true) ∧ Below w.heap.size w w' := by
  obtain ⟨hmv, hwv⟩ := at_may hm hp hmo.1 hv
  obtain ⟨u1, u2⟩ := (show NumOk p.ver from hm.2.1)
  have hb1 := below_alloc (Below.refl w.heap.size w) (.cells (genC p) 25)
  have hk1 : Blk (w.alloc (.cells (genC p) 25)) w.heap.size 25 (genC p) := Blk.new _ _ _
  have MC := Lib.hid (fun w => rgmay_calls p w hp)
  have PC := fun w => rgput_calls p w hp
  have QC := fun w => rgput_calls (p.at v) w hwv
  have AW := Lib.hid (fun w' (hb : Below w.heap.size w w') => awake_calls w' (hT.below hb))
  have KC := Lib.hid (fun (w : World) (a : Option Addr) (cap : Nat) (xs : List Int) (h : Row .u8 w a xs) => run_str (P := Tryd.prog) 26 5 9 Tryd.underlying26 Tryd.underlying5 Tryd.underlying9 a cap xs h)
  unfold PutG at PC QC
  rw [show putG p = (sealS (pageS 1 (loadG p)), 0) by unfold putG; rw [if_pos hm]] at PC
  rw [show putG (p.at v) = (sealS (pageS 1 (loadG (p.at v))), 0) by unfold putG; rw [if_pos hmv]] at QC
  rw [decide_eq_true hm] at MC
  have hdl : d.length = 64 := by rw [hd, turnS_len (seal_wf _), seal_len]
  have hdw : ∀ y ∈ d, 0 ≤ y ∧ y ≤ 255 := by rw [hd]; exact turnS_wf (seal_wf _) q t
  have TC := fun (W : World) a c (h : Row .u8 W a (sealS (pageS 1 (loadG (p.at v))))) => rturn_calls a c _ q t W h (by rw [seal_len]; decide) ⟨by omega, by omega⟩ (by omega)
  rw [← hd, seal_len] at TC
  have hg : getG d p.no = (noGp, 40) := by
    rcases getG_turn hmv q t with h | ⟨h, h2⟩
    · exact absurd (hd.trans h) hdd
    · rw [hd]; exact h2 _
  have hgo : getG (sealS (pageS 1 (loadG p))) p.no = (p, 0) := by rw [getG_put hm p.no]; exact if_pos rfl
  have hn : newerG (sealS (pageS 1 (loadG p))) (d) p.no = (p, 0, true) := by
    rw [newer_of hgo hg]
    exact if_pos (by dsimp only [Gp.at, noGp]; omega)
  have NC := fun (W : World) (hb : Below w.heap.size w W) a b ca cb (ha : Row .u8 W a (sealS (pageS 1 (loadG p)))) (hc : 64 ≤ ca) (hm : ca ≤ 9223372036854775807) (hb' : Row .u8 W b (d)) (hc' : 64 ≤ cb) (hm' : cb ≤ 9223372036854775807) =>
    newer_calls a b 64 ca 64 cb _ _ p.no W (seal_wf p) hdw
      (fun W' h' => (show Calls Tryd.prog 9 #[.slice a 64 ca, .int .i64 p.no] W' _ by
        have := gget_calls a ca _ p.no W' (ha.below h') (by rw [seal_len]; decide) (by rw [seal_len]; exact hc) hm (hT.below (below_step hb h'))
        rw [seal_len] at this
        exact this))
      (fun W' h' => (show Calls Tryd.prog 9 #[.slice b 64 cb, .int .i64 p.no] W' _ by
        have := gget_calls b cb _ p.no W' (hb'.below h') (by rw [hdl]; decide) (by rw [hdl]; exact hc') hm' (hT.below (below_step hb h'))
        rw [hdl] at this
        exact this))
  rw [hn] at NC
  have LP := Lib.hid (seal_len p)
  have LQ := Lib.hid (seal_len (p.at v))
  have LD := Lib.hid hdl
  have se := str_eqb hdw (seal_wf (p.at v))
  rw [decide_eq_false hdd] at se
  have EQ := fun w => eq6 p.g0 p.g1 p.g2 p.g3 p.g4 p.g5 w
  have hev : (v == p.ver) = true := by simpa using he
  have wm : IntKind.u64.wrap more = more := u64_of _ (by omega) (by omega)
  have wv : IntKind.u64.wrap (p.ver + more) = p.ver + more := u64_of _ (by omega) (by omega)
  have HB1 := Lib.hid hb1
  have HK1 := Lib.hid hk1
  have PC := Lib.hid PC
  have QC := Lib.hid QC
  have TC := Lib.hid TC
  have NC := Lib.hid NC
  have wq : IntKind.i64.wrap (q : Int) = q := by have := wrap64_id (x := (q : Int)) ⟨by omega, by omega⟩; unfold wrap64 at this; rw [IntKind.wrap_i64]; exact this
  clear hT hb1 hk1 hd hdd hdl hdw hn hg hgo hp hmv hwv he
  unfold genV genC Gp.at at *
  obtain ⟨p0, p1, p2, p3, p4, p5, p6, p7⟩ := p
  dsimp only at *
  clear hm
  generalize sealS (pageS 1 (loadG ⟨p0, p1, p2, p3, p4, p5, p6, p7⟩)) = sp at *
  generalize sealS (pageS 1 (loadG ⟨p0, v, p2, p3, p4, p5, p6, p7⟩)) = sq at *
  go_enter Tryd.func5, Tryd.ntmps5
  go_upto_region 3 with (go_at_call 15; (with_reducible refine (MC.out _).mono ?_); rintro e w2 ⟨rfl, hb⟩; have HB2 := Lib.hid (below_step HB1.out hb); have HK2 := Lib.hid (HK1.out.below hb); obtain ⟨⟨k0, k1, k2, k3, k4, k5, k6, k7⟩, -⟩ := cells8 HK2.out; clear hb)
  go_upto_region 4 with (fail)
  have hb3 := below_alloc HB2.out (.cells #[.int .i64 p0, .int .u64 p1, .int .u64 p2, .int .u64 p3, .int .u64 p4, .int .u64 p5, .int .u64 p6, .int .u64 p7] 25)
  have hk3 := HK2.out.alloc (.cells #[.int .i64 p0, .int .u64 p1, .int .u64 p2, .int .u64 p3, .int .u64 p4, .int .u64 p5, .int .u64 p6, .int .u64 p7] 25)
  have hl3 : Blk (w2.alloc (.cells #[.int .i64 p0, .int .u64 p1, .int .u64 p2, .int .u64 p3, .int .u64 p4, .int .u64 p5, .int .u64 p6, .int .u64 p7] 25)) w2.heap.size 25 #[.int .i64 p0, .int .u64 p1, .int .u64 p2, .int .u64 p3, .int .u64 p4, .int .u64 p5, .int .u64 p6, .int .u64 p7] := Blk.new _ _ _
  have HNE := Lib.hid (show w.heap.size ≠ w2.heap.size by have := HK2.out.lt; omega)
  have HGE := Lib.hid (show w.heap.size ≤ w2.heap.size from HB2.out.size)
  generalize w2.alloc (.cells #[.int .i64 p0, .int .u64 p1, .int .u64 p2, .int .u64 p3, .int .u64 p4, .int .u64 p5, .int .u64 p6, .int .u64 p7] 25) = w3 at *
  generalize w2.heap.size = g3 at *
  clear k0 k1 k2 k3 k4 k5 k6 k7
  obtain ⟨⟨k0, k1, k2, k3, k4, k5, k6, k7⟩, -⟩ := cells8 hk3
  have c1 : w3.cell? ⟨g3, 1, none⟩ = some (.int .u64 p1) := hl3.cell 1
  have f1 : w3.frozen? ⟨g3, 1, none⟩ = false := hl3.frozen 1
  have HB3 := Lib.hid hb3
  have HK3 := Lib.hid hk3
  have HL3 := Lib.hid hl3
  clear hb3 hk3 hl3
  go_upto_region 5 with (fail)
  rw [show (if 4611686018427387904 < p1 + more then 4611686018427387904 else p1 + more) = v by rw [hv]; split <;> omega]
  clear hv
  have hb5 := HB3.out.setCell (p := ⟨g3, 1, none⟩) HGE.out (.int .u64 v)
  have hk5 := HK3.out.far (p := ⟨g3, 1, none⟩) HNE.out (.int .u64 v)
  have hl5 : Blk (w3.setCell ⟨g3, 1, none⟩ (.int .u64 v)) g3 25 #[.int .i64 p0, .int .u64 v, .int .u64 p2, .int .u64 p3, .int .u64 p4, .int .u64 p5, .int .u64 p6, .int .u64 p7] := HL3.out.set_ 1 (.int .u64 v)
  generalize w3.setCell ⟨g3, 1, none⟩ (.int .u64 v) = w5 at *
  clear k0 k1 k2 k3 k4 k5 k6 k7 c1 f1
  obtain ⟨⟨k0, k1, k2, k3, k4, k5, k6, k7⟩, -⟩ := cells8 hk5
  have HB5 := Lib.hid hb5
  have HK5 := Lib.hid hk5
  have HL5 := Lib.hid hl5
  clear hb5 hk5 hl5
  go_upto_region 6 with (go_at_call 7; (with_reducible refine (PC.out w5).mono ?_); rintro e w6 ⟨x, rfl, ho, hb⟩; obtain ⟨sa, sc, rfl, hsc, hsm, h, -, -⟩ := ho.form; have HB6 := Lib.hid (below_step HB5.out hb); have HK6 := Lib.hid (HK5.out.below hb); have HL6 := Lib.hid (HL5.out.below hb); have HS6 := Lib.hid h; rw [LP.out] at hsc ⊢; clear ho hb h)
  clear k0 k1 k2 k3 k4 k5 k6 k7
  obtain ⟨⟨k0, k1, k2, k3, k4, k5, k6, k7⟩, -⟩ := cells8 HL6.out
  go_upto_region 7 with (go_at_call 7; (with_reducible refine (QC.out w6).mono ?_); rintro e w7 ⟨x, rfl, ho, hb⟩; obtain ⟨ra, rc, rfl, hrc, hrm, h, -, -⟩ := ho.form; have HB7 := Lib.hid (below_step HB6.out hb); have HK7 := Lib.hid (HK6.out.below hb); have HL7 := Lib.hid (HL6.out.below hb); have HS7 := Lib.hid (HS6.out.below hb); have HR7 := Lib.hid h; rw [LQ.out] at hrc ⊢; clear ho hb h)
  clear k0 k1 k2 k3 k4 k5 k6 k7
  obtain ⟨⟨k0, k1, k2, k3, k4, k5, k6, k7⟩, -⟩ := cells8 HL7.out
  go_upto_region 8 with (fail)
  have SX := Lib.hid (fun W W' (h : Below w7.heap.size w7 W) (h' : Below W.heap.size W W') => below_step h h')
  have AX := Lib.hid (fun W (h : Below w7.heap.size w7 W) o => below_alloc h o)
  have BF := Lib.hid (fun W (h : Below w7.heap.size w7 W) => below_step HB7.out h)
  have KF := Lib.hid (fun W (h : Below w7.heap.size w7 W) => HK7.out.below h)
  have LF := Lib.hid (fun W (h : Below w7.heap.size w7 W) => HL7.out.below h)
  have SF := Lib.hid (fun W (h : Below w7.heap.size w7 W) => HS7.out.below h)
  have RF := Lib.hid (fun W (h : Below w7.heap.size w7 W) => HR7.out.below h)
  have hx8 := below_alloc (Below.refl w7.heap.size w7) (.cells #[.int .i64 p0, .int .u64 v, .int .u64 p2, .int .u64 p3, .int .u64 p4, .int .u64 p5, .int .u64 p6, .int .u64 p7] 25)
  have hw8 : Blk (w7.alloc (.cells #[.int .i64 p0, .int .u64 v, .int .u64 p2, .int .u64 p3, .int .u64 p4, .int .u64 p5, .int .u64 p6, .int .u64 p7] 25)) w7.heap.size 25 #[.int .i64 p0, .int .u64 v, .int .u64 p2, .int .u64 p3, .int .u64 p4, .int .u64 p5, .int .u64 p6, .int .u64 p7] := Blk.new _ _ _
  generalize w7.alloc (.cells #[.int .i64 p0, .int .u64 v, .int .u64 p2, .int .u64 p3, .int .u64 p4, .int .u64 p5, .int .u64 p6, .int .u64 p7] 25) = w8 at *
  generalize w7.heap.size = g8 at *
  have HX8 := Lib.hid hx8
  have HW8 := Lib.hid hw8
  clear hx8 hw8 k0 k1 k2 k3 k4 k5 k6 k7
  obtain ⟨⟨k0, k1, k2, k3, k4, k5, k6, k7⟩, -⟩ := cells8 (KF.out _ HX8.out)
  obtain ⟨⟨l0, l1, l2, l3, l4, l5, l6, l7⟩, -⟩ := cells8 (LF.out _ HX8.out)
  obtain ⟨⟨m0, m1, m2, m3, m4, m5, m6, m7⟩, f0, f1, f2, f3, f4, f5, f6, f7⟩ := cells8 HW8.out
  go_upto_region 10 with (fail)
  have hx9 := below_set8 HX8.out (Nat.le_refl g8) (.int .i64 p0) (.int .u64 p1) (.int .u64 p2) (.int .u64 p3) (.int .u64 p4) (.int .u64 p5) (.int .u64 p6) (.int .u64 p7)
  have hw9 := HW8.out.set8 (.int .i64 p0) (.int .u64 p1) (.int .u64 p2) (.int .u64 p3) (.int .u64 p4) (.int .u64 p5) (.int .u64 p6) (.int .u64 p7)
  generalize (((((((w8.setCell ⟨g8, 0, none⟩ (.int .i64 p0)).setCell ⟨g8, 1, none⟩ (.int .u64 p1)).setCell ⟨g8, 2, none⟩ (.int .u64 p2)).setCell ⟨g8, 3, none⟩ (.int .u64 p3)).setCell ⟨g8, 4, none⟩ (.int .u64 p4)).setCell ⟨g8, 5, none⟩ (.int .u64 p5)).setCell ⟨g8, 6, none⟩ (.int .u64 p6)).setCell ⟨g8, 7, none⟩ (.int .u64 p7) = w9 at *
  have HX9 := Lib.hid hx9
  have HW9 := Lib.hid hw9
  clear hx9 hw9
  clear k0 k1 k2 k3 k4 k5 k6 k7 l0 l1 l2 l3 l4 l5 l6 l7 m0 m1 m2 m3 m4 m5 m6 m7 f0 f1 f2 f3 f4 f5 f6 f7
  have hlt9 := HW9.out.lt
  go_upto_region 12 with (go_at_call 16; (with_reducible refine (TC.out w9 ra rc (RF.out _ HX9.out)).mono ?_); rintro e w10 ⟨x, rfl, ho, hb⟩; obtain ⟨da, dc, rfl, hdc, hdm, hr, -, hbl⟩ := ho.form; have HX10 := Lib.hid (SX.out _ _ HX9.out hb); have HW10 := Lib.hid (HW9.out.below hb); have HD10 := Lib.hid hr; have HDB := Lib.hid (fun (ad : Addr) (e : da = some ad) => (Nat.ne_of_lt (Nat.lt_of_lt_of_le hlt9 (hbl ad e).2.1) : g8 ≠ ad.block)); rw [LD.out] at hdc ⊢; clear ho hb hr hbl)
  have t1 := KC.out w10 da dc d HD10.out
  have t2 := KC.out w10 ra rc _ (RF.out _ HX10.out)
  rw [LD.out] at t1
  rw [LQ.out] at t2
  generalize strOfNums d = s1 at *
  generalize strOfNums sq = s2 at *
  have sn : (s1.toList != s2.toList) = true := by rw [bne, se]; rfl
  obtain ⟨⟨k0, k1, k2, k3, k4, k5, k6, k7⟩, -⟩ := cells8 (KF.out _ HX10.out)
  obtain ⟨⟨l0, l1, l2, l3, l4, l5, l6, l7⟩, -⟩ := cells8 (LF.out _ HX10.out)
  obtain ⟨⟨m0, m1, m2, m3, m4, m5, m6, m7⟩, f0, f1, f2, f3, f4, f5, f6, f7⟩ := cells8 HW10.out
  go_upto_region 19 with (fail)
  have hx11 := below_set8 HX10.out (Nat.le_refl g8) (.int .i64 p0) (.int .u64 p1) (.int .u64 p2) (.int .u64 p3) (.int .u64 p4) (.int .u64 p5) (.int .u64 p6) (.int .u64 p7)
  have hw11 := HW10.out.set8 (.int .i64 p0) (.int .u64 p1) (.int .u64 p2) (.int .u64 p3) (.int .u64 p4) (.int .u64 p5) (.int .u64 p6) (.int .u64 p7)
  have HD11 := Lib.hid (HD10.out.far8 HDB.out (.int .i64 p0) (.int .u64 p1) (.int .u64 p2) (.int .u64 p3) (.int .u64 p4) (.int .u64 p5) (.int .u64 p6) (.int .u64 p7))
  generalize (((((((w10.setCell ⟨g8, 0, none⟩ (.int .i64 p0)).setCell ⟨g8, 1, none⟩ (.int .u64 p1)).setCell ⟨g8, 2, none⟩ (.int .u64 p2)).setCell ⟨g8, 3, none⟩ (.int .u64 p3)).setCell ⟨g8, 4, none⟩ (.int .u64 p4)).setCell ⟨g8, 5, none⟩ (.int .u64 p5)).setCell ⟨g8, 6, none⟩ (.int .u64 p6)).setCell ⟨g8, 7, none⟩ (.int .u64 p7) = w11 at *
  have HX11 := Lib.hid hx11
  have HW11 := Lib.hid hw11
  clear hx11 hw11
  clear k0 k1 k2 k3 k4 k5 k6 k7 l0 l1 l2 l3 l4 l5 l6 l7 m0 m1 m2 m3 m4 m5 m6 m7 f0 f1 f2 f3 f4 f5 f6 f7
  have N11 := Lib.hid (NC.out _ (BF.out _ HX11.out) sa da sc dc (SF.out _ HX11.out) hsc hsm HD11.out hdc hdm)
  obtain ⟨⟨k0, k1, k2, k3, k4, k5, k6, k7⟩, -⟩ := cells8 (KF.out _ HX11.out)
  go_upto_region 20 with (go_at_call 12; (with_reducible refine (N11.out).mono ?_); rintro e w12 ⟨rfl, hb⟩; have HX12 := Lib.hid (SX.out _ _ HX11.out hb); have HW12 := Lib.hid (HW11.out.below hb); clear hb)
  have hx13 := AX.out _ HX12.out (.cells #[.int .i64 p0, .int .u64 p1, .int .u64 p2, .int .u64 p3, .int .u64 p4, .int .u64 p5, .int .u64 p6, .int .u64 p7] 25)
  have hw13 := HW12.out.alloc (.cells #[.int .i64 p0, .int .u64 p1, .int .u64 p2, .int .u64 p3, .int .u64 p4, .int .u64 p5, .int .u64 p6, .int .u64 p7] 25)
  have hy13 : Blk (w12.alloc (.cells #[.int .i64 p0, .int .u64 p1, .int .u64 p2, .int .u64 p3, .int .u64 p4, .int .u64 p5, .int .u64 p6, .int .u64 p7] 25)) w12.heap.size 25 #[.int .i64 p0, .int .u64 p1, .int .u64 p2, .int .u64 p3, .int .u64 p4, .int .u64 p5, .int .u64 p6, .int .u64 p7] := Blk.new _ _ _
  generalize w12.alloc (.cells #[.int .i64 p0, .int .u64 p1, .int .u64 p2, .int .u64 p3, .int .u64 p4, .int .u64 p5, .int .u64 p6, .int .u64 p7] 25) = w13 at *
  generalize w12.heap.size = g13 at *
  clear k0 k1 k2 k3 k4 k5 k6 k7
  obtain ⟨⟨k0, k1, k2, k3, k4, k5, k6, k7⟩, -⟩ := cells8 hw13
  obtain ⟨⟨l0, l1, l2, l3, l4, l5, l6, l7⟩, -⟩ := cells8 hy13
  have HX13 := Lib.hid hx13
  clear hx13 hw13 hy13
  go_wp2_with (go_at_call 8; (with_reducible refine (AW.out _ (BF.out _ HX13.out)).mono ?_); rintro e w14 ⟨rfl, hb⟩; have HB14 := Lib.hid (below_step (BF.out _ HX13.out) hb); clear hb)
  go_ret
  exact ⟨rfl, HB14.out⟩
set_option maxHeartbeats 8000000 in
theorem rots_bdn (p : Gp) (more : Int) (q t : Nat) (w : World) (v : Int) (d : List Int) (hp : WfG p) (hm : MayG p) (hmo : 0 ≤ more ∧ more ≤ 255) (hq : q ≤ 65535) (ht : t ≤ 4294967295) (hT : Tab w)
    (hv : v = min (p.ver + more) 4611686018427387904) (he : ¬ v = p.ver) (hd : d = turnS (sealS (pageS 1 (loadG (p.at v)))) q t) (hdd : ¬ d = sealS (pageS 1 (loadG (p.at v)))) :
    Calls Tryd.prog 5 #[genV p, .int .u8 more, .bool true, .int .u16 q, .int .u32 t] w fun e w' => e = .returned (.bool true) ∧ Below w.heap.size w w' := by
  obtain ⟨hmv, hwv⟩ := at_may hm hp hmo.1 hv
  obtain ⟨u1, u2⟩ := (show NumOk p.ver from hm.2.1)
  have hb1 := below_alloc (Below.refl w.heap.size w) (.cells (genC p) 25)
  have hk1 : Blk (w.alloc (.cells (genC p) 25)) w.heap.size 25 (genC p) := Blk.new _ _ _
  have MC := Lib.hid (fun w => rgmay_calls p w hp)
  have PC := fun w => rgput_calls p w hp
  have QC := fun w => rgput_calls (p.at v) w hwv
  have AW := Lib.hid (fun w' (hb : Below w.heap.size w w') => awake_calls w' (hT.below hb))
  have KC := Lib.hid (fun (w : World) (a : Option Addr) (cap : Nat) (xs : List Int) (h : Row .u8 w a xs) => run_str (P := Tryd.prog) 26 5 9 Tryd.underlying26 Tryd.underlying5 Tryd.underlying9 a cap xs h)
  unfold PutG at PC QC
  rw [show putG p = (sealS (pageS 1 (loadG p)), 0) by unfold putG; rw [if_pos hm]] at PC
  rw [show putG (p.at v) = (sealS (pageS 1 (loadG (p.at v))), 0) by unfold putG; rw [if_pos hmv]] at QC
  rw [decide_eq_true hm] at MC
  have hdl : d.length = 64 := by rw [hd, turnS_len (seal_wf _), seal_len]
  have hdw : ∀ y ∈ d, 0 ≤ y ∧ y ≤ 255 := by rw [hd]; exact turnS_wf (seal_wf _) q t
  have TC := fun (W : World) a c (h : Row .u8 W a (sealS (pageS 1 (loadG (p.at v))))) => rturn_calls a c _ q t W h (by rw [seal_len]; decide) ⟨by omega, by omega⟩ (by omega)
  rw [← hd, seal_len] at TC
  have hg : getG d p.no = (noGp, 40) := by
    rcases getG_turn hmv q t with h | ⟨h, h2⟩
    · exact absurd (hd.trans h) hdd
    · rw [hd]; exact h2 _
  have hgo : getG (sealS (pageS 1 (loadG p))) p.no = (p, 0) := by rw [getG_put hm p.no]; exact if_pos rfl
  have hn : newerG (sealS (pageS 1 (loadG p))) (d) p.no = (p, 0, true) := by
    rw [newer_of hgo hg]
    exact if_pos (by dsimp only [Gp.at, noGp]; omega)
  have NC := fun (W : World) (hb : Below w.heap.size w W) a b ca cb (ha : Row .u8 W a (sealS (pageS 1 (loadG p)))) (hc : 64 ≤ ca) (hm : ca ≤ 9223372036854775807) (hb' : Row .u8 W b (d)) (hc' : 64 ≤ cb) (hm' : cb ≤ 9223372036854775807) =>
    newer_calls a b 64 ca 64 cb _ _ p.no W (seal_wf p) hdw
      (fun W' h' => (show Calls Tryd.prog 9 #[.slice a 64 ca, .int .i64 p.no] W' _ by
        have := gget_calls a ca _ p.no W' (ha.below h') (by rw [seal_len]; decide) (by rw [seal_len]; exact hc) hm (hT.below (below_step hb h'))
        rw [seal_len] at this
        exact this))
      (fun W' h' => (show Calls Tryd.prog 9 #[.slice b 64 cb, .int .i64 p.no] W' _ by
        have := gget_calls b cb _ p.no W' (hb'.below h') (by rw [hdl]; decide) (by rw [hdl]; exact hc') hm' (hT.below (below_step hb h'))
        rw [hdl] at this
        exact this))
  rw [hn] at NC
  have LP := Lib.hid (seal_len p)
  have LQ := Lib.hid (seal_len (p.at v))
  have LD := Lib.hid hdl
  have se := str_eqb hdw (seal_wf (p.at v))
  rw [decide_eq_false hdd] at se
  have EQ := fun w => eq6 p.g0 p.g1 p.g2 p.g3 p.g4 p.g5 w
  have hev : (v == p.ver) = false := by simpa using he
  have wm : IntKind.u64.wrap more = more := u64_of _ (by omega) (by omega)
  have wv : IntKind.u64.wrap (p.ver + more) = p.ver + more := u64_of _ (by omega) (by omega)
  have HB1 := Lib.hid hb1
  have HK1 := Lib.hid hk1
  have PC := Lib.hid PC
  have QC := Lib.hid QC
  have TC := Lib.hid TC
  have NC := Lib.hid NC
  have wq : IntKind.i64.wrap (q : Int) = q := by have := wrap64_id (x := (q : Int)) ⟨by omega, by omega⟩; unfold wrap64 at this; rw [IntKind.wrap_i64]; exact this
  clear hT hb1 hk1 hd hdd hdl hdw hn hg hgo hp hmv hwv he
  unfold genV genC Gp.at at *
  obtain ⟨p0, p1, p2, p3, p4, p5, p6, p7⟩ := p
  dsimp only at *
  clear hm
  generalize sealS (pageS 1 (loadG ⟨p0, p1, p2, p3, p4, p5, p6, p7⟩)) = sp at *
  generalize sealS (pageS 1 (loadG ⟨p0, v, p2, p3, p4, p5, p6, p7⟩)) = sq at *
  go_enter Tryd.func5, Tryd.ntmps5
  go_upto_region 3 with (go_at_call 15; (with_reducible refine (MC.out _).mono ?_); rintro e w2 ⟨rfl, hb⟩; have HB2 := Lib.hid (below_step HB1.out hb); have HK2 := Lib.hid (HK1.out.below hb); obtain ⟨⟨k0, k1, k2, k3, k4, k5, k6, k7⟩, -⟩ := cells8 HK2.out; clear hb)
  go_upto_region 4 with (fail)
  have hb3 := below_alloc HB2.out (.cells #[.int .i64 p0, .int .u64 p1, .int .u64 p2, .int .u64 p3, .int .u64 p4, .int .u64 p5, .int .u64 p6, .int .u64 p7] 25)
  have hk3 := HK2.out.alloc (.cells #[.int .i64 p0, .int .u64 p1, .int .u64 p2, .int .u64 p3, .int .u64 p4, .int .u64 p5, .int .u64 p6, .int .u64 p7] 25)
  have hl3 : Blk (w2.alloc (.cells #[.int .i64 p0, .int .u64 p1, .int .u64 p2, .int .u64 p3, .int .u64 p4, .int .u64 p5, .int .u64 p6, .int .u64 p7] 25)) w2.heap.size 25 #[.int .i64 p0, .int .u64 p1, .int .u64 p2, .int .u64 p3, .int .u64 p4, .int .u64 p5, .int .u64 p6, .int .u64 p7] := Blk.new _ _ _
  have HNE := Lib.hid (show w.heap.size ≠ w2.heap.size by have := HK2.out.lt; omega)
  have HGE := Lib.hid (show w.heap.size ≤ w2.heap.size from HB2.out.size)
  generalize w2.alloc (.cells #[.int .i64 p0, .int .u64 p1, .int .u64 p2, .int .u64 p3, .int .u64 p4, .int .u64 p5, .int .u64 p6, .int .u64 p7] 25) = w3 at *
  generalize w2.heap.size = g3 at *
  clear k0 k1 k2 k3 k4 k5 k6 k7
  obtain ⟨⟨k0, k1, k2, k3, k4, k5, k6, k7⟩, -⟩ := cells8 hk3
  have c1 : w3.cell? ⟨g3, 1, none⟩ = some (.int .u64 p1) := hl3.cell 1
  have f1 : w3.frozen? ⟨g3, 1, none⟩ = false := hl3.frozen 1
  have HB3 := Lib.hid hb3
  have HK3 := Lib.hid hk3
  have HL3 := Lib.hid hl3
  clear hb3 hk3 hl3
  go_upto_region 5 with (fail)
  rw [show (if 4611686018427387904 < p1 + more then 4611686018427387904 else p1 + more) = v by rw [hv]; split <;> omega]
  clear hv
  have hb5 := HB3.out.setCell (p := ⟨g3, 1, none⟩) HGE.out (.int .u64 v)
  have hk5 := HK3.out.far (p := ⟨g3, 1, none⟩) HNE.out (.int .u64 v)
  have hl5 : Blk (w3.setCell ⟨g3, 1, none⟩ (.int .u64 v)) g3 25 #[.int .i64 p0, .int .u64 v, .int .u64 p2, .int .u64 p3, .int .u64 p4, .int .u64 p5, .int .u64 p6, .int .u64 p7] := HL3.out.set_ 1 (.int .u64 v)
  generalize w3.setCell ⟨g3, 1, none⟩ (.int .u64 v) = w5 at *
  clear k0 k1 k2 k3 k4 k5 k6 k7 c1 f1
  obtain ⟨⟨k0, k1, k2, k3, k4, k5, k6, k7⟩, -⟩ := cells8 hk5
  have HB5 := Lib.hid hb5
  have HK5 := Lib.hid hk5
  have HL5 := Lib.hid hl5
  clear hb5 hk5 hl5
  go_upto_region 6 with (go_at_call 7; (with_reducible refine (PC.out w5).mono ?_); rintro e w6 ⟨x, rfl, ho, hb⟩; obtain ⟨sa, sc, rfl, hsc, hsm, h, -, -⟩ := ho.form; have HB6 := Lib.hid (below_step HB5.out hb); have HK6 := Lib.hid (HK5.out.below hb); have HL6 := Lib.hid (HL5.out.below hb); have HS6 := Lib.hid h; rw [LP.out] at hsc ⊢; clear ho hb h)
  clear k0 k1 k2 k3 k4 k5 k6 k7
  obtain ⟨⟨k0, k1, k2, k3, k4, k5, k6, k7⟩, -⟩ := cells8 HL6.out
  go_upto_region 7 with (go_at_call 7; (with_reducible refine (QC.out w6).mono ?_); rintro e w7 ⟨x, rfl, ho, hb⟩; obtain ⟨ra, rc, rfl, hrc, hrm, h, -, -⟩ := ho.form; have HB7 := Lib.hid (below_step HB6.out hb); have HK7 := Lib.hid (HK6.out.below hb); have HL7 := Lib.hid (HL6.out.below hb); have HS7 := Lib.hid (HS6.out.below hb); have HR7 := Lib.hid h; rw [LQ.out] at hrc ⊢; clear ho hb h)
  clear k0 k1 k2 k3 k4 k5 k6 k7
  obtain ⟨⟨k0, k1, k2, k3, k4, k5, k6, k7⟩, -⟩ := cells8 HL7.out
  go_upto_region 8 with (fail)
  have SX := Lib.hid (fun W W' (h : Below w7.heap.size w7 W) (h' : Below W.heap.size W W') => below_step h h')
  have AX := Lib.hid (fun W (h : Below w7.heap.size w7 W) o => below_alloc h o)
  have BF := Lib.hid (fun W (h : Below w7.heap.size w7 W) => below_step HB7.out h)
  have KF := Lib.hid (fun W (h : Below w7.heap.size w7 W) => HK7.out.below h)
  have LF := Lib.hid (fun W (h : Below w7.heap.size w7 W) => HL7.out.below h)
  have SF := Lib.hid (fun W (h : Below w7.heap.size w7 W) => HS7.out.below h)
  have RF := Lib.hid (fun W (h : Below w7.heap.size w7 W) => HR7.out.below h)
  have hx8 := below_alloc (Below.refl w7.heap.size w7) (.cells #[.int .i64 p0, .int .u64 v, .int .u64 p2, .int .u64 p3, .int .u64 p4, .int .u64 p5, .int .u64 p6, .int .u64 p7] 25)
  have hw8 : Blk (w7.alloc (.cells #[.int .i64 p0, .int .u64 v, .int .u64 p2, .int .u64 p3, .int .u64 p4, .int .u64 p5, .int .u64 p6, .int .u64 p7] 25)) w7.heap.size 25 #[.int .i64 p0, .int .u64 v, .int .u64 p2, .int .u64 p3, .int .u64 p4, .int .u64 p5, .int .u64 p6, .int .u64 p7] := Blk.new _ _ _
  generalize w7.alloc (.cells #[.int .i64 p0, .int .u64 v, .int .u64 p2, .int .u64 p3, .int .u64 p4, .int .u64 p5, .int .u64 p6, .int .u64 p7] 25) = w8 at *
  generalize w7.heap.size = g8 at *
  have HX8 := Lib.hid hx8
  have HW8 := Lib.hid hw8
  clear hx8 hw8 k0 k1 k2 k3 k4 k5 k6 k7
  obtain ⟨⟨k0, k1, k2, k3, k4, k5, k6, k7⟩, -⟩ := cells8 (KF.out _ HX8.out)
  obtain ⟨⟨l0, l1, l2, l3, l4, l5, l6, l7⟩, -⟩ := cells8 (LF.out _ HX8.out)
  obtain ⟨⟨m0, m1, m2, m3, m4, m5, m6, m7⟩, f0, f1, f2, f3, f4, f5, f6, f7⟩ := cells8 HW8.out
  go_upto_region 10 with (fail)
  generalize hw9 : w8 = w9 at *
  clear hw9
  have HX9 := Lib.hid HX8.out
  have HW9 := Lib.hid HW8.out
  clear k0 k1 k2 k3 k4 k5 k6 k7 l0 l1 l2 l3 l4 l5 l6 l7 m0 m1 m2 m3 m4 m5 m6 m7 f0 f1 f2 f3 f4 f5 f6 f7
  have hlt9 := HW9.out.lt
  go_upto_region 12 with (go_at_call 16; (with_reducible refine (TC.out w9 ra rc (RF.out _ HX9.out)).mono ?_); rintro e w10 ⟨x, rfl, ho, hb⟩; obtain ⟨da, dc, rfl, hdc, hdm, hr, -, hbl⟩ := ho.form; have HX10 := Lib.hid (SX.out _ _ HX9.out hb); have HW10 := Lib.hid (HW9.out.below hb); have HD10 := Lib.hid hr; have HDB := Lib.hid (fun (ad : Addr) (e : da = some ad) => (Nat.ne_of_lt (Nat.lt_of_lt_of_le hlt9 (hbl ad e).2.1) : g8 ≠ ad.block)); rw [LD.out] at hdc ⊢; clear ho hb hr hbl)
  have t1 := KC.out w10 da dc d HD10.out
  have t2 := KC.out w10 ra rc _ (RF.out _ HX10.out)
  rw [LD.out] at t1
  rw [LQ.out] at t2
  generalize strOfNums d = s1 at *
  generalize strOfNums sq = s2 at *
  have sn : (s1.toList != s2.toList) = true := by rw [bne, se]; rfl
  obtain ⟨⟨k0, k1, k2, k3, k4, k5, k6, k7⟩, -⟩ := cells8 (KF.out _ HX10.out)
  obtain ⟨⟨l0, l1, l2, l3, l4, l5, l6, l7⟩, -⟩ := cells8 (LF.out _ HX10.out)
  obtain ⟨⟨m0, m1, m2, m3, m4, m5, m6, m7⟩, f0, f1, f2, f3, f4, f5, f6, f7⟩ := cells8 HW10.out
  go_upto_region 19 with (fail)
  have hx11 := below_set8 HX10.out (Nat.le_refl g8) (.int .i64 p0) (.int .u64 p1) (.int .u64 p2) (.int .u64 p3) (.int .u64 p4) (.int .u64 p5) (.int .u64 p6) (.int .u64 p7)
  have hw11 := HW10.out.set8 (.int .i64 p0) (.int .u64 p1) (.int .u64 p2) (.int .u64 p3) (.int .u64 p4) (.int .u64 p5) (.int .u64 p6) (.int .u64 p7)
  have HD11 := Lib.hid (HD10.out.far8 HDB.out (.int .i64 p0) (.int .u64 p1) (.int .u64 p2) (.int .u64 p3) (.int .u64 p4) (.int .u64 p5) (.int .u64 p6) (.int .u64 p7))
  generalize (((((((w10.setCell ⟨g8, 0, none⟩ (.int .i64 p0)).setCell ⟨g8, 1, none⟩ (.int .u64 p1)).setCell ⟨g8, 2, none⟩ (.int .u64 p2)).setCell ⟨g8, 3, none⟩ (.int .u64 p3)).setCell ⟨g8, 4, none⟩ (.int .u64 p4)).setCell ⟨g8, 5, none⟩ (.int .u64 p5)).setCell ⟨g8, 6, none⟩ (.int .u64 p6)).setCell ⟨g8, 7, none⟩ (.int .u64 p7) = w11 at *
  have HX11 := Lib.hid hx11
  have HW11 := Lib.hid hw11
  clear hx11 hw11
  clear k0 k1 k2 k3 k4 k5 k6 k7 l0 l1 l2 l3 l4 l5 l6 l7 m0 m1 m2 m3 m4 m5 m6 m7 f0 f1 f2 f3 f4 f5 f6 f7
  have N11 := Lib.hid (NC.out _ (BF.out _ HX11.out) sa da sc dc (SF.out _ HX11.out) hsc hsm HD11.out hdc hdm)
  obtain ⟨⟨k0, k1, k2, k3, k4, k5, k6, k7⟩, -⟩ := cells8 (KF.out _ HX11.out)
  go_upto_region 20 with (go_at_call 12; (with_reducible refine (N11.out).mono ?_); rintro e w12 ⟨rfl, hb⟩; have HX12 := Lib.hid (SX.out _ _ HX11.out hb); have HW12 := Lib.hid (HW11.out.below hb); clear hb)
  have hx13 := AX.out _ HX12.out (.cells #[.int .i64 p0, .int .u64 p1, .int .u64 p2, .int .u64 p3, .int .u64 p4, .int .u64 p5, .int .u64 p6, .int .u64 p7] 25)
  have hw13 := HW12.out.alloc (.cells #[.int .i64 p0, .int .u64 p1, .int .u64 p2, .int .u64 p3, .int .u64 p4, .int .u64 p5, .int .u64 p6, .int .u64 p7] 25)
  have hy13 : Blk (w12.alloc (.cells #[.int .i64 p0, .int .u64 p1, .int .u64 p2, .int .u64 p3, .int .u64 p4, .int .u64 p5, .int .u64 p6, .int .u64 p7] 25)) w12.heap.size 25 #[.int .i64 p0, .int .u64 p1, .int .u64 p2, .int .u64 p3, .int .u64 p4, .int .u64 p5, .int .u64 p6, .int .u64 p7] := Blk.new _ _ _
  generalize w12.alloc (.cells #[.int .i64 p0, .int .u64 p1, .int .u64 p2, .int .u64 p3, .int .u64 p4, .int .u64 p5, .int .u64 p6, .int .u64 p7] 25) = w13 at *
  generalize w12.heap.size = g13 at *
  clear k0 k1 k2 k3 k4 k5 k6 k7
  obtain ⟨⟨k0, k1, k2, k3, k4, k5, k6, k7⟩, -⟩ := cells8 hw13
  obtain ⟨⟨l0, l1, l2, l3, l4, l5, l6, l7⟩, -⟩ := cells8 hy13
  have HX13 := Lib.hid hx13
  clear hx13 hw13 hy13
  go_wp2_with (go_at_call 8; (with_reducible refine (AW.out _ (BF.out _ HX13.out)).mono ?_); rintro e w14 ⟨rfl, hb⟩; have HB14 := Lib.hid (below_step (BF.out _ HX13.out) hb); clear hb)
  go_ret
  exact ⟨rfl, HB14.out⟩
set_option maxHeartbeats 8000000 in
theorem rots_bse (p : Gp) (more : Int) (q t : Nat) (w : World) (v : Int) (d : List Int) (hp : WfG p) (hm : MayG p) (hmo : 0 ≤ more ∧ more ≤ 255) (hq : q ≤ 65535) (ht : t ≤ 4294967295) (hT : Tab w)
    (hv : v = min (p.ver + more) 4611686018427387904) (he : v = p.ver) (hd : d = turnS (sealS (pageS 1 (loadG (p.at v)))) q t) (hdd : d = sealS (pageS 1 (loadG (p.at v)))) :
    Calls Tryd.prog 5 #[genV p, .int .u8 more, .bool true, .int .u16 q, .int .u32 t] w fun e w' => e = .returned (.bool true) ∧ Below w.heap.size w w' := by
  obtain ⟨hmv, hwv⟩ := at_may hm hp hmo.1 hv
  obtain ⟨u1, u2⟩ := (show NumOk p.ver from hm.2.1)
  have hb1 := below_alloc (Below.refl w.heap.size w) (.cells (genC p) 25)
  have hk1 : Blk (w.alloc (.cells (genC p) 25)) w.heap.size 25 (genC p) := Blk.new _ _ _
  have MC := Lib.hid (fun w => rgmay_calls p w hp)
  have PC := fun w => rgput_calls p w hp
  have QC := fun w => rgput_calls (p.at v) w hwv
  have AW := Lib.hid (fun w' (hb : Below w.heap.size w w') => awake_calls w' (hT.below hb))
  have KC := Lib.hid (fun (w : World) (a : Option Addr) (cap : Nat) (xs : List Int) (h : Row .u8 w a xs) => run_str (P := Tryd.prog) 26 5 9 Tryd.underlying26 Tryd.underlying5 Tryd.underlying9 a cap xs h)
  unfold PutG at PC QC
  rw [show putG p = (sealS (pageS 1 (loadG p)), 0) by unfold putG; rw [if_pos hm]] at PC
  rw [show putG (p.at v) = (sealS (pageS 1 (loadG (p.at v))), 0) by unfold putG; rw [if_pos hmv]] at QC
  rw [decide_eq_true hm] at MC
  have hdl : d.length = 64 := by rw [hd, turnS_len (seal_wf _), seal_len]
  have hdw : ∀ y ∈ d, 0 ≤ y ∧ y ≤ 255 := by rw [hd]; exact turnS_wf (seal_wf _) q t
  have TC := fun (W : World) a c (h : Row .u8 W a (sealS (pageS 1 (loadG (p.at v))))) => rturn_calls a c _ q t W h (by rw [seal_len]; decide) ⟨by omega, by omega⟩ (by omega)
  rw [← hd, seal_len] at TC
  have hg : getG d p.no = (p.at v, 0) := by
    rw [hdd, getG_put hmv p.no]; exact if_pos rfl
  have hgo : getG (sealS (pageS 1 (loadG p))) p.no = (p, 0) := by rw [getG_put hm p.no]; exact if_pos rfl
  have hn : newerG (sealS (pageS 1 (loadG p))) (d) p.no = (p, 0, true) := by
    rw [newer_of hgo hg]
    exact if_pos (by dsimp only [Gp.at, noGp]; omega)
  have NC := fun (W : World) (hb : Below w.heap.size w W) a b ca cb (ha : Row .u8 W a (sealS (pageS 1 (loadG p)))) (hc : 64 ≤ ca) (hm : ca ≤ 9223372036854775807) (hb' : Row .u8 W b (d)) (hc' : 64 ≤ cb) (hm' : cb ≤ 9223372036854775807) =>
    newer_calls a b 64 ca 64 cb _ _ p.no W (seal_wf p) hdw
      (fun W' h' => (show Calls Tryd.prog 9 #[.slice a 64 ca, .int .i64 p.no] W' _ by
        have := gget_calls a ca _ p.no W' (ha.below h') (by rw [seal_len]; decide) (by rw [seal_len]; exact hc) hm (hT.below (below_step hb h'))
        rw [seal_len] at this
        exact this))
      (fun W' h' => (show Calls Tryd.prog 9 #[.slice b 64 cb, .int .i64 p.no] W' _ by
        have := gget_calls b cb _ p.no W' (hb'.below h') (by rw [hdl]; decide) (by rw [hdl]; exact hc') hm' (hT.below (below_step hb h'))
        rw [hdl] at this
        exact this))
  rw [hn] at NC
  have LP := Lib.hid (seal_len p)
  have LQ := Lib.hid (seal_len (p.at v))
  have LD := Lib.hid hdl
  have se := str_eqb hdw (seal_wf (p.at v))
  rw [decide_eq_true hdd] at se
  have EQ := fun w => eq6 p.g0 p.g1 p.g2 p.g3 p.g4 p.g5 w
  have hev : (v == p.ver) = true := by simpa using he
  have wm : IntKind.u64.wrap more = more := u64_of _ (by omega) (by omega)
  have wv : IntKind.u64.wrap (p.ver + more) = p.ver + more := u64_of _ (by omega) (by omega)
  have HB1 := Lib.hid hb1
  have HK1 := Lib.hid hk1
  have PC := Lib.hid PC
  have QC := Lib.hid QC
  have TC := Lib.hid TC
  have NC := Lib.hid NC
  have wq : IntKind.i64.wrap (q : Int) = q := by have := wrap64_id (x := (q : Int)) ⟨by omega, by omega⟩; unfold wrap64 at this; rw [IntKind.wrap_i64]; exact this
  clear hT hb1 hk1 hd hdd hdl hdw hn hg hgo hp hmv hwv he
  unfold genV genC Gp.at at *
  obtain ⟨p0, p1, p2, p3, p4, p5, p6, p7⟩ := p
  dsimp only at *
  clear hm
  generalize sealS (pageS 1 (loadG ⟨p0, p1, p2, p3, p4, p5, p6, p7⟩)) = sp at *
  generalize sealS (pageS 1 (loadG ⟨p0, v, p2, p3, p4, p5, p6, p7⟩)) = sq at *
  go_enter Tryd.func5, Tryd.ntmps5
  go_upto_region 3 with (go_at_call 15; (with_reducible refine (MC.out _).mono ?_); rintro e w2 ⟨rfl, hb⟩; have HB2 := Lib.hid (below_step HB1.out hb); have HK2 := Lib.hid (HK1.out.below hb); obtain ⟨⟨k0, k1, k2, k3, k4, k5, k6, k7⟩, -⟩ := cells8 HK2.out; clear hb)
  go_upto_region 4 with (fail)
  have hb3 := below_alloc HB2.out (.cells #[.int .i64 p0, .int .u64 p1, .int .u64 p2, .int .u64 p3, .int .u64 p4, .int .u64 p5, .int .u64 p6, .int .u64 p7] 25)
  have hk3 := HK2.out.alloc (.cells #[.int .i64 p0, .int .u64 p1, .int .u64 p2, .int .u64 p3, .int .u64 p4, .int .u64 p5, .int .u64 p6, .int .u64 p7] 25)
  have hl3 : Blk (w2.alloc (.cells #[.int .i64 p0, .int .u64 p1, .int .u64 p2, .int .u64 p3, .int .u64 p4, .int .u64 p5, .int .u64 p6, .int .u64 p7] 25)) w2.heap.size 25 #[.int .i64 p0, .int .u64 p1, .int .u64 p2, .int .u64 p3, .int .u64 p4, .int .u64 p5, .int .u64 p6, .int .u64 p7] := Blk.new _ _ _
  have HNE := Lib.hid (show w.heap.size ≠ w2.heap.size by have := HK2.out.lt; omega)
  have HGE := Lib.hid (show w.heap.size ≤ w2.heap.size from HB2.out.size)
  generalize w2.alloc (.cells #[.int .i64 p0, .int .u64 p1, .int .u64 p2, .int .u64 p3, .int .u64 p4, .int .u64 p5, .int .u64 p6, .int .u64 p7] 25) = w3 at *
  generalize w2.heap.size = g3 at *
  clear k0 k1 k2 k3 k4 k5 k6 k7
  obtain ⟨⟨k0, k1, k2, k3, k4, k5, k6, k7⟩, -⟩ := cells8 hk3
  have c1 : w3.cell? ⟨g3, 1, none⟩ = some (.int .u64 p1) := hl3.cell 1
  have f1 : w3.frozen? ⟨g3, 1, none⟩ = false := hl3.frozen 1
  have HB3 := Lib.hid hb3
  have HK3 := Lib.hid hk3
  have HL3 := Lib.hid hl3
  clear hb3 hk3 hl3
  go_upto_region 5 with (fail)
  rw [show (if 4611686018427387904 < p1 + more then 4611686018427387904 else p1 + more) = v by rw [hv]; split <;> omega]
  clear hv
  have hb5 := HB3.out.setCell (p := ⟨g3, 1, none⟩) HGE.out (.int .u64 v)
  have hk5 := HK3.out.far (p := ⟨g3, 1, none⟩) HNE.out (.int .u64 v)
  have hl5 : Blk (w3.setCell ⟨g3, 1, none⟩ (.int .u64 v)) g3 25 #[.int .i64 p0, .int .u64 v, .int .u64 p2, .int .u64 p3, .int .u64 p4, .int .u64 p5, .int .u64 p6, .int .u64 p7] := HL3.out.set_ 1 (.int .u64 v)
  generalize w3.setCell ⟨g3, 1, none⟩ (.int .u64 v) = w5 at *
  clear k0 k1 k2 k3 k4 k5 k6 k7 c1 f1
  obtain ⟨⟨k0, k1, k2, k3, k4, k5, k6, k7⟩, -⟩ := cells8 hk5
  have HB5 := Lib.hid hb5
  have HK5 := Lib.hid hk5
  have HL5 := Lib.hid hl5
  clear hb5 hk5 hl5
  go_upto_region 6 with (go_at_call 7; (with_reducible refine (PC.out w5).mono ?_); rintro e w6 ⟨x, rfl, ho, hb⟩; obtain ⟨sa, sc, rfl, hsc, hsm, h, -, -⟩ := ho.form; have HB6 := Lib.hid (below_step HB5.out hb); have HK6 := Lib.hid (HK5.out.below hb); have HL6 := Lib.hid (HL5.out.below hb); have HS6 := Lib.hid h; rw [LP.out] at hsc ⊢; clear ho hb h)
  clear k0 k1 k2 k3 k4 k5 k6 k7
  obtain ⟨⟨k0, k1, k2, k3, k4, k5, k6, k7⟩, -⟩ := cells8 HL6.out
  go_upto_region 7 with (go_at_call 7; (with_reducible refine (QC.out w6).mono ?_); rintro e w7 ⟨x, rfl, ho, hb⟩; obtain ⟨ra, rc, rfl, hrc, hrm, h, -, -⟩ := ho.form; have HB7 := Lib.hid (below_step HB6.out hb); have HK7 := Lib.hid (HK6.out.below hb); have HL7 := Lib.hid (HL6.out.below hb); have HS7 := Lib.hid (HS6.out.below hb); have HR7 := Lib.hid h; rw [LQ.out] at hrc ⊢; clear ho hb h)
  clear k0 k1 k2 k3 k4 k5 k6 k7
  obtain ⟨⟨k0, k1, k2, k3, k4, k5, k6, k7⟩, -⟩ := cells8 HL7.out
  go_upto_region 8 with (fail)
  have SX := Lib.hid (fun W W' (h : Below w7.heap.size w7 W) (h' : Below W.heap.size W W') => below_step h h')
  have AX := Lib.hid (fun W (h : Below w7.heap.size w7 W) o => below_alloc h o)
  have BF := Lib.hid (fun W (h : Below w7.heap.size w7 W) => below_step HB7.out h)
  have KF := Lib.hid (fun W (h : Below w7.heap.size w7 W) => HK7.out.below h)
  have LF := Lib.hid (fun W (h : Below w7.heap.size w7 W) => HL7.out.below h)
  have SF := Lib.hid (fun W (h : Below w7.heap.size w7 W) => HS7.out.below h)
  have RF := Lib.hid (fun W (h : Below w7.heap.size w7 W) => HR7.out.below h)
  have hx8 := below_alloc (Below.refl w7.heap.size w7) (.cells #[.int .i64 p0, .int .u64 v, .int .u64 p2, .int .u64 p3, .int .u64 p4, .int .u64 p5, .int .u64 p6, .int .u64 p7] 25)
  have hw8 : Blk (w7.alloc (.cells #[.int .i64 p0, .int .u64 v, .int .u64 p2, .int .u64 p3, .int .u64 p4, .int .u64 p5, .int .u64 p6, .int .u64 p7] 25)) w7.heap.size 25 #[.int .i64 p0, .int .u64 v, .int .u64 p2, .int .u64 p3, .int .u64 p4, .int .u64 p5, .int .u64 p6, .int .u64 p7] := Blk.new _ _ _
  generalize w7.alloc (.cells #[.int .i64 p0, .int .u64 v, .int .u64 p2, .int .u64 p3, .int .u64 p4, .int .u64 p5, .int .u64 p6, .int .u64 p7] 25) = w8 at *
  generalize w7.heap.size = g8 at *
  have HX8 := Lib.hid hx8
  have HW8 := Lib.hid hw8
  clear hx8 hw8 k0 k1 k2 k3 k4 k5 k6 k7
  obtain ⟨⟨k0, k1, k2, k3, k4, k5, k6, k7⟩, -⟩ := cells8 (KF.out _ HX8.out)
  obtain ⟨⟨l0, l1, l2, l3, l4, l5, l6, l7⟩, -⟩ := cells8 (LF.out _ HX8.out)
  obtain ⟨⟨m0, m1, m2, m3, m4, m5, m6, m7⟩, f0, f1, f2, f3, f4, f5, f6, f7⟩ := cells8 HW8.out
  go_upto_region 10 with (fail)
  have hx9 := below_set8 HX8.out (Nat.le_refl g8) (.int .i64 p0) (.int .u64 p1) (.int .u64 p2) (.int .u64 p3) (.int .u64 p4) (.int .u64 p5) (.int .u64 p6) (.int .u64 p7)
  have hw9 := HW8.out.set8 (.int .i64 p0) (.int .u64 p1) (.int .u64 p2) (.int .u64 p3) (.int .u64 p4) (.int .u64 p5) (.int .u64 p6) (.int .u64 p7)
  generalize (((((((w8.setCell ⟨g8, 0, none⟩ (.int .i64 p0)).setCell ⟨g8, 1, none⟩ (.int .u64 p1)).setCell ⟨g8, 2, none⟩ (.int .u64 p2)).setCell ⟨g8, 3, none⟩ (.int .u64 p3)).setCell ⟨g8, 4, none⟩ (.int .u64 p4)).setCell ⟨g8, 5, none⟩ (.int .u64 p5)).setCell ⟨g8, 6, none⟩ (.int .u64 p6)).setCell ⟨g8, 7, none⟩ (.int .u64 p7) = w9 at *
  have HX9 := Lib.hid hx9
  have HW9 := Lib.hid hw9
  clear hx9 hw9
  clear k0 k1 k2 k3 k4 k5 k6 k7 l0 l1 l2 l3 l4 l5 l6 l7 m0 m1 m2 m3 m4 m5 m6 m7 f0 f1 f2 f3 f4 f5 f6 f7
  have hlt9 := HW9.out.lt
  go_upto_region 12 with (go_at_call 16; (with_reducible refine (TC.out w9 ra rc (RF.out _ HX9.out)).mono ?_); rintro e w10 ⟨x, rfl, ho, hb⟩; obtain ⟨da, dc, rfl, hdc, hdm, hr, -, hbl⟩ := ho.form; have HX10 := Lib.hid (SX.out _ _ HX9.out hb); have HW10 := Lib.hid (HW9.out.below hb); have HD10 := Lib.hid hr; have HDB := Lib.hid (fun (ad : Addr) (e : da = some ad) => (Nat.ne_of_lt (Nat.lt_of_lt_of_le hlt9 (hbl ad e).2.1) : g8 ≠ ad.block)); rw [LD.out] at hdc ⊢; clear ho hb hr hbl)
  have t1 := KC.out w10 da dc d HD10.out
  have t2 := KC.out w10 ra rc _ (RF.out _ HX10.out)
  rw [LD.out] at t1
  rw [LQ.out] at t2
  generalize strOfNums d = s1 at *
  generalize strOfNums sq = s2 at *
  have sn : (s1.toList != s2.toList) = false := by rw [bne, se]; rfl
  obtain ⟨⟨k0, k1, k2, k3, k4, k5, k6, k7⟩, -⟩ := cells8 (KF.out _ HX10.out)
  obtain ⟨⟨l0, l1, l2, l3, l4, l5, l6, l7⟩, -⟩ := cells8 (LF.out _ HX10.out)
  obtain ⟨⟨m0, m1, m2, m3, m4, m5, m6, m7⟩, f0, f1, f2, f3, f4, f5, f6, f7⟩ := cells8 HW10.out
  go_upto_region 19 with (fail)
  generalize hw11 : w10 = w11 at *
  clear hw11
  have HX11 := Lib.hid HX10.out
  have HW11 := Lib.hid HW10.out
  have HD11 := Lib.hid HD10.out
  clear k0 k1 k2 k3 k4 k5 k6 k7 l0 l1 l2 l3 l4 l5 l6 l7 m0 m1 m2 m3 m4 m5 m6 m7 f0 f1 f2 f3 f4 f5 f6 f7
  have N11 := Lib.hid (NC.out _ (BF.out _ HX11.out) sa da sc dc (SF.out _ HX11.out) hsc hsm HD11.out hdc hdm)
  obtain ⟨⟨k0, k1, k2, k3, k4, k5, k6, k7⟩, -⟩ := cells8 (KF.out _ HX11.out)
  go_upto_region 20 with (go_at_call 12; (with_reducible refine (N11.out).mono ?_); rintro e w12 ⟨rfl, hb⟩; have HX12 := Lib.hid (SX.out _ _ HX11.out hb); have HW12 := Lib.hid (HW11.out.below hb); clear hb)
  have hx13 := AX.out _ HX12.out (.cells #[.int .i64 p0, .int .u64 p1, .int .u64 p2, .int .u64 p3, .int .u64 p4, .int .u64 p5, .int .u64 p6, .int .u64 p7] 25)
  have hw13 := HW12.out.alloc (.cells #[.int .i64 p0, .int .u64 p1, .int .u64 p2, .int .u64 p3, .int .u64 p4, .int .u64 p5, .int .u64 p6, .int .u64 p7] 25)
  have hy13 : Blk (w12.alloc (.cells #[.int .i64 p0, .int .u64 p1, .int .u64 p2, .int .u64 p3, .int .u64 p4, .int .u64 p5, .int .u64 p6, .int .u64 p7] 25)) w12.heap.size 25 #[.int .i64 p0, .int .u64 p1, .int .u64 p2, .int .u64 p3, .int .u64 p4, .int .u64 p5, .int .u64 p6, .int .u64 p7] := Blk.new _ _ _
  generalize w12.alloc (.cells #[.int .i64 p0, .int .u64 p1, .int .u64 p2, .int .u64 p3, .int .u64 p4, .int .u64 p5, .int .u64 p6, .int .u64 p7] 25) = w13 at *
  generalize w12.heap.size = g13 at *
  clear k0 k1 k2 k3 k4 k5 k6 k7
  obtain ⟨⟨k0, k1, k2, k3, k4, k5, k6, k7⟩, -⟩ := cells8 hw13
  obtain ⟨⟨l0, l1, l2, l3, l4, l5, l6, l7⟩, -⟩ := cells8 hy13
  have HX13 := Lib.hid hx13
  clear hx13 hw13 hy13
  go_wp2_with (go_at_call 8; (with_reducible refine (AW.out _ (BF.out _ HX13.out)).mono ?_); rintro e w14 ⟨rfl, hb⟩; have HB14 := Lib.hid (below_step (BF.out _ HX13.out) hb); clear hb)
  go_ret
  exact ⟨rfl, HB14.out⟩
set_option maxHeartbeats 8000000 in
theorem rots_bsn (p : Gp) (more : Int) (q t : Nat) (w : World) (v : Int) (d : List Int) (hp : WfG p) (hm : MayG p) (hmo : 0 ≤ more ∧ more ≤ 255) (hq : q ≤ 65535) (ht : t ≤ 4294967295) (hT : Tab w)
    (hv : v = min (p.ver + more) 4611686018427387904) (he : ¬ v = p.ver) (hd : d = turnS (sealS (pageS 1 (loadG (p.at v)))) q t) (hdd : d = sealS (pageS 1 (loadG (p.at v)))) :
    Calls Tryd.prog 5 #[genV p, .int .u8 more, .bool true, .int .u16 q, .int .u32 t] w fun e w' => e = .returned (.bool true) ∧ Below w.heap.size w w' := by
  obtain ⟨hmv, hwv⟩ := at_may hm hp hmo.1 hv
  obtain ⟨u1, u2⟩ := (show NumOk p.ver from hm.2.1)
  have hb1 := below_alloc (Below.refl w.heap.size w) (.cells (genC p) 25)
  have hk1 : Blk (w.alloc (.cells (genC p) 25)) w.heap.size 25 (genC p) := Blk.new _ _ _
  have MC := Lib.hid (fun w => rgmay_calls p w hp)
  have PC := fun w => rgput_calls p w hp
  have QC := fun w => rgput_calls (p.at v) w hwv
  have AW := Lib.hid (fun w' (hb : Below w.heap.size w w') => awake_calls w' (hT.below hb))
  have KC := Lib.hid (fun (w : World) (a : Option Addr) (cap : Nat) (xs : List Int) (h : Row .u8 w a xs) => run_str (P := Tryd.prog) 26 5 9 Tryd.underlying26 Tryd.underlying5 Tryd.underlying9 a cap xs h)
  unfold PutG at PC QC
  rw [show putG p = (sealS (pageS 1 (loadG p)), 0) by unfold putG; rw [if_pos hm]] at PC
  rw [show putG (p.at v) = (sealS (pageS 1 (loadG (p.at v))), 0) by unfold putG; rw [if_pos hmv]] at QC
  rw [decide_eq_true hm] at MC
  have hdl : d.length = 64 := by rw [hd, turnS_len (seal_wf _), seal_len]
  have hdw : ∀ y ∈ d, 0 ≤ y ∧ y ≤ 255 := by rw [hd]; exact turnS_wf (seal_wf _) q t
  have TC := fun (W : World) a c (h : Row .u8 W a (sealS (pageS 1 (loadG (p.at v))))) => rturn_calls a c _ q t W h (by rw [seal_len]; decide) ⟨by omega, by omega⟩ (by omega)
  rw [← hd, seal_len] at TC
  have hg : getG d p.no = (p.at v, 0) := by
    rw [hdd, getG_put hmv p.no]; exact if_pos rfl
  have hgo : getG (sealS (pageS 1 (loadG p))) p.no = (p, 0) := by rw [getG_put hm p.no]; exact if_pos rfl
  have hn : newerG (sealS (pageS 1 (loadG p))) (d) p.no = (p.at v, 1, true) := by
    rw [newer_of hgo hg]
    rw [if_neg (by show ¬ _; dsimp only [Gp.at, noGp]; omega)]; rfl
  have NC := fun (W : World) (hb : Below w.heap.size w W) a b ca cb (ha : Row .u8 W a (sealS (pageS 1 (loadG p)))) (hc : 64 ≤ ca) (hm : ca ≤ 9223372036854775807) (hb' : Row .u8 W b (d)) (hc' : 64 ≤ cb) (hm' : cb ≤ 9223372036854775807) =>
    newer_calls a b 64 ca 64 cb _ _ p.no W (seal_wf p) hdw
      (fun W' h' => (show Calls Tryd.prog 9 #[.slice a 64 ca, .int .i64 p.no] W' _ by
        have := gget_calls a ca _ p.no W' (ha.below h') (by rw [seal_len]; decide) (by rw [seal_len]; exact hc) hm (hT.below (below_step hb h'))
        rw [seal_len] at this
        exact this))
      (fun W' h' => (show Calls Tryd.prog 9 #[.slice b 64 cb, .int .i64 p.no] W' _ by
        have := gget_calls b cb _ p.no W' (hb'.below h') (by rw [hdl]; decide) (by rw [hdl]; exact hc') hm' (hT.below (below_step hb h'))
        rw [hdl] at this
        exact this))
  rw [hn] at NC
  have LP := Lib.hid (seal_len p)
  have LQ := Lib.hid (seal_len (p.at v))
  have LD := Lib.hid hdl
  have se := str_eqb hdw (seal_wf (p.at v))
  rw [decide_eq_true hdd] at se
  have EQ := fun w => eq6 p.g0 p.g1 p.g2 p.g3 p.g4 p.g5 w
  have hev : (v == p.ver) = false := by simpa using he
  have wm : IntKind.u64.wrap more = more := u64_of _ (by omega) (by omega)
  have wv : IntKind.u64.wrap (p.ver + more) = p.ver + more := u64_of _ (by omega) (by omega)
  have HB1 := Lib.hid hb1
  have HK1 := Lib.hid hk1
  have PC := Lib.hid PC
  have QC := Lib.hid QC
  have TC := Lib.hid TC
  have NC := Lib.hid NC
  have wq : IntKind.i64.wrap (q : Int) = q := by have := wrap64_id (x := (q : Int)) ⟨by omega, by omega⟩; unfold wrap64 at this; rw [IntKind.wrap_i64]; exact this
  clear hT hb1 hk1 hd hdd hdl hdw hn hg hgo hp hmv hwv he
  unfold genV genC Gp.at at *
  obtain ⟨p0, p1, p2, p3, p4, p5, p6, p7⟩ := p
  dsimp only at *
  clear hm
  generalize sealS (pageS 1 (loadG ⟨p0, p1, p2, p3, p4, p5, p6, p7⟩)) = sp at *
  generalize sealS (pageS 1 (loadG ⟨p0, v, p2, p3, p4, p5, p6, p7⟩)) = sq at *
  go_enter Tryd.func5, Tryd.ntmps5
  go_upto_region 3 with (go_at_call 15; (with_reducible refine (MC.out _).mono ?_); rintro e w2 ⟨rfl, hb⟩; have HB2 := Lib.hid (below_step HB1.out hb); have HK2 := Lib.hid (HK1.out.below hb); obtain ⟨⟨k0, k1, k2, k3, k4, k5, k6, k7⟩, -⟩ := cells8 HK2.out; clear hb)
  go_upto_region 4 with (fail)
  have hb3 := below_alloc HB2.out (.cells #[.int .i64 p0, .int .u64 p1, .int .u64 p2, .int .u64 p3, .int .u64 p4, .int .u64 p5, .int .u64 p6, .int .u64 p7] 25)
  have hk3 := HK2.out.alloc (.cells #[.int .i64 p0, .int .u64 p1, .int .u64 p2, .int .u64 p3, .int .u64 p4, .int .u64 p5, .int .u64 p6, .int .u64 p7] 25)
  have hl3 : Blk (w2.alloc (.cells #[.int .i64 p0, .int .u64 p1, .int .u64 p2, .int .u64 p3, .int .u64 p4, .int .u64 p5, .int .u64 p6, .int .u64 p7] 25)) w2.heap.size 25 #[.int .i64 p0, .int .u64 p1, .int .u64 p2, .int .u64 p3, .int .u64 p4, .int .u64 p5, .int .u64 p6, .int .u64 p7] := Blk.new _ _ _
  have HNE := Lib.hid (show w.heap.size ≠ w2.heap.size by have := HK2.out.lt; omega)
  have HGE := Lib.hid (show w.heap.size ≤ w2.heap.size from HB2.out.size)
  generalize w2.alloc (.cells #[.int .i64 p0, .int .u64 p1, .int .u64 p2, .int .u64 p3, .int .u64 p4, .int .u64 p5, .int .u64 p6, .int .u64 p7] 25) = w3 at *
  generalize w2.heap.size = g3 at *
  clear k0 k1 k2 k3 k4 k5 k6 k7
  obtain ⟨⟨k0, k1, k2, k3, k4, k5, k6, k7⟩, -⟩ := cells8 hk3
  have c1 : w3.cell? ⟨g3, 1, none⟩ = some (.int .u64 p1) := hl3.cell 1
  have f1 : w3.frozen? ⟨g3, 1, none⟩ = false := hl3.frozen 1
  have HB3 := Lib.hid hb3
  have HK3 := Lib.hid hk3
  have HL3 := Lib.hid hl3
  clear hb3 hk3 hl3
  go_upto_region 5 with (fail)
  rw [show (if 4611686018427387904 < p1 + more then 4611686018427387904 else p1 + more) = v by rw [hv]; split <;> omega]
  clear hv
  have hb5 := HB3.out.setCell (p := ⟨g3, 1, none⟩) HGE.out (.int .u64 v)
  have hk5 := HK3.out.far (p := ⟨g3, 1, none⟩) HNE.out (.int .u64 v)
  have hl5 : Blk (w3.setCell ⟨g3, 1, none⟩ (.int .u64 v)) g3 25 #[.int .i64 p0, .int .u64 v, .int .u64 p2, .int .u64 p3, .int .u64 p4, .int .u64 p5, .int .u64 p6, .int .u64 p7] := HL3.out.set_ 1 (.int .u64 v)
  generalize w3.setCell ⟨g3, 1, none⟩ (.int .u64 v) = w5 at *
  clear k0 k1 k2 k3 k4 k5 k6 k7 c1 f1
  obtain ⟨⟨k0, k1, k2, k3, k4, k5, k6, k7⟩, -⟩ := cells8 hk5
  have HB5 := Lib.hid hb5
  have HK5 := Lib.hid hk5
  have HL5 := Lib.hid hl5
  clear hb5 hk5 hl5
  go_upto_region 6 with (go_at_call 7; (with_reducible refine (PC.out w5).mono ?_); rintro e w6 ⟨x, rfl, ho, hb⟩; obtain ⟨sa, sc, rfl, hsc, hsm, h, -, -⟩ := ho.form; have HB6 := Lib.hid (below_step HB5.out hb); have HK6 := Lib.hid (HK5.out.below hb); have HL6 := Lib.hid (HL5.out.below hb); have HS6 := Lib.hid h; rw [LP.out] at hsc ⊢; clear ho hb h)
  clear k0 k1 k2 k3 k4 k5 k6 k7
  obtain ⟨⟨k0, k1, k2, k3, k4, k5, k6, k7⟩, -⟩ := cells8 HL6.out
  go_upto_region 7 with (go_at_call 7; (with_reducible refine (QC.out w6).mono ?_); rintro e w7 ⟨x, rfl, ho, hb⟩; obtain ⟨ra, rc, rfl, hrc, hrm, h, -, -⟩ := ho.form; have HB7 := Lib.hid (below_step HB6.out hb); have HK7 := Lib.hid (HK6.out.below hb); have HL7 := Lib.hid (HL6.out.below hb); have HS7 := Lib.hid (HS6.out.below hb); have HR7 := Lib.hid h; rw [LQ.out] at hrc ⊢; clear ho hb h)
  clear k0 k1 k2 k3 k4 k5 k6 k7
  obtain ⟨⟨k0, k1, k2, k3, k4, k5, k6, k7⟩, -⟩ := cells8 HL7.out
  go_upto_region 8 with (fail)
  have SX := Lib.hid (fun W W' (h : Below w7.heap.size w7 W) (h' : Below W.heap.size W W') => below_step h h')
  have AX := Lib.hid (fun W (h : Below w7.heap.size w7 W) o => below_alloc h o)
  have BF := Lib.hid (fun W (h : Below w7.heap.size w7 W) => below_step HB7.out h)
  have KF := Lib.hid (fun W (h : Below w7.heap.size w7 W) => HK7.out.below h)
  have LF := Lib.hid (fun W (h : Below w7.heap.size w7 W) => HL7.out.below h)
  have SF := Lib.hid (fun W (h : Below w7.heap.size w7 W) => HS7.out.below h)
  have RF := Lib.hid (fun W (h : Below w7.heap.size w7 W) => HR7.out.below h)
  have hx8 := below_alloc (Below.refl w7.heap.size w7) (.cells #[.int .i64 p0, .int .u64 v, .int .u64 p2, .int .u64 p3, .int .u64 p4, .int .u64 p5, .int .u64 p6, .int .u64 p7] 25)
  have hw8 : Blk (w7.alloc (.cells #[.int .i64 p0, .int .u64 v, .int .u64 p2, .int .u64 p3, .int .u64 p4, .int .u64 p5, .int .u64 p6, .int .u64 p7] 25)) w7.heap.size 25 #[.int .i64 p0, .int .u64 v, .int .u64 p2, .int .u64 p3, .int .u64 p4, .int .u64 p5, .int .u64 p6, .int .u64 p7] := Blk.new _ _ _
  generalize w7.alloc (.cells #[.int .i64 p0, .int .u64 v, .int .u64 p2, .int .u64 p3, .int .u64 p4, .int .u64 p5, .int .u64 p6, .int .u64 p7] 25) = w8 at *
  generalize w7.heap.size = g8 at *
  have HX8 := Lib.hid hx8
  have HW8 := Lib.hid hw8
  clear hx8 hw8 k0 k1 k2 k3 k4 k5 k6 k7
  obtain ⟨⟨k0, k1, k2, k3, k4, k5, k6, k7⟩, -⟩ := cells8 (KF.out _ HX8.out)
  obtain ⟨⟨l0, l1, l2, l3, l4, l5, l6, l7⟩, -⟩ := cells8 (LF.out _ HX8.out)
  obtain ⟨⟨m0, m1, m2, m3, m4, m5, m6, m7⟩, f0, f1, f2, f3, f4, f5, f6, f7⟩ := cells8 HW8.out
  go_upto_region 10 with (fail)
  generalize hw9 : w8 = w9 at *
  clear hw9
  have HX9 := Lib.hid HX8.out
  have HW9 := Lib.hid HW8.out
  clear k0 k1 k2 k3 k4 k5 k6 k7 l0 l1 l2 l3 l4 l5 l6 l7 m0 m1 m2 m3 m4 m5 m6 m7 f0 f1 f2 f3 f4 f5 f6 f7
  have hlt9 := HW9.out.lt
  go_upto_region 12 with (go_at_call 16; (with_reducible refine (TC.out w9 ra rc (RF.out _ HX9.out)).mono ?_); rintro e w10 ⟨x, rfl, ho, hb⟩; obtain ⟨da, dc, rfl, hdc, hdm, hr, -, hbl⟩ := ho.form; have HX10 := Lib.hid (SX.out _ _ HX9.out hb); have HW10 := Lib.hid (HW9.out.below hb); have HD10 := Lib.hid hr; have HDB := Lib.hid (fun (ad : Addr) (e : da = some ad) => (Nat.ne_of_lt (Nat.lt_of_lt_of_le hlt9 (hbl ad e).2.1) : g8 ≠ ad.block)); rw [LD.out] at hdc ⊢; clear ho hb hr hbl)
  have t1 := KC.out w10 da dc d HD10.out
  have t2 := KC.out w10 ra rc _ (RF.out _ HX10.out)
  rw [LD.out] at t1
  rw [LQ.out] at t2
  generalize strOfNums d = s1 at *
  generalize strOfNums sq = s2 at *
  have sn : (s1.toList != s2.toList) = false := by rw [bne, se]; rfl
  obtain ⟨⟨k0, k1, k2, k3, k4, k5, k6, k7⟩, -⟩ := cells8 (KF.out _ HX10.out)
  obtain ⟨⟨l0, l1, l2, l3, l4, l5, l6, l7⟩, -⟩ := cells8 (LF.out _ HX10.out)
  obtain ⟨⟨m0, m1, m2, m3, m4, m5, m6, m7⟩, f0, f1, f2, f3, f4, f5, f6, f7⟩ := cells8 HW10.out
  go_upto_region 19 with (fail)
  generalize hw11 : w10 = w11 at *
  clear hw11
  have HX11 := Lib.hid HX10.out
  have HW11 := Lib.hid HW10.out
  have HD11 := Lib.hid HD10.out
  clear k0 k1 k2 k3 k4 k5 k6 k7 l0 l1 l2 l3 l4 l5 l6 l7 m0 m1 m2 m3 m4 m5 m6 m7 f0 f1 f2 f3 f4 f5 f6 f7
  have N11 := Lib.hid (NC.out _ (BF.out _ HX11.out) sa da sc dc (SF.out _ HX11.out) hsc hsm HD11.out hdc hdm)
  obtain ⟨⟨k0, k1, k2, k3, k4, k5, k6, k7⟩, -⟩ := cells8 (KF.out _ HX11.out)
  go_upto_region 20 with (go_at_call 12; (with_reducible refine (N11.out).mono ?_); rintro e w12 ⟨rfl, hb⟩; have HX12 := Lib.hid (SX.out _ _ HX11.out hb); have HW12 := Lib.hid (HW11.out.below hb); clear hb)
  have hx13 := AX.out _ HX12.out (.cells #[.int .i64 p0, .int .u64 v, .int .u64 p2, .int .u64 p3, .int .u64 p4, .int .u64 p5, .int .u64 p6, .int .u64 p7] 25)
  have hw13 := HW12.out.alloc (.cells #[.int .i64 p0, .int .u64 v, .int .u64 p2, .int .u64 p3, .int .u64 p4, .int .u64 p5, .int .u64 p6, .int .u64 p7] 25)
  have hy13 : Blk (w12.alloc (.cells #[.int .i64 p0, .int .u64 v, .int .u64 p2, .int .u64 p3, .int .u64 p4, .int .u64 p5, .int .u64 p6, .int .u64 p7] 25)) w12.heap.size 25 #[.int .i64 p0, .int .u64 v, .int .u64 p2, .int .u64 p3, .int .u64 p4, .int .u64 p5, .int .u64 p6, .int .u64 p7] := Blk.new _ _ _
  generalize w12.alloc (.cells #[.int .i64 p0, .int .u64 v, .int .u64 p2, .int .u64 p3, .int .u64 p4, .int .u64 p5, .int .u64 p6, .int .u64 p7] 25) = w13 at *
  generalize w12.heap.size = g13 at *
  clear k0 k1 k2 k3 k4 k5 k6 k7
  obtain ⟨⟨k0, k1, k2, k3, k4, k5, k6, k7⟩, -⟩ := cells8 hw13
  obtain ⟨⟨l0, l1, l2, l3, l4, l5, l6, l7⟩, -⟩ := cells8 hy13
  have HX13 := Lib.hid hx13
  clear hx13 hw13 hy13
  go_wp2_with (go_at_call 8; (with_reducible refine (AW.out _ (BF.out _ HX13.out)).mono ?_); rintro e w14 ⟨rfl, hb⟩; have HB14 := Lib.hid (below_step (BF.out _ HX13.out) hb); clear hb)
  go_ret
  exact ⟨rfl, HB14.out⟩
set_option maxHeartbeats 8000000 in
theorem rots_ade (p : Gp) (more : Int) (q t : Nat) (w : World) (v : Int) (d : List Int) (hp : WfG p) (hm : MayG p) (hmo : 0 ≤ more ∧ more ≤ 255) (hq : q ≤ 65535) (ht : t ≤ 4294967295) (hT : Tab w)
    (hv : v = min (p.ver + more) 4611686018427387904) (he : v = p.ver) (hd : d = turnS (sealS (pageS 1 (loadG p))) q t) (hdd : ¬ d = sealS (pageS 1 (loadG p))) :
    Calls Tryd.prog 5 #[genV p, .int .u8 more, .bool false, .int .u16 q, .int .u32 t] w fun e w' => e = .returned (.bool true) ∧ Below w.heap.size w w' := by
  obtain ⟨hmv, hwv⟩ := at_may hm hp hmo.1 hv
  obtain ⟨u1, u2⟩ := (show NumOk p.ver from hm.2.1)
  have hb1 := below_alloc (Below.refl w.heap.size w) (.cells (genC p) 25)
  have hk1 : Blk (w.alloc (.cells (genC p) 25)) w.heap.size 25 (genC p) := Blk.new _ _ _
  have MC := Lib.hid (fun w => rgmay_calls p w hp)
  have PC := fun w => rgput_calls p w hp
  have QC := fun w => rgput_calls (p.at v) w hwv
  have AW := Lib.hid (fun w' (hb : Below w.heap.size w w') => awake_calls w' (hT.below hb))
  have KC := Lib.hid (fun (w : World) (a : Option Addr) (cap : Nat) (xs : List Int) (h : Row .u8 w a xs) => run_str (P := Tryd.prog) 26 5 9 Tryd.underlying26 Tryd.underlying5 Tryd.underlying9 a cap xs h)
  unfold PutG at PC QC
  rw [show putG p = (sealS (pageS 1 (loadG p)), 0) by unfold putG; rw [if_pos hm]] at PC
  rw [show putG (p.at v) = (sealS (pageS 1 (loadG (p.at v))), 0) by unfold putG; rw [if_pos hmv]] at QC
  rw [decide_eq_true hm] at MC
  have hdl : d.length = 64 := by rw [hd, turnS_len (seal_wf _), seal_len]
  have hdw : ∀ y ∈ d, 0 ≤ y ∧ y ≤ 255 := by rw [hd]; exact turnS_wf (seal_wf _) q t
  have TC := fun (W : World) a c (h : Row .u8 W a (sealS (pageS 1 (loadG p)))) => rturn_calls a c _ q t W h (by rw [seal_len]; decide) ⟨by omega, by omega⟩ (by omega)
  rw [← hd, seal_len] at TC
  have hg : getG d p.no = (noGp, 40) := by
    rcases getG_turn hm q t with h | ⟨h, h2⟩
    · exact absurd (hd.trans h) hdd
    · rw [hd]; exact h2 _
  have hgo : getG (sealS (pageS 1 (loadG (p.at v)))) p.no = (p.at v, 0) := by rw [getG_put hmv p.no]; exact if_pos rfl
  have hn : newerG (d) (sealS (pageS 1 (loadG (p.at v)))) p.no = (p.at v, 1, true) := by
    rw [newer_of hg hgo]
    rw [if_neg (by show ¬ _; dsimp only [Gp.at, noGp]; omega)]; rfl
  have NC := fun (W : World) (hb : Below w.heap.size w W) a b ca cb (ha : Row .u8 W a (d)) (hc : 64 ≤ ca) (hm : ca ≤ 9223372036854775807) (hb' : Row .u8 W b (sealS (pageS 1 (loadG (p.at v))))) (hc' : 64 ≤ cb) (hm' : cb ≤ 9223372036854775807) =>
    newer_calls a b 64 ca 64 cb _ _ p.no W hdw (seal_wf _)
      (fun W' h' => (show Calls Tryd.prog 9 #[.slice a 64 ca, .int .i64 p.no] W' _ by
        have := gget_calls a ca _ p.no W' (ha.below h') (by rw [hdl]; decide) (by rw [hdl]; exact hc) hm (hT.below (below_step hb h'))
        rw [hdl] at this
        exact this))
      (fun W' h' => (show Calls Tryd.prog 9 #[.slice b 64 cb, .int .i64 p.no] W' _ by
        have := gget_calls b cb _ p.no W' (hb'.below h') (by rw [seal_len]; decide) (by rw [seal_len]; exact hc') hm' (hT.below (below_step hb h'))
        rw [seal_len] at this
        exact this))
  rw [hn] at NC
  have LP := Lib.hid (seal_len p)
  have LQ := Lib.hid (seal_len (p.at v))
  have LD := Lib.hid hdl
  have se := str_eqb hdw (seal_wf p)
  rw [decide_eq_false hdd] at se
  have EQ := fun w => eq6 p.g0 p.g1 p.g2 p.g3 p.g4 p.g5 w
  have hev : (v == p.ver) = true := by simpa using he
  have wm : IntKind.u64.wrap more = more := u64_of _ (by omega) (by omega)
  have wv : IntKind.u64.wrap (p.ver + more) = p.ver + more := u64_of _ (by omega) (by omega)
  have HB1 := Lib.hid hb1
  have HK1 := Lib.hid hk1
  have PC := Lib.hid PC
  have QC := Lib.hid QC
  have TC := Lib.hid TC
  have NC := Lib.hid NC
  have wq : IntKind.i64.wrap (q : Int) = q := by have := wrap64_id (x := (q : Int)) ⟨by omega, by omega⟩; unfold wrap64 at this; rw [IntKind.wrap_i64]; exact this
  clear hT hb1 hk1 hd hdd hdl hdw hn hg hgo hp hmv hwv he
  unfold genV genC Gp.at at *
  obtain ⟨p0, p1, p2, p3, p4, p5, p6, p7⟩ := p
  dsimp only at *
  clear hm
  generalize sealS (pageS 1 (loadG ⟨p0, p1, p2, p3, p4, p5, p6, p7⟩)) = sp at *
  generalize sealS (pageS 1 (loadG ⟨p0, v, p2, p3, p4, p5, p6, p7⟩)) = sq at *
  go_enter Tryd.func5, Tryd.ntmps5
  go_upto_region 3 with (go_at_call 15; (with_reducible refine (MC.out _).mono ?_); rintro e w2 ⟨rfl, hb⟩; have HB2 := Lib.hid (below_step HB1.out hb); have HK2 := Lib.hid (HK1.out.below hb); obtain ⟨⟨k0, k1, k2, k3, k4, k5, k6, k7⟩, -⟩ := cells8 HK2.out; clear hb)
  go_upto_region 4 with (fail)
  have hb3 := below_alloc HB2.out (.cells #[.int .i64 p0, .int .u64 p1, .int .u64 p2, .int .u64 p3, .int .u64 p4, .int .u64 p5, .int .u64 p6, .int .u64 p7] 25)
  have hk3 := HK2.out.alloc (.cells #[.int .i64 p0, .int .u64 p1, .int .u64 p2, .int .u64 p3, .int .u64 p4, .int .u64 p5, .int .u64 p6, .int .u64 p7] 25)
  have hl3 : Blk (w2.alloc (.cells #[.int .i64 p0, .int .u64 p1, .int .u64 p2, .int .u64 p3, .int .u64 p4, .int .u64 p5, .int .u64 p6, .int .u64 p7] 25)) w2.heap.size 25 #[.int .i64 p0, .int .u64 p1, .int .u64 p2, .int .u64 p3, .int .u64 p4, .int .u64 p5, .int .u64 p6, .int .u64 p7] := Blk.new _ _ _
  have HNE := Lib.hid (show w.heap.size ≠ w2.heap.size by have := HK2.out.lt; omega)
  have HGE := Lib.hid (show w.heap.size ≤ w2.heap.size from HB2.out.size)
  generalize w2.alloc (.cells #[.int .i64 p0, .int .u64 p1, .int .u64 p2, .int .u64 p3, .int .u64 p4, .int .u64 p5, .int .u64 p6, .int .u64 p7] 25) = w3 at *
  generalize w2.heap.size = g3 at *
  clear k0 k1 k2 k3 k4 k5 k6 k7
  obtain ⟨⟨k0, k1, k2, k3, k4, k5, k6, k7⟩, -⟩ := cells8 hk3
  have c1 : w3.cell? ⟨g3, 1, none⟩ = some (.int .u64 p1) := hl3.cell 1
  have f1 : w3.frozen? ⟨g3, 1, none⟩ = false := hl3.frozen 1
  have HB3 := Lib.hid hb3
  have HK3 := Lib.hid hk3
  have HL3 := Lib.hid hl3
  clear hb3 hk3 hl3
  go_upto_region 5 with (fail)
  rw [show (if 4611686018427387904 < p1 + more then 4611686018427387904 else p1 + more) = v by rw [hv]; split <;> omega]
  clear hv
  have hb5 := HB3.out.setCell (p := ⟨g3, 1, none⟩) HGE.out (.int .u64 v)
  have hk5 := HK3.out.far (p := ⟨g3, 1, none⟩) HNE.out (.int .u64 v)
  have hl5 : Blk (w3.setCell ⟨g3, 1, none⟩ (.int .u64 v)) g3 25 #[.int .i64 p0, .int .u64 v, .int .u64 p2, .int .u64 p3, .int .u64 p4, .int .u64 p5, .int .u64 p6, .int .u64 p7] := HL3.out.set_ 1 (.int .u64 v)
  generalize w3.setCell ⟨g3, 1, none⟩ (.int .u64 v) = w5 at *
  clear k0 k1 k2 k3 k4 k5 k6 k7 c1 f1
  obtain ⟨⟨k0, k1, k2, k3, k4, k5, k6, k7⟩, -⟩ := cells8 hk5
  have HB5 := Lib.hid hb5
  have HK5 := Lib.hid hk5
  have HL5 := Lib.hid hl5
  clear hb5 hk5 hl5
  go_upto_region 6 with (go_at_call 7; (with_reducible refine (PC.out w5).mono ?_); rintro e w6 ⟨x, rfl, ho, hb⟩; obtain ⟨sa, sc, rfl, hsc, hsm, h, -, -⟩ := ho.form; have HB6 := Lib.hid (below_step HB5.out hb); have HK6 := Lib.hid (HK5.out.below hb); have HL6 := Lib.hid (HL5.out.below hb); have HS6 := Lib.hid h; rw [LP.out] at hsc ⊢; clear ho hb h)
  clear k0 k1 k2 k3 k4 k5 k6 k7
  obtain ⟨⟨k0, k1, k2, k3, k4, k5, k6, k7⟩, -⟩ := cells8 HL6.out
  go_upto_region 7 with (go_at_call 7; (with_reducible refine (QC.out w6).mono ?_); rintro e w7 ⟨x, rfl, ho, hb⟩; obtain ⟨ra, rc, rfl, hrc, hrm, h, -, -⟩ := ho.form; have HB7 := Lib.hid (below_step HB6.out hb); have HK7 := Lib.hid (HK6.out.below hb); have HL7 := Lib.hid (HL6.out.below hb); have HS7 := Lib.hid (HS6.out.below hb); have HR7 := Lib.hid h; rw [LQ.out] at hrc ⊢; clear ho hb h)
  clear k0 k1 k2 k3 k4 k5 k6 k7
  obtain ⟨⟨k0, k1, k2, k3, k4, k5, k6, k7⟩, -⟩ := cells8 HL7.out
  go_upto_region 8 with (fail)
  have SX := Lib.hid (fun W W' (h : Below w7.heap.size w7 W) (h' : Below W.heap.size W W') => below_step h h')
  have AX := Lib.hid (fun W (h : Below w7.heap.size w7 W) o => below_alloc h o)
  have BF := Lib.hid (fun W (h : Below w7.heap.size w7 W) => below_step HB7.out h)
  have KF := Lib.hid (fun W (h : Below w7.heap.size w7 W) => HK7.out.below h)
  have LF := Lib.hid (fun W (h : Below w7.heap.size w7 W) => HL7.out.below h)
  have SF := Lib.hid (fun W (h : Below w7.heap.size w7 W) => HS7.out.below h)
  have RF := Lib.hid (fun W (h : Below w7.heap.size w7 W) => HR7.out.below h)
  have hx8 := below_alloc (Below.refl w7.heap.size w7) (.cells #[.int .i64 p0, .int .u64 v, .int .u64 p2, .int .u64 p3, .int .u64 p4, .int .u64 p5, .int .u64 p6, .int .u64 p7] 25)
  have hw8 : Blk (w7.alloc (.cells #[.int .i64 p0, .int .u64 v, .int .u64 p2, .int .u64 p3, .int .u64 p4, .int .u64 p5, .int .u64 p6, .int .u64 p7] 25)) w7.heap.size 25 #[.int .i64 p0, .int .u64 v, .int .u64 p2, .int .u64 p3, .int .u64 p4, .int .u64 p5, .int .u64 p6, .int .u64 p7] := Blk.new _ _ _
  generalize w7.alloc (.cells #[.int .i64 p0, .int .u64 v, .int .u64 p2, .int .u64 p3, .int .u64 p4, .int .u64 p5, .int .u64 p6, .int .u64 p7] 25) = w8 at *
  generalize w7.heap.size = g8 at *
  have HX8 := Lib.hid hx8
  have HW8 := Lib.hid hw8
  clear hx8 hw8 k0 k1 k2 k3 k4 k5 k6 k7
  obtain ⟨⟨k0, k1, k2, k3, k4, k5, k6, k7⟩, -⟩ := cells8 (KF.out _ HX8.out)
  obtain ⟨⟨l0, l1, l2, l3, l4, l5, l6, l7⟩, -⟩ := cells8 (LF.out _ HX8.out)
  obtain ⟨⟨m0, m1, m2, m3, m4, m5, m6, m7⟩, f0, f1, f2, f3, f4, f5, f6, f7⟩ := cells8 HW8.out
  go_upto_region 10 with (fail)
  have hx9 := below_set8 HX8.out (Nat.le_refl g8) (.int .i64 p0) (.int .u64 p1) (.int .u64 p2) (.int .u64 p3) (.int .u64 p4) (.int .u64 p5) (.int .u64 p6) (.int .u64 p7)
  have hw9 := HW8.out.set8 (.int .i64 p0) (.int .u64 p1) (.int .u64 p2) (.int .u64 p3) (.int .u64 p4) (.int .u64 p5) (.int .u64 p6) (.int .u64 p7)
  generalize (((((((w8.setCell ⟨g8, 0, none⟩ (.int .i64 p0)).setCell ⟨g8, 1, none⟩ (.int .u64 p1)).setCell ⟨g8, 2, none⟩ (.int .u64 p2)).setCell ⟨g8, 3, none⟩ (.int .u64 p3)).setCell ⟨g8, 4, none⟩ (.int .u64 p4)).setCell ⟨g8, 5, none⟩ (.int .u64 p5)).setCell ⟨g8, 6, none⟩ (.int .u64 p6)).setCell ⟨g8, 7, none⟩ (.int .u64 p7) = w9 at *
  have HX9 := Lib.hid hx9
  have HW9 := Lib.hid hw9
  clear hx9 hw9
  clear k0 k1 k2 k3 k4 k5 k6 k7 l0 l1 l2 l3 l4 l5 l6 l7 m0 m1 m2 m3 m4 m5 m6 m7 f0 f1 f2 f3 f4 f5 f6 f7
  have hlt9 := HW9.out.lt
  go_upto_region 16 with (go_at_call 16; (with_reducible refine (TC.out w9 sa sc (SF.out _ HX9.out)).mono ?_); rintro e w10 ⟨x, rfl, ho, hb⟩; obtain ⟨da, dc, rfl, hdc, hdm, hr, -, hbl⟩ := ho.form; have HX10 := Lib.hid (SX.out _ _ HX9.out hb); have HW10 := Lib.hid (HW9.out.below hb); have HD10 := Lib.hid hr; have HDB := Lib.hid (fun (ad : Addr) (e : da = some ad) => (Nat.ne_of_lt (Nat.lt_of_lt_of_le hlt9 (hbl ad e).2.1) : g8 ≠ ad.block)); rw [LD.out] at hdc ⊢; clear ho hb hr hbl)
  have t1 := KC.out w10 da dc d HD10.out
  have t2 := KC.out w10 sa sc _ (SF.out _ HX10.out)
  rw [LD.out] at t1
  rw [LP.out] at t2
  generalize strOfNums d = s1 at *
  generalize strOfNums sp = s2 at *
  have sn : (s1.toList != s2.toList) = true := by rw [bne, se]; rfl
  obtain ⟨⟨k0, k1, k2, k3, k4, k5, k6, k7⟩, -⟩ := cells8 (KF.out _ HX10.out)
  obtain ⟨⟨l0, l1, l2, l3, l4, l5, l6, l7⟩, -⟩ := cells8 (LF.out _ HX10.out)
  obtain ⟨⟨m0, m1, m2, m3, m4, m5, m6, m7⟩, f0, f1, f2, f3, f4, f5, f6, f7⟩ := cells8 HW10.out
  go_upto_region 19 with (fail)
  have hx11 := below_set8 HX10.out (Nat.le_refl g8) (.int .i64 p0) (.int .u64 v) (.int .u64 p2) (.int .u64 p3) (.int .u64 p4) (.int .u64 p5) (.int .u64 p6) (.int .u64 p7)
  have hw11 := HW10.out.set8 (.int .i64 p0) (.int .u64 v) (.int .u64 p2) (.int .u64 p3) (.int .u64 p4) (.int .u64 p5) (.int .u64 p6) (.int .u64 p7)
  have HD11 := Lib.hid (HD10.out.far8 HDB.out (.int .i64 p0) (.int .u64 v) (.int .u64 p2) (.int .u64 p3) (.int .u64 p4) (.int .u64 p5) (.int .u64 p6) (.int .u64 p7))
  generalize (((((((w10.setCell ⟨g8, 0, none⟩ (.int .i64 p0)).setCell ⟨g8, 1, none⟩ (.int .u64 v)).setCell ⟨g8, 2, none⟩ (.int .u64 p2)).setCell ⟨g8, 3, none⟩ (.int .u64 p3)).setCell ⟨g8, 4, none⟩ (.int .u64 p4)).setCell ⟨g8, 5, none⟩ (.int .u64 p5)).setCell ⟨g8, 6, none⟩ (.int .u64 p6)).setCell ⟨g8, 7, none⟩ (.int .u64 p7) = w11 at *
  have HX11 := Lib.hid hx11
  have HW11 := Lib.hid hw11
  clear hx11 hw11
  clear k0 k1 k2 k3 k4 k5 k6 k7 l0 l1 l2 l3 l4 l5 l6 l7 m0 m1 m2 m3 m4 m5 m6 m7 f0 f1 f2 f3 f4 f5 f6 f7
  have N11 := Lib.hid (NC.out _ (BF.out _ HX11.out) da ra dc rc HD11.out hdc hdm (RF.out _ HX11.out) hrc hrm)
  obtain ⟨⟨k0, k1, k2, k3, k4, k5, k6, k7⟩, -⟩ := cells8 (KF.out _ HX11.out)
  go_upto_region 20 with (go_at_call 12; (with_reducible refine (N11.out).mono ?_); rintro e w12 ⟨rfl, hb⟩; have HX12 := Lib.hid (SX.out _ _ HX11.out hb); have HW12 := Lib.hid (HW11.out.below hb); clear hb)
  have hx13 := AX.out _ HX12.out (.cells #[.int .i64 p0, .int .u64 v, .int .u64 p2, .int .u64 p3, .int .u64 p4, .int .u64 p5, .int .u64 p6, .int .u64 p7] 25)
  have hw13 := HW12.out.alloc (.cells #[.int .i64 p0, .int .u64 v, .int .u64 p2, .int .u64 p3, .int .u64 p4, .int .u64 p5, .int .u64 p6, .int .u64 p7] 25)
  have hy13 : Blk (w12.alloc (.cells #[.int .i64 p0, .int .u64 v, .int .u64 p2, .int .u64 p3, .int .u64 p4, .int .u64 p5, .int .u64 p6, .int .u64 p7] 25)) w12.heap.size 25 #[.int .i64 p0, .int .u64 v, .int .u64 p2, .int .u64 p3, .int .u64 p4, .int .u64 p5, .int .u64 p6, .int .u64 p7] := Blk.new _ _ _
  generalize w12.alloc (.cells #[.int .i64 p0, .int .u64 v, .int .u64 p2, .int .u64 p3, .int .u64 p4, .int .u64 p5, .int .u64 p6, .int .u64 p7] 25) = w13 at *
  generalize w12.heap.size = g13 at *
  clear k0 k1 k2 k3 k4 k5 k6 k7
  obtain ⟨⟨k0, k1, k2, k3, k4, k5, k6, k7⟩, -⟩ := cells8 hw13
  obtain ⟨⟨l0, l1, l2, l3, l4, l5, l6, l7⟩, -⟩ := cells8 hy13
  have HX13 := Lib.hid hx13
  clear hx13 hw13 hy13
  go_wp2_with (go_at_call 8; (with_reducible refine (AW.out _ (BF.out _ HX13.out)).mono ?_); rintro e w14 ⟨rfl, hb⟩; have HB14 := Lib.hid (below_step (BF.out _ HX13.out) hb); clear hb)
  go_ret
  exact ⟨rfl, HB14.out⟩
set_option maxHeartbeats 8000000 in
theorem rots_adn (p : Gp) (more : Int) (q t : Nat) (w : World) (v : Int) (d : List Int) (hp : WfG p) (hm : MayG p) (hmo : 0 ≤ more ∧ more ≤ 255) (hq : q ≤ 65535) (ht : t ≤ 4294967295) (hT : Tab w)
    (hv : v = min (p.ver + more) 4611686018427387904) (he : ¬ v = p.ver) (hd : d = turnS (sealS (pageS 1 (loadG p))) q t) (hdd : ¬ d = sealS (pageS 1 (loadG p))) :
    Calls Tryd.prog 5 #[genV p, .int .u8 more, .bool false, .int .u16 q, .int .u32 t] w fun e w' => e = .returned (.bool true) ∧ Below w.heap.size w w' := by
  obtain ⟨hmv, hwv⟩ := at_may hm hp hmo.1 hv
  obtain ⟨u1, u2⟩ := (show NumOk p.ver from hm.2.1)
  have hb1 := below_alloc (Below.refl w.heap.size w) (.cells (genC p) 25)
  have hk1 : Blk (w.alloc (.cells (genC p) 25)) w.heap.size 25 (genC p) := Blk.new _ _ _
  have MC := Lib.hid (fun w => rgmay_calls p w hp)
  have PC := fun w => rgput_calls p w hp
  have QC := fun w => rgput_calls (p.at v) w hwv
  have AW := Lib.hid (fun w' (hb : Below w.heap.size w w') => awake_calls w' (hT.below hb))
  have KC := Lib.hid (fun (w : World) (a : Option Addr) (cap : Nat) (xs : List Int) (h : Row .u8 w a xs) => run_str (P := Tryd.prog) 26 5 9 Tryd.underlying26 Tryd.underlying5 Tryd.underlying9 a cap xs h)
  unfold PutG at PC QC
  rw [show putG p = (sealS (pageS 1 (loadG p)), 0) by unfold putG; rw [if_pos hm]] at PC
  rw [show putG (p.at v) = (sealS (pageS 1 (loadG (p.at v))), 0) by unfold putG; rw [if_pos hmv]] at QC
  rw [decide_eq_true hm] at MC
  have hdl : d.length = 64 := by rw [hd, turnS_len (seal_wf _), seal_len]
  have hdw : ∀ y ∈ d, 0 ≤ y ∧ y ≤ 255 := by rw [hd]; exact turnS_wf (seal_wf _) q t
  have TC := fun (W : World) a c (h : Row .u8 W a (sealS (pageS 1 (loadG p)))) => rturn_calls a c _ q t W h (by rw [seal_len]; decide) ⟨by omega, by omega⟩ (by omega)
  rw [← hd, seal_len] at TC
  have hg : getG d p.no = (noGp, 40) := by
    rcases getG_turn hm q t with h | ⟨h, h2⟩
    · exact absurd (hd.trans h) hdd
    · rw [hd]; exact h2 _
  have hgo : getG (sealS (pageS 1 (loadG (p.at v)))) p.no = (p.at v, 0) := by rw [getG_put hmv p.no]; exact if_pos rfl
  have hn : newerG (d) (sealS (pageS 1 (loadG (p.at v)))) p.no = (p.at v, 1, true) := by
    rw [newer_of hg hgo]
    rw [if_neg (by show ¬ _; dsimp only [Gp.at, noGp]; omega)]; rfl
  have NC := fun (W : World) (hb : Below w.heap.size w W) a b ca cb (ha : Row .u8 W a (d)) (hc : 64 ≤ ca) (hm : ca ≤ 9223372036854775807) (hb' : Row .u8 W b (sealS (pageS 1 (loadG (p.at v))))) (hc' : 64 ≤ cb) (hm' : cb ≤ 9223372036854775807) =>
    newer_calls a b 64 ca 64 cb _ _ p.no W hdw (seal_wf _)
      (fun W' h' => (show Calls Tryd.prog 9 #[.slice a 64 ca, .int .i64 p.no] W' _ by
        have := gget_calls a ca _ p.no W' (ha.below h') (by rw [hdl]; decide) (by rw [hdl]; exact hc) hm (hT.below (below_step hb h'))
        rw [hdl] at this
        exact this))
      (fun W' h' => (show Calls Tryd.prog 9 #[.slice b 64 cb, .int .i64 p.no] W' _ by
        have := gget_calls b cb _ p.no W' (hb'.below h') (by rw [seal_len]; decide) (by rw [seal_len]; exact hc') hm' (hT.below (below_step hb h'))
        rw [seal_len] at this
        exact this))
  rw [hn] at NC
  have LP := Lib.hid (seal_len p)
  have LQ := Lib.hid (seal_len (p.at v))
  have LD := Lib.hid hdl
  have se := str_eqb hdw (seal_wf p)
  rw [decide_eq_false hdd] at se
  have EQ := fun w => eq6 p.g0 p.g1 p.g2 p.g3 p.g4 p.g5 w
  have hev : (v == p.ver) = false := by simpa using he
  have wm : IntKind.u64.wrap more = more := u64_of _ (by omega) (by omega)
  have wv : IntKind.u64.wrap (p.ver + more) = p.ver + more := u64_of _ (by omega) (by omega)
  have HB1 := Lib.hid hb1
  have HK1 := Lib.hid hk1
  have PC := Lib.hid PC
  have QC := Lib.hid QC
  have TC := Lib.hid TC
  have NC := Lib.hid NC
  have wq : IntKind.i64.wrap (q : Int) = q := by have := wrap64_id (x := (q : Int)) ⟨by omega, by omega⟩; unfold wrap64 at this; rw [IntKind.wrap_i64]; exact this
  clear hT hb1 hk1 hd hdd hdl hdw hn hg hgo hp hmv hwv he
  unfold genV genC Gp.at at *
  obtain ⟨p0, p1, p2, p3, p4, p5, p6, p7⟩ := p
  dsimp only at *
  clear hm
  generalize sealS (pageS 1 (loadG ⟨p0, p1, p2, p3, p4, p5, p6, p7⟩)) = sp at *
  generalize sealS (pageS 1 (loadG ⟨p0, v, p2, p3, p4, p5, p6, p7⟩)) = sq at *
  go_enter Tryd.func5, Tryd.ntmps5
  go_upto_region 3 with (go_at_call 15; (with_reducible refine (MC.out _).mono ?_); rintro e w2 ⟨rfl, hb⟩; have HB2 := Lib.hid (below_step HB1.out hb); have HK2 := Lib.hid (HK1.out.below hb); obtain ⟨⟨k0, k1, k2, k3, k4, k5, k6, k7⟩, -⟩ := cells8 HK2.out; clear hb)
  go_upto_region 4 with (fail)
  have hb3 := below_alloc HB2.out (.cells #[.int .i64 p0, .int .u64 p1, .int .u64 p2, .int .u64 p3, .int .u64 p4, .int .u64 p5, .int .u64 p6, .int .u64 p7] 25)
  have hk3 := HK2.out.alloc (.cells #[.int .i64 p0, .int .u64 p1, .int .u64 p2, .int .u64 p3, .int .u64 p4, .int .u64 p5, .int .u64 p6, .int .u64 p7] 25)
  have hl3 : Blk (w2.alloc (.cells #[.int .i64 p0, .int .u64 p1, .int .u64 p2, .int .u64 p3, .int .u64 p4, .int .u64 p5, .int .u64 p6, .int .u64 p7] 25)) w2.heap.size 25 #[.int .i64 p0, .int .u64 p1, .int .u64 p2, .int .u64 p3, .int .u64 p4, .int .u64 p5, .int .u64 p6, .int .u64 p7] := Blk.new _ _ _
  have HNE := Lib.hid (show w.heap.size ≠ w2.heap.size by have := HK2.out.lt; omega)
  have HGE := Lib.hid (show w.heap.size ≤ w2.heap.size from HB2.out.size)
  generalize w2.alloc (.cells #[.int .i64 p0, .int .u64 p1, .int .u64 p2, .int .u64 p3, .int .u64 p4, .int .u64 p5, .int .u64 p6, .int .u64 p7] 25) = w3 at *
  generalize w2.heap.size = g3 at *
  clear k0 k1 k2 k3 k4 k5 k6 k7
  obtain ⟨⟨k0, k1, k2, k3, k4, k5, k6, k7⟩, -⟩ := cells8 hk3
  have c1 : w3.cell? ⟨g3, 1, none⟩ = some (.int .u64 p1) := hl3.cell 1
  have f1 : w3.frozen? ⟨g3, 1, none⟩ = false := hl3.frozen 1
  have HB3 := Lib.hid hb3
  have HK3 := Lib.hid hk3
  have HL3 := Lib.hid hl3
  clear hb3 hk3 hl3
  go_upto_region 5 with (fail)
  rw [show (if 4611686018427387904 < p1 + more then 4611686018427387904 else p1 + more) = v by rw [hv]; split <;> omega]
  clear hv
  have hb5 := HB3.out.setCell (p := ⟨g3, 1, none⟩) HGE.out (.int .u64 v)
  have hk5 := HK3.out.far (p := ⟨g3, 1, none⟩) HNE.out (.int .u64 v)
  have hl5 : Blk (w3.setCell ⟨g3, 1, none⟩ (.int .u64 v)) g3 25 #[.int .i64 p0, .int .u64 v, .int .u64 p2, .int .u64 p3, .int .u64 p4, .int .u64 p5, .int .u64 p6, .int .u64 p7] := HL3.out.set_ 1 (.int .u64 v)
  generalize w3.setCell ⟨g3, 1, none⟩ (.int .u64 v) = w5 at *
  clear k0 k1 k2 k3 k4 k5 k6 k7 c1 f1
  obtain ⟨⟨k0, k1, k2, k3, k4, k5, k6, k7⟩, -⟩ := cells8 hk5
  have HB5 := Lib.hid hb5
  have HK5 := Lib.hid hk5
  have HL5 := Lib.hid hl5
  clear hb5 hk5 hl5
  go_upto_region 6 with (go_at_call 7; (with_reducible refine (PC.out w5).mono ?_); rintro e w6 ⟨x, rfl, ho, hb⟩; obtain ⟨sa, sc, rfl, hsc, hsm, h, -, -⟩ := ho.form; have HB6 := Lib.hid (below_step HB5.out hb); have HK6 := Lib.hid (HK5.out.below hb); have HL6 := Lib.hid (HL5.out.below hb); have HS6 := Lib.hid h; rw [LP.out] at hsc ⊢; clear ho hb h)
  clear k0 k1 k2 k3 k4 k5 k6 k7
  obtain ⟨⟨k0, k1, k2, k3, k4, k5, k6, k7⟩, -⟩ := cells8 HL6.out
  go_upto_region 7 with (go_at_call 7; (with_reducible refine (QC.out w6).mono ?_); rintro e w7 ⟨x, rfl, ho, hb⟩; obtain ⟨ra, rc, rfl, hrc, hrm, h, -, -⟩ := ho.form; have HB7 := Lib.hid (below_step HB6.out hb); have HK7 := Lib.hid (HK6.out.below hb); have HL7 := Lib.hid (HL6.out.below hb); have HS7 := Lib.hid (HS6.out.below hb); have HR7 := Lib.hid h; rw [LQ.out] at hrc ⊢; clear ho hb h)
  clear k0 k1 k2 k3 k4 k5 k6 k7
  obtain ⟨⟨k0, k1, k2, k3, k4, k5, k6, k7⟩, -⟩ := cells8 HL7.out
  go_upto_region 8 with (fail)
  have SX := Lib.hid (fun W W' (h : Below w7.heap.size w7 W) (h' : Below W.heap.size W W') => below_step h h')
  have AX := Lib.hid (fun W (h : Below w7.heap.size w7 W) o => below_alloc h o)
  have BF := Lib.hid (fun W (h : Below w7.heap.size w7 W) => below_step HB7.out h)
  have KF := Lib.hid (fun W (h : Below w7.heap.size w7 W) => HK7.out.below h)
  have LF := Lib.hid (fun W (h : Below w7.heap.size w7 W) => HL7.out.below h)
  have SF := Lib.hid (fun W (h : Below w7.heap.size w7 W) => HS7.out.below h)
  have RF := Lib.hid (fun W (h : Below w7.heap.size w7 W) => HR7.out.below h)
  have hx8 := below_alloc (Below.refl w7.heap.size w7) (.cells #[.int .i64 p0, .int .u64 v, .int .u64 p2, .int .u64 p3, .int .u64 p4, .int .u64 p5, .int .u64 p6, .int .u64 p7] 25)
  have hw8 : Blk (w7.alloc (.cells #[.int .i64 p0, .int .u64 v, .int .u64 p2, .int .u64 p3, .int .u64 p4, .int .u64 p5, .int .u64 p6, .int .u64 p7] 25)) w7.heap.size 25 #[.int .i64 p0, .int .u64 v, .int .u64 p2, .int .u64 p3, .int .u64 p4, .int .u64 p5, .int .u64 p6, .int .u64 p7] := Blk.new _ _ _
  generalize w7.alloc (.cells #[.int .i64 p0, .int .u64 v, .int .u64 p2, .int .u64 p3, .int .u64 p4, .int .u64 p5, .int .u64 p6, .int .u64 p7] 25) = w8 at *
  generalize w7.heap.size = g8 at *
  have HX8 := Lib.hid hx8
  have HW8 := Lib.hid hw8
  clear hx8 hw8 k0 k1 k2 k3 k4 k5 k6 k7
  obtain ⟨⟨k0, k1, k2, k3, k4, k5, k6, k7⟩, -⟩ := cells8 (KF.out _ HX8.out)
  obtain ⟨⟨l0, l1, l2, l3, l4, l5, l6, l7⟩, -⟩ := cells8 (LF.out _ HX8.out)
  obtain ⟨⟨m0, m1, m2, m3, m4, m5, m6, m7⟩, f0, f1, f2, f3, f4, f5, f6, f7⟩ := cells8 HW8.out
  go_upto_region 10 with (fail)
  generalize hw9 : w8 = w9 at *
  clear hw9
  have HX9 := Lib.hid HX8.out
  have HW9 := Lib.hid HW8.out
  clear k0 k1 k2 k3 k4 k5 k6 k7 l0 l1 l2 l3 l4 l5 l6 l7 m0 m1 m2 m3 m4 m5 m6 m7 f0 f1 f2 f3 f4 f5 f6 f7
  have hlt9 := HW9.out.lt
  go_upto_region 16 with (go_at_call 16; (with_reducible refine (TC.out w9 sa sc (SF.out _ HX9.out)).mono ?_); rintro e w10 ⟨x, rfl, ho, hb⟩; obtain ⟨da, dc, rfl, hdc, hdm, hr, -, hbl⟩ := ho.form; have HX10 := Lib.hid (SX.out _ _ HX9.out hb); have HW10 := Lib.hid (HW9.out.below hb); have HD10 := Lib.hid hr; have HDB := Lib.hid (fun (ad : Addr) (e : da = some ad) => (Nat.ne_of_lt (Nat.lt_of_lt_of_le hlt9 (hbl ad e).2.1) : g8 ≠ ad.block)); rw [LD.out] at hdc ⊢; clear ho hb hr hbl)
  have t1 := KC.out w10 da dc d HD10.out
  have t2 := KC.out w10 sa sc _ (SF.out _ HX10.out)
  rw [LD.out] at t1
  rw [LP.out] at t2
  generalize strOfNums d = s1 at *
  generalize strOfNums sp = s2 at *
  have sn : (s1.toList != s2.toList) = true := by rw [bne, se]; rfl
  obtain ⟨⟨k0, k1, k2, k3, k4, k5, k6, k7⟩, -⟩ := cells8 (KF.out _ HX10.out)
  obtain ⟨⟨l0, l1, l2, l3, l4, l5, l6, l7⟩, -⟩ := cells8 (LF.out _ HX10.out)
  obtain ⟨⟨m0, m1, m2, m3, m4, m5, m6, m7⟩, f0, f1, f2, f3, f4, f5, f6, f7⟩ := cells8 HW10.out
  go_upto_region 19 with (fail)
  have hx11 := below_set8 HX10.out (Nat.le_refl g8) (.int .i64 p0) (.int .u64 v) (.int .u64 p2) (.int .u64 p3) (.int .u64 p4) (.int .u64 p5) (.int .u64 p6) (.int .u64 p7)
  have hw11 := HW10.out.set8 (.int .i64 p0) (.int .u64 v) (.int .u64 p2) (.int .u64 p3) (.int .u64 p4) (.int .u64 p5) (.int .u64 p6) (.int .u64 p7)
  have HD11 := Lib.hid (HD10.out.far8 HDB.out (.int .i64 p0) (.int .u64 v) (.int .u64 p2) (.int .u64 p3) (.int .u64 p4) (.int .u64 p5) (.int .u64 p6) (.int .u64 p7))
  generalize (((((((w10.setCell ⟨g8, 0, none⟩ (.int .i64 p0)).setCell ⟨g8, 1, none⟩ (.int .u64 v)).setCell ⟨g8, 2, none⟩ (.int .u64 p2)).setCell ⟨g8, 3, none⟩ (.int .u64 p3)).setCell ⟨g8, 4, none⟩ (.int .u64 p4)).setCell ⟨g8, 5, none⟩ (.int .u64 p5)).setCell ⟨g8, 6, none⟩ (.int .u64 p6)).setCell ⟨g8, 7, none⟩ (.int .u64 p7) = w11 at *
  have HX11 := Lib.hid hx11
  have HW11 := Lib.hid hw11
  clear hx11 hw11
  clear k0 k1 k2 k3 k4 k5 k6 k7 l0 l1 l2 l3 l4 l5 l6 l7 m0 m1 m2 m3 m4 m5 m6 m7 f0 f1 f2 f3 f4 f5 f6 f7
  have N11 := Lib.hid (NC.out _ (BF.out _ HX11.out) da ra dc rc HD11.out hdc hdm (RF.out _ HX11.out) hrc hrm)
  obtain ⟨⟨k0, k1, k2, k3, k4, k5, k6, k7⟩, -⟩ := cells8 (KF.out _ HX11.out)
  go_upto_region 20 with (go_at_call 12; (with_reducible refine (N11.out).mono ?_); rintro e w12 ⟨rfl, hb⟩; have HX12 := Lib.hid (SX.out _ _ HX11.out hb); have HW12 := Lib.hid (HW11.out.below hb); clear hb)
  have hx13 := AX.out _ HX12.out (.cells #[.int .i64 p0, .int .u64 v, .int .u64 p2, .int .u64 p3, .int .u64 p4, .int .u64 p5, .int .u64 p6, .int .u64 p7] 25)
  have hw13 := HW12.out.alloc (.cells #[.int .i64 p0, .int .u64 v, .int .u64 p2, .int .u64 p3, .int .u64 p4, .int .u64 p5, .int .u64 p6, .int .u64 p7] 25)
  have hy13 : Blk (w12.alloc (.cells #[.int .i64 p0, .int .u64 v, .int .u64 p2, .int .u64 p3, .int .u64 p4, .int .u64 p5, .int .u64 p6, .int .u64 p7] 25)) w12.heap.size 25 #[.int .i64 p0, .int .u64 v, .int .u64 p2, .int .u64 p3, .int .u64 p4, .int .u64 p5, .int .u64 p6, .int .u64 p7] := Blk.new _ _ _
  generalize w12.alloc (.cells #[.int .i64 p0, .int .u64 v, .int .u64 p2, .int .u64 p3, .int .u64 p4, .int .u64 p5, .int .u64 p6, .int .u64 p7] 25) = w13 at *
  generalize w12.heap.size = g13 at *
  clear k0 k1 k2 k3 k4 k5 k6 k7
  obtain ⟨⟨k0, k1, k2, k3, k4, k5, k6, k7⟩, -⟩ := cells8 hw13
  obtain ⟨⟨l0, l1, l2, l3, l4, l5, l6, l7⟩, -⟩ := cells8 hy13
  have HX13 := Lib.hid hx13
  clear hx13 hw13 hy13
  go_wp2_with (go_at_call 8; (with_reducible refine (AW.out _ (BF.out _ HX13.out)).mono ?_); rintro e w14 ⟨rfl, hb⟩; have HB14 := Lib.hid (below_step (BF.out _ HX13.out) hb); clear hb)
  go_ret
  exact ⟨rfl, HB14.out⟩
set_option maxHeartbeats 8000000 in
theorem rots_ase (p : Gp) (more : Int) (q t : Nat) (w : World) (v : Int) (d : List Int) (hp : WfG p) (hm : MayG p) (hmo : 0 ≤ more ∧ more ≤ 255) (hq : q ≤ 65535) (ht : t ≤ 4294967295) (hT : Tab w)
    (hv : v = min (p.ver + more) 4611686018427387904) (he : v = p.ver) (hd : d = turnS (sealS (pageS 1 (loadG p))) q t) (hdd : d = sealS (pageS 1 (loadG p))) :
    Calls Tryd.prog 5 #[genV p, .int .u8 more, .bool false, .int .u16 q, .int .u32 t] w fun e w' => e = .returned (.bool true) ∧ Below w.heap.size w w' := by
  obtain ⟨hmv, hwv⟩ := at_may hm hp hmo.1 hv
  obtain ⟨u1, u2⟩ := (show NumOk p.ver from hm.2.1)
  have hb1 := below_alloc (Below.refl w.heap.size w) (.cells (genC p) 25)
  have hk1 : Blk (w.alloc (.cells (genC p) 25)) w.heap.size 25 (genC p) := Blk.new _ _ _
  have MC := Lib.hid (fun w => rgmay_calls p w hp)
  have PC := fun w => rgput_calls p w hp
  have QC := fun w => rgput_calls (p.at v) w hwv
  have AW := Lib.hid (fun w' (hb : Below w.heap.size w w') => awake_calls w' (hT.below hb))
  have KC := Lib.hid (fun (w : World) (a : Option Addr) (cap : Nat) (xs : List Int) (h : Row .u8 w a xs) => run_str (P := Tryd.prog) 26 5 9 Tryd.underlying26 Tryd.underlying5 Tryd.underlying9 a cap xs h)
  unfold PutG at PC QC
  rw [show putG p = (sealS (pageS 1 (loadG p)), 0) by unfold putG; rw [if_pos hm]] at PC
  rw [show putG (p.at v) = (sealS (pageS 1 (loadG (p.at v))), 0) by unfold putG; rw [if_pos hmv]] at QC
  rw [decide_eq_true hm] at MC
  have hdl : d.length = 64 := by rw [hd, turnS_len (seal_wf _), seal_len]
  have hdw : ∀ y ∈ d, 0 ≤ y ∧ y ≤ 255 := by rw [hd]; exact turnS_wf (seal_wf _) q t
  have TC := fun (W : World) a c (h : Row .u8 W a (sealS (pageS 1 (loadG p)))) => rturn_calls a c _ q t W h (by rw [seal_len]; decide) ⟨by omega, by omega⟩ (by omega)
  rw [← hd, seal_len] at TC
  have hg : getG d p.no = (p, 0) := by
    rw [hdd, getG_put hm p.no]; exact if_pos rfl
  have hgo : getG (sealS (pageS 1 (loadG (p.at v)))) p.no = (p.at v, 0) := by rw [getG_put hmv p.no]; exact if_pos rfl
  have hn : newerG (d) (sealS (pageS 1 (loadG (p.at v)))) p.no = (p, 0, true) := by
    rw [newer_of hg hgo]
    exact if_pos (by dsimp only [Gp.at, noGp]; omega)
  have NC := fun (W : World) (hb : Below w.heap.size w W) a b ca cb (ha : Row .u8 W a (d)) (hc : 64 ≤ ca) (hm : ca ≤ 9223372036854775807) (hb' : Row .u8 W b (sealS (pageS 1 (loadG (p.at v))))) (hc' : 64 ≤ cb) (hm' : cb ≤ 9223372036854775807) =>
    newer_calls a b 64 ca 64 cb _ _ p.no W hdw (seal_wf _)
      (fun W' h' => (show Calls Tryd.prog 9 #[.slice a 64 ca, .int .i64 p.no] W' _ by
        have := gget_calls a ca _ p.no W' (ha.below h') (by rw [hdl]; decide) (by rw [hdl]; exact hc) hm (hT.below (below_step hb h'))
        rw [hdl] at this
        exact this))
      (fun W' h' => (show Calls Tryd.prog 9 #[.slice b 64 cb, .int .i64 p.no] W' _ by
        have := gget_calls b cb _ p.no W' (hb'.below h') (by rw [seal_len]; decide) (by rw [seal_len]; exact hc') hm' (hT.below (below_step hb h'))
        rw [seal_len] at this
        exact this))
  rw [hn] at NC
  have LP := Lib.hid (seal_len p)
  have LQ := Lib.hid (seal_len (p.at v))
  have LD := Lib.hid hdl
  have se := str_eqb hdw (seal_wf p)
  rw [decide_eq_true hdd] at se
  have EQ := fun w => eq6 p.g0 p.g1 p.g2 p.g3 p.g4 p.g5 w
  have hev : (v == p.ver) = true := by simpa using he
  have wm : IntKind.u64.wrap more = more := u64_of _ (by omega) (by omega)
  have wv : IntKind.u64.wrap (p.ver + more) = p.ver + more := u64_of _ (by omega) (by omega)
  have HB1 := Lib.hid hb1
  have HK1 := Lib.hid hk1
  have PC := Lib.hid PC
  have QC := Lib.hid QC
  have TC := Lib.hid TC
  have NC := Lib.hid NC
  have wq : IntKind.i64.wrap (q : Int) = q := by have := wrap64_id (x := (q : Int)) ⟨by omega, by omega⟩; unfold wrap64 at this; rw [IntKind.wrap_i64]; exact this
  clear hT hb1 hk1 hd hdd hdl hdw hn hg hgo hp hmv hwv he
  unfold genV genC Gp.at at *
  obtain ⟨p0, p1, p2, p3, p4, p5, p6, p7⟩ := p
  dsimp only at *
  clear hm
  generalize sealS (pageS 1 (loadG ⟨p0, p1, p2, p3, p4, p5, p6, p7⟩)) = sp at *
  generalize sealS (pageS 1 (loadG ⟨p0, v, p2, p3, p4, p5, p6, p7⟩)) = sq at *
  go_enter Tryd.func5, Tryd.ntmps5
  go_upto_region 3 with (go_at_call 15; (with_reducible refine (MC.out _).mono ?_); rintro e w2 ⟨rfl, hb⟩; have HB2 := Lib.hid (below_step HB1.out hb); have HK2 := Lib.hid (HK1.out.below hb); obtain ⟨⟨k0, k1, k2, k3, k4, k5, k6, k7⟩, -⟩ := cells8 HK2.out; clear hb)
  go_upto_region 4 with (fail)
  have hb3 := below_alloc HB2.out (.cells #[.int .i64 p0, .int .u64 p1, .int .u64 p2, .int .u64 p3, .int .u64 p4, .int .u64 p5, .int .u64 p6, .int .u64 p7] 25)
  have hk3 := HK2.out.alloc (.cells #[.int .i64 p0, .int .u64 p1, .int .u64 p2, .int .u64 p3, .int .u64 p4, .int .u64 p5, .int .u64 p6, .int .u64 p7] 25)
  have hl3 : Blk (w2.alloc (.cells #[.int .i64 p0, .int .u64 p1, .int .u64 p2, .int .u64 p3, .int .u64 p4, .int .u64 p5, .int .u64 p6, .int .u64 p7] 25)) w2.heap.size 25 #[.int .i64 p0, .int .u64 p1, .int .u64 p2, .int .u64 p3, .int .u64 p4, .int .u64 p5, .int .u64 p6, .int .u64 p7] := Blk.new _ _ _
  have HNE := Lib.hid (show w.heap.size ≠ w2.heap.size by have := HK2.out.lt; omega)
  have HGE := Lib.hid (show w.heap.size ≤ w2.heap.size from HB2.out.size)
  generalize w2.alloc (.cells #[.int .i64 p0, .int .u64 p1, .int .u64 p2, .int .u64 p3, .int .u64 p4, .int .u64 p5, .int .u64 p6, .int .u64 p7] 25) = w3 at *
  generalize w2.heap.size = g3 at *
  clear k0 k1 k2 k3 k4 k5 k6 k7
  obtain ⟨⟨k0, k1, k2, k3, k4, k5, k6, k7⟩, -⟩ := cells8 hk3
  have c1 : w3.cell? ⟨g3, 1, none⟩ = some (.int .u64 p1) := hl3.cell 1
  have f1 : w3.frozen? ⟨g3, 1, none⟩ = false := hl3.frozen 1
  have HB3 := Lib.hid hb3
  have HK3 := Lib.hid hk3
  have HL3 := Lib.hid hl3
  clear hb3 hk3 hl3
  go_upto_region 5 with (fail)
  rw [show (if 4611686018427387904 < p1 + more then 4611686018427387904 else p1 + more) = v by rw [hv]; split <;> omega]
  clear hv
  have hb5 := HB3.out.setCell (p := ⟨g3, 1, none⟩) HGE.out (.int .u64 v)
  have hk5 := HK3.out.far (p := ⟨g3, 1, none⟩) HNE.out (.int .u64 v)
  have hl5 : Blk (w3.setCell ⟨g3, 1, none⟩ (.int .u64 v)) g3 25 #[.int .i64 p0, .int .u64 v, .int .u64 p2, .int .u64 p3, .int .u64 p4, .int .u64 p5, .int .u64 p6, .int .u64 p7] := HL3.out.set_ 1 (.int .u64 v)
  generalize w3.setCell ⟨g3, 1, none⟩ (.int .u64 v) = w5 at *
  clear k0 k1 k2 k3 k4 k5 k6 k7 c1 f1
  obtain ⟨⟨k0, k1, k2, k3, k4, k5, k6, k7⟩, -⟩ := cells8 hk5
  have HB5 := Lib.hid hb5
  have HK5 := Lib.hid hk5
  have HL5 := Lib.hid hl5
  clear hb5 hk5 hl5
  go_upto_region 6 with (go_at_call 7; (with_reducible refine (PC.out w5).mono ?_); rintro e w6 ⟨x, rfl, ho, hb⟩; obtain ⟨sa, sc, rfl, hsc, hsm, h, -, -⟩ := ho.form; have HB6 := Lib.hid (below_step HB5.out hb); have HK6 := Lib.hid (HK5.out.below hb); have HL6 := Lib.hid (HL5.out.below hb); have HS6 := Lib.hid h; rw [LP.out] at hsc ⊢; clear ho hb h)
  clear k0 k1 k2 k3 k4 k5 k6 k7
  obtain ⟨⟨k0, k1, k2, k3, k4, k5, k6, k7⟩, -⟩ := cells8 HL6.out
  go_upto_region 7 with (go_at_call 7; (with_reducible refine (QC.out w6).mono ?_); rintro e w7 ⟨x, rfl, ho, hb⟩; obtain ⟨ra, rc, rfl, hrc, hrm, h, -, -⟩ := ho.form; have HB7 := Lib.hid (below_step HB6.out hb); have HK7 := Lib.hid (HK6.out.below hb); have HL7 := Lib.hid (HL6.out.below hb); have HS7 := Lib.hid (HS6.out.below hb); have HR7 := Lib.hid h; rw [LQ.out] at hrc ⊢; clear ho hb h)
  clear k0 k1 k2 k3 k4 k5 k6 k7
  obtain ⟨⟨k0, k1, k2, k3, k4, k5, k6, k7⟩, -⟩ := cells8 HL7.out
  go_upto_region 8 with (fail)
  have SX := Lib.hid (fun W W' (h : Below w7.heap.size w7 W) (h' : Below W.heap.size W W') => below_step h h')
  have AX := Lib.hid (fun W (h : Below w7.heap.size w7 W) o => below_alloc h o)
  have BF := Lib.hid (fun W (h : Below w7.heap.size w7 W) => below_step HB7.out h)
  have KF := Lib.hid (fun W (h : Below w7.heap.size w7 W) => HK7.out.below h)
  have LF := Lib.hid (fun W (h : Below w7.heap.size w7 W) => HL7.out.below h)
  have SF := Lib.hid (fun W (h : Below w7.heap.size w7 W) => HS7.out.below h)
  have RF := Lib.hid (fun W (h : Below w7.heap.size w7 W) => HR7.out.below h)
  have hx8 := below_alloc (Below.refl w7.heap.size w7) (.cells #[.int .i64 p0, .int .u64 v, .int .u64 p2, .int .u64 p3, .int .u64 p4, .int .u64 p5, .int .u64 p6, .int .u64 p7] 25)
  have hw8 : Blk (w7.alloc (.cells #[.int .i64 p0, .int .u64 v, .int .u64 p2, .int .u64 p3, .int .u64 p4, .int .u64 p5, .int .u64 p6, .int .u64 p7] 25)) w7.heap.size 25 #[.int .i64 p0, .int .u64 v, .int .u64 p2, .int .u64 p3, .int .u64 p4, .int .u64 p5, .int .u64 p6, .int .u64 p7] := Blk.new _ _ _
  generalize w7.alloc (.cells #[.int .i64 p0, .int .u64 v, .int .u64 p2, .int .u64 p3, .int .u64 p4, .int .u64 p5, .int .u64 p6, .int .u64 p7] 25) = w8 at *
  generalize w7.heap.size = g8 at *
  have HX8 := Lib.hid hx8
  have HW8 := Lib.hid hw8
  clear hx8 hw8 k0 k1 k2 k3 k4 k5 k6 k7
  obtain ⟨⟨k0, k1, k2, k3, k4, k5, k6, k7⟩, -⟩ := cells8 (KF.out _ HX8.out)
  obtain ⟨⟨l0, l1, l2, l3, l4, l5, l6, l7⟩, -⟩ := cells8 (LF.out _ HX8.out)
  obtain ⟨⟨m0, m1, m2, m3, m4, m5, m6, m7⟩, f0, f1, f2, f3, f4, f5, f6, f7⟩ := cells8 HW8.out
  go_upto_region 10 with (fail)
  have hx9 := below_set8 HX8.out (Nat.le_refl g8) (.int .i64 p0) (.int .u64 p1) (.int .u64 p2) (.int .u64 p3) (.int .u64 p4) (.int .u64 p5) (.int .u64 p6) (.int .u64 p7)
  have hw9 := HW8.out.set8 (.int .i64 p0) (.int .u64 p1) (.int .u64 p2) (.int .u64 p3) (.int .u64 p4) (.int .u64 p5) (.int .u64 p6) (.int .u64 p7)
  generalize (((((((w8.setCell ⟨g8, 0, none⟩ (.int .i64 p0)).setCell ⟨g8, 1, none⟩ (.int .u64 p1)).setCell ⟨g8, 2, none⟩ (.int .u64 p2)).setCell ⟨g8, 3, none⟩ (.int .u64 p3)).setCell ⟨g8, 4, none⟩ (.int .u64 p4)).setCell ⟨g8, 5, none⟩ (.int .u64 p5)).setCell ⟨g8, 6, none⟩ (.int .u64 p6)).setCell ⟨g8, 7, none⟩ (.int .u64 p7) = w9 at *
  have HX9 := Lib.hid hx9
  have HW9 := Lib.hid hw9
  clear hx9 hw9
  clear k0 k1 k2 k3 k4 k5 k6 k7 l0 l1 l2 l3 l4 l5 l6 l7 m0 m1 m2 m3 m4 m5 m6 m7 f0 f1 f2 f3 f4 f5 f6 f7
  have hlt9 := HW9.out.lt
  go_upto_region 16 with (go_at_call 16; (with_reducible refine (TC.out w9 sa sc (SF.out _ HX9.out)).mono ?_); rintro e w10 ⟨x, rfl, ho, hb⟩; obtain ⟨da, dc, rfl, hdc, hdm, hr, -, hbl⟩ := ho.form; have HX10 := Lib.hid (SX.out _ _ HX9.out hb); have HW10 := Lib.hid (HW9.out.below hb); have HD10 := Lib.hid hr; have HDB := Lib.hid (fun (ad : Addr) (e : da = some ad) => (Nat.ne_of_lt (Nat.lt_of_lt_of_le hlt9 (hbl ad e).2.1) : g8 ≠ ad.block)); rw [LD.out] at hdc ⊢; clear ho hb hr hbl)
  have t1 := KC.out w10 da dc d HD10.out
  have t2 := KC.out w10 sa sc _ (SF.out _ HX10.out)
  rw [LD.out] at t1
  rw [LP.out] at t2
  generalize strOfNums d = s1 at *
  generalize strOfNums sp = s2 at *
  have sn : (s1.toList != s2.toList) = false := by rw [bne, se]; rfl
  obtain ⟨⟨k0, k1, k2, k3, k4, k5, k6, k7⟩, -⟩ := cells8 (KF.out _ HX10.out)
  obtain ⟨⟨l0, l1, l2, l3, l4, l5, l6, l7⟩, -⟩ := cells8 (LF.out _ HX10.out)
  obtain ⟨⟨m0, m1, m2, m3, m4, m5, m6, m7⟩, f0, f1, f2, f3, f4, f5, f6, f7⟩ := cells8 HW10.out
  go_upto_region 19 with (fail)
  generalize hw11 : w10 = w11 at *
  clear hw11
  have HX11 := Lib.hid HX10.out
  have HW11 := Lib.hid HW10.out
  have HD11 := Lib.hid HD10.out
  clear k0 k1 k2 k3 k4 k5 k6 k7 l0 l1 l2 l3 l4 l5 l6 l7 m0 m1 m2 m3 m4 m5 m6 m7 f0 f1 f2 f3 f4 f5 f6 f7
  have N11 := Lib.hid (NC.out _ (BF.out _ HX11.out) da ra dc rc HD11.out hdc hdm (RF.out _ HX11.out) hrc hrm)
  obtain ⟨⟨k0, k1, k2, k3, k4, k5, k6, k7⟩, -⟩ := cells8 (KF.out _ HX11.out)
  go_upto_region 20 with (go_at_call 12; (with_reducible refine (N11.out).mono ?_); rintro e w12 ⟨rfl, hb⟩; have HX12 := Lib.hid (SX.out _ _ HX11.out hb); have HW12 := Lib.hid (HW11.out.below hb); clear hb)
  have hx13 := AX.out _ HX12.out (.cells #[.int .i64 p0, .int .u64 p1, .int .u64 p2, .int .u64 p3, .int .u64 p4, .int .u64 p5, .int .u64 p6, .int .u64 p7] 25)
  have hw13 := HW12.out.alloc (.cells #[.int .i64 p0, .int .u64 p1, .int .u64 p2, .int .u64 p3, .int .u64 p4, .int .u64 p5, .int .u64 p6, .int .u64 p7] 25)
  have hy13 : Blk (w12.alloc (.cells #[.int .i64 p0, .int .u64 p1, .int .u64 p2, .int .u64 p3, .int .u64 p4, .int .u64 p5, .int .u64 p6, .int .u64 p7] 25)) w12.heap.size 25 #[.int .i64 p0, .int .u64 p1, .int .u64 p2, .int .u64 p3, .int .u64 p4, .int .u64 p5, .int .u64 p6, .int .u64 p7] := Blk.new _ _ _
  generalize w12.alloc (.cells #[.int .i64 p0, .int .u64 p1, .int .u64 p2, .int .u64 p3, .int .u64 p4, .int .u64 p5, .int .u64 p6, .int .u64 p7] 25) = w13 at *
  generalize w12.heap.size = g13 at *
  clear k0 k1 k2 k3 k4 k5 k6 k7
  obtain ⟨⟨k0, k1, k2, k3, k4, k5, k6, k7⟩, -⟩ := cells8 hw13
  obtain ⟨⟨l0, l1, l2, l3, l4, l5, l6, l7⟩, -⟩ := cells8 hy13
  have HX13 := Lib.hid hx13
  clear hx13 hw13 hy13
  go_wp2_with (go_at_call 8; (with_reducible refine (AW.out _ (BF.out _ HX13.out)).mono ?_); rintro e w14 ⟨rfl, hb⟩; have HB14 := Lib.hid (below_step (BF.out _ HX13.out) hb); clear hb)
  go_ret
  exact ⟨rfl, HB14.out⟩
set_option maxHeartbeats 8000000 in
theorem rots_asn (p : Gp) (more : Int) (q t : Nat) (w : World) (v : Int) (d : List Int) (hp : WfG p) (hm : MayG p) (hmo : 0 ≤ more ∧ more ≤ 255) (hq : q ≤ 65535) (ht : t ≤ 4294967295) (hT : Tab w)
    (hv : v = min (p.ver + more) 4611686018427387904) (he : ¬ v = p.ver) (hd : d = turnS (sealS (pageS 1 (loadG p))) q t) (hdd : d = sealS (pageS 1 (loadG p))) :
    Calls Tryd.prog 5 #[genV p, .int .u8 more, .bool false, .int .u16 q, .int .u32 t] w fun e w' => e = .returned (.bool true) ∧ Below w.heap.size w w' := by
  obtain ⟨hmv, hwv⟩ := at_may hm hp hmo.1 hv
  obtain ⟨u1, u2⟩ := (show NumOk p.ver from hm.2.1)
  have hb1 := below_alloc (Below.refl w.heap.size w) (.cells (genC p) 25)
  have hk1 : Blk (w.alloc (.cells (genC p) 25)) w.heap.size 25 (genC p) := Blk.new _ _ _
  have MC := Lib.hid (fun w => rgmay_calls p w hp)
  have PC := fun w => rgput_calls p w hp
  have QC := fun w => rgput_calls (p.at v) w hwv
  have AW := Lib.hid (fun w' (hb : Below w.heap.size w w') => awake_calls w' (hT.below hb))
  have KC := Lib.hid (fun (w : World) (a : Option Addr) (cap : Nat) (xs : List Int) (h : Row .u8 w a xs) => run_str (P := Tryd.prog) 26 5 9 Tryd.underlying26 Tryd.underlying5 Tryd.underlying9 a cap xs h)
  unfold PutG at PC QC
  rw [show putG p = (sealS (pageS 1 (loadG p)), 0) by unfold putG; rw [if_pos hm]] at PC
  rw [show putG (p.at v) = (sealS (pageS 1 (loadG (p.at v))), 0) by unfold putG; rw [if_pos hmv]] at QC
  rw [decide_eq_true hm] at MC
  have hdl : d.length = 64 := by rw [hd, turnS_len (seal_wf _), seal_len]
  have hdw : ∀ y ∈ d, 0 ≤ y ∧ y ≤ 255 := by rw [hd]; exact turnS_wf (seal_wf _) q t
  have TC := fun (W : World) a c (h : Row .u8 W a (sealS (pageS 1 (loadG p)))) => rturn_calls a c _ q t W h (by rw [seal_len]; decide) ⟨by omega, by omega⟩ (by omega)
  rw [← hd, seal_len] at TC
  have hg : getG d p.no = (p, 0) := by
    rw [hdd, getG_put hm p.no]; exact if_pos rfl
  have hgo : getG (sealS (pageS 1 (loadG (p.at v)))) p.no = (p.at v, 0) := by rw [getG_put hmv p.no]; exact if_pos rfl
  have hn : newerG (d) (sealS (pageS 1 (loadG (p.at v)))) p.no = (p.at v, 1, true) := by
    rw [newer_of hg hgo]
    rw [if_neg (by show ¬ _; dsimp only [Gp.at, noGp]; omega)]; rfl
  have NC := fun (W : World) (hb : Below w.heap.size w W) a b ca cb (ha : Row .u8 W a (d)) (hc : 64 ≤ ca) (hm : ca ≤ 9223372036854775807) (hb' : Row .u8 W b (sealS (pageS 1 (loadG (p.at v))))) (hc' : 64 ≤ cb) (hm' : cb ≤ 9223372036854775807) =>
    newer_calls a b 64 ca 64 cb _ _ p.no W hdw (seal_wf _)
      (fun W' h' => (show Calls Tryd.prog 9 #[.slice a 64 ca, .int .i64 p.no] W' _ by
        have := gget_calls a ca _ p.no W' (ha.below h') (by rw [hdl]; decide) (by rw [hdl]; exact hc) hm (hT.below (below_step hb h'))
        rw [hdl] at this
        exact this))
      (fun W' h' => (show Calls Tryd.prog 9 #[.slice b 64 cb, .int .i64 p.no] W' _ by
        have := gget_calls b cb _ p.no W' (hb'.below h') (by rw [seal_len]; decide) (by rw [seal_len]; exact hc') hm' (hT.below (below_step hb h'))
        rw [seal_len] at this
        exact this))
  rw [hn] at NC
  have LP := Lib.hid (seal_len p)
  have LQ := Lib.hid (seal_len (p.at v))
  have LD := Lib.hid hdl
  have se := str_eqb hdw (seal_wf p)
  rw [decide_eq_true hdd] at se
  have EQ := fun w => eq6 p.g0 p.g1 p.g2 p.g3 p.g4 p.g5 w
  have hev : (v == p.ver) = false := by simpa using he
  have wm : IntKind.u64.wrap more = more := u64_of _ (by omega) (by omega)
  have wv : IntKind.u64.wrap (p.ver + more) = p.ver + more := u64_of _ (by omega) (by omega)
  have HB1 := Lib.hid hb1
  have HK1 := Lib.hid hk1
  have PC := Lib.hid PC
  have QC := Lib.hid QC
  have TC := Lib.hid TC
  have NC := Lib.hid NC
  have wq : IntKind.i64.wrap (q : Int) = q := by have := wrap64_id (x := (q : Int)) ⟨by omega, by omega⟩; unfold wrap64 at this; rw [IntKind.wrap_i64]; exact this
  clear hT hb1 hk1 hd hdd hdl hdw hn hg hgo hp hmv hwv he
  unfold genV genC Gp.at at *
  obtain ⟨p0, p1, p2, p3, p4, p5, p6, p7⟩ := p
  dsimp only at *
  clear hm
  generalize sealS (pageS 1 (loadG ⟨p0, p1, p2, p3, p4, p5, p6, p7⟩)) = sp at *
  generalize sealS (pageS 1 (loadG ⟨p0, v, p2, p3, p4, p5, p6, p7⟩)) = sq at *
  go_enter Tryd.func5, Tryd.ntmps5
  go_upto_region 3 with (go_at_call 15; (with_reducible refine (MC.out _).mono ?_); rintro e w2 ⟨rfl, hb⟩; have HB2 := Lib.hid (below_step HB1.out hb); have HK2 := Lib.hid (HK1.out.below hb); obtain ⟨⟨k0, k1, k2, k3, k4, k5, k6, k7⟩, -⟩ := cells8 HK2.out; clear hb)
  go_upto_region 4 with (fail)
  have hb3 := below_alloc HB2.out (.cells #[.int .i64 p0, .int .u64 p1, .int .u64 p2, .int .u64 p3, .int .u64 p4, .int .u64 p5, .int .u64 p6, .int .u64 p7] 25)
  have hk3 := HK2.out.alloc (.cells #[.int .i64 p0, .int .u64 p1, .int .u64 p2, .int .u64 p3, .int .u64 p4, .int .u64 p5, .int .u64 p6, .int .u64 p7] 25)
  have hl3 : Blk (w2.alloc (.cells #[.int .i64 p0, .int .u64 p1, .int .u64 p2, .int .u64 p3, .int .u64 p4, .int .u64 p5, .int .u64 p6, .int .u64 p7] 25)) w2.heap.size 25 #[.int .i64 p0, .int .u64 p1, .int .u64 p2, .int .u64 p3, .int .u64 p4, .int .u64 p5, .int .u64 p6, .int .u64 p7] := Blk.new _ _ _
  have HNE := Lib.hid (show w.heap.size ≠ w2.heap.size by have := HK2.out.lt; omega)
  have HGE := Lib.hid (show w.heap.size ≤ w2.heap.size from HB2.out.size)
  generalize w2.alloc (.cells #[.int .i64 p0, .int .u64 p1, .int .u64 p2, .int .u64 p3, .int .u64 p4, .int .u64 p5, .int .u64 p6, .int .u64 p7] 25) = w3 at *
  generalize w2.heap.size = g3 at *
  clear k0 k1 k2 k3 k4 k5 k6 k7
  obtain ⟨⟨k0, k1, k2, k3, k4, k5, k6, k7⟩, -⟩ := cells8 hk3
  have c1 : w3.cell? ⟨g3, 1, none⟩ = some (.int .u64 p1) := hl3.cell 1
  have f1 : w3.frozen? ⟨g3, 1, none⟩ = false := hl3.frozen 1
  have HB3 := Lib.hid hb3
  have HK3 := Lib.hid hk3
  have HL3 := Lib.hid hl3
  clear hb3 hk3 hl3
  go_upto_region 5 with (fail)
  rw [show (if 4611686018427387904 < p1 + more then 4611686018427387904 else p1 + more) = v by rw [hv]; split <;> omega]
  clear hv
  have hb5 := HB3.out.setCell (p := ⟨g3, 1, none⟩) HGE.out (.int .u64 v)
  have hk5 := HK3.out.far (p := ⟨g3, 1, none⟩) HNE.out (.int .u64 v)
  have hl5 : Blk (w3.setCell ⟨g3, 1, none⟩ (.int .u64 v)) g3 25 #[.int .i64 p0, .int .u64 v, .int .u64 p2, .int .u64 p3, .int .u64 p4, .int .u64 p5, .int .u64 p6, .int .u64 p7] := HL3.out.set_ 1 (.int .u64 v)
  generalize w3.setCell ⟨g3, 1, none⟩ (.int .u64 v) = w5 at *
  clear k0 k1 k2 k3 k4 k5 k6 k7 c1 f1
  obtain ⟨⟨k0, k1, k2, k3, k4, k5, k6, k7⟩, -⟩ := cells8 hk5
  have HB5 := Lib.hid hb5
  have HK5 := Lib.hid hk5
  have HL5 := Lib.hid hl5
  clear hb5 hk5 hl5
  go_upto_region 6 with (go_at_call 7; (with_reducible refine (PC.out w5).mono ?_); rintro e w6 ⟨x, rfl, ho, hb⟩; obtain ⟨sa, sc, rfl, hsc, hsm, h, -, -⟩ := ho.form; have HB6 := Lib.hid (below_step HB5.out hb); have HK6 := Lib.hid (HK5.out.below hb); have HL6 := Lib.hid (HL5.out.below hb); have HS6 := Lib.hid h; rw [LP.out] at hsc ⊢; clear ho hb h)
  clear k0 k1 k2 k3 k4 k5 k6 k7
  obtain ⟨⟨k0, k1, k2, k3, k4, k5, k6, k7⟩, -⟩ := cells8 HL6.out
  go_upto_region 7 with (go_at_call 7; (with_reducible refine (QC.out w6).mono ?_); rintro e w7 ⟨x, rfl, ho, hb⟩; obtain ⟨ra, rc, rfl, hrc, hrm, h, -, -⟩ := ho.form; have HB7 := Lib.hid (below_step HB6.out hb); have HK7 := Lib.hid (HK6.out.below hb); have HL7 := Lib.hid (HL6.out.below hb); have HS7 := Lib.hid (HS6.out.below hb); have HR7 := Lib.hid h; rw [LQ.out] at hrc ⊢; clear ho hb h)
  clear k0 k1 k2 k3 k4 k5 k6 k7
  obtain ⟨⟨k0, k1, k2, k3, k4, k5, k6, k7⟩, -⟩ := cells8 HL7.out
  go_upto_region 8 with (fail)
  have SX := Lib.hid (fun W W' (h : Below w7.heap.size w7 W) (h' : Below W.heap.size W W') => below_step h h')
  have AX := Lib.hid (fun W (h : Below w7.heap.size w7 W) o => below_alloc h o)
  have BF := Lib.hid (fun W (h : Below w7.heap.size w7 W) => below_step HB7.out h)
  have KF := Lib.hid (fun W (h : Below w7.heap.size w7 W) => HK7.out.below h)
  have LF := Lib.hid (fun W (h : Below w7.heap.size w7 W) => HL7.out.below h)
  have SF := Lib.hid (fun W (h : Below w7.heap.size w7 W) => HS7.out.below h)
  have RF := Lib.hid (fun W (h : Below w7.heap.size w7 W) => HR7.out.below h)
  have hx8 := below_alloc (Below.refl w7.heap.size w7) (.cells #[.int .i64 p0, .int .u64 v, .int .u64 p2, .int .u64 p3, .int .u64 p4, .int .u64 p5, .int .u64 p6, .int .u64 p7] 25)
  have hw8 : Blk (w7.alloc (.cells #[.int .i64 p0, .int .u64 v, .int .u64 p2, .int .u64 p3, .int .u64 p4, .int .u64 p5, .int .u64 p6, .int .u64 p7] 25)) w7.heap.size 25 #[.int .i64 p0, .int .u64 v, .int .u64 p2, .int .u64 p3, .int .u64 p4, .int .u64 p5, .int .u64 p6, .int .u64 p7] := Blk.new _ _ _
  generalize w7.alloc (.cells #[.int .i64 p0, .int .u64 v, .int .u64 p2, .int .u64 p3, .int .u64 p4, .int .u64 p5, .int .u64 p6, .int .u64 p7] 25) = w8 at *
  generalize w7.heap.size = g8 at *
  have HX8 := Lib.hid hx8
  have HW8 := Lib.hid hw8
  clear hx8 hw8 k0 k1 k2 k3 k4 k5 k6 k7
  obtain ⟨⟨k0, k1, k2, k3, k4, k5, k6, k7⟩, -⟩ := cells8 (KF.out _ HX8.out)
  obtain ⟨⟨l0, l1, l2, l3, l4, l5, l6, l7⟩, -⟩ := cells8 (LF.out _ HX8.out)
  obtain ⟨⟨m0, m1, m2, m3, m4, m5, m6, m7⟩, f0, f1, f2, f3, f4, f5, f6, f7⟩ := cells8 HW8.out
  go_upto_region 10 with (fail)
  generalize hw9 : w8 = w9 at *
  clear hw9
  have HX9 := Lib.hid HX8.out
  have HW9 := Lib.hid HW8.out
  clear k0 k1 k2 k3 k4 k5 k6 k7 l0 l1 l2 l3 l4 l5 l6 l7 m0 m1 m2 m3 m4 m5 m6 m7 f0 f1 f2 f3 f4 f5 f6 f7
  have hlt9 := HW9.out.lt
  go_upto_region 16 with (go_at_call 16; (with_reducible refine (TC.out w9 sa sc (SF.out _ HX9.out)).mono ?_); rintro e w10 ⟨x, rfl, ho, hb⟩; obtain ⟨da, dc, rfl, hdc, hdm, hr, -, hbl⟩ := ho.form; have HX10 := Lib.hid (SX.out _ _ HX9.out hb); have HW10 := Lib.hid (HW9.out.below hb); have HD10 := Lib.hid hr; have HDB := Lib.hid (fun (ad : Addr) (e : da = some ad) => (Nat.ne_of_lt (Nat.lt_of_lt_of_le hlt9 (hbl ad e).2.1) : g8 ≠ ad.block)); rw [LD.out] at hdc ⊢; clear ho hb hr hbl)
  have t1 := KC.out w10 da dc d HD10.out
  have t2 := KC.out w10 sa sc _ (SF.out _ HX10.out)
  rw [LD.out] at t1
  rw [LP.out] at t2
  generalize strOfNums d = s1 at *
  generalize strOfNums sp = s2 at *
  have sn : (s1.toList != s2.toList) = false := by rw [bne, se]; rfl
  obtain ⟨⟨k0, k1, k2, k3, k4, k5, k6, k7⟩, -⟩ := cells8 (KF.out _ HX10.out)
  obtain ⟨⟨l0, l1, l2, l3, l4, l5, l6, l7⟩, -⟩ := cells8 (LF.out _ HX10.out)
  obtain ⟨⟨m0, m1, m2, m3, m4, m5, m6, m7⟩, f0, f1, f2, f3, f4, f5, f6, f7⟩ := cells8 HW10.out
  go_upto_region 19 with (fail)
  generalize hw11 : w10 = w11 at *
  clear hw11
  have HX11 := Lib.hid HX10.out
  have HW11 := Lib.hid HW10.out
  have HD11 := Lib.hid HD10.out
  clear k0 k1 k2 k3 k4 k5 k6 k7 l0 l1 l2 l3 l4 l5 l6 l7 m0 m1 m2 m3 m4 m5 m6 m7 f0 f1 f2 f3 f4 f5 f6 f7
  have N11 := Lib.hid (NC.out _ (BF.out _ HX11.out) da ra dc rc HD11.out hdc hdm (RF.out _ HX11.out) hrc hrm)
  obtain ⟨⟨k0, k1, k2, k3, k4, k5, k6, k7⟩, -⟩ := cells8 (KF.out _ HX11.out)
  go_upto_region 20 with (go_at_call 12; (with_reducible refine (N11.out).mono ?_); rintro e w12 ⟨rfl, hb⟩; have HX12 := Lib.hid (SX.out _ _ HX11.out hb); have HW12 := Lib.hid (HW11.out.below hb); clear hb)
  have hx13 := AX.out _ HX12.out (.cells #[.int .i64 p0, .int .u64 v, .int .u64 p2, .int .u64 p3, .int .u64 p4, .int .u64 p5, .int .u64 p6, .int .u64 p7] 25)
  have hw13 := HW12.out.alloc (.cells #[.int .i64 p0, .int .u64 v, .int .u64 p2, .int .u64 p3, .int .u64 p4, .int .u64 p5, .int .u64 p6, .int .u64 p7] 25)
  have hy13 : Blk (w12.alloc (.cells #[.int .i64 p0, .int .u64 v, .int .u64 p2, .int .u64 p3, .int .u64 p4, .int .u64 p5, .int .u64 p6, .int .u64 p7] 25)) w12.heap.size 25 #[.int .i64 p0, .int .u64 v, .int .u64 p2, .int .u64 p3, .int .u64 p4, .int .u64 p5, .int .u64 p6, .int .u64 p7] := Blk.new _ _ _
  generalize w12.alloc (.cells #[.int .i64 p0, .int .u64 v, .int .u64 p2, .int .u64 p3, .int .u64 p4, .int .u64 p5, .int .u64 p6, .int .u64 p7] 25) = w13 at *
  generalize w12.heap.size = g13 at *
  clear k0 k1 k2 k3 k4 k5 k6 k7
  obtain ⟨⟨k0, k1, k2, k3, k4, k5, k6, k7⟩, -⟩ := cells8 hw13
  obtain ⟨⟨l0, l1, l2, l3, l4, l5, l6, l7⟩, -⟩ := cells8 hy13
  have HX13 := Lib.hid hx13
  clear hx13 hw13 hy13
  go_wp2_with (go_at_call 8; (with_reducible refine (AW.out _ (BF.out _ HX13.out)).mono ?_); rintro e w14 ⟨rfl, hb⟩; have HB14 := Lib.hid (below_step (BF.out _ HX13.out) hb); clear hb)
  go_ret
  exact ⟨rfl, HB14.out⟩
theorem rots_walk (p : Gp) (more : Int) (second : Bool) (at_ t : Int) (w : World) (hp : WfG p) (hmo : 0 ≤ more ∧ more ≤ 255) (hat : 0 ≤ at_ ∧ at_ ≤ 65535) (ht : 0 ≤ t ∧ t ≤ 4294967295) (hT : Tab w) :
    Calls Tryd.prog 5 #[genV p, .int .u8 more, .bool second, .int .u16 at_, .int .u32 t] w fun e w' => e = .returned (.bool true) ∧ Below w.heap.size w w' := by
  by_cases hm : MayG p
  · obtain ⟨q, rfl⟩ := Int.eq_ofNat_of_zero_le hat.1
    obtain ⟨t, rfl⟩ := Int.eq_ofNat_of_zero_le ht.1
    have h1 : q ≤ 65535 := by omega
    have h2 : t ≤ 4294967295 := by omega
    obtain ⟨v, hv⟩ : ∃ v, v = min (p.ver + more) 4611686018427387904 := ⟨_, rfl⟩
    by_cases he : v = p.ver
    · cases second
      · by_cases hd : turnS (sealS (pageS 1 (loadG p))) q t = sealS (pageS 1 (loadG p))
        · exact rots_ase p more q t w v _ hp hm hmo h1 h2 hT hv he rfl hd
        · exact rots_ade p more q t w v _ hp hm hmo h1 h2 hT hv he rfl hd
      · by_cases hd : turnS (sealS (pageS 1 (loadG (p.at v)))) q t = sealS (pageS 1 (loadG (p.at v)))
        · exact rots_bse p more q t w v _ hp hm hmo h1 h2 hT hv he rfl hd
        · exact rots_bde p more q t w v _ hp hm hmo h1 h2 hT hv he rfl hd
    · cases second
      · by_cases hd : turnS (sealS (pageS 1 (loadG p))) q t = sealS (pageS 1 (loadG p))
        · exact rots_asn p more q t w v _ hp hm hmo h1 h2 hT hv he rfl hd
        · exact rots_adn p more q t w v _ hp hm hmo h1 h2 hT hv he rfl hd
      · by_cases hd : turnS (sealS (pageS 1 (loadG (p.at v)))) q t = sealS (pageS 1 (loadG (p.at v)))
        · exact rots_bsn p more q t w v _ hp hm hmo h1 h2 hT hv he rfl hd
        · exact rots_bdn p more q t w v _ hp hm hmo h1 h2 hT hv he rfl hd
  · have MC := Lib.hid (fun w => rgmay_calls p w hp)
    rw [decide_eq_false hm] at MC
    have HB1 := Lib.hid (below_alloc (Below.refl w.heap.size w) (.cells (genC p) 25))
    have AW := Lib.hid (fun w' (hb : Below w.heap.size w w') => awake_calls w' (hT.below hb))
    clear hm hp hT
    unfold genV genC at *
    obtain ⟨p0, p1, p2, p3, p4, p5, p6, p7⟩ := p
    dsimp only at *
    go_enter Tryd.func5, Tryd.ntmps5
    go_wp2_with (first
      | (go_at_call 15; (with_reducible refine (MC.out _).mono ?_); rintro e w2 ⟨rfl, hb⟩; have HB2 := Lib.hid (below_step HB1.out hb); clear hb)
      | (go_at_call 8; (with_reducible refine (AW.out _ HB2.out).mono ?_); rintro e w3 ⟨rfl, hb⟩; have HB3 := Lib.hid (below_step HB2.out hb); clear hb))
    go_ret
    exact ⟨rfl, HB3.out⟩
end Go.Proofs.YtkahnkjbbcfbgaaDoor.Ct
