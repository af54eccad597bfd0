import Derived.Test.YtgkodkgonafnlaaDoorRecA
import Derived.Test.YtgkodkgonafnlaaDoorObj
import Derived.Test.YtgkodkgonafnlaaDoorPack
/-! record.Put. -/
namespace Go.Proofs.YtgkodkgonafnlaaDoor.Ct
open Go.RowKit
set_option linter.unusedVariables false
set_option linter.unusedSimpArgs false
/-- a variable that has a row of octets. -/
def Bx (w : World) (g : Nat) (xs : List Int) : Prop := ∃ a cap, Blk w g 25 #[.slice a xs.length cap] ∧ xs.length ≤ cap ∧ cap ≤ 9223372036854775807 ∧ Row .u8 w a xs ∧ ∀ ad, a = some ad → g < ad.block
theorem bx_new (w : World) : Bx (w.alloc (.cells #[.slice none 0 0] 25)) w.heap.size [] := ⟨none, 0, Blk.new _ _ _, by simp, by omega, row_nil _ _, fun _ h => by cases h⟩
theorem Bx.below {w w' : World} {g : Nat} {xs : List Int} (h : Bx w g xs) (hb : Below w.heap.size w w') : Bx w' g xs := by
  obtain ⟨a, cap, h1, h2, h3, h4, h5⟩ := h
  exact ⟨a, cap, h1.below hb, h2, h3, h4.below hb, h5⟩
theorem Bx.set_ {w : World} {g : Nat} {xs ys : List Int} {v : Value} (h : Bx w g xs) (ho : Own .u8 5 w (g + 1) v ys) : Bx (w.setCell ⟨g, 0, none⟩ v) g ys := by
  obtain ⟨a, cap, h1, h2, h3, h4, h5⟩ := h
  obtain ⟨b, c, rfl, k1, k2, k3, k4, k5⟩ := ho.form
  refine ⟨b, c, ?_, k1, k2, k3.grown (grown_setCell w ⟨g, 0, none⟩ _) (fun ad e => ?_), fun ad e => ?_⟩
  · have := h1.set_ 0 (.slice b ys.length c)
    simpa using this
  · have := (k5 ad e).2.1
    simp only [ne_eq, Option.some.injEq]; omega
  · have := (k5 ad e).2.1
    omega
set_option maxHeartbeats 4000000 in
theorem putc_calls (g : Nat) (xs : List Int) (n width : Int) (w : World) (h : Bx w g xs) (hl : xs.length ≤ 1000) (n0 : 0 ≤ n) (n1 : n ≤ 18446744073709551615) :
    Calls Tryd.prog 17 #[.int .u64 n, .int .i64 width, .pointer (some ⟨g, 0, none⟩)] w fun e w' => e = .returned (.tuple #[]) ∧ Bx w' g (xs ++ numS width n) ∧ w.grownBy w' (some g) := by
  obtain ⟨a, cap, hb, h2, h3, hr, h5⟩ := h
  have hgl := hb.lt
  have PC := Lib.hid (put_calls a cap xs n width w hr (by omega) n0 n1)
  have HBX := Lib.hid (show Bx w g xs from ⟨a, cap, hb, h2, h3, hr, h5⟩)
  have HBL := Lib.hid hb
  have c0 := hb.cell 0
  simp only [List.getElem?_toArray, List.getElem?_cons_zero] at c0
  clear hr h5 hb
  go_enter Tryd.func17, Tryd.ntmps17
  go_wp2_with (go_at_call 18; (with_reducible refine (PC.out).mono ?_); rintro e w1 ⟨v, rfl, ho, hb⟩; obtain ⟨va, vc, rfl, -, -, -, -, -⟩ := ho.form; have HO := Lib.hid ho; have HB := Lib.hid hb; have k0 := (HBL.out.below hb).cell 0; simp only [List.getElem?_toArray, List.getElem?_cons_zero] at k0; have f0 := (HBL.out.below hb).frozen 0; clear ho hb)
  go_end0
  have HX := (HBX.out.below HB.out).set_ (HO.out.mono (show g + 1 ≤ w.heap.size by omega))
  rw [List.length_append] at HX
  refine ⟨rfl, HX, (grown_of_below HB.out (some g)).trans (grown_setCell w1 ⟨g, 0, none⟩ _)⟩
theorem rec_cells {w : World} {g : Nat} {r : Rec} (h : Blk w g 24 (recC r)) : w.cell? ⟨g, 0, none⟩ = some (.int .u64 r.seq) ∧ w.cell? ⟨g, 1, none⟩ = some (.int .u64 r.epo) ∧ w.cell? ⟨g, 2, none⟩ = some (.int .i64 r.ext) ∧ w.cell? ⟨g, 3, none⟩ = some (.int .u64 r.gen) ∧ w.cell? ⟨g, 4, none⟩ = some (.int .u8 r.msk) :=
  ⟨h.cell 0, h.cell 1, h.cell 2, h.cell 3, h.cell 4⟩
def PutR (w w' : World) (r : Rec) (e : Ending) : Prop := ∃ v, e = .returned (.tuple #[v, .int .i64 (putR r).2]) ∧ Own .u8 5 w' w.heap.size v (putR r).1 ∧ Below w.heap.size w w'
set_option maxHeartbeats 4000000 in
theorem recput_no (r : Rec) (w : World) (hr : WfR r) (hm : ¬ MayR r) : Calls Tryd.prog 6 #[recV r] w fun e w' => PutR w w' r e := by
  have MC := Lib.hid (fun w => rmay_calls r w hr)
  rw [decide_eq_false hm] at MC
  have E := Lib.hid (show putR r = ([], 1) by unfold putR; rw [if_neg hm])
  clear hm hr
  unfold recV recC at MC
  unfold recV recC
  go_enter Tryd.func6, Tryd.ntmps6
  go_wp2_with (go_at_call 16; (with_reducible refine (MC.out _).mono ?_); rintro e w' ⟨rfl, rfl⟩)
  go_ret2
  unfold PutR
  rw [E.out]
  exact ⟨_, rfl, own_nil _ _ _ _, below_alloc (below_alloc (Below.refl _ _) _) _⟩
theorem len_put {xs : List Int} {n wd : Int} {k : Nat} (h : xs.length ≤ k) : (xs ++ numS wd n).length ≤ k + 8 := by
  have := numS_len wd n
  rw [List.length_append]; omega
theorem u64_of (z : Int) (h0 : 0 ≤ z) (h1 : z ≤ 18446744073709551615) : IntKind.u64.wrap z = z := by rw [u64_def]; omega
set_option maxHeartbeats 4000000 in
theorem recput_yes (r : Rec) (w : World) (hr : WfR r) (hm : MayR r) (hT : Tab w) : Calls Tryd.prog 6 #[recV r] w fun e w' => PutR w w' r e := by
  have MC := Lib.hid (fun w => rmay_calls r w hr)
  rw [decide_eq_true hm] at MC
  have E := Lib.hid (show putR r = (sealS (pageS 2 (loadR r)), 0) by unfold putR; rw [if_pos hm])
  obtain ⟨⟨s0, s1⟩, ⟨e0, e1⟩, -, ⟨g0, g1⟩, m0, m1⟩ := hr
  obtain ⟨-, -, x0, x1, -, -, -⟩ := hm
  have x2 : r.ext ≤ 18446744073709551615 := by omega
  have m2 : r.msk ≤ 18446744073709551615 := by omega
  have ux := u64_of r.ext x0 (by omega)
  have um := u64_of r.msk m0 (by omega)
  have hb0 : Blk (w.alloc (.cells (recC r) 24)) w.heap.size 24 (recC r) := Blk.new _ _ _
  have hb1 := (hb0.alloc (.cells (recC r) 24)).alloc (.cells #[.slice none 0 0] 25)
  have hx := bx_new ((w.alloc (.cells (recC r) 24)).alloc (.cells (recC r) 24))
  have hlow := below_alloc (below_alloc (below_alloc (Below.refl w.heap.size w) (.cells (recC r) 24)) (.cells (recC r) 24)) (.cells #[.slice none 0 0] 25)
  have hsz : ((w.alloc (.cells (recC r) 24)).alloc (.cells (recC r) 24)).heap.size = w.heap.size + 1 + 1 := by simp
  rw [hsz] at hx
  clear hb0 hsz
  unfold recV recC
  unfold recV recC at MC
  unfold recC at hb1 hx hlow
  go_enter Tryd.func6, Tryd.ntmps6
  go_upto_region 5 with (go_at_call 16; (with_reducible refine (MC.out _).mono ?_); rintro e w' ⟨rfl, rfl⟩)
  generalize ((w.alloc (.cells #[.int .u64 r.seq, .int .u64 r.epo, .int .i64 r.ext, .int .u64 r.gen, .int .u8 r.msk] 24)).alloc (.cells #[.int .u64 r.seq, .int .u64 r.epo, .int .i64 r.ext, .int .u64 r.gen, .int .u8 r.msk] 24)).alloc (.cells #[.slice none 0 0] 25) = w0 at *
  have HNE := Lib.hid (show w.heap.size ≠ w.heap.size + 1 + 1 by omega)
  have HGE := Lib.hid (show w.heap.size ≤ w.heap.size + 1 + 1 by omega)
  generalize w.heap.size + 1 + 1 = g at *
  have PC := Lib.hid (fun w xs n width h hl n0 n1 => putc_calls g xs n width w h hl n0 n1)
  have HX0 := Lib.hid hx
  have HK0 := Lib.hid hb1
  have HW0 := Lib.hid hlow
  have HL0 := Lib.hid (show ([] : List Int).length ≤ 0 by decide)
  obtain ⟨c0, c1, c2, c3, c4⟩ := rec_cells hb1
  have HT := Lib.hid hT
  clear hx hb1 hlow hT
  go_upto_region 10 with (first
    | (go_at_call 17; (with_reducible refine (PC.out _ _ (r.seq) 8 HX0.out (Nat.le_trans HL0.out (by decide)) s0 s1).mono ?_); rintro e w1 ⟨rfl, hx, hg⟩; have HX1 := Lib.hid hx; have HL1 := Lib.hid (len_put (n := r.seq) (k := 0) (wd := 8) HL0.out); have HK1 := Lib.hid (HK0.out.grown hg (by simpa using HNE.out)); have HW1 := Lib.hid (below_of_grown HW0.out hg HW0.out.size HGE.out); obtain ⟨c0, c1, c2, c3, c4⟩ := rec_cells HK1.out; clear hx hg)
    | (go_at_call 17; (with_reducible refine (PC.out _ _ (r.epo) 8 HX1.out (Nat.le_trans HL1.out (by decide)) e0 e1).mono ?_); rintro e w2 ⟨rfl, hx, hg⟩; have HX2 := Lib.hid hx; have HL2 := Lib.hid (len_put (n := r.epo) (k := 8) (wd := 8) HL1.out); have HK2 := Lib.hid (HK1.out.grown hg (by simpa using HNE.out)); have HW2 := Lib.hid (below_of_grown HW1.out hg HW1.out.size HGE.out); obtain ⟨c0, c1, c2, c3, c4⟩ := rec_cells HK2.out; clear hx hg)
    | (go_at_call 17; (with_reducible refine (PC.out _ _ (r.ext) 2 HX2.out (Nat.le_trans HL2.out (by decide)) x0 x2).mono ?_); rintro e w3 ⟨rfl, hx, hg⟩; have HX3 := Lib.hid hx; have HL3 := Lib.hid (len_put (n := r.ext) (k := 16) (wd := 2) HL2.out); have HK3 := Lib.hid (HK2.out.grown hg (by simpa using HNE.out)); have HW3 := Lib.hid (below_of_grown HW2.out hg HW2.out.size HGE.out); obtain ⟨c0, c1, c2, c3, c4⟩ := rec_cells HK3.out; clear hx hg)
    | (go_at_call 17; (with_reducible refine (PC.out _ _ (r.gen) 8 HX3.out (Nat.le_trans HL3.out (by decide)) g0 g1).mono ?_); rintro e w4 ⟨rfl, hx, hg⟩; have HX4 := Lib.hid hx; have HL4 := Lib.hid (len_put (n := r.gen) (k := 24) (wd := 8) HL3.out); have HK4 := Lib.hid (HK3.out.grown hg (by simpa using HNE.out)); have HW4 := Lib.hid (below_of_grown HW3.out hg HW3.out.size HGE.out); obtain ⟨c0, c1, c2, c3, c4⟩ := rec_cells HK4.out; clear hx hg)
    | (go_at_call 17; (with_reducible refine (PC.out _ _ (r.msk) 1 HX4.out (Nat.le_trans HL4.out (by decide)) m0 m2).mono ?_); rintro e w5 ⟨rfl, hx, hg⟩; have HX5 := Lib.hid hx; have HL5 := Lib.hid (len_put (n := r.msk) (k := 32) (wd := 1) HL4.out); have HK5 := Lib.hid (HK4.out.grown hg (by simpa using HNE.out)); have HW5 := Lib.hid (below_of_grown HW4.out hg HW4.out.size HGE.out); obtain ⟨c0, c1, c2, c3, c4⟩ := rec_cells HK5.out; clear hx hg))
  have HLD := Lib.hid (show [] ++ numS 8 r.seq ++ numS 8 r.epo ++ numS 2 r.ext ++ numS 8 r.gen ++ numS 1 r.msk = loadR r by
    rw [show (8 : Int) = ((8 : Nat) : Int) from rfl, show (2 : Int) = ((2 : Nat) : Int) from rfl, show (1 : Int) = ((1 : Nat) : Int) from rfl, numS_le (by decide) (by decide), numS_le (by decide) (by decide), numS_le (by decide) (by decide), numS_le (by decide) (by decide), numS_le (by decide) (by decide)]
    unfold loadR; simp)
  rw [HLD.out] at HX5
  obtain ⟨va, vc, kb, -, -, kr, -⟩ := HX5.out
  have pc := pput_calls 2 va vc (loadR r) w5 (by unfold I64; decide) kr (HT.out.below HW5.out)
  unfold PutS at pc
  rw [show putP 2 (loadR r) = (sealS (pageS 2 (loadR r)), 0) by unfold putP; rw [if_pos (by decide), if_neg (by rw [loadR_len]; decide)]] at pc
  rw [loadR_len] at pc kb
  have PG := Lib.hid pc
  have k0 : w5.cell? ⟨g, 0, none⟩ = some (.slice va 27 vc) := kb.cell 0
  clear kb kr pc
  go_wp2_with (go_at_call 19; (with_reducible refine (PG.out).mono ?_); rintro e w6 ⟨v, rfl, ho, hb⟩; have HO := Lib.hid ho; have HB := Lib.hid hb; clear ho hb)
  go_ret2
  unfold PutR
  rw [E.out]
  exact ⟨_, rfl, HO.out.mono HW5.out.size, below_step HW5.out HB.out⟩
theorem recput_calls (r : Rec) (w : World) (hr : WfR r) (hT : Tab w) : Calls Tryd.prog 6 #[recV r] w fun e w' => PutR w w' r e := by
  by_cases hm : MayR r
  · exact recput_yes r w hr hm hT
  · exact recput_no r w hr hm
end Go.Proofs.YtgkodkgonafnlaaDoor.Ct
