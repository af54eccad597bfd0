import Derived.Test.YthmhpjpnlngaoaaDoorLeafB
import Derived.Test.YthmhpjpnlngaoaaDoorComC
/-! Leaves: leaf.Put. -/
namespace Go.Proofs.YthmhpjpnlngaoaaDoor.Ct
open Go.RowKit
set_option linter.unusedVariables false
set_option linter.unusedSimpArgs false
def PutL (w w' : World) (l : Lf) (e : Ending) : Prop := ∃ v, e = .returned (.tuple #[v, .int .i64 (putL l).2]) ∧ Own .u8 5 w' w.heap.size v (putL l).1 ∧ Below w.heap.size w w'
/-- what is laid behind so many entries. -/
def accL (l : Lf) (k : Nat) : List Int := ((numS 2 l.no ++ numS 8 l.snap) ++ numS 1 l.es.length) ++ ((l.es.take k).map loadE).flatten
theorem accL_0 (l : Lf) : accL l 0 = (numS 2 l.no ++ numS 8 l.snap) ++ numS 1 l.es.length := by unfold accL; simp
theorem loadE_num (e : En) : loadE e = (numS 4 e.slot ++ numS 2 e.lba) ++ numS 8 e.tag := by
  rw [show (4 : Int) = ((4 : Nat) : Int) from rfl, show (2 : Int) = ((2 : Nat) : Int) from rfl, show (8 : Int) = ((8 : Nat) : Int) from rfl, numS_le (by decide) (by decide), numS_le (by decide) (by decide), numS_le (by decide) (by decide)]
  unfold loadE entV
  simp [packW]
theorem map_take_next {α β : Type} (f : α → β) (d : α) {es : List α} {k : Nat} (h : k < es.length) : (es.take (k + 1)).map f = (es.take k).map f ++ [f (es.getD k d)] := by
  rw [List.take_succ_eq_append_getElem h, List.map_append, List.getD_eq_getElem?_getD, List.getElem?_eq_getElem h]
  rfl
theorem accL_next (l : Lf) {k : Nat} (h : k < l.es.length) : accL l (k + 1) = ((accL l k ++ numS 4 (l.es.getD k noEn).slot) ++ numS 2 (l.es.getD k noEn).lba) ++ numS 8 (l.es.getD k noEn).tag := by
  unfold accL
  rw [map_take_next loadE noEn h, List.flatten_append]
  simp only [List.flatten_cons, List.flatten_nil, List.append_nil, loadE_num, List.append_assoc]
theorem accL_all (l : Lf) : accL l l.es.length = loadL l := by
  unfold accL
  rw [List.take_length, loadL_flat, show (2 : Int) = ((2 : Nat) : Int) from rfl, show (1 : Int) = ((1 : Nat) : Int) from rfl, show (8 : Int) = ((8 : Nat) : Int) from rfl, numS_le (by decide) (by decide), numS_le (by decide) (by decide), numS_le (by decide) (by decide)]
  simp
theorem flat_loadE (es : List En) : (es.map loadE).flatten.length = 14 * es.length := by
  induction es with
  | nil => rfl
  | cons e es ih => simp [loadE_len, ih]; omega
theorem accL_len (l : Lf) (k : Nat) (h : l.es.length ≤ 3) : (accL l k).length ≤ 100 := by
  unfold accL
  have h1 := numS_len 2 l.no
  have h2 := numS_len 8 l.snap
  have h3 := numS_len 1 l.es.length
  simp only [List.length_append, flat_loadE, List.length_take]
  omega
theorem len_put2 {xs : List Int} {n wd : Int} {k : Nat} (h : xs.length ≤ k) : (xs ++ numS wd n).length ≤ k + 8 := by
  have := numS_len wd n
  rw [List.length_append]; omega
/-- octet.Put, what it answers behind a letter. -/
theorem putX_calls (a : Option Addr) (cap : Nat) (xs : List Int) (n width : Int) (k : Nat) (w : World) (h : Row .u8 w a xs) (hl : xs.length ≤ k) (hk : k ≤ 1000) (n0 : 0 ≤ n) (n1 : n ≤ 18446744073709551615) :
    Calls Tryd.prog 23 #[.slice a xs.length cap, .int .u64 n, .int .i64 width] w fun e w' => ∃ a' c' ys, e = .returned (.slice a' ys.length c') ∧ Hid (ys = xs ++ numS width n) ∧ Hid (ys.length ≤ k + 8) ∧ Hid (Row .u8 w' a' ys) ∧ Below w.heap.size w w' := by
  refine (put_calls a cap xs n width w h (by omega) n0 n1).mono ?_
  rintro e w' ⟨v, he, ho, hb⟩
  obtain ⟨a', c', rfl, -, -, hr, -, -⟩ := ho.form
  exact ⟨a', c', _, he, Lib.hid rfl, Lib.hid (len_put2 hl), Lib.hid hr, hb⟩
theorem putX0_calls (n width : Int) (w : World) (n0 : 0 ≤ n) (n1 : n ≤ 18446744073709551615) :
    Calls Tryd.prog 23 #[.slice none 0 0, .int .u64 n, .int .i64 width] w fun e w' => ∃ a' c' ys, e = .returned (.slice a' ys.length c') ∧ Hid (ys = numS width n) ∧ Hid (ys.length ≤ 8) ∧ Hid (Row .u8 w' a' ys) ∧ Below w.heap.size w w' := putX_calls none 0 [] n width 0 w (row_nil _ _) (by simp) (by decide) n0 n1
set_option maxHeartbeats 4000000 in
theorem lput_no (l : Lf) (a : Option Addr) (c : Nat) (w : World) (h : RowE w a l.es) (hw : WfL l) (hc : l.es.length ≤ c) (hm : c ≤ 9223372036854775807) (hh : ¬ MayL l) : Calls Tryd.prog 8 #[leafV l a c] w fun e w' => PutL w w' l e := by
  have HB1 := Lib.hid (below_alloc (Below.refl w.heap.size w) (.cells (leafC l a c) 25))
  have mc := lmay_calls l a c _ (h.below HB1.out) hw hc hm
  rw [decide_eq_false hh] at mc
  have MC := Lib.hid mc
  have E := Lib.hid (show putL l = ([], 1) by unfold putL; rw [if_neg hh])
  clear hh h hw mc
  unfold PutL
  generalize putL l = pl at *
  unfold leafV leafC at *
  go_enter Tryd.func8, Tryd.ntmps8
  go_wp2_with (go_at_call 22; (with_reducible refine (MC.out).mono ?_); rintro e w2 ⟨rfl, hb⟩; have HB2 := Lib.hid (below_step HB1.out hb); clear hb)
  go_ret2
  rw [E.out]
  exact ⟨_, rfl, own_nil _ _ _ _, HB2.out⟩
set_option maxHeartbeats 8000000 in
theorem lput_yes (l : Lf) (a : Option Addr) (c : Nat) (w : World) (h : RowE w a l.es) (hw : WfL l) (hc : l.es.length ≤ c) (hm : c ≤ 9223372036854775807) (hh : MayL l) (hT : Tab w) : Calls Tryd.prog 8 #[leafV l a c] w fun e w' => PutL w w' l e := by
  have HB1 := Lib.hid (below_alloc (Below.refl w.heap.size w) (.cells (leafC l a c) 25))
  have HK1 := Lib.hid (show Blk (w.alloc (.cells (leafC l a c) 25)) w.heap.size 25 (leafC l a c) from Blk.new _ _ _)
  have mc := lmay_calls l a c _ (h.below HB1.out) hw hc hm
  rw [decide_eq_true hh] at mc
  have MC := Lib.hid mc
  have E := Lib.hid (show putL l = (sealS (pageS 4 (loadL l)), 0) by unfold putL; rw [if_pos hh])
  have H := Lib.hid (fun W hb => RowE.below h (w' := W) hb)
  have HR := Lib.hid (rowOk_all hh.2)
  obtain ⟨⟨⟨n0, n1⟩, ⟨s0, s1⟩, hn⟩, -⟩ := hh
  have hn3 : (l.es.length : Int) ≤ 3 := by omega
  have un := u64_of l.no n0 (by omega)
  have ul := u64_of l.es.length (by omega) (by omega)
  have AN := Lib.hid (fun k (hk : k < l.es.length) => accL_next l hk)
  have A0 := Lib.hid (accL_0 l)
  have AA := Lib.hid (accL_all l)
  have AL := Lib.hid (fun k => accL_len l k hn)
  have HLL := Lib.hid (show (loadL l).length ≤ 58 by rw [loadL_len]; omega)
  have P1 := Lib.hid (fun w => putX0_calls l.no 2 w n0 (by omega))
  have PC := Lib.hid (fun a c xs n wd k w h hl hk n0 n1 => putX_calls a c xs n wd k w h hl hk n0 n1)
  have HT := Lib.hid (fun W hb => Tab.below hT (w' := W) hb)
  have WF := Lib.hid hw.2.2
  clear h hw mc hT
  unfold PutL
  generalize putL l = pl at *
  unfold leafV leafC at *
  generalize hacc : accL l = ac at *
  generalize loadL l = ld at *
  clear hacc
  obtain ⟨no, snap, es⟩ := l
  dsimp only at *
  go_enter Tryd.func8, Tryd.ntmps8
  go_wp2_with (first
    | (go_at_call 22; (with_reducible refine (MC.out).mono ?_); rintro e w2 ⟨rfl, hb⟩; have HB := Lib.hid (below_step HB1.out hb); have HK := Lib.hid (HK1.out.below hb); obtain ⟨⟨k0, k1, k2⟩, -⟩ := cells3 HK.out; clear hb)
    | (go_at_call 23; (with_reducible refine (P1.out _).mono ?_); rintro e w3 ⟨a1, d1, y1, rfl, HY1, HL1, HX1, hb⟩; have HB := Lib.hid (below_step HB.out hb); have HK := Lib.hid (HK.out.below hb); obtain ⟨⟨k0, k1, k2⟩, -⟩ := cells3 HK.out; clear hb)
    | (go_at_call 23; (with_reducible refine (PC.out _ _ _ snap 8 8 _ HX1.out HL1.out (by decide) (by omega) (by omega)).mono ?_); rintro e w4 ⟨a2, d2, y2, rfl, HY2, HL2, HX2, hb⟩; have HB := Lib.hid (below_step HB.out hb); have HK := Lib.hid (HK.out.below hb); obtain ⟨⟨k0, k1, k2⟩, -⟩ := cells3 HK.out; clear hb)
    | (go_at_call 23; (with_reducible refine (PC.out _ _ _ (es.length : Int) 1 16 _ HX2.out HL2.out (by decide) (by omega) (by omega)).mono ?_); rintro e w5 ⟨a3, d3, y3, rfl, HY3, HL3, HX3, hb⟩; have HB := Lib.hid (below_step HB.out hb); have HK := Lib.hid (HK.out.below hb); obtain ⟨⟨k0, k1, k2⟩, -⟩ := cells3 HK.out; clear hb))
  have HY := Lib.hid (show y3 = ac 0 by rw [HY3.out, HY2.out, HY1.out, A0.out])
  clear k0 k1 k2 HX1 HX2 HL1 HL2 HY1 HY2 HY3 HL3 P1 MC A0 HK1 HB1
  go_loopw [4, 27] (fun v i wr => ∃ (k : Nat) (av : Option Addr) (cv : Nat), k ≤ es.length ∧ i = .int .i64 k ∧ v = .slice av (ac k).length cv ∧ Row .u8 wr av (ac k) ∧ Below w.heap.size w wr) (fun _ i _ => es.length - (intOf i).toNat)
  case atStart => exact ⟨0, a3, d3, by omega, rfl, by rw [← HY.out], by rw [← HY.out]; exact HX3.out, HB.out⟩
  case round =>
    clear HX3 HB HK HY
    obtain ⟨k, av, cv, hk, rfl, rfl, hrow, hbel⟩ := hrel
    have HB := Lib.hid hbel
    have HX := Lib.hid hrow
    clear hbel hrow
    by_cases hlt : k < es.length
    · have hlti : (k : Int) < es.length := by omega
      obtain ⟨ad, rfl⟩ := (H.out _ (Below.refl _ _)).addr (by omega)
      obtain ⟨c0, c1, c2⟩ := (H.out _ HB.out).at_ hlt
      have an := AN.out k hlt
      have hl := AL.out k
      obtain ⟨⟨r0, r1⟩, ⟨l0, l1⟩, t0, t1⟩ := HR.out (es.getD k noEn) (by rw [List.getD_eq_getElem?_getD, List.getElem?_eq_getElem hlt]; exact List.getElem_mem hlt)
      generalize es.getD k noEn = x at *
      obtain ⟨xs, xl, xt⟩ := x
      dsimp only at *
      have us := u64_of xs (by omega) (by omega)
      have ux := u64_of xl l0 (by omega)
      have AN2 := Lib.hid an
      have HL := Lib.hid hl
      have hb1 := below_alloc HB.out (.cells #[.int .i64 xs, .int .i64 xl, .int .u64 xt] 52)
      have hk1 : Blk (wr.alloc (.cells #[.int .i64 xs, .int .i64 xl, .int .u64 xt] 52)) wr.heap.size 52 #[.int .i64 xs, .int .i64 xl, .int .u64 xt] := Blk.new _ _ _
      have HX1 := Lib.hid (HX.out.alloc (.cells #[.int .i64 xs, .int .i64 xl, .int .u64 xt] 52))
      have HBA := Lib.hid hb1
      have HKA := Lib.hid hk1
      clear an hl hb1 hk1
      generalize hak : ac k = ak at *
      have HAK := Lib.hid hak
      clear hak
      go_wp2_with (first
        | (go_at_call 23; (with_reducible refine (PC.out _ _ _ xs 4 100 _ HX1.out HL.out (by decide) (by omega) (by omega)).mono ?_); rintro e w6 ⟨a6, d6, y6, rfl, HY6, HL6, HX6, hb⟩; have HB6 := Lib.hid (below_step HBA.out hb); have HK6 := Lib.hid (HKA.out.below hb); obtain ⟨⟨k0, k1, k2⟩, -⟩ := cells3 HK6.out; clear hb)
        | (go_at_call 23; (with_reducible refine (PC.out _ _ _ xl 2 108 _ HX6.out HL6.out (by decide) (by omega) (by omega)).mono ?_); rintro e w7 ⟨a7, d7, y7, rfl, HY7, HL7, HX7, hb⟩; have HB7 := Lib.hid (below_step HB6.out hb); have HK7 := Lib.hid (HK6.out.below hb); obtain ⟨⟨k0, k1, k2⟩, -⟩ := cells3 HK7.out; clear hb)
        | (go_at_call 23; (with_reducible refine (PC.out _ _ _ xt 8 116 _ HX7.out HL7.out (by decide) (by omega) (by omega)).mono ?_); rintro e w8 ⟨a8, d8, y8, rfl, HY8, HL8, HX8, hb⟩; have HB8 := Lib.hid (below_step HB7.out hb); clear hb))
      have HY := Lib.hid (show y8 = ac (k + 1) by rw [AN2.out, HY8.out, HY7.out, HY6.out])
      go_roundw
      case rel => exact ⟨k + 1, a8, d8, by omega, by go_num, by rw [← HY.out], by rw [← HY.out]; exact HX8.out, HB8.out⟩
      case measure => simp [intOf]; omega
    · obtain rfl : k = es.length := by omega
      rw [AA.out] at HX
      rw [AA.out]
      have PP := Lib.hid (pput_ok 4 av cv ld wr (by decide) HX.out HLL.out (HT.out _ HB.out))
      go_wp2_with (go_at_call 24; (with_reducible refine (PP.out).mono ?_); rintro e w9 ⟨v, rfl, ho, hb⟩; have HO9 := Lib.hid (ho.mono HB.out.size); have HB9 := Lib.hid (below_step HB.out hb); clear ho hb)
      go_ret2
      rw [E.out]
      exact ⟨_, rfl, HO9.out, HB9.out⟩
theorem lput_calls (l : Lf) (a : Option Addr) (c : Nat) (w : World) (h : RowE w a l.es) (hw : WfL l) (hc : l.es.length ≤ c) (hm : c ≤ 9223372036854775807) (hT : Tab w) : Calls Tryd.prog 8 #[leafV l a c] w fun e w' => PutL w w' l e := by
  by_cases hh : MayL l
  · exact lput_yes l a c w h hw hc hm hh hT
  · exact lput_no l a c w h hw hc hm hh
end Go.Proofs.YthmhpjpnlngaoaaDoor.Ct
