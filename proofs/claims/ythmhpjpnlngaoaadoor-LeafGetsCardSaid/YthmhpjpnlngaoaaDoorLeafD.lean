import Derived.Test.YthmhpjpnlngaoaaDoorLeafC
import Derived.Test.YthmhpjpnlngaoaaDoorRowsO
/-! Leaves: the reference's Put. -/
namespace Go.Proofs.YthmhpjpnlngaoaaDoor.Ct
open Go.RowKit
set_option linter.unusedVariables false
set_option linter.unusedSimpArgs false
theorem numS1_eq {n : Int} (h0 : 0 ≤ n) (h1 : n ≤ 255) : numS 1 n = [n] := by
  rw [show (1 : Int) = ((1 : Nat) : Int) from rfl, numS_le (by decide) (by decide)]
  simp [leS]; omega
theorem own_one {w : World} {base : Nat} {m : Int} (h0 : 0 ≤ m) (h1 : m ≤ 255) (hb : base ≤ w.heap.size) : Own .u8 5 (w.alloc (.cells #[.int .u8 m] 5)) base (.slice (some ⟨w.heap.size, 0, none⟩) 1 1) [m] :=
  own_lit (k := .u8) (E := 5) (w := w) [m] hb (by simp) (by intro x hx; simp at hx; subst hx; exact u8_wf h0 h1)
theorem own_made {W w' : World} {base : Nat} {m : Int} (h0 : 0 ≤ m) (h1 : m ≤ 255) (hb : base ≤ W.heap.size) (h : Below (W.alloc (.cells #[.int .u8 m] 5)).heap.size (W.alloc (.cells #[.int .u8 m] 5)) w') : Own .u8 5 w' base (.slice (some ⟨W.heap.size, 0, none⟩) 1 1) [m] := (own_one h0 h1 hb).below h
theorem own_made1 {W w' : World} {base : Nat} {m : Int} (h0 : 0 ≤ m) (h1 : m ≤ 255) (hb : base ≤ W.heap.size) (h : Below (W.alloc (.cells #[.int .u8 m] 5)).drew.heap.size (W.alloc (.cells #[.int .u8 m] 5)).drew w') : Own .u8 5 w' base (.slice (some ⟨W.heap.size, 0, none⟩) 1 1) [m] :=
  Own.below (w := (W.alloc (.cells #[.int .u8 m] 5)).drew) (own_one h0 h1 hb) h
def rowsL (l : Lf) (k : Nat) : List (List Int) := [numS 2 l.no, numS 8 l.snap, [(l.es.length : Int)]] ++ ((l.es.take k).map fun e => [numS 4 e.slot, numS 2 e.lba, numS 8 e.tag]).flatten
theorem rowsL_next (l : Lf) {k : Nat} (hk : k < l.es.length) : rowsL l (k + 1) = rowsL l k ++ [numS 4 (l.es.getD k noEn).slot, numS 2 (l.es.getD k noEn).lba, numS 8 (l.es.getD k noEn).tag] := by
  unfold rowsL
  rw [map_take_next _ noEn hk, List.flatten_append]
  simp
theorem rowsL_len (l : Lf) {k : Nat} (hk : k ≤ l.es.length) : (rowsL l k).length = 3 + 3 * k := by
  unfold rowsL
  have key : ∀ es : List En, ((es.map fun e => [numS 4 e.slot, numS 2 e.lba, numS 8 e.tag]).flatten).length = 3 * es.length := by
    intro es
    induction es with
    | nil => rfl
    | cons e es ih => simp [ih]; omega
  rw [List.length_append, key, List.length_take, Nat.min_eq_left hk]; rfl
theorem rowsL_all (l : Lf) (hn : l.es.length ≤ 3) : (rowsL l l.es.length).flatten = loadL l := by
  rw [← accL_all]
  unfold rowsL accL
  rw [numS1_eq (by omega) (by omega), List.take_length, List.flatten_append]
  have key : ∀ es : List En, ((es.map fun e => [numS 4 e.slot, numS 2 e.lba, numS 8 e.tag]).flatten).flatten = (es.map loadE).flatten := by
    intro es
    induction es with
    | nil => rfl
    | cons e es ih => simp only [List.map_cons, List.flatten_cons, List.flatten_append, ih, loadE_num]; simp
  rw [key]; simp
theorem step_appRows {ops : Array Oper} {o : Oper} {a : Act} {w : World} {K : Act → World → Prop} {Q : Exit → Act → World → Prop} {F : Prop} {base : Nat} {sv : Value} {L M : List (List Int)} (hgd : o.guard = none) (s x : Operand) (ho : o.op = .call { callee := .builtin .append, args := #[s, x], argTypes := #[55, 55] })
    (hs : a.eval s = sv) (h : OwnS w base sv L) (g : Nat) (hx : a.eval x = .slice (some ⟨g, 0, none⟩) M.length M.length) (vs : List Value) (hvl : vs.length = M.length) (hc : Blk w g 27 vs.toArray) (hv : ∀ j, j < M.length → ∃ vj, vs[j]? = some vj ∧ Own .u8 5 w base vj (M.getD j []))
    (hlen : L.length + M.length ≤ 1000) (hbase : base ≤ w.heap.size)
    (hK : ∀ v' w', OwnS w' base v' (L ++ M) → Fr base mineRow w w' → K (a.put o.dst v') w') : if Region.wanted o (yielded ops a.tmps) = true then Oper.wp Tryd.prog o a w K Q else F := by
  obtain ⟨xs, h1, h2⟩ := h
  refine step_appSL (mine := mineRow) 55 (.slice none 0 0) 24 Tryd.underlying55 infoRow rfl (by decide) mineRow_row hgd s x ho hs h1 g M.length hx vs.toArray (by simp; omega) ⟨_, _, hc⟩ ?_ (by omega) (by decide) hbase ?_
  · intro u hu
    obtain ⟨j, hj, rfl⟩ := List.getElem_of_mem (by simpa using hu)
    obtain ⟨vj, e, ho⟩ := hv j (by omega)
    rw [List.getElem?_eq_getElem hj] at e
    injection e with e
    rw [e]
    obtain ⟨aj, cj, rfl, -⟩ := ho.form
    rfl
  · intro v' w' r1 r2
    refine hK v' w' ⟨xs ++ vs, by rw [List.length_append]; simpa using r1, fun j hj => ?_⟩ r2
    rw [List.length_append] at hj
    have hxl := h1.1
    by_cases hjl : j < L.length
    · obtain ⟨vj, e, ho⟩ := h2 j hjl
      refine ⟨vj, by rw [List.getElem?_append_left (by omega)]; exact e, ?_⟩
      rw [getD_append_left hjl]
      exact ho.fr r2 mineRow_u8
    · obtain ⟨vj, e, ho⟩ := hv (j - L.length) (by omega)
      refine ⟨vj, by rw [List.getElem?_append_right (by omega), show xs.length = L.length by omega]; exact e, ?_⟩
      rw [getD_append_right (by omega)]
      exact ho.fr r2 mineRow_u8
theorem ownS_three {w : World} {base g : Nat} {v1 v2 v3 : Value} {x1 x2 x3 : List Int} (hg : g = w.heap.size) (hb : base ≤ w.heap.size) (h1 : Own .u8 5 w base v1 x1) (h2 : Own .u8 5 w base v2 x2) (h3 : Own .u8 5 w base v3 x3) :
    OwnS (w.alloc (.cells #[v1, v2, v3] 27)) base (.slice (some ⟨g, 0, none⟩) 3 3) [x1, x2, x3] :=
  ownS_lit [v1, v2, v3] [x1, x2, x3] hg hb rfl (by simp) (fun j hj => by
    have : j = 0 ∨ j = 1 ∨ j = 2 := by simp at hj; omega
    rcases this with rfl | rfl | rfl
    · exact ⟨_, rfl, h1⟩
    · exact ⟨_, rfl, h2⟩
    · exact ⟨_, rfl, h3⟩)
theorem three_at {w : World} {base : Nat} {v1 v2 v3 : Value} {x1 x2 x3 : List Int} (h1 : Own .u8 5 w base v1 x1) (h2 : Own .u8 5 w base v2 x2) (h3 : Own .u8 5 w base v3 x3) :
    ∀ j, j < [x1, x2, x3].length → ∃ vj, [v1, v2, v3][j]? = some vj ∧ Own .u8 5 w base vj ([x1, x2, x3].getD j []) := fun j hj => by
  have : j = 0 ∨ j = 1 ∨ j = 2 := by simp at hj; omega
  rcases this with rfl | rfl | rfl
  · exact ⟨_, rfl, h1⟩
  · exact ⟨_, rfl, h2⟩
  · exact ⟨_, rfl, h3⟩
set_option maxHeartbeats 4000000 in
theorem rlput_no (l : Lf) (a : Option Addr) (c : Nat) (w : World) (h : RowE w a l.es) (hw : WfL l) (hc : l.es.length ≤ c) (hm : c ≤ 9223372036854775807) (hh : ¬ MayL l) : Calls Tryd.prog 9 #[leafV l a c] w fun e w' => PutL w w' l e := by
  have HB1 := Lib.hid (below_alloc (Below.refl w.heap.size w) (.cells (leafC l a c) 25))
  have mc := rmayL_calls l a c _ (h.below HB1.out) hw hc hm
  rw [decide_eq_false hh] at mc
  have MC := Lib.hid mc
  have E := Lib.hid (show putL l = ([], 1) by unfold putL; rw [if_neg hh])
  clear hh h hw mc
  unfold PutL
  generalize putL l = pl at *
  unfold leafV leafC at *
  go_enter Tryd.func9, Tryd.ntmps9
  go_wp2_with (go_at_call 25; (with_reducible refine (MC.out).mono ?_); rintro e w2 ⟨rfl, hb⟩; have HB2 := Lib.hid (below_step HB1.out hb); clear hb)
  go_ret2
  rw [E.out]
  exact ⟨_, rfl, own_nil _ _ _ _, HB2.out⟩
set_option maxHeartbeats 8000000 in
theorem rlput_yes (l : Lf) (a : Option Addr) (c : Nat) (w : World) (h : RowE w a l.es) (hw : WfL l) (hc : l.es.length ≤ c) (hm : c ≤ 9223372036854775807) (hh : MayL l) : Calls Tryd.prog 9 #[leafV l a c] w fun e w' => PutL w w' l e := by
  have HB1 := Lib.hid (below_alloc (Below.refl w.heap.size w) (.cells (leafC l a c) 25))
  have HK1 := Lib.hid (show Blk (w.alloc (.cells (leafC l a c) 25)) w.heap.size 25 (leafC l a c) from Blk.new _ _ _)
  have mc := rmayL_calls l a c _ (h.below HB1.out) hw hc hm
  rw [decide_eq_true hh] at mc
  have MC := Lib.hid mc
  have E := Lib.hid (show putL l = (sealS (pageS 4 (loadL l)), 0) by unfold putL; rw [if_pos hh])
  have H := Lib.hid (fun W hb => RowE.below h (w' := W) hb)
  have HR := Lib.hid (rowOk_all hh.2)
  obtain ⟨⟨⟨n0, n1⟩, ⟨s0, s1⟩, hn⟩, -⟩ := hh
  have hn3 : (l.es.length : Int) ≤ 3 := by omega
  have un := u64_of l.no n0 (by omega)
  have ul8 : IntKind.u8.wrap (l.es.length : Int) = (l.es.length : Int) := by rw [show IntKind.u8.wrap (l.es.length : Int) = (l.es.length : Int) % 256 from rfl]; omega
  have RN := Lib.hid (fun k (hk : k < l.es.length) => rowsL_next l hk)
  have R0 := Lib.hid (show rowsL l 0 = [numS 2 l.no, numS 8 l.snap, [(l.es.length : Int)]] by simp [rowsL])
  have RL := Lib.hid (fun k (hk : k ≤ l.es.length) => rowsL_len l hk)
  have RA := Lib.hid (rowsL_all l hn)
  have HLL := Lib.hid (show (loadL l).length ≤ 58 by rw [loadL_len]; omega)
  have N1 := Lib.hid (fun w => num_calls l.no 2 w n0 (by omega) (by unfold I64; decide))
  have N2 := Lib.hid (fun w => num_calls l.snap 8 w (by omega) (by omega) (by unfold I64; decide))
  have NC := Lib.hid (fun n wd w h0 h1 hw => num_calls n wd w h0 h1 hw)
  clear h hw mc
  unfold PutL
  generalize putL l = pl at *
  unfold leafV leafC at *
  generalize hacc : rowsL l = ro at *
  generalize loadL l = ld at *
  clear hacc
  obtain ⟨no, snap, es⟩ := l
  dsimp only at *
  have u0 : 0 ≤ (es.length : Int) := by omega
  have u1 : (es.length : Int) ≤ 255 := by omega
  go_enter Tryd.func9, Tryd.ntmps9
  go_upto_region 3 with (go_at_call 25; (with_reducible refine (MC.out).mono ?_); rintro e w2 ⟨rfl, hb⟩; have HB := Lib.hid (below_step HB1.out hb); have HK := Lib.hid (HK1.out.below hb); clear hb)
  go_region_held (fun w' => w'.cell? ⟨w.heap.size, 0, none⟩ = some (.int .i64 no) ∧ w'.cell? ⟨w.heap.size, 1, none⟩ = some (.int .u64 snap) ∧ w'.cell? ⟨w.heap.size, 2, none⟩ = some (.slice a es.length c))
    (exact (cells3 ((by repeat (first | with_reducible exact HK.out | with_reducible apply Blk.alloc | with_reducible apply Blk.drewN | with_reducible apply Blk.drew | exact HK.out)))).1)
    (first
    | (go_at_call 26; (with_reducible refine (N1.out _).mono ?_); rintro e w3 ⟨v1, rfl, ho, hb⟩; obtain ⟨a1, d1, rfl, -, -, -, -, -⟩ := ho.form; have HO1 := Lib.hid (Own.mono (base' := w.heap.size) ho (by have := HB.out.size; simp <;> omega)); (first | (have HM := Lib.hid (own_made1 u0 u1 HB.out.size hb)) | (have HM := Lib.hid (own_made (base := w.heap.size) u0 u1 (by have := HB.out.size; simp <;> omega) hb)) | (have HM := Lib.hid (Own.below HM.out hb)) | skip); have HB := Lib.hid (below_step ((by repeat (first | with_reducible exact HB.out | with_reducible apply below_alloc | with_reducible apply below_drewN | with_reducible apply below_drew))) hb); have HK := Lib.hid (Blk.below ((by repeat (first | with_reducible exact HK.out | with_reducible apply Blk.alloc | with_reducible apply Blk.drewN | with_reducible apply Blk.drew | exact HK.out))) hb); clear ho hb)
    | (go_at_call 26; (with_reducible refine (N2.out _).mono ?_); rintro e w4 ⟨v1, rfl, ho, hb⟩; obtain ⟨a2, d2, rfl, -, -, -, -, -⟩ := ho.form; have HO2 := Lib.hid (Own.mono (base' := w.heap.size) ho (by have := HB.out.size; simp <;> omega)); have HO1 := Lib.hid (Own.below ((by repeat (first | with_reducible apply Own.alloc | with_reducible apply Own.drewN | with_reducible apply Own.drew | exact HO1.out))) hb); (first | (have HM := Lib.hid (own_made1 u0 u1 HB.out.size hb)) | (have HM := Lib.hid (own_made (base := w.heap.size) u0 u1 (by have := HB.out.size; simp <;> omega) hb)) | (have HM := Lib.hid (Own.below HM.out hb)) | skip); have HB := Lib.hid (below_step ((by repeat (first | with_reducible exact HB.out | with_reducible apply below_alloc | with_reducible apply below_drewN | with_reducible apply below_drew))) hb); have HK := Lib.hid (Blk.below ((by repeat (first | with_reducible exact HK.out | with_reducible apply Blk.alloc | with_reducible apply Blk.drewN | with_reducible apply Blk.drew | exact HK.out))) hb); clear ho hb))
  all_goals
    go_wp2
    go_loopw [4, 5] (fun v i wr => ∃ k : Nat, k ≤ es.length ∧ i = .int .i64 k ∧ OwnS wr w.heap.size v (ro k) ∧ Blk wr w.heap.size 25 #[.int .i64 no, .int .u64 snap, .slice a es.length c] ∧ Below w.heap.size w wr) (fun _ i _ => es.length - (intOf i).toNat)
    case atStart =>
      refine ⟨0, by omega, rfl, ?_, (by repeat (first | with_reducible exact HK.out | with_reducible apply Blk.alloc | with_reducible apply Blk.drewN | with_reducible apply Blk.drew | exact HK.out)), (by repeat (first | with_reducible exact HB.out | with_reducible apply below_alloc | with_reducible apply below_drewN | with_reducible apply below_drew))⟩
      rw [R0.out]
      first
        | exact ownS_three (by simp) HB.out.size HO1.out HO2.out HM.out
        | exact ownS_three (by simp) (by have := HB.out.size; simp; omega) (HO1.out.alloc _) (HO2.out.alloc _) (own_one u0 u1 HB.out.size)
    case round =>
      clear HB HK HO1 HO2
      obtain ⟨k, hk, rfl, hos, hblk, hbel⟩ := hrel
      by_cases hlt : k < es.length
      · have hlti : (k : Int) < es.length := by omega
        obtain ⟨ad, rfl⟩ := (H.out _ (Below.refl _ _)).addr (by omega)
        obtain ⟨c0, c1, c2⟩ := (H.out _ hbel).at_ hlt
        obtain ⟨⟨k0, k1, k2⟩, -⟩ := cells3 hblk
        have rn := RN.out k hlt
        obtain ⟨⟨r0, r1⟩, ⟨l0, l1⟩, t0, t1⟩ := HR.out (es.getD k noEn) (by rw [List.getD_eq_getElem?_getD, List.getElem?_eq_getElem hlt]; exact List.getElem_mem hlt)
        generalize es.getD k noEn = x at *
        obtain ⟨xs, xl, xt⟩ := x
        dsimp only at *
        have us := u64_of xs (by omega) (by omega)
        have ux := u64_of xl l0 (by omega)
        have RN2 := Lib.hid rn
        have hrl := RL.out k hk
        have HRL := Lib.hid hrl
        have N4 := Lib.hid (fun W => NC.out xs 4 W (by omega) (by omega) (by unfold I64; decide))
        have N5 := Lib.hid (fun W => NC.out xl 2 W (by omega) (by omega) (by unfold I64; decide))
        have N6 := Lib.hid (fun W => NC.out xt 8 W (by omega) (by omega) (by unfold I64; decide))
        have HS := Lib.hid (hos.alloc (.cells #[.int .i64 xs, .int .i64 xl, .int .u64 xt] 52))
        have HK := Lib.hid (hblk.alloc (.cells #[.int .i64 xs, .int .i64 xl, .int .u64 xt] 52))
        have HE := Lib.hid (show Blk (wr.alloc (.cells #[.int .i64 xs, .int .i64 xl, .int .u64 xt] 52)) wr.heap.size 52 #[.int .i64 xs, .int .i64 xl, .int .u64 xt] from Blk.new _ _ _)
        have HB := Lib.hid (below_alloc hbel (.cells #[.int .i64 xs, .int .i64 xl, .int .u64 xt] 52))
        clear rn hrl hos hblk hbel
        generalize ro k = rk at *
        go_wp2
        go_region_held_law (fun w' => w'.cell? ⟨wr.heap.size, 0, none⟩ = some (.int .i64 xs) ∧ w'.cell? ⟨wr.heap.size, 1, none⟩ = some (.int .i64 xl) ∧ w'.cell? ⟨wr.heap.size, 2, none⟩ = some (.int .u64 xt))
          (exact (cells3 ((by repeat (first | with_reducible exact HE.out | with_reducible apply Blk.alloc | with_reducible apply Blk.drewN | with_reducible apply Blk.drew | exact HE.out)))).1)
          (first
          | (go_at_call 26; (with_reducible refine (N4.out _).mono ?_); rintro e w5 ⟨v1, rfl, ho, hb⟩; obtain ⟨a4, d4, rfl, -, -, -, -, -⟩ := ho.form; have HO4 := Lib.hid (Own.mono (base' := w.heap.size) ho (by have := HB.out.size; simp at this ⊢ <;> omega)); have HS := Lib.hid (OwnS.below (by repeat (first | exact HS.out | with_reducible apply OwnS.alloc | with_reducible apply OwnS.drew)) hb); have HB := Lib.hid (below_step ((by repeat (first | with_reducible exact HB.out | with_reducible apply below_alloc | with_reducible apply below_drewN | with_reducible apply below_drew))) hb); have HK := Lib.hid (Blk.below ((by repeat (first | with_reducible exact HK.out | with_reducible apply Blk.alloc | with_reducible apply Blk.drewN | with_reducible apply Blk.drew | exact HK.out))) hb); have HE := Lib.hid (Blk.below ((by repeat (first | with_reducible exact HE.out | with_reducible apply Blk.alloc | with_reducible apply Blk.drewN | with_reducible apply Blk.drew | exact HE.out))) hb); clear ho hb)
          | (go_at_call 26; (with_reducible refine (N5.out _).mono ?_); rintro e w6 ⟨v1, rfl, ho, hb⟩; obtain ⟨a5, d5, rfl, -, -, -, -, -⟩ := ho.form; have HO5 := Lib.hid (Own.mono (base' := w.heap.size) ho (by have := HB.out.size; simp at this ⊢ <;> omega)); have HO4 := Lib.hid (Own.below ((by repeat (first | with_reducible apply Own.alloc | with_reducible apply Own.drewN | with_reducible apply Own.drew | exact HO4.out))) hb); have HS := Lib.hid (OwnS.below (by repeat (first | exact HS.out | with_reducible apply OwnS.alloc | with_reducible apply OwnS.drew)) hb); have HB := Lib.hid (below_step ((by repeat (first | with_reducible exact HB.out | with_reducible apply below_alloc | with_reducible apply below_drewN | with_reducible apply below_drew))) hb); have HK := Lib.hid (Blk.below ((by repeat (first | with_reducible exact HK.out | with_reducible apply Blk.alloc | with_reducible apply Blk.drewN | with_reducible apply Blk.drew | exact HK.out))) hb); have HE := Lib.hid (Blk.below ((by repeat (first | with_reducible exact HE.out | with_reducible apply Blk.alloc | with_reducible apply Blk.drewN | with_reducible apply Blk.drew | exact HE.out))) hb); clear ho hb)
          | (go_at_call 26; (with_reducible refine (N6.out _).mono ?_); rintro e w7 ⟨v1, rfl, ho, hb⟩; obtain ⟨a6, d6, rfl, -, -, -, -, -⟩ := ho.form; have HO6 := Lib.hid (Own.mono (base' := w.heap.size) ho (by have := HB.out.size; simp at this ⊢ <;> omega)); have HO4 := Lib.hid (Own.below ((by repeat (first | with_reducible apply Own.alloc | with_reducible apply Own.drewN | with_reducible apply Own.drew | exact HO4.out))) hb); have HO5 := Lib.hid (Own.below ((by repeat (first | with_reducible apply Own.alloc | with_reducible apply Own.drewN | with_reducible apply Own.drew | exact HO5.out))) hb); have HS := Lib.hid (OwnS.below (by repeat (first | exact HS.out | with_reducible apply OwnS.alloc | with_reducible apply OwnS.drew)) hb); have HB := Lib.hid (below_step ((by repeat (first | with_reducible exact HB.out | with_reducible apply below_alloc | with_reducible apply below_drewN | with_reducible apply below_drew))) hb); have HK := Lib.hid (Blk.below ((by repeat (first | with_reducible exact HK.out | with_reducible apply Blk.alloc | with_reducible apply Blk.drewN | with_reducible apply Blk.drew | exact HK.out))) hb); have HE := Lib.hid (Blk.below ((by repeat (first | with_reducible exact HE.out | with_reducible apply Blk.alloc | with_reducible apply Blk.drewN | with_reducible apply Blk.drew | exact HE.out))) hb); clear ho hb)
          | ((refine step_appRows (base := w.heap.size) (L := rk) (M := [numS 4 xs, numS 2 xl, numS 8 xt]) rfl (.tmp 35) (.tmp 47) rfl rfl (by repeat (first | exact HS.out | with_reducible apply OwnS.alloc | with_reducible apply OwnS.drew)) w7.heap.size rfl [.slice a4 (numS 4 xs).length d4, .slice a5 (numS 2 xl).length d5, .slice a6 (numS 8 xt).length d6] rfl (Blk.new _ _ _) (three_at ((by repeat (first | with_reducible apply Own.alloc | with_reducible apply Own.drewN | with_reducible apply Own.drew | exact HO4.out))) ((by repeat (first | with_reducible apply Own.alloc | with_reducible apply Own.drewN | with_reducible apply Own.drew | exact HO5.out))) ((by repeat (first | with_reducible apply Own.alloc | with_reducible apply Own.drewN | with_reducible apply Own.drew | exact HO6.out)))) (by rw [HRL.out]; simp; omega) (by have := HB.out.size; simp; omega) ?_); intro v' w8 hown hf; have HS := Lib.hid hown; have HK := Lib.hid (Blk.fr ((by repeat (first | with_reducible exact HK.out | with_reducible apply Blk.alloc | with_reducible apply Blk.drewN | with_reducible apply Blk.drew | exact HK.out))) hf rfl); have HB := Lib.hid (Below.trans ((by repeat (first | with_reducible exact HB.out | with_reducible apply below_alloc | with_reducible apply below_drewN | with_reducible apply below_drew))) (hf.to_below (by have := HB.out.size; simp; omega))); have HE := Lib.hid (Blk.fr ((by repeat (first | with_reducible exact HE.out | with_reducible apply Blk.alloc | with_reducible apply Blk.drewN | with_reducible apply Blk.drew | exact HE.out))) hf rfl); clear hown hf))
        all_goals
          go_wp2
          rw [← RN2.out] at HS
          go_roundw
          case rel => exact ⟨k + 1, by omega, by go_num, HS.out, HK.out, HB.out⟩
          case measure => simp [intOf]; omega
      · obtain rfl : k = es.length := by omega
        obtain ⟨⟨k0, k1, k2⟩, -⟩ := cells3 hblk
        obtain ⟨la, lc, rfl, -, -⟩ := hos.form
        have hr := hos.rows
        have hll := HLL.out
        have jc := join_calls la lc (ro es.length) wr hr (by rw [RA.out]; omega)
        rw [RA.out] at jc
        obtain ⟨rl, hrl⟩ : ∃ n : Nat, (ro es.length).length = n := ⟨_, rfl⟩
        rw [hrl] at jc ⊢
        have JC := Lib.hid jc
        have HB := Lib.hid hbel
        have PL := Lib.hid (fun a c W (h : Row .u8 W a ld) => rput_ok 4 a c ld W (by decide) h hll)
        clear hos hr jc hblk hbel hll hrl
        go_wp2_with (first
          | (go_at_call 28; (with_reducible refine (JC.out).mono ?_); rintro e w6 ⟨v, rfl, ho, hb⟩; obtain ⟨va, vc, rfl, -, -, hr, -, -⟩ := ho.form; have HB6 := Lib.hid (below_step HB.out hb); have PL6 := Lib.hid (PL.out va vc _ hr); clear ho hr hb)
          | (go_at_call 27; (with_reducible refine (PL6.out).mono ?_); rintro e w7 ⟨v, rfl, ho, hb⟩; have HO7 := Lib.hid (ho.mono HB6.out.size); have HB7 := Lib.hid (below_step HB6.out hb); clear ho hb))
        go_ret2
        rw [E.out]
        exact ⟨_, rfl, HO7.out, HB7.out⟩
theorem rlput_calls (l : Lf) (a : Option Addr) (c : Nat) (w : World) (h : RowE w a l.es) (hw : WfL l) (hc : l.es.length ≤ c) (hm : c ≤ 9223372036854775807) : Calls Tryd.prog 9 #[leafV l a c] w fun e w' => PutL w w' l e := by
  by_cases hh : MayL l
  · exact rlput_yes l a c w h hw hc hm hh
  · exact rlput_no l a c w h hw hc hm hh
end Go.Proofs.YthmhpjpnlngaoaaDoor.Ct
