import Derived.Test.YtjkmifoeidklkaaQuoB
/-! A budget: settle, Tick. -/
namespace Go.Proofs.Ytjkmifoeidklkaa.Ct
open Go.RowKit
set_option linter.unusedVariables false
set_option linter.unusedSimpArgs false
def sumL (L : List (Int × Int)) : Int := L.foldr (fun p s => p.1 + s) 0
theorem sumL_nn {L : List (Int × Int)} (h : ∀ p ∈ L, 0 ≤ p.1) : 0 ≤ sumL L := by
  induction L with
  | nil => exact Int.le_refl _
  | cons p L ih =>
    have := ih (fun q hq => h q (List.mem_cons_of_mem _ hq))
    have := h p (List.mem_cons_self ..)
    simp only [sumL, List.foldr_cons] at *; omega
def settS (W now : Int) : Int → List (Int × Int) → Int × List (Int × Int)
  | u, [] => (u, [])
  | u, p :: L => if W ≤ now - p.2 then settS W now (u - p.1) L else (u, p :: L)
structure Inv (W m now used : Int) (L : List (Int × Int)) : Prop where
  w1 : 1 ≤ W
  w2 : W ≤ 4096
  u0 : 0 ≤ used
  um : used ≤ m
  m1 : m ≤ 1048576
  n0 : 0 ≤ now
  n1 : now ≤ 9223372036854775807
  sum : sumL L = used
  all : ∀ p ∈ L, 0 ≤ p.1 ∧ 0 ≤ p.2 ∧ p.2 ≤ now
theorem getD_mem2 {L : List (Int × Int)} {j : Nat} (h : j < L.length) : L.getD j (0, 0) ∈ L := by
  rw [List.getD_eq_getElem?_getD, List.getElem?_eq_getElem h]; exact List.getElem_mem h
theorem drop_cons2 {L : List (Int × Int)} {k : Nat} (h : k < L.length) : L.drop k = L.getD k (0, 0) :: L.drop (k + 1) := by
  rw [List.drop_eq_getElem_cons h, List.getD_eq_getElem?_getD, List.getElem?_eq_getElem h]; rfl
theorem SL.other {base : Nat} {w w' : World} {E : TypeId} {size g off cap n : Nat} {xs : List Value} {cs : Array Value} (h : SL base w E size (.slice (some ⟨g, off, none⟩) n cap) n xs) (hg : Blk w g E cs) (hg' : Blk w' g E cs) : SL base w' E size (.slice (some ⟨g, off, none⟩) n cap) n xs := by
  refine ⟨h.1, ?_⟩
  rcases h.2 with ⟨e, h0⟩ | ⟨g', off', cap', cs', e, hb, hbl, r⟩
  · cases e
  · simp only [Value.slice.injEq, Option.some.injEq, Addr.mk.injEq, and_true, true_and] at e
    obtain ⟨⟨rfl, rfl⟩, rfl⟩ := e
    obtain rfl := hbl.same hg
    exact .inr ⟨g, off, cap, cs', rfl, hb, hg', r⟩
set_option maxHeartbeats 4000000 in
theorem settle_calls (base b : Nat) (W m now used : Int) (L : List (Int × Int)) (w : World) (h : PB base w b W m now used L) (hi : Inv W m now used L) (hL : L.length ≤ 1000) :
    Calls Try.prog 19 #[.pointer (some ⟨b, 0, none⟩)] w fun e w' => e = .returned (.tuple #[]) ∧ PB base w' b W m now (settS W now used L).1 (settS W now used L).2 ∧ Fr base mineP w w' := by
  have HH := Lib.hid h
  obtain ⟨hb0, sv, hbk, hsl⟩ := h
  obtain ⟨i1, i2, i3, i4, i5, i6, i7, i8, i9⟩ := hi
  have HALL := Lib.hid i9
  have HSUM := Lib.hid i8
  have HB := Lib.hid hbk
  have hsl0 := hsl
  rcases hsl.2 with ⟨rfl, hn⟩ | ⟨g, off, cap, cs, rfl, hgb, hgk, hcap, hcm, hcs, hcell⟩
  · have hLn : L = [] := List.eq_nil_of_length_eq_zero hn
    subst hLn
    have c0 := hbk.cell 0
    have c2 := hbk.cell 2
    have c4 : w.cell? ⟨b, 4, none⟩ = some (.slice none 0 0) := hbk.cell 4
    have f4 := hbk.frozen 4
    clear hsl hsl0 i8 i9 hbk hn
    go_enter Try.func19, Try.ntmps19
    go_wp2
    go_loopw [2] (fun i wr => i = .int .i64 0 ∧ wr = w) (fun _ _ => 0)
    case atStart => exact ⟨rfl, rfl⟩
    case round =>
      obtain ⟨rfl, rfl⟩ := hrel
      go_wp2
      go_quiet (fail)
      go_wp2
      go_region
      all_goals go_wp2
      all_goals go_end0
      all_goals exact ⟨rfl, ⟨hb0, _, (HB.out.set_ 4 _).drewN _, SL.nil _ _ _ _⟩, (Fr.drewN ((Fr.refl base mineP _).set_ HB.out (mineP_b _) hb0 4 _) _)⟩
  · have hl0 : L.length ≤ 9223372036854775807 := by omega
    have HSL := Lib.hid (fun w' (hg' : Blk w' g 46 cs) => hsl0.other hgk hg')
    have HGK := Lib.hid hgk
    have HCELL := Lib.hid (fun k (hk : k < L.length) => And.intro ((hcell (k * 2) (by omega)).trans (flat_get L k hk).1) ((hcell (k * 2 + 1) (by omega)).trans (flat_get L k hk).2))
    have HNE := Lib.hid (hgk.ne_ hbk (by decide))
    have hgne : ¬ g = b := HNE.out
    have hbne : ¬ b = g := fun e => HNE.out e.symm
    have hcm2 : cap ≤ 9223372036854775807 := by unfold maxLen at hcm; omega
    clear hsl hsl0 hgk hcell hcs i8 i9 hcm hbk
    go_enter Try.func19, Try.ntmps19
    go_wp2
    go_loopw [2] (fun i wr => ∃ (k : Nat) (u : Int), k ≤ L.length ∧ i = .int .i64 (k : Int) ∧ settS W now used L = settS W now u (L.drop k) ∧ sumL (L.drop k) = u ∧ u ≤ used ∧ Blk wr b 42 #[.int .i64 W, .int .i64 m, .int .i64 now, .int .i64 u, .slice (some ⟨g, off, none⟩) L.length cap] ∧ Blk wr g 46 cs ∧ Fr base mineP w wr) (fun i _ => L.length - (intOf i).toNat)
    case atStart => exact ⟨0, used, by omega, rfl, rfl, HSUM.out, by omega, HB.out, HGK.out, Fr.refl _ _ _⟩
    case round =>
      clear HB HGK
      obtain ⟨k, u, hk, rfl, he, hsum, hu, hbk, hgk, hfr⟩ := hrel
      have HE := Lib.hid he; have HB := Lib.hid hbk; have HG := Lib.hid hgk; have HF := Lib.hid hfr
      have c0 := hbk.cell 0
      have c2 := hbk.cell 2
      have c3 := hbk.cell 3
      have c4 : wr.cell? ⟨b, 4, none⟩ = some (.slice (some ⟨g, off, none⟩) L.length cap) := hbk.cell 4
      have f3 := hbk.frozen 3
      have f4 := hbk.frozen 4
      have u0 : 0 ≤ u := by rw [← hsum]; exact sumL_nn fun p hp => (HALL.out p (List.mem_of_mem_drop hp)).1
      have ki : (0 : Int) ≤ (k : Int) := by omega
      clear he hbk hgk hfr
      by_cases hlt : k < L.length
      · have hkl : (k : Int) < L.length := by omega
        have hd0 : decide ((k : Int) < L.length) = true := decide_eq_true hkl
        have hp := HALL.out _ (getD_mem2 hlt)
        have HD := drop_cons2 hlt
        have hs2 := hsum
        rw [HD] at hs2
        have HD := Lib.hid HD
        simp only [sumL, List.foldr_cons] at hs2
        have hr0 : 0 ≤ sumL (L.drop (k + 1)) := sumL_nn fun p hp => (HALL.out p (List.mem_of_mem_drop hp)).1
        have hs3 : (L.getD k (0, 0)).1 + sumL (L.drop (k + 1)) = u := hs2
        clear hs2 hsum
        have e0 : wr.cell? ⟨g, off + k * 2, none⟩ = some (.int .i64 (L.getD k (0, 0)).1) := (HG.out.cell _).trans (HCELL.out k hlt).1
        have e1 : wr.cell? ⟨g, off + k * 2 + 1, none⟩ = some (.int .i64 (L.getD k (0, 0)).2) := (HG.out.cell _).trans (HCELL.out k hlt).2
        obtain ⟨hz0, hy0, hy1⟩ := hp
        obtain ⟨z, hz⟩ : ∃ z, (L.getD k (0, 0)).1 = z := ⟨_, rfl⟩
        obtain ⟨y, hy⟩ : ∃ y, (L.getD k (0, 0)).2 = y := ⟨_, rfl⟩
        have HP : Hid (L.getD k (0, 0) = (z, y)) := Lib.hid (by rw [← hz, ← hy])
        rw [hz] at e0 hz0 hs3
        rw [hy] at e1 hy0 hy1
        have HS3 := Lib.hid hs3
        have hzu : z ≤ u := by omega
        clear hz hy hs3
        have hwr : IntKind.i64.wrap (now - y) = now - y := i64_wrap (by unfold I64; omega)
        by_cases hst : W ≤ now - y
        · have hd1 : decide (W ≤ now - y) = true := decide_eq_true hst
          have HN : Hid (settS W now u (L.drop k) = settS W now (u - z) (L.drop (k + 1))) := Lib.hid (by rw [HD.out, HP.out]; show (if W ≤ now - y then _ else _) = _; rw [if_pos hst])
          go_wp2
          go_quiet (fail)
          go_wp2
          have hwr2 : IntKind.i64.wrap (u - z) = u - z := i64_wrap (by unfold I64; omega)
          go_region
          all_goals go_wp2
          all_goals exact ⟨⟨k + 1, u - z, by omega, by go_num, HE.out.trans HN.out, by have := HS3.out; omega, by omega, (HB.out.drewN _).set_ 3 _, (HG.out.drewN _).far (p := ⟨b, 3, none⟩) HNE.out _, (Fr.drewN HF.out _).set_ (HB.out.drewN _) (mineP_b _) hb0 3 _⟩, by simp [intOf]; omega⟩
        · have hd1 : decide (W ≤ now - y) = false := decide_eq_false hst
          have HN : Hid (settS W now u (L.drop k) = (u, L.drop k)) := Lib.hid (by rw [HD.out, HP.out]; show (if W ≤ now - y then _ else _) = _; rw [if_neg hst])
          have hck : ¬ cap = k := by omega
          have hlk : ¬ L.length = k := by omega
          have HX := Lib.hid ((HSL.out wr HG.out).drop_ k (L.length - k) hk (Nat.le_refl _) (by omega))
          go_wp2
          go_quiet (fail)
          go_wp2
          go_region
          all_goals go_wp2
          all_goals go_end0
          all_goals (
            refine ⟨rfl, ?_, (Fr.drewN HF.out _).set_ (HB.out.drewN _) (mineP_b _) hb0 4 _⟩
            rw [HE.out.trans HN.out]
            refine ⟨hb0, _, (HB.out.drewN _).set_ 4 _, ?_⟩
            have := HX.out
            rw [flat_drop] at this
            rw [List.length_drop]
            exact (this.drewN _).far (HB.out.drewN _) (by decide) 4 _)
      · have hkl : k = L.length := by omega
        have HN : Hid (settS W now u (L.drop k) = (u, [])) := Lib.hid (by rw [hkl, List.drop_length]; rfl)
        have hd0 : decide ((k : Int) < L.length) = false := decide_eq_false (by omega)
        subst hkl
        clear hsum
        go_wp2
        go_quiet (fail)
        go_wp2
        go_region
        all_goals go_wp2
        all_goals go_end0
        all_goals (
          refine ⟨rfl, ?_, (Fr.drewN HF.out _).set_ (HB.out.drewN _) (mineP_b _) hb0 4 _⟩
          rw [HE.out.trans HN.out]
          refine ⟨hb0, _, (HB.out.drewN _).set_ 4 _, ?_⟩
          exact ((SL.none_ (HSL.out wr HG.out)).drewN _).far (HB.out.drewN _) (by decide) 4 _)
set_option maxHeartbeats 2000000 in
theorem tick_calls (base b : Nat) (W m now used n : Int) (L : List (Int × Int)) (w : World) (h : PB base w b W m now used L) (hi : Inv W m now used L) (hL : L.length ≤ 1000) (hn : I64 n) :
    Calls Try.prog 10 #[.pointer (some ⟨b, 0, none⟩), .int .i64 n] w fun e w' => e = .returned (.int .i64 (satAdd now (max n 0))) ∧ PB base w' b W m (satAdd now (max n 0)) (settS W (satAdd now (max n 0)) used L).1 (settS W (satAdd now (max n 0)) used L).2 ∧ Fr base mineP w w' := by
  have HH := Lib.hid h
  obtain ⟨sv, c0, c1, c2, c3, c4, cf, hbk, hsl⟩ := h.cells
  have hmx : I64 (max n 0) := by unfold I64 at *; omega
  have RC := Lib.hid (real_calls b W w c0 hi.w1)
  have AC := Lib.hid (fun w => add_calls now (max n 0) w (by unfold I64; have := hi.n0; have := hi.n1; omega) hmx)
  have hge : now ≤ satAdd now (max n 0) ∧ satAdd now (max n 0) ≤ 9223372036854775807 := by
    have := hi.n0; have := hi.n1
    unfold satAdd sat; unfold I64 at hmx; repeat' split
    all_goals omega
  have mx := fun ts t w => max_run (P := Try.prog) n 0 ts t w
  obtain ⟨x, hx⟩ : ∃ x, max n 0 = x := ⟨_, rfl⟩
  rw [hx] at AC hge mx ⊢
  clear hx hmx
  obtain ⟨t, ht⟩ : ∃ t, satAdd now x = t := ⟨_, rfl⟩
  rw [ht] at AC hge ⊢
  clear ht
  have hb1 : PB base (w.setCell ⟨b, 2, none⟩ (.int .i64 t)) b W m t used L := ⟨h.1, sv, hbk.set_ 2 _, hsl.far hbk (by decide) 2 _⟩
  have hf1 : Fr base mineP w (w.setCell ⟨b, 2, none⟩ (.int .i64 t)) := (Fr.refl _ _ _).set_ hbk (mineP_b _) h.1 2 _
  have hi2 : Inv W m t used L := ⟨hi.w1, hi.w2, hi.u0, hi.um, hi.m1, by have := hi.n0; omega, hge.2, hi.sum, fun p hp => by have := hi.all p hp; omega⟩
  have SC := Lib.hid (settle_calls base b W m t used L _ hb1 hi2 hL)
  have HF1 := Lib.hid hf1
  have f2 := cf 2
  clear h hi hb1 hf1 hi2 hbk hsl cf c1 c3 c4 hge
  go_enter Try.func10, Try.ntmps10
  go_wp2_with (first
    | (go_at_call 17; (with_reducible refine (RC.out).mono ?_); rintro e w' ⟨rfl, rfl⟩)
    | (go_at_call 18; (with_reducible refine (AC.out _).mono ?_); rintro e w' ⟨rfl, rfl⟩)
    | (go_at_call 19; (with_reducible refine (SC.out).mono ?_); rintro e w2 ⟨rfl, hp, hf⟩; have HP := Lib.hid hp; have HF := Lib.hid (HF1.out.trans hf); obtain ⟨sv2, d0, d1, d2, -⟩ := hp.cells; clear hp hf))
  go_ret
  exact ⟨rfl, HP.out, HF.out⟩
end Go.Proofs.Ytjkmifoeidklkaa.Ct
