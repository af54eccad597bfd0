import Derived.Test.YtjkmifoeidklkaaLaw25C
/-! Chapter 25: QuotaWindows. -/
namespace Go.Proofs.Ytjkmifoeidklkaa.Ct
open Go.RowKit
set_option linter.unusedVariables false
set_option linter.unusedSimpArgs false
theorem and63 (x : Int) : ∃ v, bits BinOp.and .i64 x 63 = v ∧ 0 ≤ v ∧ v ≤ 63 := by
  refine ⟨_, rfl, ?_⟩
  have h : (BitVec.ofInt 64 x &&& BitVec.ofInt 64 63).toNat ≤ 63 := by
    rw [BitVec.toNat_and]; exact Nat.le_trans Nat.and_le_right (by decide)
  show 0 ≤ IntKind.i64.wrap ((BitVec.ofInt 64 x &&& BitVec.ofInt 64 63).toNat : Int) ∧ IntKind.i64.wrap ((BitVec.ofInt 64 x &&& BitVec.ofInt 64 63).toNat : Int) ≤ 63
  generalize (BitVec.ofInt 64 x &&& BitVec.ofInt 64 63).toNat = n at *
  rw [i64_wrap (by unfold I64; omega)]
  omega
/-- what was spent in the window that begins at a tick. -/
def ws (W a : Int) (S : List (Int × Int)) : Int := S.foldr (fun q s => if q.2 - a < W then q.1 + s else s) 0
theorem ws_append (W a : Int) (S T : List (Int × Int)) : ws W a (S ++ T) = ws W a S + ws W a T := by
  induction S with
  | nil => simp [ws]
  | cons p L ih =>
    have e : ∀ p L, ws W a (p :: L) = if p.2 - a < W then p.1 + ws W a L else ws W a L := fun _ _ => rfl
    rw [List.cons_append, e, e, ih]; split <;> omega
theorem ws_bd {W a : Int} {S : List (Int × Int)} (h : ∀ p ∈ S, 0 ≤ p.1 ∧ p.1 ≤ 63) : 0 ≤ ws W a S ∧ ws W a S ≤ 63 * S.length := by
  induction S with
  | nil => simp [ws]
  | cons p L ih =>
    have e : ∀ p L, ws W a (p :: L) = if p.2 - a < W then p.1 + ws W a L else ws W a L := fun _ _ => rfl
    have := ih fun q hq => h q (List.mem_cons_of_mem _ hq)
    have := h p (List.mem_cons_self ..)
    rw [e, List.length_cons]; split <;> omega
theorem ws_le_sum {W a : Int} {S : List (Int × Int)} (h : ∀ p ∈ S, 0 ≤ p.1) : ws W a S ≤ sumL S := by
  induction S with
  | nil => simp [ws, sumL]
  | cons p L ih =>
    have e : ∀ p L, ws W a (p :: L) = if p.2 - a < W then p.1 + ws W a L else ws W a L := fun _ _ => rfl
    have := ih fun q hq => h q (List.mem_cons_of_mem _ hq)
    have := h p (List.mem_cons_self ..)
    rw [e, sumL_cons]; split <;> omega
theorem sum_le_rs {M : List (Int × Int)} {t : Int} (hn : ∀ p ∈ M, 0 ≤ p.1) (i : Nat) (h : ∀ p ∈ M.drop i, t < p.2) : sumL (M.drop i) ≤ rs M t := by
  have e := rs_append (M.take i) (M.drop i) t
  rw [List.take_append_drop] at e
  rw [e, rs_all h]
  have := rs_nn (L := M.take i) (fun p hp => hn p (List.mem_of_mem_take hp)) t
  omega
def WIN (W m : Int) (M : List (Int × Int)) : Prop := ∀ i, i < M.length → ws W (M.getD i (0, 0)).2 (M.drop i) ≤ m
structure Spt (W m now used : Int) (LP M : List (Int × Int)) : Prop where
  rel : Rel W m now used LP M
  win : WIN W m M
  sorted : M.Pairwise (fun p q => p.2 ≤ q.2)
  low : ∀ p ∈ M, 0 ≤ p.1 ∧ p.1 ≤ 63
theorem spt_new {W m : Int} (h1 : 1 ≤ W) (h2 : W ≤ 4096) (h3 : 0 ≤ m) (h4 : m ≤ 1048576) : Spt W m 0 0 [] [] := ⟨rel_new h1 h2 h3 h4, fun i hi => by simp at hi, List.Pairwise.nil, by simp⟩
theorem Spt.spend {W m now used n : Int} {LP M : List (Int × Int)} (h : Spt W m now used LP M) (h0 : 0 ≤ n) (hn : n ≤ 63) (h1 : n ≤ m - used) : Spt W m now (used + n) (addS LP now n) (M ++ [(n, now)]) := by
  have hu := h.rel.inv.u0
  refine ⟨h.rel.spend h0 h1, fun i hi => ?_, ?_, fun p hp => ?_⟩
  · have e1 : ∀ p : Int × Int, ws W (M.getD i (0, 0)).2 [p] = if p.2 - (M.getD i (0, 0)).2 < W then p.1 + 0 else 0 := fun _ => rfl
    by_cases hlt : i < M.length
    · have eg : (M ++ [(n, now)]).getD i (0, 0) = M.getD i (0, 0) := by simp [List.getD_eq_getElem?_getD, List.getElem?_append_left hlt]
      rw [eg, List.drop_append_of_le_length (by omega), ws_append, e1]
      have hw := h.win i hlt
      split
      · rename_i hc
        have hd : M.drop i = M.getD i (0, 0) :: M.drop (i + 1) := drop_cons2 hlt
        have hs := h.sorted.drop (i := i)
        have hall : ∀ p ∈ M.drop i, now - W < p.2 := by
          intro p hp
          rw [hd] at hs hp
          rw [List.pairwise_cons] at hs
          rcases List.mem_cons.1 hp with rfl | hp
          · simp only at hc; omega
          · have := hs.1 p hp; simp only at hc; omega
        have hnn : ∀ p ∈ M, 0 ≤ p.1 := fun p hp => (h.low p hp).1
        have a1 := ws_le_sum (W := W) (a := (M.getD i (0, 0)).2) (S := M.drop i) (fun p hp => hnn p (List.mem_of_mem_drop hp))
        have a2 := sum_le_rs hnn i hall
        have a3 := h.rel.used
        rw [ru_rs] at a3
        simp only
        omega
      · omega
    · have hi2 : i = M.length := by simp at hi; omega
      subst hi2
      have e2 : (M ++ [(n, now)]).drop M.length = [(n, now)] := by simp
      rw [e2]
      have e3 : ∀ (a : Int) (p : Int × Int), ws W a [p] = if p.2 - a < W then p.1 + 0 else 0 := fun _ _ => rfl
      rw [e3]
      have := h.rel.inv.um
      split
      · simp only; omega
      · omega
  · rw [List.pairwise_append]
    refine ⟨h.sorted, by simp, fun p hp q hq => ?_⟩
    simp at hq; subst hq
    exact (h.rel.rinv.all p hp).2.2.2
  · rcases List.mem_append.1 hp with hp | hp
    · exact h.low p hp
    · simp at hp; subst hp; simp only; omega
theorem Spt.tick {W m now used now' : Int} {LP M : List (Int × Int)} (h : Spt W m now used LP M) (h0 : now ≤ now') (h1 : now' ≤ 9223372036854775807) : Spt W m now' (settS W now' used LP).1 (settS W now' used LP).2 M := ⟨h.rel.tick h0 h1, h.win, h.sorted, h.low⟩
theorem settS_none {W now : Int} (L : List (Int × Int)) : ∀ u, (∀ p ∈ L, W ≤ now - p.2) → sumL L = u → settS W now u L = (0, []) := by
  induction L with
  | nil => intro u _ hu; subst hu; rfl
  | cons p L ih =>
    intro u h hu
    rw [sumL_cons] at hu
    unfold settS
    rw [if_pos (h p (List.mem_cons_self ..))]
    exact ih (u - p.1) (fun q hq => h q (List.mem_cons_of_mem _ hq)) (by omega)
/-- the budget and what was spent, in memory. -/
def WnSt (B : Nat) (W m : Int) (i : Nat) (v : Value) (wr : World) : Prop := ∃ (now used : Int) (LP M : List (Int × Int)),
  PB B wr B W m now used LP ∧ Spt W m now used LP M ∧ LP.length ≤ i ∧ M.length ≤ i ∧ now ≤ 63 * i ∧ SL B wr 39 2 v M.length (flat M)
set_option maxRecDepth 100000 in
set_option maxHeartbeats 16000000 in
theorem windows_walk (wn mo : Int) (a : Option Addr) (cap : Nat) (L : List (List Value)) (w : World) (hw : 0 ≤ wn ∧ wn ≤ 255) (hm : 0 ≤ mo ∧ mo ≤ 255) (hc : L.length ≤ cap) (hcm : cap ≤ 9223372036854775807) (h : RowF actDs w a L) :
    Calls Try.prog 4 #[.int .u8 wn, .int .u8 mo, .slice a L.length cap] w fun e w' => e = .returned (.bool true) ∧ Below w.heap.size w w' := by
  have H := Lib.hid h; clear h
  obtain ⟨hw0, hw1⟩ := hw
  obtain ⟨hm0, hm1⟩ := hm
  have W1 : 1 ≤ 1 + wn % 20 := by omega
  have W2 : 1 + wn % 20 ≤ 20 := by omega
  have M1 : 0 ≤ mo % 60 := by omega
  have M2 : mo % 60 ≤ 59 := by omega
  have NC := Lib.hid (new_ok (1 + wn % 20) (mo % 60) w W1 (by omega) M1 (by omega))
  have AW := Lib.hid awake_calls
  obtain ⟨N, hN⟩ : ∃ N, N = min L.length 60 := ⟨_, rfl⟩
  have hN1 : N ≤ L.length := by omega
  have hN2 : N ≤ 60 := by omega
  have HN := Lib.hid hN; clear hN
  go_enter Try.func4, Try.ntmps4
  go_upto_region 6 with (go_at_call 7; (with_reducible refine (NC.out).mono ?_); rintro e w' ⟨rfl, rfl⟩)
  generalize 1 + wn % 20 = W at *
  generalize mo % 60 = m at *
  have HST : Hid (WnSt w.heap.size W m 0 (.slice none 0 0) (w.alloc (.cells #[.int .i64 W, .int .i64 m, .int .i64 0, .int .i64 0, .slice none 0 0] 42))) := Lib.hid
    ⟨0, 0, [], [], ⟨Nat.le_refl _, _, Blk.new _ _ _, SL.nil _ _ _ _⟩, spt_new W1 (by omega) M1 (by omega), by simp, by simp, by omega, SL.nil _ _ _ _⟩
  have HB0 := Lib.hid (below_alloc (Below.refl w.heap.size w) (.cells #[.int .i64 W, .int .i64 m, .int .i64 0, .int .i64 0, .slice none 0 0] 42))
  clear NC
  go_wp2
  go_loopw [11, 12, 13] (fun v i _ wr => ∃ k : Nat, k ≤ N ∧ i = .int .i64 (k : Int) ∧ WnSt w.heap.size W m k v wr ∧ Below w.heap.size w wr) (fun _ i _ _ => N - (intOf i).toNat)
  case atStart => exact ⟨0, by omega, rfl, HST.out, HB0.out⟩
  case round =>
    clear HST HB0
    obtain ⟨k, hkN, rfl, ⟨now, used, LP, M, hp, hst, hl1, hl2, hnow, hsl⟩, hbel⟩ := hrel
    have HP := Lib.hid hp; have HST := Lib.hid hst; have HSL := Lib.hid hsl; have HBz := Lib.hid hbel
    have hwz : w.heap.size ≤ wr.heap.size := hbel.size
    have hi := hst.rel.inv
    obtain ⟨i1, i2, i3, i4, i5, i6, i7, -, -⟩ := hi
    clear hp hst hsl hbel
    by_cases hlt : k < N
    · have hl3 : k < L.length := by omega
      have hl3i : (k : Int) < L.length := by omega
      have hl4 : (k : Int) < 60 := by omega
      obtain ⟨ad, rfl⟩ := H.out.addr (by omega)
      obtain ⟨-, b0, b1⟩ := act_cells (H.out.below HBz.out) hl3
      have SD := Lib.hid (act_cells (H.out.below HBz.out) hl3).1
      generalize fI L k 0 = kd at *
      generalize fI L k 1 = nn at *
      obtain ⟨e0, e1⟩ := SD.out
      obtain ⟨n, hn, n0, n1⟩ := and63 nn
      obtain ⟨va, vc, hv, -, -⟩ := HSL.out.form
      subst hv
      by_cases hkd : kd = 0
      · subst hkd
        by_cases hq : n ≤ m - used
        · have SC := Lib.hid (spend_yes _ _ W m now used n LP _ HP.out i1 i3 i4 i5 n0 hq (by omega) (i64_mk (by omega) i7) hwz HST.out.rel.max)
          go_upto_region 12 with (go_at_call 8; (with_reducible refine (SC.out).mono ?_); rintro e w1 ⟨rfl, hp, hf⟩; have HP1 := Lib.hid hp; have HS1 := Lib.hid (HSL.out.fr hf (fun _ => rfl)); have HB1 := Lib.hid (HBz.out.trans (hf.to_below hwz)); clear hp hf)
          have F1 := Lib.hid (Fr.refl w.heap.size mineT w1)
          have NC := Lib.hid (now_calls _ _ W m now (used + n) _ w1 HP1.out i1)
          go_wp2_with (first
            | (go_at_call 15; (with_reducible refine (NC.out).mono ?_); rintro e w2 ⟨rfl, rfl⟩)
            | (at_builtin; refine wp_appSL (mine := mineT) (base := w.heap.size) 28 (.agg #[.int .i64 0, .int .i64 0]) 16 Try.underlying28 infoR rfl (by decide) mineT_s rfl (.tmp 61) (.tmp 66) rfl rfl (by repeat (first | with_reducible apply SL.alloc | with_reducible apply SL.drewN | with_reducible apply SL.drew | exact HS1.out)) _ 1 rfl #[.int .i64 n, .int .i64 now] rfl ⟨_, _, heap_alloc_new _ _⟩ (by simp [Value.oneCell']) (by omega) (by decide) (by have := HB1.out.size; simp; omega) ?_; intro v3 w3 hs3 hf3; have HS3 := Lib.hid hs3; have HF3 := Lib.hid (Fr.trans (by repeat (first | with_reducible apply Fr.alloc | with_reducible apply Fr.drewN | with_reducible apply Fr.drew | exact F1.out)) hf3); clear hs3 hf3))
          have hlen := (addS_props HST.out.rel.inv HST.out.rel.fresh HST.out.rel.sorted n0).2.2.2.2.2
          exact ⟨⟨k + 1, by omega, by go_num, ⟨now, used + n, _, M ++ [(n, now)], HP1.out.frR (HF3.out.mono mineTR), HST.out.spend n0 n1 hq, by omega, by rw [List.length_append]; simp; omega, by omega, by rw [flat_append, List.length_append]; exact HS3.out⟩, HB1.out.trans (HF3.out.to_below (by have := HB1.out.size; omega))⟩, by simp [intOf]; omega⟩
        · have SC := Lib.hid (spend_no' _ _ W m now used n LP _ HP.out i1 i3 i4 i5 (i64_mk (by omega) (by omega)) (by omega))
          go_wp2_with (go_at_call 8; (with_reducible refine (SC.out).mono ?_); rintro e w1 ⟨rfl, hp, hf⟩; have HP1 := Lib.hid hp; have HS1 := Lib.hid (HSL.out.fr hf (fun _ => rfl)); have HB1 := Lib.hid (HBz.out.trans (hf.to_below hwz)); clear hp hf)
          exact ⟨⟨k + 1, by omega, by go_num, ⟨now, used, LP, M, HP1.out, HST.out, by omega, by omega, by omega, HS1.out⟩, HB1.out⟩, by simp [intOf]; omega⟩
      · have hkb : (kd == 0) = false := beq_eq_false_iff_ne.2 hkd
        have hs := sat_ge i6 i7 (show I64 n by unfold I64; omega)
        have hsx : satAdd now (max n 0) ≤ now + 63 := by
          unfold satAdd sat; repeat' split
          all_goals omega
        have TC := Lib.hid (tick_calls _ _ W m now used n LP _ HP.out HST.out.rel.inv (by omega) (i64_mk (by omega) (by omega)))
        obtain ⟨hs1, hs2⟩ := hs
        go_wp2_with (go_at_call 10; (with_reducible refine (TC.out).mono ?_); rintro e w1 ⟨rfl, hp, hf⟩; have HP1 := Lib.hid hp; have HS1 := Lib.hid (HSL.out.fr hf (fun _ => rfl)); have HB1 := Lib.hid (HBz.out.trans (hf.to_below hwz)); clear hp hf)
        exact ⟨⟨k + 1, by omega, by go_num, ⟨_, _, _, M, HP1.out, HST.out.tick hs1 hs2, by have := settS_len W (satAdd now (max n 0)) LP used; omega, by omega, by omega, HS1.out⟩, HB1.out⟩, by simp [intOf]; omega⟩
    · obtain rfl : k = N := by omega
      have hq : (k : Int) = L.length ∨ (k : Int) < L.length ∧ (k : Int) = 60 := by have := HN.out; omega
      obtain ⟨va, vc, hv, hvc, hvm⟩ := HSL.out.form
      subst hv
      have hsn : satAdd now (max W 0) = now + W := by unfold satAdd sat; rw [if_neg (by omega), if_neg (by omega)]; omega
      have hst2 : settS W (now + W) used LP = (0, []) := settS_none LP used (fun p hp => by have := (HST.out.rel.inv.all p hp).2.2; omega) HST.out.rel.inv.sum
      have tc := fun d => tick_calls _ _ W m now used W LP (wr.drewN d) (HP.out.drewN d) HST.out.rel.inv (by omega) (i64_mk (by omega) (by omega))
      rw [hsn, hst2] at tc
      have TC := Lib.hid tc
      clear tc hsn hst2
      rcases hq with hq | ⟨hq2, hq⟩
      all_goals (
        go_wp2
        go_loopw [14, 15, 16] (fun i _ _ wx => ∃ (q d : Nat), q ≤ M.length ∧ i = .int .i64 (q : Int) ∧ wx = wr.drewN d) (fun i _ _ _ => M.length - (intOf i).toNat)
        case atStart => exact ⟨0, 0, by omega, rfl, rfl⟩
        case round =>
          obtain ⟨q, d, hqM, rfl, rfl⟩ := hrel
          by_cases hlt2 : q < M.length
          · obtain ⟨g, off, cap', cs, hsv, -, hgk, -, -, hcell⟩ := HSL.out.at_ (by omega)
            simp only [Value.slice.injEq] at hsv
            obtain ⟨rfl, -, rfl⟩ := hsv
            have HCL : Hid (∀ p, p < M.length → wr.cell? ⟨g, off + p * 2, none⟩ = some (.int .i64 (M.getD p (0, 0)).1) ∧ wr.cell? ⟨g, off + p * 2 + 1, none⟩ = some (.int .i64 (M.getD p (0, 0)).2)) := Lib.hid (fun p (hp : p < M.length) => And.intro ((hgk.cell _).trans ((hcell (p * 2) (by omega)).trans (flat_get M p hp).1)) ((hgk.cell _).trans ((hcell (p * 2 + 1) (by omega)).trans (flat_get M p hp).2)))
            have q1 := (HCL.out q hlt2).2
            have hA := HST.out.rel.rinv.all _ (getD_mem2 hlt2)
            have HWIN := Lib.hid (HST.out.win q hlt2)
            clear hgk hcell
            generalize (M.getD q (0, 0)).2 = at_ at *
            obtain ⟨-, -, at0, at1⟩ := hA
            have hqi : (q : Int) < M.length := by omega
            have hml : (M.length : Int) ≤ 60 := by omega
            go_wp2
            go_loopw [15, 16] (fun s i wx => ∃ (p d' : Nat), q ≤ p ∧ p ≤ M.length ∧ i = .int .i64 (p : Int) ∧ s = .int .i64 (ws W at_ ((M.drop q).take (p - q))) ∧ wx = wr.drewN d') (fun _ i _ => M.length - (intOf i).toNat)
            case atStart => exact ⟨q, d, by omega, by omega, rfl, by rw [Nat.sub_self]; rfl, rfl⟩
            case round =>
              obtain ⟨p, d', hqp, hpM, rfl, rfl, rfl⟩ := hrel
              have hbd := ws_bd (W := W) (a := at_) (S := (M.drop q).take (p - q)) (fun x hx => HST.out.low x (List.mem_of_mem_drop (List.mem_of_mem_take hx)))
              have hbl : ((M.drop q).take (p - q)).length ≤ 60 := by rw [List.length_take, List.length_drop]; omega
              obtain ⟨hb0, hb1⟩ := hbd
              by_cases hlt3 : p < M.length
              · have p0 := (HCL.out p hlt3).1
                have p1 := (HCL.out p hlt3).2
                have hB := HST.out.rel.rinv.all _ (getD_mem2 hlt3)
                have hlow := HST.out.low _ (getD_mem2 hlt3)
                have HT : Hid (ws W at_ ((M.drop q).take (p + 1 - q)) = ws W at_ ((M.drop q).take (p - q)) + if (M.getD p (0, 0)).2 - at_ < W then (M.getD p (0, 0)).1 + 0 else 0) := Lib.hid (by
                  rw [show p + 1 - q = p - q + 1 by omega, List.take_succ_eq_append_getElem (by rw [List.length_drop]; omega), ws_append]
                  congr 1
                  have : (M.drop q)[p - q]'(by rw [List.length_drop]; omega) = M.getD p (0, 0) := by
                    rw [List.getElem_drop, List.getD_eq_getElem?_getD, List.getElem?_eq_getElem hlt3]
                    simp only [show q + (p - q) = p by omega]; rfl
                  rw [this]; rfl)
                generalize (M.getD p (0, 0)).1 = z at *
                generalize (M.getD p (0, 0)).2 = y at *
                generalize ws W at_ ((M.drop q).take (p - q)) = s at *
                obtain ⟨-, -, y0, y1⟩ := hB
                obtain ⟨z0, z1⟩ := hlow
                have hpi : (p : Int) < M.length := by omega
                have hwr : IntKind.i64.wrap (y - at_) = y - at_ := i64_wrap (by unfold I64; omega)
                have hs4 : s ≤ 5000 := by omega
                by_cases hy : y - at_ < W
                · have hd : decide (y - at_ < W) = true := decide_eq_true hy
                  have HT2 : Hid (ws W at_ ((M.drop q).take (p + 1 - q)) = s + z) := Lib.hid (by rw [HT.out, if_pos hy, Int.add_zero])
                  go_wp2
                  go_quiet (fail)
                  go_wp2
                  exact ⟨⟨p + 1, _, by omega, by omega, by go_num, by rw [HT2.out], rfl⟩, by simp [intOf]; omega⟩
                · have hd : decide (y - at_ < W) = false := decide_eq_false hy
                  have HT2 : Hid (ws W at_ ((M.drop q).take (p + 1 - q)) = s) := Lib.hid (by rw [HT.out, if_neg hy, Int.add_zero])
                  go_wp2
                  go_quiet (fail)
                  go_wp2
                  exact ⟨⟨p + 1, _, by omega, by omega, by go_num, by rw [HT2.out], rfl⟩, by simp [intOf]; omega⟩
              · obtain rfl : p = M.length := by omega
                have hw2 : ws W at_ ((M.drop q).take (M.length - q)) ≤ m := by
                  rw [List.take_of_length_le (by rw [List.length_drop]; omega)]; exact HWIN.out
                generalize ws W at_ ((M.drop q).take (M.length - q)) = s at *
                have hns : ¬ m < s := by omega
                go_wp2
                exact ⟨⟨q + 1, d', by omega, by go_num, rfl⟩, by simp [intOf]; omega⟩
          · obtain rfl : q = M.length := by omega
            go_upto_region 26 with (go_at_call 10; (with_reducible refine (TC.out _).mono ?_); rintro e w1 ⟨rfl, hp, hf⟩; have HP1 := Lib.hid hp; have HB1 := Lib.hid (Below.trans (by repeat (first | with_reducible exact HBz.out | with_reducible apply below_alloc | with_reducible apply below_drewN | with_reducible apply below_drew)) (hf.to_below (by simp <;> omega))); clear hp hf)
            have hz1 : w.heap.size ≤ w1.heap.size := HB1.out.size
            have UC := Lib.hid (used_calls _ _ W m (now + W) 0 [] w1 HP1.out i1)
            have SC := Lib.hid (spend_yes _ _ W m (now + W) 0 m [] w1 HP1.out i1 (by decide) M1 i5 M1 (by omega) (by decide) (i64_mk (by omega) (by omega)) hz1 (fun h => absurd rfl h))
            have LC := Lib.hid (fun w2 L (h : PB w.heap.size w2 w.heap.size W m (now + W) (0 + m) L) => left_calls _ _ W m (now + W) (0 + m) L w2 h i1 (by omega) (by omega) i5)
            have hzm : m - (0 + m) = 0 := by omega
            rw [hzm] at LC
            clear hzm
            go_wp2_with (first
              | (go_at_call 12; (with_reducible refine (UC.out).mono ?_); rintro e w2 ⟨rfl, rfl⟩)
              | (go_at_call 8; (with_reducible refine (SC.out).mono ?_); rintro e w2 ⟨rfl, hp, hf⟩; have HP2 := Lib.hid hp; have HB2 := Lib.hid (Below.trans HB1.out (hf.to_below hz1)); clear hp hf)
              | (go_at_call 14; (with_reducible refine (LC.out _ _ HP2.out).mono ?_); rintro e w3 ⟨rfl, j, rfl⟩)
              | (go_at_call 16; (with_reducible refine (AW.out _).mono ?_); rintro e w4 ⟨rfl, hb⟩; have HB4 := Lib.hid (below_step (by repeat (first | with_reducible exact HB2.out | with_reducible apply below_alloc | with_reducible apply below_drewN | with_reducible apply below_drew)) hb); clear hb))
            go_ret
            exact ⟨rfl, HB4.out⟩)
end Go.Proofs.Ytjkmifoeidklkaa.Ct
