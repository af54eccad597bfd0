import Derived.Test.YtjjhfllpbicclaaLaw23A
import Derived.Deep.CutBlock
/-! Chapter 23: GhostLast. -/
namespace Go.Proofs.Ytjjhfllpbicclaa.Ct
open Go.RowKit
set_option linter.unusedVariables false
set_option linter.unusedSimpArgs false
theorem Own.row3 {k : IntKind} {E : TypeId} {w : World} {base : Nat} {a : Option Addr} {n c : Nat} {xs : List Int} (h : Own k E w base (.slice a n c) xs) : Row k w a xs := by
  obtain ⟨a', c', e, -, -, r, -⟩ := h.form
  injection e with e1 e2 e3
  subst e1
  exact r
theorem gh_all3 (base h g : Nat) (most : Int) (row : List Int) (c : Nat) (w : World) (a : GH base w h g most row c) (hm : most ≤ 1024) :
    Calls Try.prog 9 #[.pointer (some ⟨h, 0, none⟩)] w fun e w' => ∃ a4 c4, e = .returned (.slice a4 row.length c4) ∧ Row .u64 w' a4 row ∧ Below w.heap.size w w' :=
  (gh_all base h g most row c w a hm).mono fun e w' ⟨v, h1, h2, h3⟩ => by
    obtain ⟨a4, c4, hv, -, -, -, -⟩ := h2.form
    subst hv
    exact ⟨a4, c4, h1, h2.row3, h3⟩
theorem getD_rev {l : List Int} {i : Nat} (h : i < l.length) : l.reverse.getD (l.length - 1 - i) 0 = l.getD i 0 := by
  rw [List.getD_eq_getElem?_getD, List.getD_eq_getElem?_getD, List.getElem?_reverse (by omega)]
  congr 2; omega
/-- append makes its own row anew; a history's blocks are others. -/
theorem GH.alloc {base : Nat} {w : World} {h g : Nat} {most : Int} {row : List Int} {c : Nat} (a : GH base w h g most row c) (o : Obj) : GH base (w.alloc o) h g most row c := a.below (below_alloc (Below.refl _ _) o)
theorem GH.grown {base b2 : Nat} {w w' : World} {h g : Nat} {most : Int} {row : List Int} {c : Nat} {k : IntKind} {v : Value} {xs : List Int} (a : GH base w h g most row c) (hg : w.grownBy w' v.ownBlock) (ho : Own k 28 w b2 v xs) : GH base w' h g most row c := by
  obtain ⟨sv, M, L, now, ⟨h1, h2, h3, h4, h5⟩, h6⟩ := a
  have hne : ∀ i (t : TypeId) (cs : Array Value), Blk w i t cs → t ≠ 28 → some i ≠ v.ownBlock := by
    intro i t cs hb ht e
    rcases ho.1.2 with ⟨e0, -⟩ | ⟨g', cap, cur, e0, hb', hh, -⟩
    · subst e0; cases e
    · subst e0
      injection e with e
      subst e
      have hh' : Blk w i 28 cur := hh
      unfold Blk at hb hh'
      rw [hb] at hh'
      injection hh' with hh'
      injection hh' with _ e
      exact ht e
  refine ⟨sv, M, L, now, ⟨h1, h2, h3.grown hg (hne _ _ _ h3 (by decide)), ?_, h5.keep fun i cs _ hb => hb.grown hg (hne _ _ _ hb (by decide))⟩, h6⟩
  obtain ⟨es, ck, e1, e2⟩ := h4
  refine ⟨es, ck, (hg.block g (Array.getElem?_eq_some_iff.1 e1).1 ?_).trans e1, e2⟩
  intro e
  rcases ho.1.2 with ⟨e0, -⟩ | ⟨g', cap, cur, e0, hb', hh, -⟩
  · subst e0; cases e
  · subst e0
    injection e with e
    subst e
    have hh' : w.heap[g]? = some (.cells cur 28 (0, 0)) := hh
    rw [e1] at hh'
    cases hh'
set_option maxRecDepth 100000 in
set_option maxHeartbeats 8000000 in
theorem last23_walk (mo : Int) (a : Option Addr) (cap : Nat) (xs : List Int) (w : World) (hm : 0 ≤ mo ∧ mo ≤ 255) (hc : xs.length ≤ cap) (hcm : cap ≤ 9223372036854775807) (h : Row .u64 w a xs) :
    Calls Try.prog 3 #[.int .u8 mo, .slice a xs.length cap] w fun e w' => e = .returned (.bool true) ∧ Below w.heap.size w w' := by
  obtain ⟨hm0, hm1⟩ := hm
  have M1 : 0 ≤ mo % 40 := by omega
  have M2 : mo % 40 ≤ 39 := by omega
  have NC := Lib.hid (gh_new (mo % 40) w M1 (by omega))
  obtain ⟨ks, hks⟩ : ∃ ks, ks = xs.take 100 := ⟨_, rfl⟩
  have KR := Lib.hid (show Row .u64 w a ks by rw [hks]; exact h.take 100)
  have K1 : ks.length ≤ 100 := by rw [hks, List.length_take]; omega
  have K2 : ks.length ≤ cap := by rw [hks, List.length_take]; omega
  obtain ⟨N, hN⟩ : ∃ N, ks.length = N := ⟨_, rfl⟩
  have hcase : (¬ (100 : Int) < xs.length ∧ xs.length = N) ∨ ((100 : Int) < xs.length ∧ N = 100) := by
    rw [← hN, hks, List.length_take]; omega
  have hadr : 0 < xs.length → ∃ ad, a = some ad := fun hp => by obtain ⟨ad, e, _⟩ := h.2.2 hp; exact ⟨ad, e⟩
  rw [hN] at K1 K2
  have HN := Lib.hid hN
  clear h hN hks
  generalize xs.length = X at *
  go_enter Try.func3, Try.ntmps3
  go_upto_region 5 with (go_at_call 6; (with_reducible refine (NC.out).mono ?_); rintro e w1 ⟨rfl, hg, hb⟩; have HG := Lib.hid hg; have HB1 := Lib.hid hb; clear hg hb)
  generalize mo % 40 = z at *
  obtain ⟨n, rfl⟩ : ∃ n : Nat, z = n := ⟨z.toNat, by omega⟩
  generalize hB : w.heap.size = B at *
  have HBB := Lib.hid hB
  clear NC hm0 hm1 hB
  go_upto_if 29 with (fail)
  go_cut [1] (fun s wx => s = .slice a N cap ∧ wx = w1)
  case first =>
    rcases hcase with ⟨h1, rfl⟩ | ⟨h1, rfl⟩
    · have d1 : decide ((100 : Int) < X) = false := decide_eq_false (by omega)
      go_wp2
      go_meet
      exact ⟨rfl, rfl⟩
    · have d1 : decide ((100 : Int) < X) = true := decide_eq_true (by omega)
      have hcc : (100 : Int) ≤ cap := by omega
      obtain ⟨ad, rfl⟩ := hadr (by omega)
      go_wp2
      go_meet
      exact ⟨rfl, rfl⟩
  case rest =>
  obtain ⟨rfl, rfl⟩ := hcut
  have HST := Lib.hid (show GH B wc (B + 1) B n (rowS n (ks.take 0)) 0 from HG.out)
  clear HG hcase hadr hc
  go_wp2
  go_loopw [8] (fun i wr => ∃ j : Nat, j ≤ N ∧ i = .int .i64 (j : Int) ∧ GH B wr (B + 1) B n (rowS n (ks.take j)) j ∧ Below B w wr) (fun i _ => N - (intOf i).toNat)
  case atStart => exact ⟨0, by omega, rfl, HST.out, HB1.out⟩
  case round =>
  clear HST
  obtain ⟨j, hj, rfl, hg, hb⟩ := hrel
  have HG := Lib.hid hg; have HBz := Lib.hid hb; have HZ := Lib.hid (show B ≤ wr.heap.size from by rw [← HBB.out]; exact (show Below w.heap.size w wr by rw [HBB.out]; exact hb).size)
  clear hg hb
  by_cases hlt : j < N
  · have hlti : (j : Int) < N := by omega
    obtain ⟨ad, rfl, hcell, hwf⟩ := (KR.out.below (by rw [HBB.out]; exact HBz.out)).at_ (j := j) (by rw [HN.out]; exact hlt)
    have WF := Lib.hid (show U64 (ks.getD j 0) from bounds_u64 hwf)
    have ST := Lib.hid (rowS_step (n := n) (keys := ks) (j := j) (by rw [HN.out]; exact hlt))
    clear hwf
    generalize ks.getD j 0 = x at *
    go_wp2_with (go_at_call 7; (with_reducible refine (gh_put B (B + 1) B n x _ j wr HG.out WF.out (by omega) (by omega) HZ.out).mono ?_); rintro e w4 ⟨rfl, hg4, hf4⟩; have HB4 := Lib.hid (Below.trans HBz.out (hf4.to_below HZ.out)); have HG4 := Lib.hid hg4; clear hg4 hf4)
    go_roundw
    case rel => exact ⟨j + 1, by omega, by go_num, by rw [ST.out]; exact HG4.out, HB4.out⟩
    case measure => simp [intOf]; omega
  obtain rfl : j = N := by omega
  have RW := Lib.hid (show rowS n (ks.take j) = rowS n ks by rw [← HN.out, List.take_length])
  rw [RW.out] at HG
  clear RW
  have L0 := Lib.hid (show lastS n ks j = [] by rw [← HN.out]; exact lastS_end n ks)
  have LR := Lib.hid (lastS_row n ks)
  clear HB1
  go_upto_block 2 with (fail)
  go_cut [9] (fun l wx => Own .u64 28 wx B l (lastS n ks 0) ∧ GH B wx (B + 1) B n (rowS n ks) j ∧ Below B w wx ∧ B ≤ wx.heap.size)
  case first =>
    go_wp2
    go_loopw [9, 10] (fun v i wx => ∃ (p : Nat) (iv : Int), p ≤ j ∧ i = .int .i64 iv ∧ iv + 1 = p ∧ Own .u64 28 wx B v (lastS n ks p) ∧ GH B wx (B + 1) B n (rowS n ks) j ∧ Below B w wx ∧ B ≤ wx.heap.size) (fun _ i _ => (intOf i + 1).toNat)
    case atStart => exact ⟨j, _, Nat.le_refl _, rfl, by omega, by rw [L0.out]; exact own_nil _ _ _ _, HG.out, HBz.out, HZ.out⟩
    case round =>
    clear HG HBz HZ
    obtain ⟨p, iv, hp, rfl, hiv, ho, hg, hb, hz⟩ := hrel
    have HO := Lib.hid ho; have HG := Lib.hid hg; have HBz := Lib.hid hb; have HZ := Lib.hid hz
    obtain ⟨ra, rc, hrv, -, -, -, -⟩ := ho.form
    subst hrv
    have LL := lastS_len n ks p
    clear ho hg hb hz
    by_cases hgo : 0 < p ∧ (lastS n ks p).length < n
    · obtain ⟨hp0, hln⟩ := hgo
      obtain ⟨q, rfl⟩ : ∃ q, p = q + 1 := ⟨p - 1, by omega⟩
      obtain rfl : iv = q := by omega
      have hqj : (q : Int) < j := by omega
      have hlni : ((lastS n ks (q + 1)).length : Int) < n := by omega
      obtain ⟨ad, rfl, hcell, hwf⟩ := (KR.out.below (by rw [HBB.out]; exact HBz.out)).at_ (j := q) (by rw [HN.out]; omega)
      have WF := Lib.hid hwf
      have ST := Lib.hid (lastS_step (n := n) (keys := ks) (j := q) (by rw [HN.out]; omega))
      have HC := Lib.hid (rhas_calls ra rc (lastS n ks (q + 1)) (ks.getD q 0) wr HO.out.row3)
      clear hwf hp0 hiv
      generalize ks.getD q 0 = x at *
      generalize lastS n ks (q + 1) = ys at *
      have hw1 : IntKind.i64.wrap ((q : Int) - 1) = q - 1 := i64_wrap_id (by omega) (by omega)
      by_cases hx : x ∈ ys
      · have S2 := Lib.hid (show lastS n ks q = ys by rw [ST.out]; unfold stepL; rw [if_pos hln, if_pos hx])
        rw [decide_eq_true hx] at HC
        clear hx ST
        go_wp2_with (go_at_call 8; (with_reducible refine (HC.out).mono ?_); rintro e w4 ⟨rfl, rfl⟩)
        go_roundw
        case rel => exact ⟨q, _, by omega, rfl, by omega, by rw [S2.out]; exact HO.out, HG.out, HBz.out, HZ.out⟩
        case measure => simp [intOf]
      · have S2 := Lib.hid (show lastS n ks q = ys ++ [x] by rw [ST.out]; unfold stepL; rw [if_pos hln, if_neg hx])
        rw [decide_eq_false hx] at HC
        clear hx ST
        go_wp2_with (first
          | (go_at_call 8; (with_reducible refine (HC.out).mono ?_); rintro e w4 ⟨rfl, rfl⟩)
          | (at_builtin; refine wp_app1 22 28 .u64 8 Try.underlying22 infoU64 rfl (.tmp 64) (.tmp 69) rfl B _ ys x (HO.out.alloc _) rfl _ rfl (by first | (simp [go_sem]; done) | rfl | exact World.cell?_alloc_new _ _ _ _) WF.out (by omega) (by decide) (by have := HZ.out; simp; omega) ?_; intro v' w1 hown1 hg1; have hb1 := Below.app (HBz.out.alloc HZ.out _) hg1 (HO.out.alloc _) (Nat.le_refl _) (by have := HZ.out; simp; omega); have HO1 := Lib.hid hown1; have HB1 := Lib.hid hb1; have HG1 := Lib.hid (GH.grown (HG.out.alloc _) hg1 (HO.out.alloc _)); have HZ1 := Lib.hid (Nat.le_trans (show B ≤ _ by have := HZ.out; simp; omega) hg1.size); clear hown1 hb1 hg1))
        go_roundw
        case rel => exact ⟨q, _, by omega, rfl, by omega, by rw [S2.out]; exact HO1.out, HG1.out, HB1.out, HZ1.out⟩
        case measure => simp [intOf]
    · by_cases hp0 : p = 0
      · subst hp0
        obtain rfl : iv = -1 := by omega
        go_wp2
        go_meet
        exact ⟨HO.out, HG.out, HBz.out, HZ.out⟩
      · have hln : n ≤ (lastS n ks p).length := by omega
        have F := Lib.hid (lastS_full hln (by rw [HN.out]; exact hp))
        have hiv0 : 0 ≤ iv := by omega
        have hlni : ¬ ((lastS n ks p).length : Int) < n := by omega
        go_wp2
        go_meet
        exact ⟨by rw [F.out]; exact HO.out, HG.out, HBz.out, HZ.out⟩
  case rest =>
  obtain ⟨ho, hg, hb, hz⟩ := hcut
  rename_i l0
  obtain ⟨ra, rc, hrv, -, -, -, -⟩ := ho.form
  subst hrv
  have RR := Lib.hid ho.row3
  have AC := Lib.hid (gh_all3 B (B + 1) B n (rowS n ks) j _ hg (by omega))
  have HBz := Lib.hid hb
  have HZ := Lib.hid hz
  have TL := lastS_len n ks 0
  clear ho hg hb hz HG L0
  rw [LR.out] at *
  generalize rowS n ks = row at *
  have hrl : row.reverse.length = row.length := by simp
  obtain ⟨T, hT⟩ : ∃ T : Nat, row.length = T := ⟨_, rfl⟩
  rw [hT] at hrl
  have RRR := Lib.hid (fun i (hi : i < row.length) => getD_rev (l := row) hi)
  generalize row.reverse = rev at *
  simp only [hT] at AC RRR
  have HT := Lib.hid hT
  have RT := Lib.hid hrl
  rw [hrl]
  rw [hrl] at TL
  clear hT hrl LR
  go_upto_region 18 with (go_at_call 9; (with_reducible refine (AC.out).mono ?_); rintro e w5 ⟨a4, c4, rfl, hr4, hb4⟩; have R4 := Lib.hid hr4; have RR2 := Lib.hid (RR.out.below hb4); have HB5 := Lib.hid (Below.trans HBz.out (hb4.mono HZ.out)); have HZ5 := Lib.hid (Nat.le_trans HZ.out hb4.size); clear hr4 hb4)
  clear HBz HZ AC RR KR
  have q0 : ((T : Int) != T) = false := bne_self_eq_false _
  go_wp2
  go_loopw [12] (fun i wr => ∃ p m : Nat, p ≤ T ∧ i = .int .i64 (p : Int) ∧ wr = w5.drewN m) (fun i _ => T - (intOf i).toNat)
  case atStart => exact ⟨0, 0, by omega, rfl, rfl⟩
  case round =>
  obtain ⟨p, m, hp, rfl, rfl⟩ := hrel
  by_cases hlp : p < T
  · obtain ⟨r, hr⟩ : ∃ r, T - 1 - p = r := ⟨_, rfl⟩
    have hpi : (p : Int) < T := by omega
    have hri : (r : Int) < T := by omega
    obtain ⟨ad, rfl, e0, -⟩ := R4.out.at_ (j := p) (by rw [HT.out]; exact hlp)
    obtain ⟨bd, rfl, e1, -⟩ := RR2.out.at_ (j := r) (by rw [RT.out]; omega)
    have ee := RRR.out p hlp
    rw [hr] at ee
    rw [ee] at e1
    clear ee
    have hw1 : IntKind.i64.wrap ((T : Int) - 1) = T - 1 := i64_wrap_id (by omega) (by omega)
    have hw2 : IntKind.i64.wrap ((T : Int) - 1 - p) = r := (i64_wrap_id (by omega) (by omega)).trans (by omega)
    clear hr
    generalize row.getD p 0 = x at *
    have q1 : (x != x) = false := bne_self_eq_false _
    go_wp2
    go_quiet (fail)
    go_wp2
    exact ⟨⟨p + 1, _, by omega, by go_num, rfl⟩, by simp [intOf]; omega⟩
  · obtain rfl : p = T := by omega
    go_wp2_with (go_at_call 10; (with_reducible refine (awake23_calls (w5.drewN m)).mono ?_); rintro e w7 ⟨rfl, hb⟩; have HB7 := Lib.hid (Below.trans HB5.out ((below_step (below_drewN (Below.refl w5.heap.size w5) m) hb).mono HZ5.out)); clear hb)
    go_ret
    exact ⟨rfl, by rw [HBB.out]; exact HB7.out⟩
end Go.Proofs.Ytjjhfllpbicclaa.Ct
