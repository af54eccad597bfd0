import Derived.Test.YtkncgbjoaoobjaaDoorPageB
/-! Pages: Kind, Blank. -/
namespace Go.Proofs.YtkncgbjoaoobjaaDoor.Ct
open Go.RowKit
set_option linter.unusedVariables false
set_option linter.unusedSimpArgs false
theorem kind_hit {b : List Int} {k : Int} (h : (getP b k).2 = 0) : kindP b = k ∧ 1 ≤ k ∧ k ≤ 7 := by
  unfold getP at h
  unfold kindP
  split at h
  · rename_i h1; exact absurd h h1
  · rename_i h1
    split at h
    · rename_i h2
      obtain ⟨⟨h3, h4⟩, h5, h6⟩ := h2
      rw [if_neg h1, if_pos ⟨h5, by omega, by omega⟩]
      exact ⟨h6, h3, h4⟩
    · exact absurd h (by decide)
theorem kind_miss {b : List Int} (h : ∀ k : Int, 1 ≤ k → k ≤ 7 → (getP b k).2 ≠ 0) : kindP b = 0 := by
  unfold kindP
  split
  · rfl
  · rename_i h1
    split
    · rename_i h2
      exfalso
      refine h _ h2.2.1 h2.2.2 ?_
      unfold getP
      rw [if_neg h1, if_pos ⟨h2.2, h2.1, rfl⟩]
    · rfl
theorem kind_bd (b : List Int) : 0 ≤ kindP b ∧ kindP b ≤ 7 := by
  unfold kindP
  split
  · omega
  · split <;> omega
theorem getP_bd (b : List Int) (k : Int) : 0 ≤ (getP b k).2 ∧ (getP b k).2 ≤ 40 := by
  unfold getP
  rcases openP_cases b with ⟨e, he, hv⟩ | ⟨x, he, hx⟩
  · rw [he]
    split
    · dsimp only; omega
    · split <;> simp
  · rw [he]
    split
    · simp
    · split <;> simp
set_option maxHeartbeats 4000000 in
theorem pkind_calls (a : Option Addr) (cap : Nat) (b : List Int) (w : World) (h : Row .u8 w a b) (hlen : b.length ≤ 1000000000) (hcap : b.length ≤ cap) (hm : cap ≤ 9223372036854775807) (hT : Tab w) :
    Calls Tryd.prog 11 #[.slice a b.length cap] w fun e w' => e = .returned (.int .i64 (kindP b)) ∧ Below w.heap.size w w' := by
  have oc := popen_calls a cap b w h hlen hcap hm hT
  have RC := Lib.hid (fun k hk w => right_calls k w hk)
  have G : Hid (kindP b = if (openP b).2 ≠ 0 then 0 else if (openP b).1.getD 0 0 = 213 ∧ 1 ≤ (openP b).1.getD 1 0 ∧ (openP b).1.getD 1 0 ≤ 7 then (openP b).1.getD 1 0 else 0) := Lib.hid rfl
  clear h hT
  rcases openP_cases b with ⟨e, he, hv⟩ | ⟨x, he, hx⟩
  · rw [he] at oc G
    have OC := Lib.hid oc; clear oc
    have G2 := Lib.hid (show kindP b = 0 by rw [G.out, if_pos (show e ≠ 0 by omega)])
    have hne : (e != 0) = true := by rw [bne_iff_ne]; omega
    clear G he
    go_enter Tryd.func11, Tryd.ntmps11
    go_wp2_with (go_at_call 20; (with_reducible refine (OC.out).mono ?_); rintro e w' ⟨⟨a', c', rfl, hr, h1, h2⟩, hb⟩; have HB := Lib.hid hb; clear hr hb h1 h2)
    go_ret
    rw [G2.out]
    exact ⟨rfl, HB.out⟩
  · rw [he] at oc G
    have G2 := Lib.hid (show kindP b = if x.getD 0 0 = 213 ∧ 1 ≤ x.getD 1 0 ∧ x.getD 1 0 ≤ 7 then x.getD 1 0 else 0 by rw [G.out, if_neg (by simp)])
    have AT := Lib.hid (fun (w : World) (a : Option Addr) (h : Row .u8 w a x) => (show ∃ ad, a = some ad ∧ w.cell? (ad.add 0) = some (.int .u8 (x.getD 0 0)) ∧ w.cell? (ad.add 1) = some (.int .u8 (x.getD 1 0)) ∧ (0 ≤ x.getD 0 0 ∧ x.getD 0 0 ≤ 255) ∧ 0 ≤ x.getD 1 0 ∧ x.getD 1 0 ≤ 255 by
      obtain ⟨ad, e, hc⟩ := h.2.2 (by omega)
      exact ⟨ad, e, hc 0 (by omega), hc 1 (by omega), bounds_u8 (h.2.1 _ (getD_mem (by omega))), bounds_u8 (h.2.1 _ (getD_mem (by omega)))⟩))
    unfold Two at oc
    dsimp only at oc
    rw [hx] at oc
    have OC := Lib.hid oc; clear oc G he
    generalize x.getD 0 0 = x0 at *
    generalize x.getD 1 0 = x1 at *
    go_enter Tryd.func11, Tryd.ntmps11
    go_upto_region 2 with (go_at_call 20; (with_reducible refine (OC.out).mono ?_); rintro e w1 ⟨⟨a', c', rfl, hr, h1, h2⟩, hb⟩; have HR := Lib.hid hr; have HB := Lib.hid hb; clear hr hb)
    obtain ⟨ad, rfl, c0, c1, ⟨x00, x01⟩, x10, x11⟩ := AT.out _ _ HR.out
    have c0' : w1.cell? ad = some (.int .u8 x0) := c0
    have c1' : w1.cell? ⟨ad.block, ad.off + 1, none⟩ = some (.int .u8 x1) := c1
    clear AT OC
    have rc := fun w => RC.out x1 (by unfold I64; omega) w
    by_cases h0 : x0 = 213
    · by_cases hr : 1 ≤ x1 ∧ x1 ≤ 7
      · rw [show rightS x1 = true from decide_eq_true hr] at rc
        have R1 := Lib.hid rc
        have G3 := Lib.hid (show kindP b = x1 by rw [G2.out, if_pos ⟨h0, hr⟩])
        subst h0
        clear RC rc
        go_wp2_with (go_at_call 21; (with_reducible refine (R1.out _).mono ?_); rintro e w' ⟨rfl, rfl⟩)
        go_ret
        rw [G3.out]
        exact ⟨rfl, HB.out⟩
      · rw [show rightS x1 = false from decide_eq_false hr] at rc
        have R1 := Lib.hid rc
        have G3 := Lib.hid (show kindP b = 0 by rw [G2.out, if_neg (fun h => hr h.2)])
        subst h0
        clear RC rc hr
        go_wp2_with (go_at_call 21; (with_reducible refine (R1.out _).mono ?_); rintro e w' ⟨rfl, rfl⟩)
        go_ret
        rw [G3.out]
        exact ⟨rfl, HB.out⟩
    · have R1 := Lib.hid rc
      have G3 := Lib.hid (show kindP b = 0 by rw [G2.out, if_neg (fun h => h0 h.1)])
      have hne : (x0 != 213) = true := bne_iff_ne.2 h0
      clear RC rc h0
      go_wp2_with (go_at_call 21; (with_reducible refine (R1.out _).mono ?_); rintro e w' ⟨rfl, rfl⟩)
      go_ret
      rw [G3.out]
      exact ⟨rfl, HB.out⟩
set_option maxHeartbeats 4000000 in
theorem rkind_calls (a : Option Addr) (cap : Nat) (b : List Int) (w : World) (h : Row .u8 w a b) (hlen : b.length ≤ 1000000000) (hcap : b.length ≤ cap) (hm : cap ≤ 9223372036854775807) :
    Calls Tryd.prog 15 #[.slice a b.length cap] w fun e w' => e = .returned (.int .i64 (kindP b)) ∧ Below w.heap.size w w' := by
  have GC := Lib.hid (fun k w' (hb : Below w.heap.size w w') (hk : I64 k) => rget_calls a cap b k w' (h.below hb) hlen hcap hm hk)
  have HB0 := Lib.hid (Below.refl w.heap.size w)
  clear h
  go_enter Tryd.func15, Tryd.ntmps15
  go_wp2
  go_loopw [3, 4, 5, 10, 11, 12, 13, 14, 15] (fun k _ _ _ _ _ _ _ _ wr => ∃ n : Nat, 1 ≤ n ∧ n ≤ 8 ∧ k = .int .i64 n ∧ (∀ j : Int, 1 ≤ j → j < n → (getP b j).2 ≠ 0) ∧ Below w.heap.size w wr) (fun k _ _ _ _ _ _ _ _ _ => 8 - (intOf k).toNat)
  case atStart => exact ⟨1, by omega, by omega, rfl, fun j h1 h2 => by omega, HB0.out⟩
  case round =>
    obtain ⟨n, n1, n8, rfl, hne, hb⟩ := hrel
    have HN := Lib.hid hne
    have HB := Lib.hid hb
    clear hne hb HB0
    by_cases hlt : n ≤ 7
    · have G1 := Lib.hid (GC.out n wr HB.out (by unfold I64; omega))
      have hbd := getP_bd b n
      have HIT := Lib.hid (fun h => (kind_hit (b := b) (k := n) h).1)
      have HNX := Lib.hid (fun (h : (getP b n).2 ≠ 0) => (show ∀ j : Int, 1 ≤ j → j < ((n + 1 : Nat) : Int) → (getP b j).2 ≠ 0 by
        intro j h1 h2
        by_cases e : j = n
        · rw [e]; exact h
        · exact HN.out j h1 (by omega)))
      generalize getP b (n : Int) = p at *
      obtain ⟨y, z⟩ := p
      dsimp only at hbd HIT HNX
      by_cases hz : z = 0
      · have HE := Lib.hid (HIT.out hz)
        subst hz
        go_wp2_with (go_at_call 14; (with_reducible refine (G1.out).mono ?_); rintro e w1 ⟨⟨a', c', rfl, hr, h1, h2⟩, hb⟩; have HB1 := Lib.hid (below_step HB.out hb); clear hr hb)
        go_ret
        rw [HE.out]
        exact ⟨rfl, HB1.out⟩
      · have HE := Lib.hid (HNX.out hz)
        have hzb : (z == 0) = false := beq_eq_false_iff_ne.2 hz
        clear HIT hz HNX
        go_wp2_with (go_at_call 14; (with_reducible refine (G1.out).mono ?_); rintro e w1 ⟨⟨a', c', rfl, hr, h1, h2⟩, hb⟩; have HB1 := Lib.hid (below_step HB.out hb); clear hr hb)
        go_roundw
        case rel => exact ⟨n + 1, by omega, by omega, by go_num, HE.out, HB1.out⟩
        case measure => simp [intOf]; omega
    · obtain rfl : n = 8 := by omega
      have HE := Lib.hid (kind_miss (b := b) (fun k h1 h2 => HN.out k h1 (by omega)))
      go_wp2
      go_ret
      rw [HE.out]
      exact ⟨rfl, HB.out⟩
end Go.Proofs.YtkncgbjoaoobjaaDoor.Ct
