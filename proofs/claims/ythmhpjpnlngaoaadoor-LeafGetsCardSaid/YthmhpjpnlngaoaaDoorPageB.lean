import Derived.Test.YthmhpjpnlngaoaaDoorPageA
import Derived.Test.YthmhpjpnlngaoaaDoorCrcC
/-! Pages: open, Get, Kind. -/
namespace Go.Proofs.YthmhpjpnlngaoaaDoor.Ct
open Go.RowKit
set_option linter.unusedVariables false
set_option linter.unusedSimpArgs false
def openP (b : List Int) : List Int × Int := if b.length ≠ 64 then ([], 30) else openS b
def getP (b : List Int) (k : Int) : List Int × Int :=
  if (openP b).2 ≠ 0 then ([], (openP b).2) else if (1 ≤ k ∧ k ≤ 7) ∧ (openP b).1.getD 0 0 = 213 ∧ (openP b).1.getD 1 0 = k then ((openP b).1.drop 2, 0) else ([], 31)
def kindP (b : List Int) : Int :=
  if (openP b).2 ≠ 0 then 0 else if (openP b).1.getD 0 0 = 213 ∧ 1 ≤ (openP b).1.getD 1 0 ∧ (openP b).1.getD 1 0 ≤ 7 then (openP b).1.getD 1 0 else 0
def Two (p : List Int × Int) (w w' : World) (e : Ending) : Prop := ∃ a c, e = .returned (.tuple #[.slice a p.1.length c, .int .i64 p.2]) ∧ Row .u8 w' a p.1 ∧ p.1.length ≤ c ∧ c ≤ 9223372036854775807
theorem openP_cases (b : List Int) : (∃ e, openP b = ([], e) ∧ (e = 30 ∨ e = 40)) ∨ (∃ x, openP b = (x, 0) ∧ x.length = 60) := by
  unfold openP
  by_cases h : b.length = 64
  · rw [if_neg (by omega)]
    unfold openS
    rw [if_neg (by omega)]
    split
    · exact .inr ⟨_, rfl, by rw [List.length_take]; omega⟩
    · exact .inl ⟨_, rfl, .inr rfl⟩
  · rw [if_pos h]; exact .inl ⟨_, rfl, .inl rfl⟩
theorem two_nil {w w' : World} {z : Int} : Two ([], z) w w' (.returned (.tuple #[.slice none 0 0, .int .i64 z])) := ⟨none, 0, rfl, row_nil _ _, by simp, by omega⟩
set_option maxHeartbeats 2000000 in
theorem popen_calls (a : Option Addr) (cap : Nat) (b : List Int) (w : World) (h : Row .u8 w a b) (hlen : b.length ≤ 1000000000) (hcap : b.length ≤ cap) (hm : cap ≤ 9223372036854775807) (hT : Tab w) :
    Calls Tryd.prog 49 #[.slice a b.length cap] w fun e w' => Two (openP b) w w' e ∧ Below w.heap.size w w' := by
  have OC := Lib.hid (open_calls a cap b w h hlen hcap hm hT)
  clear h hT
  by_cases hl : b.length = 64
  · have E := Lib.hid (show openP b = openS b by unfold openP; rw [if_neg (by omega)])
    rw [hl] at OC ⊢
    clear hl
    go_enter Tryd.func49, Tryd.ntmps49
    go_wp2_with (go_at_call 57; (with_reducible refine (OC.out).mono ?_); rintro e w' ⟨⟨a', c', rfl, hr, h1, h2⟩, hb⟩; have HR := Lib.hid hr; have HB := Lib.hid hb; have H1 := Lib.hid h1; have H2 := Lib.hid h2; clear hr hb h1 h2)
    go_ret2
    rw [E.out]
    exact ⟨⟨a', c', rfl, HR.out, H1.out, H2.out⟩, HB.out⟩
  · have E := Lib.hid (show openP b = ([], 30) by unfold openP; rw [if_pos hl])
    have hne : ((b.length : Int) != 64) = true := by rw [bne_iff_ne]; omega
    clear hl
    go_enter Tryd.func49, Tryd.ntmps49
    go_wp2
    go_ret2
    rw [E.out]
    exact ⟨two_nil, Below.refl _ _⟩
theorem openP_wf {b x : List Int} {e : Int} (h : openP b = (x, e)) (hw : ∀ y ∈ b, (Lit.int .u8 y).wf = true) : ∀ y ∈ x, (Lit.int .u8 y).wf = true := by
  unfold openP at h
  split at h
  · cases h; simp
  · unfold openS at h
    split at h
    · cases h; simp
    · split at h
      · cases h; exact fun y hy => hw y (List.mem_of_mem_take hy)
      · cases h; simp
set_option maxHeartbeats 4000000 in
theorem pget_calls (a : Option Addr) (cap : Nat) (b : List Int) (k : Int) (w : World) (h : Row .u8 w a b) (hlen : b.length ≤ 1000000000) (hcap : b.length ≤ cap) (hm : cap ≤ 9223372036854775807) (hk : I64 k) (hT : Tab w) :
    Calls Tryd.prog 29 #[.slice a b.length cap, .int .i64 k] w fun e w' => Two (getP b k) w w' e ∧ Below w.heap.size w w' := by
  have oc := popen_calls a cap b w h hlen hcap hm hT
  have RC := Lib.hid (fun w => right_calls k w hk)
  obtain ⟨k0, k1⟩ := hk
  have G : Hid (getP b k = if (openP b).2 ≠ 0 then ([], (openP b).2) else if (1 ≤ k ∧ k ≤ 7) ∧ (openP b).1.getD 0 0 = 213 ∧ (openP b).1.getD 1 0 = k then ((openP b).1.drop 2, 0) else ([], 31)) := Lib.hid rfl
  clear h hT
  rcases openP_cases b with ⟨e, he, hv⟩ | ⟨x, he, hx⟩
  · rw [he] at oc G
    have OC := Lib.hid oc; clear oc
    have G2 := Lib.hid (show getP b k = ([], e) by rw [G.out, if_pos (show e ≠ 0 by omega)])
    have hne : (e != 0) = true := by rw [bne_iff_ne]; omega
    clear G he
    go_enter Tryd.func29, Tryd.ntmps29
    go_wp2_with (go_at_call 49; (with_reducible refine (OC.out).mono ?_); rintro e w' ⟨⟨a', c', rfl, hr, h1, h2⟩, hb⟩; have HB := Lib.hid hb; clear hr hb h1 h2)
    go_ret2
    rw [G2.out]
    exact ⟨two_nil, HB.out⟩
  · rw [he] at oc G
    have G2 := Lib.hid (show getP b k = if (1 ≤ k ∧ k ≤ 7) ∧ x.getD 0 0 = 213 ∧ x.getD 1 0 = k then (x.drop 2, 0) else ([], 31) by rw [G.out, if_neg (by simp)])
    have HD2 := Lib.hid (show (x.drop 2).length = 58 by rw [List.length_drop]; omega)
    have TL := Lib.hid (fun (w : World) (a : Addr) (h : Row .u8 w (some a) x) => row_tail h 2 (by omega) a rfl)
    have AT := Lib.hid (fun (w : World) (a : Option Addr) (h : Row .u8 w a x) => (show ∃ ad, a = some ad ∧ w.cell? (ad.add 0) = some (.int .u8 (x.getD 0 0)) ∧ w.cell? (ad.add 1) = some (.int .u8 (x.getD 1 0)) ∧ (0 ≤ x.getD 0 0 ∧ x.getD 0 0 ≤ 255) ∧ 0 ≤ x.getD 1 0 ∧ x.getD 1 0 ≤ 255 by
      obtain ⟨ad, e, hc⟩ := h.2.2 (by omega)
      exact ⟨ad, e, hc 0 (by omega), hc 1 (by omega), bounds_u8 (h.2.1 _ (getD_mem (by omega))), bounds_u8 (h.2.1 _ (getD_mem (by omega)))⟩))
    unfold Two at oc
    dsimp only at oc
    rw [hx] at oc
    have OC := Lib.hid oc; clear oc G he
    generalize x.getD 0 0 = x0 at *
    generalize x.getD 1 0 = x1 at *
    go_enter Tryd.func29, Tryd.ntmps29
    go_upto_region 4 with (go_at_call 49; (with_reducible refine (OC.out).mono ?_); rintro e w1 ⟨⟨a', c', rfl, hr, h1, h2⟩, hb⟩; have HR := Lib.hid hr; have HB := Lib.hid hb; clear hr hb)
    obtain ⟨ad, rfl, c0, c1, ⟨x00, x01⟩, x10, x11⟩ := AT.out _ _ HR.out
    have c0' : w1.cell? ad = some (.int .u8 x0) := c0
    have c1' : w1.cell? ⟨ad.block, ad.off + 1, none⟩ = some (.int .u8 x1) := c1
    have HT2 := Lib.hid (TL.out _ _ HR.out)
    clear AT TL OC
    by_cases hr : 1 ≤ k ∧ k ≤ 7
    · rw [show rightS k = true from decide_eq_true hr] at RC
      by_cases h0 : x0 = 213
      · by_cases h1' : x1 = k
        · have G3 := Lib.hid (show getP b k = (x.drop 2, 0) by rw [G2.out, if_pos ⟨hr, h0, h1'⟩])
          subst h0
          subst h1'
          go_wp2_with (go_at_call 44; (with_reducible refine (RC.out _).mono ?_); rintro e w' ⟨rfl, rfl⟩)
          go_ret2
          rw [G3.out]
          exact ⟨⟨some (ad.add 2), c' - 2, by simp only [HD2.out]; rfl, HT2.out, by simp only [HD2.out]; omega, by omega⟩, HB.out⟩
        · have G3 := Lib.hid (show getP b k = ([], 31) by rw [G2.out, if_neg (fun h => h1' h.2.2)])
          subst h0
          have hne : (x1 != k) = true := bne_iff_ne.2 h1'
          clear h1'
          go_wp2_with (go_at_call 44; (with_reducible refine (RC.out _).mono ?_); rintro e w' ⟨rfl, rfl⟩)
          go_ret2
          rw [G3.out]
          exact ⟨two_nil, HB.out⟩
      · have G3 := Lib.hid (show getP b k = ([], 31) by rw [G2.out, if_neg (fun h => h0 h.2.1)])
        have hne : (x0 != 213) = true := bne_iff_ne.2 h0
        clear h0
        go_wp2_with (go_at_call 44; (with_reducible refine (RC.out _).mono ?_); rintro e w' ⟨rfl, rfl⟩)
        go_ret2
        rw [G3.out]
        exact ⟨two_nil, HB.out⟩
    · rw [show rightS k = false from decide_eq_false hr] at RC
      have G3 := Lib.hid (show getP b k = ([], 31) by rw [G2.out, if_neg (fun h => hr h.1)])
      clear hr
      go_wp2_with (go_at_call 44; (with_reducible refine (RC.out _).mono ?_); rintro e w' ⟨rfl, rfl⟩)
      go_ret2
      rw [G3.out]
      exact ⟨two_nil, HB.out⟩
set_option maxHeartbeats 4000000 in
theorem rget_calls (a : Option Addr) (cap : Nat) (b : List Int) (k : Int) (w : World) (h : Row .u8 w a b) (hlen : b.length ≤ 1000000000) (hcap : b.length ≤ cap) (hm : cap ≤ 9223372036854775807) (hk : I64 k) :
    Calls Tryd.prog 36 #[.slice a b.length cap, .int .i64 k] w fun e w' => Two (getP b k) w w' e ∧ Below w.heap.size w w' := by
  have oc0 := ropen_calls a cap b w h hlen hcap hm
  by_cases hl64 : b.length = 64
  case neg =>
    have G2 := Lib.hid (show getP b k = ([], 30) by unfold getP openP; rw [if_pos hl64]; rfl)
    have hne : ((b.length : Int) != 64) = true := by rw [bne_iff_ne]; omega
    clear hl64 oc0 h
    go_enter Tryd.func36, Tryd.ntmps36
    go_wp2
    go_ret2
    rw [G2.out]
    exact ⟨two_nil, Below.refl _ _⟩
  have oc : Calls Tryd.prog 54 #[.slice a b.length cap] w fun e w' => Two (openP b) w w' e ∧ Below w.heap.size w w' := by
    rw [show openP b = openS b by unfold openP; rw [if_neg (by omega)]]
    exact oc0
  rw [hl64] at oc ⊢
  clear oc0
  have RC := Lib.hid (fun w => rright_calls k w hk)
  obtain ⟨k0, k1⟩ := hk
  have G : Hid (getP b k = if (openP b).2 ≠ 0 then ([], (openP b).2) else if (1 ≤ k ∧ k ≤ 7) ∧ (openP b).1.getD 0 0 = 213 ∧ (openP b).1.getD 1 0 = k then ((openP b).1.drop 2, 0) else ([], 31)) := Lib.hid rfl
  clear h
  clear hlen hcap hl64
  rcases openP_cases b with ⟨e, he, hv⟩ | ⟨x, he, hx⟩
  · rw [he] at oc G
    have OC := Lib.hid oc; clear oc
    have G2 := Lib.hid (show getP b k = ([], e) by rw [G.out, if_pos (show e ≠ 0 by omega)])
    have hne : (e != 0) = true := by rw [bne_iff_ne]; omega
    clear G he
    go_enter Tryd.func36, Tryd.ntmps36
    go_wp2_with (go_at_call 54; (with_reducible refine (OC.out).mono ?_); rintro e w' ⟨⟨a', c', rfl, hr, h1, h2⟩, hb⟩; have HB := Lib.hid hb; clear hr hb h1 h2)
    go_ret2
    rw [G2.out]
    exact ⟨two_nil, HB.out⟩
  · rw [he] at oc G
    have G2 := Lib.hid (show getP b k = if (1 ≤ k ∧ k ≤ 7) ∧ x.getD 0 0 = 213 ∧ x.getD 1 0 = k then (x.drop 2, 0) else ([], 31) by rw [G.out, if_neg (by simp)])
    have HD2 := Lib.hid (show (x.drop 2).length = 58 by rw [List.length_drop]; omega)
    have TL := Lib.hid (fun (w : World) (a : Addr) (h : Row .u8 w (some a) x) => row_tail h 2 (by omega) a rfl)
    have AT := Lib.hid (fun (w : World) (a : Option Addr) (h : Row .u8 w a x) => (show ∃ ad, a = some ad ∧ w.cell? (ad.add 0) = some (.int .u8 (x.getD 0 0)) ∧ w.cell? (ad.add 1) = some (.int .u8 (x.getD 1 0)) ∧ (0 ≤ x.getD 0 0 ∧ x.getD 0 0 ≤ 255) ∧ 0 ≤ x.getD 1 0 ∧ x.getD 1 0 ≤ 255 by
      obtain ⟨ad, e, hc⟩ := h.2.2 (by omega)
      exact ⟨ad, e, hc 0 (by omega), hc 1 (by omega), bounds_u8 (h.2.1 _ (getD_mem (by omega))), bounds_u8 (h.2.1 _ (getD_mem (by omega)))⟩))
    unfold Two at oc
    dsimp only at oc
    rw [hx] at oc
    have OC := Lib.hid oc; clear oc G he
    generalize x.getD 0 0 = x0 at *
    generalize x.getD 1 0 = x1 at *
    go_enter Tryd.func36, Tryd.ntmps36
    go_upto_region 6 with (go_at_call 54; (with_reducible refine (OC.out).mono ?_); rintro e w1 ⟨⟨a', c', rfl, hr, h1, h2⟩, hb⟩; have HR := Lib.hid hr; have HB := Lib.hid hb; clear hr hb)
    obtain ⟨ad, rfl, c0, c1, ⟨x00, x01⟩, x10, x11⟩ := AT.out _ _ HR.out
    have c0' : w1.cell? ad = some (.int .u8 x0) := c0
    have c1' : w1.cell? ⟨ad.block, ad.off + 1, none⟩ = some (.int .u8 x1) := c1
    have HT2 := Lib.hid (TL.out _ _ HR.out)
    clear AT TL OC
    by_cases hr : 1 ≤ k ∧ k ≤ 7
    · rw [show rightS k = true from decide_eq_true hr] at RC
      by_cases h0 : x0 = 213
      · by_cases h1' : x1 = k
        · have G3 := Lib.hid (show getP b k = (x.drop 2, 0) by rw [G2.out, if_pos ⟨hr, h0, h1'⟩])
          subst h0
          subst h1'
          go_wp2_with (go_at_call 47; (with_reducible refine (RC.out _).mono ?_); rintro e w' ⟨rfl, rfl⟩)
          go_ret2
          rw [G3.out]
          exact ⟨⟨some (ad.add 2), c' - 2, by simp only [HD2.out]; rfl, HT2.out, by simp only [HD2.out]; omega, by omega⟩, HB.out⟩
        · have G3 := Lib.hid (show getP b k = ([], 31) by rw [G2.out, if_neg (fun h => h1' h.2.2)])
          subst h0
          have hne : (x1 != k) = true := bne_iff_ne.2 h1'
          clear h1'
          go_wp2_with (go_at_call 47; (with_reducible refine (RC.out _).mono ?_); rintro e w' ⟨rfl, rfl⟩)
          go_ret2
          rw [G3.out]
          exact ⟨two_nil, HB.out⟩
      · have G3 := Lib.hid (show getP b k = ([], 31) by rw [G2.out, if_neg (fun h => h0 h.2.1)])
        have hne : (x0 != 213) = true := bne_iff_ne.2 h0
        clear h0
        go_wp2_with (go_at_call 47; (with_reducible refine (RC.out _).mono ?_); rintro e w' ⟨rfl, rfl⟩)
        go_ret2
        rw [G3.out]
        exact ⟨two_nil, HB.out⟩
    · rw [show rightS k = false from decide_eq_false hr] at RC
      have G3 := Lib.hid (show getP b k = ([], 31) by rw [G2.out, if_neg (fun h => hr h.1)])
      clear hr
      go_wp2_with (go_at_call 47; (with_reducible refine (RC.out _).mono ?_); rintro e w' ⟨rfl, rfl⟩)
      go_ret2
      rw [G3.out]
      exact ⟨two_nil, HB.out⟩
end Go.Proofs.YthmhpjpnlngaoaaDoor.Ct
