import Derived.Test.YtminokbigpckaaaDoorSlE
import Derived.Deep.QuietTactic
import Derived.BigQuiet
/-! Same, both. -/
namespace Go.Proofs.YtminokbigpckaaaDoor.Ct
open Go.RowKit
set_option linter.unusedVariables false
set_option linter.unusedSimpArgs false
set_option maxHeartbeats 4000000 in
theorem rsame05_calls (a b : Option Addr) (ac bc : Nat) (xs ys : List Int) (w : World) (h : Row .i64 w a xs) (k : Row .i64 w b ys) :
    Calls Tryd.prog 29 #[.slice a xs.length ac, .slice b ys.length bc] w fun e w' => e = .returned (.bool (decide (xs = ys))) ∧ Below w.heap.size w w' := by
  have hl := h.len
  have hl2 := k.len
  by_cases hlen : xs.length = ys.length
  · have H := Lib.hid h
    have K := Lib.hid k
    have HY := Lib.hid (fun (hh : ∀ j, j < xs.length → xs.getD j 0 = ys.getD j 0) => show decide (xs = ys) = true from decide_eq_true (by
      apply List.ext_getElem hlen
      intro j h1 h2
      have := hh j h1
      rwa [List.getD_eq_getElem?_getD, List.getD_eq_getElem?_getD, List.getElem?_eq_getElem h1, List.getElem?_eq_getElem h2] at this))
    have HN := Lib.hid (fun j (hj : j < xs.length) (hne : xs.getD j 0 ≠ ys.getD j 0) => show decide (xs = ys) = false from decide_eq_false (fun e => hne (by rw [e])))
    clear h k
    generalize decide (xs = ys) = r at *
    have HL := Lib.hid hlen
    obtain ⟨n, hn⟩ : ∃ n : Nat, xs.length = n := ⟨_, rfl⟩
    rw [hn] at hlen HY HN hl ⊢
    rw [← hlen]
    have HNN := Lib.hid hn
    clear hn hlen hl2
    go_enter Tryd.func29, Tryd.ntmps29
    go_wp2
    go_loopw [5] (fun i wr => ∃ j m : Nat, j ≤ n ∧ i = .int .i64 j ∧ (∀ q, q < j → xs.getD q 0 = ys.getD q 0) ∧ wr = w.drewN m) (fun i _ => n - (intOf i).toNat)
    case atStart => exact ⟨0, 0, by omega, rfl, by omega, rfl⟩
    case round =>
      obtain ⟨j, m, hj, rfl, hz, rfl⟩ := hrel
      have HZ := Lib.hid hz
      clear hz
      by_cases hlt : j < n
      · obtain ⟨ad, rfl, hc, -⟩ := H.out.at_ (j := j) (by rw [HNN.out]; exact hlt)
        obtain ⟨bd, rfl, hd, -⟩ := K.out.at_ (j := j) (by rw [← HL.out, HNN.out]; exact hlt)
        have hlti : (j : Int) < n := by omega
        have HN1 := Lib.hid (fun e => HN.out j hlt e)
        have HZ1 := Lib.hid (fun (he : xs.getD j 0 = ys.getD j 0) => (show ∀ q, q < j + 1 → xs.getD q 0 = ys.getD q 0 by
          intro q hq
          rcases Nat.lt_succ_iff_lt_or_eq.1 hq with h1 | rfl
          · exact HZ.out q h1
          · exact he))
        generalize xs.getD j 0 = x at *
        generalize ys.getD j 0 = y at *
        by_cases hxy : x = y
        · have Z2 := Lib.hid (HZ1.out hxy)
          have q1 : (x != y) = false := bne_eq_false_iff_eq.2 hxy
          clear HN1 HZ1 hxy
          go_wp2
          go_quiet (fail)
          go_wp2
          exact ⟨⟨j + 1, _, by omega, by go_num, Z2.out, rfl⟩, by simp [intOf]; omega⟩
        · have R := Lib.hid (HN1.out hxy)
          have q1 : (x != y) = true := bne_iff_ne.2 hxy
          clear HN1 HZ1 hxy
          go_wp2
          go_quiet (fail)
          go_wp2
          go_ret
          rw [R.out]
          exact ⟨rfl, below_drewN (below_drewN (Below.refl _ _) _) _⟩
      · obtain rfl : j = n := by omega
        have R := Lib.hid (HY.out HZ.out)
        go_wp2
        go_ret
        rw [R.out]
        exact ⟨rfl, below_drewN (Below.refl _ _) _⟩
  · have D := Lib.hid (show decide (xs = ys) = false from decide_eq_false (fun e => hlen (by rw [e])))
    clear h k
    generalize decide (xs = ys) = r at *
    generalize xs.length = n at *
    generalize ys.length = m at *
    have hn2 : ¬ (n : Int) = m := by omega
    have q1 : ((n : Int) != m) = true := bne_iff_ne.2 hn2
    go_enter Tryd.func29, Tryd.ntmps29
    go_wp2
    go_ret
    rw [D.out]
    exact ⟨rfl, Below.refl _ _⟩
set_option maxHeartbeats 4000000 in
theorem sequal_calls (a b : Option Addr) (ac bc : Nat) (xs ys : List Int) (w : World) (h : Row .i64 w a xs) (k : Row .i64 w b ys) :
    Calls Tryd.prog 28 #[.slice a xs.length ac, .slice b ys.length bc] w fun e w' => e = .returned (.bool (decide (xs = ys))) ∧ Below w.heap.size w w' := by
  have hl := h.len
  have hl2 := k.len
  by_cases hlen : xs.length = ys.length
  · have H := Lib.hid h
    have K := Lib.hid k
    have HY := Lib.hid (fun (hh : ∀ j, j < xs.length → xs.getD j 0 = ys.getD j 0) => show decide (xs = ys) = true from decide_eq_true (by
      apply List.ext_getElem hlen
      intro j h1 h2
      have := hh j h1
      rwa [List.getD_eq_getElem?_getD, List.getD_eq_getElem?_getD, List.getElem?_eq_getElem h1, List.getElem?_eq_getElem h2] at this))
    have HN := Lib.hid (fun j (hj : j < xs.length) (hne : xs.getD j 0 ≠ ys.getD j 0) => show decide (xs = ys) = false from decide_eq_false (fun e => hne (by rw [e])))
    clear h k
    generalize decide (xs = ys) = r at *
    have HL := Lib.hid hlen
    obtain ⟨n, hn⟩ : ∃ n : Nat, xs.length = n := ⟨_, rfl⟩
    rw [hn] at hlen HY HN hl ⊢
    rw [← hlen]
    have HNN := Lib.hid hn
    clear hn hlen hl2
    go_enter Tryd.func28, Tryd.ntmps28
    go_wp2
    go_loopw [5, 13] (fun t i wr => ∃ j m : Nat, j ≤ n ∧ i = .int .i64 j ∧ (∀ q, q < j → xs.getD q 0 = ys.getD q 0) ∧ wr = w.drewN m) (fun _ i _ => n - (intOf i).toNat)
    case atStart => exact ⟨0, 0, by omega, rfl, by omega, rfl⟩
    case round =>
      obtain ⟨j, m, hj, rfl, hz, rfl⟩ := hrel
      have HZ := Lib.hid hz
      clear hz
      by_cases hlt : j < n
      · obtain ⟨ad, rfl, hc, -⟩ := H.out.at_ (j := j) (by rw [HNN.out]; exact hlt)
        obtain ⟨bd, rfl, hd, -⟩ := K.out.at_ (j := j) (by rw [← HL.out, HNN.out]; exact hlt)
        have hlti : (j : Int) < n := by omega
        have HN1 := Lib.hid (fun e => HN.out j hlt e)
        have HZ1 := Lib.hid (fun (he : xs.getD j 0 = ys.getD j 0) => (show ∀ q, q < j + 1 → xs.getD q 0 = ys.getD q 0 by
          intro q hq
          rcases Nat.lt_succ_iff_lt_or_eq.1 hq with h1 | rfl
          · exact HZ.out q h1
          · exact he))
        generalize xs.getD j 0 = x at *
        generalize ys.getD j 0 = y at *
        by_cases hxy : x = y
        · have Z2 := Lib.hid (HZ1.out hxy)
          have q1 : (x != y) = false := bne_eq_false_iff_eq.2 hxy
          clear HN1 HZ1 hxy
          go_wp2
          go_quiet (fail)
          go_wp2
          exact ⟨⟨j + 1, _, by omega, by go_num, Z2.out, rfl⟩, by simp [intOf]; omega⟩
        · have R := Lib.hid (HN1.out hxy)
          have q1 : (x != y) = true := bne_iff_ne.2 hxy
          clear HN1 HZ1 hxy
          go_wp2
          go_quiet (fail)
          go_wp2
          go_ret
          rw [R.out]
          exact ⟨rfl, below_drewN (below_drewN (Below.refl _ _) _) _⟩
      · obtain rfl : j = n := by omega
        have R := Lib.hid (HY.out HZ.out)
        go_wp2
        go_ret
        rw [R.out]
        exact ⟨rfl, below_drewN (Below.refl _ _) _⟩
  · have D := Lib.hid (show decide (xs = ys) = false from decide_eq_false (fun e => hlen (by rw [e])))
    clear h k
    generalize decide (xs = ys) = r at *
    generalize xs.length = n at *
    generalize ys.length = m at *
    have hn2 : ¬ (n : Int) = m := by omega
    have q1 : ((n : Int) != m) = true := bne_iff_ne.2 hn2
    go_enter Tryd.func28, Tryd.ntmps28
    go_wp2
    go_ret
    rw [D.out]
    exact ⟨rfl, Below.refl _ _⟩
/-- are two steps the same? -/
def sameS (x y : Sp) : Bool := decide (x.op = y.op) && (decide (x.a = y.a) && (decide (x.b = y.b) && (decide (x.c = y.c) && decide (x.fs = y.fs))))
theorem sameS_iff (x y : Sp) : sameS x y = true ↔ x = y := by
  obtain ⟨a, b, c, d, e⟩ := x
  obtain ⟨a2, b2, c2, d2, e2⟩ := y
  unfold sameS
  simp
theorem sameS_self (x : Sp) : sameS x x = true := (sameS_iff x x).2 rfl
set_option maxHeartbeats 8000000 in
theorem ssame_calls (x y : Sp) (fa ga : Option Addr) (fc gc : Nat) (w : World) (h : Row .i64 w fa x.fs) (k : Row .i64 w ga y.fs) :
    Calls Tryd.prog 11 #[stepV x fa fc, stepV y ga gc] w fun e w' => e = .returned (.bool (sameS x y)) ∧ Below w.heap.size w w' := by
  have K0 := (Blk.new w 25 (stepC x fa fc)).alloc (.cells (stepC y ga gc) 25)
  have K1 := blk_at (w := w.alloc (.cells (stepC x fa fc) 25)) (t := 25) (cs := stepC y ga gc) (show w.heap.size + 1 = (w.alloc (.cells (stepC x fa fc) 25)).heap.size by simp)
  have B := Lib.hid (below_alloc (below_alloc (Below.refl w.heap.size w) (.cells (stepC x fa fc) 25)) (.cells (stepC y ga gc) 25))
  have EC := Lib.hid (sequal_calls fa ga fc gc x.fs y.fs _ (h.below (below_alloc (below_alloc (Below.refl w.heap.size w) (.cells (stepC x fa fc) 25)) (.cells (stepC y ga gc) 25))) (k.below (below_alloc (below_alloc (Below.refl w.heap.size w) (.cells (stepC x fa fc) 25)) (.cells (stepC y ga gc) 25))))
  have SS := Lib.hid (show sameS x y = (decide (x.op = y.op) && (decide (x.a = y.a) && (decide (x.b = y.b) && (decide (x.c = y.c) && decide (x.fs = y.fs))))) from rfl)
  clear h k K0 K1
  unfold stepV
  unfold stepC at *
  by_cases h1 : x.op = y.op
  · have e1 : (x.op == y.op) = true := beq_iff_eq.2 h1
    by_cases h2 : x.a = y.a
    · have e2 : (x.a == y.a) = true := beq_iff_eq.2 h2
      by_cases h3 : x.b = y.b
      · have e3 : (x.b == y.b) = true := beq_iff_eq.2 h3
        by_cases h4 : x.c = y.c
        · have e4 : (x.c == y.c) = true := beq_iff_eq.2 h4
          have R := Lib.hid (show sameS x y = decide (x.fs = y.fs) by rw [SS.out]; simp [h1, h2, h3, h4])
          clear h1 h2 h3 h4 SS
          generalize sameS x y = r at *
          generalize decide (x.fs = y.fs) = r2 at *
          go_enter Tryd.func11, Tryd.ntmps11
          go_wp2_with (go_at_call 28; (with_reducible refine (EC.out).mono ?_); rintro e w' ⟨rfl, hbel⟩)
          go_ret
          rw [R.out]
          exact ⟨rfl, B.out.trans (hbel.mono B.out.size)⟩
        · have e4 : (x.c == y.c) = false := beq_eq_false_iff_ne.2 h4
          have R := Lib.hid (show sameS x y = false by rw [SS.out]; simp [h1, h2, h3, h4])
          clear h1 h2 h3 h4 SS
          generalize sameS x y = r at *
          go_enter Tryd.func11, Tryd.ntmps11
          go_wp2
          go_ret
          rw [R.out]
          exact ⟨rfl, B.out⟩
      · have e3 : (x.b == y.b) = false := beq_eq_false_iff_ne.2 h3
        have R := Lib.hid (show sameS x y = false by rw [SS.out]; simp [h1, h2, h3])
        clear h1 h2 h3 SS
        generalize sameS x y = r at *
        go_enter Tryd.func11, Tryd.ntmps11
        go_wp2
        go_ret
        rw [R.out]
        exact ⟨rfl, B.out⟩
    · have e2 : (x.a == y.a) = false := beq_eq_false_iff_ne.2 h2
      have R := Lib.hid (show sameS x y = false by rw [SS.out]; simp [h1, h2])
      clear h1 h2 SS
      generalize sameS x y = r at *
      go_enter Tryd.func11, Tryd.ntmps11
      go_wp2
      go_ret
      rw [R.out]
      exact ⟨rfl, B.out⟩
  · have e1 : (x.op == y.op) = false := beq_eq_false_iff_ne.2 h1
    have R := Lib.hid (show sameS x y = false by rw [SS.out]; simp [h1])
    clear h1 SS
    generalize sameS x y = r at *
    go_enter Tryd.func11, Tryd.ntmps11
    go_wp2
    go_ret
    rw [R.out]
    exact ⟨rfl, B.out⟩
set_option maxHeartbeats 8000000 in
theorem rsame_calls (x y : Sp) (fa ga : Option Addr) (fc gc : Nat) (w : World) (h : Row .i64 w fa x.fs) (k : Row .i64 w ga y.fs) :
    Calls Tryd.prog 12 #[stepV x fa fc, stepV y ga gc] w fun e w' => e = .returned (.bool (sameS x y)) ∧ Below w.heap.size w w' := by
  have K0 := (Blk.new w 25 (stepC x fa fc)).alloc (.cells (stepC y ga gc) 25)
  have K1 := blk_at (w := w.alloc (.cells (stepC x fa fc) 25)) (t := 25) (cs := stepC y ga gc) (show w.heap.size + 1 = (w.alloc (.cells (stepC x fa fc) 25)).heap.size by simp)
  have B := Lib.hid (below_alloc (below_alloc (Below.refl w.heap.size w) (.cells (stepC x fa fc) 25)) (.cells (stepC y ga gc) 25))
  have EC := Lib.hid (rsame05_calls fa ga fc gc x.fs y.fs _ (h.below (below_alloc (below_alloc (Below.refl w.heap.size w) (.cells (stepC x fa fc) 25)) (.cells (stepC y ga gc) 25))) (k.below (below_alloc (below_alloc (Below.refl w.heap.size w) (.cells (stepC x fa fc) 25)) (.cells (stepC y ga gc) 25))))
  have SS := Lib.hid (show sameS x y = (decide (x.op = y.op) && (decide (x.a = y.a) && (decide (x.b = y.b) && (decide (x.c = y.c) && decide (x.fs = y.fs))))) from rfl)
  clear h k K0 K1
  unfold stepV
  unfold stepC at *
  by_cases h1 : x.op = y.op
  · have e1 : (x.op == y.op) = true := beq_iff_eq.2 h1
    by_cases h2 : x.a = y.a
    · have e2 : (x.a == y.a) = true := beq_iff_eq.2 h2
      by_cases h3 : x.b = y.b
      · have e3 : (x.b == y.b) = true := beq_iff_eq.2 h3
        by_cases h4 : x.c = y.c
        · have e4 : (x.c == y.c) = true := beq_iff_eq.2 h4
          have R := Lib.hid (show sameS x y = decide (x.fs = y.fs) by rw [SS.out]; simp [h1, h2, h3, h4])
          clear h1 h2 h3 h4 SS
          generalize sameS x y = r at *
          generalize decide (x.fs = y.fs) = r2 at *
          go_enter Tryd.func12, Tryd.ntmps12
          go_wp2_with (go_at_call 29; (with_reducible refine (EC.out).mono ?_); rintro e w' ⟨rfl, hbel⟩)
          go_ret
          rw [R.out]
          exact ⟨rfl, B.out.trans (hbel.mono B.out.size)⟩
        · have e4 : (x.c == y.c) = false := beq_eq_false_iff_ne.2 h4
          have R := Lib.hid (show sameS x y = false by rw [SS.out]; simp [h1, h2, h3, h4])
          clear h1 h2 h3 h4 SS
          generalize sameS x y = r at *
          go_enter Tryd.func12, Tryd.ntmps12
          go_wp2
          go_ret
          rw [R.out]
          exact ⟨rfl, B.out⟩
      · have e3 : (x.b == y.b) = false := beq_eq_false_iff_ne.2 h3
        have R := Lib.hid (show sameS x y = false by rw [SS.out]; simp [h1, h2, h3])
        clear h1 h2 h3 SS
        generalize sameS x y = r at *
        go_enter Tryd.func12, Tryd.ntmps12
        go_wp2
        go_ret
        rw [R.out]
        exact ⟨rfl, B.out⟩
    · have e2 : (x.a == y.a) = false := beq_eq_false_iff_ne.2 h2
      have R := Lib.hid (show sameS x y = false by rw [SS.out]; simp [h1, h2])
      clear h1 h2 SS
      generalize sameS x y = r at *
      go_enter Tryd.func12, Tryd.ntmps12
      go_wp2
      go_ret
      rw [R.out]
      exact ⟨rfl, B.out⟩
  · have e1 : (x.op == y.op) = false := beq_eq_false_iff_ne.2 h1
    have R := Lib.hid (show sameS x y = false by rw [SS.out]; simp [h1])
    clear h1 SS
    generalize sameS x y = r at *
    go_enter Tryd.func12, Tryd.ntmps12
    go_wp2
    go_ret
    rw [R.out]
    exact ⟨rfl, B.out⟩
end Go.Proofs.YtminokbigpckaaaDoor.Ct
