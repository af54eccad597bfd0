import Derived.Test.YthmhpjpnlngaoaaDoorLeafA
import Derived.Laws.StructEq
/-! Leaves: which are the same; what is cut. -/
namespace Go.Proofs.YthmhpjpnlngaoaaDoor.Ct
open Go.RowKit
set_option linter.unusedVariables false
set_option linter.unusedSimpArgs false
theorem take_eq_next {es fs : List En} {k : Nat} (hl : es.length = fs.length) (hk : k < es.length) (h : es.take k = fs.take k) (he : es.getD k noEn = fs.getD k noEn) : es.take (k + 1) = fs.take (k + 1) := by
  rw [List.take_succ_eq_append_getElem hk, List.take_succ_eq_append_getElem (by omega), h]
  rw [List.getD_eq_getElem?_getD, List.getElem?_eq_getElem hk, List.getD_eq_getElem?_getD, List.getElem?_eq_getElem (by omega)] at he
  simp only [Option.getD_some] at he
  rw [he]
theorem ne_at {es fs : List En} {k : Nat} (he : es.getD k noEn ≠ fs.getD k noEn) : es ≠ fs := fun h => he (by rw [h])
theorem eq_all {es fs : List En} (hl : es.length = fs.length) (h : es.take es.length = fs.take es.length) : es = fs := by
  rw [List.take_length] at h
  rw [hl, List.take_length] at h
  exact h
theorem en_cases (x y : En) : x = y ∨ x.slot ≠ y.slot ∨ (x.slot = y.slot ∧ x.lba ≠ y.lba) ∨ (x.slot = y.slot ∧ x.lba = y.lba ∧ x.tag ≠ y.tag) := by
  rw [En.ext_iff']
  by_cases a : x.slot = y.slot
  · by_cases b : x.lba = y.lba
    · by_cases c : x.tag = y.tag
      · exact .inl ⟨a, b, c⟩
      · exact .inr (.inr (.inr ⟨a, b, c⟩))
    · exact .inr (.inr (.inl ⟨a, b⟩))
  · exact .inr (.inl a)
set_option maxHeartbeats 4000000 in
theorem sameE_calls (a b : Option Addr) (c d : Nat) (es fs : List En) (w : World) (h : RowE w a es) (k : RowE w b fs) :
    Calls Tryd.prog 35 #[.slice a es.length c, .slice b fs.length d] w fun e w' => e = .returned (.bool (decide (es = fs))) ∧ Below w.heap.size w w' := by
  have h1 := h.len
  have h2 := k.len
  by_cases hl : es.length = fs.length
  · have HL := Lib.hid hl
    have H := Lib.hid h
    have K := Lib.hid k
    have EQ := Lib.hid (eq_all hl)
    rw [← hl]
    clear h k hl h2
    go_enter Tryd.func35, Tryd.ntmps35
    go_wp2
    go_loopw [5] (fun i wr => ∃ n m : Nat, n ≤ es.length ∧ i = .int .i64 n ∧ es.take n = fs.take n ∧ wr = w.drewN m) (fun i _ => es.length - (intOf i).toNat)
    case atStart => exact ⟨0, 0, by omega, rfl, by simp, rfl⟩
    case round =>
      obtain ⟨n, m, hn, rfl, he, rfl⟩ := hrel
      have HE := Lib.hid he
      clear he
      by_cases hlt : n < es.length
      · obtain ⟨ad, rfl⟩ := H.out.addr (by omega)
        obtain ⟨bd, rfl⟩ := K.out.addr (by have := HL.out; omega)
        obtain ⟨c0, c1, c2⟩ := H.out.at_ hlt
        obtain ⟨d0, d1, d2⟩ := K.out.at_ (j := n) (by have := HL.out; omega)
        have hlti : (n : Int) < es.length := by omega
        have NX := Lib.hid (take_eq_next HL.out hlt HE.out)
        have NE := Lib.hid (ne_at (es := es) (fs := fs) (k := n))
        generalize es.getD n noEn = x at *
        generalize fs.getD n noEn = y at *
        obtain ⟨xs, xl, xt⟩ := x
        obtain ⟨ys, yl, yt⟩ := y
        rcases en_cases ⟨xs, xl, xt⟩ ⟨ys, yl, yt⟩ with hx | hx | ⟨hx, hy⟩ | ⟨hx, hy, hz⟩
        · have NX2 := Lib.hid (NX.out hx)
          have e1 : ys = xs := by injection hx with a1 a2 a3; exact a1.symm
          have e2 : yl = xl := by injection hx with a1 a2 a3; exact a2.symm
          have e3 : yt = xt := by injection hx with a1 a2 a3; exact a3.symm
          clear hx
          subst e1
          subst e2
          subst e3
          dsimp only at *
          go_wp2
          go_quiet (fail)
          go_wp2
          exact ⟨⟨n + 1, _, by omega, by go_num, NX2.out, rfl⟩, by simp [intOf]; omega⟩
        · have R := Lib.hid (show decide (es = fs) = false from decide_eq_false (NE.out (fun q => hx (congrArg En.slot q))))
          dsimp only at *
          have q1 : (xs == ys) = false := beq_eq_false_iff_ne.2 hx
          clear hx
          go_wp2
          go_quiet (fail)
          go_wp2
          go_ret
          rw [R.out]
          exact ⟨rfl, below_drewN (below_drewN (Below.refl _ _) _) _⟩
        · have R := Lib.hid (show decide (es = fs) = false from decide_eq_false (NE.out (fun q => hy (congrArg En.lba q))))
          dsimp only at *
          subst hx
          have q1 : (xl == yl) = false := beq_eq_false_iff_ne.2 hy
          clear hy
          go_wp2
          go_quiet (fail)
          go_wp2
          go_ret
          rw [R.out]
          exact ⟨rfl, below_drewN (below_drewN (Below.refl _ _) _) _⟩
        · have R := Lib.hid (show decide (es = fs) = false from decide_eq_false (NE.out (fun q => hz (congrArg En.tag q))))
          dsimp only at *
          subst hx
          subst hy
          have q1 : (xt == yt) = false := beq_eq_false_iff_ne.2 hz
          clear hz
          go_wp2
          go_quiet (fail)
          go_wp2
          go_ret
          rw [R.out]
          exact ⟨rfl, below_drewN (below_drewN (Below.refl _ _) _) _⟩
      · obtain rfl : n = es.length := by omega
        have R := Lib.hid (show decide (es = fs) = true from decide_eq_true (EQ.out HE.out))
        go_wp2
        go_ret
        rw [R.out]
        exact ⟨rfl, below_drewN (Below.refl _ _) _⟩
  · have R := Lib.hid (show decide (es = fs) = false from decide_eq_false (fun q => hl (by rw [q])))
    have q1 : ((es.length : Int) != fs.length) = true := bne_iff_ne.2 (by omega)
    clear hl
    go_enter Tryd.func35, Tryd.ntmps35
    go_wp2
    go_ret
    rw [R.out]
    exact ⟨rfl, Below.refl _ _⟩
set_option maxHeartbeats 4000000 in
theorem equalE_calls (a b : Option Addr) (c d : Nat) (es fs : List En) (w : World) (h : RowE w a es) (k : RowE w b fs) :
    Calls Tryd.prog 39 #[.slice a es.length c, .slice b fs.length d] w fun e w' => e = .returned (.bool (decide (es = fs))) ∧ Below w.heap.size w w' := by
  have h1 := h.len
  have h2 := k.len
  by_cases hl : es.length = fs.length
  · have HL := Lib.hid hl
    have H := Lib.hid h
    have K := Lib.hid k
    have EQ := Lib.hid (eq_all hl)
    rw [← hl]
    clear h k hl h2
    go_enter Tryd.func39, Tryd.ntmps39
    go_wp2
    go_loopw [13] (fun i wr => ∃ n m : Nat, n ≤ es.length ∧ i = .int .i64 n ∧ es.take n = fs.take n ∧ wr = w.drewN m) (fun i _ => es.length - (intOf i).toNat)
    case atStart => exact ⟨0, 0, by omega, rfl, by simp, rfl⟩
    case round =>
      obtain ⟨n, m, hn, rfl, he, rfl⟩ := hrel
      have HE := Lib.hid he
      clear he
      by_cases hlt : n < es.length
      · obtain ⟨ad, rfl⟩ := H.out.addr (by omega)
        obtain ⟨bd, rfl⟩ := K.out.addr (by have := HL.out; omega)
        obtain ⟨c0, c1, c2⟩ := H.out.at_ hlt
        obtain ⟨d0, d1, d2⟩ := K.out.at_ (j := n) (by have := HL.out; omega)
        have hlti : (n : Int) < es.length := by omega
        have NX := Lib.hid (take_eq_next HL.out hlt HE.out)
        have NE := Lib.hid (ne_at (es := es) (fs := fs) (k := n))
        generalize es.getD n noEn = x at *
        generalize fs.getD n noEn = y at *
        obtain ⟨xs, xl, xt⟩ := x
        obtain ⟨ys, yl, yt⟩ := y
        rcases en_cases ⟨xs, xl, xt⟩ ⟨ys, yl, yt⟩ with hx | hx | ⟨hx, hy⟩ | ⟨hx, hy, hz⟩
        · have NX2 := Lib.hid (NX.out hx)
          have e1 : ys = xs := by injection hx with a1 a2 a3; exact a1.symm
          have e2 : yl = xl := by injection hx with a1 a2 a3; exact a2.symm
          have e3 : yt = xt := by injection hx with a1 a2 a3; exact a3.symm
          clear hx
          subst e1
          subst e2
          subst e3
          dsimp only at *
          go_wp2
          go_quiet (fail)
          go_wp2
          exact ⟨⟨n + 1, _, by omega, by go_num, NX2.out, rfl⟩, by simp [intOf]; omega⟩
        · have R := Lib.hid (show decide (es = fs) = false from decide_eq_false (NE.out (fun q => hx (congrArg En.slot q))))
          dsimp only at *
          have q1 : (xs == ys) = false := beq_eq_false_iff_ne.2 hx
          clear hx
          go_wp2
          go_quiet (fail)
          go_wp2
          go_ret
          rw [R.out]
          exact ⟨rfl, below_drewN (below_drewN (Below.refl _ _) _) _⟩
        · have R := Lib.hid (show decide (es = fs) = false from decide_eq_false (NE.out (fun q => hy (congrArg En.lba q))))
          dsimp only at *
          subst hx
          have q1 : (xl == yl) = false := beq_eq_false_iff_ne.2 hy
          clear hy
          go_wp2
          go_quiet (fail)
          go_wp2
          go_ret
          rw [R.out]
          exact ⟨rfl, below_drewN (below_drewN (Below.refl _ _) _) _⟩
        · have R := Lib.hid (show decide (es = fs) = false from decide_eq_false (NE.out (fun q => hz (congrArg En.tag q))))
          dsimp only at *
          subst hx
          subst hy
          have q1 : (xt == yt) = false := beq_eq_false_iff_ne.2 hz
          clear hz
          go_wp2
          go_quiet (fail)
          go_wp2
          go_ret
          rw [R.out]
          exact ⟨rfl, below_drewN (below_drewN (Below.refl _ _) _) _⟩
      · obtain rfl : n = es.length := by omega
        have R := Lib.hid (show decide (es = fs) = true from decide_eq_true (EQ.out HE.out))
        go_wp2
        go_ret
        rw [R.out]
        exact ⟨rfl, below_drewN (Below.refl _ _) _⟩
  · have R := Lib.hid (show decide (es = fs) = false from decide_eq_false (fun q => hl (by rw [q])))
    have q1 : ((es.length : Int) != fs.length) = true := bne_iff_ne.2 (by omega)
    clear hl
    go_enter Tryd.func39, Tryd.ntmps39
    go_wp2
    go_ret
    rw [R.out]
    exact ⟨rfl, Below.refl _ _⟩
set_option maxHeartbeats 4000000 in
theorem rsame_calls (l m : Lf) (a b : Option Addr) (c d : Nat) (w : World) (h : RowE w a l.es) (k : RowE w b m.es) :
    Calls Tryd.prog 12 #[leafV l a c, leafV m b d] w fun e w' => e = .returned (.bool (decide (l = m))) ∧ Below w.heap.size w w' := by
  have h1 := h.len
  have h2 := k.len
  have hb1 := below_alloc (Below.refl w.heap.size w) (.cells (leafC l a c) 25)
  have hb2 := below_alloc hb1 (.cells (leafC m b d) 25)
  have hk1 : Blk (w.alloc (.cells (leafC l a c) 25)) w.heap.size 25 (leafC l a c) := Blk.new _ _ _
  have hk2 := hk1.alloc (.cells (leafC m b d) 25)
  have hk3 : Blk ((w.alloc (.cells (leafC l a c) 25)).alloc (.cells (leafC m b d) 25)) (w.heap.size + 1) 25 (leafC m b d) := blk_at (by simp)
  have SC := Lib.hid (sameE_calls a b c d l.es m.es _ (h.below hb2) (k.below hb2))
  have D := Lib.hid (show decide (l = m) = (decide (l.no = m.no) && (decide (l.snap = m.snap) && decide (l.es = m.es))) by rw [← Bool.decide_and, ← Bool.decide_and]; exact decide_eq_decide.2 (Lf.ext_iff' l m))
  have HB := Lib.hid hb2
  have HK2 := Lib.hid hk2
  have HK3 := Lib.hid hk3
  clear hb1 hb2 hk1 hk2 hk3 h k
  unfold leafV leafC at *
  obtain ⟨no, snap, es⟩ := l
  obtain ⟨no', snap', es'⟩ := m
  dsimp only at *
  rw [D.out]
  by_cases e1 : no = no'
  · subst e1
    by_cases e2 : snap = snap'
    · subst e2
      simp only [decide_true, Bool.true_and]
      generalize decide (es = es') = r at *
      go_enter Tryd.func12, Tryd.ntmps12
      go_wp2_with (go_at_call 35; (with_reducible refine (SC.out).mono ?_); rintro e w2 ⟨rfl, hb⟩; have HB2 := Lib.hid (below_step HB.out hb); clear hb)
      go_ret
      exact ⟨rfl, HB2.out⟩
    · simp only [decide_true, Bool.true_and, decide_eq_false e2, Bool.false_and]
      have q2 : (snap == snap') = false := beq_eq_false_iff_ne.2 e2
      clear e2
      go_enter Tryd.func12, Tryd.ntmps12
      go_wp2
      go_ret
      exact ⟨rfl, HB.out⟩
  · simp only [decide_eq_false e1, Bool.false_and]
    have q1 : (no == no') = false := beq_eq_false_iff_ne.2 e1
    clear e1
    go_enter Tryd.func12, Tryd.ntmps12
    go_wp2
    go_ret
    exact ⟨rfl, HB.out⟩
set_option maxHeartbeats 4000000 in
theorem lsame_calls (l m : Lf) (a b : Option Addr) (c d : Nat) (w : World) (h : RowE w a l.es) (k : RowE w b m.es) :
    Calls Tryd.prog 21 #[leafV l a c, leafV m b d] w fun e w' => e = .returned (.bool (decide (l = m))) ∧ Below w.heap.size w w' := by
  have h1 := h.len
  have h2 := k.len
  have hb1 := below_alloc (Below.refl w.heap.size w) (.cells (leafC l a c) 25)
  have hb2 := below_alloc hb1 (.cells (leafC m b d) 25)
  have hk1 : Blk (w.alloc (.cells (leafC l a c) 25)) w.heap.size 25 (leafC l a c) := Blk.new _ _ _
  have hk2 := hk1.alloc (.cells (leafC m b d) 25)
  have hk3 : Blk ((w.alloc (.cells (leafC l a c) 25)).alloc (.cells (leafC m b d) 25)) (w.heap.size + 1) 25 (leafC m b d) := blk_at (by simp)
  have SC := Lib.hid (equalE_calls a b c d l.es m.es _ (h.below hb2) (k.below hb2))
  have D := Lib.hid (show decide (l = m) = (decide (l.no = m.no) && (decide (l.snap = m.snap) && decide (l.es = m.es))) by rw [← Bool.decide_and, ← Bool.decide_and]; exact decide_eq_decide.2 (Lf.ext_iff' l m))
  have HB := Lib.hid hb2
  have HK2 := Lib.hid hk2
  have HK3 := Lib.hid hk3
  clear hb1 hb2 hk1 hk2 hk3 h k
  unfold leafV leafC at *
  obtain ⟨no, snap, es⟩ := l
  obtain ⟨no', snap', es'⟩ := m
  dsimp only at *
  rw [D.out]
  by_cases e1 : no = no'
  · subst e1
    by_cases e2 : snap = snap'
    · subst e2
      simp only [decide_true, Bool.true_and]
      generalize decide (es = es') = r at *
      go_enter Tryd.func21, Tryd.ntmps21
      go_wp2_with (go_at_call 39; (with_reducible refine (SC.out).mono ?_); rintro e w2 ⟨rfl, hb⟩; have HB2 := Lib.hid (below_step HB.out hb); clear hb)
      go_ret
      exact ⟨rfl, HB2.out⟩
    · simp only [decide_true, Bool.true_and, decide_eq_false e2, Bool.false_and]
      have q2 : (snap == snap') = false := beq_eq_false_iff_ne.2 e2
      clear e2
      go_enter Tryd.func21, Tryd.ntmps21
      go_wp2
      go_ret
      exact ⟨rfl, HB.out⟩
  · simp only [decide_eq_false e1, Bool.false_and]
    have q1 : (no == no') = false := beq_eq_false_iff_ne.2 e1
    clear e1
    go_enter Tryd.func21, Tryd.ntmps21
    go_wp2
    go_ret
    exact ⟨rfl, HB.out⟩
end Go.Proofs.YthmhpjpnlngaoaaDoor.Ct
