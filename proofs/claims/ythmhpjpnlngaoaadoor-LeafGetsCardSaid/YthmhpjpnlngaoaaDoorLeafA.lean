import Derived.Test.YthmhpjpnlngaoaaDoorLeafP
import Derived.Test.YthmhpjpnlngaoaaDoorComA
/-! Leaves: rows of entries, Of, may. -/
namespace Go.Proofs.YthmhpjpnlngaoaaDoor.Ct
open Go.RowKit
set_option linter.unusedVariables false
set_option linter.unusedSimpArgs false
theorem bget {w w' : World} (hb : Below w.heap.size w w') {p : Addr} {v : Value} (hv : w.cell? p = some v) : w'.cell? p = some v := (hb.cell (World.block_lt_of_cell? w _ hv)).trans hv
/-- a slice of entries that reads as a list. -/
def RowE (w : World) (a : Option Addr) (es : List En) : Prop :=
  es.length ≤ maxLen ∧ (0 < es.length → ∃ ad, a = some ad ∧ ∀ j, j < es.length → w.cell? (ad.add (j * 3)) = some (.int .i64 (es.getD j noEn).slot) ∧
    w.cell? ⟨(ad.add (j * 3)).block, (ad.add (j * 3)).off + 1, none⟩ = some (.int .i64 (es.getD j noEn).lba) ∧ w.cell? ⟨(ad.add (j * 3)).block, (ad.add (j * 3)).off + 2, none⟩ = some (.int .u64 (es.getD j noEn).tag))
theorem rowE_nil (w : World) (a : Option Addr) : RowE w a [] := ⟨by decide, fun h => by simp at h⟩
theorem RowE.keep {w w' : World} {a : Option Addr} {es : List En} (h : RowE w a es) (hk : ∀ p v, w.cell? p = some v → w'.cell? p = some v) : RowE w' a es :=
  ⟨h.1, fun hp => by
    obtain ⟨ad, e, hc⟩ := h.2 hp
    exact ⟨ad, e, fun j hj => ⟨hk _ _ (hc j hj).1, hk _ _ (hc j hj).2.1, hk _ _ (hc j hj).2.2⟩⟩⟩
theorem RowE.below {w w' : World} {a : Option Addr} {es : List En} (h : RowE w a es) (hb : Below w.heap.size w w') : RowE w' a es :=
  h.keep fun p v hv => (hb.cell (World.block_lt_of_cell? w _ hv)).trans hv
theorem RowE.len {w : World} {a : Option Addr} {es : List En} (h : RowE w a es) : es.length ≤ 9223372036854775807 := by
  have := h.1; unfold maxLen at this; omega
theorem RowE.addr {w : World} {a : Option Addr} {es : List En} (h : RowE w a es) (hp : 0 < es.length) : ∃ ad, a = some ad := by
  obtain ⟨ad, e, _⟩ := h.2 hp; exact ⟨ad, e⟩
theorem RowE.at_ {w : World} {ad : Addr} {es : List En} (h : RowE w (some ad) es) {j : Nat} (hj : j < es.length) : w.cell? (ad.add (j * 3)) = some (.int .i64 (es.getD j noEn).slot) ∧
    w.cell? ⟨(ad.add (j * 3)).block, (ad.add (j * 3)).off + 1, none⟩ = some (.int .i64 (es.getD j noEn).lba) ∧ w.cell? ⟨(ad.add (j * 3)).block, (ad.add (j * 3)).off + 2, none⟩ = some (.int .u64 (es.getD j noEn).tag) := by
  obtain ⟨ad', e, hc⟩ := h.2 (by omega)
  injection e with e
  subst e
  exact hc j hj
theorem RowE.take {w : World} {a : Option Addr} {es : List En} (h : RowE w a es) (n : Nat) : RowE w a (es.take n) := by
  refine ⟨by rw [List.length_take]; have := h.1; omega, fun hp => ?_⟩
  rw [List.length_take] at hp
  obtain ⟨ad, e, hc⟩ := h.2 (by omega)
  refine ⟨ad, e, fun j hj => ?_⟩
  rw [List.length_take] at hj
  have := hc j (by omega)
  simp only [List.getD_eq_getElem?_getD, List.getElem?_take, show j < n by omega, if_true] at this ⊢
  exact this
theorem esAt_wf {es : List En} (h : ∀ e ∈ es, WfE e) {j : Nat} (hj : j < es.length) : WfE (es.getD j noEn) := by
  rw [List.getD_eq_getElem?_getD, List.getElem?_eq_getElem hj]
  exact h _ (List.getElem_mem hj)
def leafC (l : Lf) (a : Option Addr) (c : Nat) : Array Value := #[.int .i64 l.no, .int .u64 l.snap, .slice a l.es.length c]
def leafV (l : Lf) (a : Option Addr) (c : Nat) : Value := .agg (leafC l a c)
def ofS0 (slot : Int) : Int := max slot 0 / 3
set_option maxHeartbeats 2000000 in
theorem lof_calls (n : Int) (w : World) (hn : I64 n) : Calls Tryd.prog 20 #[.int .i64 n] w fun e w' => e = .returned (.int .i64 (ofS0 n)) ∧ w = w' := by
  obtain ⟨n0, n1⟩ := hn
  have mr := max_run (P := Tryd.prog) n 0
  unfold ofS0
  generalize hm : max n 0 = m at *
  have m0 : 0 ≤ m := by omega
  have m1 : m ≤ 9223372036854775807 := by omega
  clear hm
  go_enter Tryd.func20, Tryd.ntmps20
  go_wp2
  go_ret
  exact ⟨rfl, rfl⟩
/-- one entry's tests, in the order of the text. -/
theorem mayE_parts (no last : Int) (x : En) (hn : 0 ≤ no ∧ no ≤ 65535) (hl : -1 ≤ last) : MayE no last x ↔ last < x.slot ∧ ofS0 x.slot = no ∧ LowOk x.lba ∧ NumOk x.tag := by
  unfold MayE ofS0 LowOk
  constructor
  · rintro ⟨a, b, c, d⟩; exact ⟨a, by omega, c, d⟩
  · rintro ⟨a, b, c, d⟩; exact ⟨a, by omega, c, d⟩
theorem lastS_bd {es : List En} {no : Int} (hno : 0 ≤ no) {i : Nat} (h : rowOk no (-1) es = rowOk no (lastS es i) (es.drop i)) (hge : ∀ j, j < i → -1 ≤ (es.getD j noEn).slot) : -1 ≤ lastS es i := by
  unfold lastS
  split
  · omega
  · exact hge _ (by omega)
set_option maxHeartbeats 4000000 in
theorem lmay_head (l : Lf) (a : Option Addr) (c : Nat) (w : World) (hl : l.es.length ≤ 9223372036854775807) (hh : ¬ HeadL l) :
    Calls Tryd.prog 22 #[leafV l a c] w fun e w' => e = .returned (.bool false) ∧ Below w.heap.size w w' := by
  have hs : ¬ LowOk l.no ∨ ¬ NumOk l.snap ∨ 3 < l.es.length := by
    unfold HeadL at hh; unfold LowOk
    by_cases h1 : 0 ≤ l.no ∧ l.no ≤ 65535
    · by_cases h2 : NumOk l.snap
      · by_cases h3 : l.es.length ≤ 3
        · exact absurd ⟨h1, h2, h3⟩ hh
        · exact .inr (.inr (by omega))
      · exact .inr (.inl h2)
    · exact .inl h1
  clear hh
  have N1 := Lib.hid (fun w => lnum_calls l.snap w)
  have L1 := Lib.hid (fun w => llow_calls l.no w)
  have HB1 := Lib.hid (below_alloc (Below.refl w.heap.size w) (.cells (leafC l a c) 25))
  unfold leafV leafC at *
  obtain ⟨no, snap, es⟩ := l
  dsimp only at *
  generalize es.length = n at *
  by_cases h1 : LowOk no
  · rw [decide_eq_true h1] at L1
    by_cases h2 : NumOk snap
    · rw [decide_eq_true h2] at N1
      have h3 : (3 : Int) < n := by
        rcases hs with h | h | h
        · exact absurd h1 h
        · exact absurd h2 h
        · omega
      clear hs h1 h2
      go_enter Tryd.func22, Tryd.ntmps22
      go_wp2_with (first | (go_at_call 40; (with_reducible refine (L1.out _).mono ?_); rintro e w2 ⟨rfl, rfl⟩) | (go_at_call 41; (with_reducible refine (N1.out _).mono ?_); rintro e w2 ⟨rfl, rfl⟩))
      go_ret
      exact ⟨rfl, HB1.out⟩
    · rw [decide_eq_false h2] at N1
      clear hs h1 h2
      go_enter Tryd.func22, Tryd.ntmps22
      go_wp2_with (first | (go_at_call 40; (with_reducible refine (L1.out _).mono ?_); rintro e w2 ⟨rfl, rfl⟩) | (go_at_call 41; (with_reducible refine (N1.out _).mono ?_); rintro e w2 ⟨rfl, rfl⟩))
      go_ret
      exact ⟨rfl, HB1.out⟩
  · rw [decide_eq_false h1] at L1
    clear hs h1
    go_enter Tryd.func22, Tryd.ntmps22
    go_wp2_with (first | (go_at_call 40; (with_reducible refine (L1.out _).mono ?_); rintro e w2 ⟨rfl, rfl⟩) | (go_at_call 41; (with_reducible refine (N1.out _).mono ?_); rintro e w2 ⟨rfl, rfl⟩))
    go_ret
    exact ⟨rfl, HB1.out⟩
set_option maxHeartbeats 8000000 in
theorem lmay_yes (l : Lf) (a : Option Addr) (c : Nat) (w : World) (h : RowE w a l.es) (hw : WfL l) (hc : l.es.length ≤ c) (hm : c ≤ 9223372036854775807) (hh : HeadL l) :
    Calls Tryd.prog 22 #[leafV l a c] w fun e w' => e = .returned (.bool (rowOk l.no (-1) l.es)) ∧ Below w.heap.size w w' := by
  obtain ⟨h1, h2, h3⟩ := hh
  have N1 := Lib.hid (fun w => lnum_calls l.snap w)
  have L1 := Lib.hid (fun w => llow_calls l.no w)
  rw [decide_eq_true h2] at N1
  rw [decide_eq_true (show LowOk l.no from h1)] at L1
  have HB1 := Lib.hid (below_alloc (Below.refl w.heap.size w) (.cells (leafC l a c) 25))
  have HK1 := Lib.hid (show Blk (w.alloc (.cells (leafC l a c) 25)) w.heap.size 25 (leafC l a c) from Blk.new _ _ _)
  have H := Lib.hid h
  have WF := Lib.hid hw.2.2
  have hn3 : (l.es.length : Int) ≤ 3 := by omega
  have PT := Lib.hid (fun last x hl => mayE_parts l.no last x h1 hl)
  have ST := Lib.hid (fun i (hi : i < l.es.length) => rowOk_step (no := l.no) hi)
  have S0 := Lib.hid (show lastS l.es 0 = -1 from rfl)
  have SN := Lib.hid (fun i => show lastS l.es (i + 1) = (l.es.getD i noEn).slot from by simp [lastS])
  have DN := Lib.hid (show rowOk l.no (lastS l.es l.es.length) (l.es.drop l.es.length) = true by rw [List.drop_length]; rfl)
  have D0 := Lib.hid (show rowOk l.no (lastS l.es 0) (l.es.drop 0) = rowOk l.no (-1) l.es from rfl)
  clear h hw h2 h3
  obtain ⟨hno0, hno1⟩ := h1
  unfold leafV leafC at *
  obtain ⟨no, snap, es⟩ := l
  dsimp only at *
  generalize hro : rowOk no (-1) es = ro at *
  generalize hls : lastS es = ls at *
  clear hro hls
  go_enter Tryd.func22, Tryd.ntmps22
  go_wp2_with (first | (go_at_call 40; (with_reducible refine (L1.out _).mono ?_); rintro e w2 ⟨rfl, rfl⟩) | (go_at_call 41; (with_reducible refine (N1.out _).mono ?_); rintro e w2 ⟨rfl, rfl⟩))
  go_loopw [3, 25] (fun s i wr => ∃ k : Nat, k ≤ es.length ∧ i = .int .i64 k ∧ s = .int .i64 (ls k) ∧ -1 ≤ ls k ∧ I64 (ls k) ∧ rowOk no (ls k) (es.drop k) = ro ∧ Blk wr w.heap.size 25 #[.int .i64 no, .int .u64 snap, .slice a es.length c] ∧ Below w.heap.size w wr) (fun _ i _ => es.length - (intOf i).toNat)
  case atStart => exact ⟨0, by omega, rfl, by rw [S0.out], by rw [S0.out]; omega, by rw [S0.out]; unfold I64; omega, D0.out, HK1.out, HB1.out⟩
  case round =>
    clear HK1 HB1 L1 N1
    obtain ⟨k, hk, rfl, rfl, hge, hli, hrow, hblk, hbel⟩ := hrel
    have HK := Lib.hid hblk
    have HB := Lib.hid hbel
    have HRW := Lib.hid hrow
    obtain ⟨⟨k0, k1, k2⟩, -⟩ := cells3 hblk
    clear hblk hbel hrow
    by_cases hlt : k < es.length
    · have hlti : (k : Int) < es.length := by omega
      obtain ⟨ad, rfl⟩ := H.out.addr (by omega)
      obtain ⟨c0, c1, c2⟩ := (H.out.below HB.out).at_ hlt
      obtain ⟨wf0, wf1, wf2⟩ := esAt_wf WF.out hlt
      have st := ST.out k hlt
      have pt := PT.out (ls k) (es.getD k noEn) hge
      have sn := SN.out k
      generalize hx : es.getD k noEn = x at *
      obtain ⟨xs, xl, xt⟩ := x
      dsimp only at *
      have OF := Lib.hid (fun w => lof_calls xs w wf0)
      have LW := Lib.hid (fun w => llow_calls xl w)
      have NM := Lib.hid (fun w => lnum_calls xt w)
      rw [HRW.out] at st
      have STX := Lib.hid st
      have PTX := Lib.hid pt
      have SNX := Lib.hid sn
      have hzw : w.heap.size < wr.heap.size := HK.out.lt
      have HKA := Lib.hid (HK.out.alloc (.cells #[.int .i64 xs, .int .i64 xl, .int .u64 xt] 52))
      have HBA := Lib.hid (below_alloc HB.out (.cells #[.int .i64 xs, .int .i64 xl, .int .u64 xt] 52))
      clear st pt sn hx
      generalize hol : ls k = ol at *
      by_cases t1 : ol < xs
      · have d1 : decide (xs ≤ ol) = false := decide_eq_false (by omega)
        by_cases t2 : ofS0 xs = no
        · rw [t2] at OF
          by_cases t3 : LowOk xl
          · rw [decide_eq_true t3] at LW
            by_cases t4 : NumOk xt
            · rw [decide_eq_true t4] at NM
              have R := Lib.hid (show rowOk no xs (es.drop (k + 1)) = ro by
                have := STX.out; rw [decide_eq_true (PTX.out.2 ⟨t1, t2, t3, t4⟩), SNX.out] at this; exact this.symm)
              clear t2 t3 t4 PTX STX
              go_wp2
              go_quiet (first | (go_at_call 20; with_reducible exact Calls.quiet_of_same ((OF.out _).mono fun e w' ⟨h1, h2⟩ => ⟨h1, h2.symm⟩)) | (go_at_call 40; with_reducible exact Calls.quiet_of_same ((LW.out _).mono fun e w' ⟨h1, h2⟩ => ⟨h1, h2.symm⟩)) | (go_at_call 41; with_reducible exact Calls.quiet_of_same ((NM.out _).mono fun e w' ⟨h1, h2⟩ => ⟨h1, h2.symm⟩)))
              go_wp2
              go_roundw
              case rel => exact ⟨k + 1, by omega, by go_num, by rw [SNX.out], by rw [SNX.out]; omega, by rw [SNX.out]; exact wf0, by rw [SNX.out]; exact R.out, (by repeat (first | with_reducible exact HKA.out | with_reducible apply Blk.alloc | with_reducible apply Blk.drewN | with_reducible apply Blk.drew | exact HKA.out)), (by repeat (first | with_reducible exact HBA.out | with_reducible apply below_alloc | with_reducible apply below_drewN | with_reducible apply below_drew))⟩
              case measure => simp [intOf]; omega
            · rw [decide_eq_false t4] at NM
              have R := Lib.hid (show ro = false by rw [STX.out, decide_eq_false (fun h => t4 (PTX.out.1 h).2.2.2)]; rfl)
              clear t2 t3 t4 PTX STX
              go_wp2
              go_quiet (first | (go_at_call 20; with_reducible exact Calls.quiet_of_same ((OF.out _).mono fun e w' ⟨h1, h2⟩ => ⟨h1, h2.symm⟩)) | (go_at_call 40; with_reducible exact Calls.quiet_of_same ((LW.out _).mono fun e w' ⟨h1, h2⟩ => ⟨h1, h2.symm⟩)) | (go_at_call 41; with_reducible exact Calls.quiet_of_same ((NM.out _).mono fun e w' ⟨h1, h2⟩ => ⟨h1, h2.symm⟩)))
              go_wp2
              go_ret
              rw [R.out]
              exact ⟨rfl, (by repeat (first | with_reducible exact HBA.out | with_reducible apply below_alloc | with_reducible apply below_drewN | with_reducible apply below_drew))⟩
          · rw [decide_eq_false t3] at LW
            have R := Lib.hid (show ro = false by rw [STX.out, decide_eq_false (fun h => t3 (PTX.out.1 h).2.2.1)]; rfl)
            clear t2 t3 PTX STX
            go_wp2
            go_quiet (first | (go_at_call 20; with_reducible exact Calls.quiet_of_same ((OF.out _).mono fun e w' ⟨h1, h2⟩ => ⟨h1, h2.symm⟩)) | (go_at_call 40; with_reducible exact Calls.quiet_of_same ((LW.out _).mono fun e w' ⟨h1, h2⟩ => ⟨h1, h2.symm⟩)) | (go_at_call 41; with_reducible exact Calls.quiet_of_same ((NM.out _).mono fun e w' ⟨h1, h2⟩ => ⟨h1, h2.symm⟩)))
            go_wp2
            go_ret
            rw [R.out]
            exact ⟨rfl, (by repeat (first | with_reducible exact HBA.out | with_reducible apply below_alloc | with_reducible apply below_drewN | with_reducible apply below_drew))⟩
        · have d2 : (ofS0 xs != no) = true := bne_iff_ne.2 t2
          have R := Lib.hid (show ro = false by rw [STX.out, decide_eq_false (fun h => t2 (PTX.out.1 h).2.1)]; rfl)
          generalize ofS0 xs = oo at *
          clear t2 PTX STX
          go_wp2
          go_quiet (first | (go_at_call 20; with_reducible exact Calls.quiet_of_same ((OF.out _).mono fun e w' ⟨h1, h2⟩ => ⟨h1, h2.symm⟩)) | (go_at_call 40; with_reducible exact Calls.quiet_of_same ((LW.out _).mono fun e w' ⟨h1, h2⟩ => ⟨h1, h2.symm⟩)) | (go_at_call 41; with_reducible exact Calls.quiet_of_same ((NM.out _).mono fun e w' ⟨h1, h2⟩ => ⟨h1, h2.symm⟩)))
          go_wp2
          go_ret
          rw [R.out]
          exact ⟨rfl, (by repeat (first | with_reducible exact HBA.out | with_reducible apply below_alloc | with_reducible apply below_drewN | with_reducible apply below_drew))⟩
      · have d1 : decide (xs ≤ ol) = true := decide_eq_true (by omega)
        have R := Lib.hid (show ro = false by rw [STX.out, decide_eq_false (fun h => t1 h.1)]; rfl)
        clear t1 PTX STX
        go_wp2
        go_quiet (first | (go_at_call 20; with_reducible exact Calls.quiet_of_same ((OF.out _).mono fun e w' ⟨h1, h2⟩ => ⟨h1, h2.symm⟩)) | (go_at_call 40; with_reducible exact Calls.quiet_of_same ((LW.out _).mono fun e w' ⟨h1, h2⟩ => ⟨h1, h2.symm⟩)) | (go_at_call 41; with_reducible exact Calls.quiet_of_same ((NM.out _).mono fun e w' ⟨h1, h2⟩ => ⟨h1, h2.symm⟩)))
        go_wp2
        go_ret
        rw [R.out]
        exact ⟨rfl, (by repeat (first | with_reducible exact HBA.out | with_reducible apply below_alloc | with_reducible apply below_drewN | with_reducible apply below_drew))⟩
    · obtain rfl : k = es.length := by omega
      have R := Lib.hid (show ro = true by rw [← HRW.out]; exact DN.out)
      go_wp2
      go_ret
      rw [R.out]
      exact ⟨rfl, HB.out⟩
theorem lmay_calls (l : Lf) (a : Option Addr) (c : Nat) (w : World) (h : RowE w a l.es) (hw : WfL l) (hc : l.es.length ≤ c) (hm : c ≤ 9223372036854775807) :
    Calls Tryd.prog 22 #[leafV l a c] w fun e w' => e = .returned (.bool (decide (MayL l))) ∧ Below w.heap.size w w' := by
  by_cases hh : HeadL l
  · rw [show decide (MayL l) = rowOk l.no (-1) l.es by unfold MayL; simp [hh]]
    exact lmay_yes l a c w h hw hc hm hh
  · rw [decide_eq_false (fun k : MayL l => hh k.1)]
    exact lmay_head l a c w h.len hh
end Go.Proofs.YthmhpjpnlngaoaaDoor.Ct
