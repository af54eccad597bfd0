import Derived.Test.YtgkodkgonafnlaaDoorLaw13A
import Derived.Test.YtgkodkgonafnlaaDoorOpenS
import Derived.Test.YtgkodkgonafnlaaDoorHeld
/-! Chapter 13: RecordTells; an argument that is a record. -/
namespace Go.Proofs.YtgkodkgonafnlaaDoor.Ct
open Go.RowKit
set_option linter.unusedVariables false
set_option linter.unusedSimpArgs false
theorem open_Record {H : Type} {enc : TypeId × Value → H} {w : World} {base : Nat} {spare : Nat → Bool} {held : Bool} {r : Reach} {b0 : Nat} {v : Value} {d : DataW H} {p : List MemPlace}
    (hv : Value.okWide Tryd.prog w r b0 24 v) (h : DataW.Trod enc Tryd.prog w base spare held 24 v d p) : ∃ x : Rec, v = recV x ∧ WfR x := by
  obtain ⟨vs, rfl, hl, hf⟩ := open_structF (ds := [.int .u64, .int .u64, .int .i64, .int .u64, .int .u8]) Tryd.underlying24 (by kernel_rfl) (by kernel_rfl) (by kernel_rfl) hv h
  match vs, hl with
  | [v0, v1, v2, v3, v4], _ =>
    obtain ⟨n0, e0, w0⟩ := (hf 0 _ rfl).int
    obtain ⟨n1, e1, w1⟩ := (hf 1 _ rfl).int
    obtain ⟨n2, e2, w2⟩ := (hf 2 _ rfl).int
    obtain ⟨n3, e3, w3⟩ := (hf 3 _ rfl).int
    obtain ⟨n4, e4, w4⟩ := (hf 4 _ rfl).int
    simp only [List.getD_cons_zero, List.getD_cons_succ] at e0 e1 e2 e3 e4
    subst e0; subst e1; subst e2; subst e3; subst e4
    exact ⟨⟨n0, n1, n2, n3, n4⟩, rfl, bounds_u64 w0, bounds_u64 w1, bounds_i64 w2, bounds_u64 w3, bounds_u8 w4⟩
set_option maxHeartbeats 4000000 in
theorem tells_walk (r : Rec) (seq epo ext bit : Int) (w : World) (hr : WfR r) (hs : 0 ≤ seq ∧ seq ≤ 18446744073709551615) (he : 0 ≤ epo ∧ epo ≤ 18446744073709551615) (hx : -9223372036854775808 ≤ ext ∧ ext ≤ 9223372036854775807) (hb : -9223372036854775808 ≤ bit ∧ bit ≤ 9223372036854775807) (hT : Tab w) :
    Calls Tryd.prog 5 #[recV r, .int .u64 seq, .int .u64 epo, .int .i64 ext, .int .i64 bit] w fun e w' => e = .returned (.bool true) ∧ Below w.heap.size w w' := by
  have hb1 := below_alloc (Below.refl w.heap.size w) (.cells (recC r) 24)
  have hk1 : Blk (w.alloc (.cells (recC r) 24)) w.heap.size 24 (recC r) := Blk.new _ _ _
  have AW := Lib.hid (fun w' (hb : Below w.heap.size w w') => awake_calls w' (hT.below hb))
  have FC := Lib.hid (fun w => follows_below r seq epo w)
  have NC := Lib.hid (fun w => names_below r ext bit w hr hb)
  have RC := Lib.hid (fun w => rnames_below r ext bit w hr hb)
  have hf : followsS r seq epo = (decide (r.seq = seq) && decide (epo ≤ r.epo)) := by unfold followsS; simp
  rw [hf] at FC
  have HB1 := Lib.hid hb1
  have HK1 := Lib.hid hk1
  clear hT hb1 hk1 hf hr hs he hx hb
  unfold recV recC at *
  generalize namesS r ext bit = nb at *
  obtain ⟨r0, r1, r2, r3, r4⟩ := r
  dsimp only at *
  by_cases h1 : r0 = seq
  · have e1 : (r0 == seq) = true := beq_iff_eq.2 h1
    rw [decide_eq_true h1, Bool.true_and] at FC
    clear h1
    go_enter Tryd.func5, Tryd.ntmps5
    go_upto_region 1 with (fail)
    go_region_held (fun w' => w'.cell? ⟨w.heap.size, 0, none⟩ = some (.int .u64 r0) ∧ w'.cell? ⟨w.heap.size, 1, none⟩ = some (.int .u64 r1) ∧ w'.cell? ⟨w.heap.size, 2, none⟩ = some (.int .i64 r2) ∧ w'.cell? ⟨w.heap.size, 3, none⟩ = some (.int .u64 r3) ∧ w'.cell? ⟨w.heap.size, 4, none⟩ = some (.int .u8 r4))
      (exact (rec_cellz ((by repeat (first | with_reducible exact HK1.out | with_reducible apply Blk.alloc | with_reducible apply Blk.drewN | with_reducible apply Blk.drew | exact HK1.out)))).1)
      (first
        | (go_at_call 13; (with_reducible refine (FC.out _).mono ?_); rintro e w2 ⟨rfl, hb⟩; have HB1 := Lib.hid (below_step ((by repeat (first | with_reducible exact HB1.out | with_reducible apply below_alloc | with_reducible apply below_drewN | with_reducible apply below_drew))) hb); have HK1 := Lib.hid (Blk.below ((by repeat (first | with_reducible exact HK1.out | with_reducible apply Blk.alloc | with_reducible apply Blk.drewN | with_reducible apply Blk.drew | exact HK1.out))) hb); clear hb)
        | (go_at_call 14; (with_reducible refine (NC.out _).mono ?_); rintro e w2 ⟨rfl, hb⟩; have HB1 := Lib.hid (below_step ((by repeat (first | with_reducible exact HB1.out | with_reducible apply below_alloc | with_reducible apply below_drewN | with_reducible apply below_drew))) hb); have HK1 := Lib.hid (Blk.below ((by repeat (first | with_reducible exact HK1.out | with_reducible apply Blk.alloc | with_reducible apply Blk.drewN | with_reducible apply Blk.drew | exact HK1.out))) hb); clear hb)
        | (go_at_call 15; (with_reducible refine (RC.out _).mono ?_); rintro e w2 ⟨rfl, hb⟩; have HB1 := Lib.hid (below_step ((by repeat (first | with_reducible exact HB1.out | with_reducible apply below_alloc | with_reducible apply below_drewN | with_reducible apply below_drew))) hb); have HK1 := Lib.hid (Blk.below ((by repeat (first | with_reducible exact HK1.out | with_reducible apply Blk.alloc | with_reducible apply Blk.drewN | with_reducible apply Blk.drew | exact HK1.out))) hb); clear hb)
        | (go_at_call 9; (with_reducible refine (AW.out _ ((by repeat (first | with_reducible exact HB1.out | with_reducible apply below_alloc | with_reducible apply below_drewN | with_reducible apply below_drew)))).mono ?_); rintro e w2 ⟨rfl, hb⟩; have HB1 := Lib.hid (below_step ((by repeat (first | with_reducible exact HB1.out | with_reducible apply below_alloc | with_reducible apply below_drewN | with_reducible apply below_drew))) hb); have HK1 := Lib.hid (Blk.below ((by repeat (first | with_reducible exact HK1.out | with_reducible apply Blk.alloc | with_reducible apply Blk.drewN | with_reducible apply Blk.drew | exact HK1.out))) hb); clear hb))
    all_goals go_wp2
    all_goals go_ret
    all_goals exact ⟨rfl, HB1.out⟩
  · have e1 : (r0 == seq) = false := beq_eq_false_iff_ne.2 h1
    rw [decide_eq_false h1, Bool.false_and] at FC
    clear h1
    go_enter Tryd.func5, Tryd.ntmps5
    go_upto_region 1 with (fail)
    refine wp_region_held_drew (S := (fun w' => w'.cell? ⟨w.heap.size, 0, none⟩ = some (.int .u64 r0) ∧ w'.cell? ⟨w.heap.size, 1, none⟩ = some (.int .u64 r1) ∧ w'.cell? ⟨w.heap.size, 2, none⟩ = some (.int .i64 r2) ∧ w'.cell? ⟨w.heap.size, 3, none⟩ = some (.int .u64 r3) ∧ w'.cell? ⟨w.heap.size, 4, none⟩ = some (.int .u8 r4))) (by kernel_rfl) ?_ (fun hHeld => ?_)
    · (try dsimp only); (exact (rec_cellz ((by repeat (first | with_reducible exact HK1.out | with_reducible apply Blk.alloc | with_reducible apply Blk.drewN | with_reducible apply Blk.drew | exact HK1.out)))).1)
    refine take_w (i := 0) (some 11) (v := ?_) rfl (by rfl) (by kernel_rfl) (by kernel_rfl) (by kernel_rfl) (fun _ _ _ h => h) (by rfl) hHeld ?_ ?_
    rotate_left
    · intro w hSw; (try dsimp only at hSw); (first | (go_simp; done) | (go_simp; with_reducible rfl))
    try simp only [Act.put, List.setIfInBounds_toArray, List.set_cons_zero, List.set_cons_succ]
    refine take_w (i := 1) (some 12) (v := ?_) rfl (by rfl) (by kernel_rfl) (by kernel_rfl) (by kernel_rfl) (fun _ _ _ h => h) (by rfl) hHeld ?_ ?_
    rotate_left
    · intro w hSw; (try dsimp only at hSw); (first | (go_simp; done) | (go_simp; with_reducible rfl))
    try simp only [Act.put, List.setIfInBounds_toArray, List.set_cons_zero, List.set_cons_succ]
    refine take_w (i := 2) (some 13) (v := ?_) rfl (by rfl) (by kernel_rfl) (by kernel_rfl) (by kernel_rfl) (fun _ _ _ h => h) (by rfl) hHeld ?_ ?_
    rotate_left
    · intro w hSw; (try dsimp only at hSw); (first | (go_simp; done) | (go_simp; with_reducible rfl))
    try simp only [Act.put, List.setIfInBounds_toArray, List.set_cons_zero, List.set_cons_succ]
    refine take_w (i := 4) (some 15) (v := ?_) rfl (by rfl) (by kernel_rfl) (by kernel_rfl) (by kernel_rfl) (fun _ _ _ h => h) (by rfl) hHeld ?_ ?_
    rotate_left
    · intro w hSw; (try dsimp only at hSw); (first | (go_simp; done) | (go_simp; with_reducible rfl))
    try simp only [Act.put, List.setIfInBounds_toArray, List.set_cons_zero, List.set_cons_succ]
    refine take_w (i := 5) (some 16) (v := ?_) rfl (by rfl) (by kernel_rfl) (by kernel_rfl) (by kernel_rfl) (fun _ _ _ h => h) (by rfl) hHeld ?_ ?_
    rotate_left
    · intro w hSw; (try dsimp only at hSw); (first | (go_simp; done) | (go_simp; with_reducible rfl))
    try simp only [Act.put, List.setIfInBounds_toArray, List.set_cons_zero, List.set_cons_succ]
    refine take_w (i := 6) (some 17) (v := ?_) rfl (by rfl) (by kernel_rfl) (by kernel_rfl) (by kernel_rfl) (fun _ _ _ h => h) (by rfl) hHeld ?_ ?_
    rotate_left
    · intro w hSw; (try dsimp only at hSw); (first | (go_simp; done) | (go_simp; with_reducible rfl))
    try simp only [Act.put, List.setIfInBounds_toArray, List.set_cons_zero, List.set_cons_succ]
    refine take_w (i := 7) (some 18) (v := ?_) rfl (by rfl) (by kernel_rfl) (by kernel_rfl) (by kernel_rfl) (fun _ _ _ h => h) (by rfl) hHeld ?_ ?_
    rotate_left
    · intro w hSw; (try dsimp only at hSw); (first | (go_simp; done) | (go_simp; with_reducible rfl))
    try simp only [Act.put, List.setIfInBounds_toArray, List.set_cons_zero, List.set_cons_succ]
    refine wpAnyH_ready (rs := [3]) (by kernel_rfl) (by simp) ?_
    refine AllReadyH.cons rfl (fun K hK => ?_) ?_
    · go_simp
      go_wp2_with (first | (go_at_call 13; (with_reducible refine (FC.out _).mono ?_); rintro e w2 ⟨rfl, hb⟩; have HB1 := Lib.hid (below_step ((by repeat (first | with_reducible exact HB1.out | with_reducible apply below_alloc | with_reducible apply below_drewN | with_reducible apply below_drew))) hb); have HK1 := Lib.hid (Blk.below ((by repeat (first | with_reducible exact HK1.out | with_reducible apply Blk.alloc | with_reducible apply Blk.drewN | with_reducible apply Blk.drew | exact HK1.out))) hb); clear hb) | (go_at_call 14; (with_reducible refine (NC.out _).mono ?_); rintro e w2 ⟨rfl, hb⟩; have HB1 := Lib.hid (below_step ((by repeat (first | with_reducible exact HB1.out | with_reducible apply below_alloc | with_reducible apply below_drewN | with_reducible apply below_drew))) hb); have HK1 := Lib.hid (Blk.below ((by repeat (first | with_reducible exact HK1.out | with_reducible apply Blk.alloc | with_reducible apply Blk.drewN | with_reducible apply Blk.drew | exact HK1.out))) hb); clear hb) | (go_at_call 15; (with_reducible refine (RC.out _).mono ?_); rintro e w2 ⟨rfl, hb⟩; have HB1 := Lib.hid (below_step ((by repeat (first | with_reducible exact HB1.out | with_reducible apply below_alloc | with_reducible apply below_drewN | with_reducible apply below_drew))) hb); have HK1 := Lib.hid (Blk.below ((by repeat (first | with_reducible exact HK1.out | with_reducible apply Blk.alloc | with_reducible apply Blk.drewN | with_reducible apply Blk.drew | exact HK1.out))) hb); clear hb) | (go_at_call 9; (with_reducible refine (AW.out _ ((by repeat (first | with_reducible exact HB1.out | with_reducible apply below_alloc | with_reducible apply below_drewN | with_reducible apply below_drew)))).mono ?_); rintro e w2 ⟨rfl, hb⟩; have HB1 := Lib.hid (below_step ((by repeat (first | with_reducible exact HB1.out | with_reducible apply below_alloc | with_reducible apply below_drewN | with_reducible apply below_drew))) hb); have HK1 := Lib.hid (Blk.below ((by repeat (first | with_reducible exact HK1.out | with_reducible apply Blk.alloc | with_reducible apply Blk.drewN | with_reducible apply Blk.drew | exact HK1.out))) hb); clear hb))
      refine hK.out _ _ ?_ (fun hHeld2 => ?_)
      · (try dsimp only); (exact (rec_cellz ((by repeat (first | with_reducible exact HK1.out | with_reducible apply Blk.alloc | with_reducible apply Blk.drewN | with_reducible apply Blk.drew | exact HK1.out)))).1)
      clear hK K hHeld; have hHeld := hHeld2; clear hHeld2
      refine take_w (i := 8) (some 19) (v := ?_) rfl (by rfl) (by kernel_rfl) (by kernel_rfl) (by kernel_rfl) (fun _ _ _ h => h) (by rfl) hHeld ?_ ?_
      rotate_left
      · intro w hSw; (try dsimp only at hSw); (first | (go_simp; done) | (go_simp; with_reducible rfl))
      try simp only [Act.put, List.setIfInBounds_toArray, List.set_cons_zero, List.set_cons_succ]
      refine take_n (i := 9) (some 20) rfl (by rfl) (by kernel_rfl) (by kernel_rfl) (by kernel_rfl) (fun _ _ _ h => h) (by rfl) hHeld ?_
      try simp only [Act.put, List.setIfInBounds_toArray, List.set_cons_zero, List.set_cons_succ]
      refine take_n (i := 10) (some 21) rfl (by rfl) (by kernel_rfl) (by kernel_rfl) (by kernel_rfl) (fun _ _ _ h => h) (by rfl) hHeld ?_
      try simp only [Act.put, List.setIfInBounds_toArray, List.set_cons_zero, List.set_cons_succ]
      refine take_n (i := 11) (some 22) rfl (by rfl) (by kernel_rfl) (by kernel_rfl) (by kernel_rfl) (fun _ _ _ h => h) (by rfl) hHeld ?_
      try simp only [Act.put, List.setIfInBounds_toArray, List.set_cons_zero, List.set_cons_succ]
      refine take_n (i := 12) (some 23) rfl (by rfl) (by kernel_rfl) (by kernel_rfl) (by kernel_rfl) (fun _ _ _ h => h) (by rfl) hHeld ?_
      try simp only [Act.put, List.setIfInBounds_toArray, List.set_cons_zero, List.set_cons_succ]
      refine take_w (i := 13) (some 24) (v := ?_) rfl (by rfl) (by kernel_rfl) (by kernel_rfl) (by kernel_rfl) (fun _ _ _ h => h) (by rfl) hHeld ?_ ?_
      rotate_left
      · intro w hSw; (try dsimp only at hSw); (first | (go_simp; done) | (go_simp; with_reducible rfl))
      try simp only [Act.put, List.setIfInBounds_toArray, List.set_cons_zero, List.set_cons_succ]
      refine take_w (i := 14) (some 25) (v := ?_) rfl (by rfl) (by kernel_rfl) (by kernel_rfl) (by kernel_rfl) (fun _ _ _ h => h) (by rfl) hHeld ?_ ?_
      rotate_left
      · intro w hSw; (try dsimp only at hSw); (first | (go_simp; done) | (go_simp; with_reducible rfl))
      try simp only [Act.put, List.setIfInBounds_toArray, List.set_cons_zero, List.set_cons_succ]
      refine take_w (i := 15) (some 26) (v := ?_) rfl (by rfl) (by kernel_rfl) (by kernel_rfl) (by kernel_rfl) (fun _ _ _ h => h) (by rfl) hHeld ?_ ?_
      rotate_left
      · intro w hSw; (try dsimp only at hSw); (first | (go_simp; done) | (go_simp; with_reducible rfl))
      try simp only [Act.put, List.setIfInBounds_toArray, List.set_cons_zero, List.set_cons_succ]
      refine take_w (i := 16) (some 27) (v := ?_) rfl (by rfl) (by kernel_rfl) (by kernel_rfl) (by kernel_rfl) (fun _ _ _ h => h) (by rfl) hHeld ?_ ?_
      rotate_left
      · intro w hSw; (try dsimp only at hSw); (first | (go_simp; done) | (go_simp; with_reducible rfl))
      try simp only [Act.put, List.setIfInBounds_toArray, List.set_cons_zero, List.set_cons_succ]
      refine take_w (i := 17) (some 28) (v := ?_) rfl (by rfl) (by kernel_rfl) (by kernel_rfl) (by kernel_rfl) (fun _ _ _ h => h) (by rfl) hHeld ?_ ?_
      rotate_left
      · intro w hSw; (try dsimp only at hSw); (first | (go_simp; done) | (go_simp; with_reducible rfl))
      try simp only [Act.put, List.setIfInBounds_toArray, List.set_cons_zero, List.set_cons_succ]
      refine take_w (i := 18) (some 29) (v := ?_) rfl (by rfl) (by kernel_rfl) (by kernel_rfl) (by kernel_rfl) (fun _ _ _ h => h) (by rfl) hHeld ?_ ?_
      rotate_left
      · intro w hSw; (try dsimp only at hSw); (first | (go_simp; done) | (go_simp; with_reducible rfl))
      try simp only [Act.put, List.setIfInBounds_toArray, List.set_cons_zero, List.set_cons_succ]
      refine take_w (i := 20) (some 31) (v := ?_) rfl (by rfl) (by kernel_rfl) (by kernel_rfl) (by kernel_rfl) (fun _ _ _ h => h) (by rfl) hHeld ?_ ?_
      rotate_left
      · intro w hSw; (try dsimp only at hSw); (first | (go_simp; done) | (go_simp; with_reducible rfl))
      try simp only [Act.put, List.setIfInBounds_toArray, List.set_cons_zero, List.set_cons_succ]
      refine take_w (i := 21) (some 32) (v := ?_) rfl (by rfl) (by kernel_rfl) (by kernel_rfl) (by kernel_rfl) (fun _ _ _ h => h) (by rfl) hHeld ?_ ?_
      rotate_left
      · intro w hSw; (try dsimp only at hSw); (first | (go_simp; done) | (go_simp; with_reducible rfl))
      try simp only [Act.put, List.setIfInBounds_toArray, List.set_cons_zero, List.set_cons_succ]
      refine take_w (i := 22) (some 33) (v := ?_) rfl (by rfl) (by kernel_rfl) (by kernel_rfl) (by kernel_rfl) (fun _ _ _ h => h) (by rfl) hHeld ?_ ?_
      rotate_left
      · intro w hSw; (try dsimp only at hSw); (first | (go_simp; done) | (go_simp; with_reducible rfl))
      try simp only [Act.put, List.setIfInBounds_toArray, List.set_cons_zero, List.set_cons_succ]
      refine wpAnyH_ready (rs := [19]) (by kernel_rfl) (by simp) ?_
      refine AllReadyH.cons rfl (fun K hK => ?_) ?_
      · go_simp
        go_wp2_with (first | (go_at_call 13; (with_reducible refine (FC.out _).mono ?_); rintro e w2 ⟨rfl, hb⟩; have HB1 := Lib.hid (below_step ((by repeat (first | with_reducible exact HB1.out | with_reducible apply below_alloc | with_reducible apply below_drewN | with_reducible apply below_drew))) hb); have HK1 := Lib.hid (Blk.below ((by repeat (first | with_reducible exact HK1.out | with_reducible apply Blk.alloc | with_reducible apply Blk.drewN | with_reducible apply Blk.drew | exact HK1.out))) hb); clear hb) | (go_at_call 14; (with_reducible refine (NC.out _).mono ?_); rintro e w2 ⟨rfl, hb⟩; have HB1 := Lib.hid (below_step ((by repeat (first | with_reducible exact HB1.out | with_reducible apply below_alloc | with_reducible apply below_drewN | with_reducible apply below_drew))) hb); have HK1 := Lib.hid (Blk.below ((by repeat (first | with_reducible exact HK1.out | with_reducible apply Blk.alloc | with_reducible apply Blk.drewN | with_reducible apply Blk.drew | exact HK1.out))) hb); clear hb) | (go_at_call 15; (with_reducible refine (RC.out _).mono ?_); rintro e w2 ⟨rfl, hb⟩; have HB1 := Lib.hid (below_step ((by repeat (first | with_reducible exact HB1.out | with_reducible apply below_alloc | with_reducible apply below_drewN | with_reducible apply below_drew))) hb); have HK1 := Lib.hid (Blk.below ((by repeat (first | with_reducible exact HK1.out | with_reducible apply Blk.alloc | with_reducible apply Blk.drewN | with_reducible apply Blk.drew | exact HK1.out))) hb); clear hb) | (go_at_call 9; (with_reducible refine (AW.out _ ((by repeat (first | with_reducible exact HB1.out | with_reducible apply below_alloc | with_reducible apply below_drewN | with_reducible apply below_drew)))).mono ?_); rintro e w2 ⟨rfl, hb⟩; have HB1 := Lib.hid (below_step ((by repeat (first | with_reducible exact HB1.out | with_reducible apply below_alloc | with_reducible apply below_drewN | with_reducible apply below_drew))) hb); have HK1 := Lib.hid (Blk.below ((by repeat (first | with_reducible exact HK1.out | with_reducible apply Blk.alloc | with_reducible apply Blk.drewN | with_reducible apply Blk.drew | exact HK1.out))) hb); clear hb))
        refine hK.out _ _ ?_ (fun hHeld2 => ?_)
        · (try dsimp only); (exact (rec_cellz ((by repeat (first | with_reducible exact HK1.out | with_reducible apply Blk.alloc | with_reducible apply Blk.drewN | with_reducible apply Blk.drew | exact HK1.out)))).1)
        clear hK K hHeld; have hHeld := hHeld2; clear hHeld2
        refine wpAnyH_ready (rs := [23]) (by kernel_rfl) (by simp) ?_
        refine AllReadyH.cons rfl (fun K hK => ?_) ?_
        · go_simp
          go_wp2_with (first | (go_at_call 13; (with_reducible refine (FC.out _).mono ?_); rintro e w2 ⟨rfl, hb⟩; have HB1 := Lib.hid (below_step ((by repeat (first | with_reducible exact HB1.out | with_reducible apply below_alloc | with_reducible apply below_drewN | with_reducible apply below_drew))) hb); have HK1 := Lib.hid (Blk.below ((by repeat (first | with_reducible exact HK1.out | with_reducible apply Blk.alloc | with_reducible apply Blk.drewN | with_reducible apply Blk.drew | exact HK1.out))) hb); clear hb) | (go_at_call 14; (with_reducible refine (NC.out _).mono ?_); rintro e w2 ⟨rfl, hb⟩; have HB1 := Lib.hid (below_step ((by repeat (first | with_reducible exact HB1.out | with_reducible apply below_alloc | with_reducible apply below_drewN | with_reducible apply below_drew))) hb); have HK1 := Lib.hid (Blk.below ((by repeat (first | with_reducible exact HK1.out | with_reducible apply Blk.alloc | with_reducible apply Blk.drewN | with_reducible apply Blk.drew | exact HK1.out))) hb); clear hb) | (go_at_call 15; (with_reducible refine (RC.out _).mono ?_); rintro e w2 ⟨rfl, hb⟩; have HB1 := Lib.hid (below_step ((by repeat (first | with_reducible exact HB1.out | with_reducible apply below_alloc | with_reducible apply below_drewN | with_reducible apply below_drew))) hb); have HK1 := Lib.hid (Blk.below ((by repeat (first | with_reducible exact HK1.out | with_reducible apply Blk.alloc | with_reducible apply Blk.drewN | with_reducible apply Blk.drew | exact HK1.out))) hb); clear hb) | (go_at_call 9; (with_reducible refine (AW.out _ ((by repeat (first | with_reducible exact HB1.out | with_reducible apply below_alloc | with_reducible apply below_drewN | with_reducible apply below_drew)))).mono ?_); rintro e w2 ⟨rfl, hb⟩; have HB1 := Lib.hid (below_step ((by repeat (first | with_reducible exact HB1.out | with_reducible apply below_alloc | with_reducible apply below_drewN | with_reducible apply below_drew))) hb); have HK1 := Lib.hid (Blk.below ((by repeat (first | with_reducible exact HK1.out | with_reducible apply Blk.alloc | with_reducible apply Blk.drewN | with_reducible apply Blk.drew | exact HK1.out))) hb); clear hb))
          refine hK.out _ _ ?_ (fun hHeld2 => ?_)
          · (try dsimp only); (exact (rec_cellz ((by repeat (first | with_reducible exact HK1.out | with_reducible apply Blk.alloc | with_reducible apply Blk.drewN | with_reducible apply Blk.drew | exact HK1.out)))).1)
          clear hK K hHeld; have hHeld := hHeld2; clear hHeld2
          refine take_w (i := 24) (some 35) (v := ?_) rfl (by rfl) (by kernel_rfl) (by kernel_rfl) (by kernel_rfl) (fun _ _ _ h => h) (by rfl) hHeld ?_ ?_
          rotate_left
          · intro w hSw; (try dsimp only at hSw); (first | (go_simp; done) | (go_simp; with_reducible rfl))
          try simp only [Act.put, List.setIfInBounds_toArray, List.set_cons_zero, List.set_cons_succ]
          refine take_w (i := 25) (some 36) (v := ?_) rfl (by rfl) (by kernel_rfl) (by kernel_rfl) (by kernel_rfl) (fun _ _ _ h => h) (by rfl) hHeld ?_ ?_
          rotate_left
          · intro w hSw; (try dsimp only at hSw); (first | (go_simp; done) | (go_simp; with_reducible rfl))
          try simp only [Act.put, List.setIfInBounds_toArray, List.set_cons_zero, List.set_cons_succ]
          refine take_w (i := 26) (some 37) (v := ?_) rfl (by rfl) (by kernel_rfl) (by kernel_rfl) (by kernel_rfl) (fun _ _ _ h => h) (by rfl) hHeld ?_ ?_
          rotate_left
          · intro w hSw; (try dsimp only at hSw); (first | (go_simp; done) | (go_simp; with_reducible rfl))
          try simp only [Act.put, List.setIfInBounds_toArray, List.set_cons_zero, List.set_cons_succ]
          refine wpAnyH_ready (rs := [27]) (by kernel_rfl) (by simp) ?_
          refine AllReadyH.cons rfl (fun K hK => ?_) ?_
          · go_simp
            go_wp2_with (first | (go_at_call 13; (with_reducible refine (FC.out _).mono ?_); rintro e w2 ⟨rfl, hb⟩; have HB1 := Lib.hid (below_step ((by repeat (first | with_reducible exact HB1.out | with_reducible apply below_alloc | with_reducible apply below_drewN | with_reducible apply below_drew))) hb); have HK1 := Lib.hid (Blk.below ((by repeat (first | with_reducible exact HK1.out | with_reducible apply Blk.alloc | with_reducible apply Blk.drewN | with_reducible apply Blk.drew | exact HK1.out))) hb); clear hb) | (go_at_call 14; (with_reducible refine (NC.out _).mono ?_); rintro e w2 ⟨rfl, hb⟩; have HB1 := Lib.hid (below_step ((by repeat (first | with_reducible exact HB1.out | with_reducible apply below_alloc | with_reducible apply below_drewN | with_reducible apply below_drew))) hb); have HK1 := Lib.hid (Blk.below ((by repeat (first | with_reducible exact HK1.out | with_reducible apply Blk.alloc | with_reducible apply Blk.drewN | with_reducible apply Blk.drew | exact HK1.out))) hb); clear hb) | (go_at_call 15; (with_reducible refine (RC.out _).mono ?_); rintro e w2 ⟨rfl, hb⟩; have HB1 := Lib.hid (below_step ((by repeat (first | with_reducible exact HB1.out | with_reducible apply below_alloc | with_reducible apply below_drewN | with_reducible apply below_drew))) hb); have HK1 := Lib.hid (Blk.below ((by repeat (first | with_reducible exact HK1.out | with_reducible apply Blk.alloc | with_reducible apply Blk.drewN | with_reducible apply Blk.drew | exact HK1.out))) hb); clear hb) | (go_at_call 9; (with_reducible refine (AW.out _ ((by repeat (first | with_reducible exact HB1.out | with_reducible apply below_alloc | with_reducible apply below_drewN | with_reducible apply below_drew)))).mono ?_); rintro e w2 ⟨rfl, hb⟩; have HB1 := Lib.hid (below_step ((by repeat (first | with_reducible exact HB1.out | with_reducible apply below_alloc | with_reducible apply below_drewN | with_reducible apply below_drew))) hb); have HK1 := Lib.hid (Blk.below ((by repeat (first | with_reducible exact HK1.out | with_reducible apply Blk.alloc | with_reducible apply Blk.drewN | with_reducible apply Blk.drew | exact HK1.out))) hb); clear hb))
            refine hK.out _ _ ?_ (fun hHeld2 => ?_)
            · (try dsimp only); (exact (rec_cellz ((by repeat (first | with_reducible exact HK1.out | with_reducible apply Blk.alloc | with_reducible apply Blk.drewN | with_reducible apply Blk.drew | exact HK1.out)))).1)
            clear hK K hHeld; have hHeld := hHeld2; clear hHeld2
            refine take_w (i := 28) (some 39) (v := ?_) rfl (by rfl) (by kernel_rfl) (by kernel_rfl) (by kernel_rfl) (fun _ _ _ h => h) (by rfl) hHeld ?_ ?_
            rotate_left
            · intro w hSw; (try dsimp only at hSw); (first | (go_simp; done) | (go_simp; with_reducible rfl))
            try simp only [Act.put, List.setIfInBounds_toArray, List.set_cons_zero, List.set_cons_succ]
            refine take_w (i := 29) (some 10) (v := ?_) rfl (by rfl) (by kernel_rfl) (by kernel_rfl) (by kernel_rfl) (fun _ _ _ h => h) (by rfl) hHeld ?_ ?_
            rotate_left
            · intro w hSw; (try dsimp only at hSw); (first | (go_simp; done) | (go_simp; with_reducible rfl))
            try simp only [Act.put, List.setIfInBounds_toArray, List.set_cons_zero, List.set_cons_succ]
            refine wpAnyH_done (by kernel_rfl) ?_ _
            go_wp2
            go_ret
            exact ⟨rfl, HB1.out⟩
          all_goals exact AllReadyH.nil
        all_goals exact AllReadyH.nil
      all_goals exact AllReadyH.nil
    all_goals exact AllReadyH.nil

end Go.Proofs.YtgkodkgonafnlaaDoor.Ct
