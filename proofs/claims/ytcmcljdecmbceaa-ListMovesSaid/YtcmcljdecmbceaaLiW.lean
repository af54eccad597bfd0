import Derived.Test.YtcmcljdecmbceaaLiV
/-! Chapter 07: the page's example; ListMakes. -/
namespace Go.Proofs.Ytcmcljdecmbceaa.Ct
open Go.RowKit
set_option linter.unusedVariables false
set_option linter.unusedSimpArgs false
def awR : Nat → List Nat := appV (pushV (pushV (fun _ => []) 3 1 0 0) 3 1 0 1) 3 1 0 2
theorem awR_row : rowI awR 1 0 = [1, 0, 2] := by decide
set_option maxHeartbeats 4000000 in
theorem awake07_calls (w : World) : Calls Try.prog 14 #[] w fun e w' => e = .returned (.bool true) ∧ Below w.heap.size w w' := by
  have NC := Lib.hid (show Calls Try.prog 6 #[.int .i64 3, .int .i64 1] w fun e w' => ∃ x gl gm, e = .returned (.tuple #[.pointer (some ⟨x, 0, none⟩), .int .i64 0]) ∧ LR w.heap.size w' x gl gm 3 1 (fun _ => []) ∧ Below w.heap.size w w' from lnew_ok 3 1 w (by decide) (by decide))
  have m1 : decide (mayI 3 1 0 0) = true := by decide
  have m2 : decide (mayI 3 1 0 1) = true := by decide
  have m3 : decide (mayI 3 1 0 2) = true := by decide
  have M1 := Lib.hid m1; have M2 := Lib.hid m2; have M3 := Lib.hid m3
  clear m1 m2 m3
  have SC := Lib.hid (fun (a6 : Option Addr) (c6 : Nat) (W : World) (h6 : Row .i64 W a6 (casts [1, 0, 2])) => (show Calls Try.prog 11 #[.slice a6 3 c6, .slice (some ⟨W.heap.size, 0, none⟩) 3 3] (W.alloc (.cells #[.int .i64 1, .int .i64 0, .int .i64 2] 3)) fun e w' => e = .returned (.bool true) ∧ Below (W.alloc (.cells #[.int .i64 1, .int .i64 0, .int .i64 2] 3)).heap.size (W.alloc (.cells #[.int .i64 1, .int .i64 0, .int .i64 2] 3)) w' from
    rsame05_calls a6 (some ⟨W.heap.size, 0, none⟩) c6 3 [1, 0, 2] [1, 0, 2] _ (h6.below (below_alloc (Below.refl _ _) _)) (own_lit (k := .i64) (E := 3) (w := W) [1, 0, 2] (Nat.le_refl _) (by decide) (by intro x hx; simp only [List.mem_cons, List.not_mem_nil, or_false] at hx; rcases hx with rfl | rfl | rfl <;> exact i64wf ⟨by decide, by decide⟩)).rowX))
  go_enter Try.func14, Try.ntmps14
  go_upto_region 2 with (go_at_call 6; (with_reducible refine (NC.out).mono ?_); rintro e w1 ⟨x, gl, gm, rfl, h1, hb1⟩; have H1 := Lib.hid h1; have B1 := Lib.hid hb1; clear h1 hb1)
  have hgl : w.heap.size ≤ gl ∧ w.heap.size ≤ gm := by obtain ⟨f, g, hs, -⟩ := H1.out; exact ⟨hs.bl, hs.bm⟩
  obtain ⟨G1, G2⟩ := hgl
  have HG1 := Lib.hid G1
  have HG2 := Lib.hid G2
  clear G1 G2
  have P1 := Lib.hid (fun (v : Int) (r : Nat → List Nat) (hv : decide (mayI 3 1 0 v) = true) (W : World) (h : LR w.heap.size W x gl gm 3 1 r) => (show Calls Try.prog 7 #[.pointer (some ⟨x, 0, none⟩), .int .i64 0, .int .i64 v] W fun e w' => e = .returned (.bool true) ∧ LR w.heap.size w' x gl gm 3 1 (pushV r 3 1 0 v) ∧ Tch gl gm W w' by
    have := ppush h 0 v (by decide) (by decide)
    rw [hv] at this
    exact this))
  have P2 := Lib.hid (fun (v : Int) (r : Nat → List Nat) (hv : decide (mayI 3 1 0 v) = true) (W : World) (h : LR w.heap.size W x gl gm 3 1 r) => (show Calls Try.prog 9 #[.pointer (some ⟨x, 0, none⟩), .int .i64 0, .int .i64 v] W fun e w' => e = .returned (.bool true) ∧ LR w.heap.size w' x gl gm 3 1 (appV r 3 1 0 v) ∧ Tch gl gm W w' by
    have := papp h 0 v (by decide) (by decide)
    rw [hv] at this
    exact this))
  have AC := Lib.hid (fun (W : World) (h : LR w.heap.size W x gl gm 3 1 awR) => (show Calls Try.prog 8 #[.pointer (some ⟨x, 0, none⟩), .int .i64 0] W fun e w' => ∃ a c, e = .returned (.slice a 3 c) ∧ Row .i64 w' a (casts [1, 0, 2]) ∧ Below W.heap.size W w' by
    have := pall h 0 (by decide) (by decide)
    rw [awR_row] at this
    exact this.mono fun e w' ⟨a, c, h1, h2, h3⟩ => ⟨a, c, h1, h2.rowX, h3⟩))
  have RC := Lib.hid (fun (W : World) (h : LR w.heap.size W x gl gm 3 1 awR) => right_calls w.heap.size x gl gm 3 1 awR W h (by decide) (by decide))
  go_wp2_with fail
  refine (P1.out 0 _ M1.out _ H1.out).mono ?_
  rintro e w2 ⟨rfl, h2, ht2⟩
  have H2 := Lib.hid h2; have T2 := Lib.hid ht2; clear h2 ht2
  go_wp2_with fail
  refine (P1.out 1 _ M2.out _ H2.out).mono ?_
  rintro e w3 ⟨rfl, h3, ht3⟩
  have H3 := Lib.hid h3; have T3 := Lib.hid (T2.out.trans ht3); clear h3 ht3
  go_wp2_with fail
  refine (P2.out 2 _ M3.out _ H3.out).mono ?_
  rintro e w4 ⟨rfl, h4, ht4⟩
  have H4 : Hid (LR w.heap.size w4 x gl gm 3 1 awR) := Lib.hid h4
  have B4 := Lib.hid (Below.trans B1.out ((T3.out.trans ht4).to_below HG1.out HG2.out B1.out.size)); clear h4 ht4
  go_wp2_with (first
    | (go_at_call 8; (with_reducible refine (AC.out w4 H4.out).mono ?_); rintro e w5 ⟨a5, c5, rfl, hr, hb⟩; have R5 := Lib.hid hr; have H5 := Lib.hid (H4.out.below hb); have B5 := Lib.hid (Below.trans B4.out (hb.mono B4.out.size)); clear hr hb)
    | (go_at_call 11; (with_reducible refine (SC.out a5 c5 w5 R5.out).mono ?_); rintro e w6 ⟨rfl, hb⟩; have hb6 := below_step (below_alloc (Below.refl w5.heap.size w5) _) hb; have H6 := Lib.hid (H5.out.below hb6); have B6 := Lib.hid (Below.trans B5.out (hb6.mono B5.out.size)); clear hb hb6)
    | (go_at_call 13; (with_reducible refine (RC.out w6 H6.out).mono ?_); rintro e w7 ⟨rfl, hb⟩; have B7 := Lib.hid (Below.trans B6.out (hb.mono B6.out.size)); clear hb))
  go_ret
  exact ⟨rfl, B7.out⟩
set_option maxHeartbeats 4000000 in
theorem right_odd (x : Nat) (w : World) (c0 : w.cell? ⟨x, 0, none⟩ = some (.slice none 0 0)) (c1 : w.cell? ⟨x, 1, none⟩ = some (.int .i64 0)) (c2 : w.cell? ⟨x, 2, none⟩ = some (.slice none 0 0)) :
    Calls Try.prog 13 #[.pointer (some ⟨x, 0, none⟩)] w fun e w' => e = .returned (.bool true) ∧ Below w.heap.size w w' := by
  have hb1 := below_alloc (Below.refl w.heap.size w) (.cells #[.pointer (some ⟨x, 0, none⟩)] 25)
  have HBX := Lib.hid (Blk.new w 25 #[.pointer (some ⟨x, 0, none⟩)])
  have e0 := bget hb1 c0
  have e1 := bget hb1 c1
  have e2 := bget hb1 c2
  have HB1 := Lib.hid hb1
  have bc0 : (w.alloc (.cells #[.pointer (some ⟨x, 0, none⟩)] 25)).cell? ⟨w.heap.size, 0, none⟩ = some (.pointer (some ⟨x, 0, none⟩)) := HBX.out.cell 0
  have CC := Lib.hid (show Calls Try.prog 29 #[.slice none 0 0, .func (.func 30) #[] #[.pointer (some ⟨w.heap.size, 0, none⟩)]] (w.alloc (.cells #[.pointer (some ⟨x, 0, none⟩)] 25)) fun e w' => e = .returned (.bool false) ∧ (w.alloc (.cells #[.pointer (some ⟨x, 0, none⟩)] 25)) = w' from containsI_calls w.heap.size x 0 none 0 [] _ bc0 e1 (row_nil _ _) (by simp))
  clear hb1 c0 c1 c2 e1
  go_enter Try.func13, Try.ntmps13
  go_upto_region 3 with (fail)
  generalize w.alloc (.cells #[.pointer (some ⟨x, 0, none⟩)] 25) = w1 at *
  generalize hbx : w.heap.size = bx at *
  have HBB := Lib.hid hbx
  clear hbx
  go_wp2
  go_loopw [12] (fun i wr => i = .int .i64 0 ∧ wr = w1) (fun _ _ => 0)
  case atStart => exact ⟨rfl, rfl⟩
  case round =>
    obtain ⟨rfl, rfl⟩ := hrel
    go_wp2_with (go_at_call 29; (with_reducible refine (CC.out).mono ?_); rintro e w4 ⟨rfl, rfl⟩)
    go_ret
    exact ⟨rfl, by rw [HBB.out]; exact HB1.out⟩
set_option maxHeartbeats 8000000 in
theorem makes07_walk (n m i : Int) (w : World) (hn : -9223372036854775808 ≤ n ∧ n ≤ 9223372036854775807) (hm : -9223372036854775808 ≤ m ∧ m ≤ 9223372036854775807) (hi : -9223372036854775808 ≤ i ∧ i ≤ 9223372036854775807) :
    Calls Try.prog 5 #[.int .i64 n, .int .i64 m, .int .i64 i] w fun e w' => e = .returned (.bool true) ∧ Below w.heap.size w w' := by
  clear hn hm hi
  have ODD := Lib.hid (fun (W : World) => (show Blk (W.alloc (.cells #[.slice none 0 0, .int .i64 0, .slice none 0 0] 44)) W.heap.size 44 #[.slice none 0 0, .int .i64 0, .slice none 0 0] from Blk.new W _ _))
  by_cases hok : 0 ≤ n ∧ n ≤ 1024 ∧ 0 ≤ m ∧ m ≤ 16
  · obtain ⟨nn, rfl⟩ : ∃ k : Nat, n = k := ⟨n.toNat, by omega⟩
    obtain ⟨mm, rfl⟩ : ∃ k : Nat, m = k := ⟨m.toNat, by omega⟩
    have NC := Lib.hid (lnew_ok nn mm w (by omega) (by omega))
    obtain ⟨p0, p1, p2, p3⟩ := hok
    go_enter Try.func5, Try.ntmps5
    go_upto_region 2 with (go_at_call 6; (with_reducible refine (NC.out).mono ?_); rintro e w1 ⟨x, gl, gm, rfl, h1, hb1⟩; have B1 := Lib.hid hb1; clear h1 hb1)
    go_upto_region 6 with (fail)
    have OB := Lib.hid (ODD.out w1)
    have B2 := Lib.hid (B1.out.alloc B1.out.size (.cells #[.slice none 0 0, .int .i64 0, .slice none 0 0] 44))
    go_upto_region 7 with (fail)
    generalize w1.alloc (.cells #[.slice none 0 0, .int .i64 0, .slice none 0 0] 44) = w2 at *
    generalize hod : w1.heap.size = od at *
    have o0 : w2.cell? ⟨od, 0, none⟩ = some (.slice none 0 0) := OB.out.cell 0
    have o1 : w2.cell? ⟨od, 1, none⟩ = some (.int .i64 0) := OB.out.cell 1
    have o2 : w2.cell? ⟨od, 2, none⟩ = some (.slice none 0 0) := OB.out.cell 2
    have CB := Lib.hid (back_bad od i none 0 0 w2 o2 (by omega))
    have CA := Lib.hid (app_bad od i i 0 0 0 none w2 o1 o2 (by decide) (by decide) (by omega))
    have CR := Lib.hid (rem_bad od i 0 w2 o1 (by omega))
    have CL := Lib.hid (len_bad od i none 0 0 w2 o2 (by omega))
    have CN := Lib.hid (all_bad none i w2 (fun W _ => head_none i W))
    have CO := Lib.hid (fun (W : World) (hb : Below w2.heap.size w2 W) => all_bad (some ⟨od, 0, none⟩) i W (fun W2 hb2 => head_bad od i none 0 0 W2 (bget hb2 (bget hb o2)) (by omega)))
    have CT := Lib.hid (fun (W : World) (hb : Below w2.heap.size w2 W) => right_odd od W (bget hb o0) (bget hb o1) (bget hb o2))
    have R2 := Lib.hid (Below.refl w2.heap.size w2)
    have HOD := Lib.hid hod
    clear o0 o1 o2 hod
    go_wp2_with (first
      | (go_at_call 20; (with_reducible refine (front_none i w2).mono ?_); rintro e w' ⟨rfl, rfl⟩)
      | (go_at_call 21; (with_reducible refine (CB.out).mono ?_); rintro e w' ⟨rfl, rfl⟩)
      | (go_at_call 22; (with_reducible refine (of_none i w2).mono ?_); rintro e w' ⟨rfl, rfl⟩)
      | (go_at_call 7; (with_reducible refine (push_none i i w2).mono ?_); rintro e w' ⟨rfl, rfl⟩)
      | (go_at_call 9; (with_reducible refine (CA.out).mono ?_); rintro e w' ⟨rfl, rfl⟩)
      | (go_at_call 10; (with_reducible refine (rem_none i w2).mono ?_); rintro e w' ⟨rfl, rfl⟩)
      | (go_at_call 10; (with_reducible refine (CR.out).mono ?_); rintro e w' ⟨rfl, rfl⟩)
      | (go_at_call 23; (with_reducible refine (len_none i w2).mono ?_); rintro e w' ⟨rfl, rfl⟩)
      | (go_at_call 23; (with_reducible refine (CL.out).mono ?_); rintro e w' ⟨rfl, rfl⟩)
      | (go_at_call 8; (with_reducible refine (CN.out).mono ?_); rintro e w3 ⟨v3, rfl, ho, hb⟩; obtain ⟨a3, c3, hv3, -, -, -, -⟩ := ho.form; subst hv3; have R3 := Lib.hid hb; clear ho hb)
      | (go_at_call 8; (with_reducible refine (CO.out w3 R3.out).mono ?_); rintro e w4 ⟨v4, rfl, ho, hb⟩; obtain ⟨a4, c4, hv4, -, -, -, -⟩ := ho.form; subst hv4; have R4 := Lib.hid (below_step R3.out hb); clear ho hb)
      | (go_at_call 13; (with_reducible refine (right_none w4).mono ?_); rintro e w5 ⟨rfl, hb⟩; have R5 := Lib.hid (below_step R4.out hb); clear hb)
      | (go_at_call 13; (with_reducible refine (CT.out w5 R5.out).mono ?_); rintro e w6 ⟨rfl, hb⟩; have R6 := Lib.hid (below_step R5.out hb); clear hb)
      | (go_at_call 14; (with_reducible refine (awake07_calls w6).mono ?_); rintro e w7 ⟨rfl, hb⟩; have R7 := Lib.hid (below_step R6.out hb); clear hb))
    go_ret
    exact ⟨rfl, by first | exact Below.trans B2.out (R7.out.mono B2.out.size) | (rw [HOD.out]; exact Below.trans B2.out (R7.out.mono (by rw [← HOD.out]; exact B2.out.size)))⟩
  · have NC := Lib.hid (lnew_bad n m w (by omega))
    have hc : n < 0 ∨ (0 ≤ n ∧ 1024 < n) ∨ (0 ≤ n ∧ n ≤ 1024 ∧ m < 0) ∨ (0 ≤ n ∧ n ≤ 1024 ∧ 0 ≤ m ∧ 16 < m) := by omega
    clear hok
    rcases hc with p0 | ⟨p0, p1⟩ | ⟨p0, p1, p2⟩ | ⟨p0, p1, p2, p3⟩
    · go_enter Try.func5, Try.ntmps5
      go_upto_region 2 with (go_at_call 6; (with_reducible refine (NC.out).mono ?_); rintro e w1 ⟨rfl, rfl⟩)
      go_upto_region 6 with (fail)
      have OB := Lib.hid (ODD.out w)
      have B2 := Lib.hid ((Below.refl w.heap.size w).alloc (Nat.le_refl _) (.cells #[.slice none 0 0, .int .i64 0, .slice none 0 0] 44))
      go_upto_region 7 with (fail)
      generalize w.alloc (.cells #[.slice none 0 0, .int .i64 0, .slice none 0 0] 44) = w2 at *
      generalize hod : w.heap.size = od at *
      have o0 : w2.cell? ⟨od, 0, none⟩ = some (.slice none 0 0) := OB.out.cell 0
      have o1 : w2.cell? ⟨od, 1, none⟩ = some (.int .i64 0) := OB.out.cell 1
      have o2 : w2.cell? ⟨od, 2, none⟩ = some (.slice none 0 0) := OB.out.cell 2
      have CB := Lib.hid (back_bad od i none 0 0 w2 o2 (by omega))
      have CA := Lib.hid (app_bad od i i 0 0 0 none w2 o1 o2 (by decide) (by decide) (by omega))
      have CR := Lib.hid (rem_bad od i 0 w2 o1 (by omega))
      have CL := Lib.hid (len_bad od i none 0 0 w2 o2 (by omega))
      have CN := Lib.hid (all_bad none i w2 (fun W _ => head_none i W))
      have CO := Lib.hid (fun (W : World) (hb : Below w2.heap.size w2 W) => all_bad (some ⟨od, 0, none⟩) i W (fun W2 hb2 => head_bad od i none 0 0 W2 (bget hb2 (bget hb o2)) (by omega)))
      have CT := Lib.hid (fun (W : World) (hb : Below w2.heap.size w2 W) => right_odd od W (bget hb o0) (bget hb o1) (bget hb o2))
      have R2 := Lib.hid (Below.refl w2.heap.size w2)
      have HOD := Lib.hid hod
      clear o0 o1 o2 hod
      go_wp2_with (first
        | (go_at_call 20; (with_reducible refine (front_none i w2).mono ?_); rintro e w' ⟨rfl, rfl⟩)
        | (go_at_call 21; (with_reducible refine (CB.out).mono ?_); rintro e w' ⟨rfl, rfl⟩)
        | (go_at_call 22; (with_reducible refine (of_none i w2).mono ?_); rintro e w' ⟨rfl, rfl⟩)
        | (go_at_call 7; (with_reducible refine (push_none i i w2).mono ?_); rintro e w' ⟨rfl, rfl⟩)
        | (go_at_call 9; (with_reducible refine (CA.out).mono ?_); rintro e w' ⟨rfl, rfl⟩)
        | (go_at_call 10; (with_reducible refine (rem_none i w2).mono ?_); rintro e w' ⟨rfl, rfl⟩)
        | (go_at_call 10; (with_reducible refine (CR.out).mono ?_); rintro e w' ⟨rfl, rfl⟩)
        | (go_at_call 23; (with_reducible refine (len_none i w2).mono ?_); rintro e w' ⟨rfl, rfl⟩)
        | (go_at_call 23; (with_reducible refine (CL.out).mono ?_); rintro e w' ⟨rfl, rfl⟩)
        | (go_at_call 8; (with_reducible refine (CN.out).mono ?_); rintro e w3 ⟨v3, rfl, ho, hb⟩; obtain ⟨a3, c3, hv3, -, -, -, -⟩ := ho.form; subst hv3; have R3 := Lib.hid hb; clear ho hb)
        | (go_at_call 8; (with_reducible refine (CO.out w3 R3.out).mono ?_); rintro e w4 ⟨v4, rfl, ho, hb⟩; obtain ⟨a4, c4, hv4, -, -, -, -⟩ := ho.form; subst hv4; have R4 := Lib.hid (below_step R3.out hb); clear ho hb)
        | (go_at_call 13; (with_reducible refine (right_none w4).mono ?_); rintro e w5 ⟨rfl, hb⟩; have R5 := Lib.hid (below_step R4.out hb); clear hb)
        | (go_at_call 13; (with_reducible refine (CT.out w5 R5.out).mono ?_); rintro e w6 ⟨rfl, hb⟩; have R6 := Lib.hid (below_step R5.out hb); clear hb)
        | (go_at_call 14; (with_reducible refine (awake07_calls w6).mono ?_); rintro e w7 ⟨rfl, hb⟩; have R7 := Lib.hid (below_step R6.out hb); clear hb))
      go_ret
      exact ⟨rfl, by first | exact Below.trans B2.out (R7.out.mono B2.out.size) | (rw [HOD.out]; exact Below.trans B2.out (R7.out.mono (by rw [← HOD.out]; exact B2.out.size)))⟩
    · go_enter Try.func5, Try.ntmps5
      go_upto_region 2 with (go_at_call 6; (with_reducible refine (NC.out).mono ?_); rintro e w1 ⟨rfl, rfl⟩)
      go_upto_region 6 with (fail)
      have OB := Lib.hid (ODD.out w)
      have B2 := Lib.hid ((Below.refl w.heap.size w).alloc (Nat.le_refl _) (.cells #[.slice none 0 0, .int .i64 0, .slice none 0 0] 44))
      go_upto_region 7 with (fail)
      generalize w.alloc (.cells #[.slice none 0 0, .int .i64 0, .slice none 0 0] 44) = w2 at *
      generalize hod : w.heap.size = od at *
      have o0 : w2.cell? ⟨od, 0, none⟩ = some (.slice none 0 0) := OB.out.cell 0
      have o1 : w2.cell? ⟨od, 1, none⟩ = some (.int .i64 0) := OB.out.cell 1
      have o2 : w2.cell? ⟨od, 2, none⟩ = some (.slice none 0 0) := OB.out.cell 2
      have CB := Lib.hid (back_bad od i none 0 0 w2 o2 (by omega))
      have CA := Lib.hid (app_bad od i i 0 0 0 none w2 o1 o2 (by decide) (by decide) (by omega))
      have CR := Lib.hid (rem_bad od i 0 w2 o1 (by omega))
      have CL := Lib.hid (len_bad od i none 0 0 w2 o2 (by omega))
      have CN := Lib.hid (all_bad none i w2 (fun W _ => head_none i W))
      have CO := Lib.hid (fun (W : World) (hb : Below w2.heap.size w2 W) => all_bad (some ⟨od, 0, none⟩) i W (fun W2 hb2 => head_bad od i none 0 0 W2 (bget hb2 (bget hb o2)) (by omega)))
      have CT := Lib.hid (fun (W : World) (hb : Below w2.heap.size w2 W) => right_odd od W (bget hb o0) (bget hb o1) (bget hb o2))
      have R2 := Lib.hid (Below.refl w2.heap.size w2)
      have HOD := Lib.hid hod
      clear o0 o1 o2 hod
      go_wp2_with (first
        | (go_at_call 20; (with_reducible refine (front_none i w2).mono ?_); rintro e w' ⟨rfl, rfl⟩)
        | (go_at_call 21; (with_reducible refine (CB.out).mono ?_); rintro e w' ⟨rfl, rfl⟩)
        | (go_at_call 22; (with_reducible refine (of_none i w2).mono ?_); rintro e w' ⟨rfl, rfl⟩)
        | (go_at_call 7; (with_reducible refine (push_none i i w2).mono ?_); rintro e w' ⟨rfl, rfl⟩)
        | (go_at_call 9; (with_reducible refine (CA.out).mono ?_); rintro e w' ⟨rfl, rfl⟩)
        | (go_at_call 10; (with_reducible refine (rem_none i w2).mono ?_); rintro e w' ⟨rfl, rfl⟩)
        | (go_at_call 10; (with_reducible refine (CR.out).mono ?_); rintro e w' ⟨rfl, rfl⟩)
        | (go_at_call 23; (with_reducible refine (len_none i w2).mono ?_); rintro e w' ⟨rfl, rfl⟩)
        | (go_at_call 23; (with_reducible refine (CL.out).mono ?_); rintro e w' ⟨rfl, rfl⟩)
        | (go_at_call 8; (with_reducible refine (CN.out).mono ?_); rintro e w3 ⟨v3, rfl, ho, hb⟩; obtain ⟨a3, c3, hv3, -, -, -, -⟩ := ho.form; subst hv3; have R3 := Lib.hid hb; clear ho hb)
        | (go_at_call 8; (with_reducible refine (CO.out w3 R3.out).mono ?_); rintro e w4 ⟨v4, rfl, ho, hb⟩; obtain ⟨a4, c4, hv4, -, -, -, -⟩ := ho.form; subst hv4; have R4 := Lib.hid (below_step R3.out hb); clear ho hb)
        | (go_at_call 13; (with_reducible refine (right_none w4).mono ?_); rintro e w5 ⟨rfl, hb⟩; have R5 := Lib.hid (below_step R4.out hb); clear hb)
        | (go_at_call 13; (with_reducible refine (CT.out w5 R5.out).mono ?_); rintro e w6 ⟨rfl, hb⟩; have R6 := Lib.hid (below_step R5.out hb); clear hb)
        | (go_at_call 14; (with_reducible refine (awake07_calls w6).mono ?_); rintro e w7 ⟨rfl, hb⟩; have R7 := Lib.hid (below_step R6.out hb); clear hb))
      go_ret
      exact ⟨rfl, by first | exact Below.trans B2.out (R7.out.mono B2.out.size) | (rw [HOD.out]; exact Below.trans B2.out (R7.out.mono (by rw [← HOD.out]; exact B2.out.size)))⟩
    · go_enter Try.func5, Try.ntmps5
      go_upto_region 2 with (go_at_call 6; (with_reducible refine (NC.out).mono ?_); rintro e w1 ⟨rfl, rfl⟩)
      go_upto_region 6 with (fail)
      have OB := Lib.hid (ODD.out w)
      have B2 := Lib.hid ((Below.refl w.heap.size w).alloc (Nat.le_refl _) (.cells #[.slice none 0 0, .int .i64 0, .slice none 0 0] 44))
      go_upto_region 7 with (fail)
      generalize w.alloc (.cells #[.slice none 0 0, .int .i64 0, .slice none 0 0] 44) = w2 at *
      generalize hod : w.heap.size = od at *
      have o0 : w2.cell? ⟨od, 0, none⟩ = some (.slice none 0 0) := OB.out.cell 0
      have o1 : w2.cell? ⟨od, 1, none⟩ = some (.int .i64 0) := OB.out.cell 1
      have o2 : w2.cell? ⟨od, 2, none⟩ = some (.slice none 0 0) := OB.out.cell 2
      have CB := Lib.hid (back_bad od i none 0 0 w2 o2 (by omega))
      have CA := Lib.hid (app_bad od i i 0 0 0 none w2 o1 o2 (by decide) (by decide) (by omega))
      have CR := Lib.hid (rem_bad od i 0 w2 o1 (by omega))
      have CL := Lib.hid (len_bad od i none 0 0 w2 o2 (by omega))
      have CN := Lib.hid (all_bad none i w2 (fun W _ => head_none i W))
      have CO := Lib.hid (fun (W : World) (hb : Below w2.heap.size w2 W) => all_bad (some ⟨od, 0, none⟩) i W (fun W2 hb2 => head_bad od i none 0 0 W2 (bget hb2 (bget hb o2)) (by omega)))
      have CT := Lib.hid (fun (W : World) (hb : Below w2.heap.size w2 W) => right_odd od W (bget hb o0) (bget hb o1) (bget hb o2))
      have R2 := Lib.hid (Below.refl w2.heap.size w2)
      have HOD := Lib.hid hod
      clear o0 o1 o2 hod
      go_wp2_with (first
        | (go_at_call 20; (with_reducible refine (front_none i w2).mono ?_); rintro e w' ⟨rfl, rfl⟩)
        | (go_at_call 21; (with_reducible refine (CB.out).mono ?_); rintro e w' ⟨rfl, rfl⟩)
        | (go_at_call 22; (with_reducible refine (of_none i w2).mono ?_); rintro e w' ⟨rfl, rfl⟩)
        | (go_at_call 7; (with_reducible refine (push_none i i w2).mono ?_); rintro e w' ⟨rfl, rfl⟩)
        | (go_at_call 9; (with_reducible refine (CA.out).mono ?_); rintro e w' ⟨rfl, rfl⟩)
        | (go_at_call 10; (with_reducible refine (rem_none i w2).mono ?_); rintro e w' ⟨rfl, rfl⟩)
        | (go_at_call 10; (with_reducible refine (CR.out).mono ?_); rintro e w' ⟨rfl, rfl⟩)
        | (go_at_call 23; (with_reducible refine (len_none i w2).mono ?_); rintro e w' ⟨rfl, rfl⟩)
        | (go_at_call 23; (with_reducible refine (CL.out).mono ?_); rintro e w' ⟨rfl, rfl⟩)
        | (go_at_call 8; (with_reducible refine (CN.out).mono ?_); rintro e w3 ⟨v3, rfl, ho, hb⟩; obtain ⟨a3, c3, hv3, -, -, -, -⟩ := ho.form; subst hv3; have R3 := Lib.hid hb; clear ho hb)
        | (go_at_call 8; (with_reducible refine (CO.out w3 R3.out).mono ?_); rintro e w4 ⟨v4, rfl, ho, hb⟩; obtain ⟨a4, c4, hv4, -, -, -, -⟩ := ho.form; subst hv4; have R4 := Lib.hid (below_step R3.out hb); clear ho hb)
        | (go_at_call 13; (with_reducible refine (right_none w4).mono ?_); rintro e w5 ⟨rfl, hb⟩; have R5 := Lib.hid (below_step R4.out hb); clear hb)
        | (go_at_call 13; (with_reducible refine (CT.out w5 R5.out).mono ?_); rintro e w6 ⟨rfl, hb⟩; have R6 := Lib.hid (below_step R5.out hb); clear hb)
        | (go_at_call 14; (with_reducible refine (awake07_calls w6).mono ?_); rintro e w7 ⟨rfl, hb⟩; have R7 := Lib.hid (below_step R6.out hb); clear hb))
      go_ret
      exact ⟨rfl, by first | exact Below.trans B2.out (R7.out.mono B2.out.size) | (rw [HOD.out]; exact Below.trans B2.out (R7.out.mono (by rw [← HOD.out]; exact B2.out.size)))⟩
    · go_enter Try.func5, Try.ntmps5
      go_upto_region 2 with (go_at_call 6; (with_reducible refine (NC.out).mono ?_); rintro e w1 ⟨rfl, rfl⟩)
      go_upto_region 6 with (fail)
      have OB := Lib.hid (ODD.out w)
      have B2 := Lib.hid ((Below.refl w.heap.size w).alloc (Nat.le_refl _) (.cells #[.slice none 0 0, .int .i64 0, .slice none 0 0] 44))
      go_upto_region 7 with (fail)
      generalize w.alloc (.cells #[.slice none 0 0, .int .i64 0, .slice none 0 0] 44) = w2 at *
      generalize hod : w.heap.size = od at *
      have o0 : w2.cell? ⟨od, 0, none⟩ = some (.slice none 0 0) := OB.out.cell 0
      have o1 : w2.cell? ⟨od, 1, none⟩ = some (.int .i64 0) := OB.out.cell 1
      have o2 : w2.cell? ⟨od, 2, none⟩ = some (.slice none 0 0) := OB.out.cell 2
      have CB := Lib.hid (back_bad od i none 0 0 w2 o2 (by omega))
      have CA := Lib.hid (app_bad od i i 0 0 0 none w2 o1 o2 (by decide) (by decide) (by omega))
      have CR := Lib.hid (rem_bad od i 0 w2 o1 (by omega))
      have CL := Lib.hid (len_bad od i none 0 0 w2 o2 (by omega))
      have CN := Lib.hid (all_bad none i w2 (fun W _ => head_none i W))
      have CO := Lib.hid (fun (W : World) (hb : Below w2.heap.size w2 W) => all_bad (some ⟨od, 0, none⟩) i W (fun W2 hb2 => head_bad od i none 0 0 W2 (bget hb2 (bget hb o2)) (by omega)))
      have CT := Lib.hid (fun (W : World) (hb : Below w2.heap.size w2 W) => right_odd od W (bget hb o0) (bget hb o1) (bget hb o2))
      have R2 := Lib.hid (Below.refl w2.heap.size w2)
      have HOD := Lib.hid hod
      clear o0 o1 o2 hod
      go_wp2_with (first
        | (go_at_call 20; (with_reducible refine (front_none i w2).mono ?_); rintro e w' ⟨rfl, rfl⟩)
        | (go_at_call 21; (with_reducible refine (CB.out).mono ?_); rintro e w' ⟨rfl, rfl⟩)
        | (go_at_call 22; (with_reducible refine (of_none i w2).mono ?_); rintro e w' ⟨rfl, rfl⟩)
        | (go_at_call 7; (with_reducible refine (push_none i i w2).mono ?_); rintro e w' ⟨rfl, rfl⟩)
        | (go_at_call 9; (with_reducible refine (CA.out).mono ?_); rintro e w' ⟨rfl, rfl⟩)
        | (go_at_call 10; (with_reducible refine (rem_none i w2).mono ?_); rintro e w' ⟨rfl, rfl⟩)
        | (go_at_call 10; (with_reducible refine (CR.out).mono ?_); rintro e w' ⟨rfl, rfl⟩)
        | (go_at_call 23; (with_reducible refine (len_none i w2).mono ?_); rintro e w' ⟨rfl, rfl⟩)
        | (go_at_call 23; (with_reducible refine (CL.out).mono ?_); rintro e w' ⟨rfl, rfl⟩)
        | (go_at_call 8; (with_reducible refine (CN.out).mono ?_); rintro e w3 ⟨v3, rfl, ho, hb⟩; obtain ⟨a3, c3, hv3, -, -, -, -⟩ := ho.form; subst hv3; have R3 := Lib.hid hb; clear ho hb)
        | (go_at_call 8; (with_reducible refine (CO.out w3 R3.out).mono ?_); rintro e w4 ⟨v4, rfl, ho, hb⟩; obtain ⟨a4, c4, hv4, -, -, -, -⟩ := ho.form; subst hv4; have R4 := Lib.hid (below_step R3.out hb); clear ho hb)
        | (go_at_call 13; (with_reducible refine (right_none w4).mono ?_); rintro e w5 ⟨rfl, hb⟩; have R5 := Lib.hid (below_step R4.out hb); clear hb)
        | (go_at_call 13; (with_reducible refine (CT.out w5 R5.out).mono ?_); rintro e w6 ⟨rfl, hb⟩; have R6 := Lib.hid (below_step R5.out hb); clear hb)
        | (go_at_call 14; (with_reducible refine (awake07_calls w6).mono ?_); rintro e w7 ⟨rfl, hb⟩; have R7 := Lib.hid (below_step R6.out hb); clear hb))
      go_ret
      exact ⟨rfl, by first | exact Below.trans B2.out (R7.out.mono B2.out.size) | (rw [HOD.out]; exact Below.trans B2.out (R7.out.mono (by rw [← HOD.out]; exact B2.out.size)))⟩
end Go.Proofs.Ytcmcljdecmbceaa.Ct
