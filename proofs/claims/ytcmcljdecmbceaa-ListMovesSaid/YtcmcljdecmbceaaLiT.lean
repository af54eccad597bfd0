import Derived.Test.YtcmcljdecmbceaaLiS
/-! The reference's rows: may, Row, Push, Append, New. -/
namespace Go.Proofs.Ytcmcljdecmbceaa.Ct
open Go.RowKit
set_option linter.unusedVariables false
set_option linter.unusedSimpArgs false
theorem own_lit2 {w : World} {k : IntKind} {E : TypeId} {base g : Nat} (xs : List Int) (hg : g = w.heap.size) (hb : base ≤ w.heap.size) (hm : xs.length ≤ 9223372036854775807) (hw : ∀ x ∈ xs, (Lit.int k x).wf = true) :
    Own k E (w.alloc (.cells (nums k xs).toArray E)) base (.slice (some ⟨g, 0, none⟩) xs.length xs.length) xs := hg ▸ own_lit xs hb hm hw
theorem own_e {w : World} {E : TypeId} {base g : Nat} (hg : g = w.heap.size) (hb : base ≤ w.heap.size) : Own .i64 E (w.alloc (.cells #[] E)) base (.slice (some ⟨g, 0, none⟩) 0 0) [] := own_lit2 [] hg hb (by decide) (by simp)
theorem own_1 {w : World} {E : TypeId} {base g : Nat} {y : Int} (hy : (Lit.int .i64 y).wf = true) (hg : g = w.heap.size) (hb : base ≤ w.heap.size) : Own .i64 E (w.alloc (.cells #[.int .i64 y] E)) base (.slice (some ⟨g, 0, none⟩) 1 1) [y] :=
  own_lit2 [y] hg hb (by simp) (by intro x hx; simp only [List.mem_cons, List.not_mem_nil, or_false] at hx; rw [hx]; exact hy)
theorem Own.rowX {k : IntKind} {E : TypeId} {w : World} {base : Nat} {a : Option Addr} {n c : Nat} {xs : List Int} (h : Own k E w base (.slice a n c) xs) : Row k w a xs := by
  obtain ⟨a', c', e, -, -, r, -⟩ := h.form
  injection e with e1 e2 e3
  subst e1
  exact r
def mayI (n m : Nat) (l v : Int) : Prop := 0 ≤ l ∧ l < m ∧ 0 ≤ v ∧ v < n
instance (n m : Nat) (l v : Int) : Decidable (mayI n m l v) := by unfold mayI; infer_instance
set_option maxHeartbeats 4000000 in
theorem rmay_calls (base C q qb n m : Nat) (r : Nat → List Nat) (l v : Int) (w : World) (h : RL base C w q qb n m r) :
    Calls Try.prog 31 #[.pointer (some ⟨q, 0, none⟩), .int .i64 l, .int .i64 v] w fun e w' => e = .returned (.bool (decide (mayI n m l v))) ∧ w = w' := by
  obtain ⟨c0, c1⟩ := h.c1
  clear h
  by_cases h1 : 0 ≤ l
  · by_cases h2 : l < m
    · by_cases h3 : 0 ≤ v
      · have E := Lib.hid (show decide (mayI n m l v) = decide (v < n) from decide_eq_decide.2 ⟨fun h => h.2.2.2, fun h => ⟨h1, h2, h3, h⟩⟩)
        go_enter Try.func31, Try.ntmps31
        go_wp2
        go_ret
        exact ⟨ret_bool (by rw [E.out]), rfl⟩
      · have E := Lib.hid (show decide (mayI n m l v) = false from decide_eq_false fun h => h3 h.2.2.1)
        go_enter Try.func31, Try.ntmps31
        go_wp2
        go_ret
        exact ⟨ret_bool (by rw [E.out]), rfl⟩
    · have E := Lib.hid (show decide (mayI n m l v) = false from decide_eq_false fun h => h2 h.2.1)
      go_enter Try.func31, Try.ntmps31
      go_wp2
      go_ret
      exact ⟨ret_bool (by rw [E.out]), rfl⟩
  · have E := Lib.hid (show decide (mayI n m l v) = false from decide_eq_false fun h => h1 h.1)
    go_enter Try.func31, Try.ntmps31
    go_wp2
    go_ret
    exact ⟨ret_bool (by rw [E.out]), rfl⟩
/-- what is in a row; nothing, if there is none. -/
def rowI (r : Nat → List Nat) (m : Nat) (l : Int) : List Nat := if 0 ≤ l ∧ l < m then r l.toNat else []
set_option maxHeartbeats 4000000 in
theorem rrow_calls (base C q qb n m : Nat) (r : Nat → List Nat) (l : Int) (w : World) (h : RL base C w q qb n m r) :
    Calls Try.prog 34 #[.pointer (some ⟨q, 0, none⟩), .int .i64 l] w fun e w' => ∃ a c, e = .returned (.slice a (rowI r m l).length c) ∧ Row .i64 w a (casts (rowI r m l)) ∧ Own .i64 3 w C (.slice a (rowI r m l).length c) (casts (rowI r m l)) ∧ w = w' := by
  obtain ⟨c0, c1⟩ := h.c1
  by_cases hl : 0 ≤ l ∧ l < m
  · obtain ⟨k, rfl⟩ : ∃ k : Nat, l = k := ⟨l.toNat, by omega⟩
    have e0 : rowI r m k = r k := by unfold rowI; rw [if_pos hl]; simp
    obtain ⟨a, c, hc, ho, hr, -⟩ := h.row (k := k) (by omega)
    rw [e0]
    have HO := Lib.hid ho
    have HR := Lib.hid hr
    have h1 : ¬ (k : Int) < 0 := by omega
    have h2 : ¬ (m : Int) ≤ k := by omega
    have h3 : (k : Int) < m := by omega
    clear h ho hr hl e0
    go_enter Try.func34, Try.ntmps34
    go_wp2
    go_ret
    exact ⟨a, c, rfl, HR.out, HO.out, rfl⟩
  · have e0 : rowI r m l = [] := by unfold rowI; rw [if_neg hl]
    rw [e0]
    have R := Lib.hid (show Row .i64 w none (casts []) from row_nil _ _)
    have O := Lib.hid (show Own .i64 3 w C (.slice none 0 0) (casts []) from own_nil _ _ _ _)
    by_cases h1 : l < 0
    · clear h hl e0
      go_enter Try.func34, Try.ntmps34
      go_wp2
      go_ret
      exact ⟨none, 0, rfl, R.out, O.out, rfl⟩
    · have h2 : (m : Int) ≤ l := by omega
      clear h hl e0
      go_enter Try.func34, Try.ntmps34
      go_wp2
      go_ret
      exact ⟨none, 0, rfl, R.out, O.out, rfl⟩
def pushI (r : Nat → List Nat) (k y : Nat) : Nat → List Nat := insR (remR r y) k (y :: remR r y k)
theorem remR_len (r : Nat → List Nat) (y k : Nat) : (remR r y k).length ≤ (r k).length := List.length_filter_le _ _
set_option maxHeartbeats 8000000 in
theorem rpush_ok (base C q qb n m k y : Nat) (r : Nat → List Nat) (w : World) (h : RL base C w q qb n m r) (hr : Rws n m r) (hm : m ≤ 1000) (hC : C ≤ w.heap.size) (hL : ∀ k, k < m → (r k).length ≤ 100000) (hk : k < m) (hy : y < n) (hn : n ≤ 100000) :
    Calls Try.prog 16 #[.pointer (some ⟨q, 0, none⟩), .int .i64 k, .int .i64 y] w fun e w' => e = .returned (.bool true) ∧ RL base C w' q qb n m (pushR r k y) ∧ Tch qb qb w w' := by
  have MC := Lib.hid (rmay_calls base C q qb n m r k y w h)
  rw [decide_eq_true (show mayI n m k y from ⟨by omega, by omega, by omega, by omega⟩)] at MC
  have RC := Lib.hid (rrem_calls base C q qb n m r y w h hr hm hC hL)
  have LL := Lib.hid (Nat.le_trans (remR_len r y k) (hL k hk))
  have hki : (k : Int) < m := by omega
  have HC := Lib.hid hC
  clear h hr hL hC
  go_enter Try.func16, Try.ntmps16
  go_upto_region 4 with (first
    | (go_at_call 31; (with_reducible refine (MC.out).mono ?_); rintro e w' ⟨rfl, rfl⟩)
    | (go_at_call 18; (with_reducible refine (RC.out).mono ?_); rintro e w1 ⟨b, rfl, -, h1, h2⟩; have H1 := Lib.hid h1; have H2 := Lib.hid h2; clear h1 h2))
  rw [remI_nat] at H1
  obtain ⟨a, c, hc, ho, hrow, hlc, hcm⟩ := H1.out.row hk
  have c1 := H1.out.c1.2
  have HRA := Lib.hid hrow
  have HO := Lib.hid ho
  have FZ := Lib.hid (fun W (hb : Below w1.heap.size w1 W) => (H1.out.below hb).frozen k)
  have SD := Lib.hid (fun W (hb : Below w1.heap.size w1 W) => (show W.cell? ⟨q, 1, none⟩ = some (.slice (some ⟨qb, 0, none⟩) m m) ∧ W.cell? ⟨qb, k, none⟩ = some (.slice a (remR r y k).length c) from ⟨bget hb c1, bget hb hc⟩))
  have HLL := Lib.hid (casts_length (remR r y k))
  have HY : Hid ((Lit.int .i64 (y : Int)).wf = true) := Lib.hid (i64wf ⟨by omega, by omega⟩)
  clear hc hrow ho
  obtain ⟨L, hL⟩ : ∃ L, (remR r y k).length = L := ⟨_, rfl⟩
  have HLD := Lib.hid hL
  rw [hL] at hlc SD
  clear hL
  have HB := Lib.hid (Below.refl w1.heap.size w1)
  refine region_Z 16 (S := (fun w' => w'.cell? ⟨q, 1, none⟩ = some (.slice (some ⟨qb, 0, none⟩) m m) ∧ w'.cell? ⟨qb, k, none⟩ = some (.slice a L c))) (by kernel_rfl) ?_ (fun hHeld => ?_)
  · (try dsimp only); (exact SD.out _ (by repeat (first | with_reducible exact HB.out | with_reducible apply below_alloc | with_reducible apply below_drew)))
  refine takeZ_w (i := 0) (some 15) (v := ?_) rfl (by rfl) (by decide) (by kernel_rfl) (by kernel_rfl) (by kernel_rfl) (by kernel_rfl) (fun _ _ _ h => h) (by rfl) hHeld ?_ ?_
  rotate_left
  · intro w hSw; (try dsimp only at hSw); (first | (go_simp; done) | (go_simp; with_reducible rfl))
  try simp only [Act.put, List.setIfInBounds_toArray, List.set_cons_zero, List.set_cons_succ]
  refine takeZ_w (i := 1) (some 16) (v := ?_) rfl (by rfl) (by decide) (by kernel_rfl) (by kernel_rfl) (by kernel_rfl) (by kernel_rfl) (fun _ _ _ h => h) (by rfl) hHeld ?_ ?_
  rotate_left
  · intro w hSw; (try dsimp only at hSw); (first | (go_simp; done) | (go_simp; with_reducible rfl))
  try simp only [Act.put, List.setIfInBounds_toArray, List.set_cons_zero, List.set_cons_succ]
  refine takeZ_w (i := 2) (some 17) (v := ?_) rfl (by rfl) (by decide) (by kernel_rfl) (by kernel_rfl) (by kernel_rfl) (by kernel_rfl) (fun _ _ _ h => h) (by rfl) hHeld ?_ ?_
  rotate_left
  · intro w hSw; (try dsimp only at hSw); (first | (go_simp; done) | (go_simp; with_reducible rfl))
  try simp only [Act.put, List.setIfInBounds_toArray, List.set_cons_zero, List.set_cons_succ]
  refine takeZ_w (i := 3) (some 18) (v := ?_) rfl (by rfl) (by decide) (by kernel_rfl) (by kernel_rfl) (by kernel_rfl) (by kernel_rfl) (fun _ _ _ h => h) (by rfl) hHeld ?_ ?_
  rotate_left
  · intro w hSw; (try dsimp only at hSw); (first | (go_simp; done) | (go_simp; with_reducible rfl))
  try simp only [Act.put, List.setIfInBounds_toArray, List.set_cons_zero, List.set_cons_succ]
  refine takeZ_w (i := 4) (some 19) (v := ?_) rfl (by rfl) (by decide) (by kernel_rfl) (by kernel_rfl) (by kernel_rfl) (by kernel_rfl) (fun _ _ _ h => h) (by rfl) hHeld ?_ ?_
  rotate_left
  · intro w hSw; (try dsimp only at hSw); (first | (go_simp; done) | (go_simp; with_reducible rfl))
  try simp only [Act.put, List.setIfInBounds_toArray, List.set_cons_zero, List.set_cons_succ]
  refine takeZ_w (i := 5) (some 20) (v := ?_) rfl (by rfl) (by decide) (by kernel_rfl) (by kernel_rfl) (by kernel_rfl) (by kernel_rfl) (fun _ _ _ h => h) (by rfl) hHeld ?_ ?_
  rotate_left
  · intro w hSw; (try dsimp only at hSw); (first | (go_simp; done) | (go_simp; with_reducible rfl))
  try simp only [Act.put, List.setIfInBounds_toArray, List.set_cons_zero, List.set_cons_succ]
  refine takeZ_w (i := 7) (some 22) (v := ?_) rfl (by rfl) (by decide) (by kernel_rfl) (by kernel_rfl) (by kernel_rfl) (by kernel_rfl) (fun _ _ _ h => h) (by rfl) hHeld ?_ ?_
  rotate_left
  · intro w hSw; (try dsimp only at hSw); (first | (go_simp; done) | (go_simp; with_reducible rfl))
  try simp only [Act.put, List.setIfInBounds_toArray, List.set_cons_zero, List.set_cons_succ]
  refine takeZ_w (i := 8) (some 23) (v := ?_) rfl (by rfl) (by decide) (by kernel_rfl) (by kernel_rfl) (by kernel_rfl) (by kernel_rfl) (fun _ _ _ h => h) (by rfl) hHeld ?_ ?_
  rotate_left
  · intro w hSw; (try dsimp only at hSw); (first | (go_simp; done) | (go_simp; with_reducible rfl))
  try simp only [Act.put, List.setIfInBounds_toArray, List.set_cons_zero, List.set_cons_succ]
  refine takeZ_w (i := 9) (some 24) (v := ?_) rfl (by rfl) (by decide) (by kernel_rfl) (by kernel_rfl) (by kernel_rfl) (by kernel_rfl) (fun _ _ _ h => h) (by rfl) hHeld ?_ ?_
  rotate_left
  · intro w hSw; (try dsimp only at hSw); (first | (go_simp; done) | (go_simp; with_reducible rfl))
  try simp only [Act.put, List.setIfInBounds_toArray, List.set_cons_zero, List.set_cons_succ]
  refine takeZ_w (i := 10) (some 25) (v := ?_) rfl (by rfl) (by decide) (by kernel_rfl) (by kernel_rfl) (by kernel_rfl) (by kernel_rfl) (fun _ _ _ h => h) (by rfl) hHeld ?_ ?_
  rotate_left
  · intro w hSw; (try dsimp only at hSw); (first | (go_simp; done) | (go_simp; with_reducible rfl))
  try simp only [Act.put, List.setIfInBounds_toArray, List.set_cons_zero, List.set_cons_succ]
  refine takeZ_w (i := 11) (some 26) (v := ?_) rfl (by rfl) (by decide) (by kernel_rfl) (by kernel_rfl) (by kernel_rfl) (by kernel_rfl) (fun _ _ _ h => h) (by rfl) hHeld ?_ ?_
  rotate_left
  · intro w hSw; (try dsimp only at hSw); (first | (go_simp; done) | (go_simp; with_reducible rfl))
  try simp only [Act.put, List.setIfInBounds_toArray, List.set_cons_zero, List.set_cons_succ]
  refine takeZ_w (i := 12) (some 27) (v := ?_) rfl (by rfl) (by decide) (by kernel_rfl) (by kernel_rfl) (by kernel_rfl) (by kernel_rfl) (fun _ _ _ h => h) (by rfl) hHeld ?_ ?_
  rotate_left
  · intro w hSw; (try dsimp only at hSw); (first | (go_simp; done) | (go_simp; with_reducible rfl))
  try simp only [Act.put, List.setIfInBounds_toArray, List.set_cons_zero, List.set_cons_succ]
  refine takeZ_w (i := 13) (some 28) (v := ?_) rfl (by rfl) (by decide) (by kernel_rfl) (by kernel_rfl) (by kernel_rfl) (by kernel_rfl) (fun _ _ _ h => h) (by rfl) hHeld ?_ ?_
  rotate_left
  · intro w hSw; (try dsimp only at hSw); (first | (go_simp; done) | (go_simp; with_reducible rfl))
  try simp only [Act.put, List.setIfInBounds_toArray, List.set_cons_zero, List.set_cons_succ]
  refine oneZ (i := 6) (by kernel_rfl) rfl (by rfl) (fun K hK => ?_)
  unfold Oper.wp
  go_simp
  refine hK.out _ _ ?_ (fun hHeld2 => ?_)
  · (try dsimp only); (exact SD.out _ (by repeat (first | with_reducible exact HB.out | with_reducible apply below_alloc | with_reducible apply below_drew)))
  clear hK K hHeld; have hHeld := hHeld2; clear hHeld2
  try simp only [Act.put, List.setIfInBounds_toArray, List.set_cons_zero, List.set_cons_succ]
  refine oneZ (i := 14) (by kernel_rfl) rfl (by rfl) (fun K hK => ?_)
  refine opwp_appr 30 3 .i64 8 Try.underlying30 infoI (.tmp 21) (.tmp 28) (by rfl) w1.heap.size _ [(y : Int)] (casts (remR r y k)) (by repeat (first | exact own_1 HY.out (by first | rfl | (simp; done)) (Nat.le_refl _) | with_reducible apply Own.alloc | with_reducible apply Own.drew)) (by rfl) _ _ (by rw [HLL.out, HLD.out]; rfl) (HRA.out.below (by repeat (first | with_reducible exact HB.out | with_reducible apply below_alloc | with_reducible apply below_drew))) (by have := LL.out; have := HLL.out; have := HLD.out; simp; omega) (by decide) (by first | exact HB.out.size | (have := HB.out.size; simp; done) | (have := HB.out.size; simp; omega)) ?_
  intro v2 w2 ho2 hg2
  have hb2 := Below.app (by repeat (first | with_reducible exact HB.out | with_reducible apply below_alloc | with_reducible apply below_drew)) hg2 (by repeat (first | exact own_1 HY.out (by first | rfl | (simp; done)) (Nat.le_refl _) | with_reducible apply Own.alloc | with_reducible apply Own.drew)) (Nat.le_refl _) (by first | exact HB.out.size | (have := HB.out.size; simp; done) | (have := HB.out.size; simp; omega))
  obtain ⟨a2, c2, hv2, -, -, -, -⟩ := ho2.form
  subst hv2
  have HO := Lib.hid ho2; have HB := Lib.hid hb2; clear ho2 hb2 hg2
  refine hK.out _ _ ?_ (fun hHeld2 => ?_)
  · (try dsimp only); (exact SD.out _ (by repeat (first | with_reducible exact HB.out | with_reducible apply below_alloc | with_reducible apply below_drew)))
  clear hK K hHeld; have hHeld := hHeld2; clear hHeld2
  try simp only [Act.put, List.setIfInBounds_toArray, List.set_cons_zero, List.set_cons_succ]
  refine takeZ_w (i := 15) (some 30) (v := ?_) rfl (by rfl) (by decide) (by kernel_rfl) (by kernel_rfl) (by kernel_rfl) (by kernel_rfl) (fun _ _ _ h => h) (by rfl) hHeld ?_ ?_
  rotate_left
  · intro w hSw; (try dsimp only at hSw); (first | (go_simp; done) | (go_simp; with_reducible rfl))
  try simp only [Act.put, List.setIfInBounds_toArray, List.set_cons_zero, List.set_cons_succ]
  refine lastZ (by kernel_rfl) rfl (by rfl) (fun K hK => ?_)
  have fz := FZ.out _ HB.out
  unfold Oper.wp
  go_simp
  refine hK.out _ _ ?_
  clear hK K hHeld
  try simp only [Act.put, List.setIfInBounds_toArray, List.set_cons_zero, List.set_cons_succ]
  refine doneZ (by kernel_rfl) ?_ _
  go_wp2
  go_ret
  refine ⟨rfl, RL.put H1.out HB.out hk (r' := pushR r k y) (b := w1.heap.size) ?_ (Nat.le_trans HC.out H2.out.size) (fun j hj hne => ?_), H2.out.trans ((Tch.of_below HB.out).set_ (p := ⟨qb, k, none⟩) (.inl rfl) _)⟩
  · have := HO.out; have e : casts (pushR r k y k) = [(y : Int)] ++ casts (remR r y k) := by (unfold pushR insR; rw [if_pos rfl]; rfl)
    rw [e]; simpa using this
  · unfold pushR insR; rw [if_neg hne]
set_option maxHeartbeats 8000000 in
theorem rapp_ok (base C q qb n m k y : Nat) (r : Nat → List Nat) (w : World) (h : RL base C w q qb n m r) (hr : Rws n m r) (hm : m ≤ 1000) (hC : C ≤ w.heap.size) (hL : ∀ k, k < m → (r k).length ≤ 100000) (hk : k < m) (hy : y < n) (hn : n ≤ 100000) :
    Calls Try.prog 17 #[.pointer (some ⟨q, 0, none⟩), .int .i64 k, .int .i64 y] w fun e w' => e = .returned (.bool true) ∧ RL base C w' q qb n m (appR r k y) ∧ Tch qb qb w w' := by
  have MC := Lib.hid (rmay_calls base C q qb n m r k y w h)
  rw [decide_eq_true (show mayI n m k y from ⟨by omega, by omega, by omega, by omega⟩)] at MC
  have RC := Lib.hid (rrem_calls base C q qb n m r y w h hr hm hC hL)
  have LL := Lib.hid (Nat.le_trans (remR_len r y k) (hL k hk))
  have hki : (k : Int) < m := by omega
  have HC := Lib.hid hC
  clear h hr hL hC
  go_enter Try.func17, Try.ntmps17
  go_upto_region 4 with (first
    | (go_at_call 31; (with_reducible refine (MC.out).mono ?_); rintro e w' ⟨rfl, rfl⟩)
    | (go_at_call 18; (with_reducible refine (RC.out).mono ?_); rintro e w1 ⟨b, rfl, -, h1, h2⟩; have H1 := Lib.hid h1; have H2 := Lib.hid h2; clear h1 h2))
  rw [remI_nat] at H1
  obtain ⟨a, c, hc, ho, hrow, hlc, hcm⟩ := H1.out.row hk
  have c1 := H1.out.c1.2
  have HRA := Lib.hid hrow
  have HO := Lib.hid ho
  have FZ := Lib.hid (fun W (hb : Below w1.heap.size w1 W) => (H1.out.below hb).frozen k)
  have SD := Lib.hid (fun W (hb : Below w1.heap.size w1 W) => (show W.cell? ⟨q, 1, none⟩ = some (.slice (some ⟨qb, 0, none⟩) m m) ∧ W.cell? ⟨qb, k, none⟩ = some (.slice a (remR r y k).length c) from ⟨bget hb c1, bget hb hc⟩))
  have HLL := Lib.hid (casts_length (remR r y k))
  have HY : Hid ((Lit.int .i64 (y : Int)).wf = true) := Lib.hid (i64wf ⟨by omega, by omega⟩)
  clear hc hrow ho
  obtain ⟨L, hL⟩ : ∃ L, (remR r y k).length = L := ⟨_, rfl⟩
  have HLD := Lib.hid hL
  rw [hL] at hlc SD
  clear hL
  have HB := Lib.hid (Below.refl w1.heap.size w1)
  refine region_Z 18 (S := (fun w' => w'.cell? ⟨q, 1, none⟩ = some (.slice (some ⟨qb, 0, none⟩) m m) ∧ w'.cell? ⟨qb, k, none⟩ = some (.slice a L c))) (by kernel_rfl) ?_ (fun hHeld => ?_)
  · (try dsimp only); (exact SD.out _ (by repeat (first | with_reducible exact HB.out | with_reducible apply below_alloc | with_reducible apply below_drew)))
  refine takeZ_w (i := 0) (some 15) (v := ?_) rfl (by rfl) (by decide) (by kernel_rfl) (by kernel_rfl) (by kernel_rfl) (by kernel_rfl) (fun _ _ _ h => h) (by rfl) hHeld ?_ ?_
  rotate_left
  · intro w hSw; (try dsimp only at hSw); (first | (go_simp; done) | (go_simp; with_reducible rfl))
  try simp only [Act.put, List.setIfInBounds_toArray, List.set_cons_zero, List.set_cons_succ]
  refine takeZ_w (i := 1) (some 16) (v := ?_) rfl (by rfl) (by decide) (by kernel_rfl) (by kernel_rfl) (by kernel_rfl) (by kernel_rfl) (fun _ _ _ h => h) (by rfl) hHeld ?_ ?_
  rotate_left
  · intro w hSw; (try dsimp only at hSw); (first | (go_simp; done) | (go_simp; with_reducible rfl))
  try simp only [Act.put, List.setIfInBounds_toArray, List.set_cons_zero, List.set_cons_succ]
  refine takeZ_w (i := 2) (some 17) (v := ?_) rfl (by rfl) (by decide) (by kernel_rfl) (by kernel_rfl) (by kernel_rfl) (by kernel_rfl) (fun _ _ _ h => h) (by rfl) hHeld ?_ ?_
  rotate_left
  · intro w hSw; (try dsimp only at hSw); (first | (go_simp; done) | (go_simp; with_reducible rfl))
  try simp only [Act.put, List.setIfInBounds_toArray, List.set_cons_zero, List.set_cons_succ]
  refine takeZ_w (i := 3) (some 18) (v := ?_) rfl (by rfl) (by decide) (by kernel_rfl) (by kernel_rfl) (by kernel_rfl) (by kernel_rfl) (fun _ _ _ h => h) (by rfl) hHeld ?_ ?_
  rotate_left
  · intro w hSw; (try dsimp only at hSw); (first | (go_simp; done) | (go_simp; with_reducible rfl))
  try simp only [Act.put, List.setIfInBounds_toArray, List.set_cons_zero, List.set_cons_succ]
  refine takeZ_w (i := 4) (some 19) (v := ?_) rfl (by rfl) (by decide) (by kernel_rfl) (by kernel_rfl) (by kernel_rfl) (by kernel_rfl) (fun _ _ _ h => h) (by rfl) hHeld ?_ ?_
  rotate_left
  · intro w hSw; (try dsimp only at hSw); (first | (go_simp; done) | (go_simp; with_reducible rfl))
  try simp only [Act.put, List.setIfInBounds_toArray, List.set_cons_zero, List.set_cons_succ]
  refine takeZ_w (i := 6) (some 21) (v := ?_) rfl (by rfl) (by decide) (by kernel_rfl) (by kernel_rfl) (by kernel_rfl) (by kernel_rfl) (fun _ _ _ h => h) (by rfl) hHeld ?_ ?_
  rotate_left
  · intro w hSw; (try dsimp only at hSw); (first | (go_simp; done) | (go_simp; with_reducible rfl))
  try simp only [Act.put, List.setIfInBounds_toArray, List.set_cons_zero, List.set_cons_succ]
  refine takeZ_w (i := 7) (some 22) (v := ?_) rfl (by rfl) (by decide) (by kernel_rfl) (by kernel_rfl) (by kernel_rfl) (by kernel_rfl) (fun _ _ _ h => h) (by rfl) hHeld ?_ ?_
  rotate_left
  · intro w hSw; (try dsimp only at hSw); (first | (go_simp; done) | (go_simp; with_reducible rfl))
  try simp only [Act.put, List.setIfInBounds_toArray, List.set_cons_zero, List.set_cons_succ]
  refine takeZ_w (i := 8) (some 23) (v := ?_) rfl (by rfl) (by decide) (by kernel_rfl) (by kernel_rfl) (by kernel_rfl) (by kernel_rfl) (fun _ _ _ h => h) (by rfl) hHeld ?_ ?_
  rotate_left
  · intro w hSw; (try dsimp only at hSw); (first | (go_simp; done) | (go_simp; with_reducible rfl))
  try simp only [Act.put, List.setIfInBounds_toArray, List.set_cons_zero, List.set_cons_succ]
  refine takeZ_w (i := 9) (some 24) (v := ?_) rfl (by rfl) (by decide) (by kernel_rfl) (by kernel_rfl) (by kernel_rfl) (by kernel_rfl) (fun _ _ _ h => h) (by rfl) hHeld ?_ ?_
  rotate_left
  · intro w hSw; (try dsimp only at hSw); (first | (go_simp; done) | (go_simp; with_reducible rfl))
  try simp only [Act.put, List.setIfInBounds_toArray, List.set_cons_zero, List.set_cons_succ]
  refine takeZ_w (i := 10) (some 25) (v := ?_) rfl (by rfl) (by decide) (by kernel_rfl) (by kernel_rfl) (by kernel_rfl) (by kernel_rfl) (fun _ _ _ h => h) (by rfl) hHeld ?_ ?_
  rotate_left
  · intro w hSw; (try dsimp only at hSw); (first | (go_simp; done) | (go_simp; with_reducible rfl))
  try simp only [Act.put, List.setIfInBounds_toArray, List.set_cons_zero, List.set_cons_succ]
  refine takeZ_w (i := 11) (some 26) (v := ?_) rfl (by rfl) (by decide) (by kernel_rfl) (by kernel_rfl) (by kernel_rfl) (by kernel_rfl) (fun _ _ _ h => h) (by rfl) hHeld ?_ ?_
  rotate_left
  · intro w hSw; (try dsimp only at hSw); (first | (go_simp; done) | (go_simp; with_reducible rfl))
  try simp only [Act.put, List.setIfInBounds_toArray, List.set_cons_zero, List.set_cons_succ]
  refine takeZ_w (i := 12) (some 27) (v := ?_) rfl (by rfl) (by decide) (by kernel_rfl) (by kernel_rfl) (by kernel_rfl) (by kernel_rfl) (fun _ _ _ h => h) (by rfl) hHeld ?_ ?_
  rotate_left
  · intro w hSw; (try dsimp only at hSw); (first | (go_simp; done) | (go_simp; with_reducible rfl))
  try simp only [Act.put, List.setIfInBounds_toArray, List.set_cons_zero, List.set_cons_succ]
  refine takeZ_w (i := 14) (some 29) (v := ?_) rfl (by rfl) (by decide) (by kernel_rfl) (by kernel_rfl) (by kernel_rfl) (by kernel_rfl) (fun _ _ _ h => h) (by rfl) hHeld ?_ ?_
  rotate_left
  · intro w hSw; (try dsimp only at hSw); (first | (go_simp; done) | (go_simp; with_reducible rfl))
  try simp only [Act.put, List.setIfInBounds_toArray, List.set_cons_zero, List.set_cons_succ]
  refine twoZ (i := 5) (j := 15) (by kernel_rfl) rfl rfl (by rfl) (by rfl) (fun K hK => ?_) (fun K hK => ?_)
  · unfold Oper.wp
    go_simp
    refine hK.out _ _ ?_ (fun hHeld2 => ?_)
    · (try dsimp only); (exact SD.out _ (by repeat (first | with_reducible exact HB.out | with_reducible apply below_alloc | with_reducible apply below_drew)))
    clear hK K hHeld; have hHeld := hHeld2; clear hHeld2
    try simp only [Act.put, List.setIfInBounds_toArray, List.set_cons_zero, List.set_cons_succ]
    refine twoZ (i := 13) (j := 15) (by kernel_rfl) rfl rfl (by rfl) (by rfl) (fun K hK => ?_) (fun K hK => ?_)
    · refine opwp_appr 30 3 .i64 8 Try.underlying30 infoI (.tmp 20) (.tmp 27) (by rfl) w1.heap.size (.slice (some ⟨w1.heap.size, 0, none⟩) 0 0) [] (casts (remR r y k)) (by repeat (first | exact HO.out | exact own_e (by first | rfl | (simp; done)) (by first | exact HB.out.size | (have := HB.out.size; simp; done) | (have := HB.out.size; simp; omega)) | with_reducible apply Own.alloc | with_reducible apply Own.drew)) (by rfl) _ _ (by rw [HLL.out, HLD.out]; rfl) (HRA.out.below (by repeat (first | with_reducible exact HB.out | with_reducible apply below_alloc | with_reducible apply below_drew))) (by have := LL.out; have := HLL.out; have := HLD.out; simp; omega) (by decide) (by first | exact HB.out.size | (have := HB.out.size; simp; done) | (have := HB.out.size; simp; omega)) ?_
      intro v2 w2 ho2 hg2
      have hb2 := Below.app (by repeat (first | with_reducible exact HB.out | with_reducible apply below_alloc | with_reducible apply below_drew)) hg2 (by repeat (first | exact HO.out | exact own_e (by first | rfl | (simp; done)) (by first | exact HB.out.size | (have := HB.out.size; simp; done) | (have := HB.out.size; simp; omega)) | with_reducible apply Own.alloc | with_reducible apply Own.drew)) (Nat.le_refl _) (by first | exact HB.out.size | (have := HB.out.size; simp; done) | (have := HB.out.size; simp; omega))
      obtain ⟨a2, c2, hv2, -, -, -, -⟩ := ho2.form
      subst hv2
      have HO := Lib.hid ho2; have HB := Lib.hid hb2; clear ho2 hb2 hg2
      refine hK.out _ _ ?_ (fun hHeld2 => ?_)
      · (try dsimp only); (exact SD.out _ (by repeat (first | with_reducible exact HB.out | with_reducible apply below_alloc | with_reducible apply below_drew)))
      clear hK K hHeld; have hHeld := hHeld2; clear hHeld2
      try simp only [Act.put, List.setIfInBounds_toArray, List.set_cons_zero, List.set_cons_succ]
      refine oneZ (i := 15) (by kernel_rfl) rfl (by rfl) (fun K hK => ?_)
      unfold Oper.wp
      go_simp
      refine hK.out _ _ ?_ (fun hHeld2 => ?_)
      · (try dsimp only); (exact SD.out _ (by repeat (first | with_reducible exact HB.out | with_reducible apply below_alloc | with_reducible apply below_drew)))
      clear hK K hHeld; have hHeld := hHeld2; clear hHeld2
      try simp only [Act.put, List.setIfInBounds_toArray, List.set_cons_zero, List.set_cons_succ]
      refine oneZ (i := 16) (by kernel_rfl) rfl (by rfl) (fun K hK => ?_)
      refine opwp_appr 30 3 .i64 8 Try.underlying30 infoI (.tmp 28) (.tmp 30) (by rfl) w1.heap.size _ ([] ++ (casts (remR r y k))) [(y : Int)] (by repeat (first | exact HO.out | exact own_e (by first | rfl | (simp; done)) (by first | exact HB.out.size | (have := HB.out.size; simp; done) | (have := HB.out.size; simp; omega)) | with_reducible apply Own.alloc | with_reducible apply Own.drew)) (by rfl) _ _ (by rfl) (Own.rowX (base := w1.heap.size) (E := 3) (n := 1) (c := 1) (by repeat (first | with_reducible exact HV.out | exact own_1 HY.out (by first | rfl | (simp; done)) (by first | exact HB.out.size | (have := HB.out.size; simp; done) | (have := HB.out.size; simp; omega)) | with_reducible apply Own.alloc | with_reducible apply Own.drew))) (by have := LL.out; have := HLL.out; have := HLD.out; simp; omega) (by decide) (by first | exact HB.out.size | (have := HB.out.size; simp; done) | (have := HB.out.size; simp; omega)) ?_
      intro v2 w2 ho2 hg2
      have hb2 := Below.app (by repeat (first | with_reducible exact HB.out | with_reducible apply below_alloc | with_reducible apply below_drew)) hg2 (by repeat (first | exact HO.out | exact own_e (by first | rfl | (simp; done)) (by first | exact HB.out.size | (have := HB.out.size; simp; done) | (have := HB.out.size; simp; omega)) | with_reducible apply Own.alloc | with_reducible apply Own.drew)) (Nat.le_refl _) (by first | exact HB.out.size | (have := HB.out.size; simp; done) | (have := HB.out.size; simp; omega))
      obtain ⟨a2, c2, hv2, -, -, -, -⟩ := ho2.form
      subst hv2
      have HO := Lib.hid ho2; have HB := Lib.hid hb2; clear ho2 hb2 hg2
      refine hK.out _ _ ?_ (fun hHeld2 => ?_)
      · (try dsimp only); (exact SD.out _ (by repeat (first | with_reducible exact HB.out | with_reducible apply below_alloc | with_reducible apply below_drew)))
      clear hK K hHeld; have hHeld := hHeld2; clear hHeld2
      try simp only [Act.put, List.setIfInBounds_toArray, List.set_cons_zero, List.set_cons_succ]
      refine takeZ_w (i := 17) (some 32) (v := ?_) rfl (by rfl) (by decide) (by kernel_rfl) (by kernel_rfl) (by kernel_rfl) (by kernel_rfl) (fun _ _ _ h => h) (by rfl) hHeld ?_ ?_
      rotate_left
      · intro w hSw; (try dsimp only at hSw); (first | (go_simp; done) | (go_simp; with_reducible rfl))
      try simp only [Act.put, List.setIfInBounds_toArray, List.set_cons_zero, List.set_cons_succ]
      refine lastZ (by kernel_rfl) rfl (by rfl) (fun K hK => ?_)
      have fz := FZ.out _ HB.out
      unfold Oper.wp
      go_simp
      refine hK.out _ _ ?_
      clear hK K hHeld
      try simp only [Act.put, List.setIfInBounds_toArray, List.set_cons_zero, List.set_cons_succ]
      refine doneZ (by kernel_rfl) ?_ _
      go_wp2
      go_ret
      refine ⟨rfl, RL.put H1.out HB.out hk (r' := appR r k y) (b := w1.heap.size) ?_ (Nat.le_trans HC.out H2.out.size) (fun j hj hne => ?_), H2.out.trans ((Tch.of_below HB.out).set_ (p := ⟨qb, k, none⟩) (.inl rfl) _)⟩
      · have := HO.out; have e : casts (appR r k y k) = casts (remR r y k) ++ [(y : Int)] := by (unfold appR insR; rw [if_pos rfl]; unfold casts; rw [List.map_append]; rfl)
        rw [e]; simpa using this
      · unfold appR insR; rw [if_neg hne]
    · unfold Oper.wp
      go_simp
      refine hK.out _ _ ?_ (fun hHeld2 => ?_)
      · (try dsimp only); (exact SD.out _ (by repeat (first | with_reducible exact HB.out | with_reducible apply below_alloc | with_reducible apply below_drew)))
      clear hK K hHeld; have hHeld := hHeld2; clear hHeld2
      try simp only [Act.put, List.setIfInBounds_toArray, List.set_cons_zero, List.set_cons_succ]
      refine oneZ (i := 13) (by kernel_rfl) rfl (by rfl) (fun K hK => ?_)
      refine opwp_appr 30 3 .i64 8 Try.underlying30 infoI (.tmp 20) (.tmp 27) (by rfl) w1.heap.size (.slice (some ⟨w1.heap.size, 0, none⟩) 0 0) [] (casts (remR r y k)) (by repeat (first | exact HO.out | exact own_e (by first | rfl | (simp; done)) (by first | exact HB.out.size | (have := HB.out.size; simp; done) | (have := HB.out.size; simp; omega)) | with_reducible apply Own.alloc | with_reducible apply Own.drew)) (by rfl) _ _ (by rw [HLL.out, HLD.out]; rfl) (HRA.out.below (by repeat (first | with_reducible exact HB.out | with_reducible apply below_alloc | with_reducible apply below_drew))) (by have := LL.out; have := HLL.out; have := HLD.out; simp; omega) (by decide) (by first | exact HB.out.size | (have := HB.out.size; simp; done) | (have := HB.out.size; simp; omega)) ?_
      intro v2 w2 ho2 hg2
      have hb2 := Below.app (by repeat (first | with_reducible exact HB.out | with_reducible apply below_alloc | with_reducible apply below_drew)) hg2 (by repeat (first | exact HO.out | exact own_e (by first | rfl | (simp; done)) (by first | exact HB.out.size | (have := HB.out.size; simp; done) | (have := HB.out.size; simp; omega)) | with_reducible apply Own.alloc | with_reducible apply Own.drew)) (Nat.le_refl _) (by first | exact HB.out.size | (have := HB.out.size; simp; done) | (have := HB.out.size; simp; omega))
      obtain ⟨a2, c2, hv2, -, -, -, -⟩ := ho2.form
      subst hv2
      have HV := Lib.hid (Own.kept (k := .i64) (E := 3) (base := w1.heap.size) (v := .slice (some ⟨w1.heap.size + 1, 0, none⟩) 1 1) (xs := [(y : Int)]) (by repeat (first | exact own_1 HY.out (by first | rfl | (simp; done)) (by first | exact Nat.le_refl _ | (simp; done)) | with_reducible apply Own.alloc | with_reducible apply Own.drew)) hg2 (by simp [Value.ownBlock]))
      have HO := Lib.hid ho2; have HB := Lib.hid hb2; clear ho2 hb2 hg2
      refine hK.out _ _ ?_ (fun hHeld2 => ?_)
      · (try dsimp only); (exact SD.out _ (by repeat (first | with_reducible exact HB.out | with_reducible apply below_alloc | with_reducible apply below_drew)))
      clear hK K hHeld; have hHeld := hHeld2; clear hHeld2
      try simp only [Act.put, List.setIfInBounds_toArray, List.set_cons_zero, List.set_cons_succ]
      refine oneZ (i := 16) (by kernel_rfl) rfl (by rfl) (fun K hK => ?_)
      refine opwp_appr 30 3 .i64 8 Try.underlying30 infoI (.tmp 28) (.tmp 30) (by rfl) w1.heap.size _ ([] ++ (casts (remR r y k))) [(y : Int)] (by repeat (first | exact HO.out | exact own_e (by first | rfl | (simp; done)) (by first | exact HB.out.size | (have := HB.out.size; simp; done) | (have := HB.out.size; simp; omega)) | with_reducible apply Own.alloc | with_reducible apply Own.drew)) (by rfl) _ _ (by rfl) (Own.rowX (base := w1.heap.size) (E := 3) (n := 1) (c := 1) (by repeat (first | with_reducible exact HV.out | exact own_1 HY.out (by first | rfl | (simp; done)) (by first | exact HB.out.size | (have := HB.out.size; simp; done) | (have := HB.out.size; simp; omega)) | with_reducible apply Own.alloc | with_reducible apply Own.drew))) (by have := LL.out; have := HLL.out; have := HLD.out; simp; omega) (by decide) (by first | exact HB.out.size | (have := HB.out.size; simp; done) | (have := HB.out.size; simp; omega)) ?_
      intro v2 w2 ho2 hg2
      have hb2 := Below.app (by repeat (first | with_reducible exact HB.out | with_reducible apply below_alloc | with_reducible apply below_drew)) hg2 (by repeat (first | exact HO.out | exact own_e (by first | rfl | (simp; done)) (by first | exact HB.out.size | (have := HB.out.size; simp; done) | (have := HB.out.size; simp; omega)) | with_reducible apply Own.alloc | with_reducible apply Own.drew)) (Nat.le_refl _) (by first | exact HB.out.size | (have := HB.out.size; simp; done) | (have := HB.out.size; simp; omega))
      obtain ⟨a2, c2, hv2, -, -, -, -⟩ := ho2.form
      subst hv2
      have HO := Lib.hid ho2; have HB := Lib.hid hb2; clear ho2 hb2 hg2
      refine hK.out _ _ ?_ (fun hHeld2 => ?_)
      · (try dsimp only); (exact SD.out _ (by repeat (first | with_reducible exact HB.out | with_reducible apply below_alloc | with_reducible apply below_drew)))
      clear hK K hHeld; have hHeld := hHeld2; clear hHeld2
      try simp only [Act.put, List.setIfInBounds_toArray, List.set_cons_zero, List.set_cons_succ]
      refine takeZ_w (i := 17) (some 32) (v := ?_) rfl (by rfl) (by decide) (by kernel_rfl) (by kernel_rfl) (by kernel_rfl) (by kernel_rfl) (fun _ _ _ h => h) (by rfl) hHeld ?_ ?_
      rotate_left
      · intro w hSw; (try dsimp only at hSw); (first | (go_simp; done) | (go_simp; with_reducible rfl))
      try simp only [Act.put, List.setIfInBounds_toArray, List.set_cons_zero, List.set_cons_succ]
      refine lastZ (by kernel_rfl) rfl (by rfl) (fun K hK => ?_)
      have fz := FZ.out _ HB.out
      unfold Oper.wp
      go_simp
      refine hK.out _ _ ?_
      clear hK K hHeld
      try simp only [Act.put, List.setIfInBounds_toArray, List.set_cons_zero, List.set_cons_succ]
      refine doneZ (by kernel_rfl) ?_ _
      go_wp2
      go_ret
      refine ⟨rfl, RL.put H1.out HB.out hk (r' := appR r k y) (b := w1.heap.size) ?_ (Nat.le_trans HC.out H2.out.size) (fun j hj hne => ?_), H2.out.trans ((Tch.of_below HB.out).set_ (p := ⟨qb, k, none⟩) (.inl rfl) _)⟩
      · have := HO.out; have e : casts (appR r k y k) = casts (remR r y k) ++ [(y : Int)] := by (unfold appR insR; rw [if_pos rfl]; unfold casts; rw [List.map_append]; rfl)
        rw [e]; simpa using this
      · unfold appR insR; rw [if_neg hne]
  · unfold Oper.wp
    go_simp
    refine hK.out _ _ ?_ (fun hHeld2 => ?_)
    · (try dsimp only); (exact SD.out _ (by repeat (first | with_reducible exact HB.out | with_reducible apply below_alloc | with_reducible apply below_drew)))
    clear hK K hHeld; have hHeld := hHeld2; clear hHeld2
    try simp only [Act.put, List.setIfInBounds_toArray, List.set_cons_zero, List.set_cons_succ]
    refine oneZ (i := 5) (by kernel_rfl) rfl (by rfl) (fun K hK => ?_)
    unfold Oper.wp
    go_simp
    refine hK.out _ _ ?_ (fun hHeld2 => ?_)
    · (try dsimp only); (exact SD.out _ (by repeat (first | with_reducible exact HB.out | with_reducible apply below_alloc | with_reducible apply below_drew)))
    clear hK K hHeld; have hHeld := hHeld2; clear hHeld2
    try simp only [Act.put, List.setIfInBounds_toArray, List.set_cons_zero, List.set_cons_succ]
    refine oneZ (i := 13) (by kernel_rfl) rfl (by rfl) (fun K hK => ?_)
    refine opwp_appr 30 3 .i64 8 Try.underlying30 infoI (.tmp 20) (.tmp 27) (by rfl) w1.heap.size (.slice (some ⟨w1.heap.size + 1, 0, none⟩) 0 0) [] (casts (remR r y k)) (by repeat (first | exact HO.out | exact own_e (by first | rfl | (simp; done)) (by first | exact HB.out.size | (have := HB.out.size; simp; done) | (have := HB.out.size; simp; omega)) | with_reducible apply Own.alloc | with_reducible apply Own.drew)) (by rfl) _ _ (by rw [HLL.out, HLD.out]; rfl) (HRA.out.below (by repeat (first | with_reducible exact HB.out | with_reducible apply below_alloc | with_reducible apply below_drew))) (by have := LL.out; have := HLL.out; have := HLD.out; simp; omega) (by decide) (by first | exact HB.out.size | (have := HB.out.size; simp; done) | (have := HB.out.size; simp; omega)) ?_
    intro v2 w2 ho2 hg2
    have hb2 := Below.app (by repeat (first | with_reducible exact HB.out | with_reducible apply below_alloc | with_reducible apply below_drew)) hg2 (by repeat (first | exact HO.out | exact own_e (by first | rfl | (simp; done)) (by first | exact HB.out.size | (have := HB.out.size; simp; done) | (have := HB.out.size; simp; omega)) | with_reducible apply Own.alloc | with_reducible apply Own.drew)) (Nat.le_refl _) (by first | exact HB.out.size | (have := HB.out.size; simp; done) | (have := HB.out.size; simp; omega))
    obtain ⟨a2, c2, hv2, -, -, -, -⟩ := ho2.form
    subst hv2
    have HV := Lib.hid (Own.kept (k := .i64) (E := 3) (base := w1.heap.size) (v := .slice (some ⟨w1.heap.size, 0, none⟩) 1 1) (xs := [(y : Int)]) (by repeat (first | exact own_1 HY.out (by first | rfl | (simp; done)) (by first | exact Nat.le_refl _ | (simp; done)) | with_reducible apply Own.alloc | with_reducible apply Own.drew)) hg2 (by simp [Value.ownBlock]))
    have HO := Lib.hid ho2; have HB := Lib.hid hb2; clear ho2 hb2 hg2
    refine hK.out _ _ ?_ (fun hHeld2 => ?_)
    · (try dsimp only); (exact SD.out _ (by repeat (first | with_reducible exact HB.out | with_reducible apply below_alloc | with_reducible apply below_drew)))
    clear hK K hHeld; have hHeld := hHeld2; clear hHeld2
    try simp only [Act.put, List.setIfInBounds_toArray, List.set_cons_zero, List.set_cons_succ]
    refine oneZ (i := 16) (by kernel_rfl) rfl (by rfl) (fun K hK => ?_)
    refine opwp_appr 30 3 .i64 8 Try.underlying30 infoI (.tmp 28) (.tmp 30) (by rfl) w1.heap.size _ ([] ++ (casts (remR r y k))) [(y : Int)] (by repeat (first | exact HO.out | exact own_e (by first | rfl | (simp; done)) (by first | exact HB.out.size | (have := HB.out.size; simp; done) | (have := HB.out.size; simp; omega)) | with_reducible apply Own.alloc | with_reducible apply Own.drew)) (by rfl) _ _ (by rfl) (Own.rowX (base := w1.heap.size) (E := 3) (n := 1) (c := 1) (by repeat (first | with_reducible exact HV.out | exact own_1 HY.out (by first | rfl | (simp; done)) (by first | exact HB.out.size | (have := HB.out.size; simp; done) | (have := HB.out.size; simp; omega)) | with_reducible apply Own.alloc | with_reducible apply Own.drew))) (by have := LL.out; have := HLL.out; have := HLD.out; simp; omega) (by decide) (by first | exact HB.out.size | (have := HB.out.size; simp; done) | (have := HB.out.size; simp; omega)) ?_
    intro v2 w2 ho2 hg2
    have hb2 := Below.app (by repeat (first | with_reducible exact HB.out | with_reducible apply below_alloc | with_reducible apply below_drew)) hg2 (by repeat (first | exact HO.out | exact own_e (by first | rfl | (simp; done)) (by first | exact HB.out.size | (have := HB.out.size; simp; done) | (have := HB.out.size; simp; omega)) | with_reducible apply Own.alloc | with_reducible apply Own.drew)) (Nat.le_refl _) (by first | exact HB.out.size | (have := HB.out.size; simp; done) | (have := HB.out.size; simp; omega))
    obtain ⟨a2, c2, hv2, -, -, -, -⟩ := ho2.form
    subst hv2
    have HO := Lib.hid ho2; have HB := Lib.hid hb2; clear ho2 hb2 hg2
    refine hK.out _ _ ?_ (fun hHeld2 => ?_)
    · (try dsimp only); (exact SD.out _ (by repeat (first | with_reducible exact HB.out | with_reducible apply below_alloc | with_reducible apply below_drew)))
    clear hK K hHeld; have hHeld := hHeld2; clear hHeld2
    try simp only [Act.put, List.setIfInBounds_toArray, List.set_cons_zero, List.set_cons_succ]
    refine takeZ_w (i := 17) (some 32) (v := ?_) rfl (by rfl) (by decide) (by kernel_rfl) (by kernel_rfl) (by kernel_rfl) (by kernel_rfl) (fun _ _ _ h => h) (by rfl) hHeld ?_ ?_
    rotate_left
    · intro w hSw; (try dsimp only at hSw); (first | (go_simp; done) | (go_simp; with_reducible rfl))
    try simp only [Act.put, List.setIfInBounds_toArray, List.set_cons_zero, List.set_cons_succ]
    refine lastZ (by kernel_rfl) rfl (by rfl) (fun K hK => ?_)
    have fz := FZ.out _ HB.out
    unfold Oper.wp
    go_simp
    refine hK.out _ _ ?_
    clear hK K hHeld
    try simp only [Act.put, List.setIfInBounds_toArray, List.set_cons_zero, List.set_cons_succ]
    refine doneZ (by kernel_rfl) ?_ _
    go_wp2
    go_ret
    refine ⟨rfl, RL.put H1.out HB.out hk (r' := appR r k y) (b := w1.heap.size) ?_ (Nat.le_trans HC.out H2.out.size) (fun j hj hne => ?_), H2.out.trans ((Tch.of_below HB.out).set_ (p := ⟨qb, k, none⟩) (.inl rfl) _)⟩
    · have := HO.out; have e : casts (appR r k y k) = casts (remR r y k) ++ [(y : Int)] := by (unfold appR insR; rw [if_pos rfl]; unfold casts; rw [List.map_append]; rfl)
      rw [e]; simpa using this
    · unfold appR insR; rw [if_neg hne]
end Go.Proofs.Ytcmcljdecmbceaa.Ct
