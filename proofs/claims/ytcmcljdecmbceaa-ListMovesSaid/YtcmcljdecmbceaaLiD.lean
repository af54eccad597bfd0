import Derived.Test.YtcmcljdecmbceaaLiC
/-! Lists over an array: rows. Push, Append, Remove. -/
namespace Go.Proofs.Ytcmcljdecmbceaa.Ct
open Go.RowKit
set_option linter.unusedVariables false
set_option linter.unusedSimpArgs false
/-- lists in memory that hold these rows. -/
def LR (base : Nat) (w : World) (x gl gm n m : Nat) (r : Nat → List Nat) : Prop := ∃ f g, LS base w x gl gm n m f g ∧ Rep n m r f g
section
variable {base x gl gm n m : Nat} {w w1 : World} {r : Nat → List Nat}
theorem LR.below (h : LR base w x gl gm n m r) (hb : Below w.heap.size w w1) : LR base w1 x gl gm n m r := by obtain ⟨f, g, h1, h2⟩ := h; exact ⟨f, g, h1.below hb, h2⟩
theorem LR.drew (h : LR base w x gl gm n m r) : LR base w.drew x gl gm n m r := by obtain ⟨f, g, h1, h2⟩ := h; exact ⟨f, g, h1.drew, h2⟩
theorem LR.drewN (h : LR base w x gl gm n m r) (q : Nat) : LR base (w.drewN q) x gl gm n m r := by obtain ⟨f, g, h1, h2⟩ := h; exact ⟨f, g, h1.drewN q, h2⟩
theorem LR.alloc (h : LR base w x gl gm n m r) (o : Obj) : LR base (w.alloc o) x gl gm n m r := h.below (below_alloc (Below.refl _ _) _)
theorem LR.cx (h : LR base w x gl gm n m r) : w.cell? ⟨x, 0, none⟩ = some (.slice (some ⟨gl, 0, none⟩) (n + m) (n + m)) ∧ w.cell? ⟨x, 1, none⟩ = some (.int .i64 n) ∧ w.cell? ⟨x, 2, none⟩ = some (.slice (some ⟨gm, 0, none⟩) m m) := by obtain ⟨f, g, h1, h2⟩ := h; exact h1.cx
end
/-- a node is in a row, or in none. -/
theorem Rep.where_ {n m : Nat} {r : Nat → List Nat} {f g : Fn} (h : Rep n m r f g) {y : Nat} (hy : y < n) :
    (∃ (k p q : Nat), k < m ∧ y ∈ r k ∧ f (y * 3) = p ∧ f (y * 3 + 1) = q ∧ f (y * 3 + 2) = (k : Int) + 1 ∧ p < n + m ∧ q < n + m) ∨ ((∀ k, k < m → y ∉ r k) ∧ f (y * 3 + 2) = 0) := by
  by_cases he : ∃ k, k < m ∧ y ∈ r k
  · obtain ⟨k, hk, hyk⟩ := he
    obtain ⟨p, q, hp, hq, e1, e2, -, -⟩ := h.bi y (by omega)
    exact .inl ⟨k, p, q, hk, hyk, e1, e2, h.lsin k hk y hyk, hp, hq⟩
  · have ho : ∀ k, k < m → y ∉ r k := fun k hk hh => he ⟨k, hk, hh⟩
    exact .inr ⟨ho, (h.out y hy ho).2.2⟩
theorem remR_out {n m : Nat} {r : Nat → List Nat} {f g : Fn} (h : Rep n m r f g) {y : Nat} (ho : ∀ k, k < m → y ∉ r k) : remR r y = r := by
  funext j
  unfold remR
  by_cases hj : j < m
  · exact rem_out (ho j hj)
  · rw [h.far j (by omega)]; rfl
theorem remR_not {r : Nat → List Nat} {y : Nat} (j : Nat) : y ∉ remR r y j := by unfold remR; rw [List.mem_filter]; simp
theorem Rep.back {n m : Nat} {r : Nat → List Nat} {f g : Fn} (h : Rep n m r f g) {k : Nat} (hk : k < m) : f ((n + k) * 3) = lastN (n + k) (r k) ∧ lastN (n + k) (r k) < n + m := by
  have hl := pth_last _ _ (h.path k hk)
  have hlt : lastN (n + k) (r k) < n + m := by
    rcases List.mem_cons.1 (lastN_mem (n + k) (r k)) with e | e
    · omega
    · have := h.lt k hk _ e; omega
  obtain ⟨a, b, -, -, -, e2, e3, -⟩ := h.bi _ hlt
  rw [hl] at e2
  rw [← natCast_inj e2] at e3
  exact ⟨e3, hlt⟩
theorem Rep.front {n m : Nat} {r : Nat → List Nat} {f g : Fn} (h : Rep n m r f g) {k : Nat} (hk : k < m) : f ((n + k) * 3 + 1) = firstN (r k) (n + k) ∧ firstN (r k) (n + k) < n + m := by
  refine ⟨pth_first (h.path k hk), ?_⟩
  cases hr : r k with
  | nil => show n + k < n + m; omega
  | cons y l => have := h.lt k hk y (by rw [hr]; simp); show y < n + m; omega
def pushR (r : Nat → List Nat) (k y : Nat) : Nat → List Nat := insR (remR r y) k (y :: remR r y k)
def appR (r : Nat → List Nat) (k y : Nat) : Nat → List Nat := insR (remR r y) k (remR r y k ++ [y])
theorem many_ok {n m : Nat} {r : Nat → List Nat} {f g : Fn} (h : Rep n m r f g) {k : Nat} (hk : k < m) (hn : n ≤ 100000) : 0 ≤ g k ∧ g k ≤ 100000 := by
  have := h.many k hk
  have := h.len hk
  omega
/-- link, of a node wherever it is. -/
theorem link_calls (base x gl gm n m y c d k : Nat) (r : Nat → List Nat) (A B : List Nat) (f g : Fn) (w : World) (h : LS base w x gl gm n m f g) (hr : Rep n m r f g) (hy : y < n) (hkm : k < m) (hnm : n + m ≤ 100000)
    (hAB : remR r y k = A ++ B) (hc : c = lastN (n + k) A) (hcl : c < n + m) :
    Calls Try.prog 26 #[.pointer (some ⟨x, 0, none⟩), .int .i64 k, .int .i64 y, .int .i64 c] w fun e w' => e = .returned (.tuple #[]) ∧ LR base w' x gl gm n m (insR (remR r y) k (A ++ y :: B)) ∧ Tch gl gm w w' := by
  rcases hr.where_ hy with ⟨i, p, q, hi, hyi, e1, e2, e3, hp, hq⟩ | ⟨ho, e3⟩
  · have hr1 := hr.unlink hi hyi e1 e2
    obtain ⟨a, d, -, hd, -, e4, -, -⟩ := hr1.bi c hcl
    have m1 := many_ok hr hi (by omega)
    have m2 := many_ok hr1 hkm (by omega)
    have hr2 := hr1.link hkm hy (fun j _ => remR_not j) hAB hc e4
    exact (link1_calls base x gl gm n m y c d k f g w h (by omega) hcl hd hkm hnm p q i e1 e2 e3 hp hq hi m1.1 m1.2 e4 m2.1 m2.2).mono fun e w' ⟨h1, h2, h3⟩ => ⟨h1, ⟨_, _, h2, hr2⟩, h3⟩
  · have hrr := remR_out hr ho
    rw [hrr] at hAB ⊢
    obtain ⟨a, d, -, hd, -, e4, -, -⟩ := hr.bi c hcl
    have m2 := many_ok hr hkm (by omega)
    have hr2 := hr.link hkm hy ho hAB hc e4
    exact (link0_calls base x gl gm n m y c d k f g w h (by omega) hcl hd hkm hnm e3 e4 m2.1 m2.2).mono fun e w' ⟨h1, h2, h3⟩ => ⟨h1, ⟨_, _, h2, hr2⟩, h3⟩
set_option maxHeartbeats 4000000 in
theorem push_bad (x : Nat) (l v : Int) (n m c : Nat) (a : Option Addr) (w : World) (c1 : w.cell? ⟨x, 1, none⟩ = some (.int .i64 n)) (c2 : w.cell? ⟨x, 2, none⟩ = some (.slice a m c)) (hn : n ≤ 100000) (hm : m ≤ 100000) (h : ¬ (0 ≤ l ∧ l < m ∧ 0 ≤ v ∧ v < n)) :
    Calls Try.prog 7 #[.pointer (some ⟨x, 0, none⟩), .int .i64 l, .int .i64 v] w fun e w' => e = .returned (.bool false) ∧ w = w' := by
  by_cases hl : 0 ≤ l ∧ l < m
  · obtain ⟨k, rfl⟩ : ∃ k : Nat, l = k := ⟨l.toNat, by omega⟩
    have HC := Lib.hid (head_ok x k n a m c w c1 c2 (by omega) hn hm)
    have NC := Lib.hid (has_bad x v n w c1 (by omega))
    clear h hl c1 c2
    go_enter Try.func7, Try.ntmps7
    go_wp2_with (first
      | (go_at_call 24; (with_reducible refine (HC.out).mono ?_); rintro e w' ⟨rfl, rfl⟩)
      | (go_at_call 25; (with_reducible refine (NC.out).mono ?_); rintro e w' ⟨rfl, rfl⟩))
    go_ret
    exact ⟨rfl, rfl⟩
  · have HC := Lib.hid (head_bad x l a m c w c2 (by omega))
    clear h hl c1 c2
    go_enter Try.func7, Try.ntmps7
    go_wp2_with (go_at_call 24; (with_reducible refine (HC.out).mono ?_); rintro e w' ⟨rfl, rfl⟩)
    go_ret
    exact ⟨rfl, rfl⟩
theorem push_none (l v : Int) (w : World) : Calls Try.prog 7 #[.pointer none, .int .i64 l, .int .i64 v] w fun e w' => e = .returned (.bool false) ∧ w = w' := by
  go_enter Try.func7, Try.ntmps7
  go_wp2_with (go_at_call 24; (with_reducible refine (head_none l w).mono ?_); rintro e w' ⟨rfl, rfl⟩)
  go_ret
  exact ⟨rfl, rfl⟩
set_option maxHeartbeats 4000000 in
theorem push_ok (base x gl gm n m k y : Nat) (r : Nat → List Nat) (w : World) (h : LR base w x gl gm n m r) (hk : k < m) (hy : y < n) (hnm : n + m ≤ 100000) :
    Calls Try.prog 7 #[.pointer (some ⟨x, 0, none⟩), .int .i64 k, .int .i64 y] w fun e w' => e = .returned (.bool true) ∧ LR base w' x gl gm n m (pushR r k y) ∧ Tch gl gm w w' := by
  obtain ⟨f, g, hs, hr⟩ := h
  obtain ⟨c0, c1, c2⟩ := hs.cx
  have HC := Lib.hid (head_ok x k n _ m m w c1 c2 hk (by omega) (by omega))
  have NC := Lib.hid (has_ok x y n w c1 hy)
  have LC := Lib.hid (link_calls base x gl gm n m y (n + k) 0 k r [] (remR r y k) f g w hs hr hy hk hnm rfl rfl (by omega))
  clear hs hr c0 c1 c2
  generalize n + k = hd at *
  go_enter Try.func7, Try.ntmps7
  go_wp2_with (first
    | (go_at_call 24; (with_reducible refine (HC.out).mono ?_); rintro e w' ⟨rfl, rfl⟩)
    | (go_at_call 25; (with_reducible refine (NC.out).mono ?_); rintro e w' ⟨rfl, rfl⟩)
    | (go_at_call 26; (with_reducible refine (LC.out).mono ?_); rintro e w' ⟨rfl, h1, h2⟩; have H1 := Lib.hid h1; have H2 := Lib.hid h2; clear h1 h2))
  go_ret
  exact ⟨rfl, H1.out, H2.out⟩
set_option maxHeartbeats 4000000 in
theorem app_bad (x : Nat) (l v : Int) (n m c : Nat) (a : Option Addr) (w : World) (c1 : w.cell? ⟨x, 1, none⟩ = some (.int .i64 n)) (c2 : w.cell? ⟨x, 2, none⟩ = some (.slice a m c)) (hn : n ≤ 100000) (hm : m ≤ 100000) (h : ¬ (0 ≤ l ∧ l < m ∧ 0 ≤ v ∧ v < n)) :
    Calls Try.prog 9 #[.pointer (some ⟨x, 0, none⟩), .int .i64 l, .int .i64 v] w fun e w' => e = .returned (.bool false) ∧ w = w' := by
  by_cases hl : 0 ≤ l ∧ l < m
  · obtain ⟨k, rfl⟩ : ∃ k : Nat, l = k := ⟨l.toNat, by omega⟩
    have HC := Lib.hid (head_ok x k n a m c w c1 c2 (by omega) hn hm)
    have NC := Lib.hid (has_bad x v n w c1 (by omega))
    clear h hl c1 c2
    go_enter Try.func9, Try.ntmps9
    go_wp2_with (first
      | (go_at_call 24; (with_reducible refine (HC.out).mono ?_); rintro e w' ⟨rfl, rfl⟩)
      | (go_at_call 25; (with_reducible refine (NC.out).mono ?_); rintro e w' ⟨rfl, rfl⟩))
    go_ret
    exact ⟨rfl, rfl⟩
  · have HC := Lib.hid (head_bad x l a m c w c2 (by omega))
    clear h hl c1 c2
    go_enter Try.func9, Try.ntmps9
    go_wp2_with (go_at_call 24; (with_reducible refine (HC.out).mono ?_); rintro e w' ⟨rfl, rfl⟩)
    go_ret
    exact ⟨rfl, rfl⟩
set_option maxHeartbeats 4000000 in
theorem app_ok (base x gl gm n m k y : Nat) (r : Nat → List Nat) (w : World) (h : LR base w x gl gm n m r) (hk : k < m) (hy : y < n) (hnm : n + m ≤ 100000) :
    Calls Try.prog 9 #[.pointer (some ⟨x, 0, none⟩), .int .i64 k, .int .i64 y] w fun e w' => e = .returned (.bool true) ∧ LR base w' x gl gm n m (appR r k y) ∧ Tch gl gm w w' := by
  obtain ⟨f, g, hs, hr⟩ := h
  obtain ⟨c0, c1, c2⟩ := hs.cx
  have HC := Lib.hid (head_ok x k n _ m m w c1 c2 hk (by omega) (by omega))
  have NC := Lib.hid (has_ok x y n w c1 hy)
  have d2 := hs.cl (j := y * 3 + 2) (by omega)
  have hyi : (y : Int) < ((n + m : Nat) : Int) := by omega
  have hki : ((n + k : Nat) : Int) < ((n + m : Nat) : Int) := by omega
  rcases hr.where_ hy with ⟨i, p, q, hi, hyi', e1, e2, e3, hp, hq⟩ | ⟨ho, e3⟩
  · rw [e3] at d2
    have m1 := many_ok hr hi (by omega)
    have hr1 := hr.unlink hi hyi' e1 e2
    have UC := Lib.hid (unlink_calls base x gl gm n m y p q i f g w hs (by omega) e1 e2 e3 hp hq hi hnm m1.1 m1.2)
    obtain ⟨bk, bl⟩ := hr1.back hk
    have LC := Lib.hid (fun (W : World) (h1 : LS base W x gl gm n m (unF f y p q) (upd g i (g i - 1))) => link_calls base x gl gm n m y (lastN (n + k) (remR r y k)) 0 k (remR r y) (remR r y k) [] _ _ W h1 hr1 hy hk hnm (by rw [List.append_nil, remR_out hr1 (fun j _ => remR_not j)]) rfl bl)
    have RR := Lib.hid (remR_out hr1 (fun j _ => remR_not j) : remR (remR r y) y = remR r y)
    have hi1 : (0 : Int) < (i : Int) + 1 := by omega
    have BK := Lib.hid bk
    clear hs hr hr1 m1 e1 e2 e3 bk bl c1 c2
    go_enter Try.func9, Try.ntmps9
    go_upto_region 6 with (first
      | (go_at_call 24; (with_reducible refine (HC.out).mono ?_); rintro e w' ⟨rfl, rfl⟩)
      | (go_at_call 25; (with_reducible refine (NC.out).mono ?_); rintro e w' ⟨rfl, rfl⟩)
      | (go_at_call 28; (with_reducible refine (UC.out).mono ?_); rintro e w1 ⟨rfl, h1, h2⟩; have H1 := Lib.hid h1; have H2 := Lib.hid h2; clear h1 h2))
    have d0 := H1.out.cx.1
    have d3 := H1.out.cl (j := (n + k) * 3) (by omega)
    rw [BK.out] at d3
    clear d2 c0
    go_wp2_with (go_at_call 26; (with_reducible refine (LC.out w1 H1.out).mono ?_); rintro e w' ⟨rfl, h1, h2⟩; have H3 := Lib.hid h1; have H4 := Lib.hid (H2.out.trans h2); clear h1 h2)
    go_ret
    refine ⟨rfl, ?_, H4.out⟩
    have := H3.out
    rw [RR.out] at this
    exact this
  · rw [e3] at d2
    have hrr := remR_out hr ho
    obtain ⟨bk, bl⟩ := hr.back hk
    have LC := Lib.hid (link_calls base x gl gm n m y (lastN (n + k) (r k)) 0 k r (r k) [] f g w hs hr hy hk hnm (by rw [List.append_nil, hrr]) rfl bl)
    have RR := Lib.hid hrr
    have d3 := hs.cl (j := (n + k) * 3) (by omega)
    rw [bk] at d3
    clear hs hr hrr bk bl c1 c2 e3
    go_enter Try.func9, Try.ntmps9
    go_wp2_with (first
      | (go_at_call 24; (with_reducible refine (HC.out).mono ?_); rintro e w' ⟨rfl, rfl⟩)
      | (go_at_call 25; (with_reducible refine (NC.out).mono ?_); rintro e w' ⟨rfl, rfl⟩)
      | (go_at_call 26; (with_reducible refine (LC.out).mono ?_); rintro e w' ⟨rfl, h1, h2⟩; have H3 := Lib.hid h1; have H4 := Lib.hid h2; clear h1 h2))
    go_ret
    refine ⟨rfl, ?_, H4.out⟩
    have := H3.out
    unfold appR
    rw [RR.out]
    rw [RR.out] at this
    exact this
theorem app_none (l v : Int) (w : World) : Calls Try.prog 9 #[.pointer none, .int .i64 l, .int .i64 v] w fun e w' => e = .returned (.bool false) ∧ w = w' := by
  go_enter Try.func9, Try.ntmps9
  go_wp2_with (go_at_call 24; (with_reducible refine (head_none l w).mono ?_); rintro e w' ⟨rfl, rfl⟩)
  go_ret
  exact ⟨rfl, rfl⟩
set_option maxHeartbeats 4000000 in
theorem rem_none (v : Int) (w : World) : Calls Try.prog 10 #[.pointer none, .int .i64 v] w fun e w' => e = .returned (.bool false) ∧ w = w' := by
  go_enter Try.func10, Try.ntmps10
  go_wp2_with (go_at_call 25; (with_reducible refine (has_none v w).mono ?_); rintro e w' ⟨rfl, rfl⟩)
  go_ret
  exact ⟨rfl, rfl⟩
set_option maxHeartbeats 4000000 in
theorem rem_bad (x : Nat) (v : Int) (n : Nat) (w : World) (c1 : w.cell? ⟨x, 1, none⟩ = some (.int .i64 n)) (h : v < 0 ∨ (n : Int) ≤ v) : Calls Try.prog 10 #[.pointer (some ⟨x, 0, none⟩), .int .i64 v] w fun e w' => e = .returned (.bool false) ∧ w = w' := by
  have NC := Lib.hid (has_bad x v n w c1 h)
  clear h c1
  go_enter Try.func10, Try.ntmps10
  go_wp2_with (go_at_call 25; (with_reducible refine (NC.out).mono ?_); rintro e w' ⟨rfl, rfl⟩)
  go_ret
  exact ⟨rfl, rfl⟩
set_option maxHeartbeats 4000000 in
theorem rem_ok (base x gl gm n m y : Nat) (r : Nat → List Nat) (w : World) (h : LR base w x gl gm n m r) (hy : y < n) (hnm : n + m ≤ 100000) :
    Calls Try.prog 10 #[.pointer (some ⟨x, 0, none⟩), .int .i64 y] w fun e w' => ∃ b, e = .returned (.bool b) ∧ (b = true ↔ ∃ k, k < m ∧ y ∈ r k) ∧ LR base w' x gl gm n m (remR r y) ∧ Tch gl gm w w' := by
  obtain ⟨f, g, hs, hr⟩ := h
  obtain ⟨c0, c1, c2⟩ := hs.cx
  have NC := Lib.hid (has_ok x y n w c1 hy)
  have d2 := hs.cl (j := y * 3 + 2) (by omega)
  have hyi : (y : Int) < ((n + m : Nat) : Int) := by omega
  rcases hr.where_ hy with ⟨i, p, q, hi, hyi', e1, e2, e3, hp, hq⟩ | ⟨ho, e3⟩
  · rw [e3] at d2
    have m1 := many_ok hr hi (by omega)
    have hr1 := Lib.hid (hr.unlink hi hyi' e1 e2)
    have UC := Lib.hid (unlink_calls base x gl gm n m y p q i f g w hs (by omega) e1 e2 e3 hp hq hi hnm m1.1 m1.2)
    have IN := Lib.hid (show ∃ k, k < m ∧ y ∈ r k from ⟨i, hi, hyi'⟩)
    have q1 : ((i : Int) + 1 == 0) = false := beq_eq_false_iff_ne.2 (by omega)
    have q2 : ¬ (i : Int) + 1 = 0 := by omega
    clear hs hr m1 e1 e2 e3 c1 c2 hyi'
    go_enter Try.func10, Try.ntmps10
    go_wp2_with (first
      | (go_at_call 25; (with_reducible refine (NC.out).mono ?_); rintro e w' ⟨rfl, rfl⟩)
      | (go_at_call 28; (with_reducible refine (UC.out).mono ?_); rintro e w1 ⟨rfl, h1, h2⟩; have H1 := Lib.hid h1; have H2 := Lib.hid h2; clear h1 h2))
    go_ret
    exact ⟨true, rfl, ⟨fun _ => IN.out, fun _ => rfl⟩, ⟨_, _, H1.out, hr1.out⟩, H2.out⟩
  · rw [e3] at d2
    have hrr := remR_out hr ho
    rw [hrr]
    have HS := Lib.hid hs
    have HR := Lib.hid hr
    have NO := Lib.hid ho
    clear hs hr hrr c1 c2 e3 ho
    go_enter Try.func10, Try.ntmps10
    go_wp2_with (go_at_call 25; (with_reducible refine (NC.out).mono ?_); rintro e w' ⟨rfl, rfl⟩)
    go_ret
    exact ⟨false, rfl, ⟨fun h => (by cases h), fun ⟨k, hk, hh⟩ => absurd hh (NO.out k hk)⟩, ⟨_, _, HS.out, HR.out⟩, Tch.refl _ _ _⟩
end Go.Proofs.Ytcmcljdecmbceaa.Ct
