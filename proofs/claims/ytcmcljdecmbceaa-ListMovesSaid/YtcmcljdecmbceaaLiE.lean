import Derived.Test.YtcmcljdecmbceaaLiD
/-! Lists over an array: Front, Back, Of, Len, Right. -/
namespace Go.Proofs.Ytcmcljdecmbceaa.Ct
open Go.RowKit
set_option linter.unusedVariables false
set_option linter.unusedSimpArgs false
set_option maxHeartbeats 2000000 in
theorem end_ok (x y n : Nat) (w : World) (hc : w.cell? ⟨x, 1, none⟩ = some (.int .i64 n)) (h : y < n) : Calls Try.prog 35 #[.pointer (some ⟨x, 0, none⟩), .int .i64 y] w fun e w' => e = .returned (.tuple #[.int .i64 y, .bool true]) ∧ w = w' := by
  go_enter Try.func35, Try.ntmps35
  go_wp2_with (go_at_call 25; (with_reducible refine (has_ok x y n w hc h).mono ?_); rintro e w' ⟨rfl, rfl⟩)
  go_ret2
  exact ⟨rfl, rfl⟩
set_option maxHeartbeats 2000000 in
theorem end_bad (x y n : Nat) (w : World) (hc : w.cell? ⟨x, 1, none⟩ = some (.int .i64 n)) (h : n ≤ y) : Calls Try.prog 35 #[.pointer (some ⟨x, 0, none⟩), .int .i64 y] w fun e w' => e = .returned (.tuple #[.int .i64 0, .bool false]) ∧ w = w' := by
  have HC := Lib.hid (has_bad x y n w hc (.inr (by omega)))
  go_enter Try.func35, Try.ntmps35
  go_wp2_with (go_at_call 25; (with_reducible refine (HC.out).mono ?_); rintro e w' ⟨rfl, rfl⟩)
  go_ret2
  exact ⟨rfl, rfl⟩
def frontS : List Nat → Int
  | [] => 0
  | y :: _ => y
def backS (l : List Nat) : Int := match l with | [] => 0 | y :: ys => (lastN y ys : Int)
def someS : List Nat → Bool
  | [] => false
  | _ => true
theorem end_front (x n k : Nat) (l : List Nat) (w : World) (hc : w.cell? ⟨x, 1, none⟩ = some (.int .i64 n)) (h : ∀ y ∈ l, y < n) : Calls Try.prog 35 #[.pointer (some ⟨x, 0, none⟩), .int .i64 (firstN l (n + k) : Nat)] w fun e w' => e = .returned (.tuple #[.int .i64 (frontS l), .bool (someS l)]) ∧ w = w' := by
  cases l with
  | nil => exact end_bad x (n + k) n w hc (by omega)
  | cons y l => exact end_ok x y n w hc (h y (List.mem_cons_self ..))
theorem end_back (x n k : Nat) (l : List Nat) (w : World) (hc : w.cell? ⟨x, 1, none⟩ = some (.int .i64 n)) (h : ∀ y ∈ l, y < n) : Calls Try.prog 35 #[.pointer (some ⟨x, 0, none⟩), .int .i64 (lastN (n + k) l : Nat)] w fun e w' => e = .returned (.tuple #[.int .i64 (backS l), .bool (someS l)]) ∧ w = w' := by
  cases l with
  | nil => exact end_bad x (n + k) n w hc (by omega)
  | cons y l => exact end_ok x (lastN y l) n w hc (h _ (lastN_mem y l))
set_option maxHeartbeats 2000000 in
theorem front_bad (x : Nat) (l : Int) (a : Option Addr) (m c : Nat) (w : World) (hc : w.cell? ⟨x, 2, none⟩ = some (.slice a m c)) (h : l < 0 ∨ (m : Int) ≤ l) : Calls Try.prog 20 #[.pointer (some ⟨x, 0, none⟩), .int .i64 l] w fun e w' => e = .returned (.tuple #[.int .i64 0, .bool false]) ∧ w = w' := by
  have HC := Lib.hid (head_bad x l a m c w hc h)
  clear h hc
  go_enter Try.func20, Try.ntmps20
  go_wp2_with (go_at_call 24; (with_reducible refine (HC.out).mono ?_); rintro e w' ⟨rfl, rfl⟩)
  go_ret2
  exact ⟨rfl, rfl⟩
theorem front_none (l : Int) (w : World) : Calls Try.prog 20 #[.pointer none, .int .i64 l] w fun e w' => e = .returned (.tuple #[.int .i64 0, .bool false]) ∧ w = w' := by
  go_enter Try.func20, Try.ntmps20
  go_wp2_with (go_at_call 24; (with_reducible refine (head_none l w).mono ?_); rintro e w' ⟨rfl, rfl⟩)
  go_ret2
  exact ⟨rfl, rfl⟩
set_option maxHeartbeats 2000000 in
theorem front_ok (base x gl gm n m k : Nat) (r : Nat → List Nat) (w : World) (h : LR base w x gl gm n m r) (hk : k < m) (hnm : n + m ≤ 100000) : Calls Try.prog 20 #[.pointer (some ⟨x, 0, none⟩), .int .i64 k] w fun e w' => e = .returned (.tuple #[.int .i64 (frontS (r k)), .bool (someS (r k))]) ∧ w = w' := by
  obtain ⟨f, g, hs, hr⟩ := h
  obtain ⟨c0, c1, c2⟩ := hs.cx
  have HC := Lib.hid (head_ok x k n _ m m w c1 c2 hk (by omega) (by omega))
  obtain ⟨ff, fl⟩ := hr.front hk
  have d1 := hs.cl (j := (n + k) * 3 + 1) (by omega)
  rw [ff] at d1
  have EC := Lib.hid (end_front x n k (r k) w c1 (hr.lt k hk))
  have hki : ((n + k : Nat) : Int) < ((n + m : Nat) : Int) := by omega
  clear hs hr c1 c2 ff
  generalize firstN (r k) (n + k) = y at *
  generalize frontS (r k) = y1 at *
  generalize someS (r k) = y2 at *
  generalize n + k = hd at *
  go_enter Try.func20, Try.ntmps20
  go_wp2_with (first
    | (go_at_call 24; (with_reducible refine (HC.out).mono ?_); rintro e w' ⟨rfl, rfl⟩)
    | (go_at_call 35; (with_reducible refine (EC.out).mono ?_); rintro e w' ⟨rfl, rfl⟩))
  go_ret2
  exact ⟨rfl, rfl⟩
set_option maxHeartbeats 2000000 in
theorem back_bad (x : Nat) (l : Int) (a : Option Addr) (m c : Nat) (w : World) (hc : w.cell? ⟨x, 2, none⟩ = some (.slice a m c)) (h : l < 0 ∨ (m : Int) ≤ l) : Calls Try.prog 21 #[.pointer (some ⟨x, 0, none⟩), .int .i64 l] w fun e w' => e = .returned (.tuple #[.int .i64 0, .bool false]) ∧ w = w' := by
  have HC := Lib.hid (head_bad x l a m c w hc h)
  clear h hc
  go_enter Try.func21, Try.ntmps21
  go_wp2_with (go_at_call 24; (with_reducible refine (HC.out).mono ?_); rintro e w' ⟨rfl, rfl⟩)
  go_ret2
  exact ⟨rfl, rfl⟩
set_option maxHeartbeats 2000000 in
theorem back_ok (base x gl gm n m k : Nat) (r : Nat → List Nat) (w : World) (h : LR base w x gl gm n m r) (hk : k < m) (hnm : n + m ≤ 100000) : Calls Try.prog 21 #[.pointer (some ⟨x, 0, none⟩), .int .i64 k] w fun e w' => e = .returned (.tuple #[.int .i64 (backS (r k)), .bool (someS (r k))]) ∧ w = w' := by
  obtain ⟨f, g, hs, hr⟩ := h
  obtain ⟨c0, c1, c2⟩ := hs.cx
  have HC := Lib.hid (head_ok x k n _ m m w c1 c2 hk (by omega) (by omega))
  obtain ⟨ff, fl⟩ := hr.back hk
  have d1 := hs.cl (j := (n + k) * 3) (by omega)
  rw [ff] at d1
  have EC := Lib.hid (end_back x n k (r k) w c1 (hr.lt k hk))
  have hki : ((n + k : Nat) : Int) < ((n + m : Nat) : Int) := by omega
  clear hs hr c1 c2 ff
  generalize lastN (n + k) (r k) = y at *
  generalize backS (r k) = y1 at *
  generalize someS (r k) = y2 at *
  generalize n + k = hd at *
  go_enter Try.func21, Try.ntmps21
  go_wp2_with (first
    | (go_at_call 24; (with_reducible refine (HC.out).mono ?_); rintro e w' ⟨rfl, rfl⟩)
    | (go_at_call 35; (with_reducible refine (EC.out).mono ?_); rintro e w' ⟨rfl, rfl⟩))
  go_ret2
  exact ⟨rfl, rfl⟩
theorem of_none (v : Int) (w : World) : Calls Try.prog 22 #[.pointer none, .int .i64 v] w fun e w' => e = .returned (.tuple #[.int .i64 0, .bool false]) ∧ w = w' := by
  go_enter Try.func22, Try.ntmps22
  go_wp2_with (go_at_call 25; (with_reducible refine (has_none v w).mono ?_); rintro e w' ⟨rfl, rfl⟩)
  go_ret2
  exact ⟨rfl, rfl⟩
set_option maxHeartbeats 2000000 in
theorem of_bad (x : Nat) (v : Int) (n : Nat) (w : World) (c1 : w.cell? ⟨x, 1, none⟩ = some (.int .i64 n)) (h : v < 0 ∨ (n : Int) ≤ v) : Calls Try.prog 22 #[.pointer (some ⟨x, 0, none⟩), .int .i64 v] w fun e w' => e = .returned (.tuple #[.int .i64 0, .bool false]) ∧ w = w' := by
  have NC := Lib.hid (has_bad x v n w c1 h)
  clear h c1
  go_enter Try.func22, Try.ntmps22
  go_wp2_with (go_at_call 25; (with_reducible refine (NC.out).mono ?_); rintro e w' ⟨rfl, rfl⟩)
  go_ret2
  exact ⟨rfl, rfl⟩
set_option maxHeartbeats 4000000 in
theorem of_ok (base x gl gm n m y : Nat) (r : Nat → List Nat) (w : World) (h : LR base w x gl gm n m r) (hy : y < n) (hnm : n + m ≤ 100000) :
    Calls Try.prog 22 #[.pointer (some ⟨x, 0, none⟩), .int .i64 y] w fun e w' => w = w' ∧ ((∃ k : Nat, k < m ∧ y ∈ r k ∧ e = .returned (.tuple #[.int .i64 k, .bool true])) ∨ ((∀ k, k < m → y ∉ r k) ∧ e = .returned (.tuple #[.int .i64 0, .bool false]))) := by
  obtain ⟨f, g, hs, hr⟩ := h
  obtain ⟨c0, c1, c2⟩ := hs.cx
  have NC := Lib.hid (has_ok x y n w c1 hy)
  have d2 := hs.cl (j := y * 3 + 2) (by omega)
  have hyi : (y : Int) < ((n + m : Nat) : Int) := by omega
  rcases hr.where_ hy with ⟨i, p, q, hi, hyi', e1, e2, e3, hp, hq⟩ | ⟨ho, e3⟩
  · rw [e3] at d2
    have IN := Lib.hid hyi'
    have q1 : ((i : Int) + 1 == 0) = false := beq_eq_false_iff_ne.2 (by omega)
    have q2 : ¬ (i : Int) + 1 = 0 := by omega
    have hw : IntKind.i64.wrap ((i : Int) + 1 - 1) = i := (i64_wrap_id (by omega) (by omega)).trans (by omega)
    clear hs hr e1 e2 e3 c1 c2 hyi'
    go_enter Try.func22, Try.ntmps22
    go_wp2_with (go_at_call 25; (with_reducible refine (NC.out).mono ?_); rintro e w' ⟨rfl, rfl⟩)
    go_ret2
    exact ⟨rfl, .inl ⟨i, hi, IN.out, rfl⟩⟩
  · rw [e3] at d2
    have NO := Lib.hid ho
    clear hs hr c1 c2 e3 ho
    go_enter Try.func22, Try.ntmps22
    go_wp2_with (go_at_call 25; (with_reducible refine (NC.out).mono ?_); rintro e w' ⟨rfl, rfl⟩)
    go_ret2
    exact ⟨rfl, .inr ⟨NO.out, rfl⟩⟩
set_option maxHeartbeats 2000000 in
theorem len_bad (x : Nat) (l : Int) (a : Option Addr) (m c : Nat) (w : World) (hc : w.cell? ⟨x, 2, none⟩ = some (.slice a m c)) (h : l < 0 ∨ (m : Int) ≤ l) : Calls Try.prog 23 #[.pointer (some ⟨x, 0, none⟩), .int .i64 l] w fun e w' => e = .returned (.int .i64 0) ∧ w = w' := by
  have HC := Lib.hid (head_bad x l a m c w hc h)
  clear h hc
  go_enter Try.func23, Try.ntmps23
  go_wp2_with (go_at_call 24; (with_reducible refine (HC.out).mono ?_); rintro e w' ⟨rfl, rfl⟩)
  go_ret
  exact ⟨rfl, rfl⟩
theorem len_none (l : Int) (w : World) : Calls Try.prog 23 #[.pointer none, .int .i64 l] w fun e w' => e = .returned (.int .i64 0) ∧ w = w' := by
  go_enter Try.func23, Try.ntmps23
  go_wp2_with (go_at_call 24; (with_reducible refine (head_none l w).mono ?_); rintro e w' ⟨rfl, rfl⟩)
  go_ret
  exact ⟨rfl, rfl⟩
set_option maxHeartbeats 2000000 in
theorem len_ok (base x gl gm n m k : Nat) (r : Nat → List Nat) (w : World) (h : LR base w x gl gm n m r) (hk : k < m) (hnm : n + m ≤ 100000) : Calls Try.prog 23 #[.pointer (some ⟨x, 0, none⟩), .int .i64 k] w fun e w' => e = .returned (.int .i64 (r k).length) ∧ w = w' := by
  obtain ⟨f, g, hs, hr⟩ := h
  obtain ⟨c0, c1, c2⟩ := hs.cx
  have HC := Lib.hid (head_ok x k n _ m m w c1 c2 hk (by omega) (by omega))
  have d1 := hs.cm (j := k) hk
  rw [hr.many k hk] at d1
  have hki : (k : Int) < (m : Int) := by omega
  clear hs hr c1
  generalize (r k).length = y at *
  generalize n + k = hd at *
  go_enter Try.func23, Try.ntmps23
  go_wp2_with (go_at_call 24; (with_reducible refine (HC.out).mono ?_); rintro e w' ⟨rfl, rfl⟩)
  go_ret
  exact ⟨rfl, rfl⟩
/-! ### Right -/
set_option maxHeartbeats 2000000 in
theorem right1_calls (b x n : Nat) (v : Int) (w : World) (hb : w.cell? ⟨b, 0, none⟩ = some (.pointer (some ⟨x, 0, none⟩))) (hc : w.cell? ⟨x, 1, none⟩ = some (.int .i64 n)) (h0 : 0 ≤ v) (h1 : v ≤ n) :
    Calls Try.prog 30 #[.int .i64 v, .pointer (some ⟨b, 0, none⟩)] w fun e w' => e = .returned (.bool false) ∧ w = w' := by
  have q0 : ¬ v < 0 := by omega
  have q1 : ¬ (n : Int) < v := by omega
  clear h0 h1
  go_enter Try.func30, Try.ntmps30
  go_wp2
  go_ret
  exact ⟨rfl, rfl⟩
set_option maxHeartbeats 4000000 in
theorem indexI_calls (b x n : Nat) (a : Option Addr) (cap : Nat) (xs : List Int) (w : World) (hb : w.cell? ⟨b, 0, none⟩ = some (.pointer (some ⟨x, 0, none⟩))) (hc : w.cell? ⟨x, 1, none⟩ = some (.int .i64 n)) (hr : Row .i64 w a xs) (h : ∀ v ∈ xs, 0 ≤ v ∧ v ≤ n) :
    Calls Try.prog 37 #[.slice a xs.length cap, .func (.func 30) #[] #[.pointer (some ⟨b, 0, none⟩)]] w fun e w' => e = .returned (.int .i64 (-1)) ∧ w = w' := by
  have HR := Lib.hid hr
  have HH := Lib.hid h
  have RC := Lib.hid (fun v h0 h1 => right1_calls b x n v w hb hc h0 h1)
  obtain ⟨N, hN⟩ : ∃ N, xs.length = N := ⟨_, rfl⟩
  have HN := Lib.hid hN
  have hl := hr.len
  rw [hN] at hl ⊢
  clear hr h hb hc hN
  go_enter Try.func37, Try.ntmps37
  go_wp2
  go_loopw [5, 8] (fun _ j wr => ∃ k : Nat, k ≤ N ∧ j = .int .i64 k ∧ w = wr) (fun _ j _ => N - (intOf j).toNat)
  case atStart => exact ⟨0, by omega, rfl, rfl⟩
  case round =>
    obtain ⟨k, hk, rfl, rfl⟩ := hrel
    by_cases hlt : k < N
    · have hlti : (k : Int) < N := by omega
      obtain ⟨ad, rfl, hcell, -⟩ := HR.out.at_ (j := k) (by rw [HN.out]; exact hlt)
      obtain ⟨b0, b1⟩ := HH.out _ (getD_mem (xs := xs) (j := k) (by rw [HN.out]; exact hlt))
      have R1 := Lib.hid (RC.out _ b0 b1)
      clear b0 b1
      generalize xs.getD k 0 = v at *
      go_wp2_with (go_at_call 30; (with_reducible refine (R1.out).mono ?_); rintro e w' ⟨rfl, rfl⟩)
      go_roundw
      case rel => exact ⟨k + 1, by omega, by go_num, by first | rfl | trivial⟩
      case measure => simp [intOf]; omega
    · obtain rfl : k = N := by omega
      go_wp2
      go_ret
      exact ⟨rfl, rfl⟩
set_option maxHeartbeats 4000000 in
theorem containsI_calls (b x n : Nat) (a : Option Addr) (cap : Nat) (xs : List Int) (w : World) (hb : w.cell? ⟨b, 0, none⟩ = some (.pointer (some ⟨x, 0, none⟩))) (hc : w.cell? ⟨x, 1, none⟩ = some (.int .i64 n)) (hr : Row .i64 w a xs) (h : ∀ v ∈ xs, 0 ≤ v ∧ v ≤ n) :
    Calls Try.prog 29 #[.slice a xs.length cap, .func (.func 30) #[] #[.pointer (some ⟨b, 0, none⟩)]] w fun e w' => e = .returned (.bool false) ∧ w = w' := by
  have IC := Lib.hid (indexI_calls b x n a cap xs w hb hc hr h)
  clear hr h hb hc
  generalize xs.length = N at *
  go_enter Try.func29, Try.ntmps29
  go_wp2_with (go_at_call 37; (with_reducible refine (IC.out).mono ?_); rintro e w' ⟨rfl, rfl⟩)
  go_ret
  exact ⟨rfl, rfl⟩
theorem right_none (w : World) : Calls Try.prog 13 #[.pointer none] w fun e w' => e = .returned (.bool true) ∧ Below w.heap.size w w' := by
  go_enter Try.func13, Try.ntmps13
  go_wp2
  go_ret
  exact ⟨rfl, below_alloc (Below.refl _ _) _⟩
theorem row_of_vals {w : World} {gm m : Nat} {g : Fn} (hk : Blk w gm 3 (valsN g m).toArray) (hm : m ≤ 100000) (hw : ∀ j, j < m → I64 (g j)) : Row .i64 w (some ⟨gm, 0, none⟩) ((List.range m).map g) := by
  refine ⟨by simp [maxLen]; omega, fun v hv => ?_, fun _ => ⟨_, rfl, fun j hj => ?_⟩⟩
  · obtain ⟨j, hj, rfl⟩ := List.mem_map.1 hv
    exact i64wf (hw j (List.mem_range.1 hj))
  · simp only [List.length_map, List.length_range] at hj
    rw [add_plain, hk.cell, valsN_get g hj]
    simp [hj]
set_option maxHeartbeats 8000000 in
theorem right_calls (base x gl gm n m : Nat) (r : Nat → List Nat) (w : World) (h : LR base w x gl gm n m r) (hnm : n + m ≤ 100000) (hm : m ≤ 100000) :
    Calls Try.prog 13 #[.pointer (some ⟨x, 0, none⟩)] w fun e w' => e = .returned (.bool true) ∧ Below w.heap.size w w' := by
  obtain ⟨f, g, hs, hr⟩ := h
  have hb1 := below_alloc (Below.refl w.heap.size w) (.cells #[.pointer (some ⟨x, 0, none⟩)] 25)
  have HBX := Lib.hid (Blk.new w 25 #[.pointer (some ⟨x, 0, none⟩)])
  have H1 := Lib.hid (hs.below hb1)
  have HB1 := Lib.hid hb1
  have CC := Lib.hid (fun (W : World) (hb : W.cell? ⟨w.heap.size, 0, none⟩ = some (.pointer (some ⟨x, 0, none⟩))) (h1 : LS base W x gl gm n m f g) => (show Calls Try.prog 29 #[.slice (some ⟨gm, 0, none⟩) m m, .func (.func 30) #[] #[.pointer (some ⟨w.heap.size, 0, none⟩)]] W fun e w' => e = .returned (.bool false) ∧ W = w' by
    have := containsI_calls w.heap.size x n (some ⟨gm, 0, none⟩) m ((List.range m).map g) W hb h1.cx.2.1 (row_of_vals h1.km hm (fun j hj => by have := many_ok hr hj (by omega); exact ⟨by omega, by omega⟩)) (fun v hv => by
      obtain ⟨j, hj, rfl⟩ := List.mem_map.1 hv
      have h2 := hr.many j (List.mem_range.1 hj)
      have h3 := hr.len (List.mem_range.1 hj)
      omega)
    rw [show ((List.range m).map g).length = m by simp] at this
    exact this))
  have BI := Lib.hid (fun y hy => hr.bi y hy)
  obtain ⟨N, hN⟩ : ∃ N, n + m = N := ⟨_, rfl⟩
  have HN := Lib.hid hN
  have hNi : ((n : Int) + m) = N := by omega
  clear hs hr hb1
  go_enter Try.func13, Try.ntmps13
  go_upto_region 3 with (fail)
  generalize w.alloc (.cells #[.pointer (some ⟨x, 0, none⟩)] 25) = w1 at *
  generalize hbx : w.heap.size = bx at *
  have HBB := Lib.hid hbx
  clear hbx
  have bc : w1.cell? ⟨bx, 0, none⟩ = some (.pointer (some ⟨x, 0, none⟩)) := HBX.out.cell 0
  have c0 : w1.cell? ⟨x, 0, none⟩ = some (.slice (some ⟨gl, 0, none⟩) N N) := by rw [← HN.out]; exact H1.out.cx.1
  clear hN
  go_wp2
  clear bc c0
  go_loopw [12] (fun i wr => ∃ j : Nat, j ≤ N ∧ i = .int .i64 j ∧ Below w1.heap.size w1 wr) (fun i _ => N - (intOf i).toNat)
  case atStart => exact ⟨0, by omega, rfl, Below.refl _ _⟩
  case round =>
    obtain ⟨j, hj, rfl, hb⟩ := hrel
    have HB := Lib.hid hb
    have H2 := Lib.hid (H1.out.below hb)
    have HX2 := Lib.hid (HBX.out.below hb)
    clear hb
    by_cases hlt : j < N
    · have hlti : (j : Int) < N := by omega
      obtain ⟨p, q, hp, hq, e1, e2, e3, e4⟩ := BI.out j (by rw [HN.out]; exact hlt)
      have hpi : (p : Int) < N := by have := HN.out; omega
      have hqi : (q : Int) < N := by have := HN.out; omega
      have d0 := H2.out.cl (j := j * 3) (by have := HN.out; omega)
      have d1 := H2.out.cl (j := j * 3 + 1) (by have := HN.out; omega)
      have d2 := H2.out.cl (j := j * 3 + 2) (by have := HN.out; omega)
      rw [e1] at d0; rw [e2] at d1
      generalize f (j * 3 + 2) = ls at *
      have hb2 := below_alloc (Below.refl wr.heap.size wr) (.cells #[.int .i64 p, .int .i64 q, .int .i64 ls] 50)
      have H3 := Lib.hid (H2.out.below hb2)
      have HX3 := Lib.hid (HX2.out.below hb2)
      have HB3 := Lib.hid (below_step HB.out hb2)
      have HV := Lib.hid (Blk.new wr 50 #[.int .i64 p, .int .i64 q, .int .i64 ls])
      clear hb2
      go_upto_region 6 with (fail)
      clear d0 d1 d2
      generalize wr.alloc (.cells #[.int .i64 p, .int .i64 q, .int .i64 ls] 50) = w3 at *
      generalize wr.heap.size = bn at *
      have bc : w3.cell? ⟨bx, 0, none⟩ = some (.pointer (some ⟨x, 0, none⟩)) := HX3.out.cell 0
      have c0 : w3.cell? ⟨x, 0, none⟩ = some (.slice (some ⟨gl, 0, none⟩) N N) := by rw [← HN.out]; exact H3.out.cx.1
      have v0 : w3.cell? ⟨bn, 0, none⟩ = some (.int .i64 p) := HV.out.cell 0
      have v1 : w3.cell? ⟨bn, 1, none⟩ = some (.int .i64 q) := HV.out.cell 1
      have d3 := H3.out.cl (j := q * 3) (by have := HN.out; omega)
      have d4 := H3.out.cl (j := p * 3 + 1) (by have := HN.out; omega)
      rw [e3] at d3; rw [e4] at d4
      have q0 : ((j : Int) != j) = false := bne_self_eq_false _
      clear e1 e2 e3 e4
      go_quiet (fail)
      go_wp2
      exact ⟨⟨j + 1, by omega, by go_num, below_drewN HB3.out _⟩, by simp [intOf]; omega⟩
    · obtain rfl : j = N := by omega
      have bc : wr.cell? ⟨bx, 0, none⟩ = some (.pointer (some ⟨x, 0, none⟩)) := HX2.out.cell 0
      have c2 := H2.out.cx.2.2
      go_wp2_with (go_at_call 29; (with_reducible refine (CC.out wr bc H2.out).mono ?_); rintro e w4 ⟨rfl, rfl⟩)
      go_ret
      exact ⟨rfl, by rw [HBB.out]; exact Below.trans HB1.out (HB.out.mono (by rw [← HBB.out]; exact HB1.out.size))⟩
end Go.Proofs.Ytcmcljdecmbceaa.Ct
