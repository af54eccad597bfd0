import Derived.Test.YthmhpjpnlngaoaaDoorLib
import Derived.WalkSpells
/-! Octets: Clone, wide, number, Put, and the reference's Num, Of, Join. -/
namespace Go.Proofs.YthmhpjpnlngaoaaDoor.Ct
open Go.RowKit
set_option linter.unusedVariables false
set_option linter.unusedSimpArgs false
theorem infoU8 : (Tryd.prog.info? 5).map (fun i => (i.zero, i.size, i.bytes)) = some (some (.int .u8 0), 1, 1) := by kernel_rfl

/-! ### slices.Clone -/
set_option maxHeartbeats 1000000 in
theorem clone_calls (a : Option Addr) (cap : Nat) (xs : List Int) (w : World) (h : Row .u8 w a xs) (hlen : xs.length ≤ 140737488355328) :
    Calls Tryd.prog 42 #[.slice a xs.length cap] w fun e w' => ∃ v, e = .returned v ∧ Own .u8 5 w' w.heap.size v xs ∧ Below w.heap.size w w' := by
  have q := fun (w : World) (a : Option Addr) (n c n' c' : Nat) => Lib.run_eql_slice_nil (P := Tryd.prog) w 27 5 a n c n' c' Tryd.underlying27
  have H := Lib.hid h; clear h
  cases a with
  | none =>
    have hx : xs = [] := by
      rcases Nat.eq_zero_or_pos xs.length with h0 | h0
      · exact List.length_eq_zero_iff.1 h0
      · obtain ⟨ad, e, _⟩ := H.out.2.2 h0; cases e
    subst hx
    go_enter Tryd.func42, Tryd.ntmps42
    go_wp2
    go_ret
    exact ⟨_, rfl, own_nil _ _ _ _, Below.refl _ _⟩
  | some ad =>
    go_enter Tryd.func42, Tryd.ntmps42
    go_wp2_with (at_builtin; refine wp_appr 27 5 .u8 1 Tryd.underlying27 infoU8 rfl (.tmp 5) (.tmp 6) rfl w.heap.size _ [] xs (own_lit (k := .u8) [] (Nat.le_refl _) (by simp) (by simp)) rfl (some ad) cap rfl (H.out.below ((Below.refl _ _).alloc (Nat.le_refl _) _)) (by simp; omega) (by decide) (by simp) ?_; intro v' w1 hown1 hg1)
    go_ret
    refine ⟨_, rfl, by simpa using hown1, ?_⟩
    exact Below.app ((Below.refl _ _).alloc (Nat.le_refl _) _) hg1 (own_lit (k := .u8) [] (Nat.le_refl _) (by simp) (by simp)) (Nat.le_refl _) (by simp)

/-! ### wide -/
def wideS (n : Int) : Bool := decide (1 ≤ n ∧ n ≤ 8)
theorem wide_calls (n : Int) (w : World) : Calls Tryd.prog 43 #[.int .i64 n] w fun e w' => e = .returned (.bool (wideS n)) ∧ w = w' := by
  by_cases h1 : 1 ≤ n
  · by_cases h2 : n ≤ 8
    · have e : wideS n = true := decide_eq_true ⟨h1, h2⟩
      rw [e]
      go_enter Tryd.func43, Tryd.ntmps43
      go_wp2
      go_ret
      exact ⟨rfl, rfl⟩
    · have e : wideS n = false := decide_eq_false (fun h => h2 h.2)
      rw [e]
      go_enter Tryd.func43, Tryd.ntmps43
      go_wp2
      go_ret
      exact ⟨rfl, rfl⟩
  · have e : wideS n = false := decide_eq_false (fun h => h1 h.1)
    rw [e]
    go_enter Tryd.func43, Tryd.ntmps43
    go_wp2
    go_ret
    exact ⟨rfl, rfl⟩

/-! ### numbers as octets, the lowest first -/
def leS : Nat → Int → List Int
  | 0, _ => []
  | k + 1, n => n % 256 :: leS k (n / 256)
theorem leS_len (k : Nat) : ∀ n, (leS k n).length = k := by
  induction k with
  | zero => intro n; rfl
  | succ k ih => intro n; simp [leS, ih]
theorem leS_wf (k : Nat) : ∀ n, ∀ x ∈ leS k n, 0 ≤ x ∧ x ≤ 255 := by
  induction k with
  | zero => intro n x hx; cases hx
  | succ k ih =>
    intro n x hx
    rcases List.mem_cons.1 hx with rfl | hx
    · omega
    · exact ih _ x hx
theorem leS_snoc (k : Nat) : ∀ n, leS (k + 1) n = leS k n ++ [n / 256 ^ k % 256] := by
  induction k with
  | zero => intro n; simp [leS]
  | succ k ih =>
    intro n
    rw [leS, ih, leS, List.cons_append, Int.pow_succ', Int.ediv_ediv_of_nonneg (by decide)]
def ofS : List Int → Int
  | [] => 0
  | b :: l => b + 256 * ofS l
theorem ofS_append (l : List Int) (b : Int) : ofS (l ++ [b]) = ofS l + b * 256 ^ l.length := by
  induction l with
  | nil => simp [ofS]
  | cons x l ih =>
    rw [List.cons_append, ofS, ih, ofS, List.length_cons, Int.pow_succ', Int.mul_add]
    have h := Int.mul_left_comm b 256 (256 ^ l.length)
    omega
theorem ofS_bd {l : List Int} (h : ∀ x ∈ l, 0 ≤ x ∧ x ≤ 255) : 0 ≤ ofS l ∧ ofS l < 256 ^ l.length := by
  induction l with
  | nil => simp [ofS]
  | cons x l ih =>
    have h1 := ih (fun y hy => h y (List.mem_cons_of_mem _ hy))
    have h2 := h x (List.mem_cons_self ..)
    rw [ofS, List.length_cons, Int.pow_succ']
    omega
theorem mod_split (n p : Int) (h : 0 < p) : n % 256 + 256 * (n / 256 % p) = n % (256 * p) := by
  have e1 := Int.mul_ediv_add_emod n 256
  have e2 := Int.mul_ediv_add_emod (n / 256) p
  have b1 := Int.emod_nonneg (n / 256) (show p ≠ 0 by omega)
  have b2 := Int.emod_lt_of_pos (n / 256) h
  have e3 : n = (n % 256 + 256 * (n / 256 % p)) + 256 * p * (n / 256 / p) := by
    rw [Int.mul_assoc]; omega
  have c1 : 0 ≤ n % 256 + 256 * (n / 256 % p) := by omega
  have c2 : n % 256 + 256 * (n / 256 % p) < 256 * p := by omega
  generalize n % 256 + 256 * (n / 256 % p) = y at *
  rw [e3, Int.add_mul_emod_self_left, Int.emod_eq_of_lt c1 c2]
theorem ofS_leS (k : Nat) : ∀ n : Int, ofS (leS k n) = n % 256 ^ k := by
  induction k with
  | zero => intro n; simp [leS, ofS]
  | succ k ih =>
    intro n
    rw [leS, ofS, ih (n / 256), Int.pow_succ', mod_split _ _ (Int.pow_pos (by decide))]
theorem leS_ofS {l : List Int} (h : ∀ x ∈ l, 0 ≤ x ∧ x ≤ 255) : leS l.length (ofS l) = l := by
  induction l with
  | nil => rfl
  | cons x l ih =>
    have h2 := h x (List.mem_cons_self ..)
    have h1 := ih (fun y hy => h y (List.mem_cons_of_mem _ hy))
    rw [List.length_cons, leS, ofS, show (x + 256 * ofS l) % 256 = x by omega, show (x + 256 * ofS l) / 256 = ofS l by omega, h1]
def numS (width n : Int) : List Int := if wideS width = true then leS width.toNat n else []
theorem numS_wf (width n : Int) : ∀ x ∈ numS width n, 0 ≤ x ∧ x ≤ 255 := by
  unfold numS; split
  · exact leS_wf _ _
  · intro x hx; cases hx
theorem numS_len (width n : Int) : (numS width n).length ≤ 8 := by
  unfold numS; split
  · rename_i h; have := of_decide_eq_true h; rw [leS_len]; omega
  · simp

theorem pow_256 (m : Nat) : (2 : Int) ^ (8 * m) = 256 ^ m := by rw [Int.pow_mul]; rfl
/-! ### octet.Put -/
set_option maxHeartbeats 2000000 in
theorem put_calls (a : Option Addr) (cap : Nat) (xs : List Int) (n width : Int) (w : World) (h : Row .u8 w a xs) (hlen : xs.length ≤ 1000000000) (n0 : 0 ≤ n) (n1 : n ≤ 18446744073709551615) :
    Calls Tryd.prog 23 #[.slice a xs.length cap, .int .u64 n, .int .i64 width] w fun e w' => ∃ v, e = .returned v ∧ Own .u8 5 w' w.heap.size v (xs ++ numS width n) ∧ Below w.heap.size w w' := by
  have CC := Lib.hid (fun w h => clone_calls a cap xs w h (by omega))
  have H := Lib.hid h; clear h
  cases hw : wideS width
  · have e : xs ++ numS width n = xs := by unfold numS; rw [hw]; simp
    have E := Lib.hid e; clear e
    have WC := Lib.hid (fun w => wide_calls width w)
    rw [hw] at WC
    go_enter Tryd.func23, Tryd.ntmps23
    go_wp2_with (first
      | (go_at_call 42; (with_reducible refine (CC.out _ H.out).mono ?_); rintro e w' ⟨v, rfl, ho, hb⟩; have HO := Lib.hid ho; have HB := Lib.hid hb; clear ho hb)
      | (go_at_call 43; (with_reducible refine (WC.out _).mono ?_); rintro e w' ⟨rfl, rfl⟩))
    go_ret
    exact ⟨_, rfl, by rw [E.out]; exact HO.out, HB.out⟩
  · have hw2 := of_decide_eq_true hw
    obtain ⟨k, rfl⟩ := Int.eq_ofNat_of_zero_le (show 0 ≤ width by omega)
    have e : xs ++ numS k n = xs ++ leS k n := by unfold numS; rw [hw]; simp
    have E := Lib.hid e; clear e
    have WC := Lib.hid (fun w => wide_calls k w)
    rw [hw] at WC
    clear hw
    go_enter Tryd.func23, Tryd.ntmps23
    go_wp2_with (first
      | (go_at_call 42; (with_reducible refine (CC.out _ H.out).mono ?_); rintro e w' ⟨v, rfl, ho, hb⟩; have HO := Lib.hid ho; have HB := Lib.hid hb; clear ho hb)
      | (go_at_call 43; (with_reducible refine (WC.out _).mono ?_); rintro e w' ⟨rfl, rfl⟩))
    go_loopw [7, 8, 16] (fun o i j wr => ∃ m : Nat, m ≤ k ∧ j = .int .i64 m ∧ Own .u8 5 wr w.heap.size o (xs ++ leS m n) ∧ Below w.heap.size w wr) (fun _ _ j _ => k - (intOf j).toNat)
    case atStart => exact ⟨0, by omega, rfl, by simpa [leS] using HO.out, HB.out⟩
    case round =>
      clear HO HB
      obtain ⟨m, hm, rfl, hown, hbel⟩ := hrel
      have HO := Lib.hid hown; clear hown
      have HB := Lib.hid hbel; clear hbel
      by_cases hlt : m < k
      · have z0 : 0 ≤ n / 2 ^ (8 * m) % 256 := Int.emod_nonneg _ (by decide)
        have z1 : n / 2 ^ (8 * m) % 256 ≤ 255 := by have := Int.emod_lt_of_pos (n / 2 ^ (8 * m)) (show (0:Int) < 256 by decide); omega
        have hl : (xs ++ leS m n).length ≤ 1000000010 := by rw [List.length_append, leS_len]; omega
        have S := Lib.hid (leS_snoc m n)
        rw [← pow_256] at S
        go_wp2_with (at_builtin; refine wp_app1 27 5 .u8 1 Tryd.underlying27 infoU8 rfl (.tmp 19) (.tmp 25) rfl w.heap.size _ (xs ++ leS m n) (n / 2 ^ (8 * m) % 256) (HO.out.alloc _) rfl _ rfl (by simp [go_sem]) (u8_wf z0 z1) (by omega) (by decide) (by have := HB.out.size; simp; omega) ?_; intro v' w1 hown1 hg1; have hb1 := Below.app (HB.out.alloc HB.out.size _) hg1 (HO.out.alloc _) (Nat.le_refl _) (by have := HB.out.size; simp; omega); have HO1 := Lib.hid hown1; have HB1 := Lib.hid hb1; clear hown1 hb1 hg1)
        go_roundw
        case rel => exact ⟨m + 1, by omega, by go_num, by rw [S.out, ← List.append_assoc]; exact HO1.out, HB1.out⟩
        case measure => simp [intOf]; omega
      · obtain rfl : m = k := by omega
        go_wp2
        go_ret
        exact ⟨_, rfl, by rw [E.out]; exact HO.out, HB.out⟩

/-! ### octet.number -/
theorem ofS_next {l : List Int} {k : Nat} (h : k < l.length) : ofS (l.take (k + 1)) = ofS (l.take k) + l.getD k 0 * 256 ^ k := by
  rw [take_next h, ofS_append, List.length_take, Nat.min_eq_left (by omega)]
theorem or_val {v c : Int} {k : Nat} (v0 : 0 ≤ v) (v1 : v < 256 ^ k) (c0 : 0 ≤ c) (c1 : c ≤ 255) (hk : k ≤ 7) :
    bits BinOp.or .u64 v (IntKind.u64.wrap (c * 2 ^ (8 * k))) = v + c * 256 ^ k := by
  obtain ⟨V, rfl⟩ := Int.eq_ofNat_of_zero_le v0
  obtain ⟨C, rfl⟩ := Int.eq_ofNat_of_zero_le c0
  rw [← pow_256] at v1 ⊢
  have e2 : (2 : Int) ^ (8 * k) = ((2 ^ (8 * k) : Nat) : Int) := by norm_cast
  rw [e2] at v1 ⊢
  have hp : 2 ^ (8 * k) ≤ 2 ^ 56 := Nat.pow_le_pow_right (by decide) (by omega)
  have h1 : V < 2 ^ (8 * k) := by omega
  have h2 : C * 2 ^ (8 * k) ≤ 255 * 2 ^ 56 := Nat.mul_le_mul (by omega) hp
  have h3 := Nat.two_pow_add_eq_or_of_lt h1 C
  rw [u64_def, show ((C : Int) * ((2 ^ (8 * k) : Nat) : Int)) = ((C * 2 ^ (8 * k) : Nat) : Int) by push_cast; rfl]
  rw [show ((C * 2 ^ (8 * k) : Nat) : Int) % 18446744073709551616 = ((C * 2 ^ (8 * k) : Nat) : Int) by omega]
  rw [u64_or_nat _ _ (by omega) (by omega), Nat.or_comm, Nat.mul_comm, ← h3]
  push_cast; omega
set_option maxHeartbeats 2000000 in
theorem number_calls (a : Option Addr) (cap : Nat) (xs : List Int) (w : World) (h : Row .u8 w a xs) (hlen : xs.length ≤ 8) :
    Calls Tryd.prog 50 #[.slice a xs.length cap] w fun e w' => e = .returned (.int .u64 (ofS xs)) ∧ w = w' := by
  have H := Lib.hid h; clear h
  go_enter Tryd.func50, Tryd.ntmps50
  go_wp2
  go_loop [3, 4, 5, 8] (fun n i c j => ∃ k : Nat, k ≤ xs.length ∧ j = .int .i64 k ∧ n = .int .u64 (ofS (xs.take k))) (fun _ _ _ j => xs.length - (intOf j).toNat)
  case atStart => exact ⟨0, by omega, rfl, rfl⟩
  case round =>
    obtain ⟨k, hk, rfl, rfl⟩ := hrel
    by_cases hlt : k < xs.length
    · obtain ⟨ad, rfl, hc, hwf⟩ := H.out.at_ hlt
      have hb := bounds_u8 hwf
      obtain ⟨b1, b2⟩ := hb
      have hbd := ofS_bd (l := xs.take k) (fun x hx => bounds_u8 (H.out.2.1 x (List.mem_of_mem_take hx)))
      rw [List.length_take, Nat.min_eq_left (by omega)] at hbd
      have HN := Lib.hid (ofS_next hlt)
      clear hwf
      generalize xs.getD k 0 = c at *
      generalize ofS (xs.take k) = v at *
      have er := or_val (v := v) (c := c) (k := k) hbd.1 hbd.2 b1 b2 (by omega)
      obtain ⟨r, hr⟩ : ∃ r, v + c * 256 ^ k = r := ⟨_, rfl⟩
      rw [hr] at er
      have HR := Lib.hid hr; clear hr hbd
      go_wp2
      go_round
      case rel => exact ⟨k + 1, by omega, by go_num, by rw [HN.out, HR.out]⟩
      case measure => simp [intOf]; omega
    · have : k = xs.length := by omega
      subst this
      go_wp2
      go_ret
      exact ⟨rfl, rfl⟩

/-! ### octet.At -/
theorem slice_mid {k : IntKind} {w : World} {a : Option Addr} {xs : List Int} (h : Row k w a xs) (i n : Nat) (hi : i + n ≤ xs.length) (ad : Addr) (ha : a = some ad) :
    Row k w (some (ad.add i)) ((xs.drop i).take n) := by
  subst ha
  obtain ⟨h1, h2, h3⟩ := h
  have hl : ((xs.drop i).take n).length = n := by rw [List.length_take, List.length_drop]; omega
  refine ⟨by omega, fun x hx => h2 x (List.mem_of_mem_drop (List.mem_of_mem_take hx)), fun hp => ⟨_, rfl, fun j hj => ?_⟩⟩
  rw [hl] at hp hj
  obtain ⟨ad', e, hc⟩ := h3 (by omega)
  simp only [Option.some.injEq] at e
  subst e
  have ea : (ad.add i).add j = ad.add (i + j) := by
    unfold Addr.add
    by_cases hi : i = 0 <;> by_cases hj : j = 0 <;> simp [hi, hj, Nat.add_assoc]
  rw [ea, hc (i + j) (by omega)]
  simp [List.getD_eq_getElem?_getD, List.getElem?_take, hj]
def atS (xs : List Int) (at_ width : Int) : Int × Bool :=
  if wideS width = true ∧ 0 ≤ at_ ∧ at_ + width ≤ xs.length then (ofS ((xs.drop at_.toNat).take width.toNat), true) else (0, false)
theorem ret_two {k : IntKind} {a a' : Int} {b b' : Bool} (h : (a, b) = (a', b')) : Ending.returned (.tuple #[.int k a, .bool b]) = .returned (.tuple #[.int k a', .bool b']) := by
  cases h; rfl
set_option maxHeartbeats 2000000 in
theorem at_calls (a : Option Addr) (cap : Nat) (xs : List Int) (at_ width : Int) (w : World) (h : Row .u8 w a xs) (hcap : xs.length ≤ cap) (hm : cap ≤ 9223372036854775807) (ha : I64 at_) (hwd : I64 width) :
    Calls Tryd.prog 61 #[.slice a xs.length cap, .int .i64 at_, .int .i64 width] w fun e w' => e = .returned (.tuple #[.int .u64 (atS xs at_ width).1, .bool (atS xs at_ width).2]) ∧ w = w' := by
  obtain ⟨a0, a1⟩ := ha
  obtain ⟨w0, w1⟩ := hwd
  have WC := Lib.hid (fun w => wide_calls width w)
  have H := Lib.hid h; clear h
  cases hw : wideS width
  · have e : atS xs at_ width = (0, false) := by unfold atS; rw [if_neg]; rw [hw]; exact fun h => by cases h.1
    have E := Lib.hid e; clear e
    rw [hw] at WC
    clear hw
    go_enter Tryd.func61, Tryd.ntmps61
    go_wp2_with (first | (go_at_call 43; (with_reducible refine (WC.out _).mono ?_); rintro e w' ⟨rfl, rfl⟩))
    go_ret2
    exact ⟨ret_two (by rw [E.out]), rfl⟩
  · have hw2 := of_decide_eq_true hw
    by_cases hc : 0 ≤ at_ ∧ at_ + width ≤ xs.length
    · obtain ⟨c0, c1⟩ := hc
      have e : atS xs at_ width = (ofS ((xs.drop at_.toNat).take width.toNat), true) := by unfold atS; rw [if_pos ⟨hw, c0, c1⟩]
      have E := Lib.hid e; clear e
      rw [hw] at WC
      clear hw
      obtain ⟨i, rfl⟩ := Int.eq_ofNat_of_zero_le c0
      obtain ⟨n, rfl⟩ := Int.eq_ofNat_of_zero_le (show 0 ≤ width by omega)
      obtain ⟨ad, hae, _⟩ := H.out.2.2 (by omega)
      subst hae
      have hl : ((xs.drop i).take n).length = n := by rw [List.length_take, List.length_drop]; omega
      have hr := slice_mid H.out i n (by omega) ad rfl
      have NC := fun (cap' : Nat) (w' : World) (h' : Row .u8 w' (some (ad.add i)) ((xs.drop i).take n)) => number_calls (some (ad.add i)) cap' _ w' h' (by omega)
      rw [hl] at NC
      have NN := Lib.hid NC; clear NC
      have HR := Lib.hid hr; clear hr hl
      go_enter Tryd.func61, Tryd.ntmps61
      go_wp2_with (first | (go_at_call 43; (with_reducible refine (WC.out _).mono ?_); rintro e w' ⟨rfl, rfl⟩) | (go_at_call 50; (with_reducible refine (NN.out _ _ HR.out).mono ?_); rintro e w' ⟨rfl, rfl⟩))
      go_ret2
      exact ⟨ret_two (by rw [E.out]; simp), rfl⟩
    · have e : atS xs at_ width = (0, false) := by unfold atS; rw [if_neg]; exact fun h => hc ⟨h.2.1, h.2.2⟩
      have E := Lib.hid e; clear e
      rw [hw] at WC
      clear hw
      by_cases c0 : at_ < 0
      · clear hc
        go_enter Tryd.func61, Tryd.ntmps61
        go_wp2_with (first | (go_at_call 43; (with_reducible refine (WC.out _).mono ?_); rintro e w' ⟨rfl, rfl⟩))
        go_ret2
        exact ⟨ret_two (by rw [E.out]), rfl⟩
      · obtain ⟨i, rfl⟩ := Int.eq_ofNat_of_zero_le (show 0 ≤ at_ by omega)
        by_cases c1 : xs.length < i
        · clear hc
          go_enter Tryd.func61, Tryd.ntmps61
          go_wp2_with (first | (go_at_call 43; (with_reducible refine (WC.out _).mono ?_); rintro e w' ⟨rfl, rfl⟩))
          go_ret2
          exact ⟨ret_two (by rw [E.out]), rfl⟩
        · have c2 : (xs.length : Int) - i < width := by omega
          clear hc
          go_enter Tryd.func61, Tryd.ntmps61
          go_wp2_with (first | (go_at_call 43; (with_reducible refine (WC.out _).mono ?_); rintro e w' ⟨rfl, rfl⟩))
          go_ret2
          exact ⟨ret_two (by rw [E.out]), rfl⟩
end Go.Proofs.YthmhpjpnlngaoaaDoor.Ct
