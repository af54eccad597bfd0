import Derived.Test.YtlopfchikacpeaaPlanF
import Derived.Deep.RegionWith
import Derived.Deep.DeepCutAuto
/-! What stands in each sector: the reference's rows; the map's places. -/
namespace Go.Proofs.Ytlopfchikacpeaa.Ct
open Go.RowKit
set_option linter.unusedVariables false
set_option linter.unusedSimpArgs false
def planN (bl pe pg lv lg sl : Nat) : Array Value := #[.int .i64 (bl : Int), .int .i64 (pe : Int), .int .i64 (pg : Int), .int .i64 (bl : Int), .int .i64 ((bl : Int) + 2 * pg), .int .i64 (lv : Int), .int .i64 (2 + (lv : Int) + lv), .int .i64 (lg : Int), .int .i64 (2 + (lv : Int) + lv + lg), .int .i64 (sl : Int), .int .i64 2, .int .i64 (2 + (lv : Int)), .int .i64 (2 + (lv : Int) + lv + lg + 2 * sl)]
def fB (bl : Nat) (j : Nat) : Thg := if j < bl then (1, (j : Int), 0) else (2, (((j - bl) / 2 : Nat) : Int), (((j - bl) % 2 : Nat) : Int))
def fC (lv lg : Nat) (j : Nat) : Thg :=
  if j < 2 then (3, (j : Int), 0) else if j < 2 + lv then (4, 0, ((j - 2 : Nat) : Int)) else if j < 2 + 2 * lv then (4, 1, ((j - 2 - lv : Nat) : Int)) else if j < 2 + 2 * lv + lg then (5, ((j - 2 - 2 * lv : Nat) : Int), 0)
  else (6 + (((j - 2 - 2 * lv - lg) % 2 : Nat) : Int), (((j - 2 - 2 * lv - lg) / 2 : Nat) : Int), 0)
theorem fB_one {bl k : Nat} (h : k < bl) : fB bl k = (1, (k : Int), 0) := by unfold fB; rw [if_pos h]
theorem fB_two (bl k c : Nat) (hc : c < 2) : fB bl (bl + 2 * k + c) = (2, (k : Int), (c : Int)) := by
  unfold fB; rw [if_neg (by omega)]; congr 2 <;> omega
theorem fC_leaf {lv lg r k : Nat} (hr : r < 2) (h : k < lv) : fC lv lg (2 + r * lv + k) = (4, (r : Int), (k : Int)) := by
  unfold fC
  have : r = 0 ∨ r = 1 := by omega
  rcases this with rfl | rfl
  · rw [if_neg (by omega), if_pos (by omega)]; congr 2; omega
  · rw [if_neg (by omega), if_neg (by omega), if_pos (by omega)]; congr 2; omega
theorem fC_log {lv lg k : Nat} (h : k < lg) : fC lv lg (2 + 2 * lv + k) = (5, (k : Int), 0) := by
  unfold fC; rw [if_neg (by omega), if_neg (by omega), if_neg (by omega), if_pos (by omega)]; congr 2; omega
theorem fC_slot {lv lg k c : Nat} (hc : c < 2) : fC lv lg (2 + 2 * lv + lg + 2 * k + c) = (6 + (c : Int), (k : Int), 0) := by
  unfold fC; rw [if_neg (by omega), if_neg (by omega), if_neg (by omega), if_neg (by omega)]
  have e1 : (2 + 2 * lv + lg + 2 * k + c - 2 - 2 * lv - lg) % 2 = c := by omega
  have e2 : (2 + 2 * lv + lg + 2 * k + c - 2 - 2 * lv - lg) / 2 = k := by omega
  rw [e1, e2]
theorem thgs_1 (g : Nat → Thg) {x : Thg} (h : g 0 = x) : [Value.int .i64 x.1, .int .i64 x.2.1, .int .i64 x.2.2] = thgs g 1 := by subst h; rfl
theorem thgs_2 (g : Nat → Thg) {x y : Thg} (h : g 0 = x) (h' : g 1 = y) : [Value.int .i64 x.1, .int .i64 x.2.1, .int .i64 x.2.2, .int .i64 y.1, .int .i64 y.2.1, .int .i64 y.2.2] = thgs g 2 := by subst h h'; rfl
def SMALL (bl pe pg lv lg sl : Nat) : Prop := bl ≤ 1000 ∧ pe ≤ 1000 ∧ pg ≤ 1000 ∧ lv ≤ 1000 ∧ lg ≤ 1000 ∧ sl ≤ 1000
set_option maxHeartbeats 2000000 in
theorem back_calls (bl pe pg lv lg sl : Nat) (w : World) (hs : SMALL bl pe pg lv lg sl) :
    Calls Try.prog 19 #[.agg (planN bl pe pg lv lg sl)] w fun e w' => ∃ v, e = .returned v ∧ OwnT w' w.heap.size v (bl + 2 * pg) (fB bl) ∧ Below w.heap.size w w' := by
  have HB0 := Lib.hid (Below.refl w.heap.size w)
  obtain ⟨C, hC⟩ : ∃ C, planN bl pe pg lv lg sl = C := ⟨_, rfl⟩
  rw [hC]
  have HC : Hid (C = planN bl pe pg lv lg sl) := Lib.hid hC.symm
  clear hC
  obtain ⟨s1, s2, s3, s4, s5, s6⟩ := hs
  go_enter Try.func19, Try.ntmps19
  go_wp2
  have HW : Hid (Blk (w.alloc (.cells C 28)) w.heap.size 28 C) := Lib.hid (Blk.new _ _ _)
  obtain ⟨W, hWd⟩ : ∃ W, W = w.alloc (.cells C 28) := ⟨_, rfl⟩
  rw [← hWd] at HW ⊢
  have HWd := Lib.hid hWd; clear hWd
  go_loopw [3, 4] (fun a i wr => ∃ k : Nat, k ≤ bl ∧ i = .int .i64 (k : Int) ∧ OwnT wr W.heap.size a k (fB bl) ∧ Below W.heap.size W wr) (fun _ i _ => bl - (intOf i).toNat)
  case atStart => exact ⟨0, by omega, rfl, World.ownsRow_nil _ _ _ _, Below.refl _ _⟩
  case round =>
    obtain ⟨k, hk, rfl, ho, hbel⟩ := hrel
    have HO := Lib.hid ho; have HB := Lib.hid hbel
    have HBK := Lib.hid (HW.out.below hbel)
    have c0 : wr.cell? ⟨w.heap.size, 0, none⟩ = some (.int .i64 (bl : Int)) := (HBK.out.cell 0).trans (by rw [HC.out]; rfl)
    clear ho hbel
    by_cases hlt : k < bl
    · have E1 := Lib.hid (fB_one hlt)
      go_wp2_with (at_builtin; refine wp_appT rfl (.tmp 12) (.tmp 15) rfl W.heap.size _ (k) 1 (fB bl) rfl _ rfl (by repeat (first | with_reducible apply OwnT.alloc | with_reducible apply OwnT.drewN | exact HO.out)) _ (thgs_1 _ E1.out) ⟨_, _, heap_alloc_new _ _⟩ (by omega) (by have := HB.out.size; simp; omega) ?_; intro v3 w3 hown hg; have HB3 := Lib.hid (below_appT (base := W.heap.size) (N := k) (f := fB bl) (by repeat (first | with_reducible exact HB.out | with_reducible apply below_alloc | with_reducible apply below_drewN | with_reducible apply below_drew)) hg (by repeat (first | with_reducible apply OwnT.alloc | with_reducible apply OwnT.drewN | exact HO.out)) (Nat.le_refl _) (by have := HB.out.size; simp; omega)); have HO3 := Lib.hid hown; clear hown hg)
      exact ⟨⟨k + 1, by omega, by go_num, HO3.out, HB3.out⟩, by simp [intOf]; omega⟩
    · obtain rfl : k = bl := by omega
      go_wp2
      go_loopw [3, 5] (fun a i wr => ∃ q : Nat, q ≤ pg ∧ i = .int .i64 (q : Int) ∧ OwnT wr W.heap.size a (k + 2 * q) (fB k) ∧ Below W.heap.size W wr) (fun _ i _ => pg - (intOf i).toNat)
      case atStart => exact ⟨0, by omega, rfl, HO.out, HB.out⟩
      case round =>
        clear HO HB HBK c0
        obtain ⟨q, hq, rfl, ho, hbel⟩ := hrel
        have HO := Lib.hid ho; have HB := Lib.hid hbel
        have HBK := Lib.hid (HW.out.below hbel)
        have c2 := (HBK.out.cell 2).trans (show C[2]? = some (.int .i64 (pg : Int)) by rw [HC.out]; rfl)
        clear ho hbel
        by_cases hlt2 : q < pg
        · have E1 := Lib.hid (fB_two k q 0 (by omega))
          have E2 := Lib.hid (fB_two k q 1 (by omega))
          go_wp2_with (at_builtin; refine wp_appT rfl (.tmp 23) (.tmp 28) rfl W.heap.size _ (k + 2 * q) 2 (fB k) rfl _ rfl (by repeat (first | with_reducible apply OwnT.alloc | with_reducible apply OwnT.drewN | exact HO.out)) _ (thgs_2 _ E1.out E2.out) ⟨_, _, heap_alloc_new _ _⟩ (by omega) (by have := HB.out.size; simp; omega) ?_; intro v3 w3 hown hg; have HB3 := Lib.hid (below_appT (base := W.heap.size) (N := k + 2 * q) (f := fB k) (by repeat (first | with_reducible exact HB.out | with_reducible apply below_alloc | with_reducible apply below_drewN | with_reducible apply below_drew)) hg (by repeat (first | with_reducible apply OwnT.alloc | with_reducible apply OwnT.drewN | exact HO.out)) (Nat.le_refl _) (by have := HB.out.size; simp; omega)); have HO3 := Lib.hid hown; clear hown hg)
          exact ⟨⟨q + 1, by omega, by go_num, HO3.out, HB3.out⟩, by simp [intOf]; omega⟩
        · obtain rfl : q = pg := by omega
          go_wp2
          go_ret
          have hw : w.heap.size ≤ W.heap.size := by rw [HWd.out]; simp
          have hb : Below w.heap.size w W := by rw [HWd.out]; exact below_alloc (Below.refl _ _) _
          exact ⟨_, rfl, HO.out.mono hw, below_step hb HB.out⟩
set_option maxHeartbeats 4000000 in
theorem cache_calls (bl pe pg lv lg sl : Nat) (w : World) (hs : SMALL bl pe pg lv lg sl) :
    Calls Try.prog 20 #[.agg (planN bl pe pg lv lg sl)] w fun e w' => ∃ v, e = .returned v ∧ OwnT w' w.heap.size v (2 + 2 * lv + lg + 2 * sl) (fC lv lg) ∧ Below w.heap.size w w' := by
  have HB0 := Lib.hid (Below.refl w.heap.size w)
  obtain ⟨C, hC⟩ : ∃ C, planN bl pe pg lv lg sl = C := ⟨_, rfl⟩
  rw [hC]
  have HC : Hid (C = planN bl pe pg lv lg sl) := Lib.hid hC.symm
  clear hC
  obtain ⟨s1, s2, s3, s4, s5, s6⟩ := hs
  go_enter Try.func20, Try.ntmps20
  go_upto_region 1 with fail
  have HW : Hid (Blk (w.alloc (.cells C 28)) w.heap.size 28 C) := Lib.hid (Blk.new _ _ _)
  obtain ⟨W, hWd⟩ : ∃ W, W = w.alloc (.cells C 28) := ⟨_, rfl⟩
  rw [← hWd] at HW ⊢
  have HWd := Lib.hid hWd; clear hWd
  go_wp2
  have HO0 : Hid (OwnT (W.alloc (.cells #[.int .i64 3, .int .i64 0, .int .i64 0, .int .i64 3, .int .i64 1, .int .i64 0] 61)) W.heap.size (.slice (some ⟨W.heap.size, 0, none⟩) 2 2) 2 (fC lv lg)) := Lib.hid (by
    have e : (#[.int .i64 3, .int .i64 0, .int .i64 0, .int .i64 3, .int .i64 1, .int .i64 0] : Array Value).toList = thgs (fC lv lg) 2 := thgs_2 (fC lv lg) (x := (3, 0, 0)) (y := (3, 1, 0)) rfl rfl
    unfold OwnT
    rw [← e]
    exact World.ownsRow_lit W _ 2 (Nat.le_refl _) (by unfold maxLen; decide) (by decide))
  have HB1 := Lib.hid (below_alloc (Below.refl W.heap.size W) (.cells #[.int .i64 3, .int .i64 0, .int .i64 0, .int .i64 3, .int .i64 1, .int .i64 0] 61))
  go_loopw [3, 4, 5] (fun a i _ wr => ∃ r : Nat, r ≤ 2 ∧ i = .int .i64 (r : Int) ∧ OwnT wr W.heap.size a (2 + r * lv) (fC lv lg) ∧ Below W.heap.size W wr) (fun _ i _ _ => 2 - (intOf i).toNat)
  case atStart => exact ⟨0, by omega, rfl, by rw [Nat.zero_mul]; exact HO0.out, HB1.out⟩
  case round =>
    clear HO0 HB1
    obtain ⟨r, hr, rfl, ho, hbel⟩ := hrel
    have HO := Lib.hid ho; have HB := Lib.hid hbel
    clear ho hbel
    by_cases hlt : r < 2
    · have hlti : (r : Int) < 2 := by omega
      go_wp2
      go_loopw [3, 5] (fun a i wr => ∃ q : Nat, q ≤ lv ∧ i = .int .i64 (q : Int) ∧ OwnT wr W.heap.size a (2 + r * lv + q) (fC lv lg) ∧ Below W.heap.size W wr) (fun _ i _ => lv - (intOf i).toNat)
      case atStart => exact ⟨0, by omega, rfl, HO.out, HB.out⟩
      case round =>
        clear HO HB
        obtain ⟨q, hq, rfl, ho, hbel⟩ := hrel
        have HO := Lib.hid ho; have HB := Lib.hid hbel
        have HBK := Lib.hid (HW.out.below hbel)
        have c5 := (HBK.out.cell 5).trans (show C[5]? = some (.int .i64 (lv : Int)) by rw [HC.out]; rfl)
        clear ho hbel
        by_cases hlt2 : q < lv
        · have E1 := Lib.hid (fC_leaf (lg := lg) hlt hlt2)
          have hmul : r * lv ≤ 2000 := by have : r = 0 ∨ r = 1 := by omega
                                          rcases this with rfl | rfl <;> omega
          go_wp2_with (at_builtin; refine wp_appT rfl (.tmp 21) (.tmp 25) rfl W.heap.size _ (2 + r * lv + q) 1 (fC lv lg) rfl _ rfl (by repeat (first | with_reducible apply OwnT.alloc | with_reducible apply OwnT.drewN | exact HO.out)) _ (thgs_1 _ E1.out) ⟨_, _, heap_alloc_new _ _⟩ (by omega) (by have := HB.out.size; simp; omega) ?_; intro v3 w3 hown hg; have HB3 := Lib.hid (below_appT (base := W.heap.size) (N := 2 + r * lv + q) (f := (fC lv lg)) (by repeat (first | with_reducible exact HB.out | with_reducible apply below_alloc | with_reducible apply below_drewN | with_reducible apply below_drew)) hg (by repeat (first | with_reducible apply OwnT.alloc | with_reducible apply OwnT.drewN | exact HO.out)) (Nat.le_refl _) (by have := HB.out.size; simp; omega)); have HO3 := Lib.hid hown; clear hown hg)
          go_roundw
          case rel => exact ⟨q + 1, by omega, by go_num, HO3.out, HB3.out⟩
          case measure => simp [intOf]; omega
        · obtain rfl : q = lv := by omega
          have HRL := Lib.hid (show 2 + (r + 1) * q = 2 + r * q + q by rw [Nat.add_mul]; omega)
          go_wp2
          go_roundw
          case rel => exact ⟨r + 1, by omega, by go_num, by rw [HRL.out]; exact HO.out, HB.out⟩
          case measure => simp [intOf]; omega
    · obtain rfl : r = 2 := by omega
      rw [show ((2 : Nat) : Int) = 2 from rfl]
      go_wp2
      go_loopw [3, 6] (fun a i wr => ∃ q : Nat, q ≤ lg ∧ i = .int .i64 (q : Int) ∧ OwnT wr W.heap.size a (2 + 2 * lv + q) (fC lv lg) ∧ Below W.heap.size W wr) (fun _ i _ => lg - (intOf i).toNat)
      case atStart => exact ⟨0, by omega, rfl, HO.out, HB.out⟩
      case round =>
        clear HO HB
        obtain ⟨q, hq, rfl, ho, hbel⟩ := hrel
        have HO := Lib.hid ho; have HB := Lib.hid hbel
        have HBK := Lib.hid (HW.out.below hbel)
        have c7 := (HBK.out.cell 7).trans (show C[7]? = some (.int .i64 (lg : Int)) by rw [HC.out]; rfl)
        clear ho hbel
        by_cases hlt2 : q < lg
        · have E1 := Lib.hid (fC_log (lv := lv) hlt2)
          go_wp2_with (at_builtin; refine wp_appT rfl (.tmp 33) (.tmp 36) rfl W.heap.size _ (2 + 2 * lv + q) 1 (fC lv lg) rfl _ rfl (by repeat (first | with_reducible apply OwnT.alloc | with_reducible apply OwnT.drewN | exact HO.out)) _ (thgs_1 _ E1.out) ⟨_, _, heap_alloc_new _ _⟩ (by omega) (by have := HB.out.size; simp; omega) ?_; intro v3 w3 hown hg; have HB3 := Lib.hid (below_appT (base := W.heap.size) (N := 2 + 2 * lv + q) (f := (fC lv lg)) (by repeat (first | with_reducible exact HB.out | with_reducible apply below_alloc | with_reducible apply below_drewN | with_reducible apply below_drew)) hg (by repeat (first | with_reducible apply OwnT.alloc | with_reducible apply OwnT.drewN | exact HO.out)) (Nat.le_refl _) (by have := HB.out.size; simp; omega)); have HO3 := Lib.hid hown; clear hown hg)
          go_roundw
          case rel => exact ⟨q + 1, by omega, by go_num, HO3.out, HB3.out⟩
          case measure => simp [intOf]; omega
        · obtain rfl : q = lg := by omega
          go_wp2
          go_loopw [3, 7] (fun a i wr => ∃ k : Nat, k ≤ sl ∧ i = .int .i64 (k : Int) ∧ OwnT wr W.heap.size a (2 + 2 * lv + q + 2 * k) (fC lv q) ∧ Below W.heap.size W wr) (fun _ i _ => sl - (intOf i).toNat)
          case atStart => exact ⟨0, by omega, rfl, HO.out, HB.out⟩
          case round =>
            clear HO HB HBK c7
            obtain ⟨k, hk, rfl, ho, hbel⟩ := hrel
            have HO := Lib.hid ho; have HB := Lib.hid hbel
            have HBK := Lib.hid (HW.out.below hbel)
            have c9 := (HBK.out.cell 9).trans (show C[9]? = some (.int .i64 (sl : Int)) by rw [HC.out]; rfl)
            clear ho hbel
            by_cases hlt3 : k < sl
            · have E1 := Lib.hid (fC_slot (lv := lv) (lg := q) (k := k) (c := 0) (by omega))
              have E2 := Lib.hid (fC_slot (lv := lv) (lg := q) (k := k) (c := 1) (by omega))
              go_wp2_with (at_builtin; refine wp_appT rfl (.tmp 44) (.tmp 49) rfl W.heap.size _ (2 + 2 * lv + q + 2 * k) 2 (fC lv q) rfl _ rfl (by repeat (first | with_reducible apply OwnT.alloc | with_reducible apply OwnT.drewN | exact HO.out)) _ (thgs_2 _ E1.out E2.out) ⟨_, _, heap_alloc_new _ _⟩ (by omega) (by have := HB.out.size; simp; omega) ?_; intro v3 w3 hown hg; have HB3 := Lib.hid (below_appT (base := W.heap.size) (N := 2 + 2 * lv + q + 2 * k) (f := (fC lv q)) (by repeat (first | with_reducible exact HB.out | with_reducible apply below_alloc | with_reducible apply below_drewN | with_reducible apply below_drew)) hg (by repeat (first | with_reducible apply OwnT.alloc | with_reducible apply OwnT.drewN | exact HO.out)) (Nat.le_refl _) (by have := HB.out.size; simp; omega)); have HO3 := Lib.hid hown; clear hown hg)
              go_roundw
              case rel => exact ⟨k + 1, by omega, by go_num, HO3.out, HB3.out⟩
              case measure => simp [intOf]; omega
            · obtain rfl : k = sl := by omega
              go_wp2
              go_ret
              have hw : w.heap.size ≤ W.heap.size := by rw [HWd.out]; simp
              have hb : Below w.heap.size w W := by rw [HWd.out]; exact below_alloc (Below.refl _ _) _
              exact ⟨_, rfl, HO.out.mono hw, below_step hb HB.out⟩
set_option maxHeartbeats 2000000 in
theorem place_calls (v : Value) (N : Nat) (f : Nat → Thg) (x0 x1 x2 at_ : Int) (ok : Bool) (w : World) (h : RowT w v N f) (hs : Spot f N (x0, x1, x2) at_ ok) :
    Calls Try.prog 26 #[v, .agg #[.int .i64 x0, .int .i64 x1, .int .i64 x2], .int .i64 at_, .bool ok] w fun e w' => e = .returned (.bool true) ∧ Below w.heap.size w w' := by
  have AC := Lib.hid (fun w' (hb : Below w.heap.size w w') => at_thing v N f (x0, x1, x2) w' (h.below hb))
  have HB0 := Lib.hid (Below.refl w.heap.size w)
  clear h
  have key : ∀ r, AtIs f N (x0, x1, x2) r → (r = -1 ∧ ok = false ∧ at_ = 0) ∨ (∃ k : Nat, r = k ∧ ok = true ∧ at_ = k) := by
    intro r hr
    rcases hr with ⟨h1, h2⟩ | ⟨k, h1, h2, h3, h4⟩
    · rcases hs with ⟨g1, g2, g3⟩ | ⟨g1, j, g2, g3, g4, g5⟩
      · exact .inl ⟨h1, g1, g2⟩
      · exact absurd g4 (h2 j g2)
    · rcases hs with ⟨g1, g2, g3⟩ | ⟨g1, j, g2, g3, g4, g5⟩
      · exact absurd h3 (g3 k h1)
      · have : j = k := by
          rcases Nat.lt_trichotomy j k with h | h | h
          · exact absurd g4 (h4 j h)
          · exact h
          · exact absurd h3 (g5 k h)
        subst this
        exact .inr ⟨j, h2, g1, g3⟩
  have KEY := Lib.hid key
  clear key hs
  go_enter Try.func26, Try.ntmps26
  go_upto_region 2 with (go_at_call 35; (with_reducible refine (AC.out _ (by repeat (first | with_reducible exact HB0.out | with_reducible apply below_alloc | with_reducible apply below_drewN | with_reducible apply below_drew))).mono ?_); rintro e w1 ⟨r, rfl, hr, hb⟩; have HB1 := Lib.hid (below_step (by repeat (first | with_reducible exact HB0.out | with_reducible apply below_alloc | with_reducible apply below_drewN | with_reducible apply below_drew)) hb); have HR := Lib.hid (KEY.out r hr); clear hb hr)
  rcases HR.out with ⟨rfl, rfl, rfl⟩ | ⟨k, rfl, rfl, rfl⟩
  · go_wp2
    go_ret
    exact ⟨rfl, HB1.out⟩
  · go_wp2
    go_ret
    exact ⟨rfl, HB1.out⟩
end Go.Proofs.Ytlopfchikacpeaa.Ct
