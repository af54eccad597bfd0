import Derived.Test.YtejhoobecladiaaPlaH
/-! Chapter 27, the reference: Has, Put, Of. -/
namespace Go.Proofs.Ytejhoobecladiaa.Ct
open Go.RowKit
set_option linter.unusedVariables false
set_option linter.unusedSimpArgs false
/-- a slot's four cells. -/
def celR (s : Nat → One27) (j : Nat) : Value := if j % 4 = 0 then .bool (decide ((s (j / 4)).lba ≠ 0)) else if j % 4 = 1 then .bool (s (j / 4)).sure else if j % 4 = 2 then .int .i64 (((s (j / 4)).lba - 1 : Nat) : Int) else .int .u64 (s (j / 4)).tag
theorem celR_0 (s : Nat → One27) (i : Nat) : celR s (i * 4) = .bool (decide ((s i).lba ≠ 0)) := by
  unfold celR
  rw [if_pos (by omega), show i * 4 / 4 = i by omega]
theorem celR_1 (s : Nat → One27) (i : Nat) : celR s (i * 4 + 1) = .bool (s i).sure := by
  unfold celR
  rw [if_neg (by omega), if_pos (by omega), show (i * 4 + 1) / 4 = i by omega]
theorem celR_2 (s : Nat → One27) (i : Nat) : celR s (i * 4 + 2) = .int .i64 (((s i).lba - 1 : Nat) : Int) := by
  unfold celR
  rw [if_neg (by omega), if_neg (by omega), if_pos (by omega), show (i * 4 + 2) / 4 = i by omega]
theorem celR_3 (s : Nat → One27) (i : Nat) : celR s (i * 4 + 3) = .int .u64 (s i).tag := by
  unfold celR
  rw [if_neg (by omega), if_neg (by omega), if_neg (by omega), show (i * 4 + 3) / 4 = i by omega]
theorem celR_upd (s : Nat → One27) (i : Nat) (v : One27) : updV (updV (updV (updV (celR s) (i * 4) (.bool (decide (v.lba ≠ 0)))) (i * 4 + 1) (.bool v.sure)) (i * 4 + 2) (.int .i64 ((v.lba - 1 : Nat) : Int))) (i * 4 + 3) (.int .u64 v.tag) = celR (updO s i v) := by
  funext j
  unfold updV
  by_cases h3 : j = i * 4 + 3
  · subst h3; rw [if_pos rfl, celR_3, updO_eq]
  · rw [if_neg h3]
    by_cases h2 : j = i * 4 + 2
    · subst h2; rw [if_pos rfl, celR_2, updO_eq]
    · rw [if_neg h2]
      by_cases h1 : j = i * 4 + 1
      · subst h1; rw [if_pos rfl, celR_1, updO_eq]
      · rw [if_neg h1]
        by_cases h0 : j = i * 4
        · subst h0; rw [if_pos rfl, celR_0, updO_eq]
        · rw [if_neg h0]
          unfold celR
          rw [updO_ne (by omega)]
def updV' := updV
/-- a reference's row in memory. -/
structure RS (base : Nat) (w : World) (x gl n m : Nat) (s : Nat → One27) : Prop where
  bx : base ≤ x
  bl : base ≤ gl
  kx : Blk w x 54 #[.int .i64 (n : Int), .slice (some ⟨gl, 0, none⟩) m m]
  kl : Blk w gl 51 (valsV (celR s) (m * 4)).toArray
section
variable {base x gl n m : Nat} {w w1 : World} {s : Nat → One27}
theorem RS.below (h : RS base w x gl n m s) (hb : Below w.heap.size w w1) : RS base w1 x gl n m s := ⟨h.bx, h.bl, h.kx.below hb, h.kl.below hb⟩
theorem RS.alloc (h : RS base w x gl n m s) (o : Obj) : RS base (w.alloc o) x gl n m s := h.below (below_alloc (Below.refl _ _) _)
theorem RS.drew (h : RS base w x gl n m s) : RS base w.drew x gl n m s := h.below (below_drew (Below.refl _ _))
theorem RS.drewN (h : RS base w x gl n m s) (k : Nat) : RS base (w.drewN k) x gl n m s := h.below (below_drewN (Below.refl _ _) _)
theorem RS.tchS {S : Nat → Prop} (h : RS base w x gl n m s) (ht : TchS S w w1) (h1 : ¬ S x) (h2 : ¬ S gl) : RS base w1 x gl n m s := ⟨h.bx, h.bl, h.kx.tchS ht h1, h.kl.tchS ht h2⟩
theorem RS.cx (h : RS base w x gl n m s) : w.cell? ⟨x, 0, none⟩ = some (.int .i64 (n : Int)) ∧ w.cell? ⟨x, 1, none⟩ = some (.slice (some ⟨gl, 0, none⟩) m m) := ⟨h.kx.cell 0, h.kx.cell 1⟩
theorem RS.cl (h : RS base w x gl n m s) {i : Nat} (hi : i < m) : w.cell? ⟨gl, i * 4, none⟩ = some (.bool (decide ((s i).lba ≠ 0))) ∧ w.cell? ⟨gl, i * 4 + 1, none⟩ = some (.bool (s i).sure) ∧ w.cell? ⟨gl, i * 4 + 2, none⟩ = some (.int .i64 (((s i).lba - 1 : Nat) : Int)) ∧ w.cell? ⟨gl, i * 4 + 3, none⟩ = some (.int .u64 (s i).tag) :=
  ⟨(h.kl.cell _).trans ((valsV_get _ (by omega)).trans (by rw [celR_0])), (h.kl.cell _).trans ((valsV_get _ (by omega)).trans (by rw [celR_1])), (h.kl.cell _).trans ((valsV_get _ (by omega)).trans (by rw [celR_2])), (h.kl.cell _).trans ((valsV_get _ (by omega)).trans (by rw [celR_3]))⟩
theorem RS.ne (h : RS base w x gl n m s) : x ≠ gl := h.kx.ne_ h.kl (by decide)
theorem RS.fz (h : RS base w x gl n m s) (i : Nat) : w.frozen? ⟨gl, i, none⟩ = false := h.kl.frozen i
theorem RS.setL (h : RS base w x gl n m s) (i : Nat) (v : One27) :
    RS base ((((w.setCell ⟨gl, i * 4, none⟩ (.bool (decide (v.lba ≠ 0)))).setCell ⟨gl, i * 4 + 1, none⟩ (.bool v.sure)).setCell ⟨gl, i * 4 + 2, none⟩ (.int .i64 ((v.lba - 1 : Nat) : Int))).setCell ⟨gl, i * 4 + 3, none⟩ (.int .u64 v.tag)) x gl n m (updO s i v) := by
  have n1 := h.ne
  refine ⟨h.bx, h.bl, (((h.kx.far (by simpa using n1) _).far (by simpa using n1) _).far (by simpa using n1) _).far (by simpa using n1) _, ?_⟩
  have h3 := (((h.kl.set_ (i * 4) (.bool (decide (v.lba ≠ 0)))).set_ (i * 4 + 1) (.bool v.sure)).set_ (i * 4 + 2) (.int .i64 ((v.lba - 1 : Nat) : Int))).set_ (i * 4 + 3) (.int .u64 v.tag)
  rw [valsV_upd, valsV_upd, valsV_upd, valsV_upd, celR_upd] at h3
  exact h3
/-- the block that a reference's row is written in. -/
def MineR (gl : Nat) : Nat → Prop := fun b => b = gl
theorem rhas_calls (h : RS base w x gl n m s) (l : Int) :
    Calls Try.prog 21 #[.pointer (some ⟨x, 0, none⟩), .int .i64 l] w fun e w' => e = .returned (.bool (hasZ m s l)) ∧ w = w' := by
  obtain ⟨c0, c1⟩ := h.cx
  cases hl : inZ m l with
  | false =>
    have e : hasZ m s l = false := by unfold hasZ; rw [hl]; rfl
    rw [e]
    clear h
    rcases inZ_false hl with h1 | h1
    · go_enter Try.func21, Try.ntmps21
      go_wp2
      go_ret
      exact ⟨rfl, rfl⟩
    · have h2 : ¬ l < 0 := by omega
      have h3 : 0 ≤ l := by omega
      have h4 : ¬ l < m := by omega
      go_enter Try.func21, Try.ntmps21
      go_wp2
      go_ret
      exact ⟨rfl, rfl⟩
  | true =>
    obtain ⟨i, rfl, hi⟩ := inZ_true hl
    have e : hasZ m s i = decide ((s i).lba ≠ 0) := by unfold hasZ; rw [hl]; rfl
    rw [e]
    obtain ⟨e0, e1, e2, e3⟩ := h.cl hi
    have hii : (i : Int) < m := by omega
    clear h hl
    generalize decide ((s i).lba ≠ 0) = sm at *
    go_enter Try.func21, Try.ntmps21
    go_wp2
    go_ret
    exact ⟨rfl, rfl⟩
theorem rput_bad (h : RS base w x gl n m s) (i b t : Int) (u : Bool) (hb : ¬ (inZ m i = true ∧ inZ n b = true)) :
    Calls Try.prog 20 #[.pointer (some ⟨x, 0, none⟩), .int .i64 i, .int .i64 b, .int .u64 t, .bool u] w fun e w' => e = .returned (.bool false) ∧ w = w' := by
  obtain ⟨c0, c1⟩ := h.cx
  have hc : i < 0 ∨ (¬ i < 0 ∧ (m : Int) ≤ i) ∨ (¬ i < 0 ∧ ¬ (m : Int) ≤ i ∧ b < 0) ∨ (¬ i < 0 ∧ ¬ (m : Int) ≤ i ∧ ¬ b < 0 ∧ (n : Int) ≤ b) := by
    unfold inZ at hb
    simp only [decide_eq_true_eq] at hb
    omega
  clear h hb
  rcases hc with h1 | ⟨h1, h2⟩ | ⟨h1, h2, h3⟩ | ⟨h1, h2, h3, h4⟩
  all_goals (
    go_enter Try.func20, Try.ntmps20
    go_wp2
    go_ret
    exact ⟨rfl, rfl⟩)
/-- below k each slot that has a block is emptied. -/
def clr27 (s : Nat → One27) (b k : Nat) : Nat → One27 := fun j => if j < k ∧ (s j).lba = b + 1 then o27 else s j
theorem clr27_hit {s : Nat → One27} {b k : Nat} (h : (s k).lba = b + 1) : clr27 s b (k + 1) = updO (clr27 s b k) k o27 := by
  funext j
  show (if j < k + 1 ∧ (s j).lba = b + 1 then o27 else s j) = if j = k then o27 else if j < k ∧ (s j).lba = b + 1 then o27 else s j
  by_cases e : j = k
  · subst e; rw [if_pos ⟨by omega, h⟩, if_pos rfl]
  · rw [if_neg e]
    by_cases h1 : j < k ∧ (s j).lba = b + 1
    · rw [if_pos h1, if_pos ⟨by omega, h1.2⟩]
    · rw [if_neg h1, if_neg (fun h2 => h1 ⟨by omega, h2.2⟩)]
theorem clr27_miss {s : Nat → One27} {b k : Nat} (h : (s k).lba ≠ b + 1) : clr27 s b (k + 1) = clr27 s b k := by
  funext j
  unfold clr27
  by_cases h1 : j < k ∧ (s j).lba = b + 1
  · rw [if_pos h1, if_pos ⟨by omega, h1.2⟩]
  · rw [if_neg h1, if_neg (fun h2 => h1 ⟨by
      have : j ≠ k := fun e => h (e ▸ h2.2)
      omega, h2.2⟩)]
theorem clr27_at (s : Nat → One27) (b k : Nat) : clr27 s b k k = s k := if_neg (fun h => by omega)
theorem putR_clr {s : Nat → One27} {b m i : Nat} (hf : ∀ j, m ≤ j → (s j).lba = 0) (t : Int) (u : Bool) : updO (clr27 s b m) i ⟨b + 1, t, u⟩ = putR27 s i b t u := by
  unfold putR27
  congr 1
  funext j
  unfold clr27
  by_cases h : (s j).lba = b + 1
  · rw [if_pos h, if_pos ⟨by
      rcases Nat.lt_or_ge j m with h1 | h1
      · exact h1
      · have := hf j h1; omega, h⟩]
  · rw [if_neg h, if_neg (fun h1 => h h1.2)]
set_option maxHeartbeats 8000000 in
theorem rput_in (h : RS base w x gl n m s) (hf : ∀ j, m ≤ j → (s j).lba = 0) (hm : m ≤ 100000) (hn : n ≤ 100000) {i b : Nat} (hi : i < m) (hb : b < n) (t : Int) (u : Bool) :
    Calls Try.prog 20 #[.pointer (some ⟨x, 0, none⟩), .int .i64 i, .int .i64 b, .int .u64 t, .bool u] w fun e w' => e = .returned (.bool true) ∧ RS base w' x gl n m (putR27 s i b t u) ∧ TchS (MineR gl) w w' := by
  obtain ⟨c0, c1⟩ := h.cx
  have H := Lib.hid h
  have hi0 : ¬ (i : Int) < 0 := by omega
  have hi1 : ¬ (m : Int) ≤ i := by omega
  have hb0 : ¬ (b : Int) < 0 := by omega
  have hb1 : ¬ (n : Int) ≤ b := by omega
  rw [← putR_clr hf (i := i)]
  clear h hf
  go_enter Try.func20, Try.ntmps20
  go_wp2
  clear c0 c1
  go_loopw [11] (fun v wr => ∃ k : Nat, k ≤ m ∧ v = .int .i64 k ∧ RS base wr x gl n m (clr27 s b k) ∧ TchS (MineR gl) w wr) (fun v _ => m - (intOf v).toNat)
  case atStart => exact ⟨0, by omega, rfl, by
    have : clr27 s b 0 = s := by funext j; exact if_neg (fun h => by omega)
    rw [this]; exact H.out, TchS.refl _ _⟩
  case round =>
    obtain ⟨k, hk, rfl, hr, ht⟩ := hrel
    have HR := Lib.hid hr
    have HT := Lib.hid ht
    clear hr ht H
    obtain ⟨c0, c1⟩ := HR.out.cx
    by_cases hlt : k < m
    · have hki : (k : Int) < m := by omega
      obtain ⟨e0, e1, e2, e3⟩ := HR.out.cl hlt
      have f0 := HR.out.fz (k * 4)
      have f1 := HR.out.fz (k * 4 + 1)
      have f2 := HR.out.fz (k * 4 + 2)
      have f3 := HR.out.fz (k * 4 + 3)
      rw [clr27_at] at e0 e1 e2 e3
      have C0 := Lib.hid (@clr27_hit s b k)
      have C1 := Lib.hid (@clr27_miss s b k)
      generalize s k = o at *
      obtain ⟨lb, tg, su⟩ := o
      simp only at e0 e1 e2 e3 C0 C1
      by_cases hz : lb = 0
      · have N := Lib.hid (C1.out (by show lb ≠ b + 1; omega))
        have ed : decide (lb ≠ 0) = false := by simp [hz]
        rw [ed] at e0
        clear C0 C1 ed hz
        go_wp2
        go_roundw
        case rel => exact ⟨k + 1, by omega, by go_num, by rw [N.out]; exact HR.out, HT.out⟩
        case measure => simp [intOf]; omega
      · have ed : decide (lb ≠ 0) = true := by simp [hz]
        rw [ed] at e0
        obtain ⟨q, rfl⟩ : ∃ q, lb = q + 1 := ⟨lb - 1, by omega⟩
        replace e2 : wr.cell? ⟨gl, k * 4 + 2, none⟩ = some (.int .i64 (q : Int)) := e2
        by_cases hq : q = b
        · subst hq
          have N := Lib.hid (C0.out rfl)
          clear C0 C1 ed hz
          have HN := Lib.hid (show RS base ((((wr.setCell ⟨gl, k * 4, none⟩ (.bool false)).setCell ⟨gl, k * 4 + 1, none⟩ (.bool false)).setCell ⟨gl, k * 4 + 2, none⟩ (.int .i64 0)).setCell ⟨gl, k * 4 + 3, none⟩ (.int .u64 0)) x gl n m (updO (clr27 s q k) k o27) from HR.out.setL k o27)
          have TN := Lib.hid ((((HT.out.set_ (p := ⟨gl, k * 4, none⟩) rfl (.bool false)).set_ (p := ⟨gl, k * 4 + 1, none⟩) rfl (.bool false)).set_ (p := ⟨gl, k * 4 + 2, none⟩) rfl (.int .i64 0)).set_ (p := ⟨gl, k * 4 + 3, none⟩) rfl (.int .u64 0))
          go_wp2
          go_roundw
          case rel => exact ⟨k + 1, by omega, by go_num, by rw [N.out]; exact HN.out, TN.out⟩
          case measure => simp [intOf]; omega
        · have N := Lib.hid (C1.out (by show q + 1 ≠ b + 1; omega))
          have hqi : ¬ (q : Int) = b := by omega
          have hqb : ((q : Int) == b) = false := beq_eq_false_iff_ne.2 hqi
          clear C0 C1 ed hz
          go_wp2
          go_roundw
          case rel => exact ⟨k + 1, by omega, by go_num, by rw [N.out]; exact HR.out, HT.out⟩
          case measure => simp [intOf]; omega
    · obtain rfl : k = m := by omega
      obtain ⟨e0, e1, e2, e3⟩ := HR.out.cl hi
      have f0 := HR.out.fz (i * 4)
      have f1 := HR.out.fz (i * 4 + 1)
      have f2 := HR.out.fz (i * 4 + 2)
      have f3 := HR.out.fz (i * 4 + 3)
      have hi3 : (i : Int) < k := by omega
      have HN := Lib.hid (show RS base ((((wr.setCell ⟨gl, i * 4, none⟩ (.bool true)).setCell ⟨gl, i * 4 + 1, none⟩ (.bool u)).setCell ⟨gl, i * 4 + 2, none⟩ (.int .i64 b)).setCell ⟨gl, i * 4 + 3, none⟩ (.int .u64 t)) x gl n k (updO (clr27 s b k) i ⟨b + 1, t, u⟩) from by
        have := HR.out.setL i ⟨b + 1, t, u⟩
        simpa using this)
      have TN := Lib.hid ((((HT.out.set_ (p := ⟨gl, i * 4, none⟩) rfl (.bool true)).set_ (p := ⟨gl, i * 4 + 1, none⟩) rfl (.bool u)).set_ (p := ⟨gl, i * 4 + 2, none⟩) rfl (.int .i64 b)).set_ (p := ⟨gl, i * 4 + 3, none⟩) rfl (.int .u64 t))
      go_wp2
      go_ret
      exact ⟨rfl, HN.out, TN.out⟩
theorem rputQ (h : RS base w x gl n m s) (hf : ∀ j, m ≤ j → (s j).lba = 0) (hm : m ≤ 100000) (hn : n ≤ 100000) (i b t : Int) (u : Bool) :
    Calls Try.prog 20 #[.pointer (some ⟨x, 0, none⟩), .int .i64 i, .int .i64 b, .int .u64 t, .bool u] w fun e w' => e = .returned (.bool (inZ m i && inZ n b)) ∧ RS base w' x gl n m (putZ n m s i b t u) ∧ TchS (MineR gl) w w' := by
  by_cases hc : inZ m i = true ∧ inZ n b = true
  · have e1 : (inZ m i && inZ n b) = true := by rw [hc.1, hc.2]; rfl
    have e2 : putZ n m s i b t u = putR27 s i.toNat b.toNat t u := if_pos hc
    rw [e1, e2]
    obtain ⟨i, rfl, hi⟩ := inZ_true hc.1
    obtain ⟨b, rfl, hb⟩ := inZ_true hc.2
    exact rput_in h hf hm hn hi hb t u
  · have e1 : (inZ m i && inZ n b) = false := by
      cases hi : inZ m i <;> cases hb : inZ n b <;> simp_all
    have e2 : putZ n m s i b t u = s := if_neg hc
    rw [e1, e2]
    refine (rput_bad h i b t u hc).mono ?_
    rintro e w' ⟨h1, rfl⟩
    exact ⟨h1, h, TchS.refl _ _⟩
/-- the slot that has a block; below 0: none. -/
theorem rof_calls (h : RS base w x gl n m s) (hf : ∀ j, j < m → (s j).lba ≤ n) (hm : m ≤ 100000) (hn : n ≤ 100000) (b : Int) :
    Calls Try.prog 31 #[.pointer (some ⟨x, 0, none⟩), .int .i64 b] w fun e w' => e = .returned (.int .i64 ((ofZ n m s b : Int) - 1)) ∧ w = w' := by
  obtain ⟨c0, c1⟩ := h.cx
  have H := Lib.hid h
  have HF := Lib.hid hf
  generalize hz : ofZ n m s b = z
  have HZ := Lib.hid hz
  clear h c0 c1 hf hz
  go_enter Try.func31, Try.ntmps31
  go_wp2
  go_loopw [5] (fun v wr => ∃ k : Nat, k ≤ m ∧ v = .int .i64 k ∧ w = wr ∧ (0 ≤ b → seek27 s b.toNat k = 0)) (fun v _ => m - (intOf v).toNat)
  case atStart => exact ⟨0, by omega, rfl, rfl, fun _ => rfl⟩
  case round =>
    obtain ⟨k, hk, rfl, rfl, hs⟩ := hrel
    have HS := Lib.hid hs
    clear hs
    obtain ⟨c0, c1⟩ := H.out.cx
    by_cases hlt : k < m
    · have hki : (k : Int) < m := by omega
      obtain ⟨e0, e1, e2, e3⟩ := H.out.cl hlt
      have HL := HF.out k hlt
      have SK := Lib.hid (show seek27 s b.toNat (k + 1) = if seek27 s b.toNat k ≠ 0 then seek27 s b.toNat k else if (s k).lba = b.toNat + 1 then k + 1 else 0 from rfl)
      by_cases hz : (s k).lba = 0
      · have ed : decide ((s k).lba ≠ 0) = false := by simp [hz]
        have N := Lib.hid (show 0 ≤ b → seek27 s b.toNat (k + 1) = 0 from fun h0 => by rw [SK.out, if_neg (by rw [HS.out h0]; simp), if_neg (by omega)])
        rw [ed] at e0
        clear ed SK hz
        go_wp2
        go_roundw
        case rel => exact ⟨k + 1, by omega, by go_num, by trivial, N.out⟩
        case measure => simp [intOf]; omega
      · have ed : decide ((s k).lba ≠ 0) = true := by simp [hz]
        rw [ed] at e0
        obtain ⟨q, hq⟩ : ∃ q, (s k).lba = q + 1 := ⟨(s k).lba - 1, by omega⟩
        replace e2 : w.cell? ⟨gl, k * 4 + 2, none⟩ = some (.int .i64 (q : Int)) := by rw [hq] at e2; exact e2
        by_cases hqb : (q : Int) = b
        · have hb0 : 0 ≤ b := by omega
          have hbn : inZ n b = true := decide_eq_true ⟨by omega, by omega⟩
          have EV := Lib.hid (show z = k + 1 by
            rw [← HZ.out]
            have e4 : ofZ n m s b = seek27 s b.toNat m := if_pos hbn
            rw [e4]
            have e5 : seek27 s b.toNat (k + 1) = k + 1 := by rw [SK.out, if_neg (by rw [HS.out hb0]; simp), if_pos (by omega)]
            have mono : ∀ d, seek27 s b.toNat (k + 1 + d) = k + 1 := by
              intro d
              induction d with
              | zero => exact e5
              | succ d ih =>
                show (if seek27 s b.toNat (k + 1 + d) ≠ 0 then seek27 s b.toNat (k + 1 + d) else _) = _
                rw [if_pos (by omega), ih]
            have := mono (m - (k + 1))
            rwa [show k + 1 + (m - (k + 1)) = m by omega] at this)
          subst hqb
          clear ed SK hz hbn hb0 hq
          go_wp2
          go_ret
          exact ⟨ret_int (by have := EV.out; omega), rfl⟩
        · have N := Lib.hid (show 0 ≤ b → seek27 s b.toNat (k + 1) = 0 from fun h0 => by rw [SK.out, if_neg (by rw [HS.out h0]; simp), if_neg (by omega)])
          have hqe : ((q : Int) == b) = false := beq_eq_false_iff_ne.2 hqb
          clear ed SK hz hq
          go_wp2
          go_roundw
          case rel => exact ⟨k + 1, by omega, by go_num, by trivial, N.out⟩
          case measure => simp [intOf]; omega
    · obtain rfl : k = m := by omega
      have EV := Lib.hid (show z = 0 by
        rw [← HZ.out]
        unfold ofZ
        by_cases hb : inZ n b = true
        · rw [if_pos hb]
          have := of_decide_eq_true hb
          exact HS.out this.1
        · rw [if_neg hb])
      go_wp2
      go_ret
      exact ⟨ret_int (by have := EV.out; omega), rfl⟩
end
end Go.Proofs.Ytejhoobecladiaa.Ct
