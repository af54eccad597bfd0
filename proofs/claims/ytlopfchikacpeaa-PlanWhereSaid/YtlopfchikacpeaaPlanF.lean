import Derived.Test.YtlopfchikacpeaaPlanE
import Derived.Deep.AppendLies
/-! Things in rows. -/
namespace Go.Proofs.Ytlopfchikacpeaa.Ct
open Go.RowKit
set_option linter.unusedVariables false
set_option linter.unusedSimpArgs false
abbrev Thg := Int × Int × Int
theorem infoT : (Try.prog.info? 61).map (fun i => (i.zero, i.size, i.bytes)) = some (some (.agg #[.int .i64 0, .int .i64 0, .int .i64 0]), 3, 24) := by kernel_rfl
def thgC (x : Thg) : List Value := [.int .i64 x.1, .int .i64 x.2.1, .int .i64 x.2.2]
def thgs (f : Nat → Thg) : Nat → List Value
  | 0 => []
  | n + 1 => thgs f n ++ thgC (f n)
theorem thgs_len (f : Nat → Thg) (n : Nat) : (thgs f n).length = n * 3 := by
  induction n with
  | zero => rfl
  | succ n ih => rw [thgs, List.length_append, ih]; simp [thgC]; omega
theorem thgs_get (f : Nat → Thg) (n : Nat) : ∀ j c, j < n → c < 3 → (thgs f n)[j * 3 + c]? = (thgC (f j))[c]? := by
  induction n with
  | zero => intro j c h; omega
  | succ n ih =>
    intro j c hj hc
    rw [thgs]
    by_cases h : j < n
    · rw [List.getElem?_append_left (by rw [thgs_len]; omega), ih j c h hc]
    · obtain rfl : j = n := by omega
      rw [List.getElem?_append_right (by rw [thgs_len]; omega), thgs_len, show j * 3 + c - j * 3 = c by omega]
theorem thgs_one (f : Nat → Thg) (n : Nat) : ∀ v ∈ thgs f n, v.oneCell' = true := by
  induction n with
  | zero => intro v h; cases h
  | succ n ih =>
    intro v hv
    rw [thgs] at hv
    rcases List.mem_append.1 hv with h | h
    · exact ih v h
    · simp [thgC] at h; rcases h with rfl | rfl | rfl <;> rfl
/-- a row of things that the call itself made. -/
def OwnT (w : World) (base : Nat) (v : Value) (N : Nat) (f : Nat → Thg) : Prop := w.ownsRow base 61 3 v N (thgs f N)
theorem OwnT.alloc {w : World} {base : Nat} {v : Value} {N : Nat} {f : Nat → Thg} (h : OwnT w base v N f) (o : Obj) : OwnT (w.alloc o) base v N f := World.ownsRow.alloc h o
theorem OwnT.drewN {w : World} {base : Nat} {v : Value} {N : Nat} {f : Nat → Thg} (h : OwnT w base v N f) (n : Nat) : OwnT (w.drewN n) base v N f := h
theorem OwnT.kept {w w' : World} {base : Nat} {v : Value} {N : Nat} {f : Nat → Thg} (h : OwnT w base v N f) {row : Option Nat} (hg : w.grownBy w' row) (hne : v.ownBlock = none ∨ v.ownBlock ≠ row) : OwnT w' base v N f := World.ownsRow.kept h hg hne
theorem OwnT.below {w w' : World} {base : Nat} {v : Value} {N : Nat} {f : Nat → Thg} (h : OwnT w base v N f) (hb : Below w.heap.size w w') : OwnT w' base v N f := h.kept (grown_of_below hb none) (by cases v.ownBlock <;> simp)
/-- a row of things that is read. -/
def RowT (w : World) (v : Value) (N : Nat) (f : Nat → Thg) : Prop := ∃ g cap, v = .slice (some ⟨g, 0, none⟩) N cap ∧ N ≤ cap ∧ cap ≤ 9223372036854775807 ∧ g < w.heap.size ∧ ∀ j c, j < N → c < 3 → w.cell? ⟨g, j * 3 + c, none⟩ = (thgC (f j))[c]?
theorem RowT.below {w w' : World} {v : Value} {N : Nat} {f : Nat → Thg} (h : RowT w v N f) (hb : Below w.heap.size w w') : RowT w' v N f := by
  obtain ⟨g, cap, e, h1, h2, h3, h4⟩ := h
  exact ⟨g, cap, e, h1, h2, Nat.lt_of_lt_of_le h3 hb.size, fun j c hj hc => (hb.cell h3).trans (h4 j c hj hc)⟩
theorem OwnT.row {w : World} {base : Nat} {v : Value} {N : Nat} {f : Nat → Thg} (h : OwnT w base v N f) (hN : 0 < N) : RowT w v N f := by
  have h' := h
  obtain ⟨h1, h2⟩ := h
  rcases h2 with ⟨_, h0⟩ | ⟨g, cap, cur, e, hb, hh, hn, hc, hs, ht⟩
  · omega
  · refine ⟨g, cap, e, hn, by unfold maxLen at hc; omega, ?_, fun j c hj hc => ?_⟩
    · exact (World.ownsRow.lt h' g (by rw [e]; rfl)).2
    · have hl : j * 3 + c < (thgs f N).length := by rw [thgs_len]; omega
      have := World.ownsRow.cells h' (g := g) (by rw [e]; rfl) (j * 3 + c) _ (List.getElem?_eq_getElem hl)
      rw [add_plain] at this
      rw [this, ← thgs_get f N j c hj hc, List.getElem?_eq_getElem hl]
theorem OwnT.base_ {w : World} {base : Nat} {v : Value} {N : Nat} {f : Nat → Thg} (h : OwnT w base v N f) : ∀ g, v.ownBlock = some g → base ≤ g := fun g hg => (World.ownsRow.lt h g hg).1
theorem OwnT.mono {w : World} {base base' : Nat} {v : Value} {N : Nat} {f : Nat → Thg} (h : OwnT w base v N f) (hb : base' ≤ base) : OwnT w base' v N f := by
  refine ⟨h.1, ?_⟩
  rcases h.2 with h1 | ⟨g, cap, cur, e, h2, r⟩
  · exact .inl h1
  · exact .inr ⟨g, cap, cur, e, Nat.le_trans hb h2, r⟩
/-- append of things out of a new block. -/
theorem wp_appT {w : World} {ops : Array Oper} {rest : List Oper} {o : Oper} {a : Act} {Q : Exit → Act → World → Prop} (hgd : o.guard = none) (s x : Operand)
    (ho : o.op = .call { callee := .builtin .append, args := #[s, x], argTypes := #[53, 53] }) (base : Nat) (v : Value) (N m : Nat) (f : Nat → Thg) (hs : a.eval s = v) (g : Nat) (hx : a.eval x = .slice (some ⟨g, 0, none⟩) m m)
    (hown : OwnT w base v N f) (news : Array Value) (hn : news.toList = thgs (fun i => f (N + i)) m) (hc : ∃ t fr, w.heap[g]? = some (.cells news t fr)) (hlen : N + m ≤ 1000000) (hbase : base ≤ w.heap.size)
    (h : ∀ v' w', OwnT w' base v' (N + m) f → w.grownBy w' v.ownBlock → wpList Try.prog ops Q rest (a.put o.dst v') w') : wpList Try.prog ops Q (o :: rest) a w := by
  obtain ⟨i, hi, hz0, hz1, hz2⟩ := info_parts infoT
  have hjoin : ∀ m, thgs f N ++ thgs (fun i => f (N + i)) m = thgs f (N + m) := by
    intro m
    induction m with
    | zero => simp [thgs]
    | succ m ih => rw [thgs, ← List.append_assoc, ih, ← Nat.add_assoc, thgs]
  obtain ⟨t, fr, hc⟩ := hc
  refine wpList_append_own w hgd s x 53 ho base 61 i (.agg #[.int .i64 0, .int .i64 0, .int .i64 0]) 3 24 Try.underlying53 hi hz0 hz1 hz2 rfl (by decide) v N (thgs f N) hs hown ⟨g, 0, none⟩ m m news.toList hx (by rw [hn, thgs_len]) (World.news_of_block hc) ?_ (by unfold maxLen; omega) (by omega) hbase ?_
  · intro u hu; rw [hn] at hu; exact thgs_one _ _ u hu
  · intro v' w' h1 h2 _
    refine h v' w' ?_ h2
    rw [hn, hjoin] at h1
    exact h1
theorem below_appT {B base N : Nat} {w0 w w' : World} {v : Value} {f : Nat → Thg} (h : Below B w0 w) (hg : w.grownBy w' v.ownBlock) (ho : OwnT w base v N f) (hB : B ≤ base) (hw : B ≤ w.heap.size) : Below B w0 w' :=
  h.grown hg hw (fun g e => Nat.le_trans hB (ho.base_ g e))
/-- where a thing stands: at a place, or nowhere. -/
def Spot (f : Nat → Thg) (N : Nat) (x : Thg) (at_ : Int) (ok : Bool) : Prop := (ok = false ∧ at_ = 0 ∧ ∀ j, j < N → f j ≠ x) ∨ (ok = true ∧ ∃ k : Nat, k < N ∧ at_ = k ∧ f k = x ∧ ∀ j, j < k → f j ≠ x)
def AtIs (f : Nat → Thg) (N : Nat) (x : Thg) (r : Int) : Prop := (r = -1 ∧ ∀ j, j < N → f j ≠ x) ∨ (∃ k : Nat, k < N ∧ r = k ∧ f k = x ∧ ∀ j, j < k → f j ≠ x)
set_option maxHeartbeats 2000000 in
theorem at_thing (v : Value) (N : Nat) (f : Nat → Thg) (x : Thg) (w : World) (h : RowT w v N f) :
    Calls Try.prog 35 #[v, .agg #[.int .i64 x.1, .int .i64 x.2.1, .int .i64 x.2.2]] w fun e w' => ∃ r, e = .returned (.int .i64 r) ∧ AtIs f N x r ∧ Below w.heap.size w w' := by
  obtain ⟨g, cap, rfl, hcap, hm, hg, hc⟩ := h
  obtain ⟨x0, x1, x2⟩ := x
  have HC := Lib.hid hc; clear hc
  have HB0 := Lib.hid (Below.refl w.heap.size w)
  have hN : N ≤ 9223372036854775807 := by omega
  go_enter Try.func35, Try.ntmps35
  go_wp2
  go_loopw [5] (fun i wr => ∃ k m : Nat, k ≤ N ∧ i = .int .i64 (k : Int) ∧ (∀ j, j < k → f j ≠ (x0, x1, x2)) ∧ wr = (w.alloc (.cells #[.int .i64 x0, .int .i64 x1, .int .i64 x2] 61)).drewN m) (fun i _ => N - (intOf i).toNat)
  case atStart => exact ⟨0, 0, by omega, rfl, fun j h => absurd h (by omega), rfl⟩
  case round =>
    obtain ⟨k, m, hk, rfl, hno, rfl⟩ := hrel
    have HNO := Lib.hid hno; clear hno
    by_cases hlt : k < N
    · have h0 := HC.out k 0 hlt (by decide)
      have h1 := HC.out k 1 hlt (by decide)
      have h2 := HC.out k 2 hlt (by decide)
      simp only [thgC, List.getElem?_cons_zero, List.getElem?_cons_succ, Nat.add_zero] at h0 h1 h2
      have hk2 : (k : Int) < N := by omega
      have HF : Hid (f k = ((f k).1, (f k).2.1, (f k).2.2)) := Lib.hid rfl
      generalize (f k).1 = y0 at *
      generalize (f k).2.1 = y1 at *
      generalize (f k).2.2 = y2 at *
      by_cases he : (y0, y1, y2) = (x0, x1, x2)
      · simp only [Prod.mk.injEq] at he
        obtain ⟨rfl, rfl, rfl⟩ := he
        go_wp2
        go_quiet (fail)
        go_wp2
        go_ret
        exact ⟨_, rfl, .inr ⟨k, hlt, rfl, HF.out, HNO.out⟩, (by repeat (first | with_reducible exact HB0.out | with_reducible apply below_alloc | with_reducible apply below_drewN | with_reducible apply below_drew))⟩
      · have HNE : Hid (∀ j, j < k + 1 → f j ≠ (x0, x1, x2)) := Lib.hid (fun j hj => by
          rcases Nat.lt_or_ge j k with hj2 | hj2
          · exact HNO.out j hj2
          · obtain rfl : j = k := by omega
            rw [HF.out]; exact he)
        have hcase : ¬ y0 = x0 ∨ (y0 = x0 ∧ ¬ y1 = x1) ∨ (y0 = x0 ∧ y1 = x1 ∧ ¬ y2 = x2) := by
          simp only [Prod.mk.injEq, not_and] at he
          by_cases e0 : y0 = x0
          · by_cases e1 : y1 = x1
            · exact .inr (.inr ⟨e0, e1, he e0 e1⟩)
            · exact .inr (.inl ⟨e0, e1⟩)
          · exact .inl e0
        clear he
        rcases hcase with h3 | ⟨rfl, h3⟩ | ⟨rfl, rfl, h3⟩
        all_goals (
          have hb3 : (_ == _) = false := beq_eq_false_iff_ne.2 h3
          go_wp2
          go_quiet (fail)
          go_wp2
          exact ⟨⟨k + 1, _, by omega, by go_num, HNE.out, rfl⟩, by simp [intOf]; omega⟩)
    · obtain rfl : k = N := by omega
      go_wp2
      go_ret
      exact ⟨_, rfl, .inl ⟨rfl, HNO.out⟩, (by repeat (first | with_reducible exact HB0.out | with_reducible apply below_alloc | with_reducible apply below_drewN | with_reducible apply below_drew))⟩
end Go.Proofs.Ytlopfchikacpeaa.Ct
