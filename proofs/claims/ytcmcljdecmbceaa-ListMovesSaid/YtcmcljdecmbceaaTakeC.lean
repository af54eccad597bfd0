import Derived.Test.YtcmcljdecmbceaaHeld
/-! In a drawn region a call that changes nothing, in every world that meets S, may be taken first. -/
namespace Go.Proofs.Ytcmcljdecmbceaa.Ct
section
variable {P : Program} {ops : Array Oper} {Q : Exit → Act → World → Prop} {md : Region.Mode} {S : World → Prop}
/-- the operation is wanted, and does s. -/
def Does (ops : Array Oper) (o : Oper) (s : Sem Next) (a : Act) : Prop := Region.wanted o (yielded ops a.tmps) = true ∧ execOp a.eval o = s
theorem wpOp_with {j : Nat} {oj : Oper} {Y : Act → Prop} (hj : ops[j]? = some oj) (hp : ∀ a u, Y a → Y (a.put oj.dst u)) (hd : ∀ (a : Act) d, Y a → Y { a with defers := d :: a.defers }) {K : Act → World → Prop} {a : Act} {w : World} (hy : Y a) (h : wpOp P ops Q j K a w) :
    wpOp P ops Q j (fun a' w' => Y a' ∧ K a' w') a w := by
  unfold wpOp at h ⊢
  rw [hj] at h ⊢
  dsimp only at h ⊢
  by_cases hw : Region.wanted oj (yielded ops a.tmps) = true
  · rw [if_pos hw] at h ⊢
    refine h.imp (fun h => ?_) id
    unfold Oper.wp at h ⊢
    cases hr : (execOp a.eval oj).run P w with
    | ok n w' =>
      rw [hr] at h
      cases n with
      | value u => exact ⟨hp a u hy, h⟩
      | skip => exact ⟨hp a _ hy, h⟩
      | defer d => exact ⟨hp _ _ (hd a d hy), h⟩
      | enter f args =>
        refine Calls.mono h fun e w'' he => ?_
        cases e with
        | returned u => exact ⟨hp a u hy, he⟩
        | panicked c => exact he
        | outgrown => exact he
      | row r args => exact Rows.mono h fun u w'' he => ⟨hp a u hy, he⟩
      | _ => first | exact h | exact h.elim
    | halt x w' => rw [hr] at h; cases x <;> first | exact h | exact h.elim
  · rw [if_neg hw] at h ⊢
    exact ⟨hp a _ hy, h⟩
theorem early_call {i : Nat} {oi : Oper} {s : Sem Next} {v : Value} (hi : ops[i]? = some oi) (hc : ∀ w, S w → ∃ f args, s.run P w = .ok (.enter f args) w ∧ Calls P f args w fun e w' => e = .returned v ∧ w = w') {K : Act → World → Prop} {a : Act} {w : World}
    (hy : Does ops oi s a) (hS : S w) (h : K (a.put oi.dst v) w) : wpOp P ops Q i K a w := by
  unfold wpOp
  rw [hi]
  dsimp only
  rw [if_pos hy.1]
  left
  unfold Oper.wp
  rw [hy.2]
  obtain ⟨f, args, h1, h2⟩ := hc w hS
  rw [h1]
  refine Calls.mono h2 fun e w' h3 => ?_
  obtain ⟨rfl, rfl⟩ := h3
  exact h
theorem early_first {i : Nat} {oi : Oper} {s : Sem Next} {v : Value} (hi : ops[i]? = some oi) (hsel : ∀ (j : Nat) (o : Oper) cs b, ops[j]? = some o → o.op ≠ .select cs b) (hQ : ∀ c a w, Q (.panic c) (a.put oi.dst v) w → Q (.panic c) a w)
    (hc : ∀ w, S w → ∃ f args, s.run P w = .ok (.enter f args) w ∧ Calls P f args w fun e w' => e = .returned v ∧ w = w') : ∀ (fuel : Nat) (listed : Array Bool) (a : Act) (w : World),
      (∀ j oj, ops[j]? = some oj → j ≠ i → listed.getD j true = false → (∀ e ∈ oj.after, Region.binds md e = true → e.on ≠ i) → oi.apart ops oj = true) →
      i ∈ Region.ready md ops listed → Does ops oi s a → S w → wpAnyH P md ops Q S fuel (listed.setIfInBounds i true) (a.put oi.dst v) w → wpAnyH P md ops Q S (fuel + 1) listed a w := by
  intro fuel
  induction fuel with
  | zero =>
    intro listed a w hap hr hy hS H
    refine ⟨fun e => absurd hr (by rw [e]; exact List.not_mem_nil), fun j hj => ?_⟩
    by_cases e : j = i
    · rw [e]; exact early_call hi hc hy hS ⟨hS, H⟩
    · have := ready_mono hj e
      rw [H.1] at this
      exact absurd this List.not_mem_nil
  | succ fuel ih =>
    intro listed a w hap hr hy hS H
    refine ⟨fun e => absurd hr (by rw [e]; exact List.not_mem_nil), fun j hj => ?_⟩
    by_cases e : j = i
    · rw [e]; exact early_call hi hc hy hS ⟨hS, H⟩
    · have hr' := mem_ready.1 hr
      obtain ⟨hun, oj, hoj, hdone⟩ := mem_ready.1 hj
      have hno : ∀ x ∈ oj.after, Region.binds md x = true → x.on ≠ i := by
        intro x hx hb he
        have h1 := hdone x hx hb
        rw [he] at h1
        have h0 := hr'.1
        rw [Array.getD_eq_getD_getElem?] at h0 h1
        cases hq : listed[i]? with
        | none => rw [hq] at h1; cases h1
        | some b => rw [hq] at h0 h1; simp only [Option.getD_some] at h0 h1; rw [h0] at h1; cases h1
      have hap1 := hap j oj hoj e hun hno
      obtain ⟨-, -, p3⟩ := Oper.apart_spec hap1
      have hsi : ∀ cs b, oi.op ≠ .select cs b := fun cs b => hsel i oi cs b hi
      have step := wpOp_with (Y := Does ops oi s) hoj
        (fun a u ⟨h1, h2⟩ => ⟨(wanted_put oi a oj.dst u p3).trans h1, (execOp_put oi hsi a oj.dst u p3).trans h2⟩) (fun a d h => h) hy
        (wpOp_putIf (S := fun _ => False) hoj hap1 hsi (fun cs b => hsel j oj cs b hoj) hQ (.inl ⟨hy.1, fun _ hf => hf.elim⟩) (H.2 j (ready_mono hj e)))
      refine wpOp_mono (fun a' w' ⟨k1, _, k2, k3⟩ => ⟨k2, ih (listed.setIfInBounds j true) a' w' ?_ (ready_mono hr (fun e' => e e'.symm)) k1 k2 ?_⟩) step
      · intro k ok hk hki hku hkn
        refine hap k ok hk hki ?_ hkn
        by_cases ejk : j = k
        · rw [← ejk]; exact hun
        · rw [← getD_set_ne true ejk]; exact hku
      · rw [Array.setIfInBounds_comm _ _ e]
        exact k3
/-- Take the call number i first: its callee changes nothing in any world that meets S. -/
theorem take_c {i : Nat} {oi : Oper} {v : Value} {fuel : Nat} {listed : Array Bool} {a : Act} {w : World} (d : Option Tmp) (hi : ops[i]? = some oi) (hd : oi.dst = d)
    (hs : Region.noSelect ops = true) (hf : Region.free md ops listed i = true) (hr : (Region.ready md ops listed).contains i = true)
    (hQ : ∀ c a w, Q (.panic c) (a.put d v) w → Q (.panic c) a w) (hw : Region.wanted oi (yielded ops a.tmps) = true)
    (f : FuncId) (hent : ∀ args w, (callFunc f args).run P w = .ok (.enter f args) w) (xs : Array Operand) (ts : Array TypeId) (ho : oi.op = .call { callee := .value (.func f), args := xs, argTypes := ts })
    (args : Array Value) (hargs : xs.toList.map a.eval = args.toList) (hc : ∀ w, S w → Calls P f args w fun e w' => e = .returned v ∧ w = w') (hS : S w)
    (h : wpAnyH P md ops Q S fuel (listed.setIfInBounds i true) (a.put d v) w) : wpAnyH P md ops Q S (fuel + 1) listed a w := by
  subst hd
  have he : execOp a.eval oi = callFunc f args := by
    have hx : #[] ++ xs.map a.eval ++ #[] = args := by
      apply Array.toList_inj.1
      rw [← hargs]; simp
    subst hx
    unfold execOp
    simp only [ho]
    rfl
  exact early_first hi (Region.noSelect_spec hs) hQ (fun w hS => ⟨f, args, hent args w, hc w hS⟩) fuel listed a w (Region.free_spec hi hf) (by simpa using hr) ⟨hw, he⟩ hS h
end
end Go.Proofs.Ytcmcljdecmbceaa.Ct
