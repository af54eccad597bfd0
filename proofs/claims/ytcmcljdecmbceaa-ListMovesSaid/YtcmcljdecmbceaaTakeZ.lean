import Derived.Test.YtcmcljdecmbceaaTakeC
/-! A drawn region whose last operation z waits for all others: S need not hold behind z. -/
namespace Go.Proofs.Ytcmcljdecmbceaa.Ct
set_option linter.unusedVariables false
section
variable {P : Program} {ops : Array Oper} {Q : Exit → Act → World → Prop} {md : Region.Mode} {S : World → Prop} {z : Nat}
/-- Whatever order is picked from here on; S holds behind each operation but z. -/
def anyZ (P : Program) (md : Region.Mode) (ops : Array Oper) (Q : Exit → Act → World → Prop) (S : World → Prop) (z : Nat) : Nat → Array Bool → Act → World → Prop
  | 0, listed, a, w => Region.ready md ops listed = [] ∧ Q .normal a w
  | fuel + 1, listed, a, w => (Region.ready md ops listed = [] → Q .normal a w) ∧ ∀ i ∈ Region.ready md ops listed, wpOp P ops Q i (fun a' w' => (i ≠ z → S w') ∧ anyZ P md ops Q S z fuel (listed.setIfInBounds i true) a' w') a w
theorem any_of_Z : ∀ (fuel : Nat) (listed : Array Bool) (a : Act) (w : World), anyZ P md ops Q S z fuel listed a w → wpAny P md ops Q fuel listed a w
  | 0, _, _, _, h => h
  | fuel + 1, _, _, _, h => ⟨h.1, fun i hi => wpOp_mono (fun a' w' h' => any_of_Z fuel _ a' w' h'.2) (h.2 i hi)⟩
/-- z waits for i. -/
def waits (md : Region.Mode) (ops : Array Oper) (z i : Nat) : Bool := ((ops[z]?).map fun o => o.after.any fun e => Region.binds md e && e.on == i).getD false
theorem waits_spec {i : Nat} (h : waits md ops z i = true) {listed : Array Bool} (hi : listed.getD i true = false) : z ∉ Region.ready md ops listed := by
  intro hz
  obtain ⟨-, oz, hoz, hall⟩ := mem_ready.1 hz
  unfold waits at h
  rw [hoz] at h
  simp only [Option.map_some, Option.getD_some, Array.any_eq_true, Bool.and_eq_true, beq_iff_eq] at h
  obtain ⟨k, hk, hb, he⟩ := h
  have h1 := hall _ (Array.getElem_mem hk) hb
  rw [he] at h1
  rw [Array.getD_eq_getD_getElem?] at hi h1
  cases hq : listed[i]? with
  | none => rw [hq] at hi; cases hi
  | some b => rw [hq] at hi h1; simp only [Option.getD_some] at hi h1; rw [hi] at h1; cases h1
theorem first_z {i : Nat} {oi : Oper} {v : Value} {Y : Act → Prop} (hi : ops[i]? = some oi) (hiz : i ≠ z) (hwz : waits md ops z i = true) (hsel : ∀ (j : Nat) (o : Oper) cs b, ops[j]? = some o → o.op ≠ .select cs b) (hQ : ∀ c a w, Q (.panic c) (a.put oi.dst v) w → Q (.panic c) a w)
    (hE : ∀ (K : Act → World → Prop) a w, Y a → S w → K (a.put oi.dst v) w → wpOp P ops Q i K a w) (hY : ∀ a, Y a → YieldsIf P ops (fun _ => False) oi v a)
    (hP : ∀ (a : Act) (dst : Option Tmp) u, (∀ d, dst = some d → d ∉ oi.looksAt ops) → Y a → Y (a.put dst u)) (hD : ∀ (a : Act) d, Y a → Y { a with defers := d :: a.defers }) : ∀ (fuel : Nat) (listed : Array Bool) (a : Act) (w : World),
      (∀ j oj, ops[j]? = some oj → j ≠ i → listed.getD j true = false → (∀ e ∈ oj.after, Region.binds md e = true → e.on ≠ i) → oi.apart ops oj = true) →
      i ∈ Region.ready md ops listed → Y a → S w → anyZ P md ops Q S z fuel (listed.setIfInBounds i true) (a.put oi.dst v) w → anyZ P md ops Q S z (fuel + 1) listed a w := by
  intro fuel
  induction fuel with
  | zero =>
    intro listed a w hap hr hy hS H
    refine ⟨fun e => absurd hr (by rw [e]; exact List.not_mem_nil), fun j hj => ?_⟩
    by_cases e : j = i
    · rw [e]; exact hE _ a w hy hS ⟨fun _ => hS, H⟩
    · have := ready_mono hj e
      rw [H.1] at this
      exact absurd this List.not_mem_nil
  | succ fuel ih =>
    intro listed a w hap hr hy hS H
    refine ⟨fun e => absurd hr (by rw [e]; exact List.not_mem_nil), fun j hj => ?_⟩
    by_cases e : j = i
    · rw [e]; exact hE _ a w hy hS ⟨fun _ => hS, H⟩
    · have hr' := mem_ready.1 hr
      have hjz : j ≠ z := fun ez => waits_spec hwz hr'.1 (ez ▸ hj)
      obtain ⟨hun, oj, hoj, hdone⟩ := mem_ready.1 hj
      have hno : ∀ x ∈ oj.after, Region.binds md x = true → x.on ≠ i := by
        intro x hx hb he
        have h1 := hdone x hx hb
        rw [he] at h1
        have h0 := hr'.1
        rw [Array.getD_eq_getD_getElem?] at h0 h1
        cases hq : listed[i]? with
        | none => rw [hq] at h1; cases h1
        | some b => rw [hq] at h0 h1; simp only [Option.getD_some] at h0 h1; rw [h0] at h1; cases h1
      have hap1 := hap j oj hoj e hun hno
      obtain ⟨-, -, p3⟩ := Oper.apart_spec hap1
      have step := wpOp_with (Y := Y) hoj (fun a u h => hP a oj.dst u p3 h) hD hy
        (wpOp_putIf (S := fun _ => False) hoj hap1 (fun cs b => hsel i oi cs b hi) (fun cs b => hsel j oj cs b hoj) hQ (hY a hy) (H.2 j (ready_mono hj e)))
      refine wpOp_mono (fun a' w' ⟨k1, _, k2, k3⟩ => ⟨fun _ => k2 hjz, ih (listed.setIfInBounds j true) a' w' ?_ (ready_mono hr (fun e' => e e'.symm)) k1 (k2 hjz) ?_⟩) step
      · intro k ok hk hki hku hkn
        refine hap k ok hk hki ?_ hkn
        by_cases ejk : j = k
        · rw [← ejk]; exact hun
        · rw [← getD_set_ne true ejk]; exact hku
      · rw [Array.setIfInBounds_comm _ _ e]
        exact k3
theorem yields_false {oi : Oper} {v : Value} {a : Act} (h : YieldsIf P ops S oi v a) : YieldsIf P ops (fun _ => False) oi v a := h.imp (fun h => ⟨h.1, fun _ hf => hf.elim⟩) id
theorem takeZ {i : Nat} {oi : Oper} {v : Value} {fuel : Nat} {listed : Array Bool} {a : Act} {w : World} (hi : ops[i]? = some oi) (hiz : i ≠ z) (hwz : waits md ops z i = true)
    (hs : Region.noSelect ops = true) (hf : Region.free md ops listed i = true) (hr : (Region.ready md ops listed).contains i = true)
    (hQ : ∀ c a w, Q (.panic c) (a.put oi.dst v) w → Q (.panic c) a w) (hy : YieldsIf P ops S oi v a) (hS : S w)
    (h : anyZ P md ops Q S z fuel (listed.setIfInBounds i true) (a.put oi.dst v) w) : anyZ P md ops Q S z (fuel + 1) listed a w :=
  have hsi := fun cs b => Region.noSelect_spec hs i oi cs b hi
  first_z (Y := YieldsIf P ops S oi v) hi hiz hwz (Region.noSelect_spec hs) hQ (fun K a w hy hS hK => hy.wpOp hi hS hK) (fun a hy => yields_false hy)
    (fun a dst u hd hy => hy.of_same (execOp_put oi hsi a dst u hd) (wanted_put oi a dst u hd)) (fun a d hy => hy.of_same rfl rfl) fuel listed a w (Region.free_spec hi hf) (by simpa using hr) hy hS h
theorem takeZ_w {i : Nat} {oi : Oper} {v : Value} {fuel : Nat} {listed : Array Bool} {a : Act} {w : World} (d : Option Tmp) (hi : ops[i]? = some oi) (hd : oi.dst = d) (hiz : i ≠ z) (hwz : waits md ops z i = true)
    (hs : Region.noSelect ops = true) (hf : Region.free md ops listed i = true) (hr : (Region.ready md ops listed).contains i = true)
    (hQ : ∀ c a w, Q (.panic c) (a.put d v) w → Q (.panic c) a w) (hw : Region.wanted oi (yielded ops a.tmps) = true) (hS : S w) (hy : ∀ w, S w → (execOp a.eval oi).run P w = .ok (.value v) w)
    (h : anyZ P md ops Q S z fuel (listed.setIfInBounds i true) (a.put d v) w) : anyZ P md ops Q S z (fuel + 1) listed a w := by
  subst hd
  exact takeZ hi hiz hwz hs hf hr hQ (Or.inl ⟨hw, hy⟩) hS h
theorem takeZ_n {i : Nat} {oi : Oper} {fuel : Nat} {listed : Array Bool} {a : Act} {w : World} (d : Option Tmp) (hi : ops[i]? = some oi) (hd : oi.dst = d) (hiz : i ≠ z) (hwz : waits md ops z i = true)
    (hs : Region.noSelect ops = true) (hf : Region.free md ops listed i = true) (hr : (Region.ready md ops listed).contains i = true)
    (hQ : ∀ c a w, Q (.panic c) (a.put d undef) w → Q (.panic c) a w) (hw : Region.wanted oi (yielded ops a.tmps) = false) (hS : S w)
    (h : anyZ P md ops Q S z fuel (listed.setIfInBounds i true) (a.put d undef) w) : anyZ P md ops Q S z (fuel + 1) listed a w := by
  subst hd
  exact takeZ hi hiz hwz hs hf hr hQ (Or.inr ⟨hw, rfl⟩) hS h
theorem readyZ {rs : List Nat} {fuel : Nat} {listed : Array Bool} {a : Act} {w : World} (hr : Region.ready md ops listed = rs) (hne : rs ≠ [])
    (h : ∀ i ∈ rs, wpOp P ops Q i (fun a' w' => (i ≠ z → S w') ∧ anyZ P md ops Q S z fuel (listed.setIfInBounds i true) a' w') a w) : anyZ P md ops Q S z (fuel + 1) listed a w :=
  ⟨fun h0 => absurd (hr ▸ h0) hne, hr ▸ h⟩
/-- one operation alone may come up next. -/
theorem oneZ {i : Nat} {oi : Oper} {fuel : Nat} {listed : Array Bool} {a : Act} {w : World} (hr : Region.ready md ops listed = [i]) (hi : ops[i]? = some oi) (hw : Region.wanted oi (yielded ops a.tmps) = true)
    (h : ∀ K' : Act → World → Prop, Go.RowKit.Hid (∀ a w, S w → (S w → anyZ P md ops Q S z fuel (listed.setIfInBounds i true) a w) → K' a w) → Oper.wp P oi a w K' Q) : anyZ P md ops Q S z (fuel + 1) listed a w := by
  refine readyZ hr (by simp) fun j hj => ?_
  simp only [List.mem_singleton] at hj
  subst hj
  unfold wpOp
  rw [hi]
  dsimp only
  rw [if_pos hw]
  exact .inl (h _ fun a w h1 h2 => ⟨fun _ => h1, h2 h1⟩)
theorem twoZ {i j : Nat} {oi oj : Oper} {fuel : Nat} {listed : Array Bool} {a : Act} {w : World} (hr : Region.ready md ops listed = [i, j]) (hi : ops[i]? = some oi) (hj : ops[j]? = some oj) (hw : Region.wanted oi (yielded ops a.tmps) = true) (hw2 : Region.wanted oj (yielded ops a.tmps) = true)
    (h : ∀ K' : Act → World → Prop, Go.RowKit.Hid (∀ a w, S w → (S w → anyZ P md ops Q S z fuel (listed.setIfInBounds i true) a w) → K' a w) → Oper.wp P oi a w K' Q)
    (h2 : ∀ K' : Act → World → Prop, Go.RowKit.Hid (∀ a w, S w → (S w → anyZ P md ops Q S z fuel (listed.setIfInBounds j true) a w) → K' a w) → Oper.wp P oj a w K' Q) : anyZ P md ops Q S z (fuel + 1) listed a w := by
  refine readyZ hr (by simp) fun l hl => ?_
  simp only [List.mem_cons, List.not_mem_nil, or_false] at hl
  rcases hl with rfl | rfl
  · unfold wpOp
    rw [hi]
    dsimp only
    rw [if_pos hw]
    exact .inl (h _ fun a w h1 h2 => ⟨fun _ => h1, h2 h1⟩)
  · unfold wpOp
    rw [hj]
    dsimp only
    rw [if_pos hw2]
    exact .inl (h2 _ fun a w h1 h2 => ⟨fun _ => h1, h2 h1⟩)
theorem lastZ {oi : Oper} {fuel : Nat} {listed : Array Bool} {a : Act} {w : World} (hr : Region.ready md ops listed = [z]) (hi : ops[z]? = some oi) (hw : Region.wanted oi (yielded ops a.tmps) = true)
    (h : ∀ K' : Act → World → Prop, Go.RowKit.Hid (∀ a w, anyZ P md ops Q S z fuel (listed.setIfInBounds z true) a w → K' a w) → Oper.wp P oi a w K' Q) : anyZ P md ops Q S z (fuel + 1) listed a w := by
  refine readyZ hr (by simp) fun j hj => ?_
  simp only [List.mem_singleton] at hj
  subst hj
  unfold wpOp
  rw [hi]
  dsimp only
  rw [if_pos hw]
  exact .inl (h _ fun a w h1 => ⟨fun e => absurd rfl e, h1⟩)
theorem doneZ {listed : Array Bool} {a : Act} {w : World} (hr : Region.ready md ops listed = []) (h : Q .normal a w) : ∀ fuel, anyZ P md ops Q S z fuel listed a w
  | 0 => ⟨hr, h⟩
  | _ + 1 => ⟨fun _ => h, by rw [hr]; simp⟩
theorem region_Z {id : Nat} {a : Act} {w : World} (z : Nat) (hm : P.follows .mixedOrders = true) (hS : S w.drew) (h : S w.drew → anyZ P .any ops Q S z ops.size (Array.replicate ops.size false) a w.drew) : (Code.region id ops true).wp P Q a w :=
  wp_region_any hm (any_of_Z _ _ _ _ (h hS))
end
end Go.Proofs.Ytcmcljdecmbceaa.Ct
