import Derived.Test.YtcmcljdecmbceaaObj
/-! Lists over an array: the plain law of links. -/
namespace Go.Proofs.Ytcmcljdecmbceaa.Ct
set_option linter.unusedVariables false
set_option linter.unusedSimpArgs false
/-- cells of whole numbers: of node y: y*3 the one ahead, y*3+1 the one behind, y*3+2 in which list it is, and one. -/
abbrev Fn := Nat → Int
def upd (f : Fn) (i : Nat) (v : Int) : Fn := fun j => if j = i then v else f j
def lastN : Nat → List Nat → Nat
  | a, [] => a
  | _, y :: ys => lastN y ys
def Pth (f : Fn) : Nat → List Nat → Nat → Prop
  | a, [], b => f (a * 3 + 1) = b
  | a, y :: ys, b => f (a * 3 + 1) = y ∧ Pth f y ys b
theorem lastN_mem : ∀ (a : Nat) (ys : List Nat), lastN a ys ∈ a :: ys
  | a, [] => List.mem_cons_self ..
  | a, y :: ys => List.mem_cons_of_mem _ (lastN_mem y ys)
theorem pth_split {f : Fn} {x b : Nat} {B : List Nat} : ∀ (A : List Nat) (a : Nat), Pth f a (A ++ x :: B) b ↔ Pth f a A x ∧ Pth f x B b
  | [], a => Iff.rfl
  | y :: A, a => by
    show (_ ∧ Pth f y (A ++ x :: B) b) ↔ (_ ∧ Pth f y A x) ∧ _
    rw [pth_split A y, and_assoc]
theorem pth_last {f : Fn} {b : Nat} : ∀ (A : List Nat) (a : Nat), Pth f a A b → f (lastN a A * 3 + 1) = b
  | [], a, h => h
  | y :: A, a, h => pth_last A y h.2
theorem pth_congr {f f' : Fn} {b : Nat} : ∀ (A : List Nat) (a : Nat), (∀ y ∈ a :: A, f' (y * 3 + 1) = f (y * 3 + 1)) → Pth f a A b → Pth f' a A b
  | [], a, hh, h => (hh a (List.mem_cons_self ..)).trans h
  | y :: A, a, hh, h => ⟨(hh a (List.mem_cons_self ..)).trans h.1, pth_congr A y (fun z hz => hh z (List.mem_cons_of_mem _ hz)) h.2⟩
theorem pth_turn {f f' : Fn} {b q : Nat} : ∀ (A : List Nat) (a : Nat), (a :: A).Nodup → (∀ y ∈ a :: A, y ≠ lastN a A → f' (y * 3 + 1) = f (y * 3 + 1)) → f' (lastN a A * 3 + 1) = q → Pth f a A b → Pth f' a A q
  | [], a, _, _, hl, _ => hl
  | y :: A, a, hn, hh, hl, h => by
    rw [List.nodup_cons] at hn
    have hne : a ≠ lastN y A := fun e => hn.1 (e ▸ lastN_mem y A)
    exact ⟨(hh a (List.mem_cons_self ..) hne).trans h.1, pth_turn A y hn.2 (fun z hz => hh z (List.mem_cons_of_mem _ hz)) hl h.2⟩
/-- the first of a list, or what stands behind it. -/
def firstN : List Nat → Nat → Nat
  | [], b => b
  | y :: _, _ => y
theorem pth_first {f : Fn} {a b : Nat} {B : List Nat} (h : Pth f a B b) : f (a * 3 + 1) = firstN B b := by
  cases B with
  | nil => exact h
  | cons y B => exact h.1
theorem pth_app {f : Fn} {a b : Nat} {A B : List Nat} (h1 : Pth f a A (firstN B b)) (h2 : ∀ y B', B = y :: B' → Pth f y B' b) : Pth f a (A ++ B) b := by
  cases B with
  | nil => rw [List.append_nil]; exact h1
  | cons y B => exact (pth_split A a).2 ⟨h1, h2 y B rfl⟩
theorem pth_app' {f : Fn} {a b : Nat} {A B : List Nat} (h : Pth f a (A ++ B) b) : Pth f a A (firstN B b) ∧ ∀ y B', B = y :: B' → Pth f y B' b := by
  cases B with
  | nil => rw [List.append_nil] at h; exact ⟨h, fun y B' e => by cases e⟩
  | cons y B =>
    have := (pth_split A a).1 h
    exact ⟨this.1, fun z B' e => by injection e with e1 e2; subst e1 e2; exact this.2⟩
/-- the cells hold these rows. -/
structure Rep (n m : Nat) (r : Nat → List Nat) (f g : Fn) : Prop where
  path : ∀ k, k < m → Pth f (n + k) (r k) (n + k)
  nod : ∀ k, k < m → (r k).Nodup
  dis : ∀ j k, j < m → k < m → j ≠ k → ∀ y ∈ r j, y ∉ r k
  lt : ∀ k, k < m → ∀ y ∈ r k, y < n
  bi : ∀ y, y < n + m → ∃ p q : Nat, p < n + m ∧ q < n + m ∧ f (y * 3) = p ∧ f (y * 3 + 1) = q ∧ f (q * 3) = y ∧ f (p * 3 + 1) = y
  out : ∀ y, y < n → (∀ k, k < m → y ∉ r k) → f (y * 3) = y ∧ f (y * 3 + 1) = y ∧ f (y * 3 + 2) = 0
  lsin : ∀ k, k < m → ∀ y ∈ r k, f (y * 3 + 2) = (k : Int) + 1
  many : ∀ k, k < m → g k = (r k).length
  far : ∀ k, m ≤ k → r k = []
def remR (r : Nat → List Nat) (x : Nat) : Nat → List Nat := fun j => (r j).filter fun y => y != x
theorem rem_mid {A B : List Nat} {x : Nat} (h : (A ++ x :: B).Nodup) : (A ++ x :: B).filter (fun y => y != x) = A ++ B := by
  rw [List.nodup_append, List.nodup_cons] at h
  obtain ⟨h1, ⟨h2, h3⟩, h4⟩ := h
  rw [List.filter_append, List.filter_cons]
  have e : (x != x) = false := by simp
  rw [e, if_neg (by simp), List.filter_eq_self.2 (fun y hy => bne_iff_ne.2 (fun e => h4 y hy x (List.mem_cons_self ..) e)), List.filter_eq_self.2 (fun y hy => bne_iff_ne.2 (fun e : y = x => h2 (by rw [← e]; exact hy)))]
theorem rem_out {A : List Nat} {x : Nat} (h : x ∉ A) : A.filter (fun y => y != x) = A := List.filter_eq_self.2 fun y hy => bne_iff_ne.2 fun e : y = x => h (by rw [← e]; exact hy)
theorem Rep.head_out {n m : Nat} {r : Nat → List Nat} {f g : Fn} (h : Rep n m r f g) {j k : Nat} (hk : k < m) : n + j ∉ r k := fun hh => by have := h.lt k hk _ hh; omega
theorem Rep.cyc {n m : Nat} {r : Nat → List Nat} {f g : Fn} (h : Rep n m r f g) {k : Nat} (hk : k < m) : ((n + k) :: r k).Nodup := List.nodup_cons.2 ⟨h.head_out hk, h.nod k hk⟩
theorem natCast_inj {a b : Nat} (h : (a : Int) = b) : a = b := by omega
/-- a node in a row: who stands ahead of it and behind it. -/
theorem Rep.ends {n m : Nat} {r : Nat → List Nat} {f g : Fn} (h : Rep n m r f g) {k x : Nat} {A B : List Nat} (hk : k < m) (hr : r k = A ++ x :: B) :
    f (x * 3) = lastN (n + k) A ∧ f (x * 3 + 1) = firstN B (n + k) ∧ lastN (n + k) A < n + m ∧ firstN B (n + k) < n + m := by
  have hp := h.path k hk
  rw [hr] at hp
  obtain ⟨p1, p2⟩ := (pth_split A _).1 hp
  have hl := pth_last A _ p1
  have hf := pth_first p2
  have hlt : lastN (n + k) A < n + m := by
    rcases List.mem_cons.1 (lastN_mem (n + k) A) with e | e
    · omega
    · have := h.lt k hk (lastN (n + k) A) (by rw [hr]; exact List.mem_append_left _ e); omega
  have hx : x < n + m := by have := h.lt k hk x (by rw [hr]; simp); omega
  obtain ⟨a, b, -, hb, e1, e2, e3, e4⟩ := h.bi _ hlt
  rw [hl] at e2
  obtain rfl := natCast_inj e2
  obtain ⟨a', b', -, hb', e1', e2', -, -⟩ := h.bi _ hx
  rw [hf] at e2'
  obtain rfl := natCast_inj e2'
  exact ⟨e3, hf, hlt, hb'⟩
def unF (f : Fn) (x p q : Nat) : Fn := upd (upd (upd (upd (upd f (p * 3 + 1) q) (q * 3) p) (x * 3) x) (x * 3 + 1) x) (x * 3 + 2) 0
theorem unF_nx (f : Fn) (x p q y : Nat) : unF f x p q (y * 3 + 1) = if y = x then (x : Int) else if y = p then (q : Int) else f (y * 3 + 1) := by
  unfold unF upd
  by_cases e : y = x
  · subst e; rw [if_pos rfl, if_neg (by omega), if_pos rfl]
  · rw [if_neg e, if_neg (by omega), if_neg (by omega), if_neg (by omega), if_neg (by omega)]
    by_cases e2 : y = p
    · subst e2; rw [if_pos rfl, if_pos rfl]
    · rw [if_neg e2, if_neg (by omega)]
theorem unF_pv (f : Fn) (x p q y : Nat) : unF f x p q (y * 3) = if y = x then (x : Int) else if y = q then (p : Int) else f (y * 3) := by
  unfold unF upd
  by_cases e : y = x
  · subst e; rw [if_pos rfl, if_neg (by omega), if_neg (by omega), if_pos rfl]
  · rw [if_neg e, if_neg (by omega), if_neg (by omega), if_neg (by omega)]
    by_cases e2 : y = q
    · subst e2; rw [if_pos rfl, if_pos rfl]
    · rw [if_neg e2, if_neg (by omega), if_neg (by omega)]
theorem unF_ls (f : Fn) (x p q y : Nat) : unF f x p q (y * 3 + 2) = if y = x then 0 else f (y * 3 + 2) := by
  unfold unF upd
  by_cases e : y = x
  · subst e; rw [if_pos rfl, if_pos rfl]
  · rw [if_neg e, if_neg (by omega), if_neg (by omega), if_neg (by omega), if_neg (by omega), if_neg (by omega)]
theorem Rep.unlink {n m : Nat} {r : Nat → List Nat} {f g : Fn} (h : Rep n m r f g) {k x p q : Nat} (hk : k < m) (hx : x ∈ r k) (hp : f (x * 3) = p) (hq : f (x * 3 + 1) = q) :
    Rep n m (remR r x) (unF f x p q) (upd g k (g k - 1)) := by
  obtain ⟨A, B, hr⟩ := List.append_of_mem hx
  obtain ⟨e1, e2, hpl, hql⟩ := h.ends hk hr
  have hp' := natCast_inj (hp.symm.trans e1)
  have hq' := natCast_inj (hq.symm.trans e2)
  have hcyc := h.cyc hk
  rw [hr, ← List.cons_append] at hcyc
  rw [List.nodup_append] at hcyc
  obtain ⟨n1, n2, n3⟩ := hcyc
  rw [List.nodup_cons] at n2
  have hxn : x < n := h.lt k hk x hx
  have hpm : p ∈ (n + k) :: A := by rw [hp']; exact lastN_mem _ _
  have hpx : p ≠ x := fun e => n3 p hpm x (List.mem_cons_self ..) e
  have hqm : q ∈ B ∨ q = n + k := by
    rw [hq']; cases B with
    | nil => exact .inr rfl
    | cons b B => exact .inl (List.mem_cons_self ..)
  have hqx : q ≠ x := by
    rcases hqm with e | e
    · intro e2; exact n2.1 (e2 ▸ e)
    · omega
  have hrk : remR r x k = A ++ B := by unfold remR; rw [hr]; exact rem_mid (by rw [← hr]; exact h.nod k hk)
  have hrj : ∀ j, j < m → j ≠ k → remR r x j = r j := fun j hj hne => rem_out (fun hh => h.dis j k hj hk hne x hh hx)
  have hpth := h.path k hk
  rw [hr] at hpth
  obtain ⟨p1, p2⟩ := (pth_split A _).1 hpth
  obtain ⟨px, qx, hpxl, hqxl, b1, b2, b3, b4⟩ := h.bi x (by omega)
  rw [hp] at b1; obtain rfl := natCast_inj b1
  rw [hq] at b2; obtain rfl := natCast_inj b2
  have memr : ∀ j y, y ∈ remR r x j ↔ y ∈ r j ∧ y ≠ x := fun j y => by unfold remR; rw [List.mem_filter, bne_iff_ne]
  refine ⟨fun j hj => ?_, fun j hj => ?_, fun i j hi hj hij y hy hy2 => ?_, fun j hj y hy => h.lt j hj y ((memr j y).1 hy).1, fun y hy => ?_, fun y hy ho => ?_, fun j hj y hy => ?_, fun j hj => ?_, fun j hj => ?_⟩
  · by_cases e : j = k
    · subst e
      rw [hrk]
      refine pth_app ?_ ?_
      · refine pth_turn A _ n1 (fun y hy hne => ?_) ?_ p1
        · rw [unF_nx, if_neg (fun e => n3 y hy x (List.mem_cons_self ..) e), if_neg (by rw [hp']; exact hne)]
        · rw [← hp', unF_nx, if_neg hpx, if_pos rfl, hq']
      · intro b B' hB
        subst hB
        refine pth_congr B' b (fun y hy => ?_) p2.2
        rw [unF_nx, if_neg (fun e : y = x => n2.1 (by rw [← e]; exact hy)), if_neg (fun e => n3 p hpm y (List.mem_cons_of_mem _ hy) e.symm)]
    · rw [hrj j hj e]
      refine pth_congr _ _ (fun y hy => ?_) (h.path j hj)
      have hyx : y ≠ x := by
        rcases List.mem_cons.1 hy with rfl | hy
        · omega
        · exact fun e2 => h.dis j k hj hk e y hy (e2 ▸ hx)
      have hyp : y ≠ p := by
        rcases List.mem_cons.1 hpm with e2 | e2
        · rcases List.mem_cons.1 hy with rfl | hy
          · omega
          · have := h.lt j hj y hy; omega
        · have hpr : p ∈ r k := by rw [hr]; exact List.mem_append_left _ e2
          rcases List.mem_cons.1 hy with rfl | hy
          · have := h.lt k hk p hpr; omega
          · exact fun e3 => h.dis j k hj hk e y hy (e3 ▸ hpr)
      rw [unF_nx, if_neg hyx, if_neg hyp]
  · exact (h.nod j hj).sublist List.filter_sublist
  · exact h.dis i j hi hj hij y ((memr i y).1 hy).1 ((memr j y).1 hy2).1
  · by_cases e : y = x
    · subst e
      exact ⟨y, y, hy, hy, by rw [unF_pv, if_pos rfl], by rw [unF_nx, if_pos rfl], by rw [unF_pv, if_pos rfl], by rw [unF_nx, if_pos rfl]⟩
    · obtain ⟨py, qy, h1, h2, h3, h4, h5, h6⟩ := h.bi y hy
      have Q : ∃ z : Nat, z < n + m ∧ unF f x p q (y * 3 + 1) = z ∧ unF f x p q (z * 3) = y := by
        by_cases e2 : y = p
        · exact ⟨q, hql |> fun _ => hqxl, by rw [unF_nx, if_neg e, if_pos e2], by rw [unF_pv, if_neg hqx, if_pos rfl, e2]⟩
        · refine ⟨qy, h2, by rw [unF_nx, if_neg e, if_neg e2]; exact h4, ?_⟩
          rw [unF_pv, if_neg (fun e3 => e2 (by rw [e3, hp] at h5; exact (natCast_inj h5).symm)), if_neg (fun e3 => e (by rw [e3, b3] at h5; exact (natCast_inj h5).symm))]
          exact h5
      have Pv : ∃ z : Nat, z < n + m ∧ unF f x p q (y * 3) = z ∧ unF f x p q (z * 3 + 1) = y := by
        by_cases e2 : y = q
        · exact ⟨p, hpxl, by rw [unF_pv, if_neg e, if_pos e2], by rw [unF_nx, if_neg hpx, if_pos rfl, e2]⟩
        · refine ⟨py, h1, by rw [unF_pv, if_neg e, if_neg e2]; exact h3, ?_⟩
          rw [unF_nx, if_neg (fun e3 => e2 (by rw [e3, hq] at h6; exact (natCast_inj h6).symm)), if_neg (fun e3 => e (by rw [e3, b4] at h6; exact (natCast_inj h6).symm))]
          exact h6
      obtain ⟨z1, a1, a2, a3⟩ := Q
      obtain ⟨z2, c1, c2, c3⟩ := Pv
      exact ⟨z2, z1, c1, a1, c2, a2, a3, c3⟩
  · by_cases e : y = x
    · subst e
      exact ⟨by rw [unF_pv, if_pos rfl], by rw [unF_nx, if_pos rfl], by rw [unF_ls, if_pos rfl]⟩
    · have ho' : ∀ j, j < m → y ∉ r j := fun j hj hh => ho j hj ((memr j y).2 ⟨hh, e⟩)
      obtain ⟨o1, o2, o3⟩ := h.out y hy ho'
      have hyq : y ≠ q := by
        rcases hqm with e2 | e2
        · exact fun e3 => ho' k hk (by rw [hr, e3]; simp [e2])
        · omega
      have hyp : y ≠ p := by
        rcases List.mem_cons.1 hpm with e2 | e2
        · omega
        · exact fun e3 => ho' k hk (by rw [hr, e3]; simp [e2])
      exact ⟨by rw [unF_pv, if_neg e, if_neg hyq]; exact o1, by rw [unF_nx, if_neg e, if_neg hyp]; exact o2, by rw [unF_ls, if_neg e]; exact o3⟩
  · obtain ⟨hy1, hy2⟩ := (memr j y).1 hy
    rw [unF_ls, if_neg hy2]
    exact h.lsin j hj y hy1
  · unfold upd
    by_cases e : j = k
    · subst e
      rw [if_pos rfl, hrk, h.many j hj, hr]
      simp only [List.length_append, List.length_cons]
      omega
    · rw [if_neg e, hrj j hj e]
      exact h.many j hj
  · unfold remR; rw [h.far j hj]; rfl
def liF (f : Fn) (k x c d : Nat) : Fn := upd (upd (upd (upd (upd f (x * 3) c) (x * 3 + 1) d) (x * 3 + 2) ((k : Int) + 1)) (c * 3 + 1) x) (d * 3) x
theorem liF_nx (f : Fn) (k x c d y : Nat) : liF f k x c d (y * 3 + 1) = if y = c then (x : Int) else if y = x then (d : Int) else f (y * 3 + 1) := by
  unfold liF upd
  rw [if_neg (by omega)]
  by_cases e : y = c
  · subst e; rw [if_pos rfl, if_pos rfl]
  · rw [if_neg e, if_neg (by omega), if_neg (by omega)]
    by_cases e2 : y = x
    · subst e2; rw [if_pos rfl, if_pos rfl]
    · rw [if_neg e2, if_neg (by omega), if_neg (by omega)]
theorem liF_pv (f : Fn) (k x c d y : Nat) : liF f k x c d (y * 3) = if y = d then (x : Int) else if y = x then (c : Int) else f (y * 3) := by
  unfold liF upd
  by_cases e : y = d
  · subst e; rw [if_pos rfl, if_pos rfl]
  · rw [if_neg e, if_neg (by omega), if_neg (by omega), if_neg (by omega), if_neg (by omega)]
    by_cases e2 : y = x
    · subst e2; rw [if_pos rfl, if_pos rfl]
    · rw [if_neg e2, if_neg (by omega)]
theorem liF_ls (f : Fn) (k x c d y : Nat) : liF f k x c d (y * 3 + 2) = if y = x then (k : Int) + 1 else f (y * 3 + 2) := by
  unfold liF upd
  rw [if_neg (by omega), if_neg (by omega)]
  by_cases e : y = x
  · subst e; rw [if_pos rfl, if_pos rfl]
  · rw [if_neg e, if_neg (by omega), if_neg (by omega), if_neg (by omega)]
def insR (r : Nat → List Nat) (k : Nat) (l : List Nat) : Nat → List Nat := fun j => if j = k then l else r j
theorem Rep.link {n m : Nat} {r : Nat → List Nat} {f g : Fn} (h : Rep n m r f g) {k x c d : Nat} {A B : List Nat} (hk : k < m) (hxn : x < n) (hx : ∀ j, j < m → x ∉ r j) (hr : r k = A ++ B) (hc : c = lastN (n + k) A) (hd : f (c * 3 + 1) = d) :
    Rep n m (insR r k (A ++ x :: B)) (liF f k x c d) (upd g k (g k + 1)) := by
  have hcyc := h.cyc hk
  rw [hr, ← List.cons_append, List.nodup_append] at hcyc
  obtain ⟨n1, n2, n3⟩ := hcyc
  have hpth := h.path k hk
  rw [hr] at hpth
  obtain ⟨p1, p2⟩ := pth_app' hpth
  have hl := pth_last A _ p1
  rw [← hc] at hl
  have hd' := natCast_inj (hd.symm.trans hl)
  have hcm : c ∈ (n + k) :: A := by rw [hc]; exact lastN_mem _ _
  have hxr := hx k hk
  rw [hr] at hxr
  have hcx : c ≠ x := by
    rcases List.mem_cons.1 hcm with e | e
    · omega
    · exact fun e2 => hxr (List.mem_append_left _ (e2 ▸ e))
  have hdm : d ∈ B ∨ d = n + k := by
    rw [hd']; cases B with
    | nil => exact .inr rfl
    | cons b B => exact .inl (List.mem_cons_self ..)
  have hdx : d ≠ x := by
    rcases hdm with e | e
    · exact fun e2 => hxr (List.mem_append_right _ (e2 ▸ e))
    · omega
  have hcl : c < n + m := by
    rcases List.mem_cons.1 hcm with e | e
    · omega
    · have := h.lt k hk c (by rw [hr]; exact List.mem_append_left _ e); omega
  obtain ⟨x1, x2, x3⟩ := h.out x hxn hx
  obtain ⟨pc, qc, -, hdl, -, c2, c3, -⟩ := h.bi c hcl
  rw [hd] at c2; obtain rfl := natCast_inj c2
  have inr : ∀ j y, y ∈ insR r k (A ++ x :: B) j → (y ∈ r j ∨ (j = k ∧ y = x)) := by
    intro j y hy
    unfold insR at hy
    by_cases e : j = k
    · rw [if_pos e] at hy
      rw [e, hr]
      simp only [List.mem_append, List.mem_cons] at hy ⊢
      rcases hy with hy | hy | hy
      · exact .inl (.inl hy)
      · exact .inr ⟨by first | rfl | trivial | exact e, hy⟩
      · exact .inl (.inr hy)
    · rw [if_neg e] at hy; exact .inl hy
  have inr2 : ∀ j y, y ∈ r j → y ∈ insR r k (A ++ x :: B) j := by
    intro j y hy
    unfold insR
    by_cases e : j = k
    · rw [if_pos e]; rw [e, hr] at hy; simp only [List.mem_append, List.mem_cons] at hy ⊢; exact hy.imp id .inr
    · rw [if_neg e]; exact hy
  refine ⟨fun j hj => ?_, fun j hj => ?_, fun i j hi hj hij y hy hy2 => ?_, fun j hj y hy => ?_, fun y hy => ?_, fun y hy ho => ?_, fun j hj y hy => ?_, fun j hj => ?_, fun j hj => ?_⟩
  · unfold insR
    by_cases e : j = k
    · subst e
      rw [if_pos rfl]
      refine (pth_split A _).2 ⟨?_, ?_⟩
      · refine pth_turn A _ n1 (fun y hy hne => ?_) ?_ p1
        · rw [liF_nx, if_neg (by rw [hc]; exact hne), if_neg ?_]
          rcases List.mem_cons.1 hy with rfl | hy
          · omega
          · exact fun e2 => hxr (List.mem_append_left _ (e2 ▸ hy))
        · rw [← hc, liF_nx, if_pos rfl]
      · cases B with
        | nil => show liF f j x c d (x * 3 + 1) = _; rw [liF_nx, if_neg hcx.symm, if_pos rfl, hd']; rfl
        | cons b B =>
          refine ⟨by rw [liF_nx, if_neg hcx.symm, if_pos rfl, hd']; rfl, pth_congr B b (fun y hy => ?_) (p2 b B rfl)⟩
          rw [liF_nx, if_neg (fun e => n3 c hcm y hy e.symm), if_neg (fun e : y = x => hxr (List.mem_append_right _ (by rw [← e]; exact hy)))]
    · rw [if_neg e]
      refine pth_congr _ _ (fun y hy => ?_) (h.path j hj)
      have hyx : y ≠ x := by
        rcases List.mem_cons.1 hy with rfl | hy
        · omega
        · exact fun e2 => hx j hj (e2 ▸ hy)
      have hyc : y ≠ c := by
        rcases List.mem_cons.1 hcm with e2 | e2
        · rcases List.mem_cons.1 hy with rfl | hy
          · omega
          · have := h.lt j hj y hy; omega
        · have hcr : c ∈ r k := by rw [hr]; exact List.mem_append_left _ e2
          rcases List.mem_cons.1 hy with rfl | hy
          · have := h.lt k hk c hcr; omega
          · exact fun e3 => h.dis j k hj hk e y hy (e3 ▸ hcr)
      rw [liF_nx, if_neg hyc, if_neg hyx]
  · unfold insR
    by_cases e : j = k
    · rw [if_pos e]
      have hn := h.nod k hk
      rw [hr, List.nodup_append] at hn
      rw [List.nodup_append, List.nodup_cons]
      refine ⟨hn.1, ⟨fun hh => hxr (List.mem_append_right _ hh), hn.2.1⟩, fun a ha b hb => ?_⟩
      rcases List.mem_cons.1 hb with rfl | hb
      · exact fun e2 => hxr (List.mem_append_left _ (e2 ▸ ha))
      · exact hn.2.2 a ha b hb
    · rw [if_neg e]; exact h.nod j hj
  · rcases inr i y hy with h1 | ⟨h1, h2⟩ <;> rcases inr j y hy2 with h3 | ⟨h3, h4⟩
    · exact h.dis i j hi hj hij y h1 h3
    · exact hx i hi (h4 ▸ h1)
    · exact hx j hj (h2 ▸ h3)
    · omega
  · rcases inr j y hy with h1 | ⟨h1, h2⟩
    · exact h.lt j hj y h1
    · omega
  · by_cases e : y = x
    · subst e
      exact ⟨c, d, hcl, hdl, by rw [liF_pv, if_neg hdx.symm, if_pos rfl], by rw [liF_nx, if_neg hcx.symm, if_pos rfl], by rw [liF_pv, if_pos rfl], by rw [liF_nx, if_pos rfl]⟩
    · obtain ⟨py, qy, h1, h2, h3, h4, h5, h6⟩ := h.bi y hy
      have Q : ∃ z : Nat, z < n + m ∧ liF f k x c d (y * 3 + 1) = z ∧ liF f k x c d (z * 3) = y := by
        by_cases e2 : y = c
        · exact ⟨x, by omega, by rw [liF_nx, if_pos e2], by rw [liF_pv, if_neg hdx.symm, if_pos rfl, e2]⟩
        · refine ⟨qy, h2, by rw [liF_nx, if_neg e2, if_neg e]; exact h4, ?_⟩
          rw [liF_pv, if_neg (fun e3 => e2 (by rw [e3, c3] at h5; exact (natCast_inj h5).symm)), if_neg (fun e3 => e (by rw [e3, x1] at h5; exact (natCast_inj h5).symm))]
          exact h5
      have Pv : ∃ z : Nat, z < n + m ∧ liF f k x c d (y * 3) = z ∧ liF f k x c d (z * 3 + 1) = y := by
        by_cases e2 : y = d
        · exact ⟨x, by omega, by rw [liF_pv, if_pos e2], by rw [liF_nx, if_neg hcx.symm, if_pos rfl, e2]⟩
        · refine ⟨py, h1, by rw [liF_pv, if_neg e2, if_neg e]; exact h3, ?_⟩
          rw [liF_nx, if_neg (fun e3 => e2 (by rw [e3, hd] at h6; exact (natCast_inj h6).symm)), if_neg (fun e3 => e (by rw [e3, x2] at h6; exact (natCast_inj h6).symm))]
          exact h6
      obtain ⟨z1, a1, a2, a3⟩ := Q
      obtain ⟨z2, b1, b2, b3⟩ := Pv
      exact ⟨z2, z1, b1, a1, b2, a2, a3, b3⟩
  · have hyx : y ≠ x := fun e => ho k hk (by unfold insR; rw [if_pos rfl, e]; simp)
    have ho' : ∀ j, j < m → y ∉ r j := fun j hj hh => ho j hj (inr2 j y hh)
    obtain ⟨o1, o2, o3⟩ := h.out y hy ho'
    have hyc : y ≠ c := by
      rcases List.mem_cons.1 hcm with e2 | e2
      · omega
      · exact fun e3 => ho' k hk (by rw [hr, e3]; exact List.mem_append_left _ e2)
    have hyd : y ≠ d := by
      rcases hdm with e2 | e2
      · exact fun e3 => ho' k hk (by rw [hr, e3]; exact List.mem_append_right _ e2)
      · omega
    exact ⟨by rw [liF_pv, if_neg hyd, if_neg hyx]; exact o1, by rw [liF_nx, if_neg hyc, if_neg hyx]; exact o2, by rw [liF_ls, if_neg hyx]; exact o3⟩
  · rw [liF_ls]
    rcases inr j y hy with h1 | ⟨h1, h2⟩
    · rw [if_neg (fun e : y = x => hx j hj (by rw [← e]; exact h1))]; exact h.lsin j hj y h1
    · rw [if_pos h2, h1]
  · unfold upd insR
    by_cases e : j = k
    · subst e
      rw [if_pos rfl, if_pos rfl, h.many j hj, hr]
      simp only [List.length_append, List.length_cons]
      omega
    · rw [if_neg e, if_neg e]; exact h.many j hj
  · unfold insR; rw [if_neg (by omega)]; exact h.far j hj
theorem Rep.new (n m : Nat) (f g : Fn) (hf : ∀ y, y < n + m → f (y * 3) = y ∧ f (y * 3 + 1) = y ∧ f (y * 3 + 2) = 0) (hg : ∀ k, k < m → g k = 0) : Rep n m (fun _ => []) f g :=
  ⟨fun k hk => (hf (n + k) (by omega)).2.1, fun _ _ => List.nodup_nil, by simp, by simp, fun y hy => ⟨y, y, hy, hy, (hf y hy).1, (hf y hy).2.1, (hf y hy).1, (hf y hy).2.1⟩, fun y hy _ => hf y (by omega), by simp, fun k hk => by rw [hg k hk]; rfl, fun _ _ => rfl⟩
theorem Rep.len {n m : Nat} {r : Nat → List Nat} {f g : Fn} (h : Rep n m r f g) {k : Nat} (hk : k < m) : (r k).length ≤ n := by
  have := List.Nodup.length_le_of_subset (h.nod k hk) (l₂ := List.range n) (fun y hy => List.mem_range.2 (h.lt k hk y hy))
  rwa [List.length_range] at this
end Go.Proofs.Ytcmcljdecmbceaa.Ct
