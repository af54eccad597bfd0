import Derived.Test.YtcmcljdecmbceaaLiR
/-! The reference's rows: Remove. -/
namespace Go.Proofs.Ytcmcljdecmbceaa.Ct
open Go.RowKit
set_option linter.unusedVariables false
set_option linter.unusedSimpArgs false
structure Rws (n m : Nat) (r : Nat → List Nat) : Prop where
  nod : ∀ k, k < m → (r k).Nodup
  dis : ∀ j k, j < m → k < m → j ≠ k → ∀ y ∈ r j, y ∉ r k
  lt : ∀ k, k < m → ∀ y ∈ r k, y < n
  far : ∀ k, m ≤ k → r k = []
theorem Rep.rws {n m : Nat} {r : Nat → List Nat} {f g : Fn} (h : Rep n m r f g) : Rws n m r := ⟨h.nod, h.dis, h.lt, h.far⟩
def remI (r : Nat → List Nat) (v : Int) : Nat → List Nat := fun j => (r j).filter fun y => (y : Int) != v
theorem remI_nat (r : Nat → List Nat) (y : Nat) : remI r (y : Int) = remR r y := by
  funext j
  unfold remI remR
  refine List.filter_congr fun x _ => ?_
  by_cases e : x = y
  · subst e; simp
  · rw [bne_iff_ne.2 e, bne_iff_ne.2 (by omega)]
theorem casts_filter (l : List Nat) (v : Int) : casts (l.filter fun y => (y : Int) != v) = (casts l).filter fun x => x != v := by
  unfold casts
  rw [List.filter_map]
  rfl
theorem casts_nodup {l : List Nat} (h : l.Nodup) : (casts l).Nodup := by
  unfold casts
  rw [List.nodup_iff_pairwise_ne, List.pairwise_map]
  exact h.imp fun hh e => hh (by omega)
theorem casts_mem {l : List Nat} {v : Int} : v ∈ casts l ↔ ∃ y ∈ l, (y : Int) = v := by unfold casts; exact List.mem_map
theorem rem_midI {A B : List Int} {x : Int} (h : (A ++ x :: B).Nodup) : (A ++ x :: B).filter (fun y => y != x) = A ++ B := by
  rw [List.nodup_append, List.nodup_cons] at h
  obtain ⟨h1, ⟨h2, h3⟩, h4⟩ := h
  rw [List.filter_append, List.filter_cons]
  have e : (x != x) = false := by simp
  rw [e, if_neg (by simp), List.filter_eq_self.2 (fun y hy => bne_iff_ne.2 (fun e => h4 y hy x (List.mem_cons_self ..) e)), List.filter_eq_self.2 (fun y hy => bne_iff_ne.2 (fun e : y = x => h2 (by rw [← e]; exact hy)))]
theorem remI_out {n m : Nat} {r : Nat → List Nat} {v : Int} (h : Rws n m r) (ho : ∀ k, k < m → v ∉ casts (r k)) : remI r v = r := by
  funext j
  unfold remI
  by_cases hj : j < m
  · exact List.filter_eq_self.2 fun y hy => bne_iff_ne.2 fun e => ho j hj (casts_mem.2 ⟨y, hy, e⟩)
  · rw [h.far j (by omega)]; rfl
/-- an append of what is read onto one of the call's own: its run. -/
theorem run_appr {P : Program} {w : World} (T ty E : TypeId) (k : IntKind) (B : Nat) (hT : P.underlying T = some (.slice E)) (hE : (P.info? E).map (fun i => (i.zero, i.size, i.bytes)) = some (some (.int k 0), 1, B)) (base : Nat) (v : Value) (xs ys : List Int) (hown : Own k E w base v xs)
    (ad : Option Addr) (cap : Nat) (hr : Row k w ad ys) (hlen : (xs.length + ys.length) * B ≤ 140737488355328) (hB : 0 < B) (hbase : base ≤ w.heap.size) :
    ∃ v' w', (Builtin.append_ #[T, T] ty #[v, .slice ad ys.length cap]).run P w = .ok v' w' ∧ Own k E w' base v' (xs ++ ys) ∧ w.grownBy w' v.ownBlock := by
  obtain ⟨i, hi, hz0, hz1, hz2⟩ := info_wf hE
  have hm : xs.length + ys.length ≤ 140737488355328 := Nat.le_trans (Nat.le_mul_of_pos_right _ hB) hlen
  cases ad with
  | none =>
    have hy : ys = [] := by
      rcases Nat.eq_zero_or_pos ys.length with h0 | h0
      · exact List.length_eq_zero_iff.1 h0
      · obtain ⟨ad, e, _⟩ := hr.2.2 h0; cases e
    subst hy
    have hrun := run_append_of_nil (P := P) w base T ty E i 1 hT hi v xs.length (nums k xs) hown.1 cap
    exact ⟨v, w, hrun, by rw [List.append_nil]; exact hown, World.grownBy.refl w _⟩
  | some ad =>
    obtain ⟨v', w', hrun, r1, r2, _⟩ := run_append_own (P := P) w base T ty E i (.int k 0) 1 B hT hi hz0 hz1 hz2 rfl (by decide) v xs.length (nums k xs) hown.1 ad ys.length cap (nums k ys) (by rw [nums_length]; omega) (by
      intro j u hj
      have hjl : j < ys.length := by
        have := (List.getElem?_eq_some_iff.1 hj).1
        rwa [nums_length] at this
      obtain ⟨ad', e, hc, _⟩ := hr.at_ hjl
      simp only [Option.some.injEq] at e
      subst e
      rw [hc, ← hj]
      simp [nums, List.getElem?_eq_getElem hjl, List.getD_eq_getElem?_getD]) (by
      intro u hu
      obtain ⟨y, _, rfl⟩ := List.mem_map.1 hu
      rfl) (by unfold maxLen; omega) hlen hbase
    refine ⟨v', w', hrun, ⟨by rw [List.length_append, nums_append]; exact r1, fun y hy => ?_⟩, r2⟩
    rcases List.mem_append.1 hy with hy | hy
    · exact hown.2 y hy
    · exact hr.2.1 y hy
/-- as one operation of a region. -/
theorem opwp_appr {P : Program} {w : World} {o : Oper} {a : Act} {K : Act → World → Prop} {Q : Exit → Act → World → Prop} (T E : TypeId) (k : IntKind) (B : Nat) (hT : P.underlying T = some (.slice E)) (hE : (P.info? E).map (fun i => (i.zero, i.size, i.bytes)) = some (some (.int k 0), 1, B)) (s x : Operand)
    (ho : o.op = .call { callee := .builtin .append, args := #[s, x], argTypes := #[T, T] }) (base : Nat) (v : Value) (xs ys : List Int) (hown : Own k E w base v xs) (hs : a.eval s = v) (ad : Option Addr) (cap : Nat) (hx : a.eval x = .slice ad ys.length cap)
    (hr : Row k w ad ys) (hlen : (xs.length + ys.length) * B ≤ 140737488355328) (hB : 0 < B) (hbase : base ≤ w.heap.size)
    (h : ∀ v' w', Own k E w' base v' (xs ++ ys) → w.grownBy w' v.ownBlock → K (a.put o.dst v') w') : Oper.wp P o a w K Q := by
  obtain ⟨v', w', hrun, r1, r2⟩ := run_appr (P := P) T o.type E k B hT hE base v xs ys hown ad cap hr hlen hB hbase
  unfold Oper.wp
  simp only [execOp, ho, resolve, invoke, builtin, Sem.run_bind, Sem.run_pure, Result.andThen_ok, List.map_toArray, List.map_cons, List.map_nil, hs, hx, hrun]
  exact h v' w' r1 r2
theorem row_tail {k : IntKind} {w : World} {ad : Addr} {A B : List Int} {x : Int} (h : Row k w (some ad) (A ++ x :: B)) (hp : ad = ⟨ad.block, 0, none⟩) : Row k w (some ⟨ad.block, A.length + 1, none⟩) B := by
  refine ⟨by have := h.1; simp at this; omega, fun y hy => h.2.1 y (by simp [hy]), fun hB => ⟨_, rfl, fun j hj => ?_⟩⟩
  obtain ⟨ad', e, hc, -⟩ := h.at_ (j := A.length + 1 + j) (by simp; omega)
  injection e with e
  subst e
  rw [hp, add_plain] at hc
  rw [Addr.add_lit, hc]
  congr 2
  rw [List.getD_eq_getElem?_getD, List.getD_eq_getElem?_getD, List.getElem?_append_right (by omega), show A.length + 1 + j - A.length = j + 1 by omega]
  rfl
theorem rem_row {n m : Nat} {r : Nat → List Nat} {v : Int} {k : Nat} {A B : List Int} (h : Rws n m r) (hk : k < m) (e : casts (r k) = A ++ v :: B) : casts (remI r v k) = A ++ B := by
  unfold remI
  rw [casts_filter, e]
  exact rem_midI (by rw [← e]; exact casts_nodup (h.nod k hk))
theorem rem_other {n m : Nat} {r : Nat → List Nat} {v : Int} {k j : Nat} (h : Rws n m r) (hk : k < m) (hv : v ∈ casts (r k)) (hj : j < m) (hne : j ≠ k) : remI r v j = r j := by
  obtain ⟨y, hy, rfl⟩ := casts_mem.1 hv
  unfold remI
  exact List.filter_eq_self.2 fun x hx => bne_iff_ne.2 fun e => h.dis j k hj hk hne x hx (by rw [show x = y by omega]; exact hy)
theorem RL.frozen {base C q qb n m : Nat} {w : World} {r : Nat → List Nat} (h : RL base C w q qb n m r) (k : Nat) : w.frozen? ⟨qb, k, none⟩ = false := by
  obtain ⟨vs, h1, -⟩ := h.kb
  exact h1.frozen k
/-- a row is laid anew. -/
theorem RL.put {base C q qb n m : Nat} {w w2 : World} {r r' : Nat → List Nat} (h : RL base C w q qb n m r) (hb : Below w.heap.size w w2) {k : Nat} (hk : k < m) {v : Value} {b : Nat} (ho : Own .i64 3 w2 b v (casts (r' k))) (hbC : C ≤ b) (hr : ∀ j, j < m → j ≠ k → r' j = r j) :
    RL base C (w2.setCell ⟨qb, k, none⟩ v) q qb n m r' := by
  obtain ⟨vs, h1, h2, h3⟩ := h.kb
  have hset : ∀ {u : Value} {xs : List Int}, Own .i64 3 w2 C u xs → Own .i64 3 (w2.setCell ⟨qb, k, none⟩ v) C u xs := by
    intro u xs hu
    refine ⟨⟨hu.1.1, ?_⟩, hu.2⟩
    rcases hu.1.2 with e | ⟨g, cap, cur, e, hg, hh, rr⟩
    · exact .inl e
    · have hbl : Blk w2 g 3 cur := hh
      exact .inr ⟨g, cap, cur, e, hg, hbl.far (p := ⟨qb, k, none⟩) (hbl.ne_ (h1.below hb) (by decide)) v, rr⟩
  refine ⟨h.bq, h.bb, (h.kq.below hb).far (p := ⟨qb, k, none⟩) (h.kq.ne_ h1 (by decide)) v, _, (h1.below hb).set_ k v, by simpa using h2, fun j hj => ?_⟩
  by_cases e : j = k
  · subst e
    exact ⟨v, by rw [Array.getElem?_setIfInBounds, if_pos rfl, if_pos (by omega)], hset (ho.mono hbC)⟩
  · obtain ⟨u, e1, e2⟩ := h3 j hj
    refine ⟨u, by rw [Array.getElem?_setIfInBounds, if_neg (fun e' => e e'.symm)]; exact e1, ?_⟩
    rw [hr j hj e]
    exact hset (e2.below hb)
def RRem (base C q qb n m : Nat) (r : Nat → List Nat) (v : Int) (w : World) (e : Ending) (w' : World) : Prop := ∃ b, e = .returned (.bool b) ∧ (b = true ↔ ∃ k, k < m ∧ v ∈ casts (r k)) ∧ RL base C w' q qb n m (remI r v) ∧ Tch qb qb w w'
set_option maxHeartbeats 8000000 in
theorem rrem_calls (base C q qb n m : Nat) (r : Nat → List Nat) (v : Int) (w : World) (h : RL base C w q qb n m r) (hr : Rws n m r) (hm : m ≤ 1000) (hC : C ≤ w.heap.size) (hL : ∀ k, k < m → (r k).length ≤ 100000) :
    Calls Try.prog 18 #[.pointer (some ⟨q, 0, none⟩), .int .i64 v] w (RRem base C q qb n m r v w) := by
  have OC := Lib.hid (rof_calls base C q qb n m r v w h hm)
  have H := Lib.hid h
  have HR := Lib.hid hr
  have c1 := h.c1.2
  clear h hr
  go_enter Try.func18, Try.ntmps18
  go_upto_region 2 with (go_at_call 32; (with_reducible refine (OC.out).mono ?_); rintro e w' ⟨i, rfl, hi, rfl⟩; have HI := Lib.hid hi; clear hi)
  rcases HI.out with ⟨hn, rfl⟩ | ⟨k, hk, hvk, rfl⟩
  · have HN := Lib.hid hn
    clear hn OC HI
    go_wp2
    go_ret
    exact ⟨false, rfl, ⟨fun h => (by cases h), fun ⟨k, hk, hh⟩ => absurd hh (HN.out k hk)⟩, by rw [remI_out HR.out HN.out]; exact H.out, Tch.refl _ _ _⟩
  · obtain ⟨a, c, hc, ho, hrow, hlc, hcm⟩ := H.out.row hk
    have IC := Lib.hid (rindex_calls a c (casts (r k)) v w hrow)
    rw [casts_length] at IC
    have hki : (k : Int) < m := by omega
    have hk0 : ¬ (k : Int) < 0 := by omega
    have HV := Lib.hid hvk
    clear hvk OC HI
    go_upto_region 5 with (go_at_call 33; (with_reducible refine (IC.out).mono ?_); rintro e w' ⟨i, rfl, hi, rfl⟩; have HI := Lib.hid hi; clear hi)
    rcases HI.out with ⟨hn, rfl⟩ | ⟨A, B, e1, e2, rfl⟩
    · exact absurd HV.out hn
    · have hne : (0 : Nat) < (casts (r k)).length := by rw [e1]; simp; omega
      obtain ⟨ad, rfl, -, -⟩ := hrow.at_ hne
      obtain ⟨a', c', hv', -, -, -, -, had⟩ := ho.form
      injection hv' with h1' h2' h3'
      subst h1' h3'
      obtain ⟨g2, hg2⟩ : ∃ g2, ad = ⟨g2, 0, none⟩ := ⟨_, (had ad rfl).1⟩
      subst hg2
      have hlen : (r k).length = A.length + 1 + B.length := by rw [← casts_length, e1]; simp; omega
      rw [e1] at hrow
      have HRA := Lib.hid (show Row .i64 w (some ⟨g2, 0, none⟩) A by have := hrow.take A.length; rw [List.take_left] at this; exact this)
      have HRB := Lib.hid (row_tail hrow rfl)
      have SD := Lib.hid (fun W (hb : Below w.heap.size w W) => (show W.cell? ⟨q, 1, none⟩ = some (.slice (some ⟨qb, 0, none⟩) m m) ∧ W.cell? ⟨qb, k, none⟩ = some (.slice (some ⟨g2, 0, none⟩) (r k).length c) from ⟨bget hb c1, bget hb hc⟩))
      have hLk := hL k hk
      have FZ := Lib.hid (fun W (hb : Below w.heap.size w W) => (show W.frozen? ⟨qb, k, none⟩ = false from ((H.out.below hb).frozen k)))
      have E1 := Lib.hid e1
      clear had h2' hrow e1 e2 ho hne IC HI
      generalize (r k).length = L at *
      obtain ⟨p, hp⟩ : ∃ p, A.length = p := ⟨_, rfl⟩
      obtain ⟨p2, hp2⟩ : ∃ p2, B.length = p2 := ⟨_, rfl⟩
      have HP := Lib.hid hp
      have HQ := Lib.hid hp2
      rw [hp] at hlen HRB ⊢
      rw [hp2] at hlen
      clear hp hp2
      have q1 : (p : Int) ≤ c := by omega
      have q2 : (p : Int) ≤ L := by omega
      have q3 : (p : Int) + 1 ≤ c := by omega
      have q4 : (p : Int) + 1 ≤ L := by omega
      have n1 : p ≤ c := by omega
      have n2 : p ≤ L := by omega
      have n3 : p + 1 ≤ c := by omega
      have n4 : p + 1 ≤ L := by omega
      have q5 : IntKind.i64.wrap ((p : Int) + 1) = (p : Int) + 1 := i64_wrap_id (by omega) (by omega)
      have hL2 : L - (p + 1) = p2 := by omega
      have q0 : (0 : Int) ≤ (p : Int) + 1 := by omega
      have HLN := Lib.hid hlen
      clear hlen
      by_cases hcp : p + 1 = c
      · subst hcp
        obtain rfl : p2 = 0 := by have := HLN.out; omega
        obtain rfl : L = p + 1 := by have := HLN.out; omega
        obtain rfl : B = [] := List.length_eq_zero_iff.1 HQ.out
        have q6 : (p : Int) ≤ (p : Int) + 1 := by omega
        have RB := Lib.hid (show Row .i64 w (some ⟨g2, 0, none⟩) [] from ⟨by decide, by simp, fun h => by simp at h⟩)
        refine region_Z 28 (S := (fun w' => w'.cell? ⟨q, 1, none⟩ = some (.slice (some ⟨qb, 0, none⟩) m m) ∧ w'.cell? ⟨qb, k, none⟩ = some (.slice (some ⟨g2, 0, none⟩) (p + 1) (p + 1)))) (by kernel_rfl) ?_ (fun hHeld => ?_)
        · (try dsimp only); (first | exact SD.out _ HB0.out | exact SD.out _ (below_drew (Below.refl _ _)) | exact SD.out _ HB1.out | exact SD.out _ HB2.out)
        refine takeZ_w (i := 0) (some 21) (v := ?_) rfl (by rfl) (by decide) (by kernel_rfl) (by kernel_rfl) (by kernel_rfl) (by kernel_rfl) (fun _ _ _ h => h) (by rfl) hHeld ?_ ?_
        rotate_left
        · intro w hSw; (try dsimp only at hSw); (first | (go_simp; done) | (go_simp; with_reducible rfl))
        try simp only [Act.put, List.setIfInBounds_toArray, List.set_cons_zero, List.set_cons_succ]
        refine takeZ_w (i := 1) (some 22) (v := ?_) rfl (by rfl) (by decide) (by kernel_rfl) (by kernel_rfl) (by kernel_rfl) (by kernel_rfl) (fun _ _ _ h => h) (by rfl) hHeld ?_ ?_
        rotate_left
        · intro w hSw; (try dsimp only at hSw); (first | (go_simp; done) | (go_simp; with_reducible rfl))
        try simp only [Act.put, List.setIfInBounds_toArray, List.set_cons_zero, List.set_cons_succ]
        refine takeZ_w (i := 2) (some 23) (v := ?_) rfl (by rfl) (by decide) (by kernel_rfl) (by kernel_rfl) (by kernel_rfl) (by kernel_rfl) (fun _ _ _ h => h) (by rfl) hHeld ?_ ?_
        rotate_left
        · intro w hSw; (try dsimp only at hSw); (first | (go_simp; done) | (go_simp; with_reducible rfl))
        try simp only [Act.put, List.setIfInBounds_toArray, List.set_cons_zero, List.set_cons_succ]
        refine takeZ_w (i := 3) (some 24) (v := ?_) rfl (by rfl) (by decide) (by kernel_rfl) (by kernel_rfl) (by kernel_rfl) (by kernel_rfl) (fun _ _ _ h => h) (by rfl) hHeld ?_ ?_
        rotate_left
        · intro w hSw; (try dsimp only at hSw); (first | (go_simp; done) | (go_simp; with_reducible rfl))
        try simp only [Act.put, List.setIfInBounds_toArray, List.set_cons_zero, List.set_cons_succ]
        refine takeZ_w (i := 4) (some 25) (v := ?_) rfl (by rfl) (by decide) (by kernel_rfl) (by kernel_rfl) (by kernel_rfl) (by kernel_rfl) (fun _ _ _ h => h) (by rfl) hHeld ?_ ?_
        rotate_left
        · intro w hSw; (try dsimp only at hSw); (first | (go_simp; done) | (go_simp; with_reducible rfl))
        try simp only [Act.put, List.setIfInBounds_toArray, List.set_cons_zero, List.set_cons_succ]
        refine takeZ_w (i := 6) (some 27) (v := ?_) rfl (by rfl) (by decide) (by kernel_rfl) (by kernel_rfl) (by kernel_rfl) (by kernel_rfl) (fun _ _ _ h => h) (by rfl) hHeld ?_ ?_
        rotate_left
        · intro w hSw; (try dsimp only at hSw); (first | (go_simp; done) | (go_simp; with_reducible rfl))
        try simp only [Act.put, List.setIfInBounds_toArray, List.set_cons_zero, List.set_cons_succ]
        refine takeZ_w (i := 7) (some 28) (v := ?_) rfl (by rfl) (by decide) (by kernel_rfl) (by kernel_rfl) (by kernel_rfl) (by kernel_rfl) (fun _ _ _ h => h) (by rfl) hHeld ?_ ?_
        rotate_left
        · intro w hSw; (try dsimp only at hSw); (first | (go_simp; done) | (go_simp; with_reducible rfl))
        try simp only [Act.put, List.setIfInBounds_toArray, List.set_cons_zero, List.set_cons_succ]
        refine takeZ_w (i := 8) (some 29) (v := ?_) rfl (by rfl) (by decide) (by kernel_rfl) (by kernel_rfl) (by kernel_rfl) (by kernel_rfl) (fun _ _ _ h => h) (by rfl) hHeld ?_ ?_
        rotate_left
        · intro w hSw; (try dsimp only at hSw); (first | (go_simp; done) | (go_simp; with_reducible rfl))
        try simp only [Act.put, List.setIfInBounds_toArray, List.set_cons_zero, List.set_cons_succ]
        refine takeZ_w (i := 9) (some 30) (v := ?_) rfl (by rfl) (by decide) (by kernel_rfl) (by kernel_rfl) (by kernel_rfl) (by kernel_rfl) (fun _ _ _ h => h) (by rfl) hHeld ?_ ?_
        rotate_left
        · intro w hSw; (try dsimp only at hSw); (first | (go_simp; done) | (go_simp; with_reducible rfl))
        try simp only [Act.put, List.setIfInBounds_toArray, List.set_cons_zero, List.set_cons_succ]
        refine takeZ_w (i := 10) (some 31) (v := ?_) rfl (by rfl) (by decide) (by kernel_rfl) (by kernel_rfl) (by kernel_rfl) (by kernel_rfl) (fun _ _ _ h => h) (by rfl) hHeld ?_ ?_
        rotate_left
        · intro w hSw; (try dsimp only at hSw); (first | (go_simp; done) | (go_simp; with_reducible rfl))
        try simp only [Act.put, List.setIfInBounds_toArray, List.set_cons_zero, List.set_cons_succ]
        refine takeZ_w (i := 11) (some 32) (v := ?_) rfl (by rfl) (by decide) (by kernel_rfl) (by kernel_rfl) (by kernel_rfl) (by kernel_rfl) (fun _ _ _ h => h) (by rfl) hHeld ?_ ?_
        rotate_left
        · intro w hSw; (try dsimp only at hSw); (first | (go_simp; done) | (go_simp; with_reducible rfl))
        try simp only [Act.put, List.setIfInBounds_toArray, List.set_cons_zero, List.set_cons_succ]
        refine takeZ_w (i := 12) (some 33) (v := ?_) rfl (by rfl) (by decide) (by kernel_rfl) (by kernel_rfl) (by kernel_rfl) (by kernel_rfl) (fun _ _ _ h => h) (by rfl) hHeld ?_ ?_
        rotate_left
        · intro w hSw; (try dsimp only at hSw); (first | (go_simp; done) | (go_simp; with_reducible rfl))
        try simp only [Act.put, List.setIfInBounds_toArray, List.set_cons_zero, List.set_cons_succ]
        refine takeZ_w (i := 13) (some 34) (v := ?_) rfl (by rfl) (by decide) (by kernel_rfl) (by kernel_rfl) (by kernel_rfl) (by kernel_rfl) (fun _ _ _ h => h) (by rfl) hHeld ?_ ?_
        rotate_left
        · intro w hSw; (try dsimp only at hSw); (first | (go_simp; done) | (go_simp; with_reducible rfl))
        try simp only [Act.put, List.setIfInBounds_toArray, List.set_cons_zero, List.set_cons_succ]
        refine takeZ_w (i := 14) (some 35) (v := ?_) rfl (by rfl) (by decide) (by kernel_rfl) (by kernel_rfl) (by kernel_rfl) (by kernel_rfl) (fun _ _ _ h => h) (by rfl) hHeld ?_ ?_
        rotate_left
        · intro w hSw; (try dsimp only at hSw); (first | (go_simp; done) | (go_simp; with_reducible rfl))
        try simp only [Act.put, List.setIfInBounds_toArray, List.set_cons_zero, List.set_cons_succ]
        refine takeZ_w (i := 16) (some 37) (v := ?_) rfl (by rfl) (by decide) (by kernel_rfl) (by kernel_rfl) (by kernel_rfl) (by kernel_rfl) (fun _ _ _ h => h) (by rfl) hHeld ?_ ?_
        rotate_left
        · intro w hSw; (try dsimp only at hSw); (first | (go_simp; done) | (go_simp; with_reducible rfl))
        try simp only [Act.put, List.setIfInBounds_toArray, List.set_cons_zero, List.set_cons_succ]
        refine takeZ_w (i := 17) (some 38) (v := ?_) rfl (by rfl) (by decide) (by kernel_rfl) (by kernel_rfl) (by kernel_rfl) (by kernel_rfl) (fun _ _ _ h => h) (by rfl) hHeld ?_ ?_
        rotate_left
        · intro w hSw; (try dsimp only at hSw); (first | (go_simp; done) | (go_simp; with_reducible rfl))
        try simp only [Act.put, List.setIfInBounds_toArray, List.set_cons_zero, List.set_cons_succ]
        refine takeZ_w (i := 18) (some 39) (v := ?_) rfl (by rfl) (by decide) (by kernel_rfl) (by kernel_rfl) (by kernel_rfl) (by kernel_rfl) (fun _ _ _ h => h) (by rfl) hHeld ?_ ?_
        rotate_left
        · intro w hSw; (try dsimp only at hSw); (first | (go_simp; done) | (go_simp; with_reducible rfl))
        try simp only [Act.put, List.setIfInBounds_toArray, List.set_cons_zero, List.set_cons_succ]
        refine takeZ_w (i := 19) (some 40) (v := ?_) rfl (by rfl) (by decide) (by kernel_rfl) (by kernel_rfl) (by kernel_rfl) (by kernel_rfl) (fun _ _ _ h => h) (by rfl) hHeld ?_ ?_
        rotate_left
        · intro w hSw; (try dsimp only at hSw); (first | (go_simp; done) | (go_simp; with_reducible rfl))
        try simp only [Act.put, List.setIfInBounds_toArray, List.set_cons_zero, List.set_cons_succ]
        refine takeZ_w (i := 20) (some 41) (v := ?_) rfl (by rfl) (by decide) (by kernel_rfl) (by kernel_rfl) (by kernel_rfl) (by kernel_rfl) (fun _ _ _ h => h) (by rfl) hHeld ?_ ?_
        rotate_left
        · intro w hSw; (try dsimp only at hSw); (first | (go_simp; done) | (go_simp; with_reducible rfl))
        try simp only [Act.put, List.setIfInBounds_toArray, List.set_cons_zero, List.set_cons_succ]
        refine takeZ_w (i := 21) (some 42) (v := ?_) rfl (by rfl) (by decide) (by kernel_rfl) (by kernel_rfl) (by kernel_rfl) (by kernel_rfl) (fun _ _ _ h => h) (by rfl) hHeld ?_ ?_
        rotate_left
        · intro w hSw; (try dsimp only at hSw); (first | (go_simp; done) | (go_simp; with_reducible rfl))
        try simp only [Act.put, List.setIfInBounds_toArray, List.set_cons_zero, List.set_cons_succ]
        refine takeZ_w (i := 22) (some 43) (v := ?_) rfl (by rfl) (by decide) (by kernel_rfl) (by kernel_rfl) (by kernel_rfl) (by kernel_rfl) (fun _ _ _ h => h) (by rfl) hHeld ?_ ?_
        rotate_left
        · intro w hSw; (try dsimp only at hSw); (first | (go_simp; done) | (go_simp; with_reducible rfl))
        try simp only [Act.put, List.setIfInBounds_toArray, List.set_cons_zero, List.set_cons_succ]
        refine takeZ_w (i := 23) (some 44) (v := ?_) rfl (by rfl) (by decide) (by kernel_rfl) (by kernel_rfl) (by kernel_rfl) (by kernel_rfl) (fun _ _ _ h => h) (by rfl) hHeld ?_ ?_
        rotate_left
        · intro w hSw; (try dsimp only at hSw); (first | (go_simp; done) | (go_simp; with_reducible rfl))
        try simp only [Act.put, List.setIfInBounds_toArray, List.set_cons_zero, List.set_cons_succ]
        refine takeZ_w (i := 24) (some 45) (v := ?_) rfl (by rfl) (by decide) (by kernel_rfl) (by kernel_rfl) (by kernel_rfl) (by kernel_rfl) (fun _ _ _ h => h) (by rfl) hHeld ?_ ?_
        rotate_left
        · intro w hSw; (try dsimp only at hSw); (first | (go_simp; done) | (go_simp; with_reducible rfl))
        try simp only [Act.put, List.setIfInBounds_toArray, List.set_cons_zero, List.set_cons_succ]
        refine takeZ_w (i := 25) (some 46) (v := ?_) rfl (by rfl) (by decide) (by kernel_rfl) (by kernel_rfl) (by kernel_rfl) (by kernel_rfl) (fun _ _ _ h => h) (by rfl) hHeld ?_ ?_
        rotate_left
        · intro w hSw; (try dsimp only at hSw); (first | (go_simp; done) | (go_simp; with_reducible rfl))
        try simp only [Act.put, List.setIfInBounds_toArray, List.set_cons_zero, List.set_cons_succ]
        refine oneZ (i := 5) (by kernel_rfl) rfl (by rfl) (fun K hK => ?_)
        unfold Oper.wp
        go_simp
        have HB0 := Lib.hid (show Below w.heap.size w (w.alloc (.cells #[] 3)).drew from below_drew (below_alloc (Below.refl w.heap.size w) (.cells #[] 3)))
        have HO0 := Lib.hid (show Own .i64 3 (w.alloc (.cells #[] 3)).drew w.heap.size (.slice (some ⟨w.heap.size, 0, none⟩) 0 0) [] from (own_lit [] (Nat.le_refl _) (by decide) (by simp)).drew)
        refine hK.out _ _ ?_ (fun hHeld2 => ?_)
        · (try dsimp only); (first | exact SD.out _ HB0.out | exact SD.out _ (below_drew (Below.refl _ _)) | exact SD.out _ HB1.out | exact SD.out _ HB2.out)
        clear hK K hHeld; have hHeld := hHeld2; clear hHeld2
        try simp only [Act.put, List.setIfInBounds_toArray, List.set_cons_zero, List.set_cons_succ]
        refine oneZ (i := 15) (by kernel_rfl) rfl (by rfl) (fun K hK => ?_)
        refine opwp_appr 30 3 .i64 8 Try.underlying30 infoI (.tmp 26) (.tmp 35) (by rfl) w.heap.size (.slice (some ⟨w.heap.size, 0, none⟩) 0 0) [] A HO0.out (by rfl) (some ⟨g2, 0, none⟩) (p + 1) (by rw [HP.out]; rfl) (HRA.out.below HB0.out) (by have := HP.out; simp; omega) (by decide) HB0.out.size ?_
        intro v1 w1 ho1 hg1
        have hb1 := Below.app HB0.out hg1 HO0.out (Nat.le_refl _) HB0.out.size
        obtain ⟨a1, c1, hv1, -, -, -, -⟩ := ho1.form
        subst hv1
        have HO1 := Lib.hid ho1; have HB1 := Lib.hid hb1; clear ho1 hb1 hg1
        refine hK.out _ _ ?_ (fun hHeld2 => ?_)
        · (try dsimp only); (first | exact SD.out _ HB0.out | exact SD.out _ (below_drew (Below.refl _ _)) | exact SD.out _ HB1.out | exact SD.out _ HB2.out)
        clear hK K hHeld; have hHeld := hHeld2; clear hHeld2
        try simp only [Act.put, List.setIfInBounds_toArray, List.set_cons_zero, List.set_cons_succ]
        refine oneZ (i := 26) (by kernel_rfl) rfl (by rfl) (fun K hK => ?_)
        refine opwp_appr 30 3 .i64 8 Try.underlying30 infoI (.tmp 36) (.tmp 46) (by rfl) w.heap.size _ ([] ++ A) [] HO1.out (by rfl) (some ⟨g2, 0, none⟩) 0 (by rfl) (RB.out.below HB1.out) (by have := HP.out; simp; omega) (by decide) HB1.out.size ?_
        intro v2 w2 ho2 hg2
        have hb2 := Below.app HB1.out hg2 HO1.out (Nat.le_refl _) HB1.out.size
        obtain ⟨a2, c2, hv2, -, -, -, -⟩ := ho2.form
        subst hv2
        have HO2 := Lib.hid ho2; have HB2 := Lib.hid hb2; clear ho2 hb2 hg2
        refine hK.out _ _ ?_ (fun hHeld2 => ?_)
        · (try dsimp only); (first | exact SD.out _ HB0.out | exact SD.out _ (below_drew (Below.refl _ _)) | exact SD.out _ HB1.out | exact SD.out _ HB2.out)
        clear hK K hHeld; have hHeld := hHeld2; clear hHeld2
        try simp only [Act.put, List.setIfInBounds_toArray, List.set_cons_zero, List.set_cons_succ]
        refine takeZ_w (i := 27) (some 48) (v := ?_) rfl (by rfl) (by decide) (by kernel_rfl) (by kernel_rfl) (by kernel_rfl) (by kernel_rfl) (fun _ _ _ h => h) (by rfl) hHeld ?_ ?_
        rotate_left
        · intro w hSw; (try dsimp only at hSw); (first | (go_simp; done) | (go_simp; with_reducible rfl))
        try simp only [Act.put, List.setIfInBounds_toArray, List.set_cons_zero, List.set_cons_succ]
        refine lastZ (by kernel_rfl) rfl (by rfl) (fun K hK => ?_)
        have fz := FZ.out _ HB2.out
        unfold Oper.wp
        go_simp
        refine hK.out _ _ ?_
        clear hK K hHeld
        try simp only [Act.put, List.setIfInBounds_toArray, List.set_cons_zero, List.set_cons_succ]
        refine doneZ (by kernel_rfl) ?_ _
        go_wp2
        go_ret
        exact ⟨true, rfl, ⟨fun _ => ⟨k, hk, HV.out⟩, fun _ => rfl⟩, RL.put H.out HB2.out hk (r' := remI r v) (by rw [rem_row HR.out hk E1.out]; simpa using HO2.out) hC (fun j hj hne => rem_other HR.out hk HV.out hj hne), (Tch.of_below HB2.out).set_ (p := ⟨qb, k, none⟩) (.inl rfl) _⟩
      · have RB := HRB
        have hcp2 : ¬ c = p + 1 := fun e => hcp e.symm
        refine region_Z 28 (S := (fun w' => w'.cell? ⟨q, 1, none⟩ = some (.slice (some ⟨qb, 0, none⟩) m m) ∧ w'.cell? ⟨qb, k, none⟩ = some (.slice (some ⟨g2, 0, none⟩) L c))) (by kernel_rfl) ?_ (fun hHeld => ?_)
        · (try dsimp only); (first | exact SD.out _ HB0.out | exact SD.out _ (below_drew (Below.refl _ _)) | exact SD.out _ HB1.out | exact SD.out _ HB2.out)
        refine takeZ_w (i := 0) (some 21) (v := ?_) rfl (by rfl) (by decide) (by kernel_rfl) (by kernel_rfl) (by kernel_rfl) (by kernel_rfl) (fun _ _ _ h => h) (by rfl) hHeld ?_ ?_
        rotate_left
        · intro w hSw; (try dsimp only at hSw); (first | (go_simp; done) | (go_simp; with_reducible rfl))
        try simp only [Act.put, List.setIfInBounds_toArray, List.set_cons_zero, List.set_cons_succ]
        refine takeZ_w (i := 1) (some 22) (v := ?_) rfl (by rfl) (by decide) (by kernel_rfl) (by kernel_rfl) (by kernel_rfl) (by kernel_rfl) (fun _ _ _ h => h) (by rfl) hHeld ?_ ?_
        rotate_left
        · intro w hSw; (try dsimp only at hSw); (first | (go_simp; done) | (go_simp; with_reducible rfl))
        try simp only [Act.put, List.setIfInBounds_toArray, List.set_cons_zero, List.set_cons_succ]
        refine takeZ_w (i := 2) (some 23) (v := ?_) rfl (by rfl) (by decide) (by kernel_rfl) (by kernel_rfl) (by kernel_rfl) (by kernel_rfl) (fun _ _ _ h => h) (by rfl) hHeld ?_ ?_
        rotate_left
        · intro w hSw; (try dsimp only at hSw); (first | (go_simp; done) | (go_simp; with_reducible rfl))
        try simp only [Act.put, List.setIfInBounds_toArray, List.set_cons_zero, List.set_cons_succ]
        refine takeZ_w (i := 3) (some 24) (v := ?_) rfl (by rfl) (by decide) (by kernel_rfl) (by kernel_rfl) (by kernel_rfl) (by kernel_rfl) (fun _ _ _ h => h) (by rfl) hHeld ?_ ?_
        rotate_left
        · intro w hSw; (try dsimp only at hSw); (first | (go_simp; done) | (go_simp; with_reducible rfl))
        try simp only [Act.put, List.setIfInBounds_toArray, List.set_cons_zero, List.set_cons_succ]
        refine takeZ_w (i := 4) (some 25) (v := ?_) rfl (by rfl) (by decide) (by kernel_rfl) (by kernel_rfl) (by kernel_rfl) (by kernel_rfl) (fun _ _ _ h => h) (by rfl) hHeld ?_ ?_
        rotate_left
        · intro w hSw; (try dsimp only at hSw); (first | (go_simp; done) | (go_simp; with_reducible rfl))
        try simp only [Act.put, List.setIfInBounds_toArray, List.set_cons_zero, List.set_cons_succ]
        refine takeZ_w (i := 6) (some 27) (v := ?_) rfl (by rfl) (by decide) (by kernel_rfl) (by kernel_rfl) (by kernel_rfl) (by kernel_rfl) (fun _ _ _ h => h) (by rfl) hHeld ?_ ?_
        rotate_left
        · intro w hSw; (try dsimp only at hSw); (first | (go_simp; done) | (go_simp; with_reducible rfl))
        try simp only [Act.put, List.setIfInBounds_toArray, List.set_cons_zero, List.set_cons_succ]
        refine takeZ_w (i := 7) (some 28) (v := ?_) rfl (by rfl) (by decide) (by kernel_rfl) (by kernel_rfl) (by kernel_rfl) (by kernel_rfl) (fun _ _ _ h => h) (by rfl) hHeld ?_ ?_
        rotate_left
        · intro w hSw; (try dsimp only at hSw); (first | (go_simp; done) | (go_simp; with_reducible rfl))
        try simp only [Act.put, List.setIfInBounds_toArray, List.set_cons_zero, List.set_cons_succ]
        refine takeZ_w (i := 8) (some 29) (v := ?_) rfl (by rfl) (by decide) (by kernel_rfl) (by kernel_rfl) (by kernel_rfl) (by kernel_rfl) (fun _ _ _ h => h) (by rfl) hHeld ?_ ?_
        rotate_left
        · intro w hSw; (try dsimp only at hSw); (first | (go_simp; done) | (go_simp; with_reducible rfl))
        try simp only [Act.put, List.setIfInBounds_toArray, List.set_cons_zero, List.set_cons_succ]
        refine takeZ_w (i := 9) (some 30) (v := ?_) rfl (by rfl) (by decide) (by kernel_rfl) (by kernel_rfl) (by kernel_rfl) (by kernel_rfl) (fun _ _ _ h => h) (by rfl) hHeld ?_ ?_
        rotate_left
        · intro w hSw; (try dsimp only at hSw); (first | (go_simp; done) | (go_simp; with_reducible rfl))
        try simp only [Act.put, List.setIfInBounds_toArray, List.set_cons_zero, List.set_cons_succ]
        refine takeZ_w (i := 10) (some 31) (v := ?_) rfl (by rfl) (by decide) (by kernel_rfl) (by kernel_rfl) (by kernel_rfl) (by kernel_rfl) (fun _ _ _ h => h) (by rfl) hHeld ?_ ?_
        rotate_left
        · intro w hSw; (try dsimp only at hSw); (first | (go_simp; done) | (go_simp; with_reducible rfl))
        try simp only [Act.put, List.setIfInBounds_toArray, List.set_cons_zero, List.set_cons_succ]
        refine takeZ_w (i := 11) (some 32) (v := ?_) rfl (by rfl) (by decide) (by kernel_rfl) (by kernel_rfl) (by kernel_rfl) (by kernel_rfl) (fun _ _ _ h => h) (by rfl) hHeld ?_ ?_
        rotate_left
        · intro w hSw; (try dsimp only at hSw); (first | (go_simp; done) | (go_simp; with_reducible rfl))
        try simp only [Act.put, List.setIfInBounds_toArray, List.set_cons_zero, List.set_cons_succ]
        refine takeZ_w (i := 12) (some 33) (v := ?_) rfl (by rfl) (by decide) (by kernel_rfl) (by kernel_rfl) (by kernel_rfl) (by kernel_rfl) (fun _ _ _ h => h) (by rfl) hHeld ?_ ?_
        rotate_left
        · intro w hSw; (try dsimp only at hSw); (first | (go_simp; done) | (go_simp; with_reducible rfl))
        try simp only [Act.put, List.setIfInBounds_toArray, List.set_cons_zero, List.set_cons_succ]
        refine takeZ_w (i := 13) (some 34) (v := ?_) rfl (by rfl) (by decide) (by kernel_rfl) (by kernel_rfl) (by kernel_rfl) (by kernel_rfl) (fun _ _ _ h => h) (by rfl) hHeld ?_ ?_
        rotate_left
        · intro w hSw; (try dsimp only at hSw); (first | (go_simp; done) | (go_simp; with_reducible rfl))
        try simp only [Act.put, List.setIfInBounds_toArray, List.set_cons_zero, List.set_cons_succ]
        refine takeZ_w (i := 14) (some 35) (v := ?_) rfl (by rfl) (by decide) (by kernel_rfl) (by kernel_rfl) (by kernel_rfl) (by kernel_rfl) (fun _ _ _ h => h) (by rfl) hHeld ?_ ?_
        rotate_left
        · intro w hSw; (try dsimp only at hSw); (first | (go_simp; done) | (go_simp; with_reducible rfl))
        try simp only [Act.put, List.setIfInBounds_toArray, List.set_cons_zero, List.set_cons_succ]
        refine takeZ_w (i := 16) (some 37) (v := ?_) rfl (by rfl) (by decide) (by kernel_rfl) (by kernel_rfl) (by kernel_rfl) (by kernel_rfl) (fun _ _ _ h => h) (by rfl) hHeld ?_ ?_
        rotate_left
        · intro w hSw; (try dsimp only at hSw); (first | (go_simp; done) | (go_simp; with_reducible rfl))
        try simp only [Act.put, List.setIfInBounds_toArray, List.set_cons_zero, List.set_cons_succ]
        refine takeZ_w (i := 17) (some 38) (v := ?_) rfl (by rfl) (by decide) (by kernel_rfl) (by kernel_rfl) (by kernel_rfl) (by kernel_rfl) (fun _ _ _ h => h) (by rfl) hHeld ?_ ?_
        rotate_left
        · intro w hSw; (try dsimp only at hSw); (first | (go_simp; done) | (go_simp; with_reducible rfl))
        try simp only [Act.put, List.setIfInBounds_toArray, List.set_cons_zero, List.set_cons_succ]
        refine takeZ_w (i := 18) (some 39) (v := ?_) rfl (by rfl) (by decide) (by kernel_rfl) (by kernel_rfl) (by kernel_rfl) (by kernel_rfl) (fun _ _ _ h => h) (by rfl) hHeld ?_ ?_
        rotate_left
        · intro w hSw; (try dsimp only at hSw); (first | (go_simp; done) | (go_simp; with_reducible rfl))
        try simp only [Act.put, List.setIfInBounds_toArray, List.set_cons_zero, List.set_cons_succ]
        refine takeZ_w (i := 19) (some 40) (v := ?_) rfl (by rfl) (by decide) (by kernel_rfl) (by kernel_rfl) (by kernel_rfl) (by kernel_rfl) (fun _ _ _ h => h) (by rfl) hHeld ?_ ?_
        rotate_left
        · intro w hSw; (try dsimp only at hSw); (first | (go_simp; done) | (go_simp; with_reducible rfl))
        try simp only [Act.put, List.setIfInBounds_toArray, List.set_cons_zero, List.set_cons_succ]
        refine takeZ_w (i := 20) (some 41) (v := ?_) rfl (by rfl) (by decide) (by kernel_rfl) (by kernel_rfl) (by kernel_rfl) (by kernel_rfl) (fun _ _ _ h => h) (by rfl) hHeld ?_ ?_
        rotate_left
        · intro w hSw; (try dsimp only at hSw); (first | (go_simp; done) | (go_simp; with_reducible rfl))
        try simp only [Act.put, List.setIfInBounds_toArray, List.set_cons_zero, List.set_cons_succ]
        refine takeZ_w (i := 21) (some 42) (v := ?_) rfl (by rfl) (by decide) (by kernel_rfl) (by kernel_rfl) (by kernel_rfl) (by kernel_rfl) (fun _ _ _ h => h) (by rfl) hHeld ?_ ?_
        rotate_left
        · intro w hSw; (try dsimp only at hSw); (first | (go_simp; done) | (go_simp; with_reducible rfl))
        try simp only [Act.put, List.setIfInBounds_toArray, List.set_cons_zero, List.set_cons_succ]
        refine takeZ_w (i := 22) (some 43) (v := ?_) rfl (by rfl) (by decide) (by kernel_rfl) (by kernel_rfl) (by kernel_rfl) (by kernel_rfl) (fun _ _ _ h => h) (by rfl) hHeld ?_ ?_
        rotate_left
        · intro w hSw; (try dsimp only at hSw); (first | (go_simp; done) | (go_simp; with_reducible rfl))
        try simp only [Act.put, List.setIfInBounds_toArray, List.set_cons_zero, List.set_cons_succ]
        refine takeZ_w (i := 23) (some 44) (v := ?_) rfl (by rfl) (by decide) (by kernel_rfl) (by kernel_rfl) (by kernel_rfl) (by kernel_rfl) (fun _ _ _ h => h) (by rfl) hHeld ?_ ?_
        rotate_left
        · intro w hSw; (try dsimp only at hSw); (first | (go_simp; done) | (go_simp; with_reducible rfl))
        try simp only [Act.put, List.setIfInBounds_toArray, List.set_cons_zero, List.set_cons_succ]
        refine takeZ_w (i := 24) (some 45) (v := ?_) rfl (by rfl) (by decide) (by kernel_rfl) (by kernel_rfl) (by kernel_rfl) (by kernel_rfl) (fun _ _ _ h => h) (by rfl) hHeld ?_ ?_
        rotate_left
        · intro w hSw; (try dsimp only at hSw); (first | (go_simp; done) | (go_simp; with_reducible rfl))
        try simp only [Act.put, List.setIfInBounds_toArray, List.set_cons_zero, List.set_cons_succ]
        refine takeZ_w (i := 25) (some 46) (v := ?_) rfl (by rfl) (by decide) (by kernel_rfl) (by kernel_rfl) (by kernel_rfl) (by kernel_rfl) (fun _ _ _ h => h) (by rfl) hHeld ?_ ?_
        rotate_left
        · intro w hSw; (try dsimp only at hSw); (first | (go_simp; done) | (go_simp; with_reducible rfl))
        try simp only [Act.put, List.setIfInBounds_toArray, List.set_cons_zero, List.set_cons_succ]
        refine oneZ (i := 5) (by kernel_rfl) rfl (by rfl) (fun K hK => ?_)
        unfold Oper.wp
        go_simp
        have HB0 := Lib.hid (show Below w.heap.size w (w.alloc (.cells #[] 3)).drew from below_drew (below_alloc (Below.refl w.heap.size w) (.cells #[] 3)))
        have HO0 := Lib.hid (show Own .i64 3 (w.alloc (.cells #[] 3)).drew w.heap.size (.slice (some ⟨w.heap.size, 0, none⟩) 0 0) [] from (own_lit [] (Nat.le_refl _) (by decide) (by simp)).drew)
        refine hK.out _ _ ?_ (fun hHeld2 => ?_)
        · (try dsimp only); (first | exact SD.out _ HB0.out | exact SD.out _ (below_drew (Below.refl _ _)) | exact SD.out _ HB1.out | exact SD.out _ HB2.out)
        clear hK K hHeld; have hHeld := hHeld2; clear hHeld2
        try simp only [Act.put, List.setIfInBounds_toArray, List.set_cons_zero, List.set_cons_succ]
        refine oneZ (i := 15) (by kernel_rfl) rfl (by rfl) (fun K hK => ?_)
        refine opwp_appr 30 3 .i64 8 Try.underlying30 infoI (.tmp 26) (.tmp 35) (by rfl) w.heap.size (.slice (some ⟨w.heap.size, 0, none⟩) 0 0) [] A HO0.out (by rfl) (some ⟨g2, 0, none⟩) c (by rw [HP.out]; rfl) (HRA.out.below HB0.out) (by have := HP.out; have := HQ.out; simp; omega) (by decide) HB0.out.size ?_
        intro v1 w1 ho1 hg1
        have hb1 := Below.app HB0.out hg1 HO0.out (Nat.le_refl _) HB0.out.size
        obtain ⟨a1, c1, hv1, -, -, -, -⟩ := ho1.form
        subst hv1
        have HO1 := Lib.hid ho1; have HB1 := Lib.hid hb1; clear ho1 hb1 hg1
        refine hK.out _ _ ?_ (fun hHeld2 => ?_)
        · (try dsimp only); (first | exact SD.out _ HB0.out | exact SD.out _ (below_drew (Below.refl _ _)) | exact SD.out _ HB1.out | exact SD.out _ HB2.out)
        clear hK K hHeld; have hHeld := hHeld2; clear hHeld2
        try simp only [Act.put, List.setIfInBounds_toArray, List.set_cons_zero, List.set_cons_succ]
        refine oneZ (i := 26) (by kernel_rfl) rfl (by rfl) (fun K hK => ?_)
        refine opwp_appr 30 3 .i64 8 Try.underlying30 infoI (.tmp 36) (.tmp 46) (by rfl) w.heap.size _ ([] ++ A) B HO1.out (by rfl) (some ⟨g2, p + 1, none⟩) (c - (p + 1)) (by rw [HQ.out]; rfl) (RB.out.below HB1.out) (by have := HP.out; have := HQ.out; simp; omega) (by decide) HB1.out.size ?_
        intro v2 w2 ho2 hg2
        have hb2 := Below.app HB1.out hg2 HO1.out (Nat.le_refl _) HB1.out.size
        obtain ⟨a2, c2, hv2, -, -, -, -⟩ := ho2.form
        subst hv2
        have HO2 := Lib.hid ho2; have HB2 := Lib.hid hb2; clear ho2 hb2 hg2
        refine hK.out _ _ ?_ (fun hHeld2 => ?_)
        · (try dsimp only); (first | exact SD.out _ HB0.out | exact SD.out _ (below_drew (Below.refl _ _)) | exact SD.out _ HB1.out | exact SD.out _ HB2.out)
        clear hK K hHeld; have hHeld := hHeld2; clear hHeld2
        try simp only [Act.put, List.setIfInBounds_toArray, List.set_cons_zero, List.set_cons_succ]
        refine takeZ_w (i := 27) (some 48) (v := ?_) rfl (by rfl) (by decide) (by kernel_rfl) (by kernel_rfl) (by kernel_rfl) (by kernel_rfl) (fun _ _ _ h => h) (by rfl) hHeld ?_ ?_
        rotate_left
        · intro w hSw; (try dsimp only at hSw); (first | (go_simp; done) | (go_simp; with_reducible rfl))
        try simp only [Act.put, List.setIfInBounds_toArray, List.set_cons_zero, List.set_cons_succ]
        refine lastZ (by kernel_rfl) rfl (by rfl) (fun K hK => ?_)
        have fz := FZ.out _ HB2.out
        unfold Oper.wp
        go_simp
        refine hK.out _ _ ?_
        clear hK K hHeld
        try simp only [Act.put, List.setIfInBounds_toArray, List.set_cons_zero, List.set_cons_succ]
        refine doneZ (by kernel_rfl) ?_ _
        go_wp2
        go_ret
        exact ⟨true, rfl, ⟨fun _ => ⟨k, hk, HV.out⟩, fun _ => rfl⟩, RL.put H.out HB2.out hk (r' := remI r v) (by rw [rem_row HR.out hk E1.out]; simpa using HO2.out) hC (fun j hj hne => rem_other HR.out hk HV.out hj hne), (Tch.of_below HB2.out).set_ (p := ⟨qb, k, none⟩) (.inl rfl) _⟩
end Go.Proofs.Ytcmcljdecmbceaa.Ct
