import Derived.Test.YtjjhfllpbicclaaGhF
import Derived.Test.YtjjhfllpbicclaaHeld
/-! Histories: settle. -/
namespace Go.Proofs.Ytjjhfllpbicclaa.Ct
open Go.RowKit
set_option linter.unusedVariables false
set_option linter.unusedSimpArgs false
theorem i64_wrap_id {x : Int} (h0 : -9223372036854775808 ≤ x) (h1 : x ≤ 9223372036854775807) : IntKind.i64.wrap x = x := by have := wrap64_id (x := x) ⟨h0, h1⟩; unfold wrap64 at this; rw [IntKind.wrap_i64]; exact this
/-- puts that count no more, and keys beyond the cap, are dropped from the front. -/
def setL (most : Int) : List KV → List KV → List KV × List KV
  | M, [] => (M, [])
  | M, p :: L => if cntS M p = true ∧ (M.length : Int) ≤ most then (M, p :: L) else setL most (if cntS M p = true then delM M p.1 else M) L
def settS (most : Int) (M L : List KV) : List KV × List KV :=
  if 2 * ((setL most M L).1.length : Int) + 8 < ((setL most M L).2.length : Int) then ((setL most M L).1, keepS (setL most M L).1 (setL most M L).2) else setL most M L
def mineH : Obj → Bool | .cells _ t _ => t == 47 || t == 44 | .map _ _ => true | _ => false
theorem mineH_p : ∀ cs, mineH (.cells cs 47 (0, 0)) = true := fun _ => rfl
theorem mineH_h : ∀ cs, mineH (.cells cs 44 (0, 0)) = true := fun _ => rfl
theorem mineH_b : ∀ cs, mineH (.cells cs 23 (0, 0)) = false := fun _ => rfl
theorem minePH : ∀ o, minePut o = true → mineH o = true := by
  intro o h
  cases o <;> simp_all [minePut, mineH]
theorem ent_Del : ∀ args w, (callFunc 21 args).run Try.prog w = .ok (.enter 21 args) w := fun _ _ => by kernel_rfl
theorem Fr.mapTo {base : Nat} {w w1 w2 : World} {g : Nat} {M : List KV} (h : Fr base mineH w w1) (hm : MapU w1 g M) (ht : MapTo w1 w2 g) (hg : base ≤ g) : Fr base mineH w w2 :=
  h.trans ⟨ht.os, ht.tape, ht.output, by rw [ht.size]; exact Nat.le_refl _, fun i hi hc => ht.block i (by
    rintro rfl
    obtain ⟨es, c, hb, _⟩ := hm
    rcases hc with hc | hc
    · omega
    · have := hc _ hb; cases this)⟩
theorem blk_ne_map {w : World} {b g : Nat} {t : TypeId} {cs : Array Value} {M : List KV} (hb : Blk w b t cs) (hm : MapU w g M) : b ≠ g := by
  rintro rfl
  obtain ⟨es, c, e1, _⟩ := hm
  unfold Blk at hb
  rw [e1] at hb
  cases hb
theorem SL.mapTo {base : Nat} {w w' : World} {g : Nat} {M : List KV} {E : TypeId} {size : Nat} {sv : Value} {n : Nat} {xs : List Value} (h : SL base w E size sv n xs) (hm : MapU w g M) (ht : MapTo w w' g) : SL base w' E size sv n xs :=
  h.keep fun g' cs _ hbl => ht.blk hbl (blk_ne_map hbl hm)
theorem step_delU {P : Program} {ops : Array Oper} {o : Oper} {a : Act} {w : World} {K : Act → World → Prop} {Q : Exit → Act → World → Prop} {F : Prop} (T Kt E : TypeId) (hT : P.underlying T = some (.map Kt E)) (hKt : P.underlying Kt = some (.int .u64)) (hgd : o.guard = none) (s x : Operand)
    (ho : o.op = .call { callee := .builtin .delete, args := #[s, x], argTypes := #[T, Kt] }) (g : Nat) (k : Int) (hs : a.eval s = .map (some g)) (hx : a.eval x = .int .u64 k) (M : List KV) (h : MapU w g M)
    (hK : ∀ w', MapU w' g (delM M k) → MapTo w w' g → K (a.put o.dst (.tuple #[])) w') : if Region.wanted o (yielded ops a.tmps) = true then Oper.wp P o a w K Q else F := by
  have hw : Region.wanted o (yielded ops a.tmps) = true := by simp [Region.wanted, hgd]
  rw [if_pos hw]
  obtain ⟨w', hr, r1, r2⟩ := run_delU (P := P) (ty := o.type) hT hKt h k
  unfold Oper.wp
  simp only [execOp, ho, resolve, invoke, builtin, Sem.run_bind, Sem.run_pure, Result.andThen_ok, List.map_toArray, List.map_cons, List.map_nil, hs, hx, hr]
  exact hK w' r1 r2
set_option maxHeartbeats 8000000 in
theorem settle_calls (base h g : Nat) (sv : Value) (M L : List KV) (now most : Int) (w : World) (a : His base w h g sv M L now most) (hL : L.length ≤ 100000) (hM : M.length ≤ 100000) (hbase : base ≤ w.heap.size) :
    Calls Try.prog 19 #[.pointer (some ⟨h, 0, none⟩)] w fun e w' => e = .returned (.tuple #[]) ∧ ∃ sv', His base w' h g sv' (settS most M L).1 (settS most M L).2 now most ∧ Fr base mineH w w' := by
  have hb1 := below_alloc (Below.refl w.heap.size w) (.cells #[.pointer (some ⟨h, 0, none⟩)] 23)
  have HA := Lib.hid (a.below hb1)
  have hbk : Blk (w.alloc (.cells #[.pointer (some ⟨h, 0, none⟩)] 23)) w.heap.size 23 #[.pointer (some ⟨h, 0, none⟩)] := Blk.new _ _ _
  have HBK := Lib.hid hbk
  have HF1 := Lib.hid (Fr.of_below (base := base) (mine := mineH) hb1)
  have HSZ := Lib.hid (show base ≤ (w.alloc (.cells #[.pointer (some ⟨h, 0, none⟩)] 23)).heap.size by simp; omega)
  have HS : Hid (settS most M L = if 2 * ((setL most M L).1.length : Int) + 8 < ((setL most M L).2.length : Int) then ((setL most M L).1, keepS (setL most M L).1 (setL most M L).2) else setL most M L) := Lib.hid rfl
  clear a hb1 hbk hbase
  generalize settS most M L = S at *
  obtain ⟨R, hR⟩ : ∃ R, setL most M L = R := ⟨_, rfl⟩
  have HR := Lib.hid hR
  rw [hR] at HS
  clear hR
  go_enter Try.func19, Try.ntmps19
  go_upto_region 1 with (fail)
  generalize w.alloc (.cells #[.pointer (some ⟨h, 0, none⟩)] 23) = w1 at *
  generalize w.heap.size = b at HBK
  go_loopw [] (fun wr => ∃ M' L' sv', L'.length ≤ 100000 ∧ M'.length ≤ 100000 ∧ His base wr h g sv' M' L' now most ∧ setL most M' L' = R ∧ Fr base mineH w1 wr) (fun wr => match wr.cell? ⟨h, 1, none⟩ with | some (.slice _ n _) => n | _ => 0)
  case atStart => exact ⟨M, L, sv, hL, hM, HA.out, HR.out, Fr.refl _ _ _⟩
  case round =>
    obtain ⟨M', L', sv', hl, hmm, ⟨hb1, hb2, hhk, hmu, hsl⟩, hset, hfr⟩ := hrel
    have HSET := Lib.hid hset
    have HFR := Lib.hid hfr
    have HBKR := Lib.hid (HBK.out.fr hfr (mineH_b _))
    have HHK := Lib.hid hhk
    have HMU := Lib.hid hmu
    have HSL := Lib.hid hsl
    have bc := HBKR.out.cell 0
    have hc0 := hhk.cell 0
    have hc1 := hhk.cell 1
    have hc3 := hhk.cell 3
    have ln := fun (q : Nat) (ty : TypeId) => run_lenU (P := Try.prog) (ty := ty) (w := wr.drewN q) Try.underlying41 (show MapU (wr.drewN q) g M' from hmu)
    obtain ⟨sa, cap, hsv, hcap, hcm⟩ := hsl.form
    subst hsv
    clear hset hfr hhk hmu hsl
    cases L' with
    | nil =>
      have hr : R = (M', []) := HSET.out.symm.trans rfl
      subst hr
      have w1 : IntKind.i64.wrap (2 * (M'.length : Int)) = 2 * M'.length := i64_wrap_id (by omega) (by omega)
      have w2 : IntKind.i64.wrap (2 * (M'.length : Int) + 8) = 2 * M'.length + 8 := i64_wrap_id (by omega) (by omega)
      have d1 : decide (2 * (M'.length : Int) + 8 < 0) = false := decide_eq_false (by omega)
      have HSS := Lib.hid (show S = (M', []) by rw [HS.out]; exact if_neg (by simp; omega))
      go_wp2
      go_quiet (fail)
      go_wp2
      go_quiet (fail)
      go_wp2
      refine bodyPost_end (results_none rfl _ _ _) rfl ?_
      exact ⟨rfl, _, by rw [HSS.out]; exact ⟨hb1, hb2, (HHK.out.drewN _).drewN _, HMU.out, (HSL.out.drewN _).drewN _⟩, ((HF1.out.trans HFR.out).drewN _).drewN _⟩
    | cons p L2 =>
      obtain ⟨gp, off, rfl⟩ := put_addr HSL.out (by simp)
      obtain ⟨n, hn⟩ : ∃ n : Nat, (p :: L2).length = n := ⟨_, rfl⟩
      have HN := Lib.hid hn
      have hn0 : 0 < n := by rw [← hn]; simp
      have hn0i : (0 : Int) < n := by omega
      simp only [hn] at HSL hc1 hcap hl
      obtain ⟨d0, d1⟩ := put_cells HSL.out hn hn0
      simp only [Nat.zero_mul, Nat.add_zero, List.getD_cons_zero] at d0 d1
      have CC := Lib.hid (fun (W : World) (hb : Below wr.heap.size wr W) => counts_calls h g M' p W (bget hb hc0) (HMU.out.below hb))
      have LN := Lib.hid (fun (W : World) (hb : Below wr.heap.size wr W) ty => run_lenU (P := Try.prog) (ty := ty) (w := W) Try.underlying41 (HMU.out.below hb))
      obtain ⟨ml, hml⟩ : ∃ ml : Nat, M'.length = ml := ⟨_, rfl⟩
      simp only [hml] at LN hmm
      have HML := Lib.hid hml
      clear hn hml ln
      obtain ⟨p1, p2⟩ := p
      dsimp only at *
      have KEEP := Lib.hid (fun w' (hb : Below wr.heap.size wr w') => (show w'.cell? ⟨b, 0, none⟩ = some (.pointer (some ⟨h, 0, none⟩)) ∧ w'.cell? ⟨h, 0, none⟩ = some (.map (some g)) ∧ w'.cell? ⟨h, 1, none⟩ = some (.slice (some ⟨gp, off, none⟩) n cap) ∧ w'.cell? ⟨h, 3, none⟩ = some (.int .i64 most) ∧ w'.cell? ⟨gp, off, none⟩ = some (.int .u64 p1) ∧ w'.cell? ⟨gp, off + 1, none⟩ = some (.int .i64 p2) ∧ ∀ ty, (Builtin.len_ #[41] ty #[.map (some g)]).run Try.prog w' = .ok (.int .i64 ml) w' from ⟨bget hb bc, bget hb hc0, bget hb hc1, bget hb hc3, bget hb d0, bget hb d1, LN.out _ hb⟩))
      have hnc : (n : Int) ≤ cap := by omega
      clear bc hc0 hc1 hc3 d0 d1 LN
      go_upto_region 1 with (fail)
      go_cut [30] (fun s wx => s = .bool (!cntS M' (p1, p2) || decide (most < ml)) ∧ Below wr.heap.size wr wx)
      case first =>
        cases hq : cntS M' (p1, p2)
        · rw [hq] at CC
          have HQ := Lib.hid hq
          clear hq
          refine wp_region_held_drew (S := fun w' => w'.cell? ⟨b, 0, none⟩ = some (.pointer (some ⟨h, 0, none⟩)) ∧ w'.cell? ⟨h, 0, none⟩ = some (.map (some g)) ∧ w'.cell? ⟨h, 1, none⟩ = some (.slice (some ⟨gp, off, none⟩) n cap) ∧ w'.cell? ⟨h, 3, none⟩ = some (.int .i64 most) ∧ w'.cell? ⟨gp, off, none⟩ = some (.int .u64 p1) ∧ w'.cell? ⟨gp, off + 1, none⟩ = some (.int .i64 p2) ∧ ∀ ty, (Builtin.len_ #[41] ty #[.map (some g)]).run Try.prog w' = .ok (.int .i64 ml) w') (by kernel_rfl) ?_ (fun hHeld => ?_)
          · (try dsimp only); (first | exact KEEP.out _ HBF.out | exact KEEP.out _ (below_drew (Below.refl _ _)))
          refine take_w (i := 0) (some 2) (v := ?_) rfl (by rfl) (by kernel_rfl) (by kernel_rfl) (by kernel_rfl) (fun _ _ _ h => h) (by rfl) hHeld ?_ ?_
          rotate_left
          · intro w hSw; (try dsimp only at hSw); (first | (go_simp; done) | (go_simp; with_reducible rfl))
          try simp only [Act.put, List.setIfInBounds_toArray, List.set_cons_zero, List.set_cons_succ]
          refine take_w (i := 1) (some 3) (v := ?_) rfl (by rfl) (by kernel_rfl) (by kernel_rfl) (by kernel_rfl) (fun _ _ _ h => h) (by rfl) hHeld ?_ ?_
          rotate_left
          · intro w hSw; (try dsimp only at hSw); (first | (go_simp; done) | (go_simp; with_reducible rfl))
          try simp only [Act.put, List.setIfInBounds_toArray, List.set_cons_zero, List.set_cons_succ]
          refine take_w (i := 2) (some 4) (v := ?_) rfl (by rfl) (by kernel_rfl) (by kernel_rfl) (by kernel_rfl) (fun _ _ _ h => h) (by rfl) hHeld ?_ ?_
          rotate_left
          · intro w hSw; (try dsimp only at hSw); (first | (go_simp; done) | (go_simp; with_reducible rfl))
          try simp only [Act.put, List.setIfInBounds_toArray, List.set_cons_zero, List.set_cons_succ]
          refine take_w (i := 3) (some 5) (v := ?_) rfl (by rfl) (by kernel_rfl) (by kernel_rfl) (by kernel_rfl) (fun _ _ _ h => h) (by rfl) hHeld ?_ ?_
          rotate_left
          · intro w hSw; (try dsimp only at hSw); (first | (go_simp; done) | (go_simp; with_reducible rfl))
          try simp only [Act.put, List.setIfInBounds_toArray, List.set_cons_zero, List.set_cons_succ]
          refine take_w (i := 4) (some 6) (v := ?_) rfl (by rfl) (by kernel_rfl) (by kernel_rfl) (by kernel_rfl) (fun _ _ _ h => h) (by rfl) hHeld ?_ ?_
          rotate_left
          · intro w hSw; (try dsimp only at hSw); (first | (go_simp; done) | (go_simp; with_reducible rfl))
          try simp only [Act.put, List.setIfInBounds_toArray, List.set_cons_zero, List.set_cons_succ]
          refine take_w (i := 5) (some 7) (v := ?_) rfl (by rfl) (by kernel_rfl) (by kernel_rfl) (by kernel_rfl) (fun _ _ _ h => h) (by rfl) hHeld ?_ ?_
          rotate_left
          · intro w hSw; (try dsimp only at hSw); (first | (go_simp; done) | (go_simp; with_reducible rfl))
          try simp only [Act.put, List.setIfInBounds_toArray, List.set_cons_zero, List.set_cons_succ]
          refine take_w (i := 6) (some 8) (v := ?_) rfl (by rfl) (by kernel_rfl) (by kernel_rfl) (by kernel_rfl) (fun _ _ _ h => h) (by rfl) hHeld ?_ ?_
          rotate_left
          · intro w hSw; (try dsimp only at hSw); (first | (go_simp; done) | (go_simp; with_reducible rfl))
          try simp only [Act.put, List.setIfInBounds_toArray, List.set_cons_zero, List.set_cons_succ]
          refine take_w (i := 7) (some 9) (v := ?_) rfl (by rfl) (by kernel_rfl) (by kernel_rfl) (by kernel_rfl) (fun _ _ _ h => h) (by rfl) hHeld ?_ ?_
          rotate_left
          · intro w hSw; (try dsimp only at hSw); (first | (go_simp; done) | (go_simp; with_reducible rfl))
          try simp only [Act.put, List.setIfInBounds_toArray, List.set_cons_zero, List.set_cons_succ]
          refine take_w (i := 8) (some 10) (v := ?_) rfl (by rfl) (by kernel_rfl) (by kernel_rfl) (by kernel_rfl) (fun _ _ _ h => h) (by rfl) hHeld ?_ ?_
          rotate_left
          · intro w hSw; (try dsimp only at hSw); (first | (go_simp; done) | (go_simp; with_reducible rfl))
          try simp only [Act.put, List.setIfInBounds_toArray, List.set_cons_zero, List.set_cons_succ]
          refine take_w (i := 9) (some 11) (v := ?_) rfl (by rfl) (by kernel_rfl) (by kernel_rfl) (by kernel_rfl) (fun _ _ _ h => h) (by rfl) hHeld ?_ ?_
          rotate_left
          · intro w hSw; (try dsimp only at hSw); (first | (go_simp; done) | (go_simp; with_reducible rfl))
          try simp only [Act.put, List.setIfInBounds_toArray, List.set_cons_zero, List.set_cons_succ]
          refine take_w (i := 10) (some 12) (v := ?_) rfl (by rfl) (by kernel_rfl) (by kernel_rfl) (by kernel_rfl) (fun _ _ _ h => h) (by rfl) hHeld ?_ ?_
          rotate_left
          · intro w hSw; (try dsimp only at hSw); (first | (go_simp; done) | (go_simp; with_reducible rfl))
          try simp only [Act.put, List.setIfInBounds_toArray, List.set_cons_zero, List.set_cons_succ]
          refine take_w (i := 11) (some 13) (v := ?_) rfl (by rfl) (by kernel_rfl) (by kernel_rfl) (by kernel_rfl) (fun _ _ _ h => h) (by rfl) hHeld ?_ ?_
          rotate_left
          · intro w hSw; (try dsimp only at hSw); (first | (go_simp; done) | (go_simp; with_reducible rfl))
          try simp only [Act.put, List.setIfInBounds_toArray, List.set_cons_zero, List.set_cons_succ]
          refine take_w (i := 12) (some 14) (v := ?_) rfl (by rfl) (by kernel_rfl) (by kernel_rfl) (by kernel_rfl) (fun _ _ _ h => h) (by rfl) hHeld ?_ ?_
          rotate_left
          · intro w hSw; (try dsimp only at hSw); (first | (go_simp; done) | (go_simp; with_reducible rfl))
          try simp only [Act.put, List.setIfInBounds_toArray, List.set_cons_zero, List.set_cons_succ]
          refine take_w (i := 13) (some 15) (v := ?_) rfl (by rfl) (by kernel_rfl) (by kernel_rfl) (by kernel_rfl) (fun _ _ _ h => h) (by rfl) hHeld ?_ ?_
          rotate_left
          · intro w hSw; (try dsimp only at hSw); (first | (go_simp; done) | (go_simp; with_reducible rfl))
          try simp only [Act.put, List.setIfInBounds_toArray, List.set_cons_zero, List.set_cons_succ]
          refine wpAnyH_ready (rs := [14]) (by kernel_rfl) (by simp) ?_
          refine AllReadyH.cons rfl (fun K hK => ?_) ?_
          · go_simp
            go_wp2_with ((go_at_call 20; (with_reducible refine (CC.out _ (below_drew (Below.refl _ _))).mono ?_); rintro e w4 ⟨rfl, hb⟩; have HBF := Lib.hid (below_step (below_drew (Below.refl wr.heap.size wr)) hb); clear hb))
            refine hK.out _ _ ?_ (fun hHeld2 => ?_)
            · (try dsimp only); (first | exact KEEP.out _ HBF.out | exact KEEP.out _ (below_drew (Below.refl _ _)))
            clear hK K hHeld; have hHeld := hHeld2; clear hHeld2
            refine take_w (i := 15) (some 17) (v := ?_) rfl (by rfl) (by kernel_rfl) (by kernel_rfl) (by kernel_rfl) (fun _ _ _ h => h) (by rfl) hHeld ?_ ?_
            rotate_left
            · intro w hSw; (try dsimp only at hSw); (first | (go_simp; done) | (go_simp; with_reducible rfl))
            try simp only [Act.put, List.setIfInBounds_toArray, List.set_cons_zero, List.set_cons_succ]
            refine take_w (i := 16) (some 18) (v := ?_) rfl (by rfl) (by kernel_rfl) (by kernel_rfl) (by kernel_rfl) (fun _ _ _ h => h) (by rfl) hHeld ?_ ?_
            rotate_left
            · intro w hSw; (try dsimp only at hSw); (first | (go_simp; done) | (go_simp; with_reducible rfl))
            try simp only [Act.put, List.setIfInBounds_toArray, List.set_cons_zero, List.set_cons_succ]
            refine take_n (i := 17) (some 19) rfl (by rfl) (by kernel_rfl) (by kernel_rfl) (by kernel_rfl) (fun _ _ _ h => h) (by rfl) hHeld ?_
            try simp only [Act.put, List.setIfInBounds_toArray, List.set_cons_zero, List.set_cons_succ]
            refine take_n (i := 18) (some 20) rfl (by rfl) (by kernel_rfl) (by kernel_rfl) (by kernel_rfl) (fun _ _ _ h => h) (by rfl) hHeld ?_
            try simp only [Act.put, List.setIfInBounds_toArray, List.set_cons_zero, List.set_cons_succ]
            refine take_n (i := 19) (some 21) rfl (by rfl) (by kernel_rfl) (by kernel_rfl) (by kernel_rfl) (fun _ _ _ h => h) (by rfl) hHeld ?_
            try simp only [Act.put, List.setIfInBounds_toArray, List.set_cons_zero, List.set_cons_succ]
            refine take_n (i := 20) (some 22) rfl (by rfl) (by kernel_rfl) (by kernel_rfl) (by kernel_rfl) (fun _ _ _ h => h) (by rfl) hHeld ?_
            try simp only [Act.put, List.setIfInBounds_toArray, List.set_cons_zero, List.set_cons_succ]
            refine take_n (i := 21) (some 23) rfl (by rfl) (by kernel_rfl) (by kernel_rfl) (by kernel_rfl) (fun _ _ _ h => h) (by rfl) hHeld ?_
            try simp only [Act.put, List.setIfInBounds_toArray, List.set_cons_zero, List.set_cons_succ]
            refine take_n (i := 22) (some 24) rfl (by rfl) (by kernel_rfl) (by kernel_rfl) (by kernel_rfl) (fun _ _ _ h => h) (by rfl) hHeld ?_
            try simp only [Act.put, List.setIfInBounds_toArray, List.set_cons_zero, List.set_cons_succ]
            refine take_n (i := 23) (some 25) rfl (by rfl) (by kernel_rfl) (by kernel_rfl) (by kernel_rfl) (fun _ _ _ h => h) (by rfl) hHeld ?_
            try simp only [Act.put, List.setIfInBounds_toArray, List.set_cons_zero, List.set_cons_succ]
            refine take_n (i := 24) (some 26) rfl (by rfl) (by kernel_rfl) (by kernel_rfl) (by kernel_rfl) (fun _ _ _ h => h) (by rfl) hHeld ?_
            try simp only [Act.put, List.setIfInBounds_toArray, List.set_cons_zero, List.set_cons_succ]
            refine take_n (i := 25) (some 27) rfl (by rfl) (by kernel_rfl) (by kernel_rfl) (by kernel_rfl) (fun _ _ _ h => h) (by rfl) hHeld ?_
            try simp only [Act.put, List.setIfInBounds_toArray, List.set_cons_zero, List.set_cons_succ]
            refine take_n (i := 26) (some 28) rfl (by rfl) (by kernel_rfl) (by kernel_rfl) (by kernel_rfl) (fun _ _ _ h => h) (by rfl) hHeld ?_
            try simp only [Act.put, List.setIfInBounds_toArray, List.set_cons_zero, List.set_cons_succ]
            refine take_w (i := 27) (some 29) (v := ?_) rfl (by rfl) (by kernel_rfl) (by kernel_rfl) (by kernel_rfl) (fun _ _ _ h => h) (by rfl) hHeld ?_ ?_
            rotate_left
            · intro w hSw; (try dsimp only at hSw); (first | (go_simp; done) | (go_simp; with_reducible rfl))
            try simp only [Act.put, List.setIfInBounds_toArray, List.set_cons_zero, List.set_cons_succ]
            refine take_w (i := 28) (some 30) (v := ?_) rfl (by rfl) (by kernel_rfl) (by kernel_rfl) (by kernel_rfl) (fun _ _ _ h => h) (by rfl) hHeld ?_ ?_
            rotate_left
            · intro w hSw; (try dsimp only at hSw); (first | (go_simp; done) | (go_simp; with_reducible rfl))
            try simp only [Act.put, List.setIfInBounds_toArray, List.set_cons_zero, List.set_cons_succ]
            refine wpAnyH_done (by kernel_rfl) ?_ _
            go_wp2
            go_meet
            exact ⟨by rw [HQ.out]; rfl, HBF.out⟩
          all_goals exact AllReadyH.nil
        · rw [hq] at CC
          have HQ := Lib.hid hq
          clear hq
          by_cases hmo : most < ml
          · have q1 : decide (most < (ml : Int)) = true := decide_eq_true hmo
            have Q1 := Lib.hid q1
            go_region_held (fun w' => w'.cell? ⟨b, 0, none⟩ = some (.pointer (some ⟨h, 0, none⟩)) ∧ w'.cell? ⟨h, 0, none⟩ = some (.map (some g)) ∧ w'.cell? ⟨h, 1, none⟩ = some (.slice (some ⟨gp, off, none⟩) n cap) ∧ w'.cell? ⟨h, 3, none⟩ = some (.int .i64 most) ∧ w'.cell? ⟨gp, off, none⟩ = some (.int .u64 p1) ∧ w'.cell? ⟨gp, off + 1, none⟩ = some (.int .i64 p2) ∧ ∀ ty, (Builtin.len_ #[41] ty #[.map (some g)]).run Try.prog w' = .ok (.int .i64 ml) w')
              (first | exact KEEP.out _ HBF.out | exact KEEP.out _ (below_drew (Below.refl _ _)))
              (first
                | (go_at_call 20; (with_reducible refine (CC.out _ (below_drew (Below.refl _ _))).mono ?_); rintro e w4 ⟨rfl, hb⟩; have HBF := Lib.hid (below_step (below_drew (Below.refl wr.heap.size wr)) hb); clear hb))
            all_goals go_wp2
            all_goals go_meet
            all_goals exact ⟨by rw [HQ.out, Q1.out]; rfl, HBF.out⟩
          · have q1 : decide (most < (ml : Int)) = false := decide_eq_false hmo
            have Q1 := Lib.hid q1
            go_region_held (fun w' => w'.cell? ⟨b, 0, none⟩ = some (.pointer (some ⟨h, 0, none⟩)) ∧ w'.cell? ⟨h, 0, none⟩ = some (.map (some g)) ∧ w'.cell? ⟨h, 1, none⟩ = some (.slice (some ⟨gp, off, none⟩) n cap) ∧ w'.cell? ⟨h, 3, none⟩ = some (.int .i64 most) ∧ w'.cell? ⟨gp, off, none⟩ = some (.int .u64 p1) ∧ w'.cell? ⟨gp, off + 1, none⟩ = some (.int .i64 p2) ∧ ∀ ty, (Builtin.len_ #[41] ty #[.map (some g)]).run Try.prog w' = .ok (.int .i64 ml) w')
              (first | exact KEEP.out _ HBF.out | exact KEEP.out _ (below_drew (Below.refl _ _)))
              (first
                | (go_at_call 20; (with_reducible refine (CC.out _ (below_drew (Below.refl _ _))).mono ?_); rintro e w4 ⟨rfl, hb⟩; have HBF := Lib.hid (below_step (below_drew (Below.refl wr.heap.size wr)) hb); clear hb))
            all_goals go_wp2
            all_goals go_meet
            all_goals exact ⟨by rw [HQ.out, Q1.out]; rfl, HBF.out⟩
      case rest =>
        obtain ⟨rfl, hbx⟩ := hcut
        have HB := Lib.hid hbx
        have HHK2 := Lib.hid (HHK.out.below hbx)
        have HMU2 := Lib.hid (HMU.out.below hbx)
        have HSL2 := Lib.hid (HSL.out.below hbx)
        have HBK2 := Lib.hid (HBKR.out.below hbx)
        have HF2 := Lib.hid (HFR.out.trans (Fr.of_below hbx))
        have bc := HBK2.out.cell 0
        have hc0 := HHK2.out.cell 0
        have hc1 : wc.cell? ⟨h, 1, none⟩ = some (.slice (some ⟨gp, off, none⟩) n cap) := by rw [← HN.out]; exact HHK2.out.cell 1
        have hc3 := HHK2.out.cell 3
        have f1 := HHK2.out.frozen 1
        obtain ⟨d0, d1⟩ := put_cells HSL2.out HN.out hn0
        simp only [Nat.zero_mul, Nat.add_zero, List.getD_cons_zero] at d0 d1
        have ln := fun (q : Nat) (ty : TypeId) => run_lenU (P := Try.prog) (ty := ty) (w := wc.drewN q) Try.underlying41 (show MapU (wc.drewN q) g M' from HMU2.out)
        rw [HML.out] at ln
        clear KEEP hbx CC
        by_cases hgo : cntS M' (p1, p2) = true ∧ (ml : Int) ≤ most
        · have q1 : (!cntS M' (p1, p2) || decide (most < (ml : Int))) = false := by rw [hgo.1, decide_eq_false (by omega)]; rfl
          have hr : R = (M', (p1, p2) :: L2) := by
            rw [← HSET.out]
            unfold setL
            rw [if_pos ⟨hgo.1, by rw [HML.out]; exact hgo.2⟩]
          subst hr
          have w1 : IntKind.i64.wrap (2 * (ml : Int)) = 2 * ml := i64_wrap_id (by omega) (by omega)
          have w2 : IntKind.i64.wrap (2 * (ml : Int) + 8) = 2 * ml + 8 := i64_wrap_id (by omega) (by omega)
          clear hgo
          rw [q1]
          by_cases hbig : 2 * (ml : Int) + 8 < n
          · have HSS := Lib.hid (show S = (M', keepS M' ((p1, p2) :: L2)) by rw [HS.out]; exact if_pos (by rw [HML.out, HN.out]; exact hbig))
            have DEL := Lib.hid (fun (W : World) (hb : Below wc.heap.size wc W) => deleteP_calls base b h g gp off cap n M' ((p1, p2) :: L2) _ _ _ W (HBK2.out.below hb) (HHK2.out.below hb) (HMU2.out.below hb) (HSL2.out.below hb) HN.out hn0 (by omega) (Nat.le_trans (Nat.le_trans HSZ.out HF2.out.size) hb.size))
            have HK5 := Lib.hid (fun (W W5 : World) (hb : Below wc.heap.size wc W) (hf : Fr base minePut W W5) => And.intro ((HHK2.out.below hb).fr hf (minePut_h _)) (And.intro ((HMU2.out.below hb).fr hf) (And.intro (show Fr base mineH wc W5 from (Fr.of_below hb).trans (hf.mono minePH)) ((HBK2.out.below hb).fr hf (minePut_b _)))))
            have HNE := Lib.hid (show g ≠ h from by
              rintro rfl
              obtain ⟨es, c, e1, _⟩ := HMU2.out
              have e2 := HHK2.out
              unfold Blk at e2
              rw [e1] at e2
              cases e2)
            go_wp2
            go_quiet (fail)
            go_wp2
            go_region_law ((refine step_call 21 ent_Del (by rfl) #[.tmp 75, .tmp 76] #[42, 48] (by rfl) #[.slice (some ⟨gp, off, none⟩) n cap, .func (.func 22) #[] #[.pointer (some ⟨b, 0, none⟩)]] (by rfl) ((DEL.out _ (by repeat (first | with_reducible exact Below.refl _ _ | with_reducible apply below_drew | with_reducible apply below_drewN))).mono ?_)); rintro e w5 ⟨v5, rfl, hs5, hf5⟩; obtain ⟨a5, c5, hv5, -, -⟩ := hs5.form; subst hv5; have HX5 := Lib.hid (HK5.out _ _ (by repeat (first | with_reducible exact Below.refl _ _ | with_reducible apply below_drew | with_reducible apply below_drewN)) hf5); have HS5 := Lib.hid hs5; have g51 := HX5.out.1.cell 1; have f51 := HX5.out.1.frozen 1; have b51 := HX5.out.2.2.2.cell 0; clear hs5 hf5; refine ⟨_, rfl, ?_⟩)
            all_goals go_wp2
            all_goals refine bodyPost_end (results_none rfl _ _ _) rfl ?_
            all_goals exact ⟨rfl, _, by rw [HSS.out]; exact ⟨hb1, hb2, HX5.out.1.set_ 1 _, HX5.out.2.1.far (p := ⟨h, 1, none⟩) HNE.out _, HS5.out.far HX5.out.1 (by decide) 1 _⟩, ((HF1.out.trans HF2.out).trans HX5.out.2.2.1).set_ HX5.out.1 (mineH_h _) hb1 1 _⟩
          · have dd : decide (2 * (ml : Int) + 8 < n) = false := decide_eq_false hbig
            have HSS := Lib.hid (show S = (M', (p1, p2) :: L2) by rw [HS.out]; exact if_neg (by rw [HML.out, HN.out]; exact hbig))
            go_wp2
            go_quiet (fail)
            go_wp2
            refine bodyPost_end (results_none rfl _ _ _) rfl ?_
            exact ⟨rfl, _, by rw [HSS.out]; exact ⟨hb1, hb2, HHK2.out.drewN _, HMU2.out, by rw [HN.out]; exact HSL2.out.drewN _⟩, (HF1.out.trans HF2.out).drewN _⟩
        · have HST := Lib.hid (show setL most (if cntS M' (p1, p2) = true then delM M' p1 else M') L2 = R by
            have hneg : ¬ (cntS M' (p1, p2) = true ∧ (M'.length : Int) ≤ most) := by rw [HML.out]; exact hgo
            rw [← HSET.out]
            exact (if_neg hneg).symm)
          have HNE := Lib.hid (show g ≠ h from by
            rintro rfl
            obtain ⟨es, c, e1, _⟩ := HMU2.out
            have e2 := HHK2.out
            unfold Blk at e2
            rw [e1] at e2
            cases e2)
          have q1 : (!cntS M' (p1, p2) || decide (most < (ml : Int))) = true := by
            cases hc : cntS M' (p1, p2) with
            | false => rfl
            | true =>
              have : ¬ (ml : Int) ≤ most := fun hh => hgo ⟨hc, hh⟩
              rw [decide_eq_true (by omega)]; rfl
          rw [q1]
          have CC2 := Lib.hid (counts_calls h g M' (p1, p2) wc.drew (show wc.drew.cell? ⟨h, 0, none⟩ = _ from hc0) (show MapU wc.drew g M' from HMU2.out))
          have KEEP2 := Lib.hid (fun w' (hb : Below wc.heap.size wc w') => (show w'.cell? ⟨b, 0, none⟩ = some (.pointer (some ⟨h, 0, none⟩)) ∧ w'.cell? ⟨h, 1, none⟩ = some (.slice (some ⟨gp, off, none⟩) n cap) ∧ w'.cell? ⟨gp, off, none⟩ = some (.int .u64 p1) ∧ w'.cell? ⟨gp, off + 1, none⟩ = some (.int .i64 p2) from ⟨bget hb bc, bget hb hc1, bget hb d0, bget hb d1⟩))
          have hl2 : L2.length ≤ 100000 := by have := HN.out; simp at this; omega
          have HN2 := Lib.hid (show L2.length + 1 = n by have := HN.out; simpa using this)
          clear hgo q1 bc hc0 hc1 hc3 f1 d0 d1 ln
          cases hq : cntS M' (p1, p2)
          · rw [hq] at CC2 HST
            have HST2 := Lib.hid (show setL most M' L2 = R from HST.out)
            clear hq HST
            go_upto_region 2 with (fail)
            go_region_held (fun w' => w'.cell? ⟨b, 0, none⟩ = some (.pointer (some ⟨h, 0, none⟩)) ∧ w'.cell? ⟨h, 1, none⟩ = some (.slice (some ⟨gp, off, none⟩) n cap) ∧ w'.cell? ⟨gp, off, none⟩ = some (.int .u64 p1) ∧ w'.cell? ⟨gp, off + 1, none⟩ = some (.int .i64 p2))
              (first | exact KEEP2.out _ HBF.out | exact KEEP2.out _ (below_drew (Below.refl _ _)))
              (first
                | (go_at_call 20; (with_reducible refine (CC2.out).mono ?_); rintro e w4 ⟨rfl, hb⟩; have HBF := Lib.hid (below_step (below_drew (Below.refl wc.heap.size wc)) hb); clear hb))
            obtain ⟨bc, hc1, d0, d1⟩ := KEEP2.out _ HBF.out
            have HK4 := Lib.hid (HHK2.out.below HBF.out)
            have HM4 := Lib.hid (HMU2.out.below HBF.out)
            have HS4 := Lib.hid (HSL2.out.below HBF.out)
            have HF4 := Lib.hid (HF2.out.trans (Fr.of_below HBF.out))
            have f1 := HK4.out.frozen 1
            have h1n : (1 : Int) ≤ n := by omega
            clear d0 d1
            by_cases hcap1 : cap = 1
            · subst hcap1
              obtain rfl : n = 1 := by omega
              obtain rfl : L2 = [] := List.eq_nil_of_length_eq_zero (by have := HN2.out; omega)
              go_wp2
              go_region_law (fail)
              all_goals go_wp2
              all_goals
                have hsd := HS4.out.none_
                have e0 : wr.cell? ⟨h, 1, none⟩ = some (.slice (some ⟨gp, off, none⟩) (1 : Nat) (1 : Nat)) := by rw [← HN.out]; exact HHK.out.cell 1
                have hk9 := HK4.out.set_ 1 (.slice (some ⟨gp, off, none⟩) 0 0)
                refine ⟨⟨M', [], _, by decide, by rw [HML.out]; exact hmm, ⟨hb1, hb2, hk9, HM4.out.far (p := ⟨h, 1, none⟩) HNE.out _, hsd.far HK4.out (by decide) 1 _⟩, HST2.out, (HF4.out.set_ HK4.out (mineH_h _) hb1 1 _).drew⟩, ?_⟩
                have e1 := hk9.cell 1
                rw [e0]
                rw [show (w4.setCell ⟨h, 1, none⟩ (.slice (some ⟨gp, off, none⟩) 0 0)).drew.cell? ⟨h, 1, none⟩ = some (.slice (some ⟨gp, off, none⟩) 0 0) from e1]
                show 0 < 1
                decide
            · go_wp2
              go_region_law (fail)
              all_goals go_wp2
              all_goals
                have hsd : SL base w4 47 2 (.slice (some ⟨gp, off + 2, none⟩) (n - 1) (cap - 1)) L2.length (flatP L2) := by
                  have hd := HS4.out.drop_ 1 (cap - 1) (by omega) (by omega) (by omega)
                  rw [show n - 1 = L2.length by have := HN2.out; omega] at hd ⊢
                  exact hd
                have e0 : wr.cell? ⟨h, 1, none⟩ = some (.slice (some ⟨gp, off, none⟩) n cap) := by rw [← HN.out]; exact HHK.out.cell 1
                have hk9 := HK4.out.set_ 1 (.slice (some ⟨gp, off + 2, none⟩) (n - 1) (cap - 1))
                refine ⟨⟨M', L2, _, hl2, by rw [HML.out]; exact hmm, ⟨hb1, hb2, hk9, HM4.out.far (p := ⟨h, 1, none⟩) HNE.out _, hsd.far HK4.out (by decide) 1 _⟩, HST2.out, (HF4.out.set_ HK4.out (mineH_h _) hb1 1 _).drew⟩, ?_⟩
                have e1 := hk9.cell 1
                rw [e0]
                rw [show (w4.setCell ⟨h, 1, none⟩ (.slice (some ⟨gp, off + 2, none⟩) (n - 1) (cap - 1))).drew.cell? ⟨h, 1, none⟩ = some (.slice (some ⟨gp, off + 2, none⟩) (n - 1) (cap - 1)) from e1]
                show n - 1 < n
                omega
          · rw [hq] at CC2 HST
            have HST2 := Lib.hid (show setL most (delM M' p1) L2 = R from HST.out)
            clear hq HST
            go_upto_region 2 with (fail)
            go_region_held (fun w' => w'.cell? ⟨b, 0, none⟩ = some (.pointer (some ⟨h, 0, none⟩)) ∧ w'.cell? ⟨h, 1, none⟩ = some (.slice (some ⟨gp, off, none⟩) n cap) ∧ w'.cell? ⟨gp, off, none⟩ = some (.int .u64 p1) ∧ w'.cell? ⟨gp, off + 1, none⟩ = some (.int .i64 p2))
              (first | exact KEEP2.out _ HBF.out | exact KEEP2.out _ (below_drew (Below.refl _ _)))
              (first
                | (go_at_call 20; (with_reducible refine (CC2.out).mono ?_); rintro e w4 ⟨rfl, hb⟩; have HBF := Lib.hid (below_step (below_drew (Below.refl wc.heap.size wc)) hb); clear hb))
            obtain ⟨bc, hc1, d0, d1⟩ := KEEP2.out _ HBF.out
            have HK4 := Lib.hid (HHK2.out.below HBF.out)
            have HB4 := Lib.hid (HBK2.out.below HBF.out)
            have HM4 := Lib.hid (HMU2.out.below HBF.out)
            have HS4 := Lib.hid (HSL2.out.below HBF.out)
            have HF4 := Lib.hid (HF2.out.trans (Fr.of_below HBF.out))
            have h1n : (1 : Int) ≤ n := by omega
            obtain ⟨w5, hrun, hm5, ht5⟩ := run_delU (P := Try.prog) (ty := 41) (w := w4.drew) Try.underlying41 Try.underlying28 (show MapU w4.drew g M' from HM4.out) p1
            have hrun2 : ∀ ty, (Builtin.delete_ #[41, 28] ty #[.map (some g), .int .u64 p1]).run Try.prog w4.drew = .ok (.tuple #[]) w5 := fun _ => hrun
            have HK5 := Lib.hid (ht5.blk (show Blk w4.drew _ _ _ from HK4.out) (blk_ne_map HK4.out HM4.out))
            have HB5 := Lib.hid (ht5.blk (show Blk w4.drew _ _ _ from HB4.out) (blk_ne_map HB4.out HM4.out))
            have HS5 := Lib.hid (SL.mapTo (show SL base w4.drew _ _ _ _ _ from HS4.out) (show MapU w4.drew g M' from HM4.out) ht5)
            have HM5 := Lib.hid hm5
            have HF5 := Lib.hid ((HF4.out.drew).mapTo (show MapU w4.drew g M' from HM4.out) ht5 hb2)
            have hc0 := HK4.out.cell 0
            have KEEP5 : Hid (w5.cell? ⟨b, 0, none⟩ = some (.pointer (some ⟨h, 0, none⟩)) ∧ w5.cell? ⟨h, 0, none⟩ = some (.map (some g)) ∧ w5.cell? ⟨h, 1, none⟩ = some (.slice (some ⟨gp, off, none⟩) n cap) ∧ w5.cell? ⟨gp, off, none⟩ = some (.int .u64 p1)) := Lib.hid (by
              have d5 := (put_cells HS5.out HN.out hn0).1
              simp only [Nat.zero_mul, Nat.add_zero, List.getD_cons_zero] at d5
              exact ⟨HB5.out.cell 0, HK5.out.cell 0, by rw [← HN.out]; exact HK5.out.cell 1, d5⟩)
            have KEEP4 := Lib.hid (show w4.drew.cell? ⟨b, 0, none⟩ = some (.pointer (some ⟨h, 0, none⟩)) ∧ w4.drew.cell? ⟨h, 0, none⟩ = some (.map (some g)) ∧ w4.drew.cell? ⟨h, 1, none⟩ = some (.slice (some ⟨gp, off, none⟩) n cap) ∧ w4.drew.cell? ⟨gp, off, none⟩ = some (.int .u64 p1) from ⟨bc, hc0, hc1, d0⟩)
            clear hrun hm5 ht5
            go_wp2
            go_region_held (fun w' => w'.cell? ⟨b, 0, none⟩ = some (.pointer (some ⟨h, 0, none⟩)) ∧ w'.cell? ⟨h, 0, none⟩ = some (.map (some g)) ∧ w'.cell? ⟨h, 1, none⟩ = some (.slice (some ⟨gp, off, none⟩) n cap) ∧ w'.cell? ⟨gp, off, none⟩ = some (.int .u64 p1))
              (first | exact KEEP4.out | exact KEEP5.out)
              (fail)
            obtain ⟨bc5, hc05, hc15, -⟩ := KEEP5.out
            have f5 := HK5.out.frozen 1
            have hml5 : (delM M' p1).length ≤ 100000 := by
              have : ∀ (M : List KV), (delM M p1).length ≤ M.length := by
                intro M
                induction M with
                | nil => exact Nat.le_refl _
                | cons q M ih => unfold delM; split <;> simp <;> omega
              have := this M'
              rw [HML.out] at this
              omega
            clear hrun2 bc hc1 d0 d1 hc0
            by_cases hcap1 : cap = 1
            · subst hcap1
              obtain rfl : n = 1 := by omega
              obtain rfl : L2 = [] := List.eq_nil_of_length_eq_zero (by have := HN2.out; omega)
              go_wp2
              go_region_law (fail)
              all_goals go_wp2
              all_goals
                have hsd := HS5.out.none_
                have e0 : wr.cell? ⟨h, 1, none⟩ = some (.slice (some ⟨gp, off, none⟩) (1 : Nat) (1 : Nat)) := by rw [← HN.out]; exact HHK.out.cell 1
                have hk9 := HK5.out.set_ 1 (.slice (some ⟨gp, off, none⟩) 0 0)
                refine ⟨⟨delM M' p1, [], _, by decide, hml5, ⟨hb1, hb2, hk9, HM5.out.far (p := ⟨h, 1, none⟩) HNE.out _, hsd.far HK5.out (by decide) 1 _⟩, HST2.out, (HF5.out.set_ HK5.out (mineH_h _) hb1 1 _).drew⟩, ?_⟩
                have e1 := hk9.cell 1
                rw [e0]
                rw [show (w5.setCell ⟨h, 1, none⟩ (.slice (some ⟨gp, off, none⟩) 0 0)).drew.cell? ⟨h, 1, none⟩ = some (.slice (some ⟨gp, off, none⟩) 0 0) from e1]
                show 0 < 1
                decide
            · go_wp2
              go_region_law (fail)
              all_goals go_wp2
              all_goals
                have hsd : SL base w5 47 2 (.slice (some ⟨gp, off + 2, none⟩) (n - 1) (cap - 1)) L2.length (flatP L2) := by
                  have hd := HS5.out.drop_ 1 (cap - 1) (by omega) (by omega) (by omega)
                  rw [show n - 1 = L2.length by have := HN2.out; omega] at hd ⊢
                  exact hd
                have e0 : wr.cell? ⟨h, 1, none⟩ = some (.slice (some ⟨gp, off, none⟩) n cap) := by rw [← HN.out]; exact HHK.out.cell 1
                have hk9 := HK5.out.set_ 1 (.slice (some ⟨gp, off + 2, none⟩) (n - 1) (cap - 1))
                refine ⟨⟨delM M' p1, L2, _, hl2, hml5, ⟨hb1, hb2, hk9, HM5.out.far (p := ⟨h, 1, none⟩) HNE.out _, hsd.far HK5.out (by decide) 1 _⟩, HST2.out, (HF5.out.set_ HK5.out (mineH_h _) hb1 1 _).drew⟩, ?_⟩
                have e1 := hk9.cell 1
                rw [e0]
                rw [show (w5.setCell ⟨h, 1, none⟩ (.slice (some ⟨gp, off + 2, none⟩) (n - 1) (cap - 1))).drew.cell? ⟨h, 1, none⟩ = some (.slice (some ⟨gp, off + 2, none⟩) (n - 1) (cap - 1)) from e1]
                show n - 1 < n
                omega
end Go.Proofs.Ytjjhfllpbicclaa.Ct
