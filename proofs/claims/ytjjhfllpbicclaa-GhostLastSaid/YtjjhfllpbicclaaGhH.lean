import Derived.Test.YtjjhfllpbicclaaGhP
/-! Histories: Put, Take; a history beside a row. -/
namespace Go.Proofs.Ytjjhfllpbicclaa.Ct
open Go.RowKit
set_option linter.unusedVariables false
set_option linter.unusedSimpArgs false
theorem infoPut : (Try.prog.info? 47).map (fun i => (i.zero, i.size, i.bytes)) = some (some (.agg #[.int .u64 0, .int .i64 0]), 2, 16) := by kernel_rfl
theorem setL_sub (most : Int) : ∀ (L M : List KV), ∀ p ∈ (setL most M L).2, p ∈ L := by
  intro L
  induction L with
  | nil => intro M p hp; exact hp
  | cons q L ih =>
    intro M p hp
    unfold setL at hp
    split at hp
    · exact hp
    · exact List.mem_cons_of_mem _ (ih _ p hp)
theorem settS_sub (most : Int) (M L : List KV) : ∀ p ∈ (settS most M L).2, p ∈ L := by
  intro p hp
  unfold settS at hp
  split at hp
  · exact setL_sub most L M p (List.mem_filter.1 hp).1
  · exact setL_sub most L M p hp
theorem His.cells {base : Nat} {w : World} {h g : Nat} {sv : Value} {M L : List KV} {now most : Int} (a : His base w h g sv M L now most) :
    w.cell? ⟨h, 0, none⟩ = some (.map (some g)) ∧ w.cell? ⟨h, 1, none⟩ = some sv ∧ w.cell? ⟨h, 2, none⟩ = some (.int .i64 now) ∧ w.frozen? ⟨h, 1, none⟩ = false ∧ w.frozen? ⟨h, 2, none⟩ = false :=
  ⟨a.2.2.1.cell 0, a.2.2.1.cell 1, a.2.2.1.cell 2, a.2.2.1.frozen 1, a.2.2.1.frozen 2⟩
theorem His.map {base : Nat} {w : World} {h g : Nat} {sv : Value} {M L : List KV} {now most : Int} (a : His base w h g sv M L now most) : MapU w g M := a.2.2.2.1
theorem mapTo_drew {w w' : World} {g : Nat} (h : MapTo w.drew w' g) : MapTo w w' g := ⟨h.os, h.tape, h.output, h.size, h.block⟩
theorem His.drew {base : Nat} {w : World} {h g : Nat} {sv : Value} {M L : List KV} {now most : Int} (a : His base w h g sv M L now most) : His base w.drew h g sv M L now most := a
theorem His.drewN {base : Nat} {w : World} {h g : Nat} {sv : Value} {M L : List KV} {now most : Int} (a : His base w h g sv M L now most) (n : Nat) : His base (w.drewN n) h g sv M L now most := a
theorem His.mapTo {base : Nat} {w w' : World} {h g : Nat} {sv : Value} {M M2 L : List KV} {now most : Int} (a : His base w h g sv M L now most) (ht : MapTo w w' g) (hm : MapU w' g M2) : His base w' h g sv M2 L now most :=
  ⟨a.1, a.2.1, ht.blk a.2.2.1 (blk_ne_map a.2.2.1 a.2.2.2.1), hm, SL.mapTo a.2.2.2.2 a.2.2.2.1 ht⟩
set_option maxHeartbeats 8000000 in
theorem gtake_calls (base h g : Nat) (sv : Value) (M L : List KV) (now most k : Int) (w : World) (a : His base w h g sv M L now most) (hL : L.length ≤ 100000) (hM : M.length ≤ 100000) (hbase : base ≤ w.heap.size) :
    Calls Try.prog 12 #[.pointer (some ⟨h, 0, none⟩), .int .u64 k] w fun e w' => e = .returned (.bool (hasS M k)) ∧ Fr base mineH w w' ∧
      ((hasS M k = true ∧ ∃ sv', His base w' h g sv' (settS most (delM M k) L).1 (settS most (delM M k) L).2 now most) ∨ (hasS M k = false ∧ w = w')) := by
  have GC := Lib.hid (ghas_calls h g M k w a.cells.1 a.2.2.2.1)
  cases hq : hasS M k
  · rw [hq] at GC
    clear a hq
    go_enter Try.func12, Try.ntmps12
    go_wp2_with (go_at_call 17; (with_reducible refine (GC.out).mono ?_); rintro e w' ⟨rfl, rfl⟩)
    go_ret
    exact ⟨rfl, Fr.refl _ _ _, .inr ⟨by first | rfl | trivial, rfl⟩⟩
  · rw [hq] at GC
    obtain ⟨w5, hrun, hm5, ht5⟩ := run_delU (P := Try.prog) (ty := 41) Try.underlying41 Try.underlying28 a.2.2.2.1 k
    have hrun2 : ∀ ty, (Builtin.delete_ #[41, 28] ty #[.map (some g), .int .u64 k]).run Try.prog w = .ok (.tuple #[]) w5 := fun _ => hrun
    have hdl := delM_le M k
    have SC := Lib.hid (settle_calls base h g sv (delM M k) L now most w5 (a.mapTo ht5 hm5) hL (by omega) (by rw [ht5.size]; exact hbase))
    have HF := Lib.hid ((Fr.refl base mineH w).mapTo a.2.2.2.1 ht5 a.2.1)
    have c0 := a.cells.1
    clear a hq hrun hm5 ht5 hdl
    generalize settS most (delM M k) L = S at *
    go_enter Try.func12, Try.ntmps12
    go_wp2_with (first
      | (go_at_call 17; (with_reducible refine (GC.out).mono ?_); rintro e w' ⟨rfl, rfl⟩)
      | (go_at_call 19; (with_reducible refine (SC.out).mono ?_); rintro e w6 ⟨rfl, sv6, hs, hf⟩; have HS := Lib.hid hs; have HF2 := Lib.hid (HF.out.trans hf); clear hs hf))
    go_ret
    exact ⟨rfl, HF2.out, .inl ⟨by first | rfl | trivial, _, HS.out⟩⟩
set_option maxHeartbeats 8000000 in
theorem gput_calls (base h g : Nat) (sv : Value) (M L : List KV) (now most k : Int) (w : World) (a : His base w h g sv M L now most) (hL : L.length ≤ 90000) (hM : M.length ≤ 90000) (h0 : 0 ≤ now) (h1 : now ≤ 100000000) (hbase : base ≤ w.heap.size) :
    Calls Try.prog 7 #[.pointer (some ⟨h, 0, none⟩), .int .u64 k] w fun e w' => e = .returned (.bool (hasS (settS most (putM M k (now + 1)) (L ++ [(k, now + 1)])).1 k)) ∧ Fr base mineH w w' ∧
      ∃ sv', His base w' h g sv' (settS most (putM M k (now + 1)) (L ++ [(k, now + 1)])).1 (settS most (putM M k (now + 1)) (L ++ [(k, now + 1)])).2 (now + 1) most := by
  have RC := Lib.hid (real_calls h g w a.cells.1)
  have hwr : IntKind.i64.wrap (now + 1) = now + 1 := i64_wrap_id (by omega) (by omega)
  have A1 := Lib.hid (show His base (w.setCell ⟨h, 2, none⟩ (.int .i64 (now + 1))) h g sv M L (now + 1) most from
    ⟨a.1, a.2.1, a.2.2.1.set_ 2 _, a.2.2.2.1.far (p := ⟨h, 2, none⟩) (fun e => blk_ne_map a.2.2.1 a.2.2.2.1 e.symm) _, a.2.2.2.2.far a.2.2.1 (by decide) 2 _⟩)
  have HF1 := Lib.hid ((Fr.refl base mineH w).set_ a.2.2.1 (mineH_h _) a.1 2 (.int .i64 (now + 1)))
  have hsz : (w.setCell ⟨h, 2, none⟩ (.int .i64 (now + 1))).heap.size = w.heap.size := by unfold World.setCell; simp
  have HSZ := Lib.hid (show base ≤ (w.setCell ⟨h, 2, none⟩ (.int .i64 (now + 1))).heap.size by rw [hsz]; exact hbase)
  obtain ⟨c0, c1, c2, f1, f2⟩ := a.cells
  have HPL := Lib.hid (putM_len M k (now + 1))
  clear a hsz hbase
  generalize hM3 : putM M k (now + 1) = M3 at *
  generalize hL3 : L ++ [(k, now + 1)] = L3 at *
  generalize hS : settS most M3 L3 = S at *
  have HM3' := Lib.hid hM3
  have HL3 := Lib.hid hL3
  have HS3' := Lib.hid hS
  clear hM3 hL3 hS
  go_enter Try.func7, Try.ntmps7
  go_upto_region 4 with (go_at_call 18; (with_reducible refine (RC.out).mono ?_); rintro e w' ⟨rfl, rfl⟩)
  clear c0 c1 c2 f1 f2 RC
  generalize w.setCell ⟨h, 2, none⟩ (.int .i64 (now + 1)) = w1 at *
  obtain ⟨c0, c1, c2, f1, f2⟩ := A1.out.cells
  obtain ⟨w5, hrun, hm5, ht5⟩ := run_updU (P := Try.prog) (w := w1.drew) Try.underlying41 Try.underlying28 (show MapU w1.drew g M from A1.out.2.2.2.1) k (now + 1)
  rw [HM3'.out] at hm5
  have ht5' := mapTo_drew ht5
  have A5 := Lib.hid (A1.out.mapTo ht5' hm5)
  have HF5 := Lib.hid (HF1.out.mapTo A1.out.2.2.2.1 ht5' A1.out.2.1)
  have KEEP4 := Lib.hid (show w1.drew.cell? ⟨h, 0, none⟩ = some (.map (some g)) ∧ w1.drew.cell? ⟨h, 2, none⟩ = some (.int .i64 (now + 1)) from ⟨c0, c2⟩)
  have KEEP5 := Lib.hid (show w5.cell? ⟨h, 0, none⟩ = some (.map (some g)) ∧ w5.cell? ⟨h, 2, none⟩ = some (.int .i64 (now + 1)) from ⟨A5.out.cells.1, A5.out.cells.2.2.1⟩)
  have HSZ5 := Lib.hid (show base ≤ w5.heap.size by rw [ht5'.size]; exact HSZ.out)
  clear hm5 ht5 ht5' A1 HF1 c0 c1 c2 f1 f2
  go_region_held (fun w' => w'.cell? ⟨h, 0, none⟩ = some (.map (some g)) ∧ w'.cell? ⟨h, 2, none⟩ = some (.int .i64 (now + 1)))
    (first | exact KEEP4.out | exact KEEP5.out)
    (fail)
  clear hrun KEEP4 KEEP5
  go_upto_region 5 with (fail)
  have A6 := Lib.hid (A5.out.2.2.1)
  have HS1 := Lib.hid A5.out.2.2.2.2
  have HM5 := Lib.hid A5.out.2.2.2.1
  have HB1 := Lib.hid A5.out.1
  have HB2 := Lib.hid A5.out.2.1
  obtain ⟨c0, c1, c2, f1, f2⟩ := A5.out.cells
  obtain ⟨sa, cap, hsv, hcap, hcm⟩ := HS1.out.form
  subst hsv
  clear A5
  obtain ⟨n, hn⟩ : ∃ n : Nat, L.length = n := ⟨_, rfl⟩
  have HN := Lib.hid hn
  simp only [hn] at HS1 A6 c1 hcap hL
  clear hn
  have al := fun (o : Obj) => show (w5.alloc o).cell? ⟨h, 1, none⟩ = some (.slice sa n cap) from bget (below_alloc (Below.refl _ _) o) c1
  have LL := Lib.hid (show L3.length = n + 1 by rw [← HL3.out, ← HN.out]; simp)
  have FF := Lib.hid (show flatP L3 = flatP L ++ [.int .u64 k, .int .i64 (now + 1)] by rw [← HL3.out]; exact flatP_append L _)
  have SC := Lib.hid (fun (W : World) (sv' : Value) (a : His base W h g sv' M3 L3 (now + 1) most) (hb : base ≤ W.heap.size) => settle_calls base h g sv' M3 L3 (now + 1) most W a (by have := LL.out; omega) (by have := HPL.out; omega) hb)
  simp only [HS3'.out] at SC
  go_region_law ((refine step_appSL (mine := minePut) (base := base) 42 (.agg #[.int .u64 0, .int .i64 0]) 16 Try.underlying42 infoPut rfl (by decide) minePut_p rfl (.tmp 28) (.tmp 35) (by rfl) (by rfl) (by repeat (first | with_reducible exact HS1.out | with_reducible apply SL.alloc | with_reducible apply SL.drewN | with_reducible apply SL.drew | exact HS1.out)) _ 1 (by rfl) _ (by rfl) ⟨_, _, heap_alloc_new _ _⟩ (by simp [Value.oneCell']) (by omega) (by decide) (by have := HSZ5.out; simp; omega) ?_; intro v3 w3 hs3 hf3; obtain ⟨a3, cap3, hv3, -, -⟩ := hs3.form; subst hv3; have HS3 := Lib.hid hs3; have HK3 := Lib.hid (Blk.fr (cs := #[.map (some g), .slice sa n cap, .int .i64 (now + 1), .int .i64 most]) (by repeat (first | with_reducible exact A6.out | with_reducible apply Blk.alloc | with_reducible apply Blk.drewN | with_reducible apply Blk.drew | exact A6.out)) hf3 (minePut_h _)); have HM3 := Lib.hid (MapU.fr (base := base) (g := g) (M := M3) (by exact HM5.out.below (by repeat (first | with_reducible exact Below.refl _ _ | with_reducible apply below_alloc | with_reducible apply below_drew | with_reducible apply below_drewN))) hf3); have HF3 := Lib.hid (Fr.trans (by repeat (first | with_reducible exact HF5.out | with_reducible apply Fr.alloc | with_reducible apply Fr.drewN | with_reducible apply Fr.drew | exact HF5.out)) (hf3.mono minePH)); have HSZ3 := Lib.hid (show base ≤ w3.heap.size from Nat.le_trans HSZ5.out (Nat.le_trans (by simp) hf3.size)); have f43 := HK3.out.frozen 1; have d13 : w3.cell? ⟨h, 1, none⟩ = some (.slice sa n cap) := HK3.out.cell 1; have d03 : w3.cell? ⟨h, 0, none⟩ = some (.map (some g)) := HK3.out.cell 0; clear hs3 hf3))
  all_goals clear c0 c1 c2 f1 f2 al
  all_goals
    have hk9 := HK3.out.set_ 1 (.slice a3 (n + 1) cap3)
    have A9 := Lib.hid (show His base (w3.setCell ⟨h, 1, none⟩ (.slice a3 (n + 1) cap3)) h g (.slice a3 (n + 1) cap3) M3 L3 (now + 1) most from
      ⟨HB1.out, HB2.out, hk9, HM3.out.far (p := ⟨h, 1, none⟩) (fun e => blk_ne_map HK3.out HM3.out e.symm) _, by rw [LL.out, FF.out]; exact HS3.out.far HK3.out (by decide) 1 _⟩)
    have F9 := Lib.hid (HF3.out.set_ HK3.out (mineH_h _) HB1.out 1 (.slice a3 (n + 1) cap3))
    have hz9 : (w3.setCell ⟨h, 1, none⟩ (.slice a3 (n + 1) cap3)).heap.size = w3.heap.size := by unfold World.setCell; simp
    have HZ9 := Lib.hid (show base ≤ (w3.setCell ⟨h, 1, none⟩ (.slice a3 (n + 1) cap3)).heap.size by rw [hz9]; exact HSZ3.out)
    have SC9 := Lib.hid (SC.out _ _ A9.out HZ9.out)
    clear hk9 hz9 SC d03 d13 f43
    go_wp2_with (first
      | (go_at_call 19; (with_reducible refine (SC9.out).mono ?_); rintro e w6 ⟨rfl, sv6, hs, hf⟩; have HS := Lib.hid hs; have HF2 := Lib.hid (F9.out.trans hf); clear hs hf)
      | (go_at_call 17; (with_reducible refine (ghas_calls h g _ k _ HS.out.cells.1 HS.out.map).mono ?_); rintro e w7 ⟨rfl, rfl⟩))
  all_goals go_ret
  all_goals exact ⟨rfl, HF2.out, _, HS.out⟩
end Go.Proofs.Ytjjhfllpbicclaa.Ct
