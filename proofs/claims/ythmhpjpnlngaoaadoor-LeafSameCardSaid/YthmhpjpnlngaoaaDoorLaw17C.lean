import Derived.Test.YthmhpjpnlngaoaaDoorLaw17A
import Derived.Test.YthmhpjpnlngaoaaDoorHeld
/-! Chapter 17: LeafSame. -/
namespace Go.Proofs.YthmhpjpnlngaoaaDoor.Ct
open Go.RowKit
set_option linter.unusedVariables false
set_option linter.unusedSimpArgs false
theorem ent_short : ∀ args w, (callFunc 7 args).run Tryd.prog w = .ok (.enter 7 args) w := fun _ _ => by kernel_rfl
theorem cutL_len (l : Lf) {c : Nat} (h : l.es.length ≤ c) : (cutL l).es.length ≤ c := by unfold cutL; simp only [List.length_take]; omega
theorem Blk.far3 {w : World} {g p : Nat} {t : TypeId} {cs : Array Value} (h : Blk w g t cs) (hp : g ≠ p) (v0 v1 v2 : Value) : Blk (((w.setCell ⟨p, 0, none⟩ v0).setCell ⟨p, 1, none⟩ v1).setCell ⟨p, 2, none⟩ v2) g t cs :=
  ((h.far (p := ⟨p, 0, none⟩) hp v0).far (p := ⟨p, 1, none⟩) hp v1).far (p := ⟨p, 2, none⟩) hp v2
def SameSt (w : World) (x y : LfA) (g : Nat) (wx : World) : Prop :=
  Blk wx w.heap.size 25 (leafC (cutL x.l) x.a x.c) ∧ Blk wx g 25 (leafC (cutL y.l) y.a y.c) ∧ Below w.heap.size w wx
set_option maxHeartbeats 8000000 in
theorem same_walk (x y : LfA) (n : Int) (w : World) (hx : WfA w x) (hy : WfA w y) (hn : I64 n) (hT : Tab w) :
    Calls Tryd.prog 6 #[leafA x, leafA y, .int .i64 n] w fun e w' => e = .returned (.bool true) ∧ Below w.heap.size w w' := by
  have hb1 := below_alloc (below_alloc (Below.refl w.heap.size w) (.cells (leafC x.l x.a x.c) 25)) (.cells (leafC y.l y.a y.c) 25)
  have hk0 : Blk (w.alloc (.cells (leafC x.l x.a x.c) 25)) w.heap.size 25 (leafC x.l x.a x.c) := Blk.new _ _ _
  have hk1 := hk0.alloc (.cells (leafC y.l y.a y.c) 25)
  have hv1 : Blk ((w.alloc (.cells (leafC x.l x.a x.c) 25)).alloc (.cells (leafC y.l y.a y.c) 25)) (w.heap.size + 1) 25 (leafC y.l y.a y.c) := blk_at (by simp)
  obtain ⟨hx1, hx2, hx3, hx4⟩ := hx
  obtain ⟨hy1, hy2, hy3, hy4⟩ := hy
  have OF := Lib.hid (fun W => lof_calls n W hn)
  have AW := Lib.hid (fun w' (hb : Below w.heap.size w w') => awake_calls w' (hT.below hb))
  have SX := Lib.hid (fun W (hb : Below w.heap.size w W) => short_calls x.l x.a x.c W (hx1.below hb) hx3 hx4)
  have SY := Lib.hid (fun W (hb : Below w.heap.size w W) => short_calls y.l y.a y.c W (hy1.below hb) hy3 hy4)
  have LS := Lib.hid (fun W (hb : Below w.heap.size w W) => lsame_calls (cutL x.l) (cutL y.l) x.a y.a x.c y.c W ((hx1.below hb).take 6) ((hy1.below hb).take 6))
  have RS := Lib.hid (fun W (hb : Below w.heap.size w W) => rsame_calls (cutL x.l) (cutL y.l) x.a y.a x.c y.c W ((hx1.below hb).take 6) ((hy1.below hb).take 6))
  have LX := Lib.hid (fun W (hb : Below w.heap.size w W) => lsame_calls (cutL x.l) (cutL x.l) x.a x.a x.c x.c W ((hx1.below hb).take 6) ((hx1.below hb).take 6))
  have DX := Lib.hid (show decide (cutL x.l = cutL x.l) = true from decide_eq_true rfl)
  rw [DX.out] at LX
  have hgl : w.heap.size ≠ w.heap.size + 1 := by omega
  have hgl2 : w.heap.size ≤ w.heap.size + 1 := by omega
  have UX : Hid (leafC x.l x.a x.c = #[.int .i64 x.l.no, .int .u64 x.l.snap, .slice x.a x.l.es.length x.c]) := Lib.hid rfl
  have UY : Hid (leafC y.l y.a y.c = #[.int .i64 y.l.no, .int .u64 y.l.snap, .slice y.a y.l.es.length y.c]) := Lib.hid rfl
  have UX2 : Hid (leafC (cutL x.l) x.a x.c = #[.int .i64 x.l.no, .int .u64 x.l.snap, .slice x.a (x.l.es.take 6).length x.c]) := Lib.hid rfl
  have UY2 : Hid (leafC (cutL y.l) y.a y.c = #[.int .i64 y.l.no, .int .u64 y.l.snap, .slice y.a (y.l.es.take 6).length y.c]) := Lib.hid rfl
  generalize decide (cutL x.l = cutL y.l) = r at *
  have ST : Hid (∀ wx, SameSt w x y (w.heap.size + 1) wx → Blk wx w.heap.size 25 (leafC (cutL x.l) x.a x.c) ∧ Blk wx (w.heap.size + 1) 25 (leafC (cutL y.l) y.a y.c) ∧ Below w.heap.size w wx) := Lib.hid (fun _ h => h)
  have TS : Hid (∀ wx, Blk wx w.heap.size 25 (leafC (cutL x.l) x.a x.c) → Blk wx (w.heap.size + 1) 25 (leafC (cutL y.l) y.a y.c) → Below w.heap.size w wx → SameSt w x y (w.heap.size + 1) wx) := Lib.hid (fun _ h1 h2 h3 => ⟨h1, h2, h3⟩)
  rw [UX2.out, UY2.out] at ST TS
  unfold leafV at SX SY LS RS LX
  rw [UX2.out] at SX LS RS LX
  rw [UX.out] at SX hb1 hk1 hv1
  rw [UY2.out] at SY LS RS
  rw [UY.out] at SY hb1 hk1 hv1
  unfold leafA leafV
  rw [UX.out, UY.out]
  clear hT hx1 hx2 hx3 hx4 hy1 hy2 hy3 hy4 hk0 UX UY UX2 UY2
  have NX := Lib.hid (show (x.l.es.take 6).length = (x.l.es.take 6).length from rfl)
  generalize (x.l.es.take 6).length = nx at *
  generalize (y.l.es.take 6).length = ny at *
  clear NX
  obtain ⟨hn0, hn1⟩ := hn
  go_enter Tryd.func6, Tryd.ntmps6
  go_upto_region 1 with (fail)
  generalize (w.alloc (.cells #[.int .i64 x.l.no, .int .u64 x.l.snap, .slice x.a x.l.es.length x.c] 25)).alloc (.cells #[.int .i64 y.l.no, .int .u64 y.l.snap, .slice y.a y.l.es.length y.c] 25) = w2 at *
  generalize w.heap.size + 1 = g at *
  have HB := Lib.hid hb1
  have HK := Lib.hid hk1
  have HV := Lib.hid hv1
  have HGL := Lib.hid hgl
  have hgl3 : ¬ g = w.heap.size := Ne.symm hgl
  have hgl4 : ¬ w.heap.size = g := hgl
  have HGL2 := Lib.hid hgl2
  obtain ⟨⟨k0, k1, k2⟩, f0, f1, f2⟩ := cells3 hk1
  obtain ⟨⟨j0, j1, j2⟩, g0, g1, g2⟩ := cells3 hv1
  clear hb1 hk1 hv1 hgl hgl2
  go_cut [6] (fun s wx => s = .bool false ∧ SameSt w x y g wx)
  case first =>
    go_region_law
      ((first
        | ((refine step_call 7 ent_short (by rfl) #[.tmp 8] #[25] (by rfl) #[.agg #[.int .i64 x.l.no, .int .u64 x.l.snap, .slice x.a x.l.es.length x.c]] (by rfl) ((SX.out _ ((by repeat (first | with_reducible exact HB.out | with_reducible apply below_alloc | with_reducible apply below_drewN | with_reducible apply below_drew)))).mono ?_)); rintro e w3 ⟨rfl, hb⟩; have HB := Lib.hid (below_step ((by repeat (first | with_reducible exact HB.out | with_reducible apply below_alloc | with_reducible apply below_drewN | with_reducible apply below_drew))) hb); have HK := Lib.hid (Blk.below ((by repeat (first | with_reducible exact HK.out | with_reducible apply Blk.alloc | with_reducible apply Blk.drewN | with_reducible apply Blk.drew | exact HK.out))) hb); have HV := Lib.hid (Blk.below ((by repeat (first | with_reducible exact HV.out | with_reducible apply Blk.alloc | with_reducible apply Blk.drewN | with_reducible apply Blk.drew | exact HV.out))) hb); obtain ⟨⟨k0, k1, k2⟩, f0, f1, f2⟩ := cells3 HK.out; obtain ⟨⟨j0, j1, j2⟩, g0, g1, g2⟩ := cells3 HV.out; clear hb; refine ⟨_, rfl, ?_⟩)
        | ((refine step_call 7 ent_short (by rfl) #[.tmp 10] #[25] (by rfl) #[.agg #[.int .i64 y.l.no, .int .u64 y.l.snap, .slice y.a y.l.es.length y.c]] (by rfl) ((SY.out _ ((by repeat (first | with_reducible exact HB.out | with_reducible apply below_alloc | with_reducible apply below_drewN | with_reducible apply below_drew)))).mono ?_)); rintro e w4 ⟨rfl, hb⟩; have HB := Lib.hid (below_step ((by repeat (first | with_reducible exact HB.out | with_reducible apply below_alloc | with_reducible apply below_drewN | with_reducible apply below_drew))) hb); have HK := Lib.hid (Blk.below ((by repeat (first | with_reducible exact HK.out | with_reducible apply Blk.alloc | with_reducible apply Blk.drewN | with_reducible apply Blk.drew | exact HK.out))) hb); have HV := Lib.hid (Blk.below ((by repeat (first | with_reducible exact HV.out | with_reducible apply Blk.alloc | with_reducible apply Blk.drewN | with_reducible apply Blk.drew | exact HV.out))) hb); obtain ⟨⟨k0, k1, k2⟩, f0, f1, f2⟩ := cells3 HK.out; obtain ⟨⟨j0, j1, j2⟩, g0, g1, g2⟩ := cells3 HV.out; clear hb; refine ⟨_, rfl, ?_⟩)))
    all_goals
      go_wp2_with fail
      go_meet
      exact ⟨rfl, TS.out _ (Blk.far3 (HK.out.set3 _ _ _) HGL.out _ _ _) ((HV.out.far3 (Ne.symm HGL.out) _ _ _).set3 _ _ _) (below_set3 (below_set3 HB.out (Nat.le_refl _) _ _ _) HGL2.out _ _ _)⟩
  case rest =>
    obtain ⟨rfl, hst⟩ := hcut
    obtain ⟨hk, hv, hb⟩ := ST.out _ hst
    have HB := Lib.hid hb
    have HK := Lib.hid hk
    have HV := Lib.hid hv
    clear hst hk hv hb k0 k1 k2 f0 f1 f2 j0 j1 j2 g0 g1 g2 SX SY ST TS
    rename_i wx
    by_cases hneg : n < 0
    · have ho : ofS0 n = 0 := by unfold ofS0; omega
      rw [ho] at OF
      clear ho
      go_wp2_with (go_at_call 20; (with_reducible refine (OF.out _).mono ?_); rintro e w' ⟨rfl, rfl⟩)
      refine wp_region_held_drew (S := (fun w' => (w'.cell? ⟨w.heap.size, 0, none⟩ = some (.int .i64 x.l.no) ∧ w'.cell? ⟨w.heap.size, 1, none⟩ = some (.int .u64 x.l.snap) ∧ w'.cell? ⟨w.heap.size, 2, none⟩ = some (.slice x.a nx x.c)) ∧ w'.cell? ⟨g, 0, none⟩ = some (.int .i64 y.l.no) ∧ w'.cell? ⟨g, 1, none⟩ = some (.int .u64 y.l.snap) ∧ w'.cell? ⟨g, 2, none⟩ = some (.slice y.a ny y.c))) (by kernel_rfl) ?_ (fun hHeld => ?_)
      · (try dsimp only); (exact ⟨(cells3 ((by repeat (first | with_reducible exact HK.out | with_reducible apply Blk.alloc | with_reducible apply Blk.drewN | with_reducible apply Blk.drew | exact HK.out)))).1, (cells3 ((by repeat (first | with_reducible exact HV.out | with_reducible apply Blk.alloc | with_reducible apply Blk.drewN | with_reducible apply Blk.drew | exact HV.out)))).1⟩)
      refine take_w (i := 0) (some 14) (v := ?_) rfl (by rfl) (by kernel_rfl) (by kernel_rfl) (by kernel_rfl) (fun _ _ _ h => h) (by rfl) hHeld ?_ ?_
      rotate_left
      · intro w hSw; (try dsimp only at hSw); (first | (go_simp; done) | (go_simp; with_reducible rfl))
      try simp only [Act.put, List.setIfInBounds_toArray, List.set_cons_zero, List.set_cons_succ]
      refine take_w (i := 1) (some 15) (v := ?_) rfl (by rfl) (by kernel_rfl) (by kernel_rfl) (by kernel_rfl) (fun _ _ _ h => h) (by rfl) hHeld ?_ ?_
      rotate_left
      · intro w hSw; (try dsimp only at hSw); (first | (go_simp; done) | (go_simp; with_reducible rfl))
      try simp only [Act.put, List.setIfInBounds_toArray, List.set_cons_zero, List.set_cons_succ]
      refine take_w (i := 3) (some 17) (v := ?_) rfl (by rfl) (by kernel_rfl) (by kernel_rfl) (by kernel_rfl) (fun _ _ _ h => h) (by rfl) hHeld ?_ ?_
      rotate_left
      · intro w hSw; (try dsimp only at hSw); (first | (go_simp; done) | (go_simp; with_reducible rfl))
      try simp only [Act.put, List.setIfInBounds_toArray, List.set_cons_zero, List.set_cons_succ]
      refine take_w (i := 4) (some 18) (v := ?_) rfl (by rfl) (by kernel_rfl) (by kernel_rfl) (by kernel_rfl) (fun _ _ _ h => h) (by rfl) hHeld ?_ ?_
      rotate_left
      · intro w hSw; (try dsimp only at hSw); (first | (go_simp; done) | (go_simp; with_reducible rfl))
      try simp only [Act.put, List.setIfInBounds_toArray, List.set_cons_zero, List.set_cons_succ]
      refine wpAnyH_ready (rs := [2]) (by kernel_rfl) (by simp) ?_
      refine AllReadyH.cons rfl (fun K hK => ?_) ?_
      · go_simp
        go_wp2_with ((first | (go_at_call 21; (with_reducible refine (LS.out _ ((by repeat (first | with_reducible exact HB.out | with_reducible apply below_alloc | with_reducible apply below_drewN | with_reducible apply below_drew)))).mono ?_); rintro e w8 ⟨rfl, hb⟩; have HB := Lib.hid (below_step ((by repeat (first | with_reducible exact HB.out | with_reducible apply below_alloc | with_reducible apply below_drewN | with_reducible apply below_drew))) hb); have HK := Lib.hid (Blk.below ((by repeat (first | with_reducible exact HK.out | with_reducible apply Blk.alloc | with_reducible apply Blk.drewN | with_reducible apply Blk.drew | exact HK.out))) hb); have HV := Lib.hid (Blk.below ((by repeat (first | with_reducible exact HV.out | with_reducible apply Blk.alloc | with_reducible apply Blk.drewN | with_reducible apply Blk.drew | exact HV.out))) hb); clear hb) | (go_at_call 12; (with_reducible refine (RS.out _ ((by repeat (first | with_reducible exact HB.out | with_reducible apply below_alloc | with_reducible apply below_drewN | with_reducible apply below_drew)))).mono ?_); rintro e w8 ⟨rfl, hb⟩; have HB := Lib.hid (below_step ((by repeat (first | with_reducible exact HB.out | with_reducible apply below_alloc | with_reducible apply below_drewN | with_reducible apply below_drew))) hb); have HK := Lib.hid (Blk.below ((by repeat (first | with_reducible exact HK.out | with_reducible apply Blk.alloc | with_reducible apply Blk.drewN | with_reducible apply Blk.drew | exact HK.out))) hb); have HV := Lib.hid (Blk.below ((by repeat (first | with_reducible exact HV.out | with_reducible apply Blk.alloc | with_reducible apply Blk.drewN | with_reducible apply Blk.drew | exact HV.out))) hb); clear hb) | (go_at_call 21; (with_reducible refine (LX.out _ ((by repeat (first | with_reducible exact HB.out | with_reducible apply below_alloc | with_reducible apply below_drewN | with_reducible apply below_drew)))).mono ?_); rintro e w8 ⟨rfl, hb⟩; have HB := Lib.hid (below_step ((by repeat (first | with_reducible exact HB.out | with_reducible apply below_alloc | with_reducible apply below_drewN | with_reducible apply below_drew))) hb); have HK := Lib.hid (Blk.below ((by repeat (first | with_reducible exact HK.out | with_reducible apply Blk.alloc | with_reducible apply Blk.drewN | with_reducible apply Blk.drew | exact HK.out))) hb); have HV := Lib.hid (Blk.below ((by repeat (first | with_reducible exact HV.out | with_reducible apply Blk.alloc | with_reducible apply Blk.drewN | with_reducible apply Blk.drew | exact HV.out))) hb); clear hb) | (go_at_call 10; (with_reducible refine (AW.out _ ((by repeat (first | with_reducible exact HB.out | with_reducible apply below_alloc | with_reducible apply below_drewN | with_reducible apply below_drew)))).mono ?_); rintro e w8 ⟨rfl, hb⟩; have HB := Lib.hid (below_step ((by repeat (first | with_reducible exact HB.out | with_reducible apply below_alloc | with_reducible apply below_drewN | with_reducible apply below_drew))) hb); have HK := Lib.hid (Blk.below ((by repeat (first | with_reducible exact HK.out | with_reducible apply Blk.alloc | with_reducible apply Blk.drewN | with_reducible apply Blk.drew | exact HK.out))) hb); have HV := Lib.hid (Blk.below ((by repeat (first | with_reducible exact HV.out | with_reducible apply Blk.alloc | with_reducible apply Blk.drewN | with_reducible apply Blk.drew | exact HV.out))) hb); clear hb)))
        refine hK.out _ _ ?_ (fun hHeld2 => ?_)
        · (try dsimp only); (exact ⟨(cells3 ((by repeat (first | with_reducible exact HK.out | with_reducible apply Blk.alloc | with_reducible apply Blk.drewN | with_reducible apply Blk.drew | exact HK.out)))).1, (cells3 ((by repeat (first | with_reducible exact HV.out | with_reducible apply Blk.alloc | with_reducible apply Blk.drewN | with_reducible apply Blk.drew | exact HV.out)))).1⟩)
        clear hK K hHeld; have hHeld := hHeld2; clear hHeld2
        refine wpAnyH_ready (rs := [5]) (by kernel_rfl) (by simp) ?_
        refine AllReadyH.cons rfl (fun K hK => ?_) ?_
        · go_simp
          go_wp2_with ((first | (go_at_call 21; (with_reducible refine (LS.out _ ((by repeat (first | with_reducible exact HB.out | with_reducible apply below_alloc | with_reducible apply below_drewN | with_reducible apply below_drew)))).mono ?_); rintro e w8 ⟨rfl, hb⟩; have HB := Lib.hid (below_step ((by repeat (first | with_reducible exact HB.out | with_reducible apply below_alloc | with_reducible apply below_drewN | with_reducible apply below_drew))) hb); have HK := Lib.hid (Blk.below ((by repeat (first | with_reducible exact HK.out | with_reducible apply Blk.alloc | with_reducible apply Blk.drewN | with_reducible apply Blk.drew | exact HK.out))) hb); have HV := Lib.hid (Blk.below ((by repeat (first | with_reducible exact HV.out | with_reducible apply Blk.alloc | with_reducible apply Blk.drewN | with_reducible apply Blk.drew | exact HV.out))) hb); clear hb) | (go_at_call 12; (with_reducible refine (RS.out _ ((by repeat (first | with_reducible exact HB.out | with_reducible apply below_alloc | with_reducible apply below_drewN | with_reducible apply below_drew)))).mono ?_); rintro e w8 ⟨rfl, hb⟩; have HB := Lib.hid (below_step ((by repeat (first | with_reducible exact HB.out | with_reducible apply below_alloc | with_reducible apply below_drewN | with_reducible apply below_drew))) hb); have HK := Lib.hid (Blk.below ((by repeat (first | with_reducible exact HK.out | with_reducible apply Blk.alloc | with_reducible apply Blk.drewN | with_reducible apply Blk.drew | exact HK.out))) hb); have HV := Lib.hid (Blk.below ((by repeat (first | with_reducible exact HV.out | with_reducible apply Blk.alloc | with_reducible apply Blk.drewN | with_reducible apply Blk.drew | exact HV.out))) hb); clear hb) | (go_at_call 21; (with_reducible refine (LX.out _ ((by repeat (first | with_reducible exact HB.out | with_reducible apply below_alloc | with_reducible apply below_drewN | with_reducible apply below_drew)))).mono ?_); rintro e w8 ⟨rfl, hb⟩; have HB := Lib.hid (below_step ((by repeat (first | with_reducible exact HB.out | with_reducible apply below_alloc | with_reducible apply below_drewN | with_reducible apply below_drew))) hb); have HK := Lib.hid (Blk.below ((by repeat (first | with_reducible exact HK.out | with_reducible apply Blk.alloc | with_reducible apply Blk.drewN | with_reducible apply Blk.drew | exact HK.out))) hb); have HV := Lib.hid (Blk.below ((by repeat (first | with_reducible exact HV.out | with_reducible apply Blk.alloc | with_reducible apply Blk.drewN | with_reducible apply Blk.drew | exact HV.out))) hb); clear hb) | (go_at_call 10; (with_reducible refine (AW.out _ ((by repeat (first | with_reducible exact HB.out | with_reducible apply below_alloc | with_reducible apply below_drewN | with_reducible apply below_drew)))).mono ?_); rintro e w8 ⟨rfl, hb⟩; have HB := Lib.hid (below_step ((by repeat (first | with_reducible exact HB.out | with_reducible apply below_alloc | with_reducible apply below_drewN | with_reducible apply below_drew))) hb); have HK := Lib.hid (Blk.below ((by repeat (first | with_reducible exact HK.out | with_reducible apply Blk.alloc | with_reducible apply Blk.drewN | with_reducible apply Blk.drew | exact HK.out))) hb); have HV := Lib.hid (Blk.below ((by repeat (first | with_reducible exact HV.out | with_reducible apply Blk.alloc | with_reducible apply Blk.drewN | with_reducible apply Blk.drew | exact HV.out))) hb); clear hb)))
          refine hK.out _ _ ?_ (fun hHeld2 => ?_)
          · (try dsimp only); (exact ⟨(cells3 ((by repeat (first | with_reducible exact HK.out | with_reducible apply Blk.alloc | with_reducible apply Blk.drewN | with_reducible apply Blk.drew | exact HK.out)))).1, (cells3 ((by repeat (first | with_reducible exact HV.out | with_reducible apply Blk.alloc | with_reducible apply Blk.drewN | with_reducible apply Blk.drew | exact HV.out)))).1⟩)
          clear hK K hHeld; have hHeld := hHeld2; clear hHeld2
          refine take_w (i := 6) (some 20) (v := ?_) rfl (by rfl) (by kernel_rfl) (by kernel_rfl) (by kernel_rfl) (fun _ _ _ h => h) (by rfl) hHeld ?_ ?_
          rotate_left
          · intro w hSw; (try dsimp only at hSw); (first | (go_simp; done) | (go_simp; with_reducible rfl))
          try simp only [Act.put, List.setIfInBounds_toArray, List.set_cons_zero, List.set_cons_succ]
          refine take_w (i := 7) (some 21) (v := ?_) rfl (by rfl) (by kernel_rfl) (by kernel_rfl) (by kernel_rfl) (fun _ _ _ h => h) (by rfl) hHeld ?_ ?_
          rotate_left
          · intro w hSw; (try dsimp only at hSw); (first | (go_simp; done) | (go_simp; with_reducible rfl))
          try simp only [Act.put, List.setIfInBounds_toArray, List.set_cons_zero, List.set_cons_succ]
          refine take_w (i := 8) (some 22) (v := ?_) rfl (by rfl) (by kernel_rfl) (by kernel_rfl) (by kernel_rfl) (fun _ _ _ h => h) (by rfl) hHeld ?_ ?_
          rotate_left
          · intro w hSw; (try dsimp only at hSw); (first | (go_simp; done) | (go_simp; with_reducible rfl))
          try simp only [Act.put, List.setIfInBounds_toArray, List.set_cons_zero, List.set_cons_succ]
          refine take_w (i := 9) (some 23) (v := ?_) rfl (by rfl) (by kernel_rfl) (by kernel_rfl) (by kernel_rfl) (fun _ _ _ h => h) (by rfl) hHeld ?_ ?_
          rotate_left
          · intro w hSw; (try dsimp only at hSw); (first | (go_simp; done) | (go_simp; with_reducible rfl))
          try simp only [Act.put, List.setIfInBounds_toArray, List.set_cons_zero, List.set_cons_succ]
          refine wpAnyH_ready (rs := [10]) (by kernel_rfl) (by simp) ?_
          refine AllReadyH.cons rfl (fun K hK => ?_) ?_
          · go_simp
            go_wp2_with ((first | (go_at_call 21; (with_reducible refine (LS.out _ ((by repeat (first | with_reducible exact HB.out | with_reducible apply below_alloc | with_reducible apply below_drewN | with_reducible apply below_drew)))).mono ?_); rintro e w8 ⟨rfl, hb⟩; have HB := Lib.hid (below_step ((by repeat (first | with_reducible exact HB.out | with_reducible apply below_alloc | with_reducible apply below_drewN | with_reducible apply below_drew))) hb); have HK := Lib.hid (Blk.below ((by repeat (first | with_reducible exact HK.out | with_reducible apply Blk.alloc | with_reducible apply Blk.drewN | with_reducible apply Blk.drew | exact HK.out))) hb); have HV := Lib.hid (Blk.below ((by repeat (first | with_reducible exact HV.out | with_reducible apply Blk.alloc | with_reducible apply Blk.drewN | with_reducible apply Blk.drew | exact HV.out))) hb); clear hb) | (go_at_call 12; (with_reducible refine (RS.out _ ((by repeat (first | with_reducible exact HB.out | with_reducible apply below_alloc | with_reducible apply below_drewN | with_reducible apply below_drew)))).mono ?_); rintro e w8 ⟨rfl, hb⟩; have HB := Lib.hid (below_step ((by repeat (first | with_reducible exact HB.out | with_reducible apply below_alloc | with_reducible apply below_drewN | with_reducible apply below_drew))) hb); have HK := Lib.hid (Blk.below ((by repeat (first | with_reducible exact HK.out | with_reducible apply Blk.alloc | with_reducible apply Blk.drewN | with_reducible apply Blk.drew | exact HK.out))) hb); have HV := Lib.hid (Blk.below ((by repeat (first | with_reducible exact HV.out | with_reducible apply Blk.alloc | with_reducible apply Blk.drewN | with_reducible apply Blk.drew | exact HV.out))) hb); clear hb) | (go_at_call 21; (with_reducible refine (LX.out _ ((by repeat (first | with_reducible exact HB.out | with_reducible apply below_alloc | with_reducible apply below_drewN | with_reducible apply below_drew)))).mono ?_); rintro e w8 ⟨rfl, hb⟩; have HB := Lib.hid (below_step ((by repeat (first | with_reducible exact HB.out | with_reducible apply below_alloc | with_reducible apply below_drewN | with_reducible apply below_drew))) hb); have HK := Lib.hid (Blk.below ((by repeat (first | with_reducible exact HK.out | with_reducible apply Blk.alloc | with_reducible apply Blk.drewN | with_reducible apply Blk.drew | exact HK.out))) hb); have HV := Lib.hid (Blk.below ((by repeat (first | with_reducible exact HV.out | with_reducible apply Blk.alloc | with_reducible apply Blk.drewN | with_reducible apply Blk.drew | exact HV.out))) hb); clear hb) | (go_at_call 10; (with_reducible refine (AW.out _ ((by repeat (first | with_reducible exact HB.out | with_reducible apply below_alloc | with_reducible apply below_drewN | with_reducible apply below_drew)))).mono ?_); rintro e w8 ⟨rfl, hb⟩; have HB := Lib.hid (below_step ((by repeat (first | with_reducible exact HB.out | with_reducible apply below_alloc | with_reducible apply below_drewN | with_reducible apply below_drew))) hb); have HK := Lib.hid (Blk.below ((by repeat (first | with_reducible exact HK.out | with_reducible apply Blk.alloc | with_reducible apply Blk.drewN | with_reducible apply Blk.drew | exact HK.out))) hb); have HV := Lib.hid (Blk.below ((by repeat (first | with_reducible exact HV.out | with_reducible apply Blk.alloc | with_reducible apply Blk.drewN | with_reducible apply Blk.drew | exact HV.out))) hb); clear hb)))
            refine hK.out _ _ ?_ (fun hHeld2 => ?_)
            · (try dsimp only); (exact ⟨(cells3 ((by repeat (first | with_reducible exact HK.out | with_reducible apply Blk.alloc | with_reducible apply Blk.drewN | with_reducible apply Blk.drew | exact HK.out)))).1, (cells3 ((by repeat (first | with_reducible exact HV.out | with_reducible apply Blk.alloc | with_reducible apply Blk.drewN | with_reducible apply Blk.drew | exact HV.out)))).1⟩)
            clear hK K hHeld; have hHeld := hHeld2; clear hHeld2
            refine take_w (i := 11) (some 25) (v := ?_) rfl (by rfl) (by kernel_rfl) (by kernel_rfl) (by kernel_rfl) (fun _ _ _ h => h) (by rfl) hHeld ?_ ?_
            rotate_left
            · intro w hSw; (try dsimp only at hSw); (first | (go_simp; done) | (go_simp; with_reducible rfl))
            try simp only [Act.put, List.setIfInBounds_toArray, List.set_cons_zero, List.set_cons_succ]
            refine take_w (i := 12) (some 26) (v := ?_) rfl (by rfl) (by kernel_rfl) (by kernel_rfl) (by kernel_rfl) (fun _ _ _ h => h) (by rfl) hHeld ?_ ?_
            rotate_left
            · intro w hSw; (try dsimp only at hSw); (first | (go_simp; done) | (go_simp; with_reducible rfl))
            try simp only [Act.put, List.setIfInBounds_toArray, List.set_cons_zero, List.set_cons_succ]
            refine take_w (i := 13) (some 27) (v := ?_) rfl (by rfl) (by kernel_rfl) (by kernel_rfl) (by kernel_rfl) (fun _ _ _ h => h) (by rfl) hHeld ?_ ?_
            rotate_left
            · intro w hSw; (try dsimp only at hSw); (first | (go_simp; done) | (go_simp; with_reducible rfl))
            try simp only [Act.put, List.setIfInBounds_toArray, List.set_cons_zero, List.set_cons_succ]
            refine take_w (i := 14) (some 28) (v := ?_) rfl (by rfl) (by kernel_rfl) (by kernel_rfl) (by kernel_rfl) (fun _ _ _ h => h) (by rfl) hHeld ?_ ?_
            rotate_left
            · intro w hSw; (try dsimp only at hSw); (first | (go_simp; done) | (go_simp; with_reducible rfl))
            try simp only [Act.put, List.setIfInBounds_toArray, List.set_cons_zero, List.set_cons_succ]
            refine take_w (i := 15) (some 29) (v := ?_) rfl (by rfl) (by kernel_rfl) (by kernel_rfl) (by kernel_rfl) (fun _ _ _ h => h) (by rfl) hHeld ?_ ?_
            rotate_left
            · intro w hSw; (try dsimp only at hSw); (first | (go_simp; done) | (go_simp; with_reducible rfl))
            try simp only [Act.put, List.setIfInBounds_toArray, List.set_cons_zero, List.set_cons_succ]
            refine take_w (i := 16) (some 30) (v := ?_) rfl (by rfl) (by kernel_rfl) (by kernel_rfl) (by kernel_rfl) (fun _ _ _ h => h) (by rfl) hHeld ?_ ?_
            rotate_left
            · intro w hSw; (try dsimp only at hSw); (first | (go_simp; done) | (go_simp; with_reducible rfl))
            try simp only [Act.put, List.setIfInBounds_toArray, List.set_cons_zero, List.set_cons_succ]
            refine take_w (i := 17) (some 31) (v := ?_) rfl (by rfl) (by kernel_rfl) (by kernel_rfl) (by kernel_rfl) (fun _ _ _ h => h) (by rfl) hHeld ?_ ?_
            rotate_left
            · intro w hSw; (try dsimp only at hSw); (first | (go_simp; done) | (go_simp; with_reducible rfl))
            try simp only [Act.put, List.setIfInBounds_toArray, List.set_cons_zero, List.set_cons_succ]
            refine take_w (i := 18) (some 32) (v := ?_) rfl (by rfl) (by kernel_rfl) (by kernel_rfl) (by kernel_rfl) (fun _ _ _ h => h) (by rfl) hHeld ?_ ?_
            rotate_left
            · intro w hSw; (try dsimp only at hSw); (first | (go_simp; done) | (go_simp; with_reducible rfl))
            try simp only [Act.put, List.setIfInBounds_toArray, List.set_cons_zero, List.set_cons_succ]
            refine take_w (i := 19) (some 33) (v := ?_) rfl (by rfl) (by kernel_rfl) (by kernel_rfl) (by kernel_rfl) (fun _ _ _ h => h) (by rfl) hHeld ?_ ?_
            rotate_left
            · intro w hSw; (try dsimp only at hSw); (first | (go_simp; done) | (go_simp; with_reducible rfl))
            try simp only [Act.put, List.setIfInBounds_toArray, List.set_cons_zero, List.set_cons_succ]
            refine take_n (i := 20) (some 34) rfl (by rfl) (by kernel_rfl) (by kernel_rfl) (by kernel_rfl) (fun _ _ _ h => h) (by rfl) hHeld ?_
            try simp only [Act.put, List.setIfInBounds_toArray, List.set_cons_zero, List.set_cons_succ]
            refine take_n (i := 21) (some 35) rfl (by rfl) (by kernel_rfl) (by kernel_rfl) (by kernel_rfl) (fun _ _ _ h => h) (by rfl) hHeld ?_
            try simp only [Act.put, List.setIfInBounds_toArray, List.set_cons_zero, List.set_cons_succ]
            refine take_n (i := 22) (some 36) rfl (by rfl) (by kernel_rfl) (by kernel_rfl) (by kernel_rfl) (fun _ _ _ h => h) (by rfl) hHeld ?_
            try simp only [Act.put, List.setIfInBounds_toArray, List.set_cons_zero, List.set_cons_succ]
            refine take_n (i := 23) (some 37) rfl (by rfl) (by kernel_rfl) (by kernel_rfl) (by kernel_rfl) (fun _ _ _ h => h) (by rfl) hHeld ?_
            try simp only [Act.put, List.setIfInBounds_toArray, List.set_cons_zero, List.set_cons_succ]
            refine take_n (i := 24) (some 38) rfl (by rfl) (by kernel_rfl) (by kernel_rfl) (by kernel_rfl) (fun _ _ _ h => h) (by rfl) hHeld ?_
            try simp only [Act.put, List.setIfInBounds_toArray, List.set_cons_zero, List.set_cons_succ]
            refine take_n (i := 25) (some 39) rfl (by rfl) (by kernel_rfl) (by kernel_rfl) (by kernel_rfl) (fun _ _ _ h => h) (by rfl) hHeld ?_
            try simp only [Act.put, List.setIfInBounds_toArray, List.set_cons_zero, List.set_cons_succ]
            refine take_n (i := 26) (some 40) rfl (by rfl) (by kernel_rfl) (by kernel_rfl) (by kernel_rfl) (fun _ _ _ h => h) (by rfl) hHeld ?_
            try simp only [Act.put, List.setIfInBounds_toArray, List.set_cons_zero, List.set_cons_succ]
            refine take_n (i := 27) (some 41) rfl (by rfl) (by kernel_rfl) (by kernel_rfl) (by kernel_rfl) (fun _ _ _ h => h) (by rfl) hHeld ?_
            try simp only [Act.put, List.setIfInBounds_toArray, List.set_cons_zero, List.set_cons_succ]
            refine take_w (i := 28) (some 42) (v := ?_) rfl (by rfl) (by kernel_rfl) (by kernel_rfl) (by kernel_rfl) (fun _ _ _ h => h) (by rfl) hHeld ?_ ?_
            rotate_left
            · intro w hSw; (try dsimp only at hSw); (first | (go_simp; done) | (go_simp; with_reducible rfl))
            try simp only [Act.put, List.setIfInBounds_toArray, List.set_cons_zero, List.set_cons_succ]
            refine take_w (i := 29) (some 43) (v := ?_) rfl (by rfl) (by kernel_rfl) (by kernel_rfl) (by kernel_rfl) (fun _ _ _ h => h) (by rfl) hHeld ?_ ?_
            rotate_left
            · intro w hSw; (try dsimp only at hSw); (first | (go_simp; done) | (go_simp; with_reducible rfl))
            try simp only [Act.put, List.setIfInBounds_toArray, List.set_cons_zero, List.set_cons_succ]
            refine take_w (i := 30) (some 44) (v := ?_) rfl (by rfl) (by kernel_rfl) (by kernel_rfl) (by kernel_rfl) (fun _ _ _ h => h) (by rfl) hHeld ?_ ?_
            rotate_left
            · intro w hSw; (try dsimp only at hSw); (first | (go_simp; done) | (go_simp; with_reducible rfl))
            try simp only [Act.put, List.setIfInBounds_toArray, List.set_cons_zero, List.set_cons_succ]
            refine wpAnyH_ready (rs := [31]) (by kernel_rfl) (by simp) ?_
            refine AllReadyH.cons rfl (fun K hK => ?_) ?_
            · go_simp
              go_wp2_with ((first | (go_at_call 21; (with_reducible refine (LS.out _ ((by repeat (first | with_reducible exact HB.out | with_reducible apply below_alloc | with_reducible apply below_drewN | with_reducible apply below_drew)))).mono ?_); rintro e w8 ⟨rfl, hb⟩; have HB := Lib.hid (below_step ((by repeat (first | with_reducible exact HB.out | with_reducible apply below_alloc | with_reducible apply below_drewN | with_reducible apply below_drew))) hb); have HK := Lib.hid (Blk.below ((by repeat (first | with_reducible exact HK.out | with_reducible apply Blk.alloc | with_reducible apply Blk.drewN | with_reducible apply Blk.drew | exact HK.out))) hb); have HV := Lib.hid (Blk.below ((by repeat (first | with_reducible exact HV.out | with_reducible apply Blk.alloc | with_reducible apply Blk.drewN | with_reducible apply Blk.drew | exact HV.out))) hb); clear hb) | (go_at_call 12; (with_reducible refine (RS.out _ ((by repeat (first | with_reducible exact HB.out | with_reducible apply below_alloc | with_reducible apply below_drewN | with_reducible apply below_drew)))).mono ?_); rintro e w8 ⟨rfl, hb⟩; have HB := Lib.hid (below_step ((by repeat (first | with_reducible exact HB.out | with_reducible apply below_alloc | with_reducible apply below_drewN | with_reducible apply below_drew))) hb); have HK := Lib.hid (Blk.below ((by repeat (first | with_reducible exact HK.out | with_reducible apply Blk.alloc | with_reducible apply Blk.drewN | with_reducible apply Blk.drew | exact HK.out))) hb); have HV := Lib.hid (Blk.below ((by repeat (first | with_reducible exact HV.out | with_reducible apply Blk.alloc | with_reducible apply Blk.drewN | with_reducible apply Blk.drew | exact HV.out))) hb); clear hb) | (go_at_call 21; (with_reducible refine (LX.out _ ((by repeat (first | with_reducible exact HB.out | with_reducible apply below_alloc | with_reducible apply below_drewN | with_reducible apply below_drew)))).mono ?_); rintro e w8 ⟨rfl, hb⟩; have HB := Lib.hid (below_step ((by repeat (first | with_reducible exact HB.out | with_reducible apply below_alloc | with_reducible apply below_drewN | with_reducible apply below_drew))) hb); have HK := Lib.hid (Blk.below ((by repeat (first | with_reducible exact HK.out | with_reducible apply Blk.alloc | with_reducible apply Blk.drewN | with_reducible apply Blk.drew | exact HK.out))) hb); have HV := Lib.hid (Blk.below ((by repeat (first | with_reducible exact HV.out | with_reducible apply Blk.alloc | with_reducible apply Blk.drewN | with_reducible apply Blk.drew | exact HV.out))) hb); clear hb) | (go_at_call 10; (with_reducible refine (AW.out _ ((by repeat (first | with_reducible exact HB.out | with_reducible apply below_alloc | with_reducible apply below_drewN | with_reducible apply below_drew)))).mono ?_); rintro e w8 ⟨rfl, hb⟩; have HB := Lib.hid (below_step ((by repeat (first | with_reducible exact HB.out | with_reducible apply below_alloc | with_reducible apply below_drewN | with_reducible apply below_drew))) hb); have HK := Lib.hid (Blk.below ((by repeat (first | with_reducible exact HK.out | with_reducible apply Blk.alloc | with_reducible apply Blk.drewN | with_reducible apply Blk.drew | exact HK.out))) hb); have HV := Lib.hid (Blk.below ((by repeat (first | with_reducible exact HV.out | with_reducible apply Blk.alloc | with_reducible apply Blk.drewN | with_reducible apply Blk.drew | exact HV.out))) hb); clear hb)))
              refine hK.out _ _ ?_ (fun hHeld2 => ?_)
              · (try dsimp only); (exact ⟨(cells3 ((by repeat (first | with_reducible exact HK.out | with_reducible apply Blk.alloc | with_reducible apply Blk.drewN | with_reducible apply Blk.drew | exact HK.out)))).1, (cells3 ((by repeat (first | with_reducible exact HV.out | with_reducible apply Blk.alloc | with_reducible apply Blk.drewN | with_reducible apply Blk.drew | exact HV.out)))).1⟩)
              clear hK K hHeld; have hHeld := hHeld2; clear hHeld2
              refine take_w (i := 32) (some 46) (v := ?_) rfl (by rfl) (by kernel_rfl) (by kernel_rfl) (by kernel_rfl) (fun _ _ _ h => h) (by rfl) hHeld ?_ ?_
              rotate_left
              · intro w hSw; (try dsimp only at hSw); (first | (go_simp; done) | (go_simp; with_reducible rfl))
              try simp only [Act.put, List.setIfInBounds_toArray, List.set_cons_zero, List.set_cons_succ]
              refine take_w (i := 33) (some 6) (v := ?_) rfl (by rfl) (by kernel_rfl) (by kernel_rfl) (by kernel_rfl) (fun _ _ _ h => h) (by rfl) hHeld ?_ ?_
              rotate_left
              · intro w hSw; (try dsimp only at hSw); (first | (go_simp; done) | (go_simp; with_reducible rfl))
              try simp only [Act.put, List.setIfInBounds_toArray, List.set_cons_zero, List.set_cons_succ]
              refine wpAnyH_done (by kernel_rfl) ?_ _
              go_wp2
              go_ret
              exact ⟨rfl, (by repeat (first | with_reducible exact HB.out | with_reducible apply below_alloc | with_reducible apply below_drewN | with_reducible apply below_drew))⟩
            all_goals exact AllReadyH.nil
          all_goals exact AllReadyH.nil
        all_goals exact AllReadyH.nil
      all_goals exact AllReadyH.nil
    · have ho : ofS0 n = n / 3 := by unfold ofS0; omega
      rw [ho] at OF
      have hpos : 0 ≤ n := by omega
      have hd0 : decide (n < 0) = false := decide_eq_false (by omega)
      have htd : IntKind.i64.wrap (n.tdiv 3) = n / 3 := by rw [Int.tdiv_eq_ediv_of_nonneg hpos]; exact i64_wrap_id (by omega) (by omega)
      clear ho hneg
      go_wp2_with (go_at_call 20; (with_reducible refine (OF.out _).mono ?_); rintro e w' ⟨rfl, rfl⟩)
      refine wp_region_held_drew (S := (fun w' => (w'.cell? ⟨w.heap.size, 0, none⟩ = some (.int .i64 x.l.no) ∧ w'.cell? ⟨w.heap.size, 1, none⟩ = some (.int .u64 x.l.snap) ∧ w'.cell? ⟨w.heap.size, 2, none⟩ = some (.slice x.a nx x.c)) ∧ w'.cell? ⟨g, 0, none⟩ = some (.int .i64 y.l.no) ∧ w'.cell? ⟨g, 1, none⟩ = some (.int .u64 y.l.snap) ∧ w'.cell? ⟨g, 2, none⟩ = some (.slice y.a ny y.c))) (by kernel_rfl) ?_ (fun hHeld => ?_)
      · (try dsimp only); (exact ⟨(cells3 ((by repeat (first | with_reducible exact HK.out | with_reducible apply Blk.alloc | with_reducible apply Blk.drewN | with_reducible apply Blk.drew | exact HK.out)))).1, (cells3 ((by repeat (first | with_reducible exact HV.out | with_reducible apply Blk.alloc | with_reducible apply Blk.drewN | with_reducible apply Blk.drew | exact HV.out)))).1⟩)
      refine take_w (i := 0) (some 14) (v := ?_) rfl (by rfl) (by kernel_rfl) (by kernel_rfl) (by kernel_rfl) (fun _ _ _ h => h) (by rfl) hHeld ?_ ?_
      rotate_left
      · intro w hSw; (try dsimp only at hSw); (first | (go_simp; done) | (go_simp; with_reducible rfl))
      try simp only [Act.put, List.setIfInBounds_toArray, List.set_cons_zero, List.set_cons_succ]
      refine take_w (i := 1) (some 15) (v := ?_) rfl (by rfl) (by kernel_rfl) (by kernel_rfl) (by kernel_rfl) (fun _ _ _ h => h) (by rfl) hHeld ?_ ?_
      rotate_left
      · intro w hSw; (try dsimp only at hSw); (first | (go_simp; done) | (go_simp; with_reducible rfl))
      try simp only [Act.put, List.setIfInBounds_toArray, List.set_cons_zero, List.set_cons_succ]
      refine take_w (i := 3) (some 17) (v := ?_) rfl (by rfl) (by kernel_rfl) (by kernel_rfl) (by kernel_rfl) (fun _ _ _ h => h) (by rfl) hHeld ?_ ?_
      rotate_left
      · intro w hSw; (try dsimp only at hSw); (first | (go_simp; done) | (go_simp; with_reducible rfl))
      try simp only [Act.put, List.setIfInBounds_toArray, List.set_cons_zero, List.set_cons_succ]
      refine take_w (i := 4) (some 18) (v := ?_) rfl (by rfl) (by kernel_rfl) (by kernel_rfl) (by kernel_rfl) (fun _ _ _ h => h) (by rfl) hHeld ?_ ?_
      rotate_left
      · intro w hSw; (try dsimp only at hSw); (first | (go_simp; done) | (go_simp; with_reducible rfl))
      try simp only [Act.put, List.setIfInBounds_toArray, List.set_cons_zero, List.set_cons_succ]
      refine wpAnyH_ready (rs := [2]) (by kernel_rfl) (by simp) ?_
      refine AllReadyH.cons rfl (fun K hK => ?_) ?_
      · go_simp
        go_wp2_with ((first | (go_at_call 21; (with_reducible refine (LS.out _ ((by repeat (first | with_reducible exact HB.out | with_reducible apply below_alloc | with_reducible apply below_drewN | with_reducible apply below_drew)))).mono ?_); rintro e w8 ⟨rfl, hb⟩; have HB := Lib.hid (below_step ((by repeat (first | with_reducible exact HB.out | with_reducible apply below_alloc | with_reducible apply below_drewN | with_reducible apply below_drew))) hb); have HK := Lib.hid (Blk.below ((by repeat (first | with_reducible exact HK.out | with_reducible apply Blk.alloc | with_reducible apply Blk.drewN | with_reducible apply Blk.drew | exact HK.out))) hb); have HV := Lib.hid (Blk.below ((by repeat (first | with_reducible exact HV.out | with_reducible apply Blk.alloc | with_reducible apply Blk.drewN | with_reducible apply Blk.drew | exact HV.out))) hb); clear hb) | (go_at_call 12; (with_reducible refine (RS.out _ ((by repeat (first | with_reducible exact HB.out | with_reducible apply below_alloc | with_reducible apply below_drewN | with_reducible apply below_drew)))).mono ?_); rintro e w8 ⟨rfl, hb⟩; have HB := Lib.hid (below_step ((by repeat (first | with_reducible exact HB.out | with_reducible apply below_alloc | with_reducible apply below_drewN | with_reducible apply below_drew))) hb); have HK := Lib.hid (Blk.below ((by repeat (first | with_reducible exact HK.out | with_reducible apply Blk.alloc | with_reducible apply Blk.drewN | with_reducible apply Blk.drew | exact HK.out))) hb); have HV := Lib.hid (Blk.below ((by repeat (first | with_reducible exact HV.out | with_reducible apply Blk.alloc | with_reducible apply Blk.drewN | with_reducible apply Blk.drew | exact HV.out))) hb); clear hb) | (go_at_call 21; (with_reducible refine (LX.out _ ((by repeat (first | with_reducible exact HB.out | with_reducible apply below_alloc | with_reducible apply below_drewN | with_reducible apply below_drew)))).mono ?_); rintro e w8 ⟨rfl, hb⟩; have HB := Lib.hid (below_step ((by repeat (first | with_reducible exact HB.out | with_reducible apply below_alloc | with_reducible apply below_drewN | with_reducible apply below_drew))) hb); have HK := Lib.hid (Blk.below ((by repeat (first | with_reducible exact HK.out | with_reducible apply Blk.alloc | with_reducible apply Blk.drewN | with_reducible apply Blk.drew | exact HK.out))) hb); have HV := Lib.hid (Blk.below ((by repeat (first | with_reducible exact HV.out | with_reducible apply Blk.alloc | with_reducible apply Blk.drewN | with_reducible apply Blk.drew | exact HV.out))) hb); clear hb) | (go_at_call 10; (with_reducible refine (AW.out _ ((by repeat (first | with_reducible exact HB.out | with_reducible apply below_alloc | with_reducible apply below_drewN | with_reducible apply below_drew)))).mono ?_); rintro e w8 ⟨rfl, hb⟩; have HB := Lib.hid (below_step ((by repeat (first | with_reducible exact HB.out | with_reducible apply below_alloc | with_reducible apply below_drewN | with_reducible apply below_drew))) hb); have HK := Lib.hid (Blk.below ((by repeat (first | with_reducible exact HK.out | with_reducible apply Blk.alloc | with_reducible apply Blk.drewN | with_reducible apply Blk.drew | exact HK.out))) hb); have HV := Lib.hid (Blk.below ((by repeat (first | with_reducible exact HV.out | with_reducible apply Blk.alloc | with_reducible apply Blk.drewN | with_reducible apply Blk.drew | exact HV.out))) hb); clear hb)))
        refine hK.out _ _ ?_ (fun hHeld2 => ?_)
        · (try dsimp only); (exact ⟨(cells3 ((by repeat (first | with_reducible exact HK.out | with_reducible apply Blk.alloc | with_reducible apply Blk.drewN | with_reducible apply Blk.drew | exact HK.out)))).1, (cells3 ((by repeat (first | with_reducible exact HV.out | with_reducible apply Blk.alloc | with_reducible apply Blk.drewN | with_reducible apply Blk.drew | exact HV.out)))).1⟩)
        clear hK K hHeld; have hHeld := hHeld2; clear hHeld2
        refine wpAnyH_ready (rs := [5]) (by kernel_rfl) (by simp) ?_
        refine AllReadyH.cons rfl (fun K hK => ?_) ?_
        · go_simp
          go_wp2_with ((first | (go_at_call 21; (with_reducible refine (LS.out _ ((by repeat (first | with_reducible exact HB.out | with_reducible apply below_alloc | with_reducible apply below_drewN | with_reducible apply below_drew)))).mono ?_); rintro e w8 ⟨rfl, hb⟩; have HB := Lib.hid (below_step ((by repeat (first | with_reducible exact HB.out | with_reducible apply below_alloc | with_reducible apply below_drewN | with_reducible apply below_drew))) hb); have HK := Lib.hid (Blk.below ((by repeat (first | with_reducible exact HK.out | with_reducible apply Blk.alloc | with_reducible apply Blk.drewN | with_reducible apply Blk.drew | exact HK.out))) hb); have HV := Lib.hid (Blk.below ((by repeat (first | with_reducible exact HV.out | with_reducible apply Blk.alloc | with_reducible apply Blk.drewN | with_reducible apply Blk.drew | exact HV.out))) hb); clear hb) | (go_at_call 12; (with_reducible refine (RS.out _ ((by repeat (first | with_reducible exact HB.out | with_reducible apply below_alloc | with_reducible apply below_drewN | with_reducible apply below_drew)))).mono ?_); rintro e w8 ⟨rfl, hb⟩; have HB := Lib.hid (below_step ((by repeat (first | with_reducible exact HB.out | with_reducible apply below_alloc | with_reducible apply below_drewN | with_reducible apply below_drew))) hb); have HK := Lib.hid (Blk.below ((by repeat (first | with_reducible exact HK.out | with_reducible apply Blk.alloc | with_reducible apply Blk.drewN | with_reducible apply Blk.drew | exact HK.out))) hb); have HV := Lib.hid (Blk.below ((by repeat (first | with_reducible exact HV.out | with_reducible apply Blk.alloc | with_reducible apply Blk.drewN | with_reducible apply Blk.drew | exact HV.out))) hb); clear hb) | (go_at_call 21; (with_reducible refine (LX.out _ ((by repeat (first | with_reducible exact HB.out | with_reducible apply below_alloc | with_reducible apply below_drewN | with_reducible apply below_drew)))).mono ?_); rintro e w8 ⟨rfl, hb⟩; have HB := Lib.hid (below_step ((by repeat (first | with_reducible exact HB.out | with_reducible apply below_alloc | with_reducible apply below_drewN | with_reducible apply below_drew))) hb); have HK := Lib.hid (Blk.below ((by repeat (first | with_reducible exact HK.out | with_reducible apply Blk.alloc | with_reducible apply Blk.drewN | with_reducible apply Blk.drew | exact HK.out))) hb); have HV := Lib.hid (Blk.below ((by repeat (first | with_reducible exact HV.out | with_reducible apply Blk.alloc | with_reducible apply Blk.drewN | with_reducible apply Blk.drew | exact HV.out))) hb); clear hb) | (go_at_call 10; (with_reducible refine (AW.out _ ((by repeat (first | with_reducible exact HB.out | with_reducible apply below_alloc | with_reducible apply below_drewN | with_reducible apply below_drew)))).mono ?_); rintro e w8 ⟨rfl, hb⟩; have HB := Lib.hid (below_step ((by repeat (first | with_reducible exact HB.out | with_reducible apply below_alloc | with_reducible apply below_drewN | with_reducible apply below_drew))) hb); have HK := Lib.hid (Blk.below ((by repeat (first | with_reducible exact HK.out | with_reducible apply Blk.alloc | with_reducible apply Blk.drewN | with_reducible apply Blk.drew | exact HK.out))) hb); have HV := Lib.hid (Blk.below ((by repeat (first | with_reducible exact HV.out | with_reducible apply Blk.alloc | with_reducible apply Blk.drewN | with_reducible apply Blk.drew | exact HV.out))) hb); clear hb)))
          refine hK.out _ _ ?_ (fun hHeld2 => ?_)
          · (try dsimp only); (exact ⟨(cells3 ((by repeat (first | with_reducible exact HK.out | with_reducible apply Blk.alloc | with_reducible apply Blk.drewN | with_reducible apply Blk.drew | exact HK.out)))).1, (cells3 ((by repeat (first | with_reducible exact HV.out | with_reducible apply Blk.alloc | with_reducible apply Blk.drewN | with_reducible apply Blk.drew | exact HV.out)))).1⟩)
          clear hK K hHeld; have hHeld := hHeld2; clear hHeld2
          refine take_w (i := 6) (some 20) (v := ?_) rfl (by rfl) (by kernel_rfl) (by kernel_rfl) (by kernel_rfl) (fun _ _ _ h => h) (by rfl) hHeld ?_ ?_
          rotate_left
          · intro w hSw; (try dsimp only at hSw); (first | (go_simp; done) | (go_simp; with_reducible rfl))
          try simp only [Act.put, List.setIfInBounds_toArray, List.set_cons_zero, List.set_cons_succ]
          refine take_w (i := 7) (some 21) (v := ?_) rfl (by rfl) (by kernel_rfl) (by kernel_rfl) (by kernel_rfl) (fun _ _ _ h => h) (by rfl) hHeld ?_ ?_
          rotate_left
          · intro w hSw; (try dsimp only at hSw); (first | (go_simp; done) | (go_simp; with_reducible rfl))
          try simp only [Act.put, List.setIfInBounds_toArray, List.set_cons_zero, List.set_cons_succ]
          refine take_w (i := 8) (some 22) (v := ?_) rfl (by rfl) (by kernel_rfl) (by kernel_rfl) (by kernel_rfl) (fun _ _ _ h => h) (by rfl) hHeld ?_ ?_
          rotate_left
          · intro w hSw; (try dsimp only at hSw); (first | (go_simp; done) | (go_simp; with_reducible rfl))
          try simp only [Act.put, List.setIfInBounds_toArray, List.set_cons_zero, List.set_cons_succ]
          refine take_w (i := 9) (some 23) (v := ?_) rfl (by rfl) (by kernel_rfl) (by kernel_rfl) (by kernel_rfl) (fun _ _ _ h => h) (by rfl) hHeld ?_ ?_
          rotate_left
          · intro w hSw; (try dsimp only at hSw); (first | (go_simp; done) | (go_simp; with_reducible rfl))
          try simp only [Act.put, List.setIfInBounds_toArray, List.set_cons_zero, List.set_cons_succ]
          refine wpAnyH_ready (rs := [10]) (by kernel_rfl) (by simp) ?_
          refine AllReadyH.cons rfl (fun K hK => ?_) ?_
          · go_simp
            go_wp2_with ((first | (go_at_call 21; (with_reducible refine (LS.out _ ((by repeat (first | with_reducible exact HB.out | with_reducible apply below_alloc | with_reducible apply below_drewN | with_reducible apply below_drew)))).mono ?_); rintro e w8 ⟨rfl, hb⟩; have HB := Lib.hid (below_step ((by repeat (first | with_reducible exact HB.out | with_reducible apply below_alloc | with_reducible apply below_drewN | with_reducible apply below_drew))) hb); have HK := Lib.hid (Blk.below ((by repeat (first | with_reducible exact HK.out | with_reducible apply Blk.alloc | with_reducible apply Blk.drewN | with_reducible apply Blk.drew | exact HK.out))) hb); have HV := Lib.hid (Blk.below ((by repeat (first | with_reducible exact HV.out | with_reducible apply Blk.alloc | with_reducible apply Blk.drewN | with_reducible apply Blk.drew | exact HV.out))) hb); clear hb) | (go_at_call 12; (with_reducible refine (RS.out _ ((by repeat (first | with_reducible exact HB.out | with_reducible apply below_alloc | with_reducible apply below_drewN | with_reducible apply below_drew)))).mono ?_); rintro e w8 ⟨rfl, hb⟩; have HB := Lib.hid (below_step ((by repeat (first | with_reducible exact HB.out | with_reducible apply below_alloc | with_reducible apply below_drewN | with_reducible apply below_drew))) hb); have HK := Lib.hid (Blk.below ((by repeat (first | with_reducible exact HK.out | with_reducible apply Blk.alloc | with_reducible apply Blk.drewN | with_reducible apply Blk.drew | exact HK.out))) hb); have HV := Lib.hid (Blk.below ((by repeat (first | with_reducible exact HV.out | with_reducible apply Blk.alloc | with_reducible apply Blk.drewN | with_reducible apply Blk.drew | exact HV.out))) hb); clear hb) | (go_at_call 21; (with_reducible refine (LX.out _ ((by repeat (first | with_reducible exact HB.out | with_reducible apply below_alloc | with_reducible apply below_drewN | with_reducible apply below_drew)))).mono ?_); rintro e w8 ⟨rfl, hb⟩; have HB := Lib.hid (below_step ((by repeat (first | with_reducible exact HB.out | with_reducible apply below_alloc | with_reducible apply below_drewN | with_reducible apply below_drew))) hb); have HK := Lib.hid (Blk.below ((by repeat (first | with_reducible exact HK.out | with_reducible apply Blk.alloc | with_reducible apply Blk.drewN | with_reducible apply Blk.drew | exact HK.out))) hb); have HV := Lib.hid (Blk.below ((by repeat (first | with_reducible exact HV.out | with_reducible apply Blk.alloc | with_reducible apply Blk.drewN | with_reducible apply Blk.drew | exact HV.out))) hb); clear hb) | (go_at_call 10; (with_reducible refine (AW.out _ ((by repeat (first | with_reducible exact HB.out | with_reducible apply below_alloc | with_reducible apply below_drewN | with_reducible apply below_drew)))).mono ?_); rintro e w8 ⟨rfl, hb⟩; have HB := Lib.hid (below_step ((by repeat (first | with_reducible exact HB.out | with_reducible apply below_alloc | with_reducible apply below_drewN | with_reducible apply below_drew))) hb); have HK := Lib.hid (Blk.below ((by repeat (first | with_reducible exact HK.out | with_reducible apply Blk.alloc | with_reducible apply Blk.drewN | with_reducible apply Blk.drew | exact HK.out))) hb); have HV := Lib.hid (Blk.below ((by repeat (first | with_reducible exact HV.out | with_reducible apply Blk.alloc | with_reducible apply Blk.drewN | with_reducible apply Blk.drew | exact HV.out))) hb); clear hb)))
            refine hK.out _ _ ?_ (fun hHeld2 => ?_)
            · (try dsimp only); (exact ⟨(cells3 ((by repeat (first | with_reducible exact HK.out | with_reducible apply Blk.alloc | with_reducible apply Blk.drewN | with_reducible apply Blk.drew | exact HK.out)))).1, (cells3 ((by repeat (first | with_reducible exact HV.out | with_reducible apply Blk.alloc | with_reducible apply Blk.drewN | with_reducible apply Blk.drew | exact HV.out)))).1⟩)
            clear hK K hHeld; have hHeld := hHeld2; clear hHeld2
            refine take_w (i := 11) (some 25) (v := ?_) rfl (by rfl) (by kernel_rfl) (by kernel_rfl) (by kernel_rfl) (fun _ _ _ h => h) (by rfl) hHeld ?_ ?_
            rotate_left
            · intro w hSw; (try dsimp only at hSw); (first | (go_simp; done) | (go_simp; with_reducible rfl))
            try simp only [Act.put, List.setIfInBounds_toArray, List.set_cons_zero, List.set_cons_succ]
            refine take_w (i := 12) (some 26) (v := ?_) rfl (by rfl) (by kernel_rfl) (by kernel_rfl) (by kernel_rfl) (fun _ _ _ h => h) (by rfl) hHeld ?_ ?_
            rotate_left
            · intro w hSw; (try dsimp only at hSw); (first | (go_simp; done) | (go_simp; with_reducible rfl))
            try simp only [Act.put, List.setIfInBounds_toArray, List.set_cons_zero, List.set_cons_succ]
            refine take_w (i := 13) (some 27) (v := ?_) rfl (by rfl) (by kernel_rfl) (by kernel_rfl) (by kernel_rfl) (fun _ _ _ h => h) (by rfl) hHeld ?_ ?_
            rotate_left
            · intro w hSw; (try dsimp only at hSw); (first | (go_simp; done) | (go_simp; with_reducible rfl))
            try simp only [Act.put, List.setIfInBounds_toArray, List.set_cons_zero, List.set_cons_succ]
            refine take_w (i := 14) (some 28) (v := ?_) rfl (by rfl) (by kernel_rfl) (by kernel_rfl) (by kernel_rfl) (fun _ _ _ h => h) (by rfl) hHeld ?_ ?_
            rotate_left
            · intro w hSw; (try dsimp only at hSw); (first | (go_simp; done) | (go_simp; with_reducible rfl))
            try simp only [Act.put, List.setIfInBounds_toArray, List.set_cons_zero, List.set_cons_succ]
            refine take_w (i := 15) (some 29) (v := ?_) rfl (by rfl) (by kernel_rfl) (by kernel_rfl) (by kernel_rfl) (fun _ _ _ h => h) (by rfl) hHeld ?_ ?_
            rotate_left
            · intro w hSw; (try dsimp only at hSw); (first | (go_simp; done) | (go_simp; with_reducible rfl))
            try simp only [Act.put, List.setIfInBounds_toArray, List.set_cons_zero, List.set_cons_succ]
            refine take_n (i := 16) (some 30) rfl (by rfl) (by kernel_rfl) (by kernel_rfl) (by kernel_rfl) (fun _ _ _ h => h) (by rfl) hHeld ?_
            try simp only [Act.put, List.setIfInBounds_toArray, List.set_cons_zero, List.set_cons_succ]
            refine take_n (i := 17) (some 31) rfl (by rfl) (by kernel_rfl) (by kernel_rfl) (by kernel_rfl) (fun _ _ _ h => h) (by rfl) hHeld ?_
            try simp only [Act.put, List.setIfInBounds_toArray, List.set_cons_zero, List.set_cons_succ]
            refine take_w (i := 18) (some 32) (v := ?_) rfl (by rfl) (by kernel_rfl) (by kernel_rfl) (by kernel_rfl) (fun _ _ _ h => h) (by rfl) hHeld ?_ ?_
            rotate_left
            · intro w hSw; (try dsimp only at hSw); (first | (go_simp; done) | (go_simp; with_reducible rfl))
            try simp only [Act.put, List.setIfInBounds_toArray, List.set_cons_zero, List.set_cons_succ]
            refine take_w (i := 19) (some 33) (v := ?_) rfl (by rfl) (by kernel_rfl) (by kernel_rfl) (by kernel_rfl) (fun _ _ _ h => h) (by rfl) hHeld ?_ ?_
            rotate_left
            · intro w hSw; (try dsimp only at hSw); (first | (go_simp; done) | (go_simp; with_reducible rfl))
            try simp only [Act.put, List.setIfInBounds_toArray, List.set_cons_zero, List.set_cons_succ]
            refine take_w (i := 20) (some 34) (v := ?_) rfl (by rfl) (by kernel_rfl) (by kernel_rfl) (by kernel_rfl) (fun _ _ _ h => h) (by rfl) hHeld ?_ ?_
            rotate_left
            · intro w hSw; (try dsimp only at hSw); (first | (go_simp; done) | (go_simp; with_reducible rfl))
            try simp only [Act.put, List.setIfInBounds_toArray, List.set_cons_zero, List.set_cons_succ]
            refine take_w (i := 21) (some 35) (v := ?_) rfl (by rfl) (by kernel_rfl) (by kernel_rfl) (by kernel_rfl) (fun _ _ _ h => h) (by rfl) hHeld ?_ ?_
            rotate_left
            · intro w hSw; (try dsimp only at hSw); (first | (go_simp; done) | (go_simp; with_reducible rfl))
            try simp only [Act.put, List.setIfInBounds_toArray, List.set_cons_zero, List.set_cons_succ]
            refine take_w (i := 22) (some 36) (v := ?_) rfl (by rfl) (by kernel_rfl) (by kernel_rfl) (by kernel_rfl) (fun _ _ _ h => h) (by rfl) hHeld ?_ ?_
            rotate_left
            · intro w hSw; (try dsimp only at hSw); (first | (go_simp; done) | (go_simp; with_reducible rfl))
            try simp only [Act.put, List.setIfInBounds_toArray, List.set_cons_zero, List.set_cons_succ]
            refine take_w (i := 23) (some 37) (v := ?_) rfl (by rfl) (by kernel_rfl) (by kernel_rfl) (by kernel_rfl) (fun _ _ _ h => h) (by rfl) hHeld ?_ ?_
            rotate_left
            · intro w hSw; (try dsimp only at hSw); (first | (go_simp; done) | (go_simp; with_reducible rfl))
            try simp only [Act.put, List.setIfInBounds_toArray, List.set_cons_zero, List.set_cons_succ]
            refine take_w (i := 24) (some 38) (v := ?_) rfl (by rfl) (by kernel_rfl) (by kernel_rfl) (by kernel_rfl) (fun _ _ _ h => h) (by rfl) hHeld ?_ ?_
            rotate_left
            · intro w hSw; (try dsimp only at hSw); (first | (go_simp; done) | (go_simp; with_reducible rfl))
            try simp only [Act.put, List.setIfInBounds_toArray, List.set_cons_zero, List.set_cons_succ]
            refine take_w (i := 25) (some 39) (v := ?_) rfl (by rfl) (by kernel_rfl) (by kernel_rfl) (by kernel_rfl) (fun _ _ _ h => h) (by rfl) hHeld ?_ ?_
            rotate_left
            · intro w hSw; (try dsimp only at hSw); (first | (go_simp; done) | (go_simp; with_reducible rfl))
            try simp only [Act.put, List.setIfInBounds_toArray, List.set_cons_zero, List.set_cons_succ]
            refine take_w (i := 26) (some 40) (v := ?_) rfl (by rfl) (by kernel_rfl) (by kernel_rfl) (by kernel_rfl) (fun _ _ _ h => h) (by rfl) hHeld ?_ ?_
            rotate_left
            · intro w hSw; (try dsimp only at hSw); (first | (go_simp; done) | (go_simp; with_reducible rfl))
            try simp only [Act.put, List.setIfInBounds_toArray, List.set_cons_zero, List.set_cons_succ]
            refine take_w (i := 27) (some 41) (v := ?_) rfl (by rfl) (by kernel_rfl) (by kernel_rfl) (by kernel_rfl) (fun _ _ _ h => h) (by rfl) hHeld ?_ ?_
            rotate_left
            · intro w hSw; (try dsimp only at hSw); (first | (go_simp; done) | (go_simp; with_reducible rfl))
            try simp only [Act.put, List.setIfInBounds_toArray, List.set_cons_zero, List.set_cons_succ]
            refine take_w (i := 28) (some 42) (v := ?_) rfl (by rfl) (by kernel_rfl) (by kernel_rfl) (by kernel_rfl) (fun _ _ _ h => h) (by rfl) hHeld ?_ ?_
            rotate_left
            · intro w hSw; (try dsimp only at hSw); (first | (go_simp; done) | (go_simp; with_reducible rfl))
            try simp only [Act.put, List.setIfInBounds_toArray, List.set_cons_zero, List.set_cons_succ]
            refine take_w (i := 29) (some 43) (v := ?_) rfl (by rfl) (by kernel_rfl) (by kernel_rfl) (by kernel_rfl) (fun _ _ _ h => h) (by rfl) hHeld ?_ ?_
            rotate_left
            · intro w hSw; (try dsimp only at hSw); (first | (go_simp; done) | (go_simp; with_reducible rfl))
            try simp only [Act.put, List.setIfInBounds_toArray, List.set_cons_zero, List.set_cons_succ]
            refine take_w (i := 30) (some 44) (v := ?_) rfl (by rfl) (by kernel_rfl) (by kernel_rfl) (by kernel_rfl) (fun _ _ _ h => h) (by rfl) hHeld ?_ ?_
            rotate_left
            · intro w hSw; (try dsimp only at hSw); (first | (go_simp; done) | (go_simp; with_reducible rfl))
            try simp only [Act.put, List.setIfInBounds_toArray, List.set_cons_zero, List.set_cons_succ]
            refine wpAnyH_ready (rs := [31]) (by kernel_rfl) (by simp) ?_
            refine AllReadyH.cons rfl (fun K hK => ?_) ?_
            · go_simp
              go_wp2_with ((first | (go_at_call 21; (with_reducible refine (LS.out _ ((by repeat (first | with_reducible exact HB.out | with_reducible apply below_alloc | with_reducible apply below_drewN | with_reducible apply below_drew)))).mono ?_); rintro e w8 ⟨rfl, hb⟩; have HB := Lib.hid (below_step ((by repeat (first | with_reducible exact HB.out | with_reducible apply below_alloc | with_reducible apply below_drewN | with_reducible apply below_drew))) hb); have HK := Lib.hid (Blk.below ((by repeat (first | with_reducible exact HK.out | with_reducible apply Blk.alloc | with_reducible apply Blk.drewN | with_reducible apply Blk.drew | exact HK.out))) hb); have HV := Lib.hid (Blk.below ((by repeat (first | with_reducible exact HV.out | with_reducible apply Blk.alloc | with_reducible apply Blk.drewN | with_reducible apply Blk.drew | exact HV.out))) hb); clear hb) | (go_at_call 12; (with_reducible refine (RS.out _ ((by repeat (first | with_reducible exact HB.out | with_reducible apply below_alloc | with_reducible apply below_drewN | with_reducible apply below_drew)))).mono ?_); rintro e w8 ⟨rfl, hb⟩; have HB := Lib.hid (below_step ((by repeat (first | with_reducible exact HB.out | with_reducible apply below_alloc | with_reducible apply below_drewN | with_reducible apply below_drew))) hb); have HK := Lib.hid (Blk.below ((by repeat (first | with_reducible exact HK.out | with_reducible apply Blk.alloc | with_reducible apply Blk.drewN | with_reducible apply Blk.drew | exact HK.out))) hb); have HV := Lib.hid (Blk.below ((by repeat (first | with_reducible exact HV.out | with_reducible apply Blk.alloc | with_reducible apply Blk.drewN | with_reducible apply Blk.drew | exact HV.out))) hb); clear hb) | (go_at_call 21; (with_reducible refine (LX.out _ ((by repeat (first | with_reducible exact HB.out | with_reducible apply below_alloc | with_reducible apply below_drewN | with_reducible apply below_drew)))).mono ?_); rintro e w8 ⟨rfl, hb⟩; have HB := Lib.hid (below_step ((by repeat (first | with_reducible exact HB.out | with_reducible apply below_alloc | with_reducible apply below_drewN | with_reducible apply below_drew))) hb); have HK := Lib.hid (Blk.below ((by repeat (first | with_reducible exact HK.out | with_reducible apply Blk.alloc | with_reducible apply Blk.drewN | with_reducible apply Blk.drew | exact HK.out))) hb); have HV := Lib.hid (Blk.below ((by repeat (first | with_reducible exact HV.out | with_reducible apply Blk.alloc | with_reducible apply Blk.drewN | with_reducible apply Blk.drew | exact HV.out))) hb); clear hb) | (go_at_call 10; (with_reducible refine (AW.out _ ((by repeat (first | with_reducible exact HB.out | with_reducible apply below_alloc | with_reducible apply below_drewN | with_reducible apply below_drew)))).mono ?_); rintro e w8 ⟨rfl, hb⟩; have HB := Lib.hid (below_step ((by repeat (first | with_reducible exact HB.out | with_reducible apply below_alloc | with_reducible apply below_drewN | with_reducible apply below_drew))) hb); have HK := Lib.hid (Blk.below ((by repeat (first | with_reducible exact HK.out | with_reducible apply Blk.alloc | with_reducible apply Blk.drewN | with_reducible apply Blk.drew | exact HK.out))) hb); have HV := Lib.hid (Blk.below ((by repeat (first | with_reducible exact HV.out | with_reducible apply Blk.alloc | with_reducible apply Blk.drewN | with_reducible apply Blk.drew | exact HV.out))) hb); clear hb)))
              refine hK.out _ _ ?_ (fun hHeld2 => ?_)
              · (try dsimp only); (exact ⟨(cells3 ((by repeat (first | with_reducible exact HK.out | with_reducible apply Blk.alloc | with_reducible apply Blk.drewN | with_reducible apply Blk.drew | exact HK.out)))).1, (cells3 ((by repeat (first | with_reducible exact HV.out | with_reducible apply Blk.alloc | with_reducible apply Blk.drewN | with_reducible apply Blk.drew | exact HV.out)))).1⟩)
              clear hK K hHeld; have hHeld := hHeld2; clear hHeld2
              refine take_w (i := 32) (some 46) (v := ?_) rfl (by rfl) (by kernel_rfl) (by kernel_rfl) (by kernel_rfl) (fun _ _ _ h => h) (by rfl) hHeld ?_ ?_
              rotate_left
              · intro w hSw; (try dsimp only at hSw); (first | (go_simp; done) | (go_simp; with_reducible rfl))
              try simp only [Act.put, List.setIfInBounds_toArray, List.set_cons_zero, List.set_cons_succ]
              refine take_w (i := 33) (some 6) (v := ?_) rfl (by rfl) (by kernel_rfl) (by kernel_rfl) (by kernel_rfl) (fun _ _ _ h => h) (by rfl) hHeld ?_ ?_
              rotate_left
              · intro w hSw; (try dsimp only at hSw); (first | (go_simp; done) | (go_simp; with_reducible rfl))
              try simp only [Act.put, List.setIfInBounds_toArray, List.set_cons_zero, List.set_cons_succ]
              refine wpAnyH_done (by kernel_rfl) ?_ _
              go_wp2
              go_ret
              exact ⟨rfl, (by repeat (first | with_reducible exact HB.out | with_reducible apply below_alloc | with_reducible apply below_drewN | with_reducible apply below_drew))⟩
            all_goals exact AllReadyH.nil
          all_goals exact AllReadyH.nil
        all_goals exact AllReadyH.nil
      all_goals exact AllReadyH.nil
end Go.Proofs.YthmhpjpnlngaoaaDoor.Ct
