import Derived.Test.YtjkmifoeidklkaaQuoA
/-! A budget: Spend, where it is spent. -/
namespace Go.Proofs.Ytjkmifoeidklkaa.Ct
open Go.RowKit
set_option linter.unusedVariables false
set_option linter.unusedSimpArgs false
def mineS : Obj → Bool | .cells _ t _ => t == 46 | _ => false
theorem mineS_s (cs : Array Value) : mineS (.cells cs 46 (0, 0)) = true := rfl
theorem mineS_b (cs : Array Value) : mineS (.cells cs 42 (0, 0)) = false := rfl
theorem mineSP (o : Obj) (h : mineS o = true) : mineP o = true := by
  cases o <;> simp_all [mineS, mineP]
theorem mineP_b (cs : Array Value) : mineP (.cells cs 42 (0, 0)) = true := rfl
theorem mineP_s (cs : Array Value) : mineP (.cells cs 46 (0, 0)) = true := rfl
theorem addS_nil (now n : Int) : addS [] now n = if 0 < n then [(n, now)] else [] := by unfold addS; simp
set_option maxHeartbeats 4000000 in
theorem spend_yes (base b : Nat) (W m now used n : Int) (L : List (Int × Int)) (w : World) (h : PB base w b W m now used L) (hW : 1 ≤ W) (hu : 0 ≤ used) (hm : used ≤ m) (hm2 : m ≤ 1048576) (h0 : 0 ≤ n) (h1 : n ≤ m - used) (hL : L.length ≤ 1000)
    (hnow : I64 now) (hb : base ≤ w.heap.size) (hmax : L ≠ [] → 0 ≤ (L.getD (L.length - 1) (0, 0)).1 ∧ (L.getD (L.length - 1) (0, 0)).1 ≤ 1048576) :
    Calls Try.prog 8 #[.pointer (some ⟨b, 0, none⟩), .int .i64 n] w fun e w' => e = .returned (.bool true) ∧ PB base w' b W m now (used + n) (addS L now n) ∧ Fr base mineP w w' := by
  have HH := Lib.hid h
  obtain ⟨sv, c0, c1, c2, c3, c4, cf, hbk, hsl⟩ := h.cells
  have RC := Lib.hid (fun k => real_calls b W (w.drewN k) c0 hW)
  have hd : decide (n < 0) = false := decide_eq_false (by omega)
  have hwr : IntKind.i64.wrap (m - used) = m - used := i64_wrap (by unfold I64; omega)
  have hd2 : decide (m - used < n) = false := decide_eq_false (by omega)
  have HBK := Lib.hid hbk; have HSL := Lib.hid hsl
  have f3 := cf 3
  clear h hbk hsl cf
  go_enter Try.func8, Try.ntmps8
  go_wp2
  go_quiet ((go_at_call 17; with_reducible exact Calls.quiet_of_same ((RC.out _).mono fun e w' ⟨h1, h2⟩ => ⟨h1, h2.symm⟩)))
  go_upto_region 4 with fail
  have HB1 : Hid (Blk ((w.drewN nq).setCell ⟨b, 3, none⟩ (.int .i64 (used + n))) b 42 #[.int .i64 W, .int .i64 m, .int .i64 now, .int .i64 (used + n), sv]) := Lib.hid ((HBK.out.drewN nq).set_ 3 _)
  have HS1 : Hid (SL base ((w.drewN nq).setCell ⟨b, 3, none⟩ (.int .i64 (used + n))) 46 2 sv L.length (flat L)) := Lib.hid ((HSL.out.drewN nq).far (HBK.out.drewN nq) (by decide) 3 _)
  have HF1 : Hid (Fr base mineP w ((w.drewN nq).setCell ⟨b, 3, none⟩ (.int .i64 (used + n)))) := Lib.hid (((Fr.refl base mineP w).drewN nq).set_ (HBK.out.drewN nq) (mineP_b _) HH.out.1 3 _)
  have HBS := Lib.hid (Nat.le_trans hb HF1.out.size)
  clear HSL RC c0 c1 c2 c3 c4 f3 HBK
  generalize (w.drewN nq).setCell ⟨b, 3, none⟩ (.int .i64 (used + n)) = w1 at *
  have d2 : w1.cell? ⟨b, 2, none⟩ = some (.int .i64 now) := HB1.out.cell 2
  have d4 : w1.cell? ⟨b, 4, none⟩ = some sv := HB1.out.cell 4
  have f4 := HB1.out.frozen 4
  have hbl : b < w1.heap.size := HB1.out.lt
  by_cases hL0 : L = []
  · subst hL0
    obtain ⟨a, cap, hsv, -, -⟩ := HS1.out.form
    subst hsv
    simp only [List.length_nil] at d4
    by_cases hn : 0 < n
    · have e : addS [] now n = [] ++ [(n, now)] := by rw [addS_nil, if_pos hn]; rfl
      have E := Lib.hid e; clear e
      go_wp2
      go_quiet (fail)
      go_wp2
      have al2 := fun (k : Nat) (o : Obj) => show ((w1.drewN k).alloc o).cell? ⟨b, 2, none⟩ = some (.int .i64 now) from ((HB1.out.drewN k).alloc o).cell 2
      have al4 := fun (k : Nat) (o : Obj) => show ((w1.drewN k).alloc o).cell? ⟨b, 4, none⟩ = some (.slice a 0 cap) from ((HB1.out.drewN k).alloc o).cell 4
      go_region_law
        ((refine step_appSL (mine := mineS) (base := base) 40 (.agg #[.int .i64 0, .int .i64 0]) 16 Try.underlying40 infoS rfl (by decide) mineS_s rfl (.tmp 76) (.tmp 83) (by rfl) (by rfl) (by repeat (first | with_reducible apply SL.alloc | with_reducible apply SL.drewN | with_reducible apply SL.drew | exact HS1.out)) _ 1 (by rfl) _ (by rfl) ⟨_, _, heap_alloc_new _ _⟩ (by simp [Value.oneCell']) (by omega) (by decide) (by have := HBS.out; simp; omega) ?_; intro v3 w3 hs3 hf3; obtain ⟨a3, cap3, hv3, -, -⟩ := hs3.form; subst hv3; have HS3 := Lib.hid hs3; have HB3 := Lib.hid (Blk.fr (cs := #[.int .i64 W, .int .i64 m, .int .i64 now, .int .i64 (used + n), .slice a 0 cap]) (by repeat (first | with_reducible apply Blk.alloc | with_reducible apply Blk.drewN | with_reducible apply Blk.drew | exact HB1.out)) hf3 (mineS_b _)); have HF3 := Lib.hid (Fr.trans (by repeat (first | with_reducible apply Fr.alloc | with_reducible apply Fr.drewN | with_reducible apply Fr.drew | exact HF1.out)) (hf3.mono mineSP)); have f43 := HB3.out.frozen 4; have d43 : w3.cell? ⟨b, 4, none⟩ = some (.slice a 0 cap) := HB3.out.cell 4; clear hs3 hf3))
      all_goals go_wp2
      all_goals go_ret
      all_goals exact ⟨rfl, by rw [E.out]; exact ⟨HH.out.1, _, HB3.out.set_ 4 _, by rw [flat_append, List.length_append, List.length_nil]; exact HS3.out.far HB3.out (by decide) 4 _⟩, HF3.out.set_ HB3.out (mineP_b _) HH.out.1 4 _⟩
    · obtain rfl : n = 0 := by omega
      have E := Lib.hid (show addS [] now 0 = [] by rw [addS_nil, if_neg (by omega)])
      go_wp2
      go_quiet (fail)
      go_wp2
      go_ret
      exact ⟨rfl, by rw [E.out]; exact ⟨HH.out.1, _, HB1.out.drewN _, HS1.out.drewN _⟩, HF1.out.drewN _⟩
  · obtain ⟨q, hq⟩ : ∃ q, L.length = q + 1 := ⟨L.length - 1, by have : L.length ≠ 0 := fun e => hL0 (List.eq_nil_of_length_eq_zero e); omega⟩
    have hz := hmax hL0
    have eadd : addS L now n = if (L.getD q (0, 0)).2 = now then L.set q ((L.getD q (0, 0)).1 + n, (L.getD q (0, 0)).2) else if 0 < n then L ++ [(n, now)] else L := by
      unfold addS; rw [hq, show q + 1 - 1 = q from rfl]
      by_cases e : (L.getD q (0, 0)).2 = now
      · rw [if_pos e, if_pos ⟨hL0, e⟩]
      · rw [if_neg e, if_neg (fun h => e h.2)]
    have fg := flat_get L q (by omega)
    have fs := fun n => flat_set L q n (by omega)
    rw [hq, show q + 1 - 1 = q from rfl] at hz
    obtain ⟨g, off, cap, cs, hsv, hgb, hgk, hcap, hcm, hcell⟩ := HS1.out.at_ (by omega)
    have k0 := hcell (q * 2) (by omega)
    have k1 := hcell (q * 2 + 1) (by omega)
    rw [fg.1] at k0
    rw [fg.2] at k1
    rw [hq] at HS1 hsv hL hcap
    have HQ := Lib.hid hq
    have HEA := Lib.hid eadd; have HFS := Lib.hid fs
    have HGK := Lib.hid hgk
    have fgz := hgk.frozen (off + q * 2)
    have e0 : w1.cell? ⟨g, off + q * 2, none⟩ = some (.int .i64 (L.getD q (0, 0)).1) := (hgk.cell _).trans k0
    have e1 : w1.cell? ⟨g, off + q * 2 + 1, none⟩ = some (.int .i64 (L.getD q (0, 0)).2) := (hgk.cell _).trans k1
    have HNE := Lib.hid (hgk.ne_ HB1.out (by decide))
    clear hmax hcell fg k0 k1 hgk eadd fs hq hL0
    subst hsv
    obtain ⟨hz0, hz1⟩ := hz
    generalize (L.getD q (0, 0)).1 = z at *
    generalize (L.getD q (0, 0)).2 = y at *
    have hqi : (0 : Int) ≤ (q : Int) := by omega
    have hsub : (q : Int) + 1 - 1 = (q : Int) := by omega
    have hsubw : IntKind.i64.wrap ((q : Int) + 1 - 1) = (q : Int) := by rw [hsub]; exact i64_wrap (by unfold I64; omega)
    have hlt : (q : Int) < (q : Int) + 1 := by omega
    have hpos : decide ((0 : Int) < (q : Int) + 1) = true := decide_eq_true (by omega)
    have hposi : (0 : Int) < (q : Int) + 1 := by omega
    clear hsub
    by_cases hy : y = now
    · have E : Hid (addS L now n = L.set q (z + n, y)) := Lib.hid (by rw [HEA.out, if_pos hy])
      subst hy
      go_wp2
      go_quiet (fail)
      go_wp2
      go_ret
      exact ⟨rfl, by
        rw [E.out]
        refine ⟨HH.out.1, _, (HB1.out.drewN _).far (p := ⟨g, off + q * 2, none⟩) (Ne.symm HNE.out) _, ?_⟩
        have := HS1.out.set_ (q * 2) (by omega) (.int .i64 (z + n))
        rw [HFS.out] at this
        rw [List.length_set, HQ.out]
        exact this.drewN _, (Fr.drewN HF1.out _).set_ (HGK.out.drewN _) (mineP_s _) hgb (off + q * 2) _⟩
    · have hyb : (y == now) = false := beq_eq_false_iff_ne.2 hy
      have HQ2 := HQ.out
      clear HFS e0 fgz hgb
      by_cases hn : 0 < n
      · have E : Hid (addS L now n = L ++ [(n, now)]) := Lib.hid (by rw [HEA.out, if_neg hy, if_pos hn])
        clear HQ2
        go_wp2
        go_quiet (fail)
        go_wp2
        have al2 := fun (k : Nat) (o : Obj) => show ((w1.drewN k).alloc o).cell? ⟨b, 2, none⟩ = some (.int .i64 now) from ((HB1.out.drewN k).alloc o).cell 2
        have al4 := fun (k : Nat) (o : Obj) => show ((w1.drewN k).alloc o).cell? ⟨b, 4, none⟩ = some (.slice (some ⟨g, off, none⟩) (q + 1) cap) from ((HB1.out.drewN k).alloc o).cell 4
        go_region_law
          ((refine step_appSL (mine := mineS) (base := base) 40 (.agg #[.int .i64 0, .int .i64 0]) 16 Try.underlying40 infoS rfl (by decide) mineS_s rfl (.tmp 76) (.tmp 83) (by rfl) (by rfl) (by repeat (first | with_reducible apply SL.alloc | with_reducible apply SL.drewN | with_reducible apply SL.drew | exact HS1.out)) _ 1 (by rfl) _ (by rfl) ⟨_, _, heap_alloc_new _ _⟩ (by simp [Value.oneCell']) (by omega) (by decide) (by have := HBS.out; simp; omega) ?_; intro v3 w3 hs3 hf3; obtain ⟨a3, cap3, hv3, -, -⟩ := hs3.form; subst hv3; have HS3 := Lib.hid hs3; have HB3 := Lib.hid (Blk.fr (cs := #[.int .i64 W, .int .i64 m, .int .i64 now, .int .i64 (used + n), .slice (some ⟨g, off, none⟩) (q + 1) cap]) (by repeat (first | with_reducible apply Blk.alloc | with_reducible apply Blk.drewN | with_reducible apply Blk.drew | exact HB1.out)) hf3 (mineS_b _)); have HF3 := Lib.hid (Fr.trans (by repeat (first | with_reducible apply Fr.alloc | with_reducible apply Fr.drewN | with_reducible apply Fr.drew | exact HF1.out)) (hf3.mono mineSP)); have f43 := HB3.out.frozen 4; have d43 : w3.cell? ⟨b, 4, none⟩ = some (.slice (some ⟨g, off, none⟩) (q + 1) cap) := HB3.out.cell 4; clear hs3 hf3))
        all_goals go_wp2
        all_goals go_ret
        all_goals exact ⟨rfl, by rw [E.out]; exact ⟨HH.out.1, _, HB3.out.set_ 4 _, by rw [flat_append, List.length_append, HQ.out]; exact HS3.out.far HB3.out (by decide) 4 _⟩, HF3.out.set_ HB3.out (mineP_b _) HH.out.1 4 _⟩
      · obtain rfl : n = 0 := by omega
        have E : Hid (addS L now 0 = L) := Lib.hid (by rw [HEA.out, if_neg hy, if_neg hn])
        clear HQ2
        go_wp2
        go_quiet (fail)
        go_wp2
        go_ret
        exact ⟨rfl, by rw [E.out]; exact ⟨HH.out.1, _, HB1.out.drewN _, by rw [HQ.out]; exact HS1.out.drewN _⟩, HF1.out.drewN _⟩
end Go.Proofs.Ytjkmifoeidklkaa.Ct
