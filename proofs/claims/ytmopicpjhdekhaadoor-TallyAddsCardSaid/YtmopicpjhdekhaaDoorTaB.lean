import Derived.Test.YtmopicpjhdekhaaDoorTaA
import Derived.Defers
import Derived.Recover
import Derived.Laws.Pointers
import Derived.WalkLawsBesides
/-! tally: a word's number; what is given up. -/
namespace Go.Proofs.YtmopicpjhdekhaaDoor.Ct
open Go.RowKit
set_option linter.unusedVariables false
set_option linter.unusedSimpArgs false
/-- what a line that is none is given up with. -/
def wrongE : PanicEntry := { v := .iface 43 (.agg #[]), recovered := false }
theorem number_ok (s : ByteArray) (w : World) (hs : s.size ≤ 9223372036854775807) (h : (parseS (bs s)).2 = true) :
    Calls Tryd.prog 24 #[.string s] w fun e w' => e = .returned (.int .i64 (parseS (bs s)).1) ∧ Below w.heap.size w w' := by
  have PC := Lib.hid (parse_calls s w hs)
  rw [h] at PC
  generalize (parseS (bs s)).1 = v at *
  clear h
  go_enter Tryd.func24, Tryd.ntmps24
  go_wp2_with (go_at_call 43; (with_reducible refine (PC.out).mono ?_); rintro e w1 ⟨rfl, hb⟩; have HB := Lib.hid hb; clear hb)
  go_ret
  exact ⟨rfl, HB.out⟩
theorem number_bad (s : ByteArray) (w : World) (hs : s.size ≤ 9223372036854775807) (h : (parseS (bs s)).2 = false) :
    Calls Tryd.prog 24 #[.string s] w fun e w' => e = .panicked [wrongE] ∧ Below w.heap.size w w' := by
  have PC := Lib.hid (parse_calls s w hs)
  rw [h] at PC
  generalize (parseS (bs s)).1 = v at *
  clear h
  go_enter Tryd.func24, Tryd.ntmps24
  go_wp2_with (go_at_call 43; (with_reducible refine (PC.out).mono ?_); rintro e w1 ⟨rfl, hb⟩; have HB := Lib.hid hb; clear hb)
  exact ⟨rfl, rfl, HB.out⟩
/-- a tally's cells. -/
def tlC (f : Nat → Int) : Array Value := #[.int .i64 (f 0), .int .i64 (f 1), .int .i64 (f 2), .int .i64 (f 3), .int .i64 (f 4), .int .i64 (f 5), .int .i64 (f 6), .int .i64 (f 7), .int .i64 (f 8), .int .i64 (f 9), .int .i64 (f 10), .int .i64 (f 11), .int .i64 (f 12), .int .i64 (f 13)]
theorem results_c {P : Program} {fn : Func} {p : Tmp} {ty : TypeId} (h : fn.results = #[.cell p ty]) (tmps : Array Value) (w : World) (g : Nat) (t : TypeId) (cs : Array Value) (fr : Nat × Nat) (d : TypeDesc)
    (hp : tmps.getD p undef = .pointer (some ⟨g, 0, none⟩)) (hg : w.heap[g]? = some (.cells cs t fr))
    (hu : P.underlying ty = some d) (hd : (match d with | .struct _ | .array _ _ => true | _ => false) = true) (hi : (P.info? ty).map (·.size) = some cs.size) :
    (results fn tmps).run P w = .ok (.agg cs) w := by
  have hp' : tmps[p]?.getD undef = .pointer (some ⟨g, 0, none⟩) := by simpa using hp
  simp [results, h, hp', asAddr, run_loadVar_row w g t ty cs fr d hg hu hd hi]
theorem agg_two (w : World) (cs : Array Value) (t1 t2 : TypeId) : Blk ((w.alloc (.cells cs t1)).alloc (.cells cs t2)) (w.heap.size + 1) t2 cs ∧ Below w.heap.size w ((w.alloc (.cells cs t1)).alloc (.cells cs t2)) :=
  ⟨blk_at (by simp), below_alloc (below_alloc (Below.refl _ _) _) _⟩
set_option maxHeartbeats 4000000 in
theorem rtally_calls (a0 a1 a2 a3 a4 a5 a6 a7 a8 a9 a10 a11 a12 a13 : Int) (w : World) : Calls Tryd.prog 25 #[.agg #[.int .i64 a0, .int .i64 a1, .int .i64 a2, .int .i64 a3, .int .i64 a4, .int .i64 a5, .int .i64 a6, .int .i64 a7, .int .i64 a8, .int .i64 a9, .int .i64 a10, .int .i64 a11, .int .i64 a12, .int .i64 a13]] w fun e w' => e = .returned (.agg #[.int .i64 a0, .int .i64 a1, .int .i64 a2, .int .i64 a3, .int .i64 a4, .int .i64 a5, .int .i64 a6, .int .i64 a7, .int .i64 a8, .int .i64 a9, .int .i64 a10, .int .i64 a11, .int .i64 a12, .int .i64 a13]) ∧ Below w.heap.size w w' := by
  have K := Lib.hid (agg_two w #[.int .i64 a0, .int .i64 a1, .int .i64 a2, .int .i64 a3, .int .i64 a4, .int .i64 a5, .int .i64 a6, .int .i64 a7, .int .i64 a8, .int .i64 a9, .int .i64 a10, .int .i64 a11, .int .i64 a12, .int .i64 a13] 48 23)
  go_enter Tryd.func25, Tryd.ntmps25
  go_wp2
  refine bodyPost_ret (results_c rfl _ _ (w.heap.size + 1) _ _ _ _ rfl K.out.1 Tryd.underlying23 rfl (by kernel_rfl)) rfl ?_
  exact ⟨rfl, K.out.2⟩
set_option maxHeartbeats 4000000 in
theorem of_calls (a0 a1 a2 a3 a4 a5 a6 a7 a8 a9 a10 a11 a12 a13 : Int) (w : World) : Calls Tryd.prog 26 #[.agg #[.int .i64 a0, .int .i64 a1, .int .i64 a2, .int .i64 a3, .int .i64 a4, .int .i64 a5, .int .i64 a6, .int .i64 a7, .int .i64 a8, .int .i64 a9, .int .i64 a10, .int .i64 a11, .int .i64 a12, .int .i64 a13]] w fun e w' => e = .returned (.agg #[.int .i64 a0, .int .i64 a1, .int .i64 a2, .int .i64 a3, .int .i64 a4, .int .i64 a5, .int .i64 a6, .int .i64 a7, .int .i64 a8, .int .i64 a9, .int .i64 a10, .int .i64 a11, .int .i64 a12, .int .i64 a13]) ∧ Below w.heap.size w w' := by
  have K := Lib.hid (agg_two w #[.int .i64 a0, .int .i64 a1, .int .i64 a2, .int .i64 a3, .int .i64 a4, .int .i64 a5, .int .i64 a6, .int .i64 a7, .int .i64 a8, .int .i64 a9, .int .i64 a10, .int .i64 a11, .int .i64 a12, .int .i64 a13] 23 48)
  go_enter Tryd.func26, Tryd.ntmps26
  go_wp2
  refine bodyPost_ret (results_c rfl _ _ (w.heap.size + 1) _ _ _ _ rfl K.out.1 Tryd.underlying48 rfl (by kernel_rfl)) rfl ?_
  exact ⟨rfl, K.out.2⟩
/-- fourteen cells that are written all. -/
def zero14 : Array Value := #[.int .i64 0, .int .i64 0, .int .i64 0, .int .i64 0, .int .i64 0, .int .i64 0, .int .i64 0, .int .i64 0, .int .i64 0, .int .i64 0, .int .i64 0, .int .i64 0, .int .i64 0, .int .i64 0]
theorem Blk.z14 {w : World} {g : Nat} {t : TypeId} {v0 v1 v2 v3 v4 v5 v6 v7 v8 v9 v10 v11 v12 v13 : Value} (h : Blk w g t #[v0, v1, v2, v3, v4, v5, v6, v7, v8, v9, v10, v11, v12, v13]) : Blk ((((((((((((((w.setCell ⟨g, 0, none⟩ (.int .i64 0)).setCell ⟨g, 1, none⟩ (.int .i64 0)).setCell ⟨g, 2, none⟩ (.int .i64 0)).setCell ⟨g, 3, none⟩ (.int .i64 0)).setCell ⟨g, 4, none⟩ (.int .i64 0)).setCell ⟨g, 5, none⟩ (.int .i64 0)).setCell ⟨g, 6, none⟩ (.int .i64 0)).setCell ⟨g, 7, none⟩ (.int .i64 0)).setCell ⟨g, 8, none⟩ (.int .i64 0)).setCell ⟨g, 9, none⟩ (.int .i64 0)).setCell ⟨g, 10, none⟩ (.int .i64 0)).setCell ⟨g, 11, none⟩ (.int .i64 0)).setCell ⟨g, 12, none⟩ (.int .i64 0)).setCell ⟨g, 13, none⟩ (.int .i64 0)) g t zero14 := by
  have h0 : Blk (w.setCell ⟨g, 0, none⟩ (.int .i64 0)) g t #[.int .i64 0, v1, v2, v3, v4, v5, v6, v7, v8, v9, v10, v11, v12, v13] := h.set_ 0 (.int .i64 0)
  have h1 : Blk ((w.setCell ⟨g, 0, none⟩ (.int .i64 0)).setCell ⟨g, 1, none⟩ (.int .i64 0)) g t #[.int .i64 0, .int .i64 0, v2, v3, v4, v5, v6, v7, v8, v9, v10, v11, v12, v13] := h0.set_ 1 (.int .i64 0)
  have h2 : Blk (((w.setCell ⟨g, 0, none⟩ (.int .i64 0)).setCell ⟨g, 1, none⟩ (.int .i64 0)).setCell ⟨g, 2, none⟩ (.int .i64 0)) g t #[.int .i64 0, .int .i64 0, .int .i64 0, v3, v4, v5, v6, v7, v8, v9, v10, v11, v12, v13] := h1.set_ 2 (.int .i64 0)
  have h3 : Blk ((((w.setCell ⟨g, 0, none⟩ (.int .i64 0)).setCell ⟨g, 1, none⟩ (.int .i64 0)).setCell ⟨g, 2, none⟩ (.int .i64 0)).setCell ⟨g, 3, none⟩ (.int .i64 0)) g t #[.int .i64 0, .int .i64 0, .int .i64 0, .int .i64 0, v4, v5, v6, v7, v8, v9, v10, v11, v12, v13] := h2.set_ 3 (.int .i64 0)
  have h4 : Blk (((((w.setCell ⟨g, 0, none⟩ (.int .i64 0)).setCell ⟨g, 1, none⟩ (.int .i64 0)).setCell ⟨g, 2, none⟩ (.int .i64 0)).setCell ⟨g, 3, none⟩ (.int .i64 0)).setCell ⟨g, 4, none⟩ (.int .i64 0)) g t #[.int .i64 0, .int .i64 0, .int .i64 0, .int .i64 0, .int .i64 0, v5, v6, v7, v8, v9, v10, v11, v12, v13] := h3.set_ 4 (.int .i64 0)
  have h5 : Blk ((((((w.setCell ⟨g, 0, none⟩ (.int .i64 0)).setCell ⟨g, 1, none⟩ (.int .i64 0)).setCell ⟨g, 2, none⟩ (.int .i64 0)).setCell ⟨g, 3, none⟩ (.int .i64 0)).setCell ⟨g, 4, none⟩ (.int .i64 0)).setCell ⟨g, 5, none⟩ (.int .i64 0)) g t #[.int .i64 0, .int .i64 0, .int .i64 0, .int .i64 0, .int .i64 0, .int .i64 0, v6, v7, v8, v9, v10, v11, v12, v13] := h4.set_ 5 (.int .i64 0)
  have h6 : Blk (((((((w.setCell ⟨g, 0, none⟩ (.int .i64 0)).setCell ⟨g, 1, none⟩ (.int .i64 0)).setCell ⟨g, 2, none⟩ (.int .i64 0)).setCell ⟨g, 3, none⟩ (.int .i64 0)).setCell ⟨g, 4, none⟩ (.int .i64 0)).setCell ⟨g, 5, none⟩ (.int .i64 0)).setCell ⟨g, 6, none⟩ (.int .i64 0)) g t #[.int .i64 0, .int .i64 0, .int .i64 0, .int .i64 0, .int .i64 0, .int .i64 0, .int .i64 0, v7, v8, v9, v10, v11, v12, v13] := h5.set_ 6 (.int .i64 0)
  have h7 : Blk ((((((((w.setCell ⟨g, 0, none⟩ (.int .i64 0)).setCell ⟨g, 1, none⟩ (.int .i64 0)).setCell ⟨g, 2, none⟩ (.int .i64 0)).setCell ⟨g, 3, none⟩ (.int .i64 0)).setCell ⟨g, 4, none⟩ (.int .i64 0)).setCell ⟨g, 5, none⟩ (.int .i64 0)).setCell ⟨g, 6, none⟩ (.int .i64 0)).setCell ⟨g, 7, none⟩ (.int .i64 0)) g t #[.int .i64 0, .int .i64 0, .int .i64 0, .int .i64 0, .int .i64 0, .int .i64 0, .int .i64 0, .int .i64 0, v8, v9, v10, v11, v12, v13] := h6.set_ 7 (.int .i64 0)
  have h8 : Blk (((((((((w.setCell ⟨g, 0, none⟩ (.int .i64 0)).setCell ⟨g, 1, none⟩ (.int .i64 0)).setCell ⟨g, 2, none⟩ (.int .i64 0)).setCell ⟨g, 3, none⟩ (.int .i64 0)).setCell ⟨g, 4, none⟩ (.int .i64 0)).setCell ⟨g, 5, none⟩ (.int .i64 0)).setCell ⟨g, 6, none⟩ (.int .i64 0)).setCell ⟨g, 7, none⟩ (.int .i64 0)).setCell ⟨g, 8, none⟩ (.int .i64 0)) g t #[.int .i64 0, .int .i64 0, .int .i64 0, .int .i64 0, .int .i64 0, .int .i64 0, .int .i64 0, .int .i64 0, .int .i64 0, v9, v10, v11, v12, v13] := h7.set_ 8 (.int .i64 0)
  have h9 : Blk ((((((((((w.setCell ⟨g, 0, none⟩ (.int .i64 0)).setCell ⟨g, 1, none⟩ (.int .i64 0)).setCell ⟨g, 2, none⟩ (.int .i64 0)).setCell ⟨g, 3, none⟩ (.int .i64 0)).setCell ⟨g, 4, none⟩ (.int .i64 0)).setCell ⟨g, 5, none⟩ (.int .i64 0)).setCell ⟨g, 6, none⟩ (.int .i64 0)).setCell ⟨g, 7, none⟩ (.int .i64 0)).setCell ⟨g, 8, none⟩ (.int .i64 0)).setCell ⟨g, 9, none⟩ (.int .i64 0)) g t #[.int .i64 0, .int .i64 0, .int .i64 0, .int .i64 0, .int .i64 0, .int .i64 0, .int .i64 0, .int .i64 0, .int .i64 0, .int .i64 0, v10, v11, v12, v13] := h8.set_ 9 (.int .i64 0)
  have h10 : Blk (((((((((((w.setCell ⟨g, 0, none⟩ (.int .i64 0)).setCell ⟨g, 1, none⟩ (.int .i64 0)).setCell ⟨g, 2, none⟩ (.int .i64 0)).setCell ⟨g, 3, none⟩ (.int .i64 0)).setCell ⟨g, 4, none⟩ (.int .i64 0)).setCell ⟨g, 5, none⟩ (.int .i64 0)).setCell ⟨g, 6, none⟩ (.int .i64 0)).setCell ⟨g, 7, none⟩ (.int .i64 0)).setCell ⟨g, 8, none⟩ (.int .i64 0)).setCell ⟨g, 9, none⟩ (.int .i64 0)).setCell ⟨g, 10, none⟩ (.int .i64 0)) g t #[.int .i64 0, .int .i64 0, .int .i64 0, .int .i64 0, .int .i64 0, .int .i64 0, .int .i64 0, .int .i64 0, .int .i64 0, .int .i64 0, .int .i64 0, v11, v12, v13] := h9.set_ 10 (.int .i64 0)
  have h11 : Blk ((((((((((((w.setCell ⟨g, 0, none⟩ (.int .i64 0)).setCell ⟨g, 1, none⟩ (.int .i64 0)).setCell ⟨g, 2, none⟩ (.int .i64 0)).setCell ⟨g, 3, none⟩ (.int .i64 0)).setCell ⟨g, 4, none⟩ (.int .i64 0)).setCell ⟨g, 5, none⟩ (.int .i64 0)).setCell ⟨g, 6, none⟩ (.int .i64 0)).setCell ⟨g, 7, none⟩ (.int .i64 0)).setCell ⟨g, 8, none⟩ (.int .i64 0)).setCell ⟨g, 9, none⟩ (.int .i64 0)).setCell ⟨g, 10, none⟩ (.int .i64 0)).setCell ⟨g, 11, none⟩ (.int .i64 0)) g t #[.int .i64 0, .int .i64 0, .int .i64 0, .int .i64 0, .int .i64 0, .int .i64 0, .int .i64 0, .int .i64 0, .int .i64 0, .int .i64 0, .int .i64 0, .int .i64 0, v12, v13] := h10.set_ 11 (.int .i64 0)
  have h12 : Blk (((((((((((((w.setCell ⟨g, 0, none⟩ (.int .i64 0)).setCell ⟨g, 1, none⟩ (.int .i64 0)).setCell ⟨g, 2, none⟩ (.int .i64 0)).setCell ⟨g, 3, none⟩ (.int .i64 0)).setCell ⟨g, 4, none⟩ (.int .i64 0)).setCell ⟨g, 5, none⟩ (.int .i64 0)).setCell ⟨g, 6, none⟩ (.int .i64 0)).setCell ⟨g, 7, none⟩ (.int .i64 0)).setCell ⟨g, 8, none⟩ (.int .i64 0)).setCell ⟨g, 9, none⟩ (.int .i64 0)).setCell ⟨g, 10, none⟩ (.int .i64 0)).setCell ⟨g, 11, none⟩ (.int .i64 0)).setCell ⟨g, 12, none⟩ (.int .i64 0)) g t #[.int .i64 0, .int .i64 0, .int .i64 0, .int .i64 0, .int .i64 0, .int .i64 0, .int .i64 0, .int .i64 0, .int .i64 0, .int .i64 0, .int .i64 0, .int .i64 0, .int .i64 0, v13] := h11.set_ 12 (.int .i64 0)
  have h13 : Blk ((((((((((((((w.setCell ⟨g, 0, none⟩ (.int .i64 0)).setCell ⟨g, 1, none⟩ (.int .i64 0)).setCell ⟨g, 2, none⟩ (.int .i64 0)).setCell ⟨g, 3, none⟩ (.int .i64 0)).setCell ⟨g, 4, none⟩ (.int .i64 0)).setCell ⟨g, 5, none⟩ (.int .i64 0)).setCell ⟨g, 6, none⟩ (.int .i64 0)).setCell ⟨g, 7, none⟩ (.int .i64 0)).setCell ⟨g, 8, none⟩ (.int .i64 0)).setCell ⟨g, 9, none⟩ (.int .i64 0)).setCell ⟨g, 10, none⟩ (.int .i64 0)).setCell ⟨g, 11, none⟩ (.int .i64 0)).setCell ⟨g, 12, none⟩ (.int .i64 0)).setCell ⟨g, 13, none⟩ (.int .i64 0)) g t #[.int .i64 0, .int .i64 0, .int .i64 0, .int .i64 0, .int .i64 0, .int .i64 0, .int .i64 0, .int .i64 0, .int .i64 0, .int .i64 0, .int .i64 0, .int .i64 0, .int .i64 0, .int .i64 0] := h12.set_ 13 (.int .i64 0)
  exact h13
set_option maxHeartbeats 2000000 in
theorem catch_panicking (a b : Nat) (a0 a1 a2 a3 a4 a5 a6 a7 a8 a9 a10 a11 a12 a13 : Int) (e0 : Int) (w : World) (ha : Blk w a 23 #[.int .i64 a0, .int .i64 a1, .int .i64 a2, .int .i64 a3, .int .i64 a4, .int .i64 a5, .int .i64 a6, .int .i64 a7, .int .i64 a8, .int .i64 a9, .int .i64 a10, .int .i64 a11, .int .i64 a12, .int .i64 a13]) (hb : Blk w b 24 #[.int .i64 e0]) (hab : a ≠ b) (B : Nat) (hBa : B ≤ a) (hBb : B ≤ b) (hBw : B ≤ w.heap.size) :
    CallsD Tryd.prog 22 #[.pointer (some ⟨a, 0, none⟩), .pointer (some ⟨b, 0, none⟩)] (.panicking [wrongE]) w fun e u' w' =>
      e = .returned (.tuple #[]) ∧ u' = .panicking [{ v := .iface 43 (.agg #[]), recovered := true }] ∧ Blk w' a 23 zero14 ∧ Blk w' b 24 #[.int .i64 31] ∧ Below B w w' := by
  refine callsD_of_wpS Tryd.func22 rfl fun c₀ cs hu => ?_
  apply wpS_seq
  apply wpS_region
  simp [wpOpsS, go_sem, recoverD, hu, Tryd.ntmps22, Exit.thenS, wrongE]
  have ta : ∀ w, (Instr.typeAssert (.iface 43 (.agg #[])) 20 43 true).run Tryd.prog w = .ok (.tuple #[.agg #[], .bool true]) w := fun _ => by kernel_rfl
  have HA := Lib.hid (ha.alloc (.cells #[] 43))
  have HBB := Lib.hid (hb.alloc (.cells #[] 43))
  have e00 := HA.out.cell 0
  have z0 := HA.out.frozen 0
  have e1 := HA.out.cell 1
  have z1 := HA.out.frozen 1
  have e2 := HA.out.cell 2
  have z2 := HA.out.frozen 2
  have e3 := HA.out.cell 3
  have z3 := HA.out.frozen 3
  have e4 := HA.out.cell 4
  have z4 := HA.out.frozen 4
  have e5 := HA.out.cell 5
  have z5 := HA.out.frozen 5
  have e6 := HA.out.cell 6
  have z6 := HA.out.frozen 6
  have e7 := HA.out.cell 7
  have z7 := HA.out.frozen 7
  have e8 := HA.out.cell 8
  have z8 := HA.out.frozen 8
  have e9 := HA.out.cell 9
  have z9 := HA.out.frozen 9
  have e10 := HA.out.cell 10
  have z10 := HA.out.frozen 10
  have e11 := HA.out.cell 11
  have z11 := HA.out.frozen 11
  have e12 := HA.out.cell 12
  have z12 := HA.out.frozen 12
  have e13 := HA.out.cell 13
  have z13 := HA.out.frozen 13
  have b0 := HBB.out.cell 0
  have y0 := HBB.out.frozen 0
  have HN := Lib.hid (hab)
  have HA2 := Lib.hid HA.out.z14
  have HB2 := Lib.hid ((((((((((((((HBB.out.far (p := ⟨a, 0, none⟩) (fun e => hab e.symm) (.int .i64 0)).far (p := ⟨a, 1, none⟩) (fun e => hab e.symm) (.int .i64 0)).far (p := ⟨a, 2, none⟩) (fun e => hab e.symm) (.int .i64 0)).far (p := ⟨a, 3, none⟩) (fun e => hab e.symm) (.int .i64 0)).far (p := ⟨a, 4, none⟩) (fun e => hab e.symm) (.int .i64 0)).far (p := ⟨a, 5, none⟩) (fun e => hab e.symm) (.int .i64 0)).far (p := ⟨a, 6, none⟩) (fun e => hab e.symm) (.int .i64 0)).far (p := ⟨a, 7, none⟩) (fun e => hab e.symm) (.int .i64 0)).far (p := ⟨a, 8, none⟩) (fun e => hab e.symm) (.int .i64 0)).far (p := ⟨a, 9, none⟩) (fun e => hab e.symm) (.int .i64 0)).far (p := ⟨a, 10, none⟩) (fun e => hab e.symm) (.int .i64 0)).far (p := ⟨a, 11, none⟩) (fun e => hab e.symm) (.int .i64 0)).far (p := ⟨a, 12, none⟩) (fun e => hab e.symm) (.int .i64 0)).far (p := ⟨a, 13, none⟩) (fun e => hab e.symm) (.int .i64 0))
  have y1 := HB2.out.cell 0
  have y2 := HB2.out.frozen 0
  have HB0 := Lib.hid (Below.refl B w)
  have BEL := Lib.hid ((((((((((((((((HB0.out.alloc hBw (.cells #[] 43)).setCell (p := ⟨a, 0, none⟩) hBa (.int .i64 0)).setCell (p := ⟨a, 1, none⟩) hBa (.int .i64 0)).setCell (p := ⟨a, 2, none⟩) hBa (.int .i64 0)).setCell (p := ⟨a, 3, none⟩) hBa (.int .i64 0)).setCell (p := ⟨a, 4, none⟩) hBa (.int .i64 0)).setCell (p := ⟨a, 5, none⟩) hBa (.int .i64 0)).setCell (p := ⟨a, 6, none⟩) hBa (.int .i64 0)).setCell (p := ⟨a, 7, none⟩) hBa (.int .i64 0)).setCell (p := ⟨a, 8, none⟩) hBa (.int .i64 0)).setCell (p := ⟨a, 9, none⟩) hBa (.int .i64 0)).setCell (p := ⟨a, 10, none⟩) hBa (.int .i64 0)).setCell (p := ⟨a, 11, none⟩) hBa (.int .i64 0)).setCell (p := ⟨a, 12, none⟩) hBa (.int .i64 0)).setCell (p := ⟨a, 13, none⟩) hBa (.int .i64 0)).setCell (p := ⟨b, 0, none⟩) hBb (.int .i64 31))
  have A3 := Lib.hid (HA2.out.far (p := ⟨b, 0, none⟩) (fun e => hab e) (.int .i64 31))
  have B3 := Lib.hid (HB2.out.set_ 0 (.int .i64 31))
  clear ha hb
  simp only [Array.replicate_succ, Array.replicate_zero, List.push_toArray, List.append_toArray, List.nil_append, List.cons_append, List.setIfInBounds_toArray, List.set_cons_zero, List.set_cons_succ]
  refine wpS_of_wp ?_
  go_wp2
  simp [bodyPostS, results, Tryd.results22]
  exact ⟨A3.out, B3.out, BEL.out⟩
end Go.Proofs.YtmopicpjhdekhaaDoor.Ct
