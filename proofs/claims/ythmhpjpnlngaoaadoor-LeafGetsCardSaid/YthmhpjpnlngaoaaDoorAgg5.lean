import Derived.Test.YthmhpjpnlngaoaaDoorPack
import Derived.Test.YthmhpjpnlngaoaaDoorObj
import Derived.Deep.RegionHeldLaw
/-! Aggregates of five cells; readers at a place; rows that were just made. -/
namespace Go.Proofs.YthmhpjpnlngaoaaDoor.Ct
open Go.RowKit
set_option linter.unusedVariables false
set_option linter.unusedSimpArgs false
/-- a number that a reader takes at a place. -/
theorem u_at (g bnd : Nat) (x : List Int) (i j k : Nat) (n v : Int) (w : World) (h : Rd w g bnd (x.drop i, false) true) (hn : n = (k : Int)) (hj : i + k = j) (h0 : 1 ≤ k) (h1 : k ≤ 8) (hl : j ≤ x.length) (hv : ofS ((x.drop i).take k) = v) :
    Calls Tryd.prog 31 #[.pointer (some ⟨g, 0, none⟩), .int .i64 n] w fun e w' => e = .returned (.int .u64 v) ∧ Rd w' g bnd (x.drop j, false) true ∧ w.grownBy w' (some g) := by
  subst hn
  have hd : (x.drop i).length = x.length - i := List.length_drop
  have e1 := take_ok (x := x.drop i) (w := k) h0 h1 (by omega)
  have e2 := uS_ok (x := x.drop i) (w := k) h0 h1 (by omega)
  refine (u_calls g bnd (x.drop i, false) (k : Int) w h).mono ?_
  rintro e w' ⟨he, hr, hg⟩
  rw [e2, hv] at he
  rw [e1] at hr
  dsimp only at hr
  rw [List.drop_drop, hj] at hr
  exact ⟨he, hr, hg⟩
theorem Rd.alloc {w : World} {g bnd : Nat} {st : List Int × Bool} {made : Bool} (h : Rd w g bnd st made) (o : Obj) : Rd (w.alloc o) g bnd st made := h.below ((Below.refl _ _).alloc (Nat.le_refl _) o)
theorem left_at (g bnd : Nat) (y : List Int) (n : Int) (w : World) (h : Rd w g bnd (y, false) true) (hn : (y.length : Int) = n) :
    Calls Tryd.prog 34 #[.pointer (some ⟨g, 0, none⟩)] w fun e w' => e = .returned (.int .i64 n) ∧ w = w' := by
  subst hn
  exact left_calls g bnd (y, false) true w h
theorem bytes_at (g bnd : Nat) (y : List Int) (n : Int) (w : World) (h : Rd w g bnd (y, false) true) (hn : (y.length : Int) = n) (hl : y.length ≤ 1000) :
    Calls Tryd.prog 33 #[.pointer (some ⟨g, 0, none⟩), .int .i64 n] w fun e w' => ∃ a c, e = .returned (.slice a y.length c) ∧ Row .u8 w' a y ∧ w.grownBy w' (some g) := by
  subst hn
  refine (bytes_calls g bnd (y, false) (y.length : Int) w h (by simp only; omega) (by omega) (by omega)).mono ?_
  rintro e w' ⟨v, he, ho, -, hg⟩
  rw [takeS_in (Nat.le_refl _)] at ho
  dsimp only at ho
  rw [List.take_length] at ho
  obtain ⟨a, c, rfl, -, -, hr, -, -⟩ := ho.form
  exact ⟨a, c, he, hr, hg⟩
/-- results of which the first lies in memory. -/
theorem results_ct {P : Program} {fn : Func} {p u : Tmp} {ty : TypeId} (h : fn.results = #[.cell p ty, .tmp u]) (tmps : Array Value) (w : World) (g : Nat) (t : TypeId) (cs : Array Value) (fr : Nat × Nat) (d : TypeDesc)
    (hp : tmps.getD p undef = .pointer (some ⟨g, 0, none⟩)) (hg : w.heap[g]? = some (.cells cs t fr))
    (hu : P.underlying ty = some d) (hd : (match d with | .struct _ | .array _ _ => true | _ => false) = true) (hi : (P.info? ty).map (·.size) = some cs.size) :
    (results fn tmps).run P w = .ok (.tuple #[.agg cs, tmps.getD u undef]) w := by
  have hp' : tmps[p]?.getD undef = .pointer (some ⟨g, 0, none⟩) := by simpa using hp
  simp [results, h, hp', asAddr, run_loadVar_row w g t ty cs fr d hg hu hd hi]
theorem results_c {P : Program} {fn : Func} {p : Tmp} {ty : TypeId} (h : fn.results = #[.cell p ty]) (tmps : Array Value) (w : World) (g : Nat) (t : TypeId) (cs : Array Value) (fr : Nat × Nat) (d : TypeDesc)
    (hp : tmps.getD p undef = .pointer (some ⟨g, 0, none⟩)) (hg : w.heap[g]? = some (.cells cs t fr))
    (hu : P.underlying ty = some d) (hd : (match d with | .struct _ | .array _ _ => true | _ => false) = true) (hi : (P.info? ty).map (·.size) = some cs.size) :
    (results fn tmps).run P w = .ok (.agg cs) w := by
  have hp' : tmps[p]?.getD undef = .pointer (some ⟨g, 0, none⟩) := by simpa using hp
  simp [results, h, hp', asAddr, run_loadVar_row w g t ty cs fr d hg hu hd hi]
theorem Blk.set5 {w : World} {g : Nat} {t : TypeId} {a b c d e : Value} (h : Blk w g t #[a, b, c, d, e]) (v0 v1 v2 v3 v4 : Value) :
    Blk (((((w.setCell ⟨g, 0, none⟩ v0).setCell ⟨g, 1, none⟩ v1).setCell ⟨g, 2, none⟩ v2).setCell ⟨g, 3, none⟩ v3).setCell ⟨g, 4, none⟩ v4) g t #[v0, v1, v2, v3, v4] := by
  have := ((((h.set_ 0 v0).set_ 1 v1).set_ 2 v2).set_ 3 v3).set_ 4 v4
  exact this
theorem below_set5 {B : Nat} {w0 w : World} {g : Nat} (h : Below B w0 w) (hg : B ≤ g) (v0 v1 v2 v3 v4 : Value) :
    Below B w0 (((((w.setCell ⟨g, 0, none⟩ v0).setCell ⟨g, 1, none⟩ v1).setCell ⟨g, 2, none⟩ v2).setCell ⟨g, 3, none⟩ v3).setCell ⟨g, 4, none⟩ v4) :=
  ((((h.setCell (p := ⟨g, 0, none⟩) hg v0).setCell (p := ⟨g, 1, none⟩) hg v1).setCell (p := ⟨g, 2, none⟩) hg v2).setCell (p := ⟨g, 3, none⟩) hg v3).setCell (p := ⟨g, 4, none⟩) hg v4
theorem cells5 {w : World} {g : Nat} {v0 v1 v2 v3 v4 : Value} {t : TypeId} (h : Blk w g t #[v0, v1, v2, v3, v4]) : (w.cell? ⟨g, 0, none⟩ = some v0 ∧ w.cell? ⟨g, 1, none⟩ = some v1 ∧ w.cell? ⟨g, 2, none⟩ = some v2 ∧ w.cell? ⟨g, 3, none⟩ = some v3 ∧ w.cell? ⟨g, 4, none⟩ = some v4) ∧
    w.frozen? ⟨g, 0, none⟩ = false ∧ w.frozen? ⟨g, 1, none⟩ = false ∧ w.frozen? ⟨g, 2, none⟩ = false ∧ w.frozen? ⟨g, 3, none⟩ = false ∧ w.frozen? ⟨g, 4, none⟩ = false :=
  ⟨⟨h.cell 0, h.cell 1, h.cell 2, h.cell 3, h.cell 4⟩, h.frozen 0, h.frozen 1, h.frozen 2, h.frozen 3, h.frozen 4⟩
theorem Row.alloc {k : IntKind} {w : World} {a : Option Addr} {xs : List Int} (h : Row k w a xs) (o : Obj) : Row k (w.alloc o) a xs := h.below ((Below.refl _ _).alloc (Nat.le_refl _) o)
theorem row_one {w : World} {E : TypeId} {m : Int} (h0 : 0 ≤ m) (h1 : m ≤ 255) : Row .u8 (w.alloc (.cells #[.int .u8 m] E)) (some ⟨w.heap.size, 0, none⟩) [m] :=
  row_lit E (0, 0) [m] (by simp) (by intro x hx; simp at hx; subst hx; exact u8_wf h0 h1)
/-- a row of one octet that was just made, behind what came then. -/
theorem row_made {W w' : World} {m : Int} {E : TypeId} (h0 : 0 ≤ m) (h1 : m ≤ 255) (hb : Below (W.alloc (.cells #[.int .u8 m] E)).heap.size (W.alloc (.cells #[.int .u8 m] E)) w') : Row .u8 w' (some ⟨W.heap.size, 0, none⟩) [m] :=
  (row_one h0 h1).below hb
theorem row_made0 {W w' : World} {m : Int} {E : TypeId} (h0 : 0 ≤ m) (h1 : m ≤ 255) (hb : Below (W.drew.alloc (.cells #[.int .u8 m] E)).heap.size (W.drew.alloc (.cells #[.int .u8 m] E)) w') : Row .u8 w' (some ⟨W.heap.size, 0, none⟩) [m] :=
  row_made (W := W.drew) h0 h1 hb
theorem row_made1 {W w' : World} {m : Int} {E : TypeId} (h0 : 0 ≤ m) (h1 : m ≤ 255) (hb : Below (W.alloc (.cells #[.int .u8 m] E)).drew.heap.size (W.alloc (.cells #[.int .u8 m] E)).drew w') : Row .u8 w' (some ⟨W.heap.size, 0, none⟩) [m] :=
  Row.below (w := (W.alloc (.cells #[.int .u8 m] E)).drew) (row_one h0 h1) hb
theorem rowS_five {w : World} {E : TypeId} {a1 a2 a3 a4 a5 : Option Addr} {d1 d2 d3 d4 d5 : Nat} {x1 x2 x3 x4 x5 : List Int} (h1 : Row .u8 w a1 x1) (h2 : Row .u8 w a2 x2) (h3 : Row .u8 w a3 x3) (h4 : Row .u8 w a4 x4) (h5 : Row .u8 w a5 x5) :
    RowS (w.alloc (.cells #[.slice a1 x1.length d1, .slice a2 x2.length d2, .slice a3 x3.length d3, .slice a4 x4.length d4, .slice a5 x5.length d5] E)) (some ⟨w.heap.size, 0, none⟩) [x1, x2, x3, x4, x5] := by
  refine ⟨by show 5 ≤ maxLen; decide, fun _ => ⟨_, rfl, fun j hj => ?_⟩⟩
  have : j = 0 ∨ j = 1 ∨ j = 2 ∨ j = 3 ∨ j = 4 := by simp at hj; omega
  rcases this with rfl | rfl | rfl | rfl | rfl
  · exact ⟨a1, d1, by simp [Addr.add, go_sem], h1.alloc _⟩
  · exact ⟨a2, d2, by simp [Addr.add, go_sem], h2.alloc _⟩
  · exact ⟨a3, d3, by simp [Addr.add, go_sem], h3.alloc _⟩
  · exact ⟨a4, d4, by simp [Addr.add, go_sem], h4.alloc _⟩
  · exact ⟨a5, d5, by simp [Addr.add, go_sem], h5.alloc _⟩
theorem join5 (E : TypeId) (a1 a2 a3 a4 a5 : Option Addr) (d1 d2 d3 d4 d5 : Nat) (x1 x2 x3 x4 : List Int) (m : Int) (W : World) (g : Nat) (hg : g = W.heap.size) (h1 : Row .u8 W a1 x1) (h2 : Row .u8 W a2 x2) (h3 : Row .u8 W a3 x3) (h4 : Row .u8 W a4 x4) (h5 : Row .u8 W a5 [m]) (hl : [x1, x2, x3, x4, [m]].flatten.length ≤ 1000) :
    Calls Tryd.prog 28 #[.slice (some ⟨g, 0, none⟩) 5 5] (W.alloc (.cells #[.slice a1 x1.length d1, .slice a2 x2.length d2, .slice a3 x3.length d3, .slice a4 x4.length d4, .slice a5 1 d5] E)) fun e w' => ∃ v, e = .returned v ∧ Own .u8 5 w' W.heap.size v [x1, x2, x3, x4, [m]].flatten ∧ Below W.heap.size W w' := by
  subst hg
  refine (join_calls (some ⟨W.heap.size, 0, none⟩) 5 [x1, x2, x3, x4, [m]] _ (rowS_five h1 h2 h3 h4 h5) (by omega)).mono ?_
  rintro e w' ⟨v, he, ho, hb⟩
  exact ⟨v, he, ho.mono (by simp), below_step (below_alloc (Below.refl _ _) _) hb⟩
theorem join5h (E : TypeId) (a1 a2 a3 a4 a5 : Option Addr) (d1 d2 d3 d4 d5 : Nat) (m : Int) (x2 x3 x4 x5 : List Int) (W : World) (g : Nat) (hg : g = W.heap.size) (h1 : Row .u8 W a1 [m]) (h2 : Row .u8 W a2 x2) (h3 : Row .u8 W a3 x3) (h4 : Row .u8 W a4 x4) (h5 : Row .u8 W a5 x5) (hl : [[m], x2, x3, x4, x5].flatten.length ≤ 1000) :
    Calls Tryd.prog 28 #[.slice (some ⟨g, 0, none⟩) 5 5] (W.alloc (.cells #[.slice a1 1 d1, .slice a2 x2.length d2, .slice a3 x3.length d3, .slice a4 x4.length d4, .slice a5 x5.length d5] E)) fun e w' => ∃ v, e = .returned v ∧ Own .u8 5 w' W.heap.size v [[m], x2, x3, x4, x5].flatten ∧ Below W.heap.size W w' := by
  subst hg
  refine (join_calls (some ⟨W.heap.size, 0, none⟩) 5 [[m], x2, x3, x4, x5] _ (rowS_five h1 h2 h3 h4 h5) (by omega)).mono ?_
  rintro e w' ⟨v, he, ho, hb⟩
  exact ⟨v, he, ho.mono (by simp), below_step (below_alloc (Below.refl _ _) _) hb⟩
theorem str_eqb {xs ys : List Int} (hx : ∀ x ∈ xs, 0 ≤ x ∧ x ≤ 255) (hy : ∀ x ∈ ys, 0 ≤ x ∧ x ≤ 255) : ((strOfNums xs).toList == (strOfNums ys).toList) = decide (xs = ys) := by
  rw [str_eq, bs_strOf hx, bs_strOf hy]
theorem len_put {xs : List Int} {n wd : Int} {k : Nat} (h : xs.length ≤ k) : (xs ++ numS wd n).length ≤ k + 8 := by
  have := numS_len wd n
  rw [List.length_append]; omega
theorem u64_of (z : Int) (h0 : 0 ≤ z) (h1 : z ≤ 18446744073709551615) : IntKind.u64.wrap z = z := by rw [u64_def]; omega
end Go.Proofs.YthmhpjpnlngaoaaDoor.Ct
