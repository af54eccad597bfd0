import Derived.Test.YtejhoobecladiaaPlaP
import Derived.Test.YtejhoobecladiaaCells
import Derived.Test.YtejhoobecladiaaQuiet
/-! Chapter 27: places in memory; at. -/
namespace Go.Proofs.Ytejhoobecladiaa.Ct
open Go.RowKit
set_option linter.unusedVariables false
set_option linter.unusedSimpArgs false
/-- nothing but blocks of S is written, and what is new. -/
structure TchS (S : Nat → Prop) (w w' : World) : Prop where
  os : w'.os = w.os
  tape : w'.tape = w.tape
  output : w'.output = w.output
  size : w.heap.size ≤ w'.heap.size
  block : ∀ i, i < w.heap.size → ¬ S i → w'.heap[i]? = w.heap[i]?
section
variable {S : Nat → Prop} {w w1 w2 : World}
theorem TchS.refl (S : Nat → Prop) (w : World) : TchS S w w := ⟨rfl, rfl, rfl, Nat.le_refl _, fun _ _ _ => rfl⟩
theorem TchS.trans (h : TchS S w w1) (k : TchS S w1 w2) : TchS S w w2 := ⟨k.os.trans h.os, k.tape.trans h.tape, k.output.trans h.output, Nat.le_trans h.size k.size, fun i hi h1 => (k.block i (Nat.lt_of_lt_of_le hi h.size) h1).trans (h.block i hi h1)⟩
theorem TchS.of_below (h : Below w.heap.size w w1) : TchS S w w1 := ⟨h.os, h.tape, h.output, h.size, fun i hi _ => h.block i hi⟩
theorem TchS.to_below {B : Nat} (h : TchS S w w1) (ha : ∀ i, S i → B ≤ i) (hs : B ≤ w.heap.size) : Below B w w1 := ⟨h.os, h.tape, h.output, h.size, fun i hi => h.block i (by omega) (fun hS => by have := ha i hS; omega)⟩
theorem TchS.alloc (h : TchS S w w1) (o : Obj) : TchS S w (w1.alloc o) := h.trans (TchS.of_below (below_alloc (Below.refl _ _) _))
theorem TchS.drewN (h : TchS S w w1) (n : Nat) : TchS S w (w1.drewN n) := h.trans (TchS.of_below (below_drewN (Below.refl _ _) _))
theorem TchS.drew (h : TchS S w w1) : TchS S w w1.drew := h.trans (TchS.of_below (below_drew (Below.refl _ _)))
theorem TchS.set_ (h : TchS S w w1) {p : Addr} (hp : S p.block) (v : Value) : TchS S w (w1.setCell p v) :=
  h.trans ⟨rfl, rfl, rfl, by unfold World.setCell; simp, fun i hi h1 => Below.heap_setCell w1 p v i (by rintro rfl; exact h1 hp)⟩
theorem Blk.tchS {g : Nat} {t : TypeId} {cs : Array Value} (hk : Blk w g t cs) (h : TchS S w w1) (ha : ¬ S g) : Blk w1 g t cs := (h.block g hk.lt ha).trans hk
end
/-- cells as a function. -/
def valsV (f : Nat → Value) (N : Nat) : List Value := (List.range N).map f
theorem valsV_get (f : Nat → Value) {N j : Nat} (h : j < N) : (valsV f N).toArray[j]? = some (f j) := by simp [valsV, h]
theorem valsV_set {f g : Nat → Value} (N j : Nat) (v : Value) (h1 : g j = v) (h2 : ∀ i, i ≠ j → g i = f i) : (valsV f N).toArray.setIfInBounds j v = (valsV g N).toArray := by
  apply Array.ext_getElem?
  intro i
  rw [Array.getElem?_setIfInBounds]
  by_cases hi : i < N
  · rw [valsV_get _ hi]
    by_cases e : j = i
    · subst e; rw [if_pos rfl, if_pos (by simpa [valsV] using hi), valsV_get _ hi, h1]
    · rw [if_neg e, valsV_get _ hi, h2 i (Ne.symm e)]
  · have hn : ∀ f : Nat → Value, (valsV f N).toArray[i]? = none := fun f => Array.getElem?_eq_none (by simp [valsV]; omega)
    rw [hn, hn]
    by_cases e : j = i
    · rw [if_pos e, if_neg (by simp [valsV]; omega)]
    · rw [if_neg e]
/-- a slot's three cells. -/
def cel27 (s : Nat → One27) (j : Nat) : Value := if j % 3 = 0 then .int .i64 (s (j / 3)).lba else if j % 3 = 1 then .int .u64 (s (j / 3)).tag else .bool (s (j / 3)).sure
theorem cel27_0 (s : Nat → One27) (i : Nat) : cel27 s (i * 3) = .int .i64 (s i).lba := by
  unfold cel27
  rw [if_pos (by omega), show i * 3 / 3 = i by omega]
theorem cel27_1 (s : Nat → One27) (i : Nat) : cel27 s (i * 3 + 1) = .int .u64 (s i).tag := by
  unfold cel27
  rw [if_neg (by omega), if_pos (by omega), show (i * 3 + 1) / 3 = i by omega]
theorem cel27_2 (s : Nat → One27) (i : Nat) : cel27 s (i * 3 + 2) = .bool (s i).sure := by
  unfold cel27
  rw [if_neg (by omega), if_neg (by omega), show (i * 3 + 2) / 3 = i by omega]
/-- places in memory: their struct, the slots' block, the block of where. -/
structure PS (base : Nat) (w : World) (x gl gw n m : Nat) (s : Nat → One27) (wh : Nat → Nat) (k : Int) : Prop where
  bx : base ≤ x
  bl : base ≤ gl
  bw : base ≤ gw
  kx : Blk w x 59 #[.slice (some ⟨gl, 0, none⟩) m m, .slice (some ⟨gw, 0, none⟩) n n, .int .i64 k]
  kl : Blk w gl 63 (valsV (cel27 s) (m * 3)).toArray
  kw : Blk w gw 3 (valsV (fun b => .int .i64 (wh b : Int)) n).toArray
section
variable {base x gl gw n m : Nat} {w w1 : World} {s : Nat → One27} {wh : Nat → Nat} {k : Int}
theorem PS.below (h : PS base w x gl gw n m s wh k) (hb : Below w.heap.size w w1) : PS base w1 x gl gw n m s wh k := ⟨h.bx, h.bl, h.bw, h.kx.below hb, h.kl.below hb, h.kw.below hb⟩
theorem PS.cx (h : PS base w x gl gw n m s wh k) : w.cell? ⟨x, 0, none⟩ = some (.slice (some ⟨gl, 0, none⟩) m m) ∧ w.cell? ⟨x, 1, none⟩ = some (.slice (some ⟨gw, 0, none⟩) n n) ∧ w.cell? ⟨x, 2, none⟩ = some (.int .i64 k) := ⟨h.kx.cell 0, h.kx.cell 1, h.kx.cell 2⟩
theorem PS.cl (h : PS base w x gl gw n m s wh k) {i : Nat} (hi : i < m) : w.cell? ⟨gl, i * 3, none⟩ = some (.int .i64 (s i).lba) ∧ w.cell? ⟨gl, i * 3 + 1, none⟩ = some (.int .u64 (s i).tag) ∧ w.cell? ⟨gl, i * 3 + 2, none⟩ = some (.bool (s i).sure) :=
  ⟨(h.kl.cell _).trans ((valsV_get _ (by omega)).trans (by rw [cel27_0])), (h.kl.cell _).trans ((valsV_get _ (by omega)).trans (by rw [cel27_1])), (h.kl.cell _).trans ((valsV_get _ (by omega)).trans (by rw [cel27_2]))⟩
theorem PS.cw (h : PS base w x gl gw n m s wh k) {b : Nat} (hb : b < n) : w.cell? ⟨gw, b, none⟩ = some (.int .i64 (wh b : Int)) := (h.kw.cell b).trans (valsV_get _ hb)
theorem PS.ne (h : PS base w x gl gw n m s wh k) : x ≠ gl ∧ x ≠ gw ∧ gl ≠ gw := ⟨h.kx.ne_ h.kl (by decide), h.kx.ne_ h.kw (by decide), h.kl.ne_ h.kw (by decide)⟩
theorem PS.tchS {S : Nat → Prop} (h : PS base w x gl gw n m s wh k) (ht : TchS S w w1) (h1 : ¬ S x) (h2 : ¬ S gl) (h3 : ¬ S gw) : PS base w1 x gl gw n m s wh k := ⟨h.bx, h.bl, h.bw, h.kx.tchS ht h1, h.kl.tchS ht h2, h.kw.tchS ht h3⟩
end
def oneV (o : One27) : Value := .agg #[.int .i64 o.lba, .int .u64 o.tag, .bool o.sure]
theorem results_c {P : Program} {fn : Func} {p : Tmp} {ty : TypeId} (h : fn.results = #[.cell p ty]) (tmps : Array Value) (w : World) (g : Nat) (t : TypeId) (cs : Array Value) (fr : Nat × Nat) (d : TypeDesc)
    (hp : tmps.getD p undef = .pointer (some ⟨g, 0, none⟩)) (hg : w.heap[g]? = some (.cells cs t fr))
    (hu : P.underlying ty = some d) (hd : (match d with | .struct _ | .array _ _ => true | _ => false) = true) (hi : (P.info? ty).map (·.size) = some cs.size) :
    (results fn tmps).run P w = .ok (.agg cs) w := by
  have hp' : tmps[p]?.getD undef = .pointer (some ⟨g, 0, none⟩) := by simpa using hp
  simp [results, h, hp', asAddr, run_loadVar_row w g t ty cs fr d hg hu hd hi]
theorem at_none (l : Int) (w : World) : Calls Try.prog 25 #[.pointer none, .int .i64 l] w fun e w' => e = .returned (oneV o27) ∧ Below w.heap.size w w' := by
  have hb := Lib.hid (below_alloc (Below.refl w.heap.size w) (.cells #[.int .i64 0, .int .u64 0, .bool false] 63))
  go_enter Try.func25, Try.ntmps25
  go_wp2
  refine bodyPost_ret (results_c rfl _ _ w.heap.size _ _ _ _ rfl (heap_alloc_new _ _) Try.underlying63 rfl (by kernel_rfl)) rfl ?_
  exact ⟨rfl, hb.out⟩
theorem at_bad (x : Nat) (l : Int) (a : Option Addr) (m c : Nat) (w : World) (c0 : w.cell? ⟨x, 0, none⟩ = some (.slice a m c)) (h : l < 0 ∨ (m : Int) ≤ l) : Calls Try.prog 25 #[.pointer (some ⟨x, 0, none⟩), .int .i64 l] w fun e w' => e = .returned (oneV o27) ∧ Below w.heap.size w w' := by
  have hb := Lib.hid (below_alloc (Below.refl w.heap.size w) (.cells #[.int .i64 0, .int .u64 0, .bool false] 63))
  have e0 := bget hb.out c0
  clear c0
  rcases h with h | h
  · go_enter Try.func25, Try.ntmps25
    go_wp2
    refine bodyPost_ret (results_c rfl _ _ w.heap.size _ _ _ _ rfl (heap_alloc_new _ _) Try.underlying63 rfl (by kernel_rfl)) rfl ?_
    exact ⟨rfl, hb.out⟩
  · have h0 : ¬ l < 0 := by omega
    go_enter Try.func25, Try.ntmps25
    go_wp2
    refine bodyPost_ret (results_c rfl _ _ w.heap.size _ _ _ _ rfl (heap_alloc_new _ _) Try.underlying63 rfl (by kernel_rfl)) rfl ?_
    exact ⟨rfl, hb.out⟩
set_option maxHeartbeats 2000000 in
theorem at_ok {base x gl gw n m : Nat} {w : World} {s : Nat → One27} {wh : Nat → Nat} {k : Int} (h : PS base w x gl gw n m s wh k) {i : Nat} (hi : i < m) : Calls Try.prog 25 #[.pointer (some ⟨x, 0, none⟩), .int .i64 i] w fun e w' => e = .returned (oneV (s i)) ∧ Below w.heap.size w w' := by
  have hb := Lib.hid (below_alloc (Below.refl w.heap.size w) (.cells #[.int .i64 0, .int .u64 0, .bool false] 63))
  have HK := Lib.hid (Blk.new w 63 #[.int .i64 0, .int .u64 0, .bool false])
  have h2 := h.below hb.out
  have c0 := h2.cx.1
  obtain ⟨e0, e1, e2⟩ := h2.cl hi
  have f0 := HK.out.frozen 0
  have f1 := HK.out.frozen 1
  have f2 := HK.out.frozen 2
  have h0 : ¬ (i : Int) < 0 := by omega
  have h1 : ¬ (m : Int) ≤ i := by omega
  have h3 : (i : Int) < m := by omega
  clear h h2
  go_enter Try.func25, Try.ntmps25
  go_wp2
  refine bodyPost_ret (results_c rfl _ _ w.heap.size _ _ _ _ rfl (heap_alloc_new _ _) Try.underlying63 rfl (by kernel_rfl)) rfl ?_
  exact ⟨rfl, below_alloc (Below.refl _ _) _⟩
theorem pof_none (b : Int) (w : World) : Calls Try.prog 10 #[.pointer none, .int .i64 b] w fun e w' => e = .returned (.tuple #[.int .i64 0, .bool false]) ∧ w = w' := by
  go_enter Try.func10, Try.ntmps10
  go_wp2
  go_ret2
  exact ⟨rfl, rfl⟩
theorem pof_bad (x : Nat) (b : Int) (a : Option Addr) (n c : Nat) (w : World) (c1 : w.cell? ⟨x, 1, none⟩ = some (.slice a n c)) (h : b < 0 ∨ (n : Int) ≤ b) : Calls Try.prog 10 #[.pointer (some ⟨x, 0, none⟩), .int .i64 b] w fun e w' => e = .returned (.tuple #[.int .i64 0, .bool false]) ∧ w = w' := by
  rcases h with h | h
  · go_enter Try.func10, Try.ntmps10
    go_wp2
    go_ret2
    exact ⟨rfl, rfl⟩
  · have h0 : ¬ b < 0 := by omega
    go_enter Try.func10, Try.ntmps10
    go_wp2
    go_ret2
    exact ⟨rfl, rfl⟩
/-- what Of tells of a block that may be: its slot, or none. -/
theorem pof_ok {base x gl gw n m : Nat} {w : World} {s : Nat → One27} {wh : Nat → Nat} {k : Int} (h : PS base w x gl gw n m s wh k) (hi : PInv n m s wh) (hm : m ≤ 100000) {b : Nat} (hb : b < n) : Calls Try.prog 10 #[.pointer (some ⟨x, 0, none⟩), .int .i64 b] w fun e w' => e = .returned (.tuple #[.int .i64 ((wh b - 1 : Nat) : Int), .bool (decide (wh b ≠ 0))]) ∧ w = w' := by
  have c1 := h.cx.2.1
  have c2 := h.cw hb
  have h0 : ¬ (b : Int) < 0 := by omega
  have h1 : ¬ (n : Int) ≤ b := by omega
  have h3 : (b : Int) < n := by omega
  by_cases hz : wh b = 0
  · rw [hz] at c2
    have c2 : w.cell? ⟨gw, b, none⟩ = some (.int .i64 0) := c2
    have hd : decide (wh b ≠ 0) = false := by simp [hz]
    rw [hd, hz]
    clear hd hz h hi
    go_enter Try.func10, Try.ntmps10
    go_wp2
    go_ret2
    exact ⟨rfl, rfl⟩
  · have hw := (hi.wo b hb hz).1
    have hd : decide (wh b ≠ 0) = true := by simp [hz]
    rw [hd]
    obtain ⟨q, hq⟩ : ∃ q, wh b = q + 1 := ⟨wh b - 1, by omega⟩
    rw [hq] at hw c2 ⊢
    have c2 : w.cell? ⟨gw, b, none⟩ = some (.int .i64 ((q : Int) + 1)) := c2
    have hz2 : ¬ ((q : Int) + 1 = 0) := by omega
    have hzb : (((q : Int) + 1) == 0) = false := beq_eq_false_iff_ne.2 hz2
    clear hd hz h hi hq
    go_enter Try.func10, Try.ntmps10
    go_wp2
    go_ret2
    exact ⟨rfl, rfl⟩
theorem plen_ok (x : Nat) (k : Int) (w : World) (c2 : w.cell? ⟨x, 2, none⟩ = some (.int .i64 k)) : Calls Try.prog 12 #[.pointer (some ⟨x, 0, none⟩)] w fun e w' => e = .returned (.int .i64 k) ∧ w = w' := by
  go_enter Try.func12, Try.ntmps12
  go_wp2
  go_ret
  exact ⟨rfl, rfl⟩
end Go.Proofs.Ytejhoobecladiaa.Ct
