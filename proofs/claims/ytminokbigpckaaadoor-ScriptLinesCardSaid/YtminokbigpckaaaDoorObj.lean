import Derived.Test.YtminokbigpckaaaDoorLib
import Derived.ArgAppend
import Derived.Deep.AppendLies
import Derived.Deep.AppendSrc
import Derived.Laws.IdiomCopy
import Derived.Deep.Upon
import Derived.RegionTactic
import Derived.ChangeAlike
import Derived.Deep.QuietTactic
import Derived.BigQuiet
import Derived.Deep.RegionWith
import Derived.Deep.DeepCutAuto
import Derived.Deep.RegionHeld
import Derived.Deep.RegionHeldLaw
import Derived.Deep.RegionLaw
import Derived.Deep.RegionLawGrows
/-! Objects of the call's own: blocks known whole, frames by kinds of blocks, slices that lie in the midst of a block. -/
namespace Go.Proofs.YtminokbigpckaaaDoor.Ct
open Go.RowKit
set_option linter.unusedVariables false
set_option linter.unusedSimpArgs false
theorem i64wf {a : Int} (h : I64 a) : (Lit.int .i64 a).wf = true := by
  obtain ⟨h0, h1⟩ := h
  simp [Lit.wf, IntKind.min, IntKind.max, IntKind.signed, IntKind.bits]
  omega
theorem max_run {P : Program} (x y : Int) (ts : Array TypeId) (t : TypeId) (w : World) : (Builtin.max_ ts t #[.int .i64 x, .int .i64 y]).run P w = .ok (.int .i64 (max x y)) w := by
  rw [run_max_int2]; congr 2; split <;> omega
theorem min_run {P : Program} (x y : Int) (ts : Array TypeId) (t : TypeId) (w : World) : (Builtin.min_ ts t #[.int .i64 x, .int .i64 y]).run P w = .ok (.int .i64 (min x y)) w := by
  rw [run_min_int2]; congr 2; split <;> omega
def Blk (w : World) (g : Nat) (t : TypeId) (cs : Array Value) : Prop := w.heap[g]? = some (.cells cs t (0, 0))
section
variable {w w' : World} {g : Nat} {t : TypeId} {cs : Array Value}
theorem Blk.lt (h : Blk w g t cs) : g < w.heap.size := by
  rcases Nat.lt_or_ge g w.heap.size with hlt | hge
  · exact hlt
  · unfold Blk at h; rw [Array.getElem?_eq_none hge] at h; cases h
theorem Blk.cell (h : Blk w g t cs) (i : Nat) : w.cell? ⟨g, i, none⟩ = cs[i]? := cell_of_row w g i cs t (0, 0) h
theorem Blk.frozen (h : Blk w g t cs) (i : Nat) : w.frozen? ⟨g, i, none⟩ = false := by
  unfold Blk at h
  simp [World.frozen?, h]
theorem Blk.new (w : World) (t : TypeId) (cs : Array Value) : Blk (w.alloc (.cells cs t)) w.heap.size t cs := heap_alloc_new w _
theorem blk_at {w : World} {g : Nat} {t : TypeId} {cs : Array Value} (h : g = w.heap.size) : Blk (w.alloc (.cells cs t)) g t cs := h ▸ Blk.new w t cs
theorem Blk.drew (h : Blk w g t cs) : Blk w.drew g t cs := h
theorem Blk.drewN (h : Blk w g t cs) (n : Nat) : Blk (w.drewN n) g t cs := h
theorem Blk.alloc (h : Blk w g t cs) (o : Obj) : Blk (w.alloc o) g t cs := (Below.heap_alloc w o g h.lt).trans h
theorem Blk.set_ (h : Blk w g t cs) (i : Nat) (u : Value) : Blk (w.setCell ⟨g, i, none⟩ u) g t (cs.setIfInBounds i u) := by
  unfold Blk at h ⊢
  simp [World.setCell, Array.getElem?_modify, h]
theorem Blk.far (h : Blk w g t cs) {p : Addr} (hp : g ≠ p.block) (u : Value) : Blk (w.setCell p u) g t cs := (Below.heap_setCell w p u g hp).trans h
theorem Blk.below (h : Blk w g t cs) (hb : Below w.heap.size w w') : Blk w' g t cs := (hb.block g h.lt).trans h
theorem Blk.grown {row : Option Nat} (h : Blk w g t cs) (hb : w.grownBy w' row) (hg : some g ≠ row) : Blk w' g t cs := (hb.block g h.lt hg).trans h
theorem Blk.ne_ {g' : Nat} {t' : TypeId} {cs' : Array Value} (h : Blk w g t cs) (h' : Blk w g' t' cs') (hne : t ≠ t') : g ≠ g' := by
  rintro rfl
  unfold Blk at h h'
  rw [h] at h'
  injection h' with h'
  injection h' with _ ht
  exact hne ht
theorem Blk.same {t' : TypeId} {cs' : Array Value} (h : Blk w g t cs) (h' : Blk w g t' cs') : cs = cs' := by
  unfold Blk at h h'
  rw [h] at h'
  injection h' with h'
  injection h'
end

/-! ### frames by kinds -/
/-- what is written lies from a block on, and in blocks of one's own kinds. -/
structure Fr (base : Nat) (mine : Obj → Bool) (w w' : World) : Prop where
  os : w'.os = w.os
  tape : w'.tape = w.tape
  output : w'.output = w.output
  size : w.heap.size ≤ w'.heap.size
  block : ∀ i, i < w.heap.size → (i < base ∨ ∀ o, w.heap[i]? = some o → mine o = false) → w'.heap[i]? = w.heap[i]?
section
variable {base : Nat} {mine : Obj → Bool} {w w1 w2 : World}
theorem Fr.refl (base : Nat) (mine : Obj → Bool) (w : World) : Fr base mine w w := ⟨rfl, rfl, rfl, Nat.le_refl _, fun _ _ _ => rfl⟩
theorem Fr.trans (h : Fr base mine w w1) (k : Fr base mine w1 w2) : Fr base mine w w2 :=
  ⟨k.os.trans h.os, k.tape.trans h.tape, k.output.trans h.output, Nat.le_trans h.size k.size, fun i hi hc => by
    have e := h.block i hi hc
    refine (k.block i (Nat.lt_of_lt_of_le hi h.size) ?_).trans e
    rcases hc with hc | hc
    · exact .inl hc
    · exact .inr (by rw [e]; exact hc)⟩
theorem Fr.of_below (h : Below w.heap.size w w1) : Fr base mine w w1 := ⟨h.os, h.tape, h.output, h.size, fun i hi _ => h.block i hi⟩
theorem Fr.to_below (h : Fr base mine w w1) (hb : base ≤ w.heap.size) : Below base w w1 := ⟨h.os, h.tape, h.output, h.size, fun i hi => h.block i (by omega) (.inl hi)⟩
theorem Fr.mono {mine' : Obj → Bool} (h : Fr base mine w w1) (hm : ∀ o, mine o = true → mine' o = true) : Fr base mine' w w1 :=
  ⟨h.os, h.tape, h.output, h.size, fun i hi hc => h.block i hi (hc.imp id fun hh o ho => by
    cases e : mine o
    · rfl
    · have := hm o e; rw [hh o ho] at this; cases this)⟩
theorem Fr.alloc (h : Fr base mine w w1) (o : Obj) : Fr base mine w (w1.alloc o) := h.trans (Fr.of_below (below_alloc (Below.refl _ _) _))
theorem Fr.drewN (h : Fr base mine w w1) (n : Nat) : Fr base mine w (w1.drewN n) := h.trans (Fr.of_below (below_drewN (Below.refl _ _) _))
theorem Fr.drew (h : Fr base mine w w1) : Fr base mine w w1.drew := h.trans (Fr.of_below (below_drew (Below.refl _ _)))
theorem Fr.set_ (h : Fr base mine w w1) {g : Nat} {t : TypeId} {cs : Array Value} (hg : Blk w1 g t cs) (hm : mine (.cells cs t (0, 0)) = true) (hb : base ≤ g) (i : Nat) (u : Value) : Fr base mine w (w1.setCell ⟨g, i, none⟩ u) :=
  h.trans ⟨rfl, rfl, rfl, by unfold World.setCell; simp, fun k hk hc => Below.heap_setCell w1 ⟨g, i, none⟩ u k (by
    rintro rfl
    rcases hc with hc | hc
    · exact Nat.lt_irrefl _ (Nat.lt_of_lt_of_le hc hb)
    · have := hc _ hg; rw [hm] at this; cases this)⟩
end
theorem Blk.fr {base : Nat} {mine : Obj → Bool} {w w' : World} {g : Nat} {t : TypeId} {cs : Array Value} (h : Blk w g t cs) (hf : Fr base mine w w') (hm : mine (.cells cs t (0, 0)) = false) : Blk w' g t cs :=
  (hf.block g h.lt (.inr fun o ho => by
    unfold Blk at h; rw [h] at ho; injection ho with ho; rw [← ho]; exact hm)).trans h
theorem Row.fr {base : Nat} {mine : Obj → Bool} {w w' : World} {k : IntKind} {a : Option Addr} {xs : List Int} (h : Row k w a xs) (hf : Fr base mine w w') (hb : ∀ ad, a = some ad → ad.block < base) : Row k w' a xs :=
  ⟨h.1, h.2.1, fun hp => by
    obtain ⟨ad, e, hc⟩ := h.2.2 hp
    refine ⟨ad, e, fun j hj => ?_⟩
    have hl := World.block_lt_of_cell? w _ (hc j hj)
    have hbl : (ad.add j).block = ad.block := by unfold Addr.add; split <;> rfl
    rw [World.cell?_of_block (hf.block _ hl (.inl (by rw [hbl]; exact hb ad e)))]
    exact hc j hj⟩

/-! ### slices in the midst of a block -/
/-- a slice of the call's own, wherever it lies in its block. -/
def SL (base : Nat) (w : World) (E : TypeId) (size : Nat) (sv : Value) (n : Nat) (xs : List Value) : Prop :=
  xs.length = n * size ∧ ((sv = .slice none 0 0 ∧ n = 0) ∨ ∃ g off cap cs, sv = .slice (some ⟨g, off, none⟩) n cap ∧ base ≤ g ∧ Blk w g E cs ∧ n ≤ cap ∧ cap ≤ maxLen ∧ off + cap * size ≤ cs.size ∧ ∀ j, j < n * size → cs[off + j]? = xs[j]?)
section
variable {base : Nat} {w w' : World} {E : TypeId} {size : Nat} {sv : Value} {n : Nat} {xs : List Value}
theorem SL.nil (base : Nat) (w : World) (E : TypeId) (size : Nat) : SL base w E size (.slice none 0 0) 0 [] := ⟨by simp, .inl ⟨rfl, rfl⟩⟩
theorem SL.keep (h : SL base w E size sv n xs) (hk : ∀ g cs, base ≤ g → Blk w g E cs → Blk w' g E cs) : SL base w' E size sv n xs := by
  refine ⟨h.1, ?_⟩
  rcases h.2 with h1 | ⟨g, off, cap, cs, e, hb, hbl, r⟩
  · exact .inl h1
  · exact .inr ⟨g, off, cap, cs, e, hb, hk g cs hb hbl, r⟩
theorem SL.alloc (h : SL base w E size sv n xs) (o : Obj) : SL base (w.alloc o) E size sv n xs := h.keep fun g cs _ hb => hb.alloc o
theorem SL.drewN (h : SL base w E size sv n xs) (k : Nat) : SL base (w.drewN k) E size sv n xs := h
theorem SL.drew (h : SL base w E size sv n xs) : SL base w.drew E size sv n xs := h
theorem SL.below (h : SL base w E size sv n xs) (hb : Below w.heap.size w w') : SL base w' E size sv n xs := h.keep fun g cs _ hbl => hbl.below hb
theorem SL.fr {mine : Obj → Bool} {b : Nat} (h : SL base w E size sv n xs) (hf : Fr b mine w w') (hm : ∀ cs, mine (.cells cs E (0, 0)) = false) : SL base w' E size sv n xs := h.keep fun g cs _ hbl => hbl.fr hf (hm cs)
theorem SL.far (h : SL base w E size sv n xs) {p : Nat} {t : TypeId} {cs : Array Value} (hp : Blk w p t cs) (hne : E ≠ t) (i : Nat) (u : Value) : SL base (w.setCell ⟨p, i, none⟩ u) E size sv n xs := h.keep fun g cs' _ hbl => hbl.far (p := ⟨p, i, none⟩) (hbl.ne_ hp hne) u
/-- the value's form, its cells. -/
theorem SL.at_ (h : SL base w E size sv n xs) (hp : 0 < n) :
    ∃ g off cap cs, sv = .slice (some ⟨g, off, none⟩) n cap ∧ base ≤ g ∧ Blk w g E cs ∧ n ≤ cap ∧ cap ≤ 9223372036854775807 ∧ ∀ j, j < n * size → cs[off + j]? = xs[j]? := by
  rcases h.2 with ⟨_, h0⟩ | ⟨g, off, cap, cs, e, hb, hbl, h1, h2, h3, h4⟩
  · omega
  · exact ⟨g, off, cap, cs, e, hb, hbl, h1, by unfold maxLen at h2; omega, h4⟩
theorem SL.form (h : SL base w E size sv n xs) : ∃ a cap, sv = .slice a n cap ∧ n ≤ cap ∧ cap ≤ 9223372036854775807 := by
  rcases h.2 with ⟨e, h0⟩ | ⟨g, off, cap, cs, e, hb, hbl, h1, h2, h3, h4⟩
  · subst h0; exact ⟨none, 0, e, by omega, by omega⟩
  · exact ⟨_, cap, e, h1, by unfold maxLen at h2; omega⟩
/-- a store into it. -/
theorem SL.set_ {g off cap : Nat} (h : SL base w E size (.slice (some ⟨g, off, none⟩) n cap) n xs) (j : Nat) (hj : j < n * size) (u : Value) : SL base (w.setCell ⟨g, off + j, none⟩ u) E size (.slice (some ⟨g, off, none⟩) n cap) n (xs.set j u) := by
  refine ⟨by rw [List.length_set]; exact h.1, ?_⟩
  rcases h.2 with ⟨e, h0⟩ | ⟨g', off', cap', cs, e, hb, hbl, h1, h2, h3, h4⟩
  · cases e
  · simp only [Value.slice.injEq, Option.some.injEq, Addr.mk.injEq, and_true, true_and] at e
    obtain ⟨⟨rfl, rfl⟩, rfl⟩ := e
    refine .inr ⟨g, off, cap, _, rfl, hb, hbl.set_ _ u, h1, h2, by simpa using h3, fun i hi => ?_⟩
    have hcap : n * size ≤ cap * size := Nat.mul_le_mul_right _ h1
    rw [Array.getElem?_setIfInBounds, List.getElem?_set]
    by_cases e : j = i
    · subst e
      rw [if_pos rfl, if_pos rfl, if_pos (by omega), if_pos (by rw [h.1]; exact hj)]
    · rw [if_neg (by omega), if_neg e]; exact h4 i hi
/-- its tail, as 's[k:len:len]' and 's[k:]' make it. -/
theorem SL.drop_ {g off cap : Nat} (h : SL base w E size (.slice (some ⟨g, off, none⟩) n cap) n xs) (k cap' : Nat) (hk : k ≤ n) (hc : n - k ≤ cap') (hc' : k + cap' ≤ cap) : SL base w E size (.slice (some ⟨g, off + k * size, none⟩) (n - k) cap') (n - k) (xs.drop (k * size)) := by
  refine ⟨by rw [List.length_drop, h.1, Nat.sub_mul], ?_⟩
  rcases h.2 with ⟨e, h0⟩ | ⟨g', off', cap0, cs, e, hb, hbl, h1, h2, h3, h4⟩
  · cases e
  · simp only [Value.slice.injEq, Option.some.injEq, Addr.mk.injEq, and_true, true_and] at e
    obtain ⟨⟨rfl, rfl⟩, rfl⟩ := e
    refine .inr ⟨g, off + k * size, cap', cs, rfl, hb, hbl, hc, by omega, ?_, fun j hj => ?_⟩
    · have : (k + cap') * size ≤ cap * size := Nat.mul_le_mul_right _ hc'
      rw [Nat.add_mul] at this
      omega
    · rw [List.getElem?_drop, ← h4 (k * size + j) (by rw [Nat.sub_mul] at hj; have : k * size ≤ n * size := Nat.mul_le_mul_right _ hk; omega)]
      congr 1; omega
/-- nothing of it. -/
theorem SL.none_ {g off cap : Nat} (h : SL base w E size (.slice (some ⟨g, off, none⟩) n cap) n xs) : SL base w E size (.slice (some ⟨g, off, none⟩) 0 0) 0 [] := by
  refine ⟨by simp, ?_⟩
  rcases h.2 with ⟨e, h0⟩ | ⟨g', off', cap0, cs, e, hb, hbl, h1, h2, h3, h4⟩
  · cases e
  · simp only [Value.slice.injEq, Option.some.injEq, Addr.mk.injEq, and_true, true_and] at e
    obtain ⟨⟨rfl, rfl⟩, rfl⟩ := e
    exact .inr ⟨g, off, 0, cs, rfl, hb, hbl, by omega, by omega, by omega, fun j hj => by omega⟩
theorem setAll_blk {g : Nat} {t : TypeId} (vs : List Value) : ∀ (w : World) (o : Nat) (cs : Array Value), Blk w g t cs → o + vs.length ≤ cs.size →
    ∃ cs', Blk (w.setCells g o vs) g t cs' ∧ cs'.size = cs.size ∧ (∀ i, i < o ∨ o + vs.length ≤ i → cs'[i]? = cs[i]?) ∧ ∀ j, j < vs.length → cs'[o + j]? = vs[j]? := by
  induction vs with
  | nil => intro w o cs h _; exact ⟨cs, h, rfl, fun _ _ => rfl, fun j hj => by simp at hj⟩
  | cons v vs ih =>
    intro w o cs h ho
    simp only [List.length_cons] at ho
    obtain ⟨cs', h1, h2, h3, h4⟩ := ih (w.setCell ⟨g, o, none⟩ v) (o + 1) _ (h.set_ o v) (by simp; omega)
    refine ⟨cs', h1, by rw [h2]; simp, fun i hi => ?_, fun j hj => ?_⟩
    · simp only [List.length_cons] at hi
      rw [h3 i (by omega), Array.getElem?_setIfInBounds, if_neg (by omega)]
    · cases j with
      | zero => rw [Nat.add_zero, h3 o (by omega), Array.getElem?_setIfInBounds, if_pos rfl, if_pos (by omega)]; rfl
      | succ j =>
        have := h4 j (by simp at hj; omega)
        rw [show o + (j + 1) = o + 1 + j by omega, this]; rfl
theorem fr_setCells {mine : Obj → Bool} {g : Nat} {t : TypeId} (hm : ∀ cs, mine (.cells cs t (0, 0)) = true) (hb : base ≤ g) (vs : List Value) : ∀ (w1 : World) (o : Nat) (cs : Array Value), Blk w1 g t cs → Fr base mine w w1 → Fr base mine w (w1.setCells g o vs) := by
  induction vs with
  | nil => intro w1 o cs _ h; exact h
  | cons v vs ih => intro w1 o cs h hf; exact ih _ _ _ (h.set_ o v) (hf.set_ h (hm cs) hb o v)
/-- append onto it, of what lies in a block that is known whole. -/
theorem run_append_SL {P : Program} {mine : Obj → Bool} (t ty : TypeId) (i : TypeInfo) (z : Value) (bytes : Nat) (ht : P.underlying t = some (.slice E)) (hi : P.info? E = some i) (hz : i.zero = some z) (hsize : i.size = size) (hby : i.bytes = bytes) (hzs : z.cells.size = size) (hsz : 0 < size)
    (hm : ∀ cs, mine (.cells cs E (0, 0)) = true) (h : SL base w E size sv n xs) (ad : Addr) (m c : Nat) (news : List Value) (hl : news.length = m * size) (hnews : ∀ j u, news[j]? = some u → w.cell? (ad.add j) = some u) (h1 : ∀ u ∈ news, u.oneCell' = true)
    (h63 : n + m ≤ maxLen) (hbytes : (n + m) * bytes ≤ 140737488355328) (hbase : base ≤ w.heap.size) :
    ∃ v' w', (Builtin.append_ #[t, t] ty #[sv, .slice (some ad) m c]).run P w = .ok v' w' ∧ SL base w' E size v' (n + m) (xs ++ news) ∧ Fr base mine w w' := by
  have hlen : (xs ++ news).length = (n + m) * size := by rw [List.length_append, h.1, hl, Nat.add_mul]
  have ofOwn : ∀ v' w', w'.ownsRow w.heap.size E size v' (n + m) (xs ++ news) → w.grownBy w' none → SL base w' E size v' (n + m) (xs ++ news) ∧ Fr base mine w w' := by
    intro v' w' r1 r2
    refine ⟨⟨hlen, ?_⟩, ⟨r2.os, r2.tape, r2.output, r2.size, fun k hk _ => r2.block k hk (by simp)⟩⟩
    rcases r1.2 with ⟨e, h0⟩ | ⟨g, cap, cur, e, hb, hh, hn, hc, hs, htk⟩
    · exact .inl ⟨e, h0⟩
    · refine .inr ⟨g, 0, cap, cur, e, by omega, hh, hn, hc, by rw [hs]; omega, fun j hj => ?_⟩
      rw [Nat.zero_add, ← htk, List.getElem?_take, if_pos hj]
      simp
  rcases h.2 with ⟨rfl, h0⟩ | ⟨g, off, cap, cs, rfl, hb, hbl, hnc, hcm, hcs, hcell⟩
  · subst h0
    obtain rfl : xs = [] := List.eq_nil_of_length_eq_zero (by rw [h.1]; simp)
    obtain ⟨v', w', hr, r1, r2, _⟩ := run_append_own (P := P) w w.heap.size t ty E i z size bytes ht hi hz hsize hby hzs hsz (.slice none 0 0) 0 [] (World.ownsRow_nil w _ E size) ad m c news hl hnews h1 h63 hbytes (Nat.le_refl _)
    exact ⟨v', w', hr, ofOwn v' w' r1 r2⟩
  · have hold : ∀ j u, xs[j]? = some u → w.cell? ((⟨g, off, none⟩ : Addr).add j) = some u := by
      intro j u hj
      have hjl : j < n * size := by have := (List.getElem?_eq_some_iff.1 hj).1; rw [h.1] at this; exact this
      rw [Addr.add_lit, hbl.cell, hcell j hjl]
      exact hj
    by_cases hroom : n + m ≤ cap
    · have hbig : (n + m) * size ≤ cap * size := Nat.mul_le_mul_right _ hroom
      rw [Nat.add_mul] at hbig
      have hr := run_append_room_cells (P := P) w t ty E i ht hi g off n cap ad m c news (by rw [hsize]; exact hl) hnews h1 hroom
        (fun j hj => by rw [hsize, hbl.cell, Array.getElem?_eq_getElem (by omega)]; rfl) (fun j hj => hbl.frozen _)
      rw [hsize] at hr
      obtain ⟨cs', b1, b2, b3, b4⟩ := setAll_blk news w (off + n * size) cs hbl (by omega)
      refine ⟨_, _, hr, ⟨hlen, .inr ⟨g, off, cap, cs', rfl, hb, b1, hroom, hcm, by omega, fun j hj => ?_⟩⟩, fr_setCells hm hb news w _ cs hbl (Fr.refl _ _ _)⟩
      by_cases hjn : j < n * size
      · rw [b3 _ (by omega), hcell j hjn, List.getElem?_append_left (by rw [h.1]; exact hjn)]
      · rw [Nat.add_mul] at hj
        rw [List.getElem?_append_right (by rw [h.1]; omega), h.1]
        have := b4 (j - n * size) (by omega)
        rw [← this]
        congr 1; omega
    · obtain ⟨v', w', hr, r1, r2⟩ := run_append_arg_grows (P := P) w t ty E i z size bytes ht hi hz hsize hby hzs hsz ⟨g, off, none⟩ n cap xs h.1 hold ad m c news hl hnews (by omega) h63 hbytes
      exact ⟨v', w', hr, ofOwn v' w' r1 r2⟩
theorem wp_appSL {P : Program} {mine : Obj → Bool} {ops : Array Oper} {rest : List Oper} {o : Oper} {a : Act} {Q : Exit → Act → World → Prop} (t : TypeId) (z : Value) (bytes : Nat) (ht : P.underlying t = some (.slice E)) (hE : (P.info? E).map (fun i => (i.zero, i.size, i.bytes)) = some (some z, size, bytes)) (hzs : z.cells.size = size) (hsz : 0 < size) (hm : ∀ cs, mine (.cells cs E (0, 0)) = true)
    (hgd : o.guard = none) (s x : Operand) (ho : o.op = .call { callee := .builtin .append, args := #[s, x], argTypes := #[t, t] }) (hs : a.eval s = sv) (h : SL base w E size sv n xs) (g m : Nat) (hx : a.eval x = .slice (some ⟨g, 0, none⟩) m m)
    (news : Array Value) (hl : news.size = m * size) (hc : ∃ t fr, w.heap[g]? = some (.cells news t fr)) (h1 : ∀ u ∈ news.toList, u.oneCell' = true)
    (hlen : n + m ≤ 1000000) (hb2 : bytes ≤ 100000) (hbase : base ≤ w.heap.size)
    (hK : ∀ v' w', SL base w' E size v' (n + m) (xs ++ news.toList) → Fr base mine w w' → wpList P ops Q rest (a.put o.dst v') w') : wpList P ops Q (o :: rest) a w := by
  obtain ⟨i, hi, hz0, hz1, hz2⟩ := info_parts hE
  obtain ⟨t', fr, hc⟩ := hc
  have hby : (n + m) * bytes ≤ 140737488355328 := Nat.le_trans (Nat.mul_le_mul hlen hb2) (by decide)
  obtain ⟨v', w', hr, r1, r2⟩ := run_append_SL (mine := mine) t o.type i z bytes ht hi hz0 hz1 hz2 hzs hsz hm h ⟨g, 0, none⟩ m m news.toList (by simpa using hl) (World.news_of_block hc) h1 (by unfold maxLen; omega) hby hbase
  refine wpList_plain hgd fun K hK' => ?_
  unfold Oper.wp
  simp only [execOp, ho, resolve, invoke, builtin, Sem.run_bind, Sem.run_pure, Result.andThen_ok, List.map_toArray, List.map_cons, List.map_nil, hs, hx, hr]
  exact hK' _ _ (hK v' w' r1 r2)
theorem step_appSL {P : Program} {mine : Obj → Bool} {ops : Array Oper} {o : Oper} {a : Act} {K : Act → World → Prop} {Q : Exit → Act → World → Prop} {F : Prop} (t : TypeId) (z : Value) (bytes : Nat) (ht : P.underlying t = some (.slice E)) (hE : (P.info? E).map (fun i => (i.zero, i.size, i.bytes)) = some (some z, size, bytes)) (hzs : z.cells.size = size) (hsz : 0 < size) (hm : ∀ cs, mine (.cells cs E (0, 0)) = true)
    (hgd : o.guard = none) (s x : Operand) (ho : o.op = .call { callee := .builtin .append, args := #[s, x], argTypes := #[t, t] }) (hs : a.eval s = sv) (h : SL base w E size sv n xs) (g m : Nat) (hx : a.eval x = .slice (some ⟨g, 0, none⟩) m m)
    (news : Array Value) (hl : news.size = m * size) (hc : ∃ t fr, w.heap[g]? = some (.cells news t fr)) (h1 : ∀ u ∈ news.toList, u.oneCell' = true)
    (hlen : n + m ≤ 1000000) (hb2 : bytes ≤ 100000) (hbase : base ≤ w.heap.size)
    (hK : ∀ v' w', SL base w' E size v' (n + m) (xs ++ news.toList) → Fr base mine w w' → K (a.put o.dst v') w') : if Region.wanted o (yielded ops a.tmps) = true then Oper.wp P o a w K Q else F := by
  have hw : Region.wanted o (yielded ops a.tmps) = true := by simp [Region.wanted, hgd]
  rw [if_pos hw]
  obtain ⟨i, hi, hz0, hz1, hz2⟩ := info_parts hE
  obtain ⟨t', fr, hc⟩ := hc
  have hby : (n + m) * bytes ≤ 140737488355328 := Nat.le_trans (Nat.mul_le_mul hlen hb2) (by decide)
  obtain ⟨v', w', hr, r1, r2⟩ := run_append_SL (mine := mine) t o.type i z bytes ht hi hz0 hz1 hz2 hzs hsz hm h ⟨g, 0, none⟩ m m news.toList (by simpa using hl) (World.news_of_block hc) h1 (by unfold maxLen; omega) hby hbase
  unfold Oper.wp
  simp only [execOp, ho, resolve, invoke, builtin, Sem.run_bind, Sem.run_pure, Result.andThen_ok, List.map_toArray, List.map_cons, List.map_nil, hs, hx, hr]
  exact hK v' w' r1 r2
/-- append of another such slice onto it. -/
theorem run_append_SS {P : Program} {mine : Obj → Bool} (t ty : TypeId) (i : TypeInfo) (z : Value) (bytes : Nat) (ht : P.underlying t = some (.slice E)) (hi : P.info? E = some i) (hz : i.zero = some z) (hsize : i.size = size) (hby : i.bytes = bytes) (hzs : z.cells.size = size) (hsz : 0 < size)
    (hm : ∀ cs, mine (.cells cs E (0, 0)) = true) (h : SL base w E size sv n xs) {base2 : Nat} {E2 : TypeId} {xv : Value} {m : Nat} {ys : List Value} (hx : SL base2 w E2 size xv m ys) (h1 : ∀ u ∈ ys, u.oneCell' = true)
    (h63 : n + m ≤ maxLen) (hbytes : (n + m) * bytes ≤ 140737488355328) (hbase : base ≤ w.heap.size) :
    ∃ v' w', (Builtin.append_ #[t, t] ty #[sv, xv]).run P w = .ok v' w' ∧ SL base w' E size v' (n + m) (xs ++ ys) ∧ Fr base mine w w' := by
  rcases hx.2 with ⟨rfl, rfl⟩ | ⟨g, off, cap, cs, rfl, hb, hbl, h3, h4, h5, h6⟩
  · have hy : ys = [] := List.eq_nil_of_length_eq_zero (by rw [hx.1]; simp)
    subst hy
    refine ⟨sv, w, ?_, by simpa using h, Fr.refl _ _ _⟩
    rcases h.2 with ⟨rfl, rfl⟩ | ⟨g, off, cap, cs, rfl, hb, hbl, h3, h4, h5, h6⟩
    · simp [Builtin.append_, run_underlying ht, sizeOf, typeInfo, hi, Builtin.lenOf, Builtin.firstCells]
    · simp [Builtin.append_, run_underlying ht, sizeOf, typeInfo, hi, Builtin.lenOf, Builtin.firstCells, h3, storeCells]
  · exact run_append_SL t ty i z bytes ht hi hz hsize hby hzs hsz hm h ⟨g, off, none⟩ m cap ys hx.1 (fun j u hj => by
      have hjl : j < m * size := by have := (List.getElem?_eq_some_iff.1 hj).1; rw [hx.1] at this; exact this
      rw [Addr.add_lit, hbl.cell, h6 j hjl]; exact hj) h1 h63 hbytes hbase
theorem step_appSS {P : Program} {mine : Obj → Bool} {ops : Array Oper} {o : Oper} {a : Act} {K : Act → World → Prop} {Q : Exit → Act → World → Prop} {F : Prop} (t : TypeId) (z : Value) (bytes : Nat) (ht : P.underlying t = some (.slice E)) (hE : (P.info? E).map (fun i => (i.zero, i.size, i.bytes)) = some (some z, size, bytes)) (hzs : z.cells.size = size) (hsz : 0 < size) (hm : ∀ cs, mine (.cells cs E (0, 0)) = true)
    (hgd : o.guard = none) (s x : Operand) (ho : o.op = .call { callee := .builtin .append, args := #[s, x], argTypes := #[t, t] }) (hs : a.eval s = sv) (h : SL base w E size sv n xs) {base2 : Nat} {E2 : TypeId} {xv : Value} {m : Nat} {ys : List Value} (hxv : a.eval x = xv) (hx : SL base2 w E2 size xv m ys) (h1 : ∀ u ∈ ys, u.oneCell' = true)
    (hlen : n + m ≤ 1000000) (hb2 : bytes ≤ 100000) (hbase : base ≤ w.heap.size)
    (hK : ∀ v' w', SL base w' E size v' (n + m) (xs ++ ys) → Fr base mine w w' → K (a.put o.dst v') w') : if Region.wanted o (yielded ops a.tmps) = true then Oper.wp P o a w K Q else F := by
  have hw : Region.wanted o (yielded ops a.tmps) = true := by simp [Region.wanted, hgd]
  rw [if_pos hw]
  obtain ⟨i, hi, hz0, hz1, hz2⟩ := info_parts hE
  have hby : (n + m) * bytes ≤ 140737488355328 := Nat.le_trans (Nat.mul_le_mul hlen hb2) (by decide)
  obtain ⟨v', w', hr, r1, r2⟩ := run_append_SS (mine := mine) t o.type i z bytes ht hi hz0 hz1 hz2 hzs hsz hm h hx h1 (by unfold maxLen; omega) hby hbase
  unfold Oper.wp
  simp only [execOp, ho, resolve, invoke, builtin, Sem.run_bind, Sem.run_pure, Result.andThen_ok, List.map_toArray, List.map_cons, List.map_nil, hs, hxv, hr]
  exact hK v' w' r1 r2
/-- a new empty one that is not nil. -/
theorem SL.lit0 (hb : base ≤ w.heap.size) : SL base (w.alloc (.cells #[] E)) E size (.slice (some ⟨w.heap.size, 0, none⟩) 0 0) 0 [] :=
  ⟨by simp, .inr ⟨w.heap.size, 0, 0, #[], rfl, hb, Blk.new _ _ _, by omega, by omega, by simp, fun j hj => by omega⟩⟩
end
end Go.Proofs.YtminokbigpckaaaDoor.Ct
