import Derived.Test.YtjjhfllpbicclaaObj
import Derived.MapKept
import Derived.Carry
/-! Maps of the call's own, keyed by uint64, of ints: as a list of pairs. -/
namespace Go.Proofs.Ytjjhfllpbicclaa.Ct
open Go.RowKit
open Go.MapKept
set_option linter.unusedVariables false
set_option linter.unusedSimpArgs false
abbrev KV := Int × Int
def getM : List KV → Int → Int
  | [], _ => 0
  | p :: M, k => if p.1 = k then p.2 else getM M k
def putM : List KV → Int → Int → List KV
  | [], k, v => [(k, v)]
  | p :: M, k, v => if p.1 = k then (k, v) :: M else p :: putM M k v
def delM : List KV → Int → List KV
  | [], _ => []
  | p :: M, k => if p.1 = k then M else p :: delM M k
def idxM : List KV → Int → Option Nat
  | [], _ => none
  | p :: M, k => if p.1 = k then some 0 else (idxM M k).map (· + 1)
def enF (x : MapEntry) : Value × Value := (x.key, x.val)
def kvF (p : KV) : Value × Value := (.int .u64 p.1, .int .i64 p.2)
/-- block g is a map that holds these pairs, in this order. -/
def MapU (w : World) (g : Nat) (M : List KV) : Prop := ∃ es clock, w.heap[g]? = some (.map es clock) ∧ es.toList.map enF = M.map kvF
theorem MapU.lt {w : World} {g : Nat} {M : List KV} (h : MapU w g M) : g < w.heap.size := by
  obtain ⟨es, c, h, _⟩ := h
  exact (Array.getElem?_eq_some_iff.1 h).1
theorem MapU.below {w w' : World} {g : Nat} {M : List KV} (h : MapU w g M) (hb : Below w.heap.size w w') : MapU w' g M := by
  have hl := h.lt
  obtain ⟨es, c, h, e⟩ := h
  exact ⟨es, c, (hb.block g hl).trans h, e⟩
theorem MapU.far {w : World} {g : Nat} {M : List KV} (h : MapU w g M) {p : Addr} (hne : g ≠ p.block) (u : Value) : MapU (w.setCell p u) g M := by
  obtain ⟨es, c, hb, e⟩ := h
  exact ⟨es, c, (Below.heap_setCell w p u g hne).trans hb, e⟩
theorem mapU_made (w : World) : MapU (w.alloc (.map #[] 0)) w.heap.size [] := ⟨#[], 0, (heap_alloc w _).1, rfl⟩
theorem findNow_idx (k : Int) : ∀ (M : List KV) (l : List MapEntry) (i : Nat), l.map enF = M.map kvF →
    Instr.findNow (.int .u64) (.int .u64 k) l i = some (match idxM M k with | none => none | some j => some (i + j, .int .i64 (getM M k))) := by
  intro M
  induction M with
  | nil =>
    intro l i h
    cases l with
    | nil => rfl
    | cons e l => simp at h
  | cons p M ih =>
    intro l i h
    cases l with
    | nil => simp at h
    | cons e l =>
      simp only [List.map_cons, List.cons.injEq] at h
      obtain ⟨h1, h2⟩ := h
      simp only [enF, kvF, Prod.mk.injEq] at h1
      obtain ⟨hk, hv⟩ := h1
      unfold Instr.findNow idxM getM
      rw [hk, hv]
      simp only [Instr.sameNow, if_true]
      by_cases hpk : p.1 = k
      · rw [if_pos hpk, if_pos hpk]
        simp [hpk]
      · have hkp : (k == p.1) = false := beq_eq_false_iff_ne.2 (fun e => hpk e.symm)
        rw [if_neg hpk, if_neg hpk, hkp]
        simp only
        rw [ih l (i + 1) h2]
        cases idxM M k with
        | none => rfl
        | some j => simp; omega
theorem put_none {k v : Int} : ∀ {M : List KV}, idxM M k = none → putM M k v = M ++ [(k, v)] := by
  intro M
  induction M with
  | nil => intro _; rfl
  | cons p M ih =>
    intro h
    unfold idxM at h
    unfold putM
    split at h
    · cases h
    · rename_i hk
      rw [if_neg hk, ih (by cases hi : idxM M k with | none => rfl | some j => rw [hi] at h; cases h)]
      rfl
theorem put_some {k v : Int} (b : MapEntry → Nat) : ∀ {M : List KV} {l : List MapEntry} {j : Nat}, idxM M k = some j → l.map enF = M.map kvF →
    (l.modify j fun e => { e with key := .int .u64 k, val := .int .i64 v }).map enF = (putM M k v).map kvF := by
  intro M
  induction M with
  | nil => intro l j h; cases h
  | cons p M ih =>
    intro l j h hl
    cases l with
    | nil => simp at hl
    | cons e l =>
      simp only [List.map_cons, List.cons.injEq] at hl
      unfold idxM at h
      unfold putM
      split at h
      · rename_i hk
        rw [if_pos hk]
        injection h with h
        subst h
        simp only [List.modify_zero_cons, List.map_cons, hl.2]
        rfl
      · rename_i hk
        rw [if_neg hk]
        cases hi : idxM M k with
        | none => rw [hi] at h; cases h
        | some j' =>
          rw [hi] at h
          injection h with h
          subst h
          simp only [List.modify_succ_cons, List.map_cons]
          rw [ih hi hl.2, hl.1]
theorem del_none {k : Int} : ∀ {M : List KV}, idxM M k = none → delM M k = M := by
  intro M
  induction M with
  | nil => intro _; rfl
  | cons p M ih =>
    intro h
    unfold idxM at h
    unfold delM
    split at h
    · cases h
    · rename_i hk
      rw [if_neg hk, ih (by cases hi : idxM M k with | none => rfl | some j => rw [hi] at h; cases h)]
theorem del_some {k : Int} : ∀ {M : List KV} {l : List MapEntry} {j : Nat}, idxM M k = some j → l.map enF = M.map kvF → (l.eraseIdx j).map enF = (delM M k).map kvF := by
  intro M
  induction M with
  | nil => intro l j h; cases h
  | cons p M ih =>
    intro l j h hl
    cases l with
    | nil => simp at hl
    | cons e l =>
      simp only [List.map_cons, List.cons.injEq] at hl
      unfold idxM at h
      unfold delM
      split at h
      · rename_i hk
        rw [if_pos hk]
        injection h with h
        subst h
        exact hl.2
      · rename_i hk
        rw [if_neg hk]
        cases hi : idxM M k with
        | none => rw [hi] at h; cases h
        | some j' =>
          rw [hi] at h
          injection h with h
          subst h
          simp only [List.eraseIdx_cons_succ, List.map_cons]
          rw [ih hi hl.2, hl.1]
theorem get_none {k : Int} : ∀ {M : List KV}, idxM M k = none → getM M k = 0 := by
  intro M
  induction M with
  | nil => intro _; rfl
  | cons p M ih =>
    intro h
    unfold idxM at h
    unfold getM
    split at h
    · cases h
    · rename_i hk
      rw [if_neg hk, ih (by cases hi : idxM M k with | none => rfl | some j => rw [hi] at h; cases h)]
/-- one map's block is written, nothing else. -/
structure MapTo (w w' : World) (g : Nat) : Prop where
  os : w'.os = w.os
  tape : w'.tape = w.tape
  output : w'.output = w.output
  size : w'.heap.size = w.heap.size
  block : ∀ i, i ≠ g → w'.heap[i]? = w.heap[i]?
theorem mapTo_set {w : World} {g : Nat} {o o' : Obj} (h : w.heap[g]? = some o) : MapTo w { w with heap := w.heap.setIfInBounds g o' } g := ⟨rfl, rfl, rfl, by simp, fun i hi => (heap_set h).2 i hi⟩
theorem MapTo.blk {w w' : World} {g b : Nat} {t : TypeId} {cs : Array Value} (h : MapTo w w' g) (hb : Blk w b t cs) (hne : b ≠ g) : Blk w' b t cs := (h.block b hne).trans hb
theorem MapTo.below {B : Nat} {w0 w w' : World} {g : Nat} (h : MapTo w w' g) (hb : Below B w0 w) (hg : B ≤ g) : Below B w0 w' :=
  ⟨h.os.trans hb.os, h.tape.trans hb.tape, h.output.trans hb.output, by rw [h.size]; exact hb.size, fun i hi => (h.block i (by omega)).trans (hb.block i hi)⟩
section
variable {P : Program} {w : World} {g : Nat} {M : List KV} {T K E : TypeId}
theorem run_lookU (hT : P.underlying T = some (.map K E)) (hK : P.underlying K = some (.int .u64)) (hE : ∀ w, (zeroValue E).run P w = .ok (.int .i64 0) w) (h : MapU w g M) (k : Int) :
    (Instr.lookup T (.map (some g)) (.int .u64 k) false).run P w = .ok (.int .i64 (getM M k)) w := by
  obtain ⟨es, c, hb, he⟩ := h
  have hf := findNow_idx k M es.toList 0 he
  unfold Instr.lookup
  simp only [Sem.run_bind, run_underlying hT, Result.andThen, Go.MapKept.run_getObj_map hb, Sem.run_pure, run_checkKey hK (show IsKey (.int .u64) (.int .u64 k) from rfl)]
  rw [run_findKey hK hf]
  cases hi : idxM M k with
  | none => simp [Sem.run_bind, Result.andThen, hE, get_none hi]
  | some j => simp [Sem.run_bind, Result.andThen]
theorem run_updU (hT : P.underlying T = some (.map K E)) (hK : P.underlying K = some (.int .u64)) (h : MapU w g M) (k v : Int) :
    ∃ w', (Instr.mapUpdate T (.map (some g)) (.int .u64 k) (.int .i64 v)).run P w = .ok () w' ∧ MapU w' g (putM M k v) ∧ MapTo w w' g := by
  obtain ⟨es, c, hb, he⟩ := h
  have hf := findNow_idx k M es.toList 0 he
  unfold Instr.mapUpdate
  simp only [Sem.run_bind, run_underlying hT, Result.andThen, Go.MapKept.run_getObj_map hb, Sem.run_pure, run_checkKey hK (show IsKey (.int .u64) (.int .u64 k) from rfl)]
  rw [run_findKey hK hf]
  cases hi : idxM M k with
  | none =>
    simp only
    refine ⟨_, run_setObj_map _ hb, ⟨_, _, (heap_set hb).1, ?_⟩, mapTo_set hb⟩
    rw [put_none hi, Array.toList_push, List.map_append, List.map_append, he]
    rfl
  | some j =>
    simp only [Nat.zero_add]
    have hkey : ((es[j]?).map (·.key)).getD (.int .u64 k) = .int .u64 k := by
      have : ∀ (M : List KV) (l : List MapEntry) (j : Nat), idxM M k = some j → l.map enF = M.map kvF → ((l[j]?).map (·.key)).getD (.int .u64 k) = .int .u64 k := by
        intro M
        induction M with
        | nil => intro l j h; cases h
        | cons p M ih =>
          intro l j h hl
          cases l with
          | nil => simp at hl
          | cons e l =>
            simp only [List.map_cons, List.cons.injEq] at hl
            unfold idxM at h
            split at h
            · rename_i hk
              injection h with h
              subst h
              have := congrArg Prod.fst hl.1
              simp only [enF, kvF] at this
              simp [this, hk]
            · cases hi : idxM M k with
              | none => rw [hi] at h; cases h
              | some j' =>
                rw [hi] at h
                injection h with h
                subst h
                simpa using ih l j' hi hl.2
      simpa using this M es.toList j hi he
    rw [hkey]
    simp only [Sem.run_bind, run_keyThatStays (show IsKey (.int .u64) (.int .u64 k) from rfl), Result.andThen]
    refine ⟨_, run_setObj_map _ hb, ⟨_, _, (heap_set hb).1, ?_⟩, mapTo_set hb⟩
    rw [← put_some (fun _ => 0) hi he]
    congr 1
    simp [Array.toList_modify]
theorem run_delU {ty : TypeId} (hT : P.underlying T = some (.map K E)) (hK : P.underlying K = some (.int .u64)) (h : MapU w g M) (k : Int) :
    ∃ w', (Builtin.delete_ #[T, K] ty #[.map (some g), .int .u64 k]).run P w = .ok (.tuple #[]) w' ∧ MapU w' g (delM M k) ∧ MapTo w w' g := by
  obtain ⟨es, c, hb, he⟩ := h
  have hf := findNow_idx k M es.toList 0 he
  unfold Builtin.delete_
  simp only [List.getElem?_toArray, List.getElem?_cons_zero, List.getElem?_cons_succ, Sem.run_bind, run_underlying hT, Result.andThen, Go.MapKept.run_getObj_map hb, Sem.run_pure, run_checkKey hK (show IsKey (.int .u64) (.int .u64 k) from rfl)]
  rw [run_findKey hK hf]
  cases hi : idxM M k with
  | none =>
    simp only [Sem.run_bind, run_setObj_map (.map es c) hb, Result.andThen, Sem.run_pure]
    refine ⟨_, rfl, ⟨_, _, (heap_set hb).1, ?_⟩, mapTo_set hb⟩
    rw [del_none hi]; exact he
  | some j =>
    simp only [Nat.zero_add, Sem.run_bind, run_setObj_map (.map (es.eraseIdxIfInBounds j) c) hb, Result.andThen, Sem.run_pure]
    refine ⟨_, rfl, ⟨_, _, (heap_set hb).1, ?_⟩, mapTo_set hb⟩
    rw [← del_some hi he]
    congr 1
    simp
theorem run_lenU {ty : TypeId} (hT : P.underlying T = some (.map K E)) (h : MapU w g M) : (Builtin.len_ #[T] ty #[.map (some g)]).run P w = .ok (.int .i64 M.length) w := by
  obtain ⟨es, c, hb, he⟩ := h
  have hl : es.size = M.length := by have := congrArg List.length he; simpa using this
  unfold Builtin.len_
  simp only [List.getElem?_toArray, List.getElem?_cons_zero, Sem.run_bind, run_underlying hT, Result.andThen, Go.MapKept.run_getObj_map hb, Sem.run_pure]
  rw [hl]; rfl
theorem run_clrU {ty : TypeId} (hT : P.underlying T = some (.map K E)) (h : MapU w g M) : ∃ w', (Builtin.clear_ #[T] ty #[.map (some g)]).run P w = .ok (.tuple #[]) w' ∧ MapU w' g [] ∧ MapTo w w' g := by
  obtain ⟨es, c, hb, he⟩ := h
  unfold Builtin.clear_
  simp only [List.getElem?_toArray, List.getElem?_cons_zero, Sem.run_bind, run_underlying hT, Result.andThen, Go.MapKept.run_getObj_map hb, run_setObj_map (.map #[] c) hb, Sem.run_pure]
  exact ⟨_, rfl, ⟨_, _, (heap_set hb).1, rfl⟩, mapTo_set hb⟩
end
end Go.Proofs.Ytjjhfllpbicclaa.Ct
