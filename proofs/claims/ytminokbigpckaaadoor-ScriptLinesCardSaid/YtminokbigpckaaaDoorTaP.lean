import Derived.Test.YtminokbigpckaaaDoorTxF
import Derived.Lib.Bytealg
/-! Words between blanks, plain. -/
namespace Go.Proofs.YtminokbigpckaaaDoor.Ct
open Go.RowKit
set_option linter.unusedVariables false
set_option linter.unusedSimpArgs false
/-- the parts of a text between blanks. -/
def wl : List UInt8 → List (List UInt8)
  | [] => [[]]
  | b :: l => if b = 32 then [] :: wl l else match wl l with | [] => [[b]] | h :: t => (b :: h) :: t
theorem wl_ne (l : List UInt8) : ∃ h t, wl l = h :: t := by
  cases l with
  | nil => exact ⟨[], [], rfl⟩
  | cons b l =>
    by_cases hb : b = 32
    · exact ⟨[], wl l, if_pos hb⟩
    · cases hw : wl l with
      | nil => exact ⟨[b], [], by show (if b = 32 then [] :: wl l else match wl l with | [] => [[b]] | h :: t => (b :: h) :: t) = _; rw [if_neg hb, hw]⟩
      | cons h t => exact ⟨b :: h, t, by show (if b = 32 then [] :: wl l else match wl l with | [] => [[b]] | h :: t => (b :: h) :: t) = _; rw [if_neg hb, hw]⟩
theorem wl_blank (l : List UInt8) : wl (32 :: l) = [] :: wl l := by
  show (if (32 : UInt8) = 32 then [] :: wl l else _) = _
  rw [if_pos rfl]
theorem wl_other {b : UInt8} (hb : b ≠ 32) {l : List UInt8} {h : List UInt8} {t : List (List UInt8)} (hw : wl l = h :: t) : wl (b :: l) = (b :: h) :: t := by
  show (if b = 32 then [] :: wl l else match wl l with | [] => [[b]] | h :: t => (b :: h) :: t) = _
  rw [if_neg hb, hw]
theorem wl_len : ∀ l : List UInt8, (wl l).length = l.count 32 + 1
  | [] => rfl
  | b :: l => by
    have ih := wl_len l
    by_cases hb : b = 32
    · subst hb; rw [wl_blank, List.count_cons_self, List.length_cons, ih]
    · obtain ⟨h, t, hw⟩ := wl_ne l
      rw [wl_other hb hw, List.count_cons_of_ne hb]
      rw [hw] at ih
      exact ih
theorem wl_miss : ∀ l : List UInt8, l.count 32 = 0 → wl l = [l]
  | [], _ => rfl
  | b :: l, h => by
    by_cases hb : b = 32
    · subst hb; rw [List.count_cons_self] at h; omega
    · rw [List.count_cons_of_ne hb] at h
      rw [wl_other hb (wl_miss l h)]
/-- a blank that comes first at i: the word ahead of it, and the rest. -/
theorem wl_hit : ∀ (l : List UInt8) (i : Nat), Lib.indexByte l 32 = (i : Int) → wl l = l.take i :: wl (l.drop (i + 1)) ∧ i < l.length ∧ (l.drop (i + 1)).count 32 + 1 = l.count 32
  | [], i, h => by unfold Lib.indexByte at h; omega
  | b :: l, i, h => by
    unfold Lib.indexByte at h
    by_cases hb : b = 32
    · rw [if_pos (by simp [hb])] at h
      obtain rfl : i = 0 := by omega
      subst hb
      exact ⟨by rw [wl_blank]; rfl, by simp, by rw [List.count_cons_self]; rfl⟩
    · rw [if_neg (by simpa using hb)] at h
      have hge := Lib.indexByte_ge l 32
      by_cases hm : Lib.indexByte l 32 = -1
      · rw [if_pos (by simp [hm])] at h; omega
      · rw [if_neg (by simpa using hm)] at h
        obtain ⟨k, rfl⟩ : ∃ k, i = k + 1 := ⟨i - 1, by omega⟩
        obtain ⟨h1, h2, h3⟩ := wl_hit l k (by omega)
        refine ⟨?_, by simp; omega, by rw [List.count_cons_of_ne hb]; exact h3⟩
        rw [wl_other hb h1]
        rfl
theorem index_some {l : List UInt8} (h : 0 < l.count 32) : ∃ i : Nat, Lib.indexByte l 32 = (i : Int) := by
  have hge := Lib.indexByte_ge l 32
  by_cases hm : Lib.indexByte l 32 = -1
  · exfalso
    clear hge
    induction l with
    | nil => simp at h
    | cons b l ih =>
      unfold Lib.indexByte at hm
      by_cases hb : b = 32
      · rw [if_pos (by simp [hb])] at hm; omega
      · rw [if_neg (by simpa using hb)] at hm
        rw [List.count_cons_of_ne hb] at h
        have hge := Lib.indexByte_ge l 32
        by_cases hm2 : Lib.indexByte l 32 = -1
        · exact ih h hm2
        · rw [if_neg (by simpa using hm2)] at hm; omega
  · exact ⟨(Lib.indexByte l 32).toNat, by omega⟩
/-- as texts. -/
def wB (s : ByteArray) : List ByteArray := (wl s.data.toList).map fun l => ⟨l.toArray⟩
theorem toList_extract (s : ByteArray) (a b : Nat) : (s.extract a b).data.toList = (s.data.toList.take b).drop a := by
  rw [List.drop_take]
  simp [ByteArray.data_extract]
theorem ba_eq {s : ByteArray} {l : List UInt8} (h : s.data.toList = l) : s = ⟨l.toArray⟩ := by
  apply ByteArray.ext
  rw [← h]
theorem wB_len (s : ByteArray) : (wB s).length = s.data.toList.count 32 + 1 := by unfold wB; rw [List.length_map, wl_len]
theorem wB_miss {s : ByteArray} (h : s.data.toList.count 32 = 0) : wB s = [s] := by
  unfold wB
  rw [wl_miss _ h, List.map_singleton, ← ba_eq rfl]
theorem wB_hit {s : ByteArray} {i : Nat} (h : Lib.indexByte s.data.toList 32 = (i : Int)) : wB s = s.extract 0 i :: wB (s.extract (i + 1) s.size) ∧ i < s.size ∧ (s.extract (i + 1) s.size).data.toList.count 32 + 1 = s.data.toList.count 32 := by
  obtain ⟨h1, h2, h3⟩ := wl_hit _ i h
  have e1 : s.data.toList.length = s.size := by simp
  have e2 : (s.extract (i + 1) s.size).data.toList = s.data.toList.drop (i + 1) := by rw [toList_extract, ← e1, List.take_length]
  refine ⟨?_, by omega, by rw [e2]; exact h3⟩
  unfold wB
  rw [h1, e2, List.map_cons]
  congr 1
  rw [ba_eq (toList_extract s 0 i), List.drop_zero]
end Go.Proofs.YtminokbigpckaaaDoor.Ct
