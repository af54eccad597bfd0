import Derived.Test.YtminokbigpckaaaDoorTaP
import Derived.Test.YtminokbigpckaaaDoorObj
import Derived.Test.YtminokbigpckaaaDoorShelf
import Derived.Laws.OwnMore
/-! strings.Split at a blank. -/
namespace Go.Proofs.YtminokbigpckaaaDoor.Ct
open Go.RowKit
set_option linter.unusedVariables false
set_option linter.unusedSimpArgs false
def svV (l : List ByteArray) (N : Nat) : List Value := (List.range N).map fun j => .string (l.getD j ByteArray.empty)
theorem svV_get (l : List ByteArray) {N j : Nat} (h : j < N) : (svV l N).toArray[j]? = some (.string (l.getD j ByteArray.empty)) := by simp [svV, h]
theorem svV_set (l : List ByteArray) (N : Nat) (x : ByteArray) : (svV l N).toArray.setIfInBounds l.length (.string x) = (svV (l ++ [x]) N).toArray := by
  apply Array.ext_getElem?
  intro i
  rw [Array.getElem?_setIfInBounds]
  by_cases hi : i < N
  · rw [svV_get _ hi]
    by_cases e : l.length = i
    · subst e
      rw [if_pos rfl, if_pos (by simpa [svV] using hi), svV_get _ hi]
      simp
    · rw [if_neg e, svV_get _ hi]
      congr 2
      rw [List.getD_eq_getElem?_getD, List.getD_eq_getElem?_getD]
      by_cases h2 : i < l.length
      · rw [List.getElem?_append_left h2]
      · rw [List.getElem?_eq_none (by omega), List.getElem?_eq_none (by simp; omega)]
  · have hn : ∀ l : List ByteArray, (svV l N).toArray[i]? = none := fun l => Array.getElem?_eq_none (by simp [svV]; omega)
    rw [hn, hn]
    by_cases e : l.length = i
    · rw [if_pos e, if_neg (by simp [svV]; omega)]
    · rw [if_neg e]
theorem svV_full (l : List ByteArray) : svV l l.length = l.map Value.string := by
  apply List.ext_getElem?
  intro i
  by_cases h : i < l.length
  · simp [svV, h]
  · simp [svV, h]
theorem infoS : (Tryd.prog.info? 9).map (fun i => (i.zero, i.size, i.bytes)) = some (some (.string ByteArray.empty), 1, 16) := by kernel_rfl
theorem run_mkStr (N : Nat) (hN : N ≤ 1000000) (w : World) : (Instr.makeSlice 31 (.int .i64 (N : Int)) (.int .i64 (N : Int))).run Tryd.prog w = .ok (.slice (some ⟨w.heap.size, 0, none⟩) N N) (w.alloc (.cells (svV [] N).toArray 9)) := by
  obtain ⟨i, hi, hz0, hz1, hz2⟩ := info_parts infoS
  have h := run_makeSlice (P := Tryd.prog) w 31 9 i _ Tryd.underlying31 hi hz0 .i64 .i64 N N (by omega) (by omega) (by rw [hz1]; simp; omega) (by rw [hz2]; omega) (by omega)
  rw [h, hz1]
  simp only [Int.toNat_natCast, Nat.mul_one]
  congr 3
  unfold madeCells svV
  apply Array.ext_getElem?
  intro j
  by_cases hj : j < N
  · simp [hj]
    show (#[Value.string ByteArray.empty])[j % 1]! = _
    rw [Nat.mod_one]; rfl
  · simp [hj]
set_option maxRecDepth 10000 in
set_option maxHeartbeats 4000000 in
theorem genSplit_calls (s : ByteArray) (w : World) (hs : s.size ≤ 900000) :
    Calls Tryd.prog 52 #[.string s, .string ⟨#[32]⟩, .int .i64 0, .int .i64 (-1)] w fun e w' => ∃ g, e = .returned (.slice (some ⟨g, 0, none⟩) (wB s).length (wB s).length) ∧ w.heap.size ≤ g ∧ Blk w' g 9 ((wB s).map Value.string).toArray ∧ Below w.heap.size w w' := by
  have CC := Lib.hid (fun w => (Tryd.strings_Count_one s 32 w).mono fun e w' h => And.intro h.1 h.2.symm)
  have IC := Lib.hid (fun r w => (Tryd.strings_Index_one r 32 w).mono fun e w' h => And.intro h.1 h.2.symm)
  obtain ⟨k, hk⟩ : ∃ k, Lib.countByte s.data.toList 32 = k := ⟨_, rfl⟩
  have hkl : k ≤ s.size := by rw [← hk]; have := List.count_le_length (a := (32 : UInt8)) (l := s.data.toList); simpa [Lib.countByte] using this
  have hln : (wB s).length = k + 1 := by rw [wB_len, ← hk]; rfl
  have mk := fun W => show (Instr.makeSlice 31 (.int .i64 ((k : Int) + 1)) (.int .i64 ((k : Int) + 1))).run Tryd.prog W = .ok (.slice (some ⟨W.heap.size, 0, none⟩) (k + 1) (k + 1)) (W.alloc (.cells (svV [] (k + 1)).toArray 9)) from run_mkStr (k + 1) (by omega) W
  have mn := fun (ts : Array TypeId) (t : TypeId) (w : World) => min_run (P := Tryd.prog) ((k : Int) + 1) ((s.size : Int) + 1) ts t w
  rw [show min ((k : Int) + 1) ((s.size : Int) + 1) = (k : Int) + 1 by omega] at mn
  rw [hk] at CC
  rw [hln]
  have KB := Lib.hid (Blk.new w 9 (svV [] (k + 1)).toArray)
  have HB0 := Lib.hid (below_alloc (Below.refl w.heap.size w) (.cells (svV [] (k + 1)).toArray 9))
  have HK := Lib.hid hk
  clear hk
  go_enter Tryd.func52, Tryd.ntmps52
  go_wp2_with (first
    | (go_at_call 43; (with_reducible refine (CC.out _).mono ?_); rintro e w1 ⟨rfl, rfl⟩))
  clear mk mn CC
  go_loopw [0, 10, 11] (fun r i _ wr => ∃ (rs : ByteArray) (done : List ByteArray), r = .string rs ∧ i = .int .i64 (done.length : Nat) ∧ wB s = done ++ wB rs ∧ done.length ≤ k ∧ rs.size ≤ 900000 ∧ Blk wr w.heap.size 9 (svV done (k + 1)).toArray ∧ Below w.heap.size w wr) (fun _ i _ _ => k - (intOf i).toNat)
  case atStart => exact ⟨s, [], rfl, rfl, rfl, by simp, hs, KB.out, HB0.out⟩
  case round =>
    clear KB HB0
    obtain ⟨rs, done, rfl, rfl, hw, hd, hrs, hbk, hb⟩ := hrel
    have HW := Lib.hid hw
    have HBK := Lib.hid hbk
    have HB := Lib.hid hb
    have HLN := Lib.hid hln
    have hcount : rs.data.toList.count 32 + done.length = k := by
      have h1 := congrArg List.length hw
      rw [List.length_append, wB_len rs] at h1
      omega
    clear hw hbk hb
    have hfz := HBK.out.frozen done.length
    have hcell := (HBK.out.cell done.length).trans (svV_get done (by omega))
    have SET := Lib.hid (fun x => svV_set done (k + 1) x)
    by_cases hlt : done.length < k
    · obtain ⟨m, hm⟩ := index_some (l := rs.data.toList) (by omega)
      obtain ⟨q1, q2, q3⟩ := wB_hit hm
      have IX := Lib.hid (IC.out rs wr)
      rw [hm] at IX
      have Q1 := Lib.hid q1
      have hm1 : ¬ (m : Int) < 0 := by omega
      have hm2 : (m : Int) ≤ rs.size := by omega
      have hm3 : (m : Int) + 1 ≤ rs.size := by omega
      have hlti : (done.length : Int) < k := by omega
      have BK2 := Lib.hid (HBK.out.set_ done.length (.string (rs.extract 0 m)))
      rw [SET.out] at BK2
      have B2 := Lib.hid (HB.out.setCell (p := ⟨w.heap.size, done.length, none⟩) (Nat.le_refl _) (.string (rs.extract 0 m)))
      have SZ := Lib.hid (show (rs.extract (m + 1) rs.size).size ≤ 900000 by rw [ByteArray.size_extract]; omega)
      clear hm q1 q3 hcount SET HBK HB
      go_wp2_with (first
        | (go_at_call 58; (with_reducible refine (IX.out).mono ?_); rintro e w2 ⟨rfl, rfl⟩))
      exact ⟨⟨_, done ++ [rs.extract 0 m], rfl, by rw [List.length_append]; go_num, by rw [HW.out, Q1.out, List.append_assoc]; rfl, by rw [List.length_append]; exact hlt, SZ.out, BK2.out, B2.out⟩, by simp [intOf]; omega⟩
    · have hdk : done.length = k := by omega
      have hmiss := wB_miss (s := rs) (by omega)
      have ALL := Lib.hid (show wB s = done ++ [rs] by rw [HW.out, hmiss])
      have BK2 := Lib.hid (HBK.out.set_ done.length (.string rs))
      rw [SET.out, ← hdk, show done.length + 1 = (done ++ [rs]).length by simp, svV_full] at BK2
      have B2 := Lib.hid (HB.out.setCell (p := ⟨w.heap.size, done.length, none⟩) (Nat.le_refl _) (.string rs))
      clear hcount SET HBK HB hmiss HW hd hlt
      generalize done.length = d at *
      subst hdk
      have hlti : (d : Int) < ((d + 1 : Nat) : Int) := by omega
      have hsl : (d : Int) + 1 ≤ ((d + 1 : Nat) : Int) := by omega
      go_wp2
      go_ret
      exact ⟨_, rfl, Nat.le_refl _, by rw [ALL.out]; exact BK2.out, B2.out⟩
theorem split_calls (s : ByteArray) (w : World) (hs : s.size ≤ 900000) :
    Calls Tryd.prog 36 #[.string s, .string ⟨#[32]⟩] w fun e w' => ∃ g, e = .returned (.slice (some ⟨g, 0, none⟩) (wB s).length (wB s).length) ∧ w.heap.size ≤ g ∧ Blk w' g 9 ((wB s).map Value.string).toArray ∧ Below w.heap.size w w' := by
  have GC := Lib.hid (genSplit_calls s w hs)
  go_enter Tryd.func36, Tryd.ntmps36
  go_wp2_with (go_at_call 52; (with_reducible refine (GC.out).mono ?_); rintro e w1 ⟨g, rfl, h1, h2, h3⟩; have H1 := Lib.hid h1; have H2 := Lib.hid h2; have H3 := Lib.hid h3; clear h1 h2 h3)
  go_ret
  exact ⟨g, rfl, H1.out, H2.out, H3.out⟩
end Go.Proofs.YtminokbigpckaaaDoor.Ct
