import Derived.Test.YtdmlpggommephaaApB
/-! Answers: few. -/
namespace Go.Proofs.Ytdmlpggommephaa.Ct
open Go.RowKit
set_option linter.unusedVariables false
set_option linter.unusedSimpArgs false
theorem infoY : (Try.prog.info? 69).map (fun i => (i.zero, i.size, i.bytes)) = some (some (.agg #[.int .i64 0, .slice none 0 0]), 2, 32) := by kernel_rfl
def mineY : Obj → Bool | .cells _ t _ => t == 69 | _ => false
theorem mineY_y : ∀ cs, mineY (.cells cs 69 (0, 0)) = true := fun _ => rfl
def cutR (r : Rp) : Rp := ⟨r.e, r.d.take 70⟩
def fewN (L : List Rp) (k : Nat) : List Rp := (List.range k).map fun j => cutR (L.getD j noRp)
theorem fewN_len (L : List Rp) (k : Nat) : (fewN L k).length = k := by simp [fewN]
theorem fewN_succ (L : List Rp) (k : Nat) : fewN L (k + 1) = fewN L k ++ [cutR (L.getD k noRp)] := by unfold fewN; rw [List.range_succ, List.map_append]; rfl
/-- the cells of a row of answers whose octets lie in a world. -/
def FlatY (w : World) (xs : List Value) (L : List Rp) : Prop :=
  xs.length = L.length * 2 ∧ ∀ j, j < L.length → ∃ da dc, xs[j * 2]? = some (.int .i64 (L.getD j noRp).e) ∧ xs[j * 2 + 1]? = some (.slice da (L.getD j noRp).d.length dc) ∧ Row .u8 w da (L.getD j noRp).d ∧ (L.getD j noRp).d.length ≤ dc ∧ dc ≤ 9223372036854775807
theorem FlatY.nil (w : World) : FlatY w [] [] := ⟨rfl, fun j hj => by simp at hj⟩
theorem FlatY.snoc {w : World} {xs : List Value} {L : List Rp} (h : FlatY w xs L) {e : Int} {d : List Int} {n : Nat} {da : Option Addr} {dc : Nat} (hn : d.length = n) (hr : Row .u8 w da d) (h1 : d.length ≤ dc) (h2 : dc ≤ 9223372036854775807) :
    FlatY w (xs ++ [.int .i64 e, .slice da n dc]) (L ++ [⟨e, d⟩]) := by
  subst hn
  have hl := h.1
  refine ⟨by rw [List.length_append, List.length_append, hl]; simp; omega, fun j hj => ?_⟩
  rw [List.length_append] at hj
  simp at hj
  by_cases hjl : j < L.length
  · obtain ⟨fa, fc, k1, k2, k3⟩ := h.2 j hjl
    have e : (L ++ [(⟨e, d⟩ : Rp)]).getD j noRp = L.getD j noRp := by rw [List.getD_eq_getElem?_getD, List.getD_eq_getElem?_getD, List.getElem?_append_left hjl]
    rw [e]
    exact ⟨fa, fc, by rw [List.getElem?_append_left (by omega)]; exact k1, by rw [List.getElem?_append_left (by omega)]; exact k2, k3⟩
  · obtain rfl : j = L.length := by omega
    have e : (L ++ [(⟨e, d⟩ : Rp)]).getD L.length noRp = ⟨e, d⟩ := by simp [List.getD_eq_getElem?_getD]
    rw [e]
    refine ⟨da, dc, ?_, ?_, hr, h1, h2⟩
    all_goals rw [List.getElem?_append_right (by omega), hl]
    all_goals simp
theorem rowY_of_SL {w w' : World} {base c n : Nat} {a : Option Addr} {xs : List Value} {L : List Rp} (hn : L.length = n) (h : SL base w' 69 2 (.slice a n c) n xs) (hf : FlatY w xs L) (hb : Below w.heap.size w w') : RowY w' a L := by
  subst hn
  refine ⟨?_, fun hp => ?_⟩
  · obtain ⟨_, c', e, hc, hm⟩ := h.form
    unfold maxLen; omega
  · obtain ⟨g, off, cap, cs, e, hb', hblk, hn, hm, hc⟩ := h.at_ hp
    simp only [Value.slice.injEq] at e
    obtain ⟨rfl, -, rfl⟩ := e
    refine ⟨_, rfl, fun j hj => ?_⟩
    obtain ⟨da, dc, h1, h2, h3, h4, h5⟩ := hf.2 j hj
    refine ⟨da, dc, ?_, ?_, h3.below hb, h4, h5⟩
    · rw [Addr.add_lit, hblk.cell, hc _ (by omega), h1]
    · rw [Addr.add_lit]; show w'.cell? ⟨g, off + j * 2 + 1, none⟩ = _; rw [Nat.add_assoc, hblk.cell, hc _ (by omega), h2]
def LoopF (w : World) (L : List Rp) (k : Nat) (v : Value) (wr : World) : Prop := ∃ xs, SL w.heap.size wr 69 2 v k xs ∧ FlatY w xs (fewN L k) ∧ Below w.heap.size w wr
set_option maxHeartbeats 8000000 in
theorem afew_calls (a : Option Addr) (cap : Nat) (L : List Rp) (w : World) (h : RowY w a L) :
    Calls Try.prog 14 #[.slice a L.length cap] w fun e w' => ∃ a' c', e = .returned (.slice a' (min L.length 30) c') ∧ RowY w' a' (fewN L (min L.length 30)) ∧ Below w.heap.size w w' := by
  obtain ⟨N, hN⟩ : ∃ n, min L.length 30 = n := ⟨_, rfl⟩
  rw [hN]
  have HN := Lib.hid (show (L.length ≤ N ∧ N = L.length) ∨ (N < L.length ∧ N = 30) by omega)
  have hN1 : N ≤ L.length := by omega
  have hN2 : N ≤ 30 := by omega
  have hl := h.len
  have H := Lib.hid h
  have L0 : Hid (LoopF w L 0 (.slice none 0 0) w) := Lib.hid ⟨[], SL.nil _ _ _ _, FlatY.nil w, Below.refl _ _⟩
  clear h hN
  go_enter Try.func14, Try.ntmps14
  go_wp2
  go_loopw [3, 4] (fun v i wr => ∃ k : Nat, k ≤ N ∧ i = .int .i64 k ∧ LoopF w L k v wr) (fun _ i _ => N - (intOf i).toNat)
  case atStart => exact ⟨0, by omega, rfl, L0.out⟩
  case round =>
    obtain ⟨k, hk, rfl, xs, hsl, hfl, hbel⟩ := hrel
    have HS := Lib.hid hsl
    have HF := Lib.hid hfl
    have HB := Lib.hid hbel
    have hsz := hbel.size
    obtain ⟨va, vc, hv, -, -⟩ := hsl.form
    subst hv
    clear hsl hfl L0
    by_cases hlt : k < N
    · have hx1 : k < L.length := by omega
      have hxi : (k : Int) < L.length := by omega
      have hk30 : (k : Int) < 30 := by omega
      obtain ⟨ad, rfl, da, dc, c0, c1, hr1, hd1, hd2⟩ := (H.out.below hbel).at_ hx1
      obtain ⟨ad', e', da', dc', c0', c1', hr2, -, -⟩ := H.out.at_ hx1
      have hda : Row .u8 w da (L.getD k noRp).d := by
        injection e' with e'
        subst e'
        have := (bget hbel c1').symm.trans c1
        injection this with this
        injection this with this
        subst this
        exact hr2
      have HD := Lib.hid hda
      have FN := Lib.hid (fewN_succ L k)
      clear hr1 hr2 c0' c1' e' hda
      generalize L.getD k noRp = x at *
      obtain ⟨e, d⟩ := x
      have FS := Lib.hid (fun (n dn : Nat) (hn : (d.take 70).length = n) (h1 : (d.take 70).length ≤ dn) (h2 : dn ≤ 9223372036854775807) => (show FlatY w (xs ++ [.int .i64 e, .slice da n dn]) (fewN L (k + 1)) by rw [FN.out]; exact HF.out.snoc hn (HD.out.take 70) h1 h2))
      dsimp only at *
      have hdl := HD.out.len
      obtain ⟨n, hn⟩ : ∃ n : Nat, d.length = n := ⟨_, rfl⟩
      have HT := Lib.hid (show (d.take 70).length = min 70 n by rw [List.length_take, hn])
      rw [hn] at c1 hd1 hdl
      by_cases h70 : 70 < n
      · obtain ⟨dd, rfl, -⟩ := HD.out.2.2 (by omega)
        have F2 := Lib.hid (FS.out 70 dc (by rw [HT.out]; omega) (by rw [HT.out]; omega) hd2)
        clear FS HT hn HD
        go_upto_region 8 with (fail)
        have HSA := Lib.hid (fun (o o' : Obj) => (HS.out.alloc o).alloc o')
        have HBA := Lib.hid (fun (o o' : Obj) => below_alloc (below_alloc HB.out o) o')
        go_wp2_with (at_builtin; refine wp_appSL (mine := mineY) (base := w.heap.size) 42 (.agg #[.int .i64 0, .slice none 0 0]) 32 Try.underlying42 infoY rfl (by decide) mineY_y rfl (.tmp 28) (.tmp 30) rfl rfl (HSA.out _ _) _ 1 rfl #[.int .i64 e, .slice (some dd) 70 dc] rfl ⟨_, _, heap_last (by simp)⟩ (by simp [Value.oneCell']) (by omega) (by decide) (by first | (simp; done) | (simp; omega)) ?_; intro v3 w3 hs3 hf3; have HS3 := Lib.hid hs3; have HB3 := Lib.hid (Below.trans (HBA.out _ _) (hf3.to_below (by first | (simp; done) | (simp; omega)))); clear hs3 hf3)
        go_roundw
        case rel => exact ⟨k + 1, by omega, by go_num, _, HS3.out, F2.out, HB3.out⟩
        case measure => simp [intOf]; omega
      · have F2 := Lib.hid (FS.out n dc (by rw [HT.out]; omega) (by rw [HT.out]; omega) hd2)
        clear FS HT hn HD
        go_upto_region 8 with (fail)
        have HSA := Lib.hid (fun (o o' : Obj) => (HS.out.alloc o).alloc o')
        have HBA := Lib.hid (fun (o o' : Obj) => below_alloc (below_alloc HB.out o) o')
        go_wp2_with (at_builtin; refine wp_appSL (mine := mineY) (base := w.heap.size) 42 (.agg #[.int .i64 0, .slice none 0 0]) 32 Try.underlying42 infoY rfl (by decide) mineY_y rfl (.tmp 28) (.tmp 30) rfl rfl (HSA.out _ _) _ 1 rfl #[.int .i64 e, .slice da n dc] rfl ⟨_, _, heap_last (by simp)⟩ (by simp [Value.oneCell']) (by omega) (by decide) (by first | (simp; done) | (simp; omega)) ?_; intro v3 w3 hs3 hf3; have HS3 := Lib.hid hs3; have HB3 := Lib.hid (Below.trans (HBA.out _ _) (hf3.to_below (by first | (simp; done) | (simp; omega)))); clear hs3 hf3)
        go_roundw
        case rel => exact ⟨k + 1, by omega, by go_num, _, HS3.out, F2.out, HB3.out⟩
        case measure => simp [intOf]; omega
    · obtain rfl : k = N := by omega
      have HR := Lib.hid (rowY_of_SL (fewN_len L k) HS.out HF.out hbel)
      rcases HN.out with ⟨hq, hq2⟩ | ⟨hq, hq2⟩
      · have q1 : (L.length : Int) ≤ (k : Int) := by omega
        clear hq hq2
        go_wp2
        go_ret
        exact ⟨_, _, rfl, HR.out, HB.out⟩
      · have q1 : (k : Int) < (L.length : Int) := by omega
        have q2 : (30 : Int) ≤ (k : Int) := by omega
        clear hq hq2
        go_wp2
        go_ret
        exact ⟨_, _, rfl, HR.out, HB.out⟩
end Go.Proofs.Ytdmlpggommephaa.Ct
