import Derived.Test.YtminokbigpckaaaDoorTaA
/-! The reference's Words. -/
namespace Go.Proofs.YtminokbigpckaaaDoor.Ct
open Go.RowKit
set_option linter.unusedVariables false
set_option linter.unusedSimpArgs false
theorem wl_snoc_blank : ∀ l : List UInt8, wl (l ++ [32]) = wl l ++ [[]]
  | [] => rfl
  | b :: l => by
    have ih := wl_snoc_blank l
    rw [List.cons_append]
    by_cases hb : b = 32
    · subst hb; rw [wl_blank, wl_blank, ih]; rfl
    · obtain ⟨h, t, hw⟩ := wl_ne l
      rw [wl_other hb hw, wl_other hb (h := h) (t := t ++ [[]]) (by rw [ih, hw]; rfl)]
      rfl
theorem wl_snoc {b : UInt8} (hb : b ≠ 32) : ∀ (l : List UInt8) (D : List (List UInt8)) (c : List UInt8), wl l = D ++ [c] → wl (l ++ [b]) = D ++ [c ++ [b]]
  | [], D, c, h => by
    have h : [[]] = D ++ [c] := h
    cases D with
    | nil => simp at h; subst h; exact wl_other hb (h := []) (t := []) rfl
    | cons d D => simp at h
  | x :: l, D, c, h => by
    rw [List.cons_append]
    by_cases hx : x = 32
    · subst hx
      rw [wl_blank] at h ⊢
      cases D with
      | nil =>
        obtain ⟨h1, t1, hw⟩ := wl_ne l
        rw [hw] at h
        simp at h
      | cons d D =>
        rw [List.cons_append, List.cons.injEq] at h
        rw [wl_snoc hb l D c h.2, h.1]
        rfl
    · obtain ⟨h1, t1, hw⟩ := wl_ne l
      rw [wl_other hx hw] at h
      cases D with
      | nil =>
        rw [List.nil_append, List.cons.injEq] at h
        obtain ⟨rfl, rfl⟩ := h
        rw [wl_other hx (h := h1 ++ [b]) (t := []) (wl_snoc hb l [] h1 (by rw [hw]; rfl))]
        rfl
      | cons d D =>
        rw [List.cons_append, List.cons.injEq] at h
        obtain ⟨rfl, rfl⟩ := h
        rw [wl_other hx (h := h1) (t := D ++ [c ++ [b]]) (wl_snoc hb l (h1 :: D) c (by rw [hw]; rfl))]
        rfl
/-- the words of the first k octets: those that are done, and the one under way. -/
def WI (s : ByteArray) (k frm : Nat) (D : List ByteArray) : Prop := frm ≤ k ∧ wB (s.extract 0 k) = D ++ [s.extract frm k]
theorem wi_zero (s : ByteArray) : WI s 0 0 [] := ⟨Nat.le_refl _, by
  have e : s.extract 0 0 = ⟨#[]⟩ := by rw [ba_eq (toList_extract s 0 0)]; simp
  rw [e]; rfl⟩
theorem ex_snoc {s : ByteArray} {k f : Nat} (hk : k < s.size) (hf : f ≤ k) : (s.extract f (k + 1)).data.toList = (s.extract f k).data.toList ++ [s[k]'hk] := by
  have hl : k < s.data.toList.length := by simpa using hk
  rw [toList_extract, toList_extract, List.take_succ_eq_append_getElem hl, List.drop_append, List.length_take, Nat.min_eq_left (by omega), show f - k = 0 by omega, List.drop_zero]
  rfl
theorem wB_list {s : ByteArray} {D : List ByteArray} {c : ByteArray} (h : wB s = D ++ [c]) : wl s.data.toList = D.map (·.data.toList) ++ [c.data.toList] := by
  have := congrArg (List.map (fun x : ByteArray => x.data.toList)) h
  unfold wB at this
  rw [List.map_map] at this
  have e : ((fun x : ByteArray => x.data.toList) ∘ fun l : List UInt8 => (⟨l.toArray⟩ : ByteArray)) = id := by funext l; simp
  rw [e, List.map_id] at this
  rw [this]; simp
theorem wi_blank {s : ByteArray} {k frm : Nat} {D : List ByteArray} (h : WI s k frm D) (hk : k < s.size) (hb : s[k]'hk = 32) : WI s (k + 1) (k + 1) (D ++ [s.extract frm k]) := by
  obtain ⟨h1, h2⟩ := h
  refine ⟨Nat.le_refl _, ?_⟩
  have e := ex_snoc hk (Nat.zero_le k)
  rw [hb] at e
  unfold wB
  rw [e, wl_snoc_blank, wB_list h2]
  simp only [List.map_append, List.map_map, List.map_cons, List.map_nil]
  have e2 : s.extract (k + 1) (k + 1) = ⟨#[]⟩ := by rw [ba_eq (toList_extract s (k + 1) (k + 1))]; simp
  rw [e2]
  congr 1
  congr 1
  exact (List.map_congr_left (g := id) fun x _ => (ba_eq rfl).symm).trans (List.map_id _)
theorem wi_other {s : ByteArray} {k frm : Nat} {D : List ByteArray} (h : WI s k frm D) (hk : k < s.size) (hb : s[k]'hk ≠ 32) : WI s (k + 1) frm D := by
  obtain ⟨h1, h2⟩ := h
  refine ⟨by omega, ?_⟩
  have e := ex_snoc hk (Nat.zero_le k)
  unfold wB
  rw [e, wl_snoc hb _ _ _ (wB_list h2), ← ex_snoc hk h1]
  simp only [List.map_append, List.map_map, List.map_cons, List.map_nil]
  congr 1
  exact (List.map_congr_left (g := id) fun x _ => (ba_eq rfl).symm).trans (List.map_id _)
theorem wi_end {s : ByteArray} {frm : Nat} {D : List ByteArray} (h : WI s s.size frm D) : wB s = D ++ [s.extract frm s.size] := by
  have e : s.extract 0 s.size = s := ByteArray.extract_zero_size
  have h2 := h.2
  rwa [e] at h2
theorem wi_len {s : ByteArray} {k frm : Nat} {D : List ByteArray} (h : WI s k frm D) (hk : k ≤ s.size) : D.length ≤ k := by
  have h2 := congrArg List.length h.2
  rw [wB_len, List.length_append, List.length_singleton] at h2
  have h3 := List.count_le_length (a := (32 : UInt8)) (l := (s.extract 0 k).data.toList)
  rw [toList_extract] at h3
  rw [toList_extract] at h2
  have h4 : ((s.data.toList.take k).drop 0).length ≤ k := by simp; omega
  omega
theorem words_len (s : ByteArray) : (wB s).length ≤ s.size + 1 := by
  rw [wB_len]
  have := List.count_le_length (a := (32 : UInt8)) (l := s.data.toList)
  simp at this
  simpa using this
set_option maxRecDepth 10000 in
set_option maxHeartbeats 4000000 in
theorem rwords_calls (s : ByteArray) (w : World) (hs : s.size ≤ 900000) :
    Calls Tryd.prog 38 #[.string s] w fun e w' => ∃ sv, e = .returned sv ∧ SL w.heap.size w' 9 1 sv (wB s).length ((wB s).map Value.string) ∧ Below w.heap.size w w' := by
  have HWL := Lib.hid (words_len s)
  go_enter Tryd.func38, Tryd.ntmps38
  go_wp2
  go_loopw [3, 4, 5] (fun o f i wr => ∃ (k frm : Nat) (D : List ByteArray), o = o ∧ f = .int .i64 frm ∧ i = .int .i64 k ∧ SL w.heap.size wr 9 1 o D.length (D.map Value.string) ∧ Below w.heap.size w wr ∧ ((k ≤ s.size ∧ WI s k frm D) ∨ (k = s.size + 1 ∧ D = wB s))) (fun _ _ i _ => s.size + 1 - (intOf i).toNat)
  case atStart => exact ⟨0, 0, [], rfl, rfl, rfl, SL.nil _ _ _ _, Below.refl _ _, .inl ⟨by omega, wi_zero s⟩⟩
  case round =>
    obtain ⟨k, frm, D, -, rfl, rfl, hsl, hb, hor⟩ := hrel
    have HS := Lib.hid hsl
    have HB := Lib.hid hb
    clear hsl hb
    rcases hor with ⟨hk, hw⟩ | ⟨rfl, hw⟩
    · have hki : (k : Int) ≤ s.size := by omega
      have hfk := hw.1
      have HW := Lib.hid hw
      clear hw
      have hdl := wi_len HW.out hk
      by_cases he : k = s.size
      · have AL := Lib.hid (wi_end (s := s) (he ▸ HW.out))
        rw [he]
        have hki : ((s.size : Nat) : Int) ≤ s.size := Int.le_refl _
        have hfi : (frm : Int) ≤ ((s.size : Nat) : Int) := by omega
        go_wp2_with (at_builtin; refine wp_appSL (mine := fun _ => true) (base := w.heap.size) 31 (.string ByteArray.empty) 16 Tryd.underlying31 infoS rfl (by decide) (fun _ => rfl) rfl (.tmp 22) (.tmp 27) rfl rfl (by repeat (first | with_reducible exact HS.out | with_reducible apply SL.alloc | with_reducible apply SL.drewN | with_reducible apply SL.drew | exact HS.out)) _ 1 rfl #[.string (s.extract frm s.size)] rfl ⟨_, _, heap_alloc_new _ _⟩ (by simp [Value.oneCell']) (by omega) (by decide) (by have := HB.out.size; simp; omega) ?_; intro v3 w3 hs3 hf3; have HS3 := Lib.hid hs3; have HB3 := Lib.hid (Below.trans (by repeat (first | with_reducible exact HB.out | with_reducible apply below_alloc | with_reducible apply below_drewN | with_reducible apply below_drew)) (hf3.to_below (by have := HB.out.size; simp; omega))); clear hs3 hf3)
        exact ⟨⟨s.size + 1, s.size + 1, D ++ [s.extract frm s.size], trivial, by go_num, by go_num, by rw [List.length_append, List.map_append]; exact HS3.out, HB3.out, .inr ⟨rfl, AL.out.symm⟩⟩, by first | (simp [intOf]; done) | (simp [intOf]; omega)⟩
      · have hlt : k < s.size := by omega
        have hlti : (k : Int) < s.size := by omega
        have hne : ((k : Int) == s.size) = false := beq_eq_false_iff_ne.2 (by omega)
        have hix : s[k]? = some (s[k]'hlt) := by simp [hlt]
        by_cases hc : s[k]'hlt = 32
        · have hce : (((s[k]'hlt).toNat : Int) == 32) = true := by rw [hc]; rfl
          have WB := Lib.hid (wi_blank HW.out hlt hc)
          have hfi : (frm : Int) ≤ (k : Int) := by omega
          clear hc
          go_wp2_with (at_builtin; refine wp_appSL (mine := fun _ => true) (base := w.heap.size) 31 (.string ByteArray.empty) 16 Tryd.underlying31 infoS rfl (by decide) (fun _ => rfl) rfl (.tmp 22) (.tmp 27) rfl rfl (by repeat (first | with_reducible exact HS.out | with_reducible apply SL.alloc | with_reducible apply SL.drewN | with_reducible apply SL.drew | exact HS.out)) _ 1 rfl #[.string (s.extract frm k)] rfl ⟨_, _, heap_alloc_new _ _⟩ (by simp [Value.oneCell']) (by omega) (by decide) (by have := HB.out.size; simp; omega) ?_; intro v3 w3 hs3 hf3; have HS3 := Lib.hid hs3; have HB3 := Lib.hid (Below.trans (by repeat (first | with_reducible exact HB.out | with_reducible apply below_alloc | with_reducible apply below_drewN | with_reducible apply below_drew)) (hf3.to_below (by have := HB.out.size; simp; omega))); clear hs3 hf3)
          exact ⟨⟨k + 1, k + 1, D ++ [s.extract frm k], trivial, by go_num, by go_num, by rw [List.length_append, List.map_append]; exact HS3.out, HB3.out, .inl ⟨by omega, WB.out⟩⟩, by simp [intOf]; omega⟩
        · have hce : (((s[k]'hlt).toNat : Int) == 32) = false := beq_eq_false_iff_ne.2 (fun e => hc (UInt8.toNat_inj.1 (by show (s[k]'hlt).toNat = 32; omega)))
          have WB := Lib.hid (wi_other HW.out hlt hc)
          clear hc
          go_wp2
          exact ⟨⟨k + 1, frm, D, trivial, rfl, by go_num, HS.out, HB.out, .inl ⟨by omega, WB.out⟩⟩, by simp [intOf]; omega⟩
    · subst hw
      go_wp2
      go_ret
      exact ⟨_, rfl, HS.out, HB.out⟩
end Go.Proofs.YtminokbigpckaaaDoor.Ct
