import Derived.Test.YthmhpjpnlngaoaaDoorCrc
import Derived.Test.YthmhpjpnlngaoaaDoorOctetRef
import Derived.Lib.SlBytesConst
import Derived.Deep.QuietTactic
import Derived.BigQuiet
/-! crc.Sum and the reference's, and what is sealed. -/
namespace Go.Proofs.YthmhpjpnlngaoaaDoor.Ct
open Go.RowKit
set_option linter.unusedVariables false
set_option linter.unusedSimpArgs false
theorem sumC_append (a b : List Int) : moreC (sumC a) b = sumC (a ++ b) := moreC_append _ _ _
set_option maxHeartbeats 2000000 in
theorem csum_calls (a : Option Addr) (cap : Nat) (L : List (List Int)) (w : World) (h : RowS w a L) (hT : Tab w) :
    Calls Tryd.prog 55 #[.slice a L.length cap] w fun e w' => e = .returned (.int .u32 ((sumC L.flatten).toNat : Int)) ∧ w = w' := by
  have hm : L.length ≤ 9223372036854775807 := by have := h.1; unfold maxLen at this; omega
  have H := Lib.hid h; clear h
  have HT := Lib.hid hT; clear hT
  go_enter Tryd.func55, Tryd.ntmps55
  go_wp2
  go_loop [3, 5, 8] (fun x b i => ∃ j : Nat, j ≤ L.length ∧ i = .int .i64 j ∧ x = .int .u32 ((sumC (L.take j).flatten).toNat : Int)) (fun _ _ i => L.length - (intOf i).toNat)
  case atStart => exact ⟨0, by omega, rfl, by simp [sumC_nil]⟩
  case round =>
    obtain ⟨j, hj, rfl, rfl⟩ := hrel
    by_cases hlt : j < L.length
    · obtain ⟨ad, aj, cj, rfl, hc, hr⟩ := H.out.at_ hlt
      have HR := Lib.hid hr; clear hr
      have HF := Lib.hid (flat_next hlt)
      generalize L.getD j [] = ys at *
      generalize (L.take j).flatten = xs at *
      have MC := Lib.hid (fun s hs => more_calls aj cj s (sumC xs) ys w hs HR.out HT.out)
      have HS := Lib.hid (sumC_append xs ys)
      go_wp2_with (go_at_call 59; (with_reducible refine (MC.out _ rfl).mono ?_); rintro e w' ⟨rfl, rfl⟩)
      go_round
      case rel => exact ⟨j + 1, by omega, by go_num, by rw [HF.out, HS.out]⟩
      case measure => simp [intOf]; omega
    · obtain rfl : j = L.length := by omega
      have E := Lib.hid (List.take_length (l := L))
      go_wp2
      go_ret
      exact ⟨rfl, rfl⟩
set_option maxHeartbeats 2000000 in
theorem rsum_calls (a : Option Addr) (cap : Nat) (xs : List Int) (w : World) (h : Row .u8 w a xs) :
    Calls Tryd.prog 56 #[.slice a xs.length cap] w fun e w' => e = .returned (.int .u32 ((sumC xs).toNat : Int)) ∧ w = w' := by
  have MC := Lib.hid (rmore_calls a cap 0 0#32 xs w rfl h)
  go_enter Tryd.func56, Tryd.ntmps56
  go_wp2_with (go_at_call 60; (with_reducible refine (MC.out).mono ?_); rintro e w' ⟨rfl, rfl⟩)
  go_ret
  exact ⟨rfl, rfl⟩
theorem rowS_one {w : World} {E : TypeId} {a : Option Addr} {cap : Nat} {xs : List Int} (h : Row .u8 w a xs) : RowS (w.alloc (.cells #[.slice a xs.length cap] E)) (some ⟨w.heap.size, 0, none⟩) [xs] := by
  refine ⟨by show 1 ≤ maxLen; decide, fun _ => ⟨_, rfl, fun j hj => ?_⟩⟩
  obtain rfl : j = 0 := by simp at hj; omega
  exact ⟨a, cap, by simp [Addr.add, go_sem], h.below ((Below.refl _ _).alloc (Nat.le_refl _) _)⟩
theorem rowS_two {w : World} {E : TypeId} {a b : Option Addr} {cap cap' : Nat} {xs ys : List Int} (h : Row .u8 w a xs) (h' : Row .u8 w b ys) :
    RowS (w.alloc (.cells #[.slice a xs.length cap, .slice b ys.length cap'] E)) (some ⟨w.heap.size, 0, none⟩) [xs, ys] := by
  refine ⟨by show 2 ≤ maxLen; decide, fun _ => ⟨_, rfl, fun j hj => ?_⟩⟩
  have : j = 0 ∨ j = 1 := by simp at hj; omega
  rcases this with rfl | rfl
  · exact ⟨a, cap, by simp [Addr.add, go_sem], h.below ((Below.refl _ _).alloc (Nat.le_refl _) _)⟩
  · exact ⟨b, cap', by simp [Addr.add, go_sem], h'.below ((Below.refl _ _).alloc (Nat.le_refl _) _)⟩
theorem csum_one (a : Option Addr) (cap : Nat) (xs : List Int) (E : TypeId) (w : World) (g : Nat) (hg : g = w.heap.size) (h : Row .u8 w a xs) (hT : Tab w) :
    Calls Tryd.prog 55 #[.slice (some ⟨g, 0, none⟩) 1 1] (w.alloc (.cells #[.slice a xs.length cap] E)) fun e w' => e = .returned (.int .u32 ((sumC xs).toNat : Int)) ∧ w.alloc (.cells #[.slice a xs.length cap] E) = w' := by
  subst hg
  have := csum_calls (some ⟨w.heap.size, 0, none⟩) 1 [xs] _ (rowS_one (E := E) (cap := cap) h) (hT.alloc _)
  simpa using this
theorem csum_two (a b : Option Addr) (cap cap' : Nat) (xs ys : List Int) (E : TypeId) (w : World) (g : Nat) (hg : g = w.heap.size) (h : Row .u8 w a xs) (h' : Row .u8 w b ys) (hT : Tab w) :
    Calls Tryd.prog 55 #[.slice (some ⟨g, 0, none⟩) 2 2] (w.alloc (.cells #[.slice a xs.length cap, .slice b ys.length cap'] E)) fun e w' => e = .returned (.int .u32 ((sumC (xs ++ ys)).toNat : Int)) ∧ w.alloc (.cells #[.slice a xs.length cap, .slice b ys.length cap'] E) = w' := by
  subst hg
  have := csum_calls (some ⟨w.heap.size, 0, none⟩) 2 [xs, ys] _ (rowS_two (E := E) (cap := cap) (cap' := cap') h h') (hT.alloc _)
  simpa using this

/-! ### Seal -/
def sealS (xs : List Int) : List Int := xs ++ numS 4 ((sumC xs).toNat : Int)
theorem w32_bd (x : W32) : 0 ≤ (x.toNat : Int) ∧ (x.toNat : Int) ≤ 4294967295 := by have := x.isLt; omega
set_option maxHeartbeats 2000000 in
theorem seal_calls (a : Option Addr) (cap : Nat) (xs : List Int) (w : World) (h : Row .u8 w a xs) (hlen : xs.length ≤ 1000000000) (hT : Tab w) :
    Calls Tryd.prog 45 #[.slice a xs.length cap] w fun e w' => ∃ v, e = .returned v ∧ Own .u8 5 w' w.heap.size v (sealS xs) ∧ Below w.heap.size w w' := by
  have SC := Lib.hid (fun E => csum_one a cap xs E w _ rfl h hT)
  have bd := w32_bd (sumC xs)
  have PC := Lib.hid (fun w' (hb : Below w.heap.size w w') => put_calls a cap xs ((sumC xs).toNat : Int) 4 w' (h.below hb) hlen bd.1 (by omega))
  obtain ⟨bd0, bd1⟩ := bd
  unfold sealS
  generalize ((sumC xs).toNat : Int) = s at *
  have hl := h.len
  clear h
  go_enter Tryd.func45, Tryd.ntmps45
  go_wp2_with (first
    | (go_at_call 55; (with_reducible refine (SC.out _).mono ?_); rintro e w' ⟨rfl, rfl⟩)
    | (go_at_call 23; (with_reducible refine (PC.out _ ((Below.refl _ _).alloc (Nat.le_refl _) _)).mono ?_); rintro e w' ⟨v, rfl, ho, hb⟩; have HO := Lib.hid ho; have HB := Lib.hid hb; clear ho hb))
  go_ret
  exact ⟨_, rfl, HO.out.mono (by simp), ((Below.refl _ _).alloc (Nat.le_refl _) _).trans (HB.out.mono (by simp))⟩
set_option maxHeartbeats 2000000 in
theorem rseal_calls (a : Option Addr) (cap : Nat) (xs : List Int) (w : World) (h : Row .u8 w a xs) (hlen : xs.length ≤ 1000000000) :
    Calls Tryd.prog 48 #[.slice a xs.length cap] w fun e w' => ∃ v, e = .returned v ∧ Own .u8 5 w' w.heap.size v (sealS xs) ∧ Below w.heap.size w w' := by
  have SC := Lib.hid (rsum_calls a cap xs w h)
  have bd := w32_bd (sumC xs)
  have NC := Lib.hid (num_calls ((sumC xs).toNat : Int) 4 w bd.1 (by omega) ⟨by decide, by decide⟩)
  obtain ⟨bd0, bd1⟩ := bd
  unfold sealS
  generalize ((sumC xs).toNat : Int) = s at *
  have hl := h.len
  have H := Lib.hid h; clear h
  have hn := numS_len 4 s
  generalize numS 4 s = ns at *
  go_enter Tryd.func48, Tryd.ntmps48
  go_wp2_with (first
    | (go_at_call 56; (with_reducible refine (SC.out).mono ?_); rintro e w' ⟨rfl, rfl⟩)
    | (go_at_call 26; (with_reducible refine (NC.out).mono ?_); rintro e w1 ⟨v, rfl, ho, hb⟩; obtain ⟨na, nc, hv, _, _, hr, _, _⟩ := ho.form; rw [hv]; have JC := join_calls (some ⟨w1.heap.size, 0, none⟩) 2 [xs, ns] _ (rowS_two (E := 27) (cap := cap) (cap' := nc) (H.out.below hb) hr) (by simp; omega); simp only [List.length_cons, List.length_nil, List.flatten_cons, List.flatten_nil, List.append_nil] at JC; have HJ := Lib.hid JC; have HB := Lib.hid hb; clear JC ho hb hr hv)
    | (go_at_call 28; (with_reducible refine (HJ.out).mono ?_); rintro e w2 ⟨v2, rfl, ho2, hb2⟩; have HO2 := Lib.hid ho2; have HB2 := Lib.hid hb2; clear ho2 hb2))
  go_ret
  exact ⟨_, rfl, HO2.out.mono (by have := HB.out.size; simp; omega), (HB.out.alloc HB.out.size _).trans (HB2.out.mono (by have := HB.out.size; simp; omega))⟩

/-! ### Open -/
def openS (xs : List Int) : List Int × Int :=
  if xs.length < 4 then ([], 30) else if ofS (xs.drop (xs.length - 4)) = ((sumC (xs.take (xs.length - 4))).toNat : Int) then (xs.take (xs.length - 4), 0) else ([], 40)
theorem openS_short {xs : List Int} (h : xs.length < 4) : openS xs = ([], 30) := by unfold openS; rw [if_pos h]
theorem openS_ok {xs : List Int} (h : ¬ xs.length < 4) (h2 : ofS (xs.drop (xs.length - 4)) = ((sumC (xs.take (xs.length - 4))).toNat : Int)) : openS xs = (xs.take (xs.length - 4), 0) := by unfold openS; rw [if_neg h, if_pos h2]
theorem openS_bad {xs : List Int} (h : ¬ xs.length < 4) (h2 : ¬ ofS (xs.drop (xs.length - 4)) = ((sumC (xs.take (xs.length - 4))).toNat : Int)) : openS xs = ([], 40) := by unfold openS; rw [if_neg h, if_neg h2]
/-- what Open answers: octets that read, and an error. -/
def Opened (w w' : World) (xs : List Int) (e : Ending) : Prop := ∃ a c, e = .returned (.tuple #[.slice a (openS xs).1.length c, .int .i64 (openS xs).2]) ∧ Row .u8 w' a (openS xs).1 ∧ (openS xs).1.length ≤ c ∧ c ≤ 9223372036854775807
theorem atS_tail {xs : List Int} (h : ¬ xs.length < 4) : atS xs ((xs.length - 4 : Nat) : Int) 4 = (ofS (xs.drop (xs.length - 4)), true) := by
  unfold atS
  rw [if_pos ⟨by decide, by omega, by omega⟩]
  congr 1
  rw [Int.toNat_natCast, List.take_of_length_le (by rw [List.length_drop]; show xs.length - (xs.length - 4) ≤ 4; omega)]
set_option maxHeartbeats 2000000 in
theorem open_calls (a : Option Addr) (cap : Nat) (xs : List Int) (w : World) (h : Row .u8 w a xs) (hlen : xs.length ≤ 1000000000) (hcap : xs.length ≤ cap) (hm : cap ≤ 9223372036854775807) (hT : Tab w) :
    Calls Tryd.prog 57 #[.slice a xs.length cap] w fun e w' => Opened w w' xs e ∧ Below w.heap.size w w' := by
  by_cases h4 : xs.length < 4
  · have E := Lib.hid (openS_short h4)
    go_enter Tryd.func57, Tryd.ntmps57
    go_wp2
    go_ret2
    exact ⟨⟨none, 0, by rw [E.out]; rfl, by rw [E.out]; exact row_nil _ _, by rw [E.out]; simp, by omega⟩, Below.refl _ _⟩
  · obtain ⟨n, hn⟩ : ∃ n, xs.length = n + 4 := ⟨xs.length - 4, by omega⟩
    have en : xs.length - 4 = n := by omega
    have hn1 : n ≤ 1000000000 := by omega
    have hn2 : n + 4 ≤ cap := by omega
    obtain ⟨ad, rfl, _⟩ := h.2.2 (by omega)
    have hr := h.take n
    have hl : (xs.take n).length = n := by rw [List.length_take]; omega
    have ac := at_calls (some ad) cap xs (n : Int) 4 w h hcap hm ⟨by omega, by omega⟩ ⟨by decide, by decide⟩
    have et := atS_tail h4
    rw [en] at et
    rw [et] at ac
    have sc := fun E => csum_one (some ad) cap (xs.take n) E w _ rfl hr hT
    have cc := fun w' (hb : Below w.heap.size w w') => clone_calls (some ad) cap (xs.take n) w' (hr.below hb) (by omega)
    rw [hl] at sc cc
    rw [hn] at ac ⊢
    have AC := Lib.hid ac; clear ac
    have SC := Lib.hid sc; clear sc
    have CC := Lib.hid cc; clear cc
    by_cases hs : ofS (xs.drop n) = ((sumC (xs.take n)).toNat : Int)
    · have E := Lib.hid (openS_ok h4 (by rw [en]; exact hs))
      rw [en] at E
      rw [hs] at AC
      have HL := Lib.hid hl; clear hl
      have HN := Lib.hid hn; clear hn en et h4 hs h hr
      have bd := w32_bd (sumC (xs.take n))
      obtain ⟨bd0, bd1⟩ := bd
      generalize ((sumC (xs.take n)).toNat : Int) = s at *
      go_enter Tryd.func57, Tryd.ntmps57
      go_wp2_with (first
        | (go_at_call 61; (with_reducible refine (AC.out).mono ?_); rintro e w' ⟨rfl, rfl⟩)
        | (go_at_call 55; (with_reducible refine (SC.out _).mono ?_); rintro e w' ⟨rfl, rfl⟩)
        | (go_at_call 42; (with_reducible refine (CC.out _ ((Below.refl _ _).alloc (Nat.le_refl _) _)).mono ?_); rintro e w' ⟨v, rfl, ho, hb⟩; have HO := Lib.hid ho; have HB := Lib.hid hb; clear ho hb))
      go_ret2
      obtain ⟨va, vc, hv, f1, f2, f3, _, _⟩ := HO.out.form
      exact ⟨⟨va, vc, by rw [E.out, hv]; rfl, by rw [E.out]; exact f3, by rw [E.out]; exact f1, f2⟩, ((Below.refl _ _).alloc (Nat.le_refl _) _).trans (HB.out.mono (by simp))⟩
    · have E := Lib.hid (openS_bad h4 (by rw [en]; exact hs))
      have HL := Lib.hid hl; clear hl
      have HN := Lib.hid hn; clear hn en et h4 h hr
      have bd := w32_bd (sumC (xs.take n))
      obtain ⟨bd0, bd1⟩ := bd
      have hne : (ofS (xs.drop n) != ((sumC (xs.take n)).toNat : Int)) = true := bne_iff_ne.2 hs
      clear hs
      generalize ((sumC (xs.take n)).toNat : Int) = s at *
      generalize ofS (xs.drop n) = t at *
      go_enter Tryd.func57, Tryd.ntmps57
      go_wp2_with (first
        | (go_at_call 61; (with_reducible refine (AC.out).mono ?_); rintro e w' ⟨rfl, rfl⟩)
        | (go_at_call 55; (with_reducible refine (SC.out _).mono ?_); rintro e w' ⟨rfl, rfl⟩))
      go_ret2
      exact ⟨⟨none, 0, by rw [E.out]; rfl, by rw [E.out]; exact row_nil _ _, by rw [E.out]; simp, by omega⟩, (Below.refl _ _).alloc (Nat.le_refl _) _⟩
end Go.Proofs.YthmhpjpnlngaoaaDoor.Ct
