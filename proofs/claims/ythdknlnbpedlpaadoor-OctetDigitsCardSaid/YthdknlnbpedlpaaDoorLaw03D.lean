import Derived.Test.YthdknlnbpedlpaaDoorLaw03A
import Derived.Test.YthdknlnbpedlpaaDoorUnhex
/-! Chapter 03: OctetDigits. -/
namespace Go.Proofs.YthdknlnbpedlpaaDoor.Ct
open Go.RowKit
set_option linter.unusedVariables false
set_option linter.unusedSimpArgs false
theorem hexS_bd : ∀ {l : List Int}, (∀ x ∈ l, 0 ≤ x ∧ x ≤ 255) → ∀ x ∈ hexS l, 0 ≤ x ∧ x ≤ 255
  | [], _ => by simp [hexS]
  | b :: l, h => by
    have ih := hexS_bd (l := l) (fun x hx => h x (List.mem_cons_of_mem _ hx))
    have hb := h b (List.mem_cons_self ..)
    have e1 := digC_bd (b / 16).toNat (by omega)
    have e2 := digC_bd (b % 16).toNat (by omega)
    intro x hx
    simp only [hexS, List.mem_cons] at hx
    rcases hx with rfl | rfl | hx
    · exact e1
    · exact e2
    · exact ih x hx
set_option maxHeartbeats 4000000 in
theorem digits_walk (a : Option Addr) (cap : Nat) (xs0 : List Int) (s : ByteArray) (w : World) (hc : xs0.length ≤ cap) (hm : cap ≤ 9223372036854775807) (h : Row .u8 w a xs0)
    (hs : s.size ≤ 9223372036854775807) (hT : Dig w) :
    Calls Tryd.prog 7 #[.slice a xs0.length cap, .string s] w fun e w' => e = .returned (.bool true) ∧ Below w.heap.size w w' := by
  have FA := Lib.hid (few_calls a cap xs0 w h hc hm)
  have hx := h.take 200
  have hlx : (xs0.take 200).length ≤ 200 := List.length_take_le _ _
  clear h hc
  generalize xs0.take 200 = xs at *
  have hbd : ∀ x ∈ xs, 0 ≤ x ∧ x ≤ 255 := fun x hxx => bounds_u8 (hx.2.1 x hxx)
  obtain ⟨t, ht, hst⟩ : ∃ t : ByteArray, t.size ≤ 300 ∧ ((300 < s.size ∧ s.extract 0 300 = t) ∨ (s.size ≤ 300 ∧ s = t)) := by
    by_cases h3 : 300 < s.size
    · exact ⟨s.extract 0 300, by simp [ByteArray.size_extract]; omega, .inl ⟨h3, rfl⟩⟩
    · exact ⟨s, by omega, .inr ⟨by omega, rfl⟩⟩
  have HX := Lib.hid (fun w' (hb : Below w.heap.size w w') => hex_calls a cap xs w' (hx.below hb) (by omega) (hT.below hb))
  have RX := Lib.hid (fun w' (hb : Below w.heap.size w w') => rhex_calls a cap xs w' (hx.below hb) (by omega))
  have uh := fun w' (hb : Below w.heap.size w w') => unhex_calls (strOfNums (hexS xs)) w' (by rw [strOfNums_size, hexS_len]; omega) (hT.below hb)
  rw [bs_strOf (hexS_bd hbd), unhexS_hexS hbd] at uh
  simp only [Option.isSome_some, Option.getD_some] at uh
  have UH := Lib.hid uh; clear uh
  have UA := Lib.hid (fun w' (hb : Below w.heap.size w w') => unhex_calls t w' (by omega) (hT.below hb))
  have UB := Lib.hid (fun w' => runhex_calls t w' (by omega))
  have AW := Lib.hid (fun w' (hb : Below w.heap.size w w') => awake_calls w' (hT.below hb))
  have kc := fun (w : World) (base : Nat) (v : Value) (h : Own .u8 5 w base v xs) => own_str (P := Tryd.prog) 23 5 9 Tryd.underlying23 Tryd.underlying5 Tryd.underlying9 h
  have kd := fun (w' : World) (hb : Below w.heap.size w w') => run_str (P := Tryd.prog) 23 5 9 Tryd.underlying23 Tryd.underlying5 Tryd.underlying9 a cap xs (hx.below hb)
  have ke := fun (w : World) (base : Nat) (v : Value) (h : Own .u8 5 w base v ((unhexS (bs t)).getD [])) => own_str (P := Tryd.prog) 23 5 9 Tryd.underlying23 Tryd.underlying5 Tryd.underlying9 h
  generalize strOfNums xs = tx at *
  generalize strOfNums ((unhexS (bs t)).getD []) = ty at *
  generalize strOfNums (hexS xs) = th at *
  generalize (unhexS (bs t)).getD [] = yy at *
  generalize (unhexS (bs t)).isSome = ok at *
  have KC := Lib.hid kc; clear kc
  have KD := Lib.hid kd; clear kd
  have KE := Lib.hid ke; clear ke
  have HB0 := Lib.hid (Below.refl w.heap.size w)
  clear hx hbd hT
  rcases hst with ⟨h1, h2⟩ | ⟨h1, h2⟩
  all_goals (try (cases h2; skip))
  all_goals (
    go_enter Tryd.func7, Tryd.ntmps7
    go_wp2_with (first
      | (go_at_call 15; (with_reducible refine (FA.out).mono ?_); rintro e w' ⟨rfl, rfl⟩)
      | (go_at_call 25; (with_reducible refine (HX.out _ HB4.out).mono ?_); rintro e w5 ⟨rfl, hb⟩; have HB5 := Lib.hid (below_step HB4.out hb); have S15 := Lib.hid (O14.out.below hb); have S25 := Lib.hid (O24.out.below hb); have S35 := Lib.hid (O34.out.below hb); clear hb)
      | (go_at_call 25; (with_reducible refine (HX.out _ HB0.out).mono ?_); rintro e w1 ⟨rfl, hb⟩; have HB1 := Lib.hid hb; clear hb)
      | (go_at_call 24; (with_reducible refine (UH.out _ HB1.out).mono ?_); rintro e w2 ⟨v1, rfl, ho, hb⟩; have HB2 := Lib.hid (below_step HB1.out hb); have O12 := Lib.hid ho; clear ho hb)
      | (go_at_call 24; (with_reducible refine (UA.out _ HB2.out).mono ?_); rintro e w3 ⟨v2, rfl, ho, hb⟩; have HB3 := Lib.hid (below_step HB2.out hb); have O13 := Lib.hid (O12.out.below hb); have O23 := Lib.hid ho; clear ho hb)
      | (go_at_call 26; (with_reducible refine (UB.out _).mono ?_); rintro e w4 ⟨v3, rfl, ho, hb⟩; have HB4 := Lib.hid (below_step HB3.out hb); have O14 := Lib.hid (O13.out.below hb); have O24 := Lib.hid (O23.out.below hb); have O34 := Lib.hid ho; clear ho hb)
      | (go_at_call 27; (with_reducible refine (RX.out _ HB5.out).mono ?_); rintro e w6 ⟨rfl, hb⟩; have HB6 := Lib.hid (below_step HB5.out hb); have k1 := KC.out _ _ _ (S15.out.below hb); have k2 := KE.out _ _ _ (S25.out.below hb); have k3 := KE.out _ _ _ (S35.out.below hb); have k4 := KD.out _ HB6.out; clear hb)
      | (go_at_call 14; (with_reducible refine (AW.out _ HB6.out).mono ?_); rintro e w7 ⟨rfl, hb⟩; have HB7 := Lib.hid (below_step HB6.out hb); clear hb))
    go_ret
    exact ⟨rfl, HB7.out⟩)
end Go.Proofs.YthdknlnbpedlpaaDoor.Ct
