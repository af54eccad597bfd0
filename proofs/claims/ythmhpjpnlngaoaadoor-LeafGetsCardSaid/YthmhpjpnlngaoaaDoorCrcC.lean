import Derived.Test.YthmhpjpnlngaoaaDoorCrcB
/-! The reference's Open. -/
namespace Go.Proofs.YthmhpjpnlngaoaaDoor.Ct
open Go.RowKit
set_option linter.unusedVariables false
set_option linter.unusedSimpArgs false
theorem row_tail {k : IntKind} {w : World} {a : Option Addr} {xs : List Int} (h : Row k w a xs) (i : Nat) (hi : i ≤ xs.length) (ad : Addr) (ha : a = some ad) : Row k w (some (ad.add i)) (xs.drop i) := by
  have := slice_mid h i (xs.length - i) (by omega) ad ha
  rwa [List.take_of_length_le (by rw [List.length_drop]; omega)] at this
set_option maxHeartbeats 2000000 in
theorem ropen_calls (a : Option Addr) (cap : Nat) (xs : List Int) (w : World) (h : Row .u8 w a xs) (hlen : xs.length ≤ 1000000000) (hcap : xs.length ≤ cap) (hm : cap ≤ 9223372036854775807) :
    Calls Tryd.prog 54 #[.slice a xs.length cap] w fun e w' => Opened w w' xs e ∧ Below w.heap.size w w' := by
  by_cases h4 : xs.length < 4
  · have E := Lib.hid (openS_short h4)
    go_enter Tryd.func54, Tryd.ntmps54
    go_wp2
    go_ret2
    exact ⟨⟨none, 0, by rw [E.out]; rfl, by rw [E.out]; exact row_nil _ _, by rw [E.out]; simp, by omega⟩, Below.refl _ _⟩
  · obtain ⟨n, hn⟩ : ∃ n, xs.length = n + 4 := ⟨xs.length - 4, by omega⟩
    have en : xs.length - 4 = n := by omega
    have hn1 : n ≤ 1000000000 := by omega
    have hn2 : n + 4 ≤ cap := by omega
    have hn3 : ¬ cap = n := by omega
    obtain ⟨ad, rfl, _⟩ := h.2.2 (by omega)
    have hr := h.take n
    have hl : (xs.take n).length = n := by rw [List.length_take]; omega
    have ht := row_tail h n (by omega) ad rfl
    have hl2 : (xs.drop n).length = 4 := by rw [List.length_drop]; omega
    have oc := fun (c m : Nat) => of_calls (some (ad.add n)) c (xs.drop n) (w.drewN m) (row_drewN ht m) (by omega)
    have sc := fun (m : Nat) => rsum_calls (some ad) cap (xs.take n) (w.drewN m) (row_drewN hr m)
    rw [hl2] at oc
    rw [hl] at sc
    rw [hn]
    have OC := Lib.hid oc; clear oc
    have SC := Lib.hid sc; clear sc
    have HR := Lib.hid hr; clear hr
    have HCAP := Lib.hid hn2
    have bd := w32_bd (sumC (xs.take n))
    obtain ⟨bd0, bd1⟩ := bd
    have h8 : n + 4 - n = 4 := by omega
    have H8 := Lib.hid h8; clear h8
    by_cases hs : ofS (xs.drop n) = ((sumC (xs.take n)).toNat : Int)
    · have E := Lib.hid (openS_ok h4 (by rw [en]; exact hs))
      rw [en] at E
      rw [hs] at OC
      have HL := Lib.hid hl; clear hl
      clear hn en h4 hs h ht hl2
      generalize ((sumC (xs.take n)).toNat : Int) = s at *
      go_enter Tryd.func54, Tryd.ntmps54
      go_wp2
      go_quiet ((first | (go_at_call 37; exact Calls.quiet_of_same ((OC.out _ _).mono fun e w' ⟨h1, h2⟩ => ⟨h1, h2.symm⟩)) | (go_at_call 56; exact Calls.quiet_of_same ((SC.out _).mono fun e w' ⟨h1, h2⟩ => ⟨h1, h2.symm⟩))))
      go_wp2
      go_ret2
      exact ⟨⟨some ad, cap, by rw [E.out]; simp only [HL.out]; rfl, by rw [E.out]; exact row_drewN HR.out _, by rw [E.out]; simp only [HL.out]; have := HCAP.out; omega, hm⟩, below_drewN (Below.refl _ _) _⟩
    · have E := Lib.hid (openS_bad h4 (by rw [en]; exact hs))
      have HL := Lib.hid hl; clear hl
      have hne : (ofS (xs.drop n) != ((sumC (xs.take n)).toNat : Int)) = true := bne_iff_ne.2 hs
      clear hn en h4 hs h ht hl2
      generalize ((sumC (xs.take n)).toNat : Int) = s at *
      generalize ofS (xs.drop n) = t at *
      go_enter Tryd.func54, Tryd.ntmps54
      go_wp2
      go_quiet ((first | (go_at_call 37; exact Calls.quiet_of_same ((OC.out _ _).mono fun e w' ⟨h1, h2⟩ => ⟨h1, h2.symm⟩)) | (go_at_call 56; exact Calls.quiet_of_same ((SC.out _).mono fun e w' ⟨h1, h2⟩ => ⟨h1, h2.symm⟩))))
      go_wp2
      go_ret2
      exact ⟨⟨none, 0, by rw [E.out]; rfl, by rw [E.out]; exact row_nil _ _, by rw [E.out]; simp, by omega⟩, below_drewN (Below.refl _ _) _⟩
end Go.Proofs.YthmhpjpnlngaoaaDoor.Ct
