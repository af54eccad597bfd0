import Derived.Test.YtdmlpggommephaaAudA
import Derived.Test.YtdmlpggommephaaRSum
/-! Audits: the first place of which something is so; Over, both. -/
namespace Go.Proofs.Ytdmlpggommephaa.Ct
open Go.RowKit
set_option linter.unusedVariables false
set_option linter.unusedSimpArgs false
/-- the first place below n of which p is so. -/
def firstS (p : Nat → Bool) : Nat → Nat → Int × Bool
  | _, 0 => (0, false)
  | k, d + 1 => if p k = true then ((k : Int), true) else firstS p (k + 1) d
theorem firstS_step {p : Nat → Bool} {k n : Nat} (h : k < n) : firstS p k (n - k) = if p k = true then ((k : Int), true) else firstS p (k + 1) (n - (k + 1)) := by
  obtain ⟨d, hd⟩ : ∃ d, n - k = d + 1 := ⟨n - k - 1, by omega⟩
  rw [hd, show n - (k + 1) = d by omega]
  rfl
/-- what a window that begins at i spends. -/
def nsum (xs ys : List Int) (win : Int) (i : Nat) : Nat → Int
  | 0 => 0
  | d + 1 => if nearS (xs.getD i 0) (xs.getD (i + d) 0) win = true then satAdd (nsum xs ys win i d) (ys.getD (i + d) 0) else nsum xs ys win i d
theorem nsum_bd (xs ys : List Int) (win : Int) (i : Nat) : ∀ d, I64 (nsum xs ys win i d) := by
  intro d
  induction d with
  | zero => show I64 0; unfold I64; omega
  | succ d ih => unfold nsum; split; exact sat_bd _; exact ih
def overS (xs ys : List Int) (win most : Int) (n i : Nat) : Bool := decide (most < nsum xs ys win i (n - i))
set_option maxHeartbeats 8000000 in
theorem over1_calls (b1 b2 b3 b4 b5 : Nat) (aa ba : Option Addr) (ac bc : Nat) (xs ys : List Int) (win most : Int) (n i : Nat) (w : World)
    (h1 : w.cell? ⟨b1, 0, none⟩ = some (.int .i64 n)) (h2 : w.cell? ⟨b2, 0, none⟩ = some (.slice aa xs.length ac)) (h3 : w.cell? ⟨b3, 0, none⟩ = some (.int .i64 win)) (h4 : w.cell? ⟨b4, 0, none⟩ = some (.slice ba ys.length bc)) (h5 : w.cell? ⟨b5, 0, none⟩ = some (.int .i64 most))
    (hx : Row .i64 w aa xs) (hy : Row .i64 w ba ys) (hn1 : n ≤ xs.length) (hn2 : n ≤ ys.length) (hn3 : n ≤ 1000) (hi : i < n) (hw : I64 win) (hm : I64 most) :
    Calls Try.prog 27 #[.int .i64 i, .pointer (some ⟨b1, 0, none⟩), .pointer (some ⟨b2, 0, none⟩), .pointer (some ⟨b3, 0, none⟩), .pointer (some ⟨b4, 0, none⟩), .pointer (some ⟨b5, 0, none⟩)] w
      fun e w' => e = .returned (.bool (overS xs ys win most n i)) ∧ ∃ m, w.drewN m = w' := by
  have lx := hx.len
  have ly := hy.len
  have O := Lib.hid (show overS xs ys win most n i = decide (most < nsum xs ys win i (n - i)) from rfl)
  have N0 := Lib.hid (show nsum xs ys win i 0 = 0 from rfl)
  have NB := Lib.hid (nsum_bd xs ys win i)
  have NX := Lib.hid (fun d => show nsum xs ys win i (d + 1) = if nearS (xs.getD i 0) (xs.getD (i + d) 0) win = true then satAdd (nsum xs ys win i d) (ys.getD (i + d) 0) else nsum xs ys win i d from rfl)
  have NC := Lib.hid (fun f t w hf ht => near_calls f t win w hf ht hw)
  have AC := Lib.hid (fun a b w ha hb => add_calls a b w ha hb)
  have HX := Lib.hid hx
  have HY := Lib.hid hy
  obtain ⟨ad, rfl, c0, cw⟩ := hx.at_ (j := i) (by omega)
  have XW := Lib.hid (i64_of_wf cw)
  have hii : (i : Int) < xs.length := by omega
  clear hx hy cw hw hm
  generalize nsum xs ys win i = ns at *
  obtain ⟨x, hxx⟩ : ∃ x, xs.getD i 0 = x := ⟨_, rfl⟩
  rw [hxx] at c0 XW NX
  clear hxx
  go_enter Try.func27, Try.ntmps27
  go_wp2
  go_loopw [8, 9] (fun s k wr => ∃ d m : Nat, i + d ≤ n ∧ k = .int .i64 ((i + d : Nat) : Int) ∧ s = .int .i64 (ns d) ∧ wr = w.drewN m) (fun _ k _ => n - (intOf k).toNat)
  case atStart => exact ⟨0, 0, by omega, rfl, by rw [N0.out], rfl⟩
  case round =>
    obtain ⟨d, m, hd, rfl, rfl, rfl⟩ := hrel
    have nx := NX.out d
    have nb := NB.out d
    by_cases hlt : i + d < n
    · obtain ⟨bd, hbd, d0, dw⟩ := HX.out.at_ (j := i + d) (by omega)
      injection hbd with hbd
      subst hbd
      obtain ⟨yd, rfl, e0, ew⟩ := HY.out.at_ (j := i + d) (by omega)
      have TW := i64_of_wf dw
      have EW := i64_of_wf ew
      have NC1 := Lib.hid (fun W => NC.out x _ W XW.out TW)
      have AC1 := Lib.hid (fun W => AC.out _ _ W nb EW)
      clear dw ew TW EW nb
      generalize hk : i + d = k at *
      have HK := Lib.hid hk
      clear hk
      have hki : (k : Int) < n := by omega
      have hkx : (k : Int) < xs.length := by omega
      have hky : (k : Int) < ys.length := by omega
      generalize xs.getD k 0 = t at *
      generalize ys.getD k 0 = y at *
      cases hr : nearS x t win
      · rw [hr] at NC1 nx
        rw [if_neg (by simp)] at nx
        have NX2 := Lib.hid nx
        clear nx hr
        go_wp2
        go_quiet ((go_at_call 28; first | with_reducible exact quiet_left (NC1.out _) | with_reducible exact quiet_add_left (NC1.out _) | with_reducible exact Calls.quiet_of_same ((NC1.out _).mono fun e w' ⟨h1, h2⟩ => ⟨h1, h2.symm⟩)))
        go_wp2
        exact ⟨⟨d + 1, _, by have := HK.out; omega, by have := HK.out; rw [show i + (d + 1) = k + 1 by omega]; go_num, by rw [NX2.out], rfl⟩, by simp [intOf]; omega⟩
      · rw [hr] at NC1 nx
        rw [if_pos rfl] at nx
        have NX2 := Lib.hid nx
        clear nx hr
        go_wp2
        go_quiet ((go_at_call 28; first | with_reducible exact quiet_left (NC1.out _) | with_reducible exact quiet_add_left (NC1.out _) | with_reducible exact Calls.quiet_of_same ((NC1.out _).mono fun e w' ⟨h1, h2⟩ => ⟨h1, h2.symm⟩)))
        go_wp2_with (go_at_call 20; (with_reducible refine (AC1.out _).mono ?_); rintro e w' ⟨rfl, rfl⟩)
        exact ⟨⟨d + 1, _, by have := HK.out; omega, by have := HK.out; rw [show i + (d + 1) = k + 1 by omega]; go_num, by rw [NX2.out], rfl⟩, by simp [intOf]; omega⟩
    · obtain rfl : n = i + d := by omega
      rw [show i + d - i = d by omega] at O
      go_wp2
      go_ret
      rw [O.out]
      exact ⟨rfl, _, rfl⟩
end Go.Proofs.Ytdmlpggommephaa.Ct
