import Derived.Test.YtjjhfllpbicclaaGhC
/-! Histories: slices.DeleteFunc. -/
namespace Go.Proofs.Ytjjhfllpbicclaa.Ct
open Go.RowKit
set_option linter.unusedVariables false
set_option linter.unusedSimpArgs false
theorem put_frozen {base : Nat} {w : World} {gp off cap n : Nat} {xs : List Value} (h : SL base w 47 2 (.slice (some ⟨gp, off, none⟩) n cap) n xs) (hn : 0 < n) (q : Nat) : w.frozen? ⟨gp, q, none⟩ = false := by
  obtain ⟨g, off', cap', cs, e, hb, hblk, h1, h2, hc⟩ := h.at_ hn
  simp only [Value.slice.injEq, Option.some.injEq, Addr.mk.injEq, and_true, true_and] at e
  obtain ⟨⟨rfl, rfl⟩, rfl⟩ := e
  exact hblk.frozen _
theorem put_block {base : Nat} {w : World} {gp off cap n : Nat} {xs : List Value} (h : SL base w 47 2 (.slice (some ⟨gp, off, none⟩) n cap) n xs) (hn : 0 < n) : base ≤ gp ∧ ∃ cs, Blk w gp 47 cs ∧ n ≤ cap ∧ cap ≤ 9223372036854775807 := by
  obtain ⟨g, off', cap', cs, e, hb, hblk, h1, h2, hc⟩ := h.at_ hn
  simp only [Value.slice.injEq, Option.some.injEq, Addr.mk.injEq, and_true, true_and] at e
  obtain ⟨⟨rfl, rfl⟩, rfl⟩ := e
  exact ⟨hb, cs, hblk, h1, h2⟩
theorem put_isSome {base : Nat} {w : World} {gp off cap n : Nat} {L : List KV} (h : SL base w 47 2 (.slice (some ⟨gp, off, none⟩) n cap) n (flatP L)) (hn : L.length = n) {q : Nat} (hq : q < n * 2) : (w.cell? ⟨gp, off + q, none⟩).isSome = true := by
  have hk := put_cells h hn (k := q / 2) (by omega)
  have : q % 2 = 0 ∨ q % 2 = 1 := by omega
  rcases this with e | e
  · rw [show off + q = off + q / 2 * 2 by omega, hk.1]; rfl
  · rw [show off + q = off + q / 2 * 2 + 1 by omega, hk.2]; rfl
theorem take_set_succ {α : Type} : ∀ {L : List α} {i : Nat} (p : α), i < L.length → (L.set i p).take (i + 1) = L.take i ++ [p]
  | [], i, p, h => by simp at h
  | q :: L, 0, p, h => rfl
  | q :: L, i + 1, p, h => by simp only [List.set_cons_succ, List.take_succ_cons, take_set_succ p (show i < L.length by simpa using h), List.cons_append]
theorem drop_set_lt {α : Type} : ∀ {L : List α} {i j : Nat} (p : α), i < j → (L.set i p).drop j = L.drop j
  | [], i, j, p, h => by simp
  | q :: L, i, 0, p, h => by omega
  | q :: L, 0, j + 1, p, h => rfl
  | q :: L, i + 1, j + 1, p, h => by simp only [List.set_cons_succ, List.drop_succ_cons, drop_set_lt p (show i < j by omega)]
theorem drop_one {α : Type} {L M : List α} {j : Nat} (h : L.drop j = M.drop j) : L.drop (j + 1) = M.drop (j + 1) := by
  have := congrArg (List.drop 1) h
  simpa [List.drop_drop, Nat.add_comm] using this
theorem getD_drop {L M : List KV} {j : Nat} (h : L.drop j = M.drop j) : L.getD j (0, 0) = M.getD j (0, 0) := by
  have := congrArg (fun l : List KV => l.getD 0 (0, 0)) h
  simpa [List.getD_eq_getElem?_getD, List.getElem?_drop] using this
def DelSt (base : Nat) (w : World) (gp off cap n : Nat) (M L : List KV) (i j : Nat) (wr : World) : Prop :=
  i < j ∧ j ≤ n ∧ ∃ L' : List KV, L'.length = n ∧ SL base wr 47 2 (.slice (some ⟨gp, off, none⟩) n cap) n (flatP L') ∧ L'.take i = keepS M (L.take j) ∧ L'.drop j = L.drop j ∧ Fr base minePut w wr
set_option maxHeartbeats 8000000 in
theorem deleteP_calls (base b h g gp off cap n : Nat) (M L : List KV) (v1 v2 v3 : Value) (w : World) (hb : Blk w b 23 #[.pointer (some ⟨h, 0, none⟩)]) (hh : Blk w h 44 #[.map (some g), v1, v2, v3]) (hm : MapU w g M)
    (hs : SL base w 47 2 (.slice (some ⟨gp, off, none⟩) n cap) n (flatP L)) (hn : L.length = n) (hn0 : 0 < n) (hn2 : n ≤ 1000000) (hbase : base ≤ w.heap.size) :
    Calls Try.prog 21 #[.slice (some ⟨gp, off, none⟩) n cap, .func (.func 22) #[] #[.pointer (some ⟨b, 0, none⟩)]] w fun e w' => ∃ v, e = .returned v ∧ SL base w' 47 2 v (keepS M L).length (flatP (keepS M L)) ∧ Fr base minePut w w' := by
  have IC := Lib.hid (indexP_calls base b h g gp off cap n M L w (hb.cell 0) (hh.cell 0) hm hs hn hn2)
  have DC := Lib.hid (fun (p : KV) (W : World) (hf : Fr base minePut w W) => del1_calls b h g M p W ((hb.fr hf (minePut_b _)).cell 0) ((hh.fr hf (minePut_h _)).cell 0) (hm.fr hf))
  have HS := Lib.hid hs
  have HN := Lib.hid hn
  have HBS := Lib.hid hbase
  obtain ⟨hgp, cs, -, hcap, hcm⟩ := put_block hs hn0
  have HGP := Lib.hid hgp
  have AL := Lib.hid (fun (ha : ∀ j, j < L.length → cntS M (L.getD j (0, 0)) = true) => keepS_all ha)
  have ST := Lib.hid (fun k (hk : k < L.length) (h0 : cntS M (L.getD k (0, 0)) = false) (h1 : ∀ j, j < k → cntS M (L.getD j (0, 0)) = true) => (show L.take k = keepS M (L.take (k + 1)) by
    rw [keepS_step hk, if_neg (by rw [h0]; simp), keepS_pre (by omega) h1]))
  have KS := Lib.hid (fun j (hj : j < L.length) => keepS_step (M := M) hj)
  have KL := Lib.hid (show keepS M (L.take n) = keepS M L by rw [← hn, List.take_length])
  clear hb hh hm hs hn hbase hgp
  go_enter Try.func21, Try.ntmps21
  go_upto_region 2 with (go_at_call 23; (with_reducible refine (IC.out).mono ?_); rintro e w1 ⟨r, rfl, hidx, hb1⟩; have HB1 := Lib.hid hb1)
  rcases hidx with ⟨rfl, hall⟩ | ⟨k, hk, rfl, hk0, hk1⟩
  · have E := Lib.hid (AL.out hall)
    clear hall
    go_wp2
    go_ret
    exact ⟨_, rfl, by rw [E.out, HN.out]; exact HS.out.below HB1.out, Fr.of_below HB1.out⟩
  · have S0 := Lib.hid (show DelSt base w gp off cap n M L k (k + 1) w1 from ⟨by omega, by have := HN.out; omega, L, HN.out, HS.out.below HB1.out, ST.out k hk hk0 hk1, rfl, Fr.of_below HB1.out⟩)
    have hk2 : (k : Int) ≤ 1000000 := by have := HN.out; omega
    have q1 : ((k : Int) == -1) = false := beq_eq_false_iff_ne.2 (by omega)
    clear hk hk0 hk1 IC AL ST hb1
    go_wp2
    go_loopw [5, 6] (fun iv jv wr => ∃ i j : Nat, iv = .int .i64 i ∧ jv = .int .i64 j ∧ DelSt base w gp off cap n M L i j wr) (fun _ jv _ => n - (intOf jv).toNat)
    case atStart => exact ⟨k, k + 1, rfl, by go_num, S0.out⟩
    case round =>
      obtain ⟨i, j, rfl, rfl, hij, hjn, L', hl', hsl, ht, hd, hf⟩ := hrel
      have HSL := Lib.hid hsl
      have HF := Lib.hid hf
      have HT := Lib.hid ht
      have HD := Lib.hid hd
      have HL := Lib.hid hl'
      clear hsl hf ht hd hl' S0
      by_cases hlt : j < n
      · have hlti : (j : Int) < n := by omega
        have hini : (i : Int) < n := by omega
        have hin : i < n := by omega
        have eL := getD_drop HD.out
        obtain ⟨c0, c1⟩ := put_cells HSL.out HL.out hlt
        rw [eL] at c0 c1
        have ks := KS.out j (by rw [HN.out]; exact hlt)
        have D1 := Lib.hid (DC.out (L.getD j (0, 0)) _ (HF.out.alloc (.cells #[.int .u64 (L.getD j (0, 0)).1, .int .i64 (L.getD j (0, 0)).2] 47)))
        clear eL
        generalize L.getD j (0, 0) = p at *
        obtain ⟨p1, p2⟩ := p
        dsimp only at *
        have hvk : Blk (wr.alloc (.cells #[.int .u64 p1, .int .i64 p2] 47)) wr.heap.size 47 #[.int .u64 p1, .int .i64 p2] := Blk.new _ _ _
        have HVK := Lib.hid hvk
        clear hvk
        cases hq : cntS M (p1, p2)
        · rw [hq] at D1 ks
          rw [if_neg (by simp)] at ks
          have KS2 := Lib.hid (HT.out.trans ks.symm)
          clear ks hq
          go_wp2_with (go_at_call 22; (with_reducible refine (D1.out).mono ?_); rintro e w2 ⟨rfl, hb⟩; have HB2 := Lib.hid (below_step (below_alloc (Below.refl wr.heap.size wr) _) hb); clear hb)
          go_roundw
          case rel => exact ⟨i, j + 1, rfl, by go_num, by omega, by omega, L', HL.out, HSL.out.below HB2.out, KS2.out, drop_one HD.out, HF.out.trans (Fr.of_below HB2.out)⟩
          case measure => simp [intOf]; omega
        · rw [hq] at D1 ks
          rw [if_pos rfl] at ks
          have KS2 := Lib.hid (show (L'.set i (p1, p2)).take (i + 1) = keepS M (L.take (j + 1)) by rw [take_set_succ _ (by rw [HL.out]; exact hin), HT.out, ks])
          clear ks hq
          go_upto_region 9 with (go_at_call 22; (with_reducible refine (D1.out).mono ?_); rintro e w2 ⟨rfl, hb⟩; have HB2 := Lib.hid (below_step (below_alloc (Below.refl wr.heap.size wr) _) hb); have hv2 := HVK.out.below hb; clear hb)
          have k0 := hv2.cell 0
          have k1 := hv2.cell 1
          have HS2 := Lib.hid (HSL.out.below HB2.out)
          have fz := put_frozen HS2.out hn0
          obtain ⟨d0, d1⟩ := put_cells HS2.out HL.out hin
          clear c0 c1
          go_wp2
          have fs := flatP_set L' i (p1, p2) (by rw [HL.out]; exact hin)
          dsimp only at fs
          have hsl2 := (HS2.out.set_ (i * 2) (by omega) (.int .u64 p1)).set_ (i * 2 + 1) (by omega) (.int .i64 p2)
          rw [fs, ← Nat.add_assoc] at hsl2
          obtain ⟨-, cs2, hk2, -, -⟩ := put_block HS2.out hn0
          have f1 := (HF.out.trans (Fr.of_below HB2.out)).set_ hk2 (minePut_p _) HGP.out (off + i * 2) (.int .u64 p1)
          have f2 := f1.set_ (hk2.set_ (off + i * 2) (.int .u64 p1)) (minePut_p _) HGP.out (off + i * 2 + 1) (.int .i64 p2)
          exact ⟨⟨i + 1, j + 1, by go_num, by go_num, by omega, by omega, L'.set i (p1, p2), by rw [List.length_set]; exact HL.out, hsl2, KS2.out, by rw [drop_set_lt _ (by omega)]; exact drop_one HD.out, f2⟩, by simp [intOf]; omega⟩
      · obtain rfl : j = n := by omega
        have hi1 : (i : Int) ≤ j := by omega
        have hi2 : (i : Int) ≤ cap := by omega
        obtain ⟨zs, hz, hrun⟩ := run_clear_put wr gp (off + i * 2) (j - i) (cap - i) (by omega) (fun q hq => by rw [Nat.add_assoc]; exact put_isSome HSL.out HL.out (by omega)) (fun q hq => put_frozen HSL.out (by omega) _)
        go_wp2
        go_ret
        have e : L'.take i = keepS M L := HT.out.trans KL.out
        obtain ⟨-, cs2, hk2, -, -⟩ := put_block HSL.out hn0
        refine ⟨_, rfl, ?_, fr_setCells (fun _ => rfl) HGP.out zs _ _ _ hk2 HF.out⟩
        rw [← e, show (L'.take i).length = i by rw [List.length_take, HL.out]; omega]
        exact HSL.out.clear_ HL.out (by omega) hz
end Go.Proofs.Ytjjhfllpbicclaa.Ct
