import Derived.Test.YthdknlnbpedlpaaDoorHex
import Derived.Deep.QuietTactic
import Derived.BigQuiet
import Derived.Deep.MidRow
import Derived.ChangeKeysEq
/-! octet.worth, Unhex, and the reference's. -/
namespace Go.Proofs.YthdknlnbpedlpaaDoor.Ct
open Go.RowKit
set_option linter.unusedVariables false
set_option linter.unusedSimpArgs false
def worthS (c : Int) : Int := if 48 ≤ c ∧ c ≤ 57 then c - 48 else if 97 ≤ c ∧ c ≤ 102 then c - 87 else -1
theorem worth_hit : ∀ j, j < 16 → worthS (DigC.getD j 0) = j := by decide
theorem worth_miss : ∀ c : Nat, c < 256 → (∀ i, i < 16 → DigC.getD i 0 ≠ (c : Int)) → worthS (c : Int) = -1 := by decide +kernel
theorem worth_bd (c : Int) : worthS c = -1 ∨ (0 ≤ worthS c ∧ worthS c < 16) := by 
  unfold worthS
  split
  · omega
  · split <;> omega
/-- reading an array that is a value. -/
theorem run_index_agg {P : Program} {w : World} (t e : TypeId) (n B : Nat) (z : Value) (ht : P.underlying t = some (.array n e)) (he : P.plainKey e = true) (hs : (P.info? e).map (fun i => (i.zero, i.size, i.bytes)) = some (some z, 1, B)) (cs : Array Value) (v : Value) (i : Nat) (hi : i < n) (hc : cs[i]? = some v) :
    (Instr.index t (.agg cs) (.int .i64 i)).run P w = .ok v w := by
  obtain ⟨i0, hi0, _, hz1, _⟩ := info_parts hs
  have h2 : (i : Int) < n := by omega
  unfold Instr.index
  simp [asIntOf, run_underlying ht, sizeOf, typeInfo, hi0, hz1, h2, run_part_plain he (w := w) (xs := cs) (off := i) hc]
  exact fun h => absurd h (by omega)

def DigV : List Value := DigC.map (Value.int .u8)
set_option maxHeartbeats 2000000 in
theorem worth_calls (c : Int) (w : World) (c0 : 0 ≤ c) (c1 : c ≤ 255) (hT : Dig w) :
    Calls Tryd.prog 32 #[.int .u8 c] w fun e w' => e = .returned (.int .i64 (worthS c)) ∧ w = w' := by
  have hr : w.rangeAt 0 0 DigV := fun j v hv => by
    have hj : j < 16 := by have := (List.getElem?_eq_some_iff.1 hv).1; simpa [DigV, DigC] using this
    rw [Nat.zero_add, hT j hj, ← hv]
    simp [DigV, List.getD_eq_getElem?_getD]
    rw [List.getElem?_eq_getElem (by show j < 16; exact hj)]
    rfl
  have hsz : (Tryd.prog.info? 57).map (·.size) = some DigV.length := by kernel_rfl
  have hat : ∀ j, j < 16 → DigV.toArray[j]? = some (.int .u8 (DigC.getD j 0)) := by
    intro j hj
    simp [DigV, List.getD_eq_getElem?_getD]
    rw [List.getElem?_eq_getElem (by show j < 16; exact hj)]
    rfl
  have hl : DigV.toArray.size = 16 := rfl
  have HR := Lib.hid hr
  have HA := Lib.hid hat
  have HZ := Lib.hid hsz
  clear hr hat hsz hT
  go_enter Tryd.func32, Tryd.ntmps32
  go_wp2_with (first | (refine wpList_load_mid rfl 57 (.global 0) rfl 0 0 rfl DigV _ HR.out Tryd.underlying57 rfl HZ.out ?_))
  generalize DigV.toArray = C at *
  go_loop [3, 4, 6] (fun _ _ j => ∃ m : Nat, m ≤ 16 ∧ j = .int .i64 m ∧ ∀ i, i < m → DigC.getD i 0 ≠ c) (fun _ _ j => 16 - (intOf j).toNat)
  case atStart => exact ⟨0, by omega, rfl, by omega⟩
  case round =>
    obtain ⟨m, hm, rfl, hne⟩ := hrel
    have HN := Lib.hid hne; clear hne
    by_cases hlt : m < 16
    · have ha := run_index_agg (P := Tryd.prog) (w := w) 57 5 16 1 _ Tryd.underlying57 (by kernel_rfl) infoU8 C _ m hlt (HA.out m hlt)
      have hmi : (m : Int) < 16 := by omega
      by_cases heq : DigC.getD m 0 = c
      · have hw := worth_hit m hlt
        rw [heq] at ha hw
        have HW := Lib.hid hw
        clear hw heq
        go_wp2
        go_ret
        exact ⟨by rw [HW.out]; rfl, rfl⟩
      · have hb : (DigC.getD m 0 == c) = false := beq_eq_false_iff_ne.2 heq
        have HNE := Lib.hid (show ∀ i, i = m → DigC.getD i 0 ≠ c from fun i hi => by rw [hi]; exact heq)
        clear heq
        generalize DigC.getD m 0 = d at *
        go_wp2
        go_round
        case rel => exact ⟨m + 1, by omega, by go_num, fun i hi => by
          rcases Nat.lt_succ_iff_lt_or_eq.1 hi with h | rfl
          · exact HN.out i h
          · exact HNE.out _ rfl⟩
        case measure => simp [intOf]; omega
    · obtain rfl : m = 16 := by omega
      obtain ⟨n, rfl⟩ := Int.eq_ofNat_of_zero_le c0
      have hw := worth_miss n (by omega) HN.out
      have HW := Lib.hid hw
      clear hw
      go_wp2
      go_ret
      exact ⟨by rw [HW.out]; rfl, rfl⟩

theorem cell_lit1 {w : World} {v : Value} {T : TypeId} {g : Nat} (hg : g = w.heap.size) : (w.alloc (.cells #[v] T)).cell? ⟨g, 0, none⟩ = some v := by
  subst hg; rw [World.cell?_alloc_new]; rfl
def unhexS : List Int → Option (List Int)
  | [] => some []
  | [_] => none
  | a :: b :: l => if worthS a < 0 ∨ worthS b < 0 then none else (unhexS l).map ((16 * worthS a + worthS b) :: ·)
theorem unhexS_append : ∀ (m : Nat) (l r : List Int), l.length = 2 * m → unhexS (l ++ r) = (unhexS l).bind fun x => (unhexS r).map (x ++ ·)
  | 0, l, r, h => by
    obtain rfl : l = [] := List.length_eq_zero_iff.1 (by omega)
    simp [unhexS]
  | m + 1, l, r, h => by
    match l, h with
    | a :: b :: l, h =>
      have ih := unhexS_append m l r (by simp at h; omega)
      simp only [List.cons_append, unhexS]
      split
      · rfl
      · rw [ih]
        cases unhexS l <;> cases unhexS r <;> rfl
theorem unhexS_odd : ∀ (m : Nat) (l : List Int), l.length = 2 * m + 1 → unhexS l = none
  | 0, [_], h => rfl
  | m + 1, a :: b :: l, h => by
    have ih := unhexS_odd m l (by simp at h; omega)
    simp only [unhexS, ih]
    split <;> rfl
theorem pair_split {l : List Int} {j : Nat} (h : 2 * j + 2 ≤ l.length) : l.drop (2 * j) = l.getD (2 * j) 0 :: l.getD (2 * j + 1) 0 :: l.drop (2 * j + 2) := by
  rw [List.drop_eq_getElem_cons (by omega), List.drop_eq_getElem_cons (i := 2 * j + 1) (by omega)]
  simp [List.getD_eq_getElem?_getD, List.getElem?_eq_getElem (show 2 * j < l.length by omega), List.getElem?_eq_getElem (show 2 * j + 1 < l.length by omega)]
theorem unhexS_bad {l : List Int} {j : Nat} {ys : List Int} (h : 2 * j + 2 ≤ l.length) (hy : unhexS (l.take (2 * j)) = some ys) (hb : worthS (l.getD (2 * j) 0) < 0 ∨ worthS (l.getD (2 * j + 1) 0) < 0) : unhexS l = none := by
  conv => lhs; rw [← List.take_append_drop (2 * j) l, pair_split h]
  rw [unhexS_append j _ _ (by rw [List.length_take]; omega), hy]
  simp only [unhexS, if_pos hb, Option.map_none, Option.bind_some]
theorem unhexS_good {l : List Int} {j : Nat} {ys : List Int} (h : 2 * j + 2 ≤ l.length) (hy : unhexS (l.take (2 * j)) = some ys) (hb : ¬ (worthS (l.getD (2 * j) 0) < 0 ∨ worthS (l.getD (2 * j + 1) 0) < 0)) :
    unhexS (l.take (2 * (j + 1))) = some (ys ++ [16 * worthS (l.getD (2 * j) 0) + worthS (l.getD (2 * j + 1) 0)]) := by
  have e : l.take (2 * (j + 1)) = l.take (2 * j) ++ [l.getD (2 * j) 0, l.getD (2 * j + 1) 0] := by
    rw [show 2 * (j + 1) = 2 * j + 1 + 1 by omega, take_next (by omega), take_next (by omega), List.append_assoc]; rfl
  rw [e, unhexS_append j _ _ (by rw [List.length_take]; omega), hy]
  simp only [unhexS, if_neg hb, Option.map_some, Option.bind_some]
theorem hex_worth : ∀ p, p < 16 → worthS (DigC.getD p 0) = p := worth_hit
theorem unhexS_hexS : ∀ {l : List Int}, (∀ x ∈ l, 0 ≤ x ∧ x ≤ 255) → unhexS (hexS l) = some l
  | [], _ => rfl
  | b :: l, h => by
    have ih := unhexS_hexS (l := l) (fun x hx => h x (List.mem_cons_of_mem _ hx))
    have hb := h b (List.mem_cons_self ..)
    have e1 := worth_hit (b / 16).toNat (by omega)
    have e2 := worth_hit (b % 16).toNat (by omega)
    simp only [hexS, unhexS, e1, e2, ih]
    rw [if_neg (by omega)]
    simp only [Option.map_some, Option.some.injEq, List.cons.injEq, and_true]
    omega
theorem or4_val : ∀ p, p < 16 → ∀ q, q < 16 → bits BinOp.or .i64 ((p : Nat) * 16 : Int) ((q : Nat) : Int) = ((16 * p + q : Nat) : Int) := by decide +kernel
set_option maxHeartbeats 4000000 in
theorem unhex_calls (s : ByteArray) (w : World) (hs : s.size ≤ 1000000000) (hT : Dig w) :
    Calls Tryd.prog 24 #[.string s] w fun e w' => ∃ v, e = .returned (.tuple #[v, .bool (unhexS (bs s)).isSome]) ∧ Own .u8 5 w' w.heap.size v ((unhexS (bs s)).getD []) ∧ Below w.heap.size w w' := by
  have hl := bs_length s
  by_cases hodd : s.size % 2 = 0
  · obtain ⟨k, hk⟩ : ∃ k, s.size = 2 * k := ⟨s.size / 2, by omega⟩
    have hmod : (s.size : Int) % 2 = 0 := by omega
    have hmod2 : Int.tmod (s.size : Int) 2 = 0 := by rw [Int.tmod_eq_emod_of_nonneg (by omega)]; omega
    have HT := Lib.hid hT; clear hT
    have HL := Lib.hid hl; clear hl
    have HK := Lib.hid hk; clear hk
    go_enter Tryd.func24, Tryd.ntmps24
    go_wp2
    go_loopw [4, 5] (fun out i wr => ∃ (j : Nat) (ys : List Int), j ≤ s.size ∧ i = .int .i64 j ∧ j % 2 = 0 ∧ ys.length ≤ j ∧ unhexS ((bs s).take j) = some ys ∧ Own .u8 5 wr w.heap.size out ys ∧ Below w.heap.size w wr) (fun _ i _ => s.size - (intOf i).toNat)
    case atStart => exact ⟨0, [], by omega, rfl, rfl, by simp, rfl, own_nil _ _ _ _, Below.refl _ _⟩
    case round =>
      obtain ⟨j, ys, hj, rfl, he, hyj, hun, hown, hbel⟩ := hrel
      have HE := Lib.hid he; clear he
      have HO := Lib.hid hown; clear hown
      have HB := Lib.hid hbel; clear hbel
      have HU := Lib.hid hun; clear hun
      by_cases hlt : j < s.size
      · have hlt2 : j + 1 < s.size := by have := HE.out; have := HK.out; omega
        have hlti : (j : Int) + 1 < s.size := by omega
        have hyl : ys.length ≤ 1000000000 := by omega
        have g1 := bs_get s j hlt
        have g2 := bs_get s (j + 1) hlt2
        have c1 : 0 ≤ ((s[j]'hlt).toNat : Int) ∧ ((s[j]'hlt).toNat : Int) ≤ 255 := by have := (s[j]'hlt).toNat_lt; omega
        have c2 : 0 ≤ ((s[j + 1]'hlt2).toNat : Int) ∧ ((s[j + 1]'hlt2).toNat : Int) ≤ 255 := by have := (s[j + 1]'hlt2).toNat_lt; omega
        generalize hc1 : ((s[j]'hlt).toNat : Int) = x at *
        generalize hc2 : ((s[j + 1]'hlt2).toNat : Int) = y at *
        have WX := Lib.hid (fun n => worth_calls x (wr.drewN n) c1.1 c1.2 ((HT.out.below HB.out).below (below_drewN (Below.refl _ _) n)))
        have WY := Lib.hid (fun n => worth_calls y (wr.drewN n) c2.1 c2.2 ((HT.out.below HB.out).below (below_drewN (Below.refl _ _) n)))
        have wx := worth_bd x
        have wy := worth_bd y
        obtain ⟨jj, hjj⟩ : ∃ jj, j = 2 * jj := ⟨j / 2, by have := HE.out; omega⟩
        have hl2 : 2 * jj + 2 ≤ (bs s).length := by have := HL.out; omega
        have UB := fun h => unhexS_bad hl2 (by rw [← hjj]; exact HU.out) h
        have UG := fun h => unhexS_good hl2 (by rw [← hjj]; exact HU.out) h
        rw [show 2 * jj + 1 = j + 1 by omega, ← hjj, g1, g2] at UB UG
        rw [show 2 * (jj + 1) = j + 2 by omega] at UG
        generalize worthS x = p at *
        generalize worthS y = q at *
        have HUB := Lib.hid UB
        have HUG := Lib.hid UG
        clear UB UG g1 g2 hl2 hjj c1 c2
        rcases wx with rfl | ⟨p0, p1⟩
        · have E := Lib.hid (HUB.out (Or.inl (by decide)))
          go_wp2
          go_quiet (first | (go_at_call 32; with_reducible exact Calls.quiet_of_same ((WX.out _).mono fun e w' ⟨h1, h2⟩ => ⟨h1, h2.symm⟩)) | (go_at_call 32; with_reducible exact Calls.quiet_of_same ((WY.out _).mono fun e w' ⟨h1, h2⟩ => ⟨h1, h2.symm⟩)))
          go_wp2
          go_ret2
          exact ⟨_, by rw [E.out]; rfl, by rw [E.out]; exact own_nil _ _ _ _, below_drewN HB.out _⟩
        · rcases wy with rfl | ⟨q0, q1⟩
          · have E := Lib.hid (HUB.out (Or.inr (by decide)))
            go_wp2
            go_quiet (first | (go_at_call 32; with_reducible exact Calls.quiet_of_same ((WX.out _).mono fun e w' ⟨h1, h2⟩ => ⟨h1, h2.symm⟩)) | (go_at_call 32; with_reducible exact Calls.quiet_of_same ((WY.out _).mono fun e w' ⟨h1, h2⟩ => ⟨h1, h2.symm⟩)))
            go_wp2
            go_ret2
            exact ⟨_, by rw [E.out]; rfl, by rw [E.out]; exact own_nil _ _ _ _, below_drewN HB.out _⟩
          · have G := Lib.hid (HUG.out (by omega))
            obtain ⟨p', rfl⟩ := Int.eq_ofNat_of_zero_le p0
            obtain ⟨q', rfl⟩ := Int.eq_ofNat_of_zero_le q0
            have eor := or4_val p' (by omega) q' (by omega)
            have ewr : IntKind.u8.wrap ((16 * p' + q' : Nat) : Int) = ((16 * p' + q' : Nat) : Int) := by rw [u8_def]; omega
            have G2 := Lib.hid (show unhexS ((bs s).take (j + 2)) = some (ys ++ [((16 * p' + q' : Nat) : Int)]) by rw [G.out]; rfl)
            have z0 : (0 : Int) ≤ ((16 * p' + q' : Nat) : Int) ∧ ((16 * p' + q' : Nat) : Int) ≤ 255 := by omega
            generalize ((16 * p' + q' : Nat) : Int) = z at *
            go_wp2
            go_quiet (first | (go_at_call 32; with_reducible exact Calls.quiet_of_same ((WX.out _).mono fun e w' ⟨h1, h2⟩ => ⟨h1, h2.symm⟩)) | (go_at_call 32; with_reducible exact Calls.quiet_of_same ((WY.out _).mono fun e w' ⟨h1, h2⟩ => ⟨h1, h2.symm⟩)))
            go_wp2_with (at_builtin; refine wp_app1 23 5 .u8 1 Tryd.underlying23 infoU8 rfl (.tmp 33) (.tmp 39) rfl w.heap.size _ ys z ((HO.out.drewN _).alloc _) rfl _ rfl (cell_lit1 rfl) (u8_wf z0.1 z0.2) (by omega) (by decide) (by have := HB.out.size; simp; omega) ?_; intro v' w1 hown1 hg1; have hb1 := Below.app (below_alloc (below_drewN HB.out _) _) hg1 ((HO.out.drewN _).alloc _) (Nat.le_refl _) (by have := HB.out.size; simp; omega); have HO1 := Lib.hid hown1; have HB1 := Lib.hid hb1; clear hown1 hb1 hg1)
            go_roundw
            case rel => exact ⟨j + 2, _, by omega, by go_num, by have := HE.out; omega, by simp; omega, G2.out, HO1.out, HB1.out⟩
            case measure => simp [intOf]; omega
      · obtain rfl : j = s.size := by omega
        have E := Lib.hid HU.out
        rw [List.take_of_length_le (by have := HL.out; omega)] at E
        go_wp2
        go_ret2
        exact ⟨_, by rw [E.out]; rfl, by rw [E.out]; exact HO.out, HB.out⟩
  · obtain ⟨k, hk⟩ : ∃ k, s.size = 2 * k + 1 := ⟨s.size / 2, by omega⟩
    have E := Lib.hid (unhexS_odd k (bs s) (by omega))
    have hmod2 : Int.tmod (s.size : Int) 2 = 1 := by rw [Int.tmod_eq_emod_of_nonneg (by omega)]; omega
    clear hk hl hodd
    go_enter Tryd.func24, Tryd.ntmps24
    go_wp2
    go_ret2
    exact ⟨_, by rw [E.out]; rfl, by rw [E.out]; exact own_nil _ _ _ _, Below.refl _ _⟩

def digS (c : Int) : Int := if worthS c < 0 then 16 else worthS c
theorem digS_of (c : Int) : (worthS c = -1 → digS c = 16) ∧ 0 ≤ digS c ∧ digS c ≤ 16 ∧ (0 ≤ worthS c → digS c = worthS c) := by
  have := worth_bd c
  unfold digS
  split
  · exact ⟨fun _ => rfl, by omega, by omega, by omega⟩
  · exact ⟨by omega, by omega, by omega, fun _ => rfl⟩
theorem digit_calls (c : Int) (w : World) (c0 : 0 ≤ c) (c1 : c ≤ 255) : Calls Tryd.prog 33 #[.int .u8 c] w fun e w' => e = .returned (.int .i64 (digS c)) ∧ w = w' := by
  have hd : (48 ≤ c ∧ c ≤ 57) ∨ (97 ≤ c ∧ c ≤ 102) ∨ c < 48 ∨ (57 < c ∧ c < 97) ∨ 102 < c := by omega
  rcases hd with ⟨h1, h2⟩ | ⟨h1, h2⟩ | h | ⟨h1, h2⟩ | h
  · have E := Lib.hid (show digS c = c - 48 by have hw : worthS c = c - 48 := (by unfold worthS; rw [if_pos ⟨h1, h2⟩]); unfold digS; rw [hw, if_neg (by omega)])
    go_enter Tryd.func33, Tryd.ntmps33
    go_wp2
    go_ret
    exact ⟨ret_int (by rw [E.out]), rfl⟩
  · have E := Lib.hid (show digS c = c - 97 + 10 by have hw : worthS c = c - 87 := (by unfold worthS; rw [if_neg (by omega), if_pos ⟨h1, h2⟩]); unfold digS; rw [hw, if_neg (by omega)]; omega)
    have h3 : ¬ c ≤ 57 := by omega
    go_enter Tryd.func33, Tryd.ntmps33
    go_wp2
    go_ret
    exact ⟨ret_int (by rw [E.out]), rfl⟩
  all_goals (
    have E := Lib.hid (show digS c = 16 by have hw : worthS c = -1 := (by unfold worthS; rw [if_neg (by omega), if_neg (by omega)]); unfold digS; rw [hw, if_pos (by decide)])
    go_enter Tryd.func33, Tryd.ntmps33
    go_wp2
    go_ret
    exact ⟨ret_int (by rw [E.out]), rfl⟩)
set_option maxHeartbeats 4000000 in
theorem runhex_calls (s : ByteArray) (w : World) (hs : s.size ≤ 1000000000) :
    Calls Tryd.prog 26 #[.string s] w fun e w' => ∃ v, e = .returned (.tuple #[v, .bool (unhexS (bs s)).isSome]) ∧ Own .u8 5 w' w.heap.size v ((unhexS (bs s)).getD []) ∧ Below w.heap.size w w' := by
  have hl := bs_length s
  by_cases hodd : s.size % 2 = 0
  · obtain ⟨k, hk⟩ : ∃ k, s.size = 2 * k := ⟨s.size / 2, by omega⟩
    have hmod : (s.size : Int) % 2 = 0 := by omega
    have hmod2 : Int.tmod (s.size : Int) 2 = 0 := by rw [Int.tmod_eq_emod_of_nonneg (by omega)]; omega
    have HL := Lib.hid hl; clear hl
    have HK := Lib.hid hk; clear hk
    go_enter Tryd.func26, Tryd.ntmps26
    go_wp2
    go_loopw [4, 5] (fun out i wr => ∃ (j : Nat) (ys : List Int), j ≤ s.size ∧ i = .int .i64 j ∧ j % 2 = 0 ∧ ys.length ≤ j ∧ unhexS ((bs s).take j) = some ys ∧ Own .u8 5 wr w.heap.size out ys ∧ Below w.heap.size w wr) (fun _ i _ => s.size - (intOf i).toNat)
    case atStart => exact ⟨0, [], by omega, rfl, rfl, by simp, rfl, own_nil _ _ _ _, Below.refl _ _⟩
    case round =>
      obtain ⟨j, ys, hj, rfl, he, hyj, hun, hown, hbel⟩ := hrel
      have HE := Lib.hid he; clear he
      have HO := Lib.hid hown; clear hown
      have HB := Lib.hid hbel; clear hbel
      have HU := Lib.hid hun; clear hun
      by_cases hlt : j < s.size
      · have hlt2 : j + 1 < s.size := by have := HE.out; have := HK.out; omega
        have hlti : (j : Int) + 1 < s.size := by omega
        have hyl : ys.length ≤ 1000000000 := by omega
        have g1 := bs_get s j hlt
        have g2 := bs_get s (j + 1) hlt2
        have c1 : 0 ≤ ((s[j]'hlt).toNat : Int) ∧ ((s[j]'hlt).toNat : Int) ≤ 255 := by have := (s[j]'hlt).toNat_lt; omega
        have c2 : 0 ≤ ((s[j + 1]'hlt2).toNat : Int) ∧ ((s[j + 1]'hlt2).toNat : Int) ≤ 255 := by have := (s[j + 1]'hlt2).toNat_lt; omega
        generalize hc1 : ((s[j]'hlt).toNat : Int) = x at *
        generalize hc2 : ((s[j + 1]'hlt2).toNat : Int) = y at *
        have WX := Lib.hid (fun n => digit_calls x (wr.drewN n) c1.1 c1.2)
        have WY := Lib.hid (fun n => digit_calls y (wr.drewN n) c2.1 c2.2)
        have wx := worth_bd x
        have wy := worth_bd y
        obtain ⟨jj, hjj⟩ : ∃ jj, j = 2 * jj := ⟨j / 2, by have := HE.out; omega⟩
        have hl2 : 2 * jj + 2 ≤ (bs s).length := by have := HL.out; omega
        have UB := fun h => unhexS_bad hl2 (by rw [← hjj]; exact HU.out) h
        have UG := fun h => unhexS_good hl2 (by rw [← hjj]; exact HU.out) h
        rw [show 2 * jj + 1 = j + 1 by omega, ← hjj, g1, g2] at UB UG
        rw [show 2 * (jj + 1) = j + 2 by omega] at UG
        have dx := digS_of x
        have dy := digS_of y
        generalize worthS x = p at *
        generalize worthS y = q at *
        generalize digS x = dp at *
        generalize digS y = dq at *
        have HUB := Lib.hid UB
        have HUG := Lib.hid UG
        clear UB UG g1 g2 hl2 hjj c1 c2
        rcases wx with rfl | ⟨p0, p1⟩
        · obtain rfl : dp = 16 := dx.1 rfl
          have dq0 := dy.2.1; have dq1 := dy.2.2.1; clear dx dy
          have E := Lib.hid (HUB.out (Or.inl (by decide)))
          go_wp2
          go_quiet (first | (go_at_call 33; with_reducible exact Calls.quiet_of_same ((WX.out _).mono fun e w' ⟨h1, h2⟩ => ⟨h1, h2.symm⟩)) | (go_at_call 33; with_reducible exact Calls.quiet_of_same ((WY.out _).mono fun e w' ⟨h1, h2⟩ => ⟨h1, h2.symm⟩)))
          go_wp2
          go_ret2
          exact ⟨_, by rw [E.out]; rfl, by rw [E.out]; exact own_nil _ _ _ _, below_drewN HB.out _⟩
        · obtain rfl : dp = p := dx.2.2.2 p0
          rcases wy with rfl | ⟨q0, q1⟩
          · obtain rfl : dq = 16 := dy.1 rfl
            clear dx dy
            have E := Lib.hid (HUB.out (Or.inr (by decide)))
            go_wp2
            go_quiet (first | (go_at_call 33; with_reducible exact Calls.quiet_of_same ((WX.out _).mono fun e w' ⟨h1, h2⟩ => ⟨h1, h2.symm⟩)) | (go_at_call 33; with_reducible exact Calls.quiet_of_same ((WY.out _).mono fun e w' ⟨h1, h2⟩ => ⟨h1, h2.symm⟩)))
            go_wp2
            go_ret2
            exact ⟨_, by rw [E.out]; rfl, by rw [E.out]; exact own_nil _ _ _ _, below_drewN HB.out _⟩
          · obtain rfl : dq = q := dy.2.2.2 q0
            clear dx dy
            have G := Lib.hid (HUG.out (by omega))
            obtain ⟨p', rfl⟩ := Int.eq_ofNat_of_zero_le p0
            obtain ⟨q', rfl⟩ := Int.eq_ofNat_of_zero_le q0
            have eor : 16 * (p' : Int) + (q' : Int) = ((16 * p' + q' : Nat) : Int) := by push_cast; rfl
            have ewr : IntKind.u8.wrap ((16 * p' + q' : Nat) : Int) = ((16 * p' + q' : Nat) : Int) := by rw [u8_def]; omega
            have G2 := Lib.hid (show unhexS ((bs s).take (j + 2)) = some (ys ++ [((16 * p' + q' : Nat) : Int)]) by rw [G.out]; rfl)
            have z0 : (0 : Int) ≤ ((16 * p' + q' : Nat) : Int) ∧ ((16 * p' + q' : Nat) : Int) ≤ 255 := by omega
            generalize ((16 * p' + q' : Nat) : Int) = z at *
            go_wp2
            go_quiet (first | (go_at_call 33; with_reducible exact Calls.quiet_of_same ((WX.out _).mono fun e w' ⟨h1, h2⟩ => ⟨h1, h2.symm⟩)) | (go_at_call 33; with_reducible exact Calls.quiet_of_same ((WY.out _).mono fun e w' ⟨h1, h2⟩ => ⟨h1, h2.symm⟩)))
            go_wp2_with (at_builtin; refine wp_app1 23 5 .u8 1 Tryd.underlying23 infoU8 rfl (.tmp 33) (.tmp 39) rfl w.heap.size _ ys z ((HO.out.drewN _).alloc _) rfl _ rfl (cell_lit1 rfl) (u8_wf z0.1 z0.2) (by omega) (by decide) (by have := HB.out.size; simp; omega) ?_; intro v' w1 hown1 hg1; have hb1 := Below.app (below_alloc (below_drewN HB.out _) _) hg1 ((HO.out.drewN _).alloc _) (Nat.le_refl _) (by have := HB.out.size; simp; omega); have HO1 := Lib.hid hown1; have HB1 := Lib.hid hb1; clear hown1 hb1 hg1)
            go_roundw
            case rel => exact ⟨j + 2, _, by omega, by go_num, by have := HE.out; omega, by simp; omega, G2.out, HO1.out, HB1.out⟩
            case measure => simp [intOf]; omega
      · obtain rfl : j = s.size := by omega
        have E := Lib.hid HU.out
        rw [List.take_of_length_le (by have := HL.out; omega)] at E
        go_wp2
        go_ret2
        exact ⟨_, by rw [E.out]; rfl, by rw [E.out]; exact HO.out, HB.out⟩
  · obtain ⟨k, hk⟩ : ∃ k, s.size = 2 * k + 1 := ⟨s.size / 2, by omega⟩
    have E := Lib.hid (unhexS_odd k (bs s) (by omega))
    have hmod2 : Int.tmod (s.size : Int) 2 = 1 := by rw [Int.tmod_eq_emod_of_nonneg (by omega)]; omega
    clear hk hl hodd
    go_enter Tryd.func26, Tryd.ntmps26
    go_wp2
    go_ret2
    exact ⟨_, by rw [E.out]; rfl, by rw [E.out]; exact own_nil _ _ _ _, Below.refl _ _⟩
end Go.Proofs.YthdknlnbpedlpaaDoor.Ct
