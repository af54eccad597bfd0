import Derived.Test.YtminokbigpckaaaDoorTaL
import Derived.Test.YtminokbigpckaaaDoorTxG
/-! Words, joined by blanks: plain. -/
namespace Go.Proofs.YtminokbigpckaaaDoor.Ct
open Go.RowKit
set_option linter.unusedVariables false
set_option linter.unusedSimpArgs false
/-- a number's text. -/
def tx (n : Int) : ByteArray := strOfNums (textS n)
theorem join_len : ∀ xs : List (List UInt8), (∀ x ∈ xs, x.length ≤ 20) → (Lib.join xs [32]).length ≤ 21 * xs.length
  | [], _ => by simp [Lib.join, List.intercalate]
  | [x], h => by have := h x (by simp); simp [Lib.join, List.intercalate]; omega
  | x :: y :: r, h => by
    have ih := join_len (y :: r) fun z hz => h z (List.mem_cons_of_mem _ hz)
    have hx := h x (by simp)
    have e : Lib.join (x :: y :: r) [32] = x ++ [32] ++ Lib.join (y :: r) [32] := by simp [Lib.join, List.intercalate]
    rw [e]
    simp only [List.length_append, List.length_cons, List.length_nil] at *
    omega
theorem textS_len {n : Int} (hn : I64 n) : (textS n).length ≤ 20 := by
  have h := decS_len (m := n.natAbs) (by unfold I64 at hn; omega)
  rw [textS_eq]
  split
  · simp; omega
  · omega
theorem tx_size {n : Int} (hn : I64 n) : (tx n).data.toList.length ≤ 20 := by
  have h := textS_len hn
  have e := bs_text n
  have e2 : (bs (strOfNums (textS n))).length = (textS n).length := by rw [e]
  unfold tx
  simp [bs] at e2
  simp
  omega
theorem wl_size : ∀ (l : List UInt8) (x : List UInt8), x ∈ wl l → x.length ≤ l.length
  | [], x, h => by simp [wl] at h; subst h; simp
  | b :: l, x, h => by
    by_cases hb : b = 32
    · subst hb
      rw [wl_blank] at h
      rcases List.mem_cons.1 h with rfl | h
      · simp
      · exact Nat.le_succ_of_le (wl_size l x h)
    · obtain ⟨u, t, hw⟩ := wl_ne l
      rw [wl_other hb hw] at h
      rcases List.mem_cons.1 h with rfl | h
      · have := wl_size l u (by rw [hw]; exact List.mem_cons_self)
        simpa using this
      · exact Nat.le_succ_of_le (wl_size l x (by rw [hw]; exact List.mem_cons_of_mem _ h))
theorem wB_size {s x : ByteArray} (h : x ∈ wB s) : x.size ≤ s.size := by
  obtain ⟨l, hl, rfl⟩ := List.mem_map.1 h
  exact wl_size _ l hl
theorem join_snoc (xs : List (List UInt8)) (x : List UInt8) (h : xs ≠ []) : Lib.join (xs ++ [x]) [32] = Lib.join xs [32] ++ [32] ++ x := by
  induction xs with
  | nil => exact absurd rfl h
  | cons y r ih =>
    cases r with
    | nil => simp [Lib.join, List.intercalate]
    | cons z r =>
      have := ih (by simp)
      have e1 : ∀ l : List (List UInt8), Lib.join (y :: z :: l) [32] = y ++ [32] ++ Lib.join (z :: l) [32] := fun l => by simp [Lib.join, List.intercalate]
      rw [List.cons_append, List.cons_append, e1, e1]
      rw [List.cons_append] at this
      rw [this]
      simp
theorem read_bool (l : List Int) : (readS l).2 = (parseS l).2 := by
  rcases both l with ⟨n, h1, h2⟩ | ⟨h1, c, h2⟩
  · rw [h1, h2]
  · rw [h1, h2]
theorem read_val {l : List Int} (h : (parseS l).2 = true) : (readS l).1 = (parseS l).1 := by
  rcases both l with ⟨n, h1, h2⟩ | ⟨h1, c, h2⟩
  · rw [h1, h2]
  · rw [h1] at h; cases h
theorem wl_nob : ∀ (l : List UInt8), (∀ b ∈ l, b ≠ 32) → wl l = [l]
  | [], _ => rfl
  | b :: l, h => by
    rw [wl_other (h b (by simp)) (h := l) (t := []) (wl_nob l fun x hx => h x (by simp [hx]))]
theorem wl_app : ∀ (x l : List UInt8), (∀ b ∈ x, b ≠ 32) → wl (x ++ 32 :: l) = x :: wl l
  | [], l, _ => wl_blank l
  | b :: x, l, h => by
    rw [List.cons_append, wl_other (h b (by simp)) (wl_app x l fun y hy => h y (by simp [hy]))]
theorem wl_join : ∀ (xs : List (List UInt8)), xs ≠ [] → (∀ x ∈ xs, ∀ b ∈ x, b ≠ 32) → wl (Lib.join xs [32]) = xs
  | [], h, _ => absurd rfl h
  | [x], _, h => by
    have : Lib.join [x] [32] = x := by simp [Lib.join, List.intercalate]
    rw [this, wl_nob x (h x (by simp))]
  | x :: y :: r, _, h => by
    have e : Lib.join (x :: y :: r) [32] = x ++ 32 :: Lib.join (y :: r) [32] := by simp [Lib.join, List.intercalate]
    rw [e, wl_app x _ (h x (by simp)), wl_join (y :: r) (by simp) fun z hz => h z (List.mem_cons_of_mem _ hz)]
theorem join_wl : ∀ (l : List UInt8), Lib.join (wl l) [32] = l
  | [] => rfl
  | b :: l => by
    have ih := join_wl l
    obtain ⟨h, t, hw⟩ := wl_ne l
    by_cases hb : b = 32
    · subst hb
      rw [wl_blank, hw]
      have e : Lib.join ([] :: h :: t) [32] = 32 :: Lib.join (h :: t) [32] := by simp [Lib.join, List.intercalate]
      rw [e, ← hw, ih]
    · rw [wl_other hb hw]
      rw [hw] at ih
      cases t with
      | nil =>
        have e1 : ∀ z : List UInt8, Lib.join [z] [32] = z := fun z => by simp [Lib.join, List.intercalate]
        rw [e1] at ih ⊢; rw [ih]
      | cons y r =>
        have e1 : ∀ z : List UInt8, Lib.join (z :: y :: r) [32] = z ++ 32 :: Lib.join (y :: r) [32] := fun z => by simp [Lib.join, List.intercalate]
        rw [e1] at ih ⊢
        rw [List.cons_append, ih]
theorem textS_chars (n : Int) : ∀ x ∈ textS n, x ≠ 32 := by
  intro x hx e
  subst e
  rw [textS_eq] at hx
  have hd : (32 : Int) ∈ decS n.natAbs → False := fun h => by
    have := (List.all_eq_true.1 (decS_facts n.natAbs).2.1) _ h
    revert this
    decide
  split at hx
  · rcases List.mem_cons.1 hx with h | h
    · omega
    · exact hd h
  · exact hd hx
theorem mem_bs {s : ByteArray} {b : UInt8} (h : b ∈ s.data.toList) : (b.toNat : Int) ∈ bs s := by
  unfold bs
  exact List.mem_map.2 ⟨b, by simpa using h, rfl⟩
theorem text_nob (n : Int) : ∀ b ∈ (tx n).data.toList, b ≠ 32 := by
  intro b hb e
  have h := mem_bs hb
  have e2 : bs (tx n) = textS n := bs_text n
  rw [e2] at h
  exact textS_chars n _ h (by subst e; rfl)
theorem ba_list (l : List UInt8) : (⟨l.toArray⟩ : ByteArray).data.toList = l := by simp
theorem map_ba (xs : List ByteArray) : (xs.map (·.data.toList)).map (fun l : List UInt8 => (⟨l.toArray⟩ : ByteArray)) = xs := by
  rw [List.map_map]
  exact (List.map_congr_left (g := id) fun x _ => (ba_eq rfl).symm).trans (List.map_id _)
theorem parse_tx {n : Int} (hn : I64 n) : parseS (bs (tx n)) = (n, true) := by
  have e2 : bs (tx n) = textS n := bs_text n
  rw [e2]
  exact parse_text hn
theorem tx_of {w : ByteArray} (h : (parseS (bs w)).2 = true) : tx (parseS (bs w)).1 = w := by
  have h1 := (read_yes (l := bs w) (by rw [read_bool, h])).1
  rw [read_val h] at h1
  unfold tx
  rw [← h1]
  exact strOf_bs w
end Go.Proofs.YtminokbigpckaaaDoor.Ct
