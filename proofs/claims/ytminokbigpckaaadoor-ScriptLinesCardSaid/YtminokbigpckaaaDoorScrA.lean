import Derived.Test.YtminokbigpckaaaDoorObj
import Derived.Test.YtminokbigpckaaaDoorQuiet
/-! Steps: which may be: plain; Word, many, in. -/
namespace Go.Proofs.YtminokbigpckaaaDoor.Ct
open Go.RowKit
set_option linter.unusedVariables false
set_option linter.unusedSimpArgs false
structure Sp where
  op : Int
  a : Int
  b : Int
  c : Int
  fs : List Int
def noSp : Sp := ⟨0, 0, 0, 0, []⟩
def stepC (x : Sp) (fa : Option Addr) (fc : Nat) : Array Value := #[.int .i64 x.op, .int .i64 x.a, .int .i64 x.b, .int .i64 x.c, .slice fa x.fs.length fc]
def stepV (x : Sp) (fa : Option Addr) (fc : Nat) : Value := .agg (stepC x fa fc)
def WfS (x : Sp) : Prop := I64 x.op ∧ I64 x.a ∧ I64 x.b ∧ I64 x.c ∧ ∀ f ∈ x.fs, I64 f
def InS (n lo hi : Int) : Prop := lo ≤ n ∧ n ≤ hi
instance (n lo hi : Int) : Decidable (InS n lo hi) := by unfold InS; infer_instance
def manyS (op : Int) : Int :=
  if op = 11 then 3 else if op = 12 then 3 else if op = 2 then 2 else if op = 3 then 2 else if op = 6 then 2 else
  if op = 1 then 1 else if op = 5 then 1 else if op = 8 then 1 else if op = 13 then 1 else if op = 14 then 1 else 0
theorem manyS_bd (op : Int) : 0 ≤ manyS op ∧ manyS op ≤ 3 := by unfold manyS; (repeat' split) <;> omega
def FatesOk (fs : List Int) : Prop := ∀ f ∈ fs, InS f 0 255
instance (fs : List Int) : Decidable (FatesOk fs) := by unfold FatesOk; infer_instance
def BoundsX (x : Sp) : Prop :=
  (x.op = 2 → InS x.b 0 255) ∧ (x.op = 5 → InS x.a 1 4096) ∧ (x.op = 11 → InS x.a 0 1 ∧ 0 ≤ x.b ∧ 0 ≤ x.c) ∧ (x.op = 12 → InS x.c 1 4294967295) ∧ (x.op = 13 → InS x.a (-1) 1048576) ∧
  (x.op = 14 → x.fs.length ≤ 64 ∧ InS x.a 0 x.fs.length ∧ FatesOk x.fs)
instance (x : Sp) : Decidable (BoundsX x) := by unfold BoundsX; infer_instance
def LowX (x : Sp) : Prop := (manyS x.op < 3 → x.c = 0) ∧ (manyS x.op < 2 → x.b = 0) ∧ (manyS x.op < 1 → x.a = 0)
instance (x : Sp) : Decidable (LowX x) := by unfold LowX; infer_instance
def MayX (x : Sp) : Prop := InS x.op 1 14 ∧ LowX x ∧ (x.op ≠ 14 → x.fs.length = 0) ∧ BoundsX x
instance (x : Sp) : Decidable (MayX x) := by unfold MayX; infer_instance
def wordL (op : Int) : List Int :=
  if op = 1 then [114, 101, 97, 100] else if op = 2 then [119, 114, 105, 116, 101] else if op = 3 then [116, 114, 105, 109] else if op = 4 then [102, 108, 117, 115, 104] else
  if op = 5 then [116, 105, 99, 107] else if op = 6 then [100, 114, 111, 112] else if op = 7 then [115, 110, 97, 112] else if op = 8 then [114, 101, 115, 105, 122, 101] else
  if op = 9 then [100, 114, 97, 105, 110] else if op = 10 then [115, 104, 117, 116] else if op = 11 then [102, 97, 105, 108] else if op = 12 then [114, 111, 116] else
  if op = 13 then [102, 117, 115, 101] else if op = 14 then [99, 114, 97, 115, 104] else []
theorem wordL_nil (op : Int) : wordL op = [] ↔ ¬ InS op 1 14 := by
  constructor
  · intro h ⟨h0, h1⟩
    have : op = 1 ∨ op = 2 ∨ op = 3 ∨ op = 4 ∨ op = 5 ∨ op = 6 ∨ op = 7 ∨ op = 8 ∨ op = 9 ∨ op = 10 ∨ op = 11 ∨ op = 12 ∨ op = 13 ∨ op = 14 := by omega
    rcases this with rfl | rfl | rfl | rfl | rfl | rfl | rfl | rfl | rfl | rfl | rfl | rfl | rfl | rfl <;> (revert h; decide)
  · intro h
    unfold InS at h
    unfold wordL
    rw [if_neg (by omega), if_neg (by omega), if_neg (by omega), if_neg (by omega), if_neg (by omega), if_neg (by omega), if_neg (by omega), if_neg (by omega), if_neg (by omega), if_neg (by omega), if_neg (by omega), if_neg (by omega), if_neg (by omega), if_neg (by omega)]
def wordS (op : Int) : ByteArray := strOfNums (wordL op)
set_option maxHeartbeats 4000000 in
theorem smany_calls (op : Int) (w : World) : Calls Tryd.prog 25 #[.int .i64 op] w fun e w' => e = .returned (.int .i64 (manyS op)) ∧ w = w' := by
  by_cases h : InS op 1 14
  · obtain ⟨h0, h1⟩ := h
    have : op = 1 ∨ op = 2 ∨ op = 3 ∨ op = 4 ∨ op = 5 ∨ op = 6 ∨ op = 7 ∨ op = 8 ∨ op = 9 ∨ op = 10 ∨ op = 11 ∨ op = 12 ∨ op = 13 ∨ op = 14 := by omega
    clear h0 h1
    rcases this with rfl | rfl | rfl | rfl | rfl | rfl | rfl | rfl | rfl | rfl | rfl | rfl | rfl | rfl
    all_goals
      go_enter Tryd.func25, Tryd.ntmps25
      go_wp2
      go_ret
      exact ⟨rfl, rfl⟩
  · have M := Lib.hid (show manyS op = 0 by unfold InS at h; unfold manyS; (repeat' split) <;> omega)
    have hk : ∀ k : Int, 1 ≤ k → k ≤ 14 → (op == k) = false := fun k h1 h2 => beq_eq_false_iff_ne.2 (fun e => h ⟨by omega, by omega⟩)
    have e1 := hk 1 (by omega) (by omega)
    have e2 := hk 2 (by omega) (by omega)
    have e3 := hk 3 (by omega) (by omega)
    have e5 := hk 5 (by omega) (by omega)
    have e6 := hk 6 (by omega) (by omega)
    have e8 := hk 8 (by omega) (by omega)
    have e11 := hk 11 (by omega) (by omega)
    have e12 := hk 12 (by omega) (by omega)
    have e13 := hk 13 (by omega) (by omega)
    have e14 := hk 14 (by omega) (by omega)
    clear h hk
    go_enter Tryd.func25, Tryd.ntmps25
    go_wp2
    go_ret
    rw [M.out]
    exact ⟨rfl, rfl⟩
set_option maxHeartbeats 4000000 in
theorem word_calls (op : Int) (w : World) : Calls Tryd.prog 13 #[.int .i64 op] w fun e w' => e = .returned (.string (wordS op)) ∧ w = w' := by
  by_cases h : InS op 1 14
  · obtain ⟨h0, h1⟩ := h
    have : op = 1 ∨ op = 2 ∨ op = 3 ∨ op = 4 ∨ op = 5 ∨ op = 6 ∨ op = 7 ∨ op = 8 ∨ op = 9 ∨ op = 10 ∨ op = 11 ∨ op = 12 ∨ op = 13 ∨ op = 14 := by omega
    clear h0 h1
    rcases this with rfl | rfl | rfl | rfl | rfl | rfl | rfl | rfl | rfl | rfl | rfl | rfl | rfl | rfl
    all_goals
      go_enter Tryd.func13, Tryd.ntmps13
      go_wp2
      go_ret
      exact ⟨rfl, rfl⟩
  · have M := Lib.hid (show wordS op = strOfNums [] by unfold wordS; rw [(wordL_nil op).2 h])
    have hk : ∀ k : Int, 1 ≤ k → k ≤ 14 → (op == k) = false := fun k h1 h2 => beq_eq_false_iff_ne.2 (fun e => h ⟨by omega, by omega⟩)
    have e1 := hk 1 (by omega) (by omega)
    have e2 := hk 2 (by omega) (by omega)
    have e3 := hk 3 (by omega) (by omega)
    have e4 := hk 4 (by omega) (by omega)
    have e5 := hk 5 (by omega) (by omega)
    have e6 := hk 6 (by omega) (by omega)
    have e7 := hk 7 (by omega) (by omega)
    have e8 := hk 8 (by omega) (by omega)
    have e9 := hk 9 (by omega) (by omega)
    have e10 := hk 10 (by omega) (by omega)
    have e11 := hk 11 (by omega) (by omega)
    have e12 := hk 12 (by omega) (by omega)
    have e13 := hk 13 (by omega) (by omega)
    have e14 := hk 14 (by omega) (by omega)
    clear h hk
    go_enter Tryd.func13, Tryd.ntmps13
    go_wp2
    go_ret
    rw [M.out]
    exact ⟨rfl, rfl⟩
set_option maxHeartbeats 2000000 in
theorem sin_calls (n lo hi : Int) (w : World) : Calls Tryd.prog 47 #[.int .i64 n, .int .i64 lo, .int .i64 hi] w fun e w' => e = .returned (.bool (decide (InS n lo hi))) ∧ w = w' := by
  by_cases h : lo ≤ n
  · have D := Lib.hid (show decide (InS n lo hi) = decide (n ≤ hi) by unfold InS; simp [h])
    go_enter Tryd.func47, Tryd.ntmps47
    go_wp2
    go_ret
    exact ⟨ret_bool (by rw [D.out]), rfl⟩
  · have D := Lib.hid (show decide (InS n lo hi) = false from decide_eq_false (fun k => h k.1))
    go_enter Tryd.func47, Tryd.ntmps47
    go_wp2
    go_ret
    exact ⟨ret_bool (by rw [D.out]), rfl⟩
set_option maxHeartbeats 2000000 in
theorem rsin_calls (n lo hi : Int) (w : World) : Calls Tryd.prog 31 #[.int .i64 n, .int .i64 lo, .int .i64 hi] w fun e w' => e = .returned (.bool (decide (InS n lo hi))) ∧ w = w' := by
  by_cases h : lo ≤ n
  · have D := Lib.hid (show decide (InS n lo hi) = decide (n ≤ hi) by unfold InS; simp [h])
    go_enter Tryd.func31, Tryd.ntmps31
    go_wp2
    go_ret
    exact ⟨ret_bool (by rw [D.out]), rfl⟩
  · have D := Lib.hid (show decide (InS n lo hi) = false from decide_eq_false (fun k => h k.1))
    go_enter Tryd.func31, Tryd.ntmps31
    go_wp2
    go_ret
    exact ⟨ret_bool (by rw [D.out]), rfl⟩
set_option maxHeartbeats 2000000 in
theorem rop_calls (n : Int) (w : World) : Calls Tryd.prog 9 #[.int .i64 n] w fun e w' => e = .returned (.bool (decide (InS n 1 14))) ∧ w = w' := by
  by_cases h : 1 ≤ n
  · have D := Lib.hid (show decide (InS n 1 14) = decide (n ≤ 14) by unfold InS; simp [h])
    go_enter Tryd.func9, Tryd.ntmps9
    go_wp2
    go_ret
    exact ⟨ret_bool (by rw [D.out]), rfl⟩
  · have D := Lib.hid (show decide (InS n 1 14) = false from decide_eq_false (fun k => h k.1))
    go_enter Tryd.func9, Tryd.ntmps9
    go_wp2
    go_ret
    exact ⟨ret_bool (by rw [D.out]), rfl⟩
end Go.Proofs.YtminokbigpckaaaDoor.Ct
