import Derived.Test.YtminokbigpckaaaDoorRegI
/-! A region that draws its order and whose slots end the same whatever the order: each operation once, over the slots' last values. -/
namespace Go.Proofs.YtminokbigpckaaaDoor.Ct
section
variable {P : Program} {ops : Array Oper} {Q : Exit → Act → World → Prop}
/-- what an operation does, a call by its contract. -/
def Runs (P : Program) (s : Sem Next) (W : World) (R : Value → World → Prop) : Prop :=
  match s.run P W with
  | .ok (.value v) W' => R v W'
  | .ok .skip W' => R undef W'
  | .ok (.enter f args) W' => Calls P f args W' fun e W'' => ∃ v, e = .returned v ∧ R v W''
  | _ => False
theorem wp_of_runs {o : Oper} {a : Act} {w : World} {R : Value → World → Prop} (h : Runs P (execOp a.eval o) w R) : Oper.wp P o a w (fun a' w' => ∃ v, a' = a.put o.dst v ∧ R v w') Q := by
  unfold Runs at h
  unfold Oper.wp
  cases hr : (execOp a.eval o).run P w with
  | ok n w' =>
    rw [hr] at h
    cases n with
    | value v => exact ⟨v, rfl, h⟩
    | skip => exact ⟨undef, rfl, h⟩
    | enter f args =>
      refine Calls.mono h fun e w' hh => ?_
      obtain ⟨v, rfl, hk⟩ := hh
      exact ⟨v, rfl, hk⟩
    | _ => exact h.elim
  | halt x w' => rw [hr] at h; exact h.elim
def operTmps (o : Oper) : List Nat := o.op.operands.toList.filterMap fun | .tmp t => some t | _ => none
def dstAt (ops : Array Oper) (i : Nat) : Option Nat := (ops[i]?).bind (·.dst)
def dstsOf (ops : Array Oper) : List Nat := ops.toList.filterMap (·.dst)
def isSel (o : Oper) : Bool := match o.op with | .select _ _ => true | _ => false
/-- each slot is set once; what an operation looks at is set by what it waits for, or not in the region; but the slots X are looked at by those that their setter waits for. -/
def detB (ops : Array Oper) (X : List Nat) : Bool :=
  ((List.range ops.size).all fun i => match ops[i]? with
    | none => true
    | some o => !isSel o && (operTmps o).all (fun t => if X.contains t then (List.range ops.size).all (fun j => (dstAt ops j != some t) || ((ops[j]?).map fun oj => (waits oj).contains i).getD false)
        else !(dstsOf ops).contains t || (waits o).any fun j => dstAt ops j == some t) &&
      (match o.guard with | none => true | some (j, _) => (waits o).contains j)) &&
  ((List.range ops.size).all fun i => (List.range ops.size).all fun j => decide (i = j) || (dstAt ops i).isNone || (dstAt ops i != dstAt ops j))
theorem mem_dsts {i t : Nat} (h : dstAt ops i = some t) : t ∈ dstsOf ops := by
  unfold dstAt at h
  rw [Option.bind_eq_some_iff] at h
  obtain ⟨o, ho, hd⟩ := h
  unfold dstsOf
  rw [List.mem_filterMap]
  exact ⟨o, by simpa using Array.mem_of_getElem? ho, hd⟩
/-- what an operation sees in a slot. -/
def seen (X : List Nat) (tm L : Array Value) (k : Nat) : Value := if X.contains k = true then tm.getD k undef else L.getD k undef
/-- one operation, over the last values. -/
def Det (P : Program) (ops : Array Oper) (L : Array Value) (E : Nat → Value) (WI : World → Prop) (o : Oper) : Prop :=
  if Region.wanted o (yielded ops L) = true then ∀ W, WI W → Runs P (execOp (evS E) o) W fun v W' => (∀ t, o.dst = some t → v = L.getD t undef) ∧ WI W'
  else ∀ t, o.dst = some t → L.getD t undef = undef
/-- the invariant. -/
def DI (ops : Array Oper) (tm L : Array Value) (WI : World → Prop) (d : Nat → Bool) (s : Nat → Value) (w : World) : Prop :=
  WI w ∧ (∀ k, k < L.size → (∀ j, dstAt ops j = some k → d j = false) → s k = tm.getD k undef) ∧ (∀ i t, dstAt ops i = some t → d i = true → s t = L.getD t undef) ∧
  ∀ j oj, ops[j]? = some oj → d j = true → ∀ x ∈ waits oj, d x = true
theorem wp_region_det {id : Nat} {a : Act} {w : World} (N : Nat) (X : List Nat) (L : Array Value) (WI : World → Prop) (hm : P.follows .mixedOrders = true) (hn : a.tmps.size = L.size)
    (hb : backsB 0 ops.toList = true) (hdst : ops.toList.all (fun o => match o.dst with | some d => decide (d < L.size) | none => true) = true) (hdet : detB ops X = true)
    (hN : N ≤ ops.size) (hsink : sinkN ops N = true) (hseq : Region.seqB .any ops (ops.size - N) N (Array.replicate N true ++ Array.replicate (ops.size - N) false) = true)
    (h0 : ∀ k, k < L.size → (dstsOf (ops.toList.take N).toArray).contains k = false → a.tmps.getD k undef = L.getD k undef) (hW : WI w.drew)
    (hs : AllF (fun _ o => Det P ops L (seen X a.tmps L) WI o) 0 (ops.toList.take N))
    (hd : ∀ w, WI w → wpList P ops Q (ops.toList.drop N) ⟨L, a.defers⟩ w) : (Code.region id ops true).wp P Q a w := by
  have sub : ∀ k, (dstsOf (ops.toList.take N).toArray).contains k = true → ∃ i, i < N ∧ dstAt ops i = some k := by
    intro k hk
    have hm : k ∈ dstsOf (ops.toList.take N).toArray := by simpa using hk
    unfold dstsOf at hm
    rw [List.mem_filterMap] at hm
    obtain ⟨o, ho, hod⟩ := hm
    obtain ⟨i, hi, hio⟩ := List.mem_iff_getElem.1 ho
    have hi2 : i < (ops.toList.take N).length := by simpa using hi
    have hiN : i < N := by rw [List.length_take] at hi2; omega
    have hil : i < ops.size := by rw [List.length_take] at hi2; simp at hi2; omega
    refine ⟨i, hiN, ?_⟩
    unfold dstAt
    have : ops[i]? = some o := by
      rw [Array.getElem?_eq_getElem hil, ← hio]
      simp
    rw [this]
    exact hod
  unfold detB at hdet
  rw [Bool.and_eq_true, List.all_eq_true, List.all_eq_true] at hdet
  obtain ⟨hops, huq⟩ := hdet
  have dlt : ∀ i t, dstAt ops i = some t → i < ops.size := by
    intro i t hi
    unfold dstAt at hi
    rcases Nat.lt_or_ge i ops.size with h | h
    · exact h
    · rw [Array.getElem?_eq_none h] at hi; cases hi
  have uniq : ∀ i j t, dstAt ops i = some t → dstAt ops j = some t → i = j := by
    intro i j t hi hj
    have h1 := huq i (List.mem_range.2 (dlt i t hi))
    rw [List.all_eq_true] at h1
    have h2 := h1 j (List.mem_range.2 (dlt j t hj))
    rw [hi, hj] at h2
    simpa using h2
  refine wp_region_inv_tail (n := L.size) N (DI ops a.tmps L WI) hm hn hb hdst hN hsink hseq ⟨hW, fun _ _ _ => rfl, (fun _ _ _ h => by cases h), fun _ _ _ h => by cases h⟩ ?_ ?_
  · have step : ∀ (i : Nat) (o : Oper), ops.toList[i]? = some o → Det P ops L (seen X a.tmps L) WI o → ∀ d s w, DI ops a.tmps L WI d s w → d i = false → (waits o).all d = true →
        Stp P ops Q L.size a.defers o s w (fun v w' => DI ops a.tmps L WI (upd d i true) (updO s o.dst v) w') := by
      intro i o ho hdt d s w ⟨hw, hc, hv, hq⟩ hdi hwt
      rintro a' rfl - hn'
      have hoi' : ops[i]? = some o := by simpa using ho
      have hoi : dstAt ops i = o.dst := by unfold dstAt; rw [hoi']; rfl
      have hil : i < ops.size := (Array.getElem?_eq_some_iff.1 hoi').1
      have hoo := hops i (List.mem_range.2 hil)
      rw [hoi'] at hoo
      dsimp only at hoo
      rw [Bool.and_eq_true, Bool.and_eq_true] at hoo
      obtain ⟨⟨hns, hop⟩, hgd⟩ := hoo
      rw [List.all_eq_true] at hwt
      have hev : execOp a'.eval o = execOp (evS (seen X a.tmps L)) o := by
        refine execOp_congr o (fun cs b e => ?_) (fun x hx => ?_)
        · unfold isSel at hns; rw [e] at hns; cases hns
        · rw [eval_evS]
          cases x with
          | tmp t =>
            show sl a' t = seen X a.tmps L t
            unfold seen
            by_cases ht : t < L.size
            · have hmem : t ∈ operTmps o := List.mem_filterMap.2 ⟨.tmp t, by simpa using hx, rfl⟩
              have hh := List.all_eq_true.1 hop t hmem
              by_cases hX : X.contains t = true
              · rw [if_pos hX] at hh ⊢
                refine hc t ht fun j hj => ?_
                cases hdj : d j with
                | false => rfl
                | true =>
                  exfalso
                  rw [List.all_eq_true] at hh
                  have h1 := hh j (List.mem_range.2 (dlt j t hj))
                  rw [hj] at h1
                  have hjl := dlt j t hj
                  rw [Array.getElem?_eq_getElem hjl] at h1
                  have h2 : i ∈ waits ops[j] := by simpa using h1
                  have := hq j ops[j] (Array.getElem?_eq_getElem hjl) hdj i h2
                  rw [hdi] at this
                  cases this
              · rw [if_neg hX] at hh ⊢
                rw [Bool.or_eq_true] at hh
                rcases hh with h | h
                · have hnc : (dstsOf ops).contains t = false := by simpa using h
                  have hnp : (dstsOf (ops.toList.take N).toArray).contains t = false := by
                    cases hcp : (dstsOf (ops.toList.take N).toArray).contains t with
                    | false => rfl
                    | true =>
                      obtain ⟨i2, -, h2⟩ := sub t hcp
                      rw [show (dstsOf ops).contains t = true by simpa using mem_dsts h2] at hnc
                      cases hnc
                  rw [← h0 t ht hnp]
                  refine hc t ht fun j hj => ?_
                  have := mem_dsts hj
                  rw [show (dstsOf ops).contains t = true by simpa using this] at hnc
                  cases hnc
                · rw [List.any_eq_true] at h
                  obtain ⟨j, hj, hjt⟩ := h
                  exact hv j t (by simpa using hjt) (hwt j hj)
            · have e1 : sl a' t = undef := by unfold sl; rw [Array.getD_eq_getD_getElem?, Array.getElem?_eq_none (by rw [hn']; exact Nat.not_lt.1 ht)]; rfl
              have e2 : a.tmps.getD t undef = undef := by rw [Array.getD_eq_getD_getElem?, Array.getElem?_eq_none (by rw [hn]; exact Nat.not_lt.1 ht)]; rfl
              have e3 : L.getD t undef = undef := by rw [Array.getD_eq_getD_getElem?, Array.getElem?_eq_none (Nat.not_lt.1 ht)]; rfl
              rw [e1, e2, e3]
              split <;> rfl
          | const v => rfl
          | global g => rfl
          | func f => rfl
      have hwn : Region.wanted o (yielded ops a'.tmps) = Region.wanted o (yielded ops L) := by
        unfold Region.wanted
        cases hg : o.guard with
        | none => rfl
        | some jw =>
          obtain ⟨j, want⟩ := jw
          rw [hg] at hgd
          have hj : j ∈ waits o := by simpa using hgd
          have hdj := hwt j hj
          have : yielded ops a'.tmps j = yielded ops L j := by
            unfold yielded
            cases hdt2 : (ops[j]?).bind (·.dst) with
            | none => rfl
            | some t =>
              simp only [Option.bind_some]
              by_cases ht : t < L.size
              · have hlt : t < a'.tmps.size := hn'.symm ▸ ht
                have e := hv j t hdt2 hdj
                unfold sl at e
                rw [Array.getD_eq_getD_getElem?, Array.getD_eq_getD_getElem?, Array.getElem?_eq_getElem hlt, Array.getElem?_eq_getElem ht] at e
                simp only [Option.getD_some] at e
                rw [Array.getElem?_eq_getElem hlt, Array.getElem?_eq_getElem ht, e]
              · have hlt : a'.tmps.size ≤ t := by rw [hn']; exact Nat.not_lt.1 ht
                rw [Array.getElem?_eq_none hlt, Array.getElem?_eq_none (Nat.not_lt.1 ht)]
          simp only [this]
      have post : ∀ v w', (∀ t, o.dst = some t → v = L.getD t undef) → WI w' → DI ops a.tmps L WI (upd d i true) (updO (sl a') o.dst v) w' := by
        intro v w' hvv hw'
        refine ⟨hw', fun k hk hck => ?_, fun j t hjt hdj => ?_, fun j oj hj hdj x hx => ?_⟩
        · cases hod : o.dst with
          | none =>
            refine hc k hk fun j hj => ?_
            have := hck j hj
            by_cases e : j = i
            · subst e; exact hdi
            · rwa [upd_ne _ _ e] at this
          | some t =>
            show upd (sl a') t v k = _
            rw [upd_ne _ _ (fun e => ?_)]
            · refine hc k hk fun j hj => ?_
              have := hck j hj
              by_cases e : j = i
              · subst e; exact hdi
              · rwa [upd_ne _ _ e] at this
            · subst e
              rw [hod] at hoi
              have := hck i hoi
              rw [upd_same] at this
              cases this
        · cases hod : o.dst with
          | none =>
            show sl a' t = _
            refine hv j t hjt ?_
            by_cases e : j = i
            · subst e; rw [hoi, hod] at hjt; cases hjt
            · rwa [upd_ne _ _ e] at hdj
          | some t2 =>
            show upd (sl a') t2 v t = _
            by_cases e : t = t2
            · subst e; rw [upd_same]; exact hvv t hod
            · rw [upd_ne _ _ e]
              refine hv j t hjt ?_
              by_cases e2 : j = i
              · subst e2; rw [hoi, hod] at hjt; injection hjt with hjt; exact absurd hjt.symm e
              · rwa [upd_ne _ _ e2] at hdj
        · by_cases e2 : x = i
          · subst e2; exact upd_same _ _ _
          · rw [upd_ne _ _ e2]
            by_cases e : j = i
            · subst e
              rw [hoi'] at hj
              injection hj with hj
              subst hj
              exact hwt x hx
            · rw [upd_ne _ _ e] at hdj
              exact hq j oj hj hdj x hx
      unfold Det at hdt
      rw [hwn]
      by_cases hwd : Region.wanted o (yielded ops L) = true
      · rw [if_pos hwd] at hdt ⊢
        have := hdt w hw
        rw [← hev] at this
        exact Oper.wp_mono (fun a2 w2 ⟨v, e, h1, h2⟩ => ⟨v, e, post v w2 h1 h2⟩) (wp_of_runs this)
      · rw [if_neg hwd] at hdt ⊢
        exact post undef w (fun t ht => (hdt t ht).symm) hw
    have all : ∀ (l : List Oper) (k : Nat), (∀ i o, l[i]? = some o → ops.toList[k + i]? = some o) → AllF (fun _ o => Det P ops L (seen X a.tmps L) WI o) k l → AllF (fun i o => ∀ d s w, DI ops a.tmps L WI d s w → d i = false → (waits o).all d = true →
        Stp P ops Q L.size a.defers o s w (fun v w' => DI ops a.tmps L WI (upd d i true) (updO s o.dst v) w')) k l := by
      intro l
      induction l with
      | nil => intro k _ _; trivial
      | cons o l ih =>
        intro k hk h
        refine ⟨step k o (hk 0 o rfl) h.1, ih (k + 1) (fun i o' hi => ?_) h.2⟩
        have := hk (i + 1) o' (by simpa using hi)
        rwa [show k + 1 + i = k + (i + 1) by omega]
    exact all (ops.toList.take N) 0 (fun i o h => by rw [List.getElem?_take] at h; split at h <;> simp_all) hs
  · rintro d s w hall hrest ⟨hw, hc, hv, -⟩
    have e : ((List.range L.size).map s).toArray = L := by
      apply Array.ext_getElem?
      intro k
      by_cases hk : k < L.size
      · have : s k = L.getD k undef := by
          cases hcc : (dstsOf (ops.toList.take N).toArray).contains k with
          | false =>
            rw [← h0 k hk hcc]
            refine hc k hk fun j hj => ?_
            rcases Nat.lt_or_ge j N with h | h
            · exfalso
              have hm : k ∈ dstsOf (ops.toList.take N).toArray := by
                unfold dstAt at hj
                rw [Option.bind_eq_some_iff] at hj
                obtain ⟨o, ho, hd⟩ := hj
                unfold dstsOf
                rw [List.mem_filterMap]
                refine ⟨o, ?_, hd⟩
                have : (ops.toList.take N)[j]? = some o := by rw [List.getElem?_take, if_pos h]; simpa using ho
                simpa using List.mem_of_getElem? this
              rw [show (dstsOf (ops.toList.take N).toArray).contains k = true by simpa using hm] at hcc
              cases hcc
            · exact hrest j h
          | true =>
            obtain ⟨i, hiN, hik⟩ := sub k hcc
            exact hv i k hik (hall i hiN)
        simp [hk, this]
      · simp [hk]
    rw [e]
    exact hd w hw
/-- the slots that the region sets nowhere are the same. -/
def keepEq (ds : List Nat) : Nat → List Value → List Value → Prop
  | k, x :: xs, y :: ys => (ds.contains k = true ∨ x = y) ∧ keepEq ds (k + 1) xs ys
  | _, _, _ => True
theorem keepEq_get {ds : List Nat} : ∀ (xs ys : List Value) (k : Nat), keepEq ds k xs ys → ∀ i, i < xs.length → i < ys.length → ds.contains (k + i) = false → xs[i]? = ys[i]?
  | [], _, _, _, i, h, _, _ => by simp at h
  | _ :: _, [], _, _, i, _, h, _ => by simp at h
  | x :: xs, y :: ys, k, hh, 0, _, _, hc => by
    rcases hh.1 with h | h
    · rw [Nat.add_zero] at hc; rw [hc] at h; cases h
    · simp [h]
  | x :: xs, y :: ys, k, hh, i + 1, h1, h2, hc => by
    have := keepEq_get xs ys (k + 1) hh.2 i (by simpa using h1) (by simpa using h2) (by rw [show k + 1 + i = k + (i + 1) by omega]; exact hc)
    simpa using this
theorem wp_region_DT {id : Nat} {tm : List Value} {dfs : List Deferred} {w : World} (N : Nat) (X : List Nat) (L : List Value) (WI : World → Prop) (hm : P.follows .mixedOrders = true) (hn : tm.length = L.length)
    (hb : backsB 0 ops.toList = true) (hdst : ops.toList.all (fun o => match o.dst with | some d => decide (d < L.length) | none => true) = true) (hdet : detB ops X = true)
    (hN : decide (N ≤ ops.size) = true) (hsink : sinkN ops N = true) (hseq : Region.seqB .any ops (ops.size - N) N (Array.replicate N true ++ Array.replicate (ops.size - N) false) = true)
    (h0 : keepEq (dstsOf (ops.toList.take N).toArray) 0 tm L) (hW : WI w.drew)
    (hs : AllF (fun _ o => Det P ops L.toArray (seen X tm.toArray L.toArray) WI o) 0 (ops.toList.take N))
    (hd : ∀ w, WI w → wpList P ops Q (ops.toList.drop N) ⟨L.toArray, dfs⟩ w) : (Code.region id ops true).wp P Q ⟨tm.toArray, dfs⟩ w := by
  refine wp_region_det N X L.toArray WI hm (by simpa using hn) hb (by simpa using hdst) hdet (of_decide_eq_true hN) hsink hseq (fun k hk hc => ?_) hW hs hd
  have hk' : k < L.length := by simpa using hk
  have := keepEq_get tm L 0 h0 k (by omega) hk' (by rw [Nat.zero_add]; exact hc)
  rw [Array.getD_eq_getD_getElem?, Array.getD_eq_getD_getElem?, List.getElem?_toArray, List.getElem?_toArray, this]
theorem seqB_end : sinkN ops ops.size = true ∧ Region.seqB .any ops (ops.size - ops.size) ops.size (Array.replicate ops.size true ++ Array.replicate (ops.size - ops.size) false) = true := by
  constructor
  · unfold sinkN
    rw [List.all_eq_true]
    intro i hi
    have := List.mem_range.1 hi
    simp [this]
  · rw [Nat.sub_self]
    show (Region.ready .any ops _).isEmpty = true
    cases hr : Region.ready .any ops (Array.replicate ops.size true ++ Array.replicate 0 false) with
    | nil => rfl
    | cons j r =>
      exfalso
      have hj : j ∈ Region.ready .any ops (Array.replicate ops.size true ++ Array.replicate 0 false) := by rw [hr]; exact List.mem_cons_self
      obtain ⟨h1, o, ho, -⟩ := mem_ready.1 hj
      have hlt : j < ops.size := (Array.getElem?_eq_some_iff.1 ho).1
      rw [Array.getD_eq_getD_getElem?] at h1
      simp [hlt] at h1
theorem wp_region_D {id : Nat} {tm : List Value} {dfs : List Deferred} {w : World} (X : List Nat) (L : List Value) (WI : World → Prop) (hm : P.follows .mixedOrders = true) (hn : tm.length = L.length)
    (hb : backsB 0 ops.toList = true) (hdst : ops.toList.all (fun o => match o.dst with | some d => decide (d < L.length) | none => true) = true) (hdet : detB ops X = true)
    (h0 : keepEq (dstsOf ops) 0 tm L) (hW : WI w.drew)
    (hs : AllF (fun _ o => Det P ops L.toArray (seen X tm.toArray L.toArray) WI o) 0 ops.toList)
    (hd : ∀ w, WI w → Q .normal ⟨L.toArray, dfs⟩ w) : (Code.region id ops true).wp P Q ⟨tm.toArray, dfs⟩ w := by
  have ht : ops.toList.take ops.size = ops.toList := List.take_of_length_le (by simp)
  have hdr : ops.toList.drop ops.size = [] := List.drop_eq_nil_of_le (by simp)
  refine wp_region_DT ops.size X L WI hm hn hb hdst hdet (decide_eq_true (Nat.le_refl _)) seqB_end.1 seqB_end.2 (by rw [ht]; exact h0) hW (by rw [ht]; exact hs) (fun w hw => by rw [hdr]; exact hd w hw)
variable {L : Array Value} {E : Nat → Value} {WI : World → Prop} {o : Oper}
theorem det_ok {v : Value} (hw : Region.wanted o (yielded ops L) = true) (h : ∀ W, WI W → (execOp (evS E) o).run P W = .ok (.value v) W) (hv : ∀ t, o.dst = some t → v = L.getD t undef) : Det P ops L E WI o := by
  unfold Det
  rw [if_pos hw]
  intro W hW
  unfold Runs
  rw [h W hW]
  exact ⟨hv, hW⟩
theorem det_to {v : Value} (hw : Region.wanted o (yielded ops L) = true) (h : ∀ W, WI W → ∃ W', (execOp (evS E) o).run P W = .ok (.value v) W' ∧ WI W') (hv : ∀ t, o.dst = some t → v = L.getD t undef) : Det P ops L E WI o := by
  unfold Det
  rw [if_pos hw]
  intro W hW
  obtain ⟨W', h1, h2⟩ := h W hW
  unfold Runs
  rw [h1]
  exact ⟨hv, h2⟩
theorem det_call {v : Value} (f : FuncId) (hent : ∀ args w, (callFunc f args).run P w = .ok (.enter f args) w) (hw : Region.wanted o (yielded ops L) = true) (xs : Array Operand) (ts : Array TypeId)
    (ho : o.op = .call { callee := .value (.func f), args := xs, argTypes := ts }) (args : Array Value) (hargs : xs.toList.map (evS E) = args.toList) (h : ∀ W, WI W → Calls P f args W fun e W' => e = .returned v ∧ WI W') (hv : ∀ t, o.dst = some t → v = L.getD t undef) : Det P ops L E WI o := by
  unfold Det
  rw [if_pos hw]
  intro W hW
  have he : execOp (evS E) o = callFunc f args := by
    have hx : #[] ++ xs.map (evS E) ++ #[] = args := by
      apply Array.toList_inj.1
      rw [← hargs]; simp
    subst hx
    unfold execOp
    simp only [ho]
    rfl
  unfold Runs
  rw [he, hent args W]
  refine Calls.mono (h W hW) fun e W' hh => ?_
  exact ⟨v, hh.1, hv, hh.2⟩
theorem det_off (hw : Region.wanted o (yielded ops L) = false) (hv : ∀ t, o.dst = some t → L.getD t undef = undef) : Det P ops L E WI o := by
  unfold Det
  rw [if_neg (by rw [hw]; simp)]
  exact hv
theorem load_cell {ev : Operand → Value} {W : World} {g off : Nat} {ty : TypeId} {v : Value} {x : Operand} (ho : o.op = .load ty x) (hx : ev x = .pointer (some ⟨g, off, none⟩)) (hu : (match P.underlying ty with | some (.struct _) | some (.array _ _) | none => false | _ => true) = true) (hc : W.cell? ⟨g, off, none⟩ = some v) :
    (execOp ev o).run P W = .ok (.value v) W := by
  cases hd : P.underlying ty with
  | none => rw [hd] at hu; cases hu
  | some d =>
    rw [hd] at hu
    have hagg : (isAgg ty).run P W = .ok false W := by
      unfold isAgg
      rw [Sem.run_bind, run_underlying hd W]
      cases d <;> simp_all
    have hlv : (loadVar ty ⟨g, off, none⟩).run P W = .ok v W := by
      unfold loadVar
      simp [go_sem, hagg, hc]
    unfold execOp
    simp only [ho, hx, Instr.loadAt, Instr.sureAddr, Sem.run_bind, Sem.run_pure, Result.andThen_ok, hlv]
theorem idx_cell {ev : Operand → Value} {W : World} {T : TypeId} {size g off n c k : Nat} {x i : Operand} (ho : o.op = .indexAddr T x i) (hx : ev x = .slice (some ⟨g, off, none⟩) n c) (hi : ev i = .int .i64 (k : Nat))
    (hT : P.underlying T = some (.slice (P.elem T))) (hs : (P.info? (P.elem T)).map (·.size) = some size) (hk : k < n) :
    (execOp ev o).run P W = .ok (.value (.pointer (some ⟨g, off + k * size, none⟩))) W := by
  obtain ⟨E, hE⟩ : ∃ E, P.elem T = E := ⟨_, rfl⟩
  have hT' := hT
  rw [hE] at hs hT'
  cases hq : P.info? E with
  | none => simp [hq] at hs
  | some inf =>
    have hsz : inf.size = size := by simpa [hq] using hs
    have hso : (sizeOf E).run P W = .ok size W := by simp [sizeOf, typeInfo, hq, hsz, go_sem]
    have h1 : (Instr.indexAt T (.slice (some ⟨g, off, none⟩) n c) (.int .i64 (k : Nat))).run P W = .ok (.pointer (some ⟨g, off + k * size, none⟩)) W := by
      rw [run_indexAt_slice (h := hT), if_pos (by omega), hE, hso]
      simp only [Result.andThen_ok, Int.toNat_natCast, Addr.add_lit]
    unfold execOp
    simp only [ho, hx, hi, Sem.run_bind, h1, Result.andThen_ok, Sem.run_pure]
end
end Go.Proofs.YtminokbigpckaaaDoor.Ct
