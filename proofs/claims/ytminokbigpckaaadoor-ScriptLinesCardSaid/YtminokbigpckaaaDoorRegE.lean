import Derived.Test.YtminokbigpckaaaDoorRegD
/-! RegD where what holds of the world hangs on which operations have come up: stores in the midst of a region. -/
namespace Go.Proofs.YtminokbigpckaaaDoor.Ct
section
variable {P : Program} {ops : Array Oper} {Q : Exit → Act → World → Prop}
/-- one operation, over the last values. -/
def DetE (P : Program) (ops : Array Oper) (L : Array Value) (E : Nat → Value) (WI : (Nat → Bool) → World → Prop) (i : Nat) (o : Oper) : Prop :=
  if Region.wanted o (yielded ops L) = true then ∀ d W, WI d W → d i = false → (∀ x ∈ waits o, d x = true) → Runs P (execOp (evS E) o) W fun v W' => (∀ t, o.dst = some t → v = L.getD t undef) ∧ WI (upd d i true) W'
  else (∀ t, o.dst = some t → L.getD t undef = undef) ∧ ∀ d W, WI d W → WI (upd d i true) W
/-- the invariant. -/
def EI (ops : Array Oper) (tm L : Array Value) (WI : (Nat → Bool) → World → Prop) (d : Nat → Bool) (s : Nat → Value) (w : World) : Prop :=
  WI d w ∧ (∀ k, k < L.size → (∀ j, dstAt ops j = some k → d j = false) → s k = tm.getD k undef) ∧ (∀ i t, dstAt ops i = some t → d i = true → s t = L.getD t undef) ∧
  ∀ j oj, ops[j]? = some oj → d j = true → ∀ x ∈ waits oj, d x = true
theorem wp_region_dete {id : Nat} {a : Act} {w : World} (N : Nat) (X : List Nat) (L : Array Value) (WI : (Nat → Bool) → World → Prop) (hm : P.follows .mixedOrders = true) (hn : a.tmps.size = L.size)
    (hb : backsB 0 ops.toList = true) (hdst : ops.toList.all (fun o => match o.dst with | some d => decide (d < L.size) | none => true) = true) (hdet : detB ops X = true)
    (hN : N ≤ ops.size) (hsink : sinkN ops N = true) (hseq : Region.seqB .any ops (ops.size - N) N (Array.replicate N true ++ Array.replicate (ops.size - N) false) = true)
    (h0 : ∀ k, k < L.size → (dstsOf (ops.toList.take N).toArray).contains k = false → a.tmps.getD k undef = L.getD k undef) (hW : WI (fun _ => false) w.drew)
    (hs : AllF (fun i o => DetE P ops L (seen X a.tmps L) WI i o) 0 (ops.toList.take N))
    (hd : ∀ d w, (∀ i, i < N → d i = true) → WI d w → wpList P ops Q (ops.toList.drop N) ⟨L, a.defers⟩ w) : (Code.region id ops true).wp P Q a w := by
  have sub : ∀ k, (dstsOf (ops.toList.take N).toArray).contains k = true → ∃ i, i < N ∧ dstAt ops i = some k := by
    intro k hk
    have hm : k ∈ dstsOf (ops.toList.take N).toArray := by simpa using hk
    unfold dstsOf at hm
    rw [List.mem_filterMap] at hm
    obtain ⟨o, ho, hod⟩ := hm
    obtain ⟨i, hi, hio⟩ := List.mem_iff_getElem.1 ho
    have hi2 : i < (ops.toList.take N).length := by simpa using hi
    have hiN : i < N := by rw [List.length_take] at hi2; omega
    have hil : i < ops.size := by rw [List.length_take] at hi2; simp at hi2; omega
    refine ⟨i, hiN, ?_⟩
    unfold dstAt
    have : ops[i]? = some o := by
      rw [Array.getElem?_eq_getElem hil, ← hio]
      simp
    rw [this]
    exact hod
  unfold detB at hdet
  rw [Bool.and_eq_true, List.all_eq_true, List.all_eq_true] at hdet
  obtain ⟨hops, huq⟩ := hdet
  have dlt : ∀ i t, dstAt ops i = some t → i < ops.size := by
    intro i t hi
    unfold dstAt at hi
    rcases Nat.lt_or_ge i ops.size with h | h
    · exact h
    · rw [Array.getElem?_eq_none h] at hi; cases hi
  have uniq : ∀ i j t, dstAt ops i = some t → dstAt ops j = some t → i = j := by
    intro i j t hi hj
    have h1 := huq i (List.mem_range.2 (dlt i t hi))
    rw [List.all_eq_true] at h1
    have h2 := h1 j (List.mem_range.2 (dlt j t hj))
    rw [hi, hj] at h2
    simpa using h2
  refine wp_region_inv_tail (n := L.size) N (EI ops a.tmps L WI) hm hn hb hdst hN hsink hseq ⟨hW, fun _ _ _ => rfl, (fun _ _ _ h => by cases h), fun _ _ _ h => by cases h⟩ ?_ ?_
  · have step : ∀ (i : Nat) (o : Oper), ops.toList[i]? = some o → DetE P ops L (seen X a.tmps L) WI i o → ∀ d s w, EI ops a.tmps L WI d s w → d i = false → (waits o).all d = true →
        Stp P ops Q L.size a.defers o s w (fun v w' => EI ops a.tmps L WI (upd d i true) (updO s o.dst v) w') := by
      intro i o ho hdt d s w ⟨hw, hc, hv, hq⟩ hdi hwt
      rintro a' rfl - hn'
      have hoi' : ops[i]? = some o := by simpa using ho
      have hoi : dstAt ops i = o.dst := by unfold dstAt; rw [hoi']; rfl
      have hil : i < ops.size := (Array.getElem?_eq_some_iff.1 hoi').1
      have hoo := hops i (List.mem_range.2 hil)
      rw [hoi'] at hoo
      dsimp only at hoo
      rw [Bool.and_eq_true, Bool.and_eq_true] at hoo
      obtain ⟨⟨hns, hop⟩, hgd⟩ := hoo
      rw [List.all_eq_true] at hwt
      have hev : execOp a'.eval o = execOp (evS (seen X a.tmps L)) o := by
        refine execOp_congr o (fun cs b e => ?_) (fun x hx => ?_)
        · unfold isSel at hns; rw [e] at hns; cases hns
        · rw [eval_evS]
          cases x with
          | tmp t =>
            show sl a' t = seen X a.tmps L t
            unfold seen
            by_cases ht : t < L.size
            · have hmem : t ∈ operTmps o := List.mem_filterMap.2 ⟨.tmp t, by simpa using hx, rfl⟩
              have hh := List.all_eq_true.1 hop t hmem
              by_cases hX : X.contains t = true
              · rw [if_pos hX] at hh ⊢
                refine hc t ht fun j hj => ?_
                cases hdj : d j with
                | false => rfl
                | true =>
                  exfalso
                  rw [List.all_eq_true] at hh
                  have h1 := hh j (List.mem_range.2 (dlt j t hj))
                  rw [hj] at h1
                  have hjl := dlt j t hj
                  rw [Array.getElem?_eq_getElem hjl] at h1
                  have h2 : i ∈ waits ops[j] := by simpa using h1
                  have := hq j ops[j] (Array.getElem?_eq_getElem hjl) hdj i h2
                  rw [hdi] at this
                  cases this
              · rw [if_neg hX] at hh ⊢
                rw [Bool.or_eq_true] at hh
                rcases hh with h | h
                · have hnc : (dstsOf ops).contains t = false := by simpa using h
                  have hnp : (dstsOf (ops.toList.take N).toArray).contains t = false := by
                    cases hcp : (dstsOf (ops.toList.take N).toArray).contains t with
                    | false => rfl
                    | true =>
                      obtain ⟨i2, -, h2⟩ := sub t hcp
                      rw [show (dstsOf ops).contains t = true by simpa using mem_dsts h2] at hnc
                      cases hnc
                  rw [← h0 t ht hnp]
                  refine hc t ht fun j hj => ?_
                  have := mem_dsts hj
                  rw [show (dstsOf ops).contains t = true by simpa using this] at hnc
                  cases hnc
                · rw [List.any_eq_true] at h
                  obtain ⟨j, hj, hjt⟩ := h
                  exact hv j t (by simpa using hjt) (hwt j hj)
            · have e1 : sl a' t = undef := by unfold sl; rw [Array.getD_eq_getD_getElem?, Array.getElem?_eq_none (by rw [hn']; exact Nat.not_lt.1 ht)]; rfl
              have e2 : a.tmps.getD t undef = undef := by rw [Array.getD_eq_getD_getElem?, Array.getElem?_eq_none (by rw [hn]; exact Nat.not_lt.1 ht)]; rfl
              have e3 : L.getD t undef = undef := by rw [Array.getD_eq_getD_getElem?, Array.getElem?_eq_none (Nat.not_lt.1 ht)]; rfl
              rw [e1, e2, e3]
              split <;> rfl
          | const v => rfl
          | global g => rfl
          | func f => rfl
      have hwn : Region.wanted o (yielded ops a'.tmps) = Region.wanted o (yielded ops L) := by
        unfold Region.wanted
        cases hg : o.guard with
        | none => rfl
        | some jw =>
          obtain ⟨j, want⟩ := jw
          rw [hg] at hgd
          have hj : j ∈ waits o := by simpa using hgd
          have hdj := hwt j hj
          have : yielded ops a'.tmps j = yielded ops L j := by
            unfold yielded
            cases hdt2 : (ops[j]?).bind (·.dst) with
            | none => rfl
            | some t =>
              simp only [Option.bind_some]
              by_cases ht : t < L.size
              · have hlt : t < a'.tmps.size := hn'.symm ▸ ht
                have e := hv j t hdt2 hdj
                unfold sl at e
                rw [Array.getD_eq_getD_getElem?, Array.getD_eq_getD_getElem?, Array.getElem?_eq_getElem hlt, Array.getElem?_eq_getElem ht] at e
                simp only [Option.getD_some] at e
                rw [Array.getElem?_eq_getElem hlt, Array.getElem?_eq_getElem ht, e]
              · have hlt : a'.tmps.size ≤ t := by rw [hn']; exact Nat.not_lt.1 ht
                rw [Array.getElem?_eq_none hlt, Array.getElem?_eq_none (Nat.not_lt.1 ht)]
          simp only [this]
      have post : ∀ v w', (∀ t, o.dst = some t → v = L.getD t undef) → WI (upd d i true) w' → EI ops a.tmps L WI (upd d i true) (updO (sl a') o.dst v) w' := by
        intro v w' hvv hw'
        refine ⟨hw', fun k hk hck => ?_, fun j t hjt hdj => ?_, fun j oj hj hdj x hx => ?_⟩
        · cases hod : o.dst with
          | none =>
            refine hc k hk fun j hj => ?_
            have := hck j hj
            by_cases e : j = i
            · subst e; exact hdi
            · rwa [upd_ne _ _ e] at this
          | some t =>
            show upd (sl a') t v k = _
            rw [upd_ne _ _ (fun e => ?_)]
            · refine hc k hk fun j hj => ?_
              have := hck j hj
              by_cases e : j = i
              · subst e; exact hdi
              · rwa [upd_ne _ _ e] at this
            · subst e
              rw [hod] at hoi
              have := hck i hoi
              rw [upd_same] at this
              cases this
        · cases hod : o.dst with
          | none =>
            show sl a' t = _
            refine hv j t hjt ?_
            by_cases e : j = i
            · subst e; rw [hoi, hod] at hjt; cases hjt
            · rwa [upd_ne _ _ e] at hdj
          | some t2 =>
            show upd (sl a') t2 v t = _
            by_cases e : t = t2
            · subst e; rw [upd_same]; exact hvv t hod
            · rw [upd_ne _ _ e]
              refine hv j t hjt ?_
              by_cases e2 : j = i
              · subst e2; rw [hoi, hod] at hjt; injection hjt with hjt; exact absurd hjt.symm e
              · rwa [upd_ne _ _ e2] at hdj
        · by_cases e2 : x = i
          · subst e2; exact upd_same _ _ _
          · rw [upd_ne _ _ e2]
            by_cases e : j = i
            · subst e
              rw [hoi'] at hj
              injection hj with hj
              subst hj
              exact hwt x hx
            · rw [upd_ne _ _ e] at hdj
              exact hq j oj hj hdj x hx
      unfold DetE at hdt
      rw [hwn]
      by_cases hwd : Region.wanted o (yielded ops L) = true
      · rw [if_pos hwd] at hdt ⊢
        have := hdt d w hw hdi hwt
        rw [← hev] at this
        exact Oper.wp_mono (fun a2 w2 ⟨v, e, h1, h2⟩ => ⟨v, e, post v w2 h1 h2⟩) (wp_of_runs this)
      · rw [if_neg hwd] at hdt ⊢
        exact post undef w (fun t ht => (hdt.1 t ht).symm) (hdt.2 d w hw)
    have all : ∀ (l : List Oper) (k : Nat), (∀ i o, l[i]? = some o → ops.toList[k + i]? = some o) → AllF (fun i o => DetE P ops L (seen X a.tmps L) WI i o) k l → AllF (fun i o => ∀ d s w, EI ops a.tmps L WI d s w → d i = false → (waits o).all d = true →
        Stp P ops Q L.size a.defers o s w (fun v w' => EI ops a.tmps L WI (upd d i true) (updO s o.dst v) w')) k l := by
      intro l
      induction l with
      | nil => intro k _ _; trivial
      | cons o l ih =>
        intro k hk h
        refine ⟨step k o (hk 0 o rfl) h.1, ih (k + 1) (fun i o' hi => ?_) h.2⟩
        have := hk (i + 1) o' (by simpa using hi)
        rwa [show k + 1 + i = k + (i + 1) by omega]
    exact all (ops.toList.take N) 0 (fun i o h => by rw [List.getElem?_take] at h; split at h <;> simp_all) hs
  · rintro d s w hall hrest ⟨hw, hc, hv, -⟩
    have e : ((List.range L.size).map s).toArray = L := by
      apply Array.ext_getElem?
      intro k
      by_cases hk : k < L.size
      · have : s k = L.getD k undef := by
          cases hcc : (dstsOf (ops.toList.take N).toArray).contains k with
          | false =>
            rw [← h0 k hk hcc]
            refine hc k hk fun j hj => ?_
            rcases Nat.lt_or_ge j N with h | h
            · exfalso
              have hm : k ∈ dstsOf (ops.toList.take N).toArray := by
                unfold dstAt at hj
                rw [Option.bind_eq_some_iff] at hj
                obtain ⟨o, ho, hd⟩ := hj
                unfold dstsOf
                rw [List.mem_filterMap]
                refine ⟨o, ?_, hd⟩
                have : (ops.toList.take N)[j]? = some o := by rw [List.getElem?_take, if_pos h]; simpa using ho
                simpa using List.mem_of_getElem? this
              rw [show (dstsOf (ops.toList.take N).toArray).contains k = true by simpa using hm] at hcc
              cases hcc
            · exact hrest j h
          | true =>
            obtain ⟨i, hiN, hik⟩ := sub k hcc
            exact hv i k hik (hall i hiN)
        simp [hk, this]
      · simp [hk]
    rw [e]
    exact hd d w hall hw
theorem wp_region_ET {id : Nat} {tm : List Value} {dfs : List Deferred} {w : World} (N : Nat) (X : List Nat) (L : List Value) (WI : (Nat → Bool) → World → Prop) (hm : P.follows .mixedOrders = true) (hn : tm.length = L.length)
    (hb : backsB 0 ops.toList = true) (hdst : ops.toList.all (fun o => match o.dst with | some d => decide (d < L.length) | none => true) = true) (hdet : detB ops X = true)
    (hN : decide (N ≤ ops.size) = true) (hsink : sinkN ops N = true) (hseq : Region.seqB .any ops (ops.size - N) N (Array.replicate N true ++ Array.replicate (ops.size - N) false) = true)
    (h0 : keepEq (dstsOf (ops.toList.take N).toArray) 0 tm L) (hW : WI (fun _ => false) w.drew)
    (hs : AllF (fun i o => DetE P ops L.toArray (seen X tm.toArray L.toArray) WI i o) 0 (ops.toList.take N))
    (hd : ∀ d w, (∀ i, i < N → d i = true) → WI d w → wpList P ops Q (ops.toList.drop N) ⟨L.toArray, dfs⟩ w) : (Code.region id ops true).wp P Q ⟨tm.toArray, dfs⟩ w := by
  refine wp_region_dete N X L.toArray WI hm (by simpa using hn) hb (by simpa using hdst) hdet (of_decide_eq_true hN) hsink hseq (fun k hk hc => ?_) hW hs hd
  have hk' : k < L.length := by simpa using hk
  have := keepEq_get tm L 0 h0 k (by omega) hk' (by rw [Nat.zero_add]; exact hc)
  rw [Array.getD_eq_getD_getElem?, Array.getD_eq_getD_getElem?, List.getElem?_toArray, List.getElem?_toArray, this]
theorem wp_region_E {id : Nat} {tm : List Value} {dfs : List Deferred} {w : World} (X : List Nat) (L : List Value) (WI : (Nat → Bool) → World → Prop) (hm : P.follows .mixedOrders = true) (hn : tm.length = L.length)
    (hb : backsB 0 ops.toList = true) (hdst : ops.toList.all (fun o => match o.dst with | some d => decide (d < L.length) | none => true) = true) (hdet : detB ops X = true)
    (h0 : keepEq (dstsOf ops) 0 tm L) (hW : WI (fun _ => false) w.drew)
    (hs : AllF (fun i o => DetE P ops L.toArray (seen X tm.toArray L.toArray) WI i o) 0 ops.toList)
    (hd : ∀ d w, (∀ i, i < ops.size → d i = true) → WI d w → Q .normal ⟨L.toArray, dfs⟩ w) : (Code.region id ops true).wp P Q ⟨tm.toArray, dfs⟩ w := by
  have ht : ops.toList.take ops.size = ops.toList := List.take_of_length_le (by simp)
  have hdr : ops.toList.drop ops.size = [] := List.drop_eq_nil_of_le (by simp)
  refine wp_region_ET ops.size X L WI hm hn hb hdst hdet (decide_eq_true (Nat.le_refl _)) seqB_end.1 seqB_end.2 (by rw [ht]; exact h0) hW (by rw [ht]; exact hs) (fun d w h1 hw => by rw [hdr]; exact hd d w h1 hw)
variable {L : Array Value} {E : Nat → Value} {WI : (Nat → Bool) → World → Prop} {i : Nat} {o : Oper}
theorem dete_ok {v : Value} (hw : Region.wanted o (yielded ops L) = true) (h : ∀ d W, WI d W → d i = false → (∀ x ∈ waits o, d x = true) → (execOp (evS E) o).run P W = .ok (.value v) W) (hk : ∀ d W, WI d W → WI (upd d i true) W) (hv : ∀ t, o.dst = some t → v = L.getD t undef) : DetE P ops L E WI i o := by
  unfold DetE
  rw [if_pos hw]
  intro d W hW h1 h2
  unfold Runs
  rw [h d W hW h1 h2]
  exact ⟨hv, hk d W hW⟩
theorem dete_to {v : Value} (hw : Region.wanted o (yielded ops L) = true) (h : ∀ d W, WI d W → d i = false → (∀ x ∈ waits o, d x = true) → ∃ W', (execOp (evS E) o).run P W = .ok (.value v) W' ∧ WI (upd d i true) W') (hv : ∀ t, o.dst = some t → v = L.getD t undef) : DetE P ops L E WI i o := by
  unfold DetE
  rw [if_pos hw]
  intro d W hW h1 h2
  obtain ⟨W', h3, h4⟩ := h d W hW h1 h2
  unfold Runs
  rw [h3]
  exact ⟨hv, h4⟩
theorem dete_skip (hw : Region.wanted o (yielded ops L) = true) (hd : o.dst = none) (h : ∀ d W, WI d W → d i = false → (∀ x ∈ waits o, d x = true) → ∃ W', (execOp (evS E) o).run P W = .ok .skip W' ∧ WI (upd d i true) W') : DetE P ops L E WI i o := by
  unfold DetE
  rw [if_pos hw]
  intro d W hW h1 h2
  obtain ⟨W', h3, h4⟩ := h d W hW h1 h2
  unfold Runs
  rw [h3]
  exact ⟨fun t ht => (by rw [hd] at ht; cases ht), h4⟩
theorem dete_call {v : Value} (f : FuncId) (hent : ∀ args w, (callFunc f args).run P w = .ok (.enter f args) w) (hw : Region.wanted o (yielded ops L) = true) (xs : Array Operand) (ts : Array TypeId)
    (ho : o.op = .call { callee := .value (.func f), args := xs, argTypes := ts }) (args : Array Value) (hargs : xs.toList.map (evS E) = args.toList) (h : ∀ d W, WI d W → d i = false → (∀ x ∈ waits o, d x = true) → Calls P f args W fun e W' => e = .returned v ∧ WI (upd d i true) W') (hv : ∀ t, o.dst = some t → v = L.getD t undef) : DetE P ops L E WI i o := by
  unfold DetE
  rw [if_pos hw]
  intro d W hW h1 h2
  have he : execOp (evS E) o = callFunc f args := by
    have hx : #[] ++ xs.map (evS E) ++ #[] = args := by
      apply Array.toList_inj.1
      rw [← hargs]; simp
    subst hx
    unfold execOp
    simp only [ho]
    rfl
  unfold Runs
  rw [he, hent args W]
  refine Calls.mono (h d W hW h1 h2) fun e W' hh => ?_
  exact ⟨v, hh.1, hv, hh.2⟩
theorem dete_off (hw : Region.wanted o (yielded ops L) = false) (hk : ∀ d W, WI d W → WI (upd d i true) W) (hv : ∀ t, o.dst = some t → L.getD t undef = undef) : DetE P ops L E WI i o := by
  unfold DetE
  rw [if_neg (by rw [hw]; simp)]
  exact ⟨hv, hk⟩
end
end Go.Proofs.YtminokbigpckaaaDoor.Ct
