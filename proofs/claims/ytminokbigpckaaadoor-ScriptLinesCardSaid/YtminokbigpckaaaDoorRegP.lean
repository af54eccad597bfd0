import Derived.Test.YtminokbigpckaaaDoorRegD
import Derived.Laws.Tables
import Derived.Laws.CopyOwn
/-! Steps of a drawn region: a callee that panics; append; a store of one cell. -/
namespace Go.Proofs.YtminokbigpckaaaDoor.Ct
open Go.RowKit
set_option linter.unusedVariables false
set_option linter.unusedSimpArgs false
section
variable {P : Program} {ops : Array Oper} {Q : Exit → Act → World → Prop} {n : Nat} {ds : List Deferred} {o : Oper} {s : Nat → Value} {w w' : World} {J : Value → World → Prop}
theorem stp_panic (f : FuncId) (hent : ∀ args w, (callFunc f args).run P w = .ok (.enter f args) w) (hg : o.guard = none) (xs : Array Operand) (ts : Array TypeId)
    (ho : o.op = .call { callee := .value (.func f), args := xs, argTypes := ts }) (args : Array Value) (hargs : xs.toList.map (evS s) = args.toList) (c : List PanicEntry) (h : Calls P f args w fun e w' => e = .panicked c ∧ ∀ a : Act, a.defers = ds → Q (.panic c) a w') : Stp P ops Q n ds o s w J := by
  rintro a rfl hds -
  have hw : Region.wanted o (yielded ops a.tmps) = true := by simp [Region.wanted, hg]
  rw [if_pos hw]
  have he : execOp a.eval o = callFunc f args := by
    have hx : #[] ++ xs.map a.eval ++ #[] = args := by
      apply Array.toList_inj.1
      rw [← hargs, eval_evS]; simp
    subst hx
    unfold execOp
    simp only [ho]
    rfl
  unfold Oper.wp
  rw [he, hent args w]
  refine Calls.mono h fun e w' hh => ?_
  obtain ⟨rfl, hk⟩ := hh
  exact hk a hds
theorem stp_appSL {mine : Obj → Bool} {base E size k m : Nat} {sv : Value} {zs : List Value} (t : TypeId) (z : Value) (bytes : Nat) (ht : P.underlying t = some (.slice E)) (hE : (P.info? E).map (fun i => (i.zero, i.size, i.bytes)) = some (some z, size, bytes)) (hzs : z.cells.size = size) (hsz : 0 < size) (hm : ∀ cs, mine (.cells cs E (0, 0)) = true)
    (hgd : o.guard = none) (x y : Operand) (ho : o.op = .call { callee := .builtin .append, args := #[x, y], argTypes := #[t, t] }) (hs : evS s x = sv) (h : SL base w E size sv k zs) (g : Nat) (hx : evS s y = .slice (some ⟨g, 0, none⟩) m m)
    (news : Array Value) (hl : news.size = m * size) (hc : ∃ t, Blk w g t news) (h1 : ∀ u ∈ news.toList, u.oneCell' = true)
    (hlen : k + m ≤ 1000000) (hb2 : bytes ≤ 100000) (hbase : base ≤ w.heap.size)
    (hK : ∀ v' w', SL base w' E size v' (k + m) (zs ++ news.toList) → Fr base mine w w' → J v' w') : Stp P ops Q n ds o s w J := by
  rintro a rfl - -
  have hw : Region.wanted o (yielded ops a.tmps) = true := by simp [Region.wanted, hgd]
  rw [if_pos hw]
  obtain ⟨i, hi, hz0, hz1, hz2⟩ := info_parts hE
  obtain ⟨t', hc⟩ := hc
  have hby : (k + m) * bytes ≤ 140737488355328 := Nat.le_trans (Nat.mul_le_mul hlen hb2) (by decide)
  obtain ⟨v', w', hr, r1, r2⟩ := run_append_SL (mine := mine) t o.type i z bytes ht hi hz0 hz1 hz2 hzs hsz hm h ⟨g, 0, none⟩ m m news.toList (by simpa using hl) (World.news_of_block hc) h1 (by unfold maxLen; omega) hby hbase
  unfold Oper.wp
  rw [eval_evS]
  simp only [execOp, ho, resolve, invoke, builtin, Sem.run_bind, Sem.run_pure, Result.andThen_ok, List.map_toArray, List.map_cons, List.map_nil, hs, hx, hr]
  exact ⟨v', rfl, hK v' w' r1 r2⟩
theorem store_cell {ev : Operand → Value} {g off : Nat} {t ty : TypeId} {cs : Array Value} {v old : Value} {x y : Operand} (ho : o.op = .store ty x y) (hx : ev x = .pointer (some ⟨g, off, none⟩)) (hy : ev y = v) (h : Blk w g t cs) (hc : cs[off]? = some old)
    (hi : (P.info? ty).map (·.size) = some 1) (hv : v.cells = #[v]) (h1 : v.oneCell' = true) : (execOp ev o).run P w = .ok .skip (w.setCell ⟨g, off, none⟩ v) := by
  have hcell := (h.cell off).trans hc
  have hfro := h.frozen off
  have hst : (storeVar ty ⟨g, off, none⟩ v).run P w = .ok () (w.setCell ⟨g, off, none⟩ v) := by
    cases hq : P.info? ty with
    | none => simp [hq] at hi
    | some i =>
      have hs : i.size = 1 := by simpa [hq] using hi
      have hs1 : (store ⟨g, off, none⟩ v .plain).run P w = .ok () (w.setCell ⟨g, off, none⟩ v) := by
        rw [run_store P w _ v _ h1, hcell]
        simp [hfro]
      have e0 : (⟨g, off, none⟩ : Addr).add 0 = ⟨g, off, none⟩ := rfl
      simp [storeVar, sizeOf, typeInfo, hq, hs, hv, storeCells, Sem.run_bind, e0, hs1]
  unfold execOp
  simp only [ho, hx, hy, Instr.storeAt, Instr.sureAddr, Sem.run_bind, Sem.run_pure, Result.andThen_ok, hst]
end
end Go.Proofs.YtminokbigpckaaaDoor.Ct
