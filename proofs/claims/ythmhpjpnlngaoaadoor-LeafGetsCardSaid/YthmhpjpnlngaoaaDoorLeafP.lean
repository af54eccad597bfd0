import Derived.Test.YthmhpjpnlngaoaaDoorComP
/-! Leaves: the plain law. -/
namespace Go.Proofs.YthmhpjpnlngaoaaDoor.Ct
open Go.RowKit
set_option linter.unusedVariables false
set_option linter.unusedSimpArgs false
structure En where
  slot : Int
  lba : Int
  tag : Int
structure Lf where
  no : Int
  snap : Int
  es : List En
theorem En.ext_iff' (a b : En) : a = b ↔ a.slot = b.slot ∧ a.lba = b.lba ∧ a.tag = b.tag := by
  cases a; cases b; simp
instance : DecidableEq En := fun a b => decidable_of_iff _ (En.ext_iff' a b).symm
theorem Lf.ext_iff' (a b : Lf) : a = b ↔ a.no = b.no ∧ a.snap = b.snap ∧ a.es = b.es := by
  cases a; cases b; simp
instance : DecidableEq Lf := fun a b => decidable_of_iff _ (Lf.ext_iff' a b).symm
def noLf : Lf := ⟨0, 0, []⟩
def noEn : En := ⟨0, 0, 0⟩
def WfE (e : En) : Prop := I64 e.slot ∧ I64 e.lba ∧ U64 e.tag
def WfL (l : Lf) : Prop := I64 l.no ∧ U64 l.snap ∧ ∀ e ∈ l.es, WfE e
def MayE (no last : Int) (x : En) : Prop := last < x.slot ∧ (3 * no ≤ x.slot ∧ x.slot < 3 * no + 3) ∧ (0 ≤ x.lba ∧ x.lba ≤ 65535) ∧ NumOk x.tag
instance (no last : Int) (x : En) : Decidable (MayE no last x) := by unfold MayE; infer_instance
def rowOk (no : Int) : Int → List En → Bool
  | _, [] => true
  | last, x :: xs => decide (MayE no last x) && rowOk no x.slot xs
def HeadL (l : Lf) : Prop := (0 ≤ l.no ∧ l.no ≤ 65535) ∧ NumOk l.snap ∧ l.es.length ≤ 3
instance (l : Lf) : Decidable (HeadL l) := by unfold HeadL; infer_instance
def MayL (l : Lf) : Prop := HeadL l ∧ rowOk l.no (-1) l.es = true
instance (l : Lf) : Decidable (MayL l) := by unfold MayL; infer_instance
def lastS (es : List En) (i : Nat) : Int := if i = 0 then -1 else (es.getD (i - 1) noEn).slot
theorem rowOk_step {no : Int} {es : List En} {i : Nat} (h : i < es.length) : rowOk no (lastS es i) (es.drop i) = (decide (MayE no (lastS es i) (es.getD i noEn)) && rowOk no (lastS es (i + 1)) (es.drop (i + 1))) := by
  have e : es.getD i noEn = es[i] := by rw [List.getD_eq_getElem?_getD, List.getElem?_eq_getElem h]; rfl
  have e2 : lastS es (i + 1) = es[i].slot := by unfold lastS; rw [if_neg (by omega), Nat.add_sub_cancel, e]
  rw [List.drop_eq_getElem_cons h, e2, e]
  rfl
theorem rowOk_all {no : Int} : ∀ {es : List En} {last : Int}, rowOk no last es = true → ∀ e ∈ es, (3 * no ≤ e.slot ∧ e.slot < 3 * no + 3) ∧ (0 ≤ e.lba ∧ e.lba ≤ 65535) ∧ NumOk e.tag := by
  intro es
  induction es with
  | nil => intro last _ e h; cases h
  | cons x xs ih =>
    intro last h e he
    simp only [rowOk, Bool.and_eq_true, decide_eq_true_eq] at h
    rcases List.mem_cons.1 he with rfl | he
    · exact h.1.2
    · exact ih h.2 e he
abbrev wsE : List Nat := [4, 2, 8]
def entV (e : En) : List Int := [e.slot, e.lba, e.tag]
def wsL : Nat → List Nat
  | 0 => []
  | n + 1 => 4 :: 2 :: 8 :: wsL n
def valE : List En → List Int
  | [] => []
  | e :: es => e.slot :: e.lba :: e.tag :: valE es
def wsLf (n : Nat) : List Nat := 2 :: 8 :: 1 :: wsL n
def valL (l : Lf) : List Int := l.no :: l.snap :: (l.es.length : Int) :: valE l.es
theorem wsL_len (n : Nat) : (wsL n).length = 3 * n := by
  induction n with
  | zero => rfl
  | succ n ih => simp [wsL, ih]; omega
theorem valE_len (es : List En) : (valE es).length = 3 * es.length := by
  induction es with
  | nil => rfl
  | cons e es ih => simp [valE, ih]; omega
theorem wsL_sum (n : Nat) : (wsL n).sum = 14 * n := by
  induction n with
  | zero => rfl
  | succ n ih => simp [wsL, ih]; omega
theorem wsLf_sum (n : Nat) : (wsLf n).sum = 11 + 14 * n := by simp [wsLf, wsL_sum]; omega
def loadE (e : En) : List Int := packW wsE (entV e)
theorem loadE_len (e : En) : (loadE e).length = 14 := packW_len rfl
def loadL (l : Lf) : List Int := packW (wsLf l.es.length) (valL l)
theorem valL_len (l : Lf) : (valL l).length = (wsLf l.es.length).length := by simp [valL, wsLf, valE_len, wsL_len]
theorem loadL_len (l : Lf) : (loadL l).length = 11 + 14 * l.es.length := by unfold loadL; rw [packW_len (valL_len l), wsLf_sum]
theorem loadL_wf (l : Lf) : ∀ x ∈ loadL l, 0 ≤ x ∧ x ≤ 255 := packW_wf _ _
theorem packE_flat (es : List En) : packW (wsL es.length) (valE es) = (es.map loadE).flatten := by
  induction es with
  | nil => rfl
  | cons e es ih =>
    simp only [List.length_cons, wsL, valE, packW, List.map_cons, List.flatten_cons, loadE, entV, wsE, ih]
    simp [packW]
theorem loadL_flat (l : Lf) : loadL l = leS 2 l.no ++ (leS 8 l.snap ++ (leS 1 l.es.length ++ (l.es.map loadE).flatten)) := by
  unfold loadL wsLf valL
  simp only [packW, packE_flat]
def entL (x : List Int) (i : Nat) : En := ⟨ofS ((x.drop (11 + 14 * i)).take 4), ofS ((x.drop (15 + 14 * i)).take 2), ofS ((x.drop (17 + 14 * i)).take 8)⟩
def parseN (x : List Int) (n : Nat) : Lf := ⟨ofS (x.take 2), ofS ((x.drop 2).take 8), (List.range n).map (entL x)⟩
def cntI (x : List Int) : Int := ofS ((x.drop 10).take 1)
def cntL (x : List Int) : Nat := (cntI x).toNat
theorem parseN_len (x : List Int) (n : Nat) : (parseN x n).es.length = n := by simp [parseN]
theorem cntI_bd {x : List Int} (hw : ∀ y ∈ x, 0 ≤ y ∧ y ≤ 255) : 0 ≤ cntI x ∧ cntI x ≤ 255 ∧ (cntL x : Int) = cntI x := by
  have h := ofS_bd (l := (x.drop 10).take 1) (fun y hy => hw y (List.mem_of_mem_drop (List.mem_of_mem_take hy)))
  have h2 := pow_mono (m := ((x.drop 10).take 1).length) (n := 1) (List.length_take_le _ _)
  have h3 : (256 : Int) ^ 1 = 256 := rfl
  unfold cntL
  have h4 : cntI x = ofS ((x.drop 10).take 1) := rfl
  omega
def putL (l : Lf) : List Int × Int := if MayL l then (sealS (pageS 4 (loadL l)), 0) else ([], 1)
def getL (b : List Int) (no snap : Int) : Lf × Int :=
  if (getP b 4).2 ≠ 0 then (noLf, (getP b 4).2) else
  if 3 < cntL (getP b 4).1 then (noLf, 31) else
  if MayL (parseN (getP b 4).1 (cntL (getP b 4).1)) ∧ (parseN (getP b 4).1 (cntL (getP b 4).1)).no = no ∧ (parseN (getP b 4).1 (cntL (getP b 4).1)).snap = snap ∧ blankS ((getP b 4).1.drop (11 + 14 * cntL (getP b 4).1)) = true then (parseN (getP b 4).1 (cntL (getP b 4).1), 0) else (noLf, 31)
def rgetL (b : List Int) (no snap : Int) : Lf × Int :=
  if (getP b 4).2 ≠ 0 then (noLf, (getP b 4).2) else
  if MayL (parseN (getP b 4).1 (min (cntL (getP b 4).1) 3)) ∧ sealS (pageS 4 (loadL (parseN (getP b 4).1 (min (cntL (getP b 4).1) 3)))) = b ∧ (parseN (getP b 4).1 (min (cntL (getP b 4).1) 3)).no = no ∧ (parseN (getP b 4).1 (min (cntL (getP b 4).1) 3)).snap = snap then (parseN (getP b 4).1 (min (cntL (getP b 4).1) 3), 0) else (noLf, 31)
theorem unpackE (x : List Int) : ∀ (n i : Nat), unpackW (wsL n) (x.drop (11 + 14 * i)) = valE ((List.range n).map fun j => entL x (i + j)) := by
  intro n
  induction n with
  | zero => intro i; rfl
  | succ n ih =>
    intro i
    rw [List.range_succ_eq_map]
    simp only [wsL, unpackW, List.map_cons, valE, List.map_map, List.drop_drop]
    have e1 : entL x (i + 0) = ⟨ofS ((x.drop (11 + 14 * i)).take 4), ofS ((x.drop (15 + 14 * i)).take 2), ofS ((x.drop (17 + 14 * i)).take 8)⟩ := rfl
    rw [e1, show 11 + 14 * i + 4 = 15 + 14 * i by omega, show 15 + 14 * i + 2 = 17 + 14 * i by omega, show 17 + 14 * i + 8 = 11 + 14 * (i + 1) by omega, ih (i + 1)]
    congr 4
    refine List.map_congr_left fun j _ => ?_
    show entL x (i + 1 + j) = entL x (i + (j + 1))
    congr 1; omega
theorem unpackL {x : List Int} {n : Nat} (h : (n : Int) = cntI x) : unpackW (wsLf n) x = valL (parseN x n) := by
  unfold wsLf valL
  rw [parseN_len]
  simp only [unpackW, List.drop_drop]
  rw [show 2 + 8 + 1 = 11 + 14 * 0 from rfl, unpackE x n 0]
  simp only [parseN, Nat.zero_add, h]
  rfl
theorem parse_pack {x : List Int} {n : Nat} (h : (n : Int) = cntI x) : packW (wsLf n) (unpackW (wsLf n) x) = loadL (parseN x n) := by
  rw [unpackL h]; unfold loadL; rw [parseN_len]
theorem cnt_load {l : Lf} (zs : List Int) (hn : l.es.length ≤ 3) : cntI (loadL l ++ zs) = l.es.length := by
  unfold cntI
  rw [loadL_flat, List.append_assoc, List.append_assoc, List.append_assoc, show (10 : Nat) = 2 + 8 from rfl, ← List.drop_drop, dr_left (leS_len 2 _), dr_left (leS_len 8 _), tk_left (leS_len 1 _), ofS_leS]
  rw [show (256 : Int) ^ 1 = 256 from rfl]; omega
theorem getL_eq {b : List Int} (hw : ∀ y ∈ b, 0 ≤ y ∧ y ≤ 255) (no snap : Int) : rgetL b no snap = getL b no snap := by
  unfold rgetL getL
  by_cases h : (getP b 4).2 = 0
  · rw [if_neg (not_not_intro h), if_neg (not_not_intro h)]
    have hp : getP b 4 = ((getP b 4).1, 0) := by rw [← h]
    have hx : ∀ y ∈ (getP b 4).1, 0 ≤ y ∧ y ≤ 255 := (pack_page (ws := wsLf 0) hp hw (by decide)).1
    obtain ⟨c0, c1, c2⟩ := cntI_bd hx
    by_cases h3 : 3 < cntL (getP b 4).1
    · rw [if_pos h3, if_neg]
      rintro ⟨-, hs, -⟩
      rw [show min (cntL (getP b 4).1) 3 = 3 by omega] at hs
      have hl : (loadL (parseN (getP b 4).1 3)).length ≤ 58 := by rw [loadL_len, parseN_len]; decide
      have e := (page_iff hp hw hl).1 hs
      have hc := cnt_load (l := parseN (getP b 4).1 3) (List.replicate (58 - (loadL (parseN (getP b 4).1 3)).length) 0) (by rw [parseN_len]; decide)
      rw [e, parseN_len] at hc
      omega
    · rw [if_neg h3, show min (cntL (getP b 4).1) 3 = cntL (getP b 4).1 by omega]
      have e := (pack_page (ws := wsLf (cntL (getP b 4).1)) hp hw (by rw [wsLf_sum]; omega)).2.2
      rw [parse_pack c2, wsLf_sum] at e
      by_cases hh : MayL (parseN (getP b 4).1 (cntL (getP b 4).1)) ∧ sealS (pageS 4 (loadL (parseN (getP b 4).1 (cntL (getP b 4).1)))) = b ∧ (parseN (getP b 4).1 (cntL (getP b 4).1)).no = no ∧ (parseN (getP b 4).1 (cntL (getP b 4).1)).snap = snap
      · rw [if_pos hh, if_pos ⟨hh.1, hh.2.2.1, hh.2.2.2, e.1 hh.2.1⟩]
      · rw [if_neg hh, if_neg (fun k => hh ⟨k.1, e.2 k.2.2.2, k.2.1, k.2.2.1⟩)]
  · rw [if_pos h, if_pos h]
theorem fitE {no : Int} (h0 : 0 ≤ no) (h1 : no ≤ 65535) : ∀ {es : List En}, (∀ e ∈ es, (3 * no ≤ e.slot ∧ e.slot < 3 * no + 3) ∧ (0 ≤ e.lba ∧ e.lba ≤ 65535) ∧ NumOk e.tag) → FitW (wsL es.length) (valE es) := by
  intro es
  induction es with
  | nil => intro _; trivial
  | cons e es ih =>
    intro h
    obtain ⟨⟨a0, a1⟩, ⟨b0, b1⟩, c0, c1⟩ := h e (List.mem_cons_self ..)
    refine ⟨⟨by omega, ?_⟩, ⟨b0, ?_⟩, ⟨by omega, ?_⟩, ih fun x hx => h x (List.mem_cons_of_mem _ hx)⟩
    · rw [show (256 : Int) ^ 4 = 4294967296 from rfl]; omega
    · rw [show (256 : Int) ^ 2 = 65536 from rfl]; omega
    · rw [show (256 : Int) ^ 8 = 18446744073709551616 from rfl]; omega
theorem fitL {l : Lf} (hm : MayL l) : FitW (wsLf l.es.length) (valL l) := by
  obtain ⟨⟨⟨a0, a1⟩, ⟨b0, b1⟩, hn⟩, hr⟩ := hm
  refine ⟨⟨a0, ?_⟩, ⟨by omega, ?_⟩, ⟨by omega, ?_⟩, fitE a0 a1 (rowOk_all hr)⟩
  · rw [show (256 : Int) ^ 2 = 65536 from rfl]; omega
  · rw [show (256 : Int) ^ 8 = 18446744073709551616 from rfl]; omega
  · rw [show (256 : Int) ^ 1 = 256 from rfl]; omega
theorem valE_inj : ∀ {L M : List En}, valE L = valE M → L = M := by
  intro L
  induction L with
  | nil => intro M h; cases M with
    | nil => rfl
    | cons b M => simp [valE] at h
  | cons a L ih => intro M h; cases M with
    | nil => simp [valE] at h
    | cons b M =>
      simp only [valE, List.cons.injEq] at h
      rw [ih h.2.2.2, (En.ext_iff' a b).2 ⟨h.1, h.2.1, h.2.2.1⟩]
theorem parse_load {l : Lf} (hm : MayL l) (zs : List Int) : parseN (loadL l ++ zs) l.es.length = l := by
  have hc := cnt_load zs hm.1.2.2
  have h1 := unpackL (x := loadL l ++ zs) (n := l.es.length) hc.symm
  have h2 : unpackW (wsLf l.es.length) (loadL l ++ zs) = valL l := unpack_pack zs (fitL hm)
  rw [h2] at h1
  unfold valL at h1
  simp only [List.cons.injEq] at h1
  exact ((Lf.ext_iff' _ _).2 ⟨h1.1, h1.2.1, valE_inj h1.2.2.2⟩).symm
theorem getL_put {l : Lf} (hm : MayL l) (no snap : Int) : getL (sealS (pageS 4 (loadL l))) no snap = if no = l.no ∧ snap = l.snap then (l, 0) else (noLf, 31) := by
  have hn := hm.1.2.2
  have hl : (loadL l).length ≤ 58 := by rw [loadL_len]; omega
  have hc := cnt_load (l := l) (List.replicate (58 - (loadL l).length) 0) hn
  have hc2 : cntL (loadL l ++ List.replicate (58 - (loadL l).length) 0) = l.es.length := by unfold cntL; rw [hc]; omega
  have hb : blankS ((loadL l ++ List.replicate (58 - (loadL l).length) 0).drop (11 + 14 * l.es.length)) = true := by
    rw [dr_left (loadL_len l), blank_rep]; simp
  unfold getL
  rw [getP_page (by decide) hl, if_neg (by simp)]
  dsimp only
  rw [hc2, if_neg (by omega), parse_load hm]
  by_cases h : no = l.no ∧ snap = l.snap
  · rw [if_pos h, if_pos ⟨hm, h.1.symm, h.2.symm, hb⟩]
  · rw [if_neg h, if_neg (fun k => h ⟨k.2.1.symm, k.2.2.1.symm⟩)]
theorem getL_back {b : List Int} {l : Lf} {no snap : Int} (hw : ∀ y ∈ b, 0 ≤ y ∧ y ≤ 255) (h : getL b no snap = (l, 0)) : MayL l ∧ sealS (pageS 4 (loadL l)) = b ∧ l.no = no ∧ l.snap = snap := by
  rw [← getL_eq hw] at h
  unfold rgetL at h
  split at h
  · rename_i h1; simp only [Prod.mk.injEq] at h; exact absurd h.2 h1
  · split at h
    · rename_i h2
      simp only [Prod.mk.injEq, and_true] at h
      rw [h] at h2
      exact h2
    · simp at h
theorem getL_err {b : List Int} {no snap : Int} (h : (getL b no snap).2 ≠ 0) : (getL b no snap).1 = noLf := by
  unfold getL at h ⊢
  split
  · rfl
  · rename_i h1
    rw [if_neg h1] at h
    split
    · rfl
    · rename_i h2
      rw [if_neg h2] at h
      split
      · rename_i h3; rw [if_pos h3] at h; exact absurd rfl h
      · rfl
/-- a sector of a leaf, of which bits are turned, is none. -/
theorem getL_turn {l : Lf} (hm : MayL l) (no snap : Int) (at_ t : Nat) : turnS (sealS (pageS 4 (loadL l))) at_ t = sealS (pageS 4 (loadL l)) ∨ (turnS (sealS (pageS 4 (loadL l))) at_ t ≠ sealS (pageS 4 (loadL l)) ∧ getL (turnS (sealS (pageS 4 (loadL l))) at_ t) no snap = (noLf, 40)) := by
  have hl : (loadL l).length ≤ 58 := by rw [loadL_len]; have := hm.1.2.2; omega
  have hw := page_wf (k := 4) (by decide) (loadL_wf l)
  rcases page_turn (getP_page (by decide) hl) hw at_ t with e | ⟨e, e2⟩
  · exact .inl e
  · refine .inr ⟨e, ?_⟩
    unfold getL
    rw [e2]
    rfl
theorem entL_wf {x : List Int} (hw : ∀ y ∈ x, 0 ≤ y ∧ y ≤ 255) (i : Nat) : (0 ≤ (entL x i).slot ∧ (entL x i).slot ≤ 4294967295) ∧ (0 ≤ (entL x i).lba ∧ (entL x i).lba ≤ 65535) ∧ U64 (entL x i).tag := by
  have hb : ∀ (d k : Nat), 0 ≤ ofS ((x.drop d).take k) ∧ ofS ((x.drop d).take k) < 256 ^ k := fun d k => by
    have h := ofS_bd (l := (x.drop d).take k) (fun y hy => hw y (List.mem_of_mem_drop (List.mem_of_mem_take hy)))
    exact ⟨h.1, Int.lt_of_lt_of_le h.2 (pow_mono (List.length_take_le _ _))⟩
  obtain ⟨a0, a1⟩ := hb (11 + 14 * i) 4
  obtain ⟨b0, b1⟩ := hb (15 + 14 * i) 2
  obtain ⟨c0, c1⟩ := hb (17 + 14 * i) 8
  rw [show (256 : Int) ^ 4 = 4294967296 from rfl] at a1
  rw [show (256 : Int) ^ 2 = 65536 from rfl] at b1
  rw [show (256 : Int) ^ 8 = 18446744073709551616 from rfl] at c1
  exact ⟨⟨a0, by show ofS _ ≤ _; omega⟩, ⟨b0, by show ofS _ ≤ _; omega⟩, c0, by show ofS _ ≤ _; omega⟩
theorem headL_bd {x : List Int} (hw : ∀ y ∈ x, 0 ≤ y ∧ y ≤ 255) : (0 ≤ ofS (x.take 2) ∧ ofS (x.take 2) ≤ 65535) ∧ U64 (ofS ((x.drop 2).take 8)) := by
  have h := ofS_bd (l := x.take 2) (fun y hy => hw y (List.mem_of_mem_take hy))
  have h2 := pow_mono (m := (x.take 2).length) (n := 2) (List.length_take_le _ _)
  have h3 : (256 : Int) ^ 2 = 65536 := rfl
  have k := ofS_bd (l := (x.drop 2).take 8) (fun y hy => hw y (List.mem_of_mem_drop (List.mem_of_mem_take hy)))
  have k2 := pow_mono (m := ((x.drop 2).take 8).length) (n := 8) (List.length_take_le _ _)
  have k3 : (256 : Int) ^ 8 = 18446744073709551616 := rfl
  exact ⟨⟨h.1, by omega⟩, k.1, by omega⟩
theorem parseN_wf {x : List Int} (hw : ∀ y ∈ x, 0 ≤ y ∧ y ≤ 255) (n : Nat) : WfL (parseN x n) := by
  obtain ⟨⟨a0, a1⟩, b⟩ := headL_bd hw
  refine ⟨⟨by show _ ≤ ofS (x.take 2); omega, by show ofS (x.take 2) ≤ _; omega⟩, b, fun e he => ?_⟩
  obtain ⟨i, -, rfl⟩ := List.mem_map.1 he
  obtain ⟨⟨s0, s1⟩, ⟨l0, l1⟩, t⟩ := entL_wf hw i
  exact ⟨⟨by omega, by omega⟩, ⟨by omega, by omega⟩, t⟩
end Go.Proofs.YthmhpjpnlngaoaaDoor.Ct
