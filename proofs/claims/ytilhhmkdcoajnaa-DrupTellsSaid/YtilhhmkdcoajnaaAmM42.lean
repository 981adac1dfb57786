/- What the program's Check of a trace computes; conditions: short plain clauses, few lines. -/
import Derived.Test.YtilhhmkdcoajnaaAmM41
set_option linter.unusedVariables false
set_option linter.unusedSimpArgs false
namespace Go.Proofs.Ytilhhmkdcoajnaa.Am
open Go Go.Proofs

/-- Where a trace is checked to, and whether it is right. -/
def checkAt (fol : List (List Int) → List Int → Bool) (cs : List (List Int)) (T : Trace20) : Trace20 → Nat → Nat × Bool
  | [], _ => (T.length, false)
  | (d, L) :: t, k => match d with
    | true => checkAt fol cs T t (k + 1)
    | false => match fol (cs ++ learnT (T.take k)) L with
      | false => (k, false)
      | true => if (cleanV [] L).length = 0 then (k, true) else checkAt fol cs T t (k + 1)
def checkV (fol : List (List Int) → List Int → Bool) (cs : List (List Int)) (T : Trace20) : Nat × Bool := checkAt fol cs T T 0

theorem eqA_self {a : Option (Nat × Nat)} {n : Nat} {cx : Option Nat} : eqA (.slice a n cx) (.slice a n cx) = true := by
  cases a with
  | none => cases cx <;> simp [eqA]
  | some io => obtain ⟨i, o⟩ := io; cases cx <;> simp [eqA]
theorem SliceAt.self {b : Nat} {s : ASt} {u : AV} {cs : List AV} (h : SliceAt b s u cs) : eqA u u = true := by
  obtain ⟨a, cap, rfl, _⟩ := h
  exact eqA_self
theorem TraceAt.self {b : Nat} {s : ASt} {v : AV} {T : Trace20} (h : TraceAt b s v T) : eqA v v = true := by
  obtain ⟨a, cap, rfl, _⟩ := h
  exact eqA_self
theorem mkRows {b c : Nat} {s : ASt} {v : AV} {us : List AV} {cs : List (List Int)} (h : SliceAt c s v us) (hr : RowCells b s us cs) (hb : b ≤ c) : RowsOf c s v cs := by
  obtain ⟨a, cap, rfl, hc⟩ := h
  exact ⟨a, cap, by rw [hr.1], hr.rows hc hb⟩
theorem bld_two {b c : Nat} {s s' : ASt} {v w : AV} {us us' : List AV} (hv : SliceAt b s v us) (hw : SliceAt c s' w us') : sliceRowA Try.prog 110 2 (zipIdx [0, 1] [v, w]) = some (mkRow 22 1 [v, w]) := by
  obtain ⟨a, cap, rfl, _⟩ := hv
  obtain ⟨a', cap', rfl, _⟩ := hw
  simp [sliceRowA, Try.underlying110, sz22, guardB, zr22, zipIdx, fillA, AV.cells, rep]
  rfl

/-- 24's slots while its loop runs. -/
noncomputable def vars24s (v tr : AV) (n0 : Nat) (x6 x7 x9 x10 x11 x12 x13 : AV) : List AV := [v, tr, .ptr (some (n0, 0)), .ptr (some (n0 + 1, 0)), .ptr (some (n0 + 2, 0)), .ptr (some (n0 + 3, 0)), x6, x7, .func 82 [] [.ptr (some (n0 + 4, 0))], x9, x10, x11, x12, x13]
noncomputable def loop24 (v tr : AV) (n0 : Nat) (x6 x7 x9 x10 x11 x12 x13 : AV) : ALoop := loopObj 24 (vars24s v tr n0 x6 x7 x9 x10 x11 x12 x13) #[10, 11] a24 b24 (n0 + 5)

/-- What is there while the loop of 24 runs. -/
structure Mem24 (v tr : AV) (n0 : Nat) (s : ASt) : Prop where
  bc : Box1 s n0 v
  bt : Box1 s (n0 + 1) tr
  bi : Box1 s (n0 + 2) (iv 0)
  bb : Box1 s (n0 + 3) (.bool false)
  mrk : s.heap.get (n0 + 5) = some .mark
theorem Mem24.old {v tr : AV} {n0 l : Nat} {s s' : ASt} (h : Mem24 v tr n0 s) (k : Old l s s') (hl : n0 + 6 ≤ l) : Mem24 v tr n0 s' :=
  ⟨h.bc.keep (k.2 _ (by omega)), h.bt.keep (k.2 _ (by omega)), h.bi.keep (k.2 _ (by omega)), h.bb.keep (k.2 _ (by omega)), (k.2 _ (by omega)).trans h.mrk⟩
/-- Behind the loop of 24. -/
def Fin24 (v tr : AV) (n0 : Nat) (s0 : ASt) (R : Nat × Bool) (len : Nat) (s' : ASt) : Prop := Old n0 s0 s' ∧ n0 + 6 < s'.next ∧ s'.heap.get (n0 + 5) = some .mark ∧ ∃ r, loopAt s' (n0 + 6) = some r ∧ isBusy r.state = false ∧
  ((r.pending = some .ret ∧ Box1 s' (n0 + 2) (iv (R.1 : Int)) ∧ Box1 s' (n0 + 3) (.bool R.2)) ∨ (r.pending = none ∧ R = (len, false) ∧ Mem24 v tr n0 s'))
def Li24 (fol : List (List Int) → List Int → Bool) (cs : List (List Int)) (T : Trace20) (v tr : AV) (n0 : Nat) (R : Nat × Bool) (k : Nat) (s : ASt) : Prop := checkAt fol cs T (T.drop k) k = R ∧ ∃ x6 x7 x9 x10 x11 x12 x13, loopAt s (n0 + 6) = some (loop24 v tr n0 x6 x7 x9 x10 x11 x12 x13)

set_option maxRecDepth 16000 in
theorem check_round {E : Env} (hE : Good E) {sa s0 : ASt} {n0 b : Nat} {v tr : AV} {us : List AV} {cs : List (List Int)} {T : Trace20} (hn0 : sa.next = n0) (hb : b ≤ n0) (hv : SliceAt n0 sa v us) (hr : RowCells b sa us cs) (hcs : FitsR cs)
    (hT : TraceAt b sa tr T) (hP : PlainT T) {fol : List (List Int) → List Int → Bool} (hfol : ∀ k L, T[k]? = some (false, L) → ∃ n, followsV n (cs ++ learnT (T.take k)) L = some (fol (cs ++ learnT (T.take k)) L))
    (h0 : Old n0 sa s0) (hmem : Mem24 v tr n0 s0) {R : Nat × Bool} {k : Nat} {s : ASt} {w : AV} {K : AV → ASt → Prop} (hk : k < T.length) (hat : AtState b (n0 + 6) s0 s T k w) (hli : Li24 fol cs T v tr n0 R k s)
    (hgo : ∀ s', OldBut (n0 + 6) s s' → Li24 fol cs T v tr n0 R (k + 1) s' → K (.bool true) s') (hend : ∀ s', Fin24 v tr n0 sa R T.length s' → K (.bool false) s') : WR E (n0 + 6) [iv (k : Int), w] K s := by
  obtain ⟨hR, x6, x7, x9, x10, x11, x12, x13, hlp⟩ := hli
  have hz : zipParams (varsIn E.P 24) (vars24s v tr n0 x6 x7 x9 x10 x11 x12 x13) [10, 11] [iv (k : Int), w] = some (vars24s v tr n0 x6 x7 (iv (k : Int)) w x11 x12 x13) := by
    rw [hE.P, vars24]; rfl
  refine WR.round hlp hz (by rw [hE.P]; exact ca24) (by rw [hE.P]; exact cb24) ?_
  refine wpC_run ?_
  simp only [c24a, c24o2, c24o3, vars24s, wpC, wpI, wpS, wpD, wpV, wanted_none, wanted_some, vals, cev_const, cev_var, cev_loc, padV, okV_some, againP, true_and, and_true, upd_zero, upd_succ, nth_zero, nth_succ, wpG_true, wpG_false, condK_true, condK_false, seqK_normal, seqK_ret, seqK_exit, inBlock_normal, inBlock_ret, inBlock_exit, ends_ret, ends_normal, unmark_nil, results_nil, results_cons, one_one, one_zero, one_two, isB_undef, isB_tt, isB_ff, Bool.not_true, Bool.not_false, Option.bind_some, pick3, pickA, extractA, List.getElem?_cons_zero, List.getElem?_cons_succ, bin_lss, bin_gtr, bin_leq, bin_geq, bin_eql, bin_neq, un_not]
  refine ⟨_, hlp, rfl, wpC_run ?_⟩
  generalize hs1 : setObj s (n0 + 6) _ = s1
  have n1 : s1.next = s.next := by rw [← hs1]; rfl
  have l1 : loopAt s1 (n0 + 6) = some { loop24 v tr n0 x6 x7 x9 x10 x11 x12 x13 with state := .busy } := by rw [← hs1, loopAt_set]
  have hlt := hat.lt
  have o1 : OldBut (n0 + 6) s s1 := ⟨by omega, fun x _ hx => by rw [← hs1, heap_set, if_neg hx]⟩
  have old1 : Old (n0 + 6) s0 s1 := hat.old.trans (o1.old (by omega))
  have olda : Old n0 sa s1 := h0.trans (old1.mono (by omega))
  have m1 := hmem.old old1 (Nat.le_refl _)
  obtain ⟨a, cap, htv, hc⟩ := hT.old olda hb
  have hP1 := hP.1
  have hx : T[k]? = some T[k] := List.getElem?_eq_getElem hk
  generalize hdl : T[k] = dl at hx
  obtain ⟨d, L⟩ := dl
  have hdrop : T.drop k = (d, L) :: T.drop (k + 1) := by rw [List.drop_eq_getElem_cons hk, hdl]
  obtain ⟨i, o, u, ha, hi, hl1, hl2, hu⟩ := hc k d L hx
  have hln : ∀ s, lenA Try.prog s 33 tr = some (iv (T.length : Int)) := fun s => by rw [htv]; exact len_slice Try.underlying33
  have e1 : indexAddrA Try.prog 33 tr (iv (k : Int)) = some (.ptr (some (i, o + k * 2))) := by rw [htv, ha]; exact idx_slice Try.underlying33 sz27 hk
  have e2 : loadV Try.prog s1 4 (.ptr (some (i, o + k * 2))) = some (.bool d) := load_one ag4 hl1
  have ltr := m1.bt.load ag33
  have hne : decide ((k : Int) = (T.length : Int)) = false := decide_eq_false (by omega)
  have hPL : Plain L := hP.2 _ (List.mem_of_getElem? hx)
  cases d with
  | true =>
    simp only [c24b, c24o4, ltr, hln, hne, e1, fa27_0, e2, if_true, wpC, wpI, wpS, wpD, wpV, wanted_none, wanted_some, vals, cev_const, cev_var, cev_loc, padV, okV_some, againP, true_and, and_true, upd_zero, upd_succ, nth_zero, nth_succ, wpG_true, wpG_false, condK_true, condK_false, seqK_normal, seqK_ret, seqK_exit, inBlock_normal, inBlock_ret, inBlock_exit, ends_ret, ends_normal, unmark_nil, results_nil, results_cons, one_one, one_zero, one_two, isB_undef, isB_tt, isB_ff, Bool.not_true, Bool.not_false, Option.bind_some, pick3, pickA, extractA, List.getElem?_cons_zero, List.getElem?_cons_succ, bin_lss, bin_gtr, bin_leq, bin_geq, bin_eql, bin_neq, un_not]
    refine ⟨_, l1, ?_⟩
    refine hgo _ ?_ ⟨?_, x6, x7, x9, x10, x11, x12, x13, ?_⟩
    · exact o1.trans ⟨Nat.le_refl _, fun x _ hx => by rw [heap_set, if_neg hx]⟩
    · rw [← hR, hdrop]; rfl
    · rw [loopAt_set]; rfl
  | false =>
    obtain ⟨us2, hw1, hw2, hw3⟩ := hat.ex
    have hw1 : Learn s1 w us2 := hw1.frame o1.1 fun j hj hs => o1.2 j hj (fun e => hw3 (by rw [hs, e]))
    have hw2 : RowCells b s1 us2 (learnT (T.take k)) := hw2.old ((o1.old (by omega)).mono (by omega))
    have lcl := m1.bc.load ag22
    have hv1 : SliceAt n0 s1 v us := hv.old olda (Nat.le_refl _)
    have hr1 : RowCells b s1 us cs := hr.old (olda.mono hb)
    have hb2 := bld_two hv hw1.slice
    have hms : ∀ (m : Nat) (i : Nat), Made.val i (.slice m) = .slice (some (i, 0)) m (some m) := fun _ _ => rfl
    have e3 : ∀ s', Old n0 s1 s' → loadV Try.prog s' 23 (.ptr (some (i, o + k * 2 + 1))) = some u := fun s' h => load_one ag23 (by rw [load1_eq (h.2 i (by omega))]; exact hl2)
    generalize hs2 : newObj s1 (mkRow 22 1 [v, w]) = s2
    have n2 : s2.next = s1.next + 1 := by rw [← hs2]; rfl
    have o2 : Old s1.next s1 s2 := by rw [← hs2]; exact Old.new s1 _
    obtain ⟨rr, q1, q2, _⟩ := holds_mkRow 22 1 [v, w]
    have g0 : load1 s2 s1.next 0 = some v := load1_row (by rw [← hs2, heap_new, if_pos rfl, q1]) (by rw [q2.1]; simp) (q2.2 0 v rfl)
    have g1 : load1 s2 s1.next 1 = some w := load1_row (by rw [← hs2, heap_new, if_pos rfl, q1]) (by rw [q2.1]; simp) (q2.2 1 w rfl)
    have ltr2 := (m1.bt.keep (o2.2 _ (by omega))).load ag33
    have lcs := hcs.1
    have hlen2 : us2.length ≤ 100 := by rw [hw2.1]; exact (hP.learn k).2
    simp only [c24b, c24o4, c24o5, ltr, hln, hne, e1, fa27_0, fa27_1, e2, lcl, hb2, hs2, hms, ltr2, e3 s2 (o2.mono (by omega)), wpC, wpI, wpS, wpD, wpV, wanted_none, wanted_some, vals, cev_const, cev_var, cev_loc, padV, okV_some, againP, true_and, and_true, upd_zero, upd_succ, nth_zero, nth_succ, wpG_true, wpG_false, condK_true, condK_false, seqK_normal, seqK_ret, seqK_exit, inBlock_normal, inBlock_ret, inBlock_exit, ends_ret, ends_normal, unmark_nil, results_nil, results_cons, one_one, one_zero, one_two, isB_undef, isB_tt, isB_ff, Bool.not_true, Bool.not_false, Option.bind_some, pick3, pickA, extractA, List.getElem?_cons_zero, List.getElem?_cons_succ, bin_lss, bin_gtr, bin_leq, bin_geq, bin_eql, bin_neq, un_not]
    refine (concat_ok hE (q := s1.next) (b := s1.next) (by omega) g0 g1 (by omega) ((hv1.mono (by omega)).old o2 (Nat.le_refl _)) (hw1.slice.old o2 (Nat.le_refl _)) hr1.cells hw2.cells (by rw [hr1.1]; omega) (by omega)).mono ?_
    rintro r s3 ⟨hr3, _, ho3⟩
    have o13 : Old s1.next s1 s3 := o2.trans (ho3.mono (by omega))
    have ltr3 := (m1.bt.keep (o13.2 _ (by omega))).load ag33
    have hrows : RowCells b s3 (us ++ us2) (cs ++ learnT (T.take k)) := (hr1.append hw2).old (o13.mono (by omega))
    have hu3 : SliceAt b s3 u (ivs L) := hu.old (o13.mono (by omega)) (Nat.le_refl _)
    have hselfT : eqA tr tr = true := hT.self
    have n13 := o13.1
    obtain ⟨n, hn⟩ := hfol k L hx
    have hfits : Fits (cs ++ learnT (T.take k)) := by
      refine ⟨by have := (hP.learn k).2; simp; omega, fun M hM => ?_⟩
      rcases List.mem_append.1 hM with h | h
      · have := hcs.2 M h
        exact ⟨this.1, by omega⟩
      · have := (hP.learn k).1 M h
        exact ⟨this.1, by have := this.2.2; omega⟩
    simp only [again_r1, sameA_some, e3 s3 (o13.mono (by omega)), hu.self, ltr3, hselfT, wpC, wpI, wpS, wpD, wpV, wanted_none, wanted_some, vals, cev_const, cev_var, cev_loc, padV, okV_some, againP, true_and, and_true, upd_zero, upd_succ, nth_zero, nth_succ, wpG_true, wpG_false, condK_true, condK_false, seqK_normal, seqK_ret, seqK_exit, inBlock_normal, inBlock_ret, inBlock_exit, ends_ret, ends_normal, unmark_nil, results_nil, results_cons, one_one, one_zero, one_two, isB_undef, isB_tt, isB_ff, Bool.not_true, Bool.not_false, Option.bind_some, pick3, pickA, extractA, List.getElem?_cons_zero, List.getElem?_cons_succ, bin_lss, bin_gtr, bin_leq, bin_geq, bin_eql, bin_neq, un_not]
    refine (follows_ok hE hfits hPL.1 (by have := hPL.2.2; omega) (mkRows hr3 hrows (by omega)) (hu3.mono (by omega)) hn).mono ?_
    rintro _ s4 ⟨rfl, ho4⟩
    have o14 : Old s1.next s1 s4 := o13.trans (ho4.1.mono (by omega))
    have n14 := o14.1
    have l4 : loopAt s4 (n0 + 6) = some { loop24 v tr n0 x6 x7 x9 x10 x11 x12 x13 with state := .busy } := by rw [loopAt_eq (o14.2 _ (by omega))]; exact l1
    have m4 : Mem24 v tr n0 s4 := m1.old (o14.mono (show n0 + 6 ≤ s1.next by omega)) (Nat.le_refl _)
    -- two stores, and the end
    have fin : ∀ (s5 : ASt) (c : Bool), Mem24 v tr n0 s5 → Old s1.next s1 s5 → loopAt s5 (n0 + 6) = some { loop24 v tr n0 x6 x7 x9 x10 x11 x12 x13 with state := .busy } → R = (k, c) →
        ∃ s6 s7, storeV Try.prog s5 3 (.ptr (some (n0 + 2, 0))) (iv (k : Int)) = some s6 ∧ storeV Try.prog s6 4 (.ptr (some (n0 + 3, 0))) (.bool c) = some s7 ∧ loopAt s7 (n0 + 6) = some { loop24 v tr n0 x6 x7 x9 x10 x11 x12 x13 with state := .busy } ∧
          ∀ (r' : ALoop), isBusy r'.state = false → r'.pending = some .ret → Fin24 v tr n0 sa R T.length (setObj s7 (n0 + 6) (.loop r')) := by
      intro s5 c m5 o5 l5 hRk
      obtain ⟨s6, p1, p2, p3, p4⟩ := m5.bi.store (d := iv (k : Int)) sz3 rfl rfl
      obtain ⟨s7, r1, r2, r3, r4⟩ := (m5.bb.keep (p4 _ (by omega))).store (d := .bool c) sz4 rfl rfl
      refine ⟨s6, s7, p1, r1, by rw [loopAt_eq ((r4 _ (by omega)).trans (p4 _ (by omega)))]; exact l5, fun r' h1 h2 => ?_⟩
      have n5 := o5.1
      refine ⟨?_, by show n0 + 6 < s7.next; omega, by rw [heap_set, if_neg (by omega), r4 _ (by omega), p4 _ (by omega)]; exact m5.mrk, r', loopAt_set _ _ _, h1, .inl ⟨h2, ?_, ?_⟩⟩
      · refine olda.trans ⟨by show s1.next ≤ s7.next; omega, fun x hx => ?_⟩
        rw [heap_set, if_neg (by omega), r4 x (by omega), p4 x (by omega), o5.2 x (by omega)]
      · rw [hRk]
        exact (p2.keep (r4 _ (by omega))).keep (by rw [heap_set, if_neg (by omega)])
      · rw [hRk]
        exact r2.keep (by rw [heap_set, if_neg (by omega)])
    by_cases hf : fol (cs ++ learnT (T.take k)) L = true
    · have e34 := e3 s4 (o14.mono (by omega))
      have ltr4 := m4.bt.load ag33
      have hu4 : SliceAt b s4 u (ivs L) := hu.old (o14.mono (by omega)) (Nat.le_refl _)
      simp only [hf, Bool.not_true, c24o7, ltr4, e1, fa27_1, e34, wpC, wpI, wpS, wpD, wpV, wanted_none, wanted_some, vals, cev_const, cev_var, cev_loc, padV, okV_some, againP, true_and, and_true, upd_zero, upd_succ, nth_zero, nth_succ, wpG_true, wpG_false, condK_true, condK_false, seqK_normal, seqK_ret, seqK_exit, inBlock_normal, inBlock_ret, inBlock_exit, ends_ret, ends_normal, unmark_nil, results_nil, results_cons, one_one, one_zero, one_two, isB_undef, isB_tt, isB_ff, Bool.not_true, Bool.not_false, Option.bind_some, pick3, pickA, extractA, List.getElem?_cons_zero, List.getElem?_cons_succ, bin_lss, bin_gtr, bin_leq, bin_geq, bin_eql, bin_neq, un_not]
      refine (clean_ok hE hPL.1 hPL.2.1 hPL.2.2 (b := b) (by omega) hu4).mono ?_
      rintro q s5 ⟨hq1, hq2, _⟩
      rw [clean_eq hPL.2.1] at hq1
      have n5 := hq2.1
      have o15 : Old s1.next s1 s5 := o14.trans (hq2.mono (by omega))
      have hlq : lenA Try.prog s5 23 q = some (iv ((cleanV [] L).length : Int)) := by
        obtain ⟨qa, qc, rfl, _⟩ := hq1
        rw [len_slice Try.underlying23, ivs_len]
      have l5 : loopAt s5 (n0 + 6) = some { loop24 v tr n0 x6 x7 x9 x10 x11 x12 x13 with state := .busy } := by rw [loopAt_eq (hq2.2 _ (by omega))]; exact l4
      by_cases hcl : (cleanV [] L).length = 0
      · have hd0 : decide (((cleanV [] L).length : Int) = 0) = true := decide_eq_true (by omega)
        obtain ⟨s6, s7, p1, p2, p3, p4⟩ := fin s5 true (m4.old (hq2.mono (show n0 + 6 ≤ s4.next by omega)) (Nat.le_refl _)) o15 l5 (by rw [← hR, hdrop]; simp only [checkAt, hf, hcl, if_true])
        simp only [hlq, hd0, c24o8, on2, p1, p2, withV, wpC, wpI, wpS, wpD, wpV, wanted_none, wanted_some, vals, cev_const, cev_var, cev_loc, padV, okV_some, againP, true_and, and_true, upd_zero, upd_succ, nth_zero, nth_succ, wpG_true, wpG_false, condK_true, condK_false, seqK_normal, seqK_ret, seqK_exit, inBlock_normal, inBlock_ret, inBlock_exit, ends_ret, ends_normal, unmark_nil, results_nil, results_cons, one_one, one_zero, one_two, isB_undef, isB_tt, isB_ff, Bool.not_true, Bool.not_false, Option.bind_some, pick3, pickA, extractA, List.getElem?_cons_zero, List.getElem?_cons_succ, bin_lss, bin_gtr, bin_leq, bin_geq, bin_eql, bin_neq, un_not]
        exact ⟨_, p3, hend _ (p4 _ rfl rfl)⟩
      · have hd0 : decide (((cleanV [] L).length : Int) = 0) = false := decide_eq_false (by omega)
        simp only [hlq, hd0, wpC, wpI, wpS, wpD, wpV, wanted_none, wanted_some, vals, cev_const, cev_var, cev_loc, padV, okV_some, againP, true_and, and_true, upd_zero, upd_succ, nth_zero, nth_succ, wpG_true, wpG_false, condK_true, condK_false, seqK_normal, seqK_ret, seqK_exit, inBlock_normal, inBlock_ret, inBlock_exit, ends_ret, ends_normal, unmark_nil, results_nil, results_cons, one_one, one_zero, one_two, isB_undef, isB_tt, isB_ff, Bool.not_true, Bool.not_false, Option.bind_some, pick3, pickA, extractA, List.getElem?_cons_zero, List.getElem?_cons_succ, bin_lss, bin_gtr, bin_leq, bin_geq, bin_eql, bin_neq, un_not]
        refine ⟨_, l5, ?_⟩
        refine hgo _ ?_ ⟨?_, x6, x7, x9, x10, x11, x12, x13, ?_⟩
        · refine o1.trans ⟨by show s1.next ≤ s5.next; omega, fun x hx hne => ?_⟩
          rw [heap_set, if_neg hne, o15.2 x hx]
        · rw [← hR, hdrop]; simp only [checkAt, hf, hcl, if_false]
        · rw [loopAt_set]; rfl
    · have hf : fol (cs ++ learnT (T.take k)) L = false := by simpa using hf
      obtain ⟨s6, s7, p1, p2, p3, p4⟩ := fin s4 false m4 o14 l4 (by rw [← hR, hdrop]; simp only [checkAt, hf])
      simp only [hf, Bool.not_false, c24o6, on2, p1, p2, withV, wpC, wpI, wpS, wpD, wpV, wanted_none, wanted_some, vals, cev_const, cev_var, cev_loc, padV, okV_some, againP, true_and, and_true, upd_zero, upd_succ, nth_zero, nth_succ, wpG_true, wpG_false, condK_true, condK_false, seqK_normal, seqK_ret, seqK_exit, inBlock_normal, inBlock_ret, inBlock_exit, ends_ret, ends_normal, unmark_nil, results_nil, results_cons, one_one, one_zero, one_two, isB_undef, isB_tt, isB_ff, Bool.not_true, Bool.not_false, Option.bind_some, pick3, pickA, extractA, List.getElem?_cons_zero, List.getElem?_cons_succ, bin_lss, bin_gtr, bin_leq, bin_geq, bin_eql, bin_neq, un_not]
      exact ⟨_, p3, hend _ (p4 _ rfl rfl)⟩
end Go.Proofs.Ytilhhmkdcoajnaa.Am

/- What the reference's functions Check and Left of layer 20 compute; conditions: few short plain lines. -/
set_option linter.unusedVariables false
set_option linter.unusedSimpArgs false
namespace Go.Proofs.Ytilhhmkdcoajnaa.Am
open Go Go.Proofs

theorem PlainT.fitsR {T : Trace20} (h : PlainT T) (k : Nat) : FitsR (learnT (T.take k)) := by
  obtain ⟨h1, h2⟩ := h.learn k
  exact ⟨by omega, fun L hL => ⟨(h1 L hL).1, by have := (h1 L hL).2.2; omega⟩⟩

set_option maxRecDepth 16000 in
theorem rcheck_loop {E : Env} (hE : Good E) {s0 : ASt} {b : Nat} {v tr : AV} {us : List AV} {O : List Nat} {cs : List (List Int)} {T : Trace20} (hb : b ≤ s0.next) (hd : Dest s0 v us.length 1 us O) (hr : RowCells b s0 us cs) (hcs : FitsR cs) (hcl : cs.length ≤ 100)
    (hT : TraceAt b s0 tr T) (hP : PlainT T) {fol : List (List Int) → List Int → Bool} (hfol : ∀ k L, T[k]? = some (false, L) → ∃ n, n ≤ 100000 ∧ followsR n (cs ++ learnT (T.take k)) L = some (fol (cs ++ learnT (T.take k)) L))
    {R : Nat × Bool} {Q : ARes → Prop} :
    ∀ (t : List (Bool × List Int)) (k : Nat) (s : ASt) (w : AV) (us2 : List AV) (O2 : List Nat) (x2 x3 x6 x7 x8 x9 x10 : AV), T.drop k = t → k ≤ T.length → Old s0.next s0 s → Dest s w us2.length 1 us2 O2 → (∀ j ∈ O2, s0.next ≤ j) → RowCells b s us2 (learnT (T.take k)) → checkAt fol cs T t k = R →
      (∀ s' y2 y3 y4 y5 y6 y7 y8 y9 y10, Old s0.next s0 s' → R = (T.length, false) → Q ⟨.exit 0, [v, tr, y2, y3, y4, y5, y6, y7, y8, y9, y10], [], s'⟩) →
      (∀ s' y4 y5 y6 y7 y8 y9 y10, Old s0.next s0 s' → Q ⟨.ret, [v, tr, iv (R.1 : Int), .bool R.2, y4, y5, y6, y7, y8, y9, y10], [], s'⟩) →
      WC E none (.loop c25l13) Q [v, tr, x2, x3, w, iv (k : Int), x6, x7, x8, x9, x10] [] s := by
  have hln : ∀ s, lenA Try.prog s 33 tr = some (iv (T.length : Int)) := fun s => by obtain ⟨a, cap, rfl, _⟩ := hT; exact len_slice Try.underlying33
  have hP1 := hP.1
  intro t
  induction t with
  | nil =>
    intro k s w us2 O2 x2 x3 x6 x7 x8 x9 x10 hdr hk hold hd2 hO2 hr2 hR hend hret
    have := drop_end hdr hk
    subst this
    refine WC.loop' ?_
    simp only [c25l13, c25o3, hln, Int.lt_irrefl, decide_false, wpC, wpI, wpS, wpD, wpV, wanted_none, wanted_some, vals, cev_const, cev_var, cev_loc, padV, okV_some, againP, true_and, and_true, upd_zero, upd_succ, nth_zero, nth_succ, wpG_true, wpG_false, condK_true, condK_false, seqK_normal, seqK_ret, seqK_exit, inBlock_normal, inBlock_ret, inBlock_exit, ends_ret, ends_normal, unmark_nil, results_nil, results_cons, one_one, one_zero, one_two, isB_undef, isB_tt, isB_ff, Bool.not_true, Bool.not_false, Option.bind_some, pick3, pickA, extractA, List.getElem?_cons_zero, List.getElem?_cons_succ, bin_lss, bin_gtr, bin_leq, bin_geq, bin_eql, bin_neq, un_not]
    exact hend _ _ _ _ _ _ _ _ _ _ hold hR.symm
  | cons x t ih =>
    intro k s w us2 O2 x2 x3 x6 x7 x8 x9 x10 hdr hk hold hd2 hO2 hr2 hR hend hret
    obtain ⟨d, L⟩ := x
    obtain ⟨hlt, hx, hdr'⟩ := drop_facts hdr
    have hkk : decide ((k : Int) < (T.length : Int)) = true := decide_eq_true (by omega)
    have e3 := bin_add Try.prog 3 (k : Int) 1 ⟨by omega, by omega⟩
    have hcast : ((k : Int) + 1) = ((k + 1 : Nat) : Int) := by omega
    have hns := hold.1
    obtain ⟨a, cap, htv, hc⟩ := hT.old hold hb
    obtain ⟨i, o, u, ha, hi, hl1, hl2, hu⟩ := hc k d L hx
    have e1 : indexAddrA Try.prog 33 tr (iv (k : Int)) = some (.ptr (some (i, o + k * 2))) := by rw [htv, ha]; exact idx_slice Try.underlying33 sz27 hlt
    have e2 : loadV Try.prog s 27 (.ptr (some (i, o + k * 2))) = some (.agg [.bool d, u]) := by simp [loadV, ag27, sz27, load_two hl1 hl2]
    have hal : allocA Try.prog 27 = some (mkRow 27 0 [.bool false, .slice none 0 (some 0)], .ptr) := by simp [allocA, zr27, AV.cells]
    have hmv : ∀ i, Made.val i .ptr = .ptr (some (i, 0)) := fun _ => rfl
    generalize hs1 : newObj s (mkRow 27 0 [.bool false, .slice none 0 (some 0)]) = s1
    have n1 : s1.next = s.next + 1 := by rw [← hs1]; rfl
    have o1 : Old s.next s s1 := by rw [← hs1]; exact Old.new s _
    have bx1 : Box2 s1 s.next (.bool false) (.slice none 0 (some 0)) := by
      obtain ⟨r, h1, h2, h3, h4, h5, h6⟩ := holds_mkRow 27 0 [.bool false, .slice none 0 (some 0)]
      exact ⟨r, by rw [← hs1, heap_new, if_pos rfl, h1], h2, h5, h6⟩
    obtain ⟨s2, g1, g2, g3, g4⟩ := bx1.store (d0 := .bool d) (d1 := u) rfl hu.isCell.1
    have o2 : Old s.next s s2 := ⟨by omega, fun x hx => by rw [g4 x (by omega), o1.2 x hx]⟩
    have n2 := o2.1
    have hold2 : Old s0.next s0 s2 := hold.trans (o2.mono hns)
    have ld0 : loadV Try.prog s2 4 (.ptr (some (s.next, 0))) = some (.bool d) := load_one ag4 g2.load0
    have ld1 : ∀ s', Old s2.next s2 s' → loadV Try.prog s' 23 (.ptr (some (s.next, 0 + 1))) = some u := fun s' h => load_one ag23 (g2.keep (h.2 _ (by omega))).load1
    have hd2' : Dest s2 w us2.length 1 us2 O2 := hd2.frame o2.1 fun j hj => o2.2 j (hd2.slot_lt j hj)
    have hr2' : RowCells b s2 us2 (learnT (T.take k)) := hr2.old (o2.mono (by omega))
    have hu2 : SliceAt b s2 u (ivs L) := hu.old (o2.mono (by omega)) (Nat.le_refl _)
    have hlearn := hP.learn k
    have hul : us2.length ≤ 100 := by rw [hr2.1]; exact hlearn.2
    have hPL : Plain L := hP.2 _ (List.mem_of_getElem? hx)
    have hll : L.length ≤ 1000 := by have := hPL.2.2; omega
    refine WC.loop' ?_
    generalize hW : WC E none (CCode.loop c25l13) Q = W
    cases d with
    | true =>
      simp only [c25l13, c25o3, c25o4, hln, hkk, e1, e2, hal, hmv, hs1, on2, g1, withV, c25o5, fa27_0, fa27_1, ld0, c25o6, ld1 s2 (Old.refl _ _), wpC, wpI, wpS, wpD, wpV, wanted_none, wanted_some, vals, cev_const, cev_var, cev_loc, padV, okV_some, againP, true_and, and_true, upd_zero, upd_succ, nth_zero, nth_succ, wpG_true, wpG_false, condK_true, condK_false, seqK_normal, seqK_ret, seqK_exit, inBlock_normal, inBlock_ret, inBlock_exit, ends_ret, ends_normal, unmark_nil, results_nil, results_cons, one_one, one_zero, one_two, isB_undef, isB_tt, isB_ff, Bool.not_true, Bool.not_false, Option.bind_some, pick3, pickA, extractA, List.getElem?_cons_zero, List.getElem?_cons_succ, bin_lss, bin_gtr, bin_leq, bin_geq, bin_eql, bin_neq, un_not]
      refine (drop_ok hE (b := b) (by omega) (hP.fitsR k) hPL.1 hll hd2' hr2' hu2).mono ?_
      rintro r s3 ⟨us', O', h1, h2, h3, h4⟩
      simp only [if_true, c25o12, e3, hcast, wpC, wpI, wpS, wpD, wpV, wanted_none, wanted_some, vals, cev_const, cev_var, cev_loc, padV, okV_some, againP, true_and, and_true, upd_zero, upd_succ, nth_zero, nth_succ, wpG_true, wpG_false, condK_true, condK_false, seqK_normal, seqK_ret, seqK_exit, inBlock_normal, inBlock_ret, inBlock_exit, ends_ret, ends_normal, unmark_nil, results_nil, results_cons, one_one, one_zero, one_two, isB_undef, isB_tt, isB_ff, Bool.not_true, Bool.not_false, Option.bind_some, pick3, pickA, extractA, List.getElem?_cons_zero, List.getElem?_cons_succ, bin_lss, bin_gtr, bin_leq, bin_geq, bin_eql, bin_neq, un_not]
      rw [← hW]
      refine ih (k + 1) s3 r us' O' _ _ _ _ _ _ _ hdr' hlt (hold2.trans (h4.mono (by omega))) h1 (fun j hj => (h3 j hj).elim (hO2 j) (fun h => by omega)) (by rw [learnT_succ hx]; exact h2) hR hend hret
    | false =>
      have hdv : Dest s2 v us.length 1 us O := hd.frame hold2.1 fun j hj => hold2.2 j (hd.slot_lt j hj)
      have hrv : RowCells b s2 us cs := hr.old (hold2.mono hb)
      have hself := hu.self
      obtain ⟨n, hn1, hn2⟩ := hfol k L hx
      simp only [c25l13, c25o3, c25o4, hln, hkk, e1, e2, hal, hmv, hs1, on2, g1, withV, c25o5, fa27_0, fa27_1, ld0, c25o7, ld1 s2 (Old.refl _ _), wpC, wpI, wpS, wpD, wpV, wanted_none, wanted_some, vals, cev_const, cev_var, cev_loc, padV, okV_some, againP, true_and, and_true, upd_zero, upd_succ, nth_zero, nth_succ, wpG_true, wpG_false, condK_true, condK_false, seqK_normal, seqK_ret, seqK_exit, inBlock_normal, inBlock_ret, inBlock_exit, ends_ret, ends_normal, unmark_nil, results_nil, results_cons, one_one, one_zero, one_two, isB_undef, isB_tt, isB_ff, Bool.not_true, Bool.not_false, Option.bind_some, pick3, pickA, extractA, List.getElem?_cons_zero, List.getElem?_cons_succ, bin_lss, bin_gtr, bin_leq, bin_geq, bin_eql, bin_neq, un_not]
      refine (all_ok hE hdv hd2' (by rw [hr.1]; omega) (by omega) hrv.cells hr2'.cells).mono ?_
      rintro q s3 ⟨Oq, h1, h2, h3⟩
      have n3 := h3.1
      have hrq : RowCells b s3 (us ++ us2) (cs ++ learnT (T.take k)) := (hrv.append hr2').old (h3.mono (by omega))
      have hfits : FitsR (cs ++ learnT (T.take k)) := by
        refine ⟨by have := hlearn.2; simp; omega, fun M hM => ?_⟩
        rcases List.mem_append.1 hM with h | h
        · exact hcs.2 M h
        · exact (hP.fitsR k).2 M h
      simp only [again_r1, sameA_some, ld1 s3 h3, hself, wpC, wpI, wpS, wpD, wpV, wanted_none, wanted_some, vals, cev_const, cev_var, cev_loc, padV, okV_some, againP, true_and, and_true, upd_zero, upd_succ, nth_zero, nth_succ, wpG_true, wpG_false, condK_true, condK_false, seqK_normal, seqK_ret, seqK_exit, inBlock_normal, inBlock_ret, inBlock_exit, ends_ret, ends_normal, unmark_nil, results_nil, results_cons, one_one, one_zero, one_two, isB_undef, isB_tt, isB_ff, Bool.not_true, Bool.not_false, Option.bind_some, pick3, pickA, extractA, List.getElem?_cons_zero, List.getElem?_cons_succ, bin_lss, bin_gtr, bin_leq, bin_geq, bin_eql, bin_neq, un_not]
      refine (rfollows_ok hE hfits hPL.1 hll (n0 := s3.next) (Nat.le_refl _) (mkRows h1.slice hrq (by omega)) ((hu2.old (h3.mono (by omega)) (Nat.le_refl _)).mono (by omega)) hn1 hn2).mono ?_
      rintro _ s4 ⟨rfl, ho4⟩
      have o24 : Old s2.next s2 s4 := h3.trans (ho4.mono (by omega))
      have n4 := o24.1
      by_cases hf : fol (cs ++ learnT (T.take k)) L = true
      · simp only [hf, Bool.not_true, c25o9, fa27_1, ld1 s4 o24, wpC, wpI, wpS, wpD, wpV, wanted_none, wanted_some, vals, cev_const, cev_var, cev_loc, padV, okV_some, againP, true_and, and_true, upd_zero, upd_succ, nth_zero, nth_succ, wpG_true, wpG_false, condK_true, condK_false, seqK_normal, seqK_ret, seqK_exit, inBlock_normal, inBlock_ret, inBlock_exit, ends_ret, ends_normal, unmark_nil, results_nil, results_cons, one_one, one_zero, one_two, isB_undef, isB_tt, isB_ff, Bool.not_true, Bool.not_false, Option.bind_some, pick3, pickA, extractA, List.getElem?_cons_zero, List.getElem?_cons_succ, bin_lss, bin_gtr, bin_leq, bin_geq, bin_eql, bin_neq, un_not]
        refine (rclean_ok hE hPL.1 hll (b := s4.next) (Nat.le_refl _) ((hu2.old (o24.mono (by omega)) (Nat.le_refl _)).mono (by omega))).mono ?_
        rintro z s5 ⟨Oz, hz, ho5⟩
        have o25 : Old s2.next s2 s5 := o24.trans (ho5.mono (by omega))
        have n5 := o25.1
        have hlz : lenA Try.prog s5 23 z = some (iv ((cleanV [] L).length : Int)) := by
          obtain ⟨za, zc, rfl, _⟩ := hz.cells
          exact len_slice Try.underlying23
        by_cases hcl0 : (cleanV [] L).length = 0
        · have hd0 : decide (((cleanV [] L).length : Int) = 0) = true := decide_eq_true (by omega)
          have hRk : R = (k, true) := by rw [← hR]; simp only [checkAt, hf, hcl0, if_true]
          simp only [hlz, hd0, c25o10, wpC, wpI, wpS, wpD, wpV, wanted_none, wanted_some, vals, cev_const, cev_var, cev_loc, padV, okV_some, againP, true_and, and_true, upd_zero, upd_succ, nth_zero, nth_succ, wpG_true, wpG_false, condK_true, condK_false, seqK_normal, seqK_ret, seqK_exit, inBlock_normal, inBlock_ret, inBlock_exit, ends_ret, ends_normal, unmark_nil, results_nil, results_cons, one_one, one_zero, one_two, isB_undef, isB_tt, isB_ff, Bool.not_true, Bool.not_false, Option.bind_some, pick3, pickA, extractA, List.getElem?_cons_zero, List.getElem?_cons_succ, bin_lss, bin_gtr, bin_leq, bin_geq, bin_eql, bin_neq, un_not]
          have := hret s5 w (iv (k : Int)) (.ptr (some (s.next, 0))) (.bool true) (.bool false) (.bool false) (.bool true) (hold2.trans (o25.mono (by omega)))
          rw [hRk] at this
          exact this
        · have hd0 : decide (((cleanV [] L).length : Int) = 0) = false := decide_eq_false (by omega)
          have hd5 : Dest s5 w us2.length 1 us2 O2 := hd2'.frame o25.1 fun j hj => o25.2 j (hd2'.slot_lt j hj)
          have b1 := bld_one (P := Try.prog) (t := 22) (v := u) Try.underlying22 sz23 zr23 rfl hu.isCell.2
          have hms : ∀ (m : Nat) (i : Nat), Made.val i (.slice m) = .slice (some (i, 0)) m (some m) := fun _ _ => rfl
          obtain ⟨v', s6, O', p1, p2, p3, p4, p5, p6⟩ := push_row hd5 (by omega) hu.isCell.1
          simp only [hlz, hd0, c25o11, fa27_1, ld1 s5 o25, b1, hms, p1, if_true, c25o12, e3, hcast, wpC, wpI, wpS, wpD, wpV, wanted_none, wanted_some, vals, cev_const, cev_var, cev_loc, padV, okV_some, againP, true_and, and_true, upd_zero, upd_succ, nth_zero, nth_succ, wpG_true, wpG_false, condK_true, condK_false, seqK_normal, seqK_ret, seqK_exit, inBlock_normal, inBlock_ret, inBlock_exit, ends_ret, ends_normal, unmark_nil, results_nil, results_cons, one_one, one_zero, one_two, isB_undef, isB_tt, isB_ff, Bool.not_true, Bool.not_false, Option.bind_some, pick3, pickA, extractA, List.getElem?_cons_zero, List.getElem?_cons_succ, bin_lss, bin_gtr, bin_leq, bin_geq, bin_eql, bin_neq, un_not]
          rw [← hW]
          have ob : ∀ x, x < s0.next → s6.heap.get x = s0.heap.get x := fun x hx => by
            rw [p4 x (by omega) (fun h => by have := hO2 x h; omega), o25.2 x (by omega), hold2.2 x hx]
          refine ih (k + 1) s6 v' (us2 ++ [u]) O' _ _ _ _ _ _ _ hdr' hlt ⟨by omega, ob⟩ (by simpa using p2) (fun j hj => (p5 j hj).elim (hO2 j) (fun h => by omega)) ?_ (by rw [← hR]; simp only [checkAt, hf, hcl0, if_false]) hend hret
          rw [learnT_succ hx]
          have k6 : Old b s2 s6 := (o25.mono (by omega)).trans ⟨by omega, fun x hx => p4 x (by omega) (fun h => by have := hO2 x h; omega)⟩
          exact (hr2'.old k6).append (RowCells.one (hu2.old k6 (Nat.le_refl _)))
      · have hf : fol (cs ++ learnT (T.take k)) L = false := by simpa using hf
        have hRk : R = (k, false) := by rw [← hR]; simp only [checkAt, hf]
        simp only [hf, Bool.not_false, c25o8, wpC, wpI, wpS, wpD, wpV, wanted_none, wanted_some, vals, cev_const, cev_var, cev_loc, padV, okV_some, againP, true_and, and_true, upd_zero, upd_succ, nth_zero, nth_succ, wpG_true, wpG_false, condK_true, condK_false, seqK_normal, seqK_ret, seqK_exit, inBlock_normal, inBlock_ret, inBlock_exit, ends_ret, ends_normal, unmark_nil, results_nil, results_cons, one_one, one_zero, one_two, isB_undef, isB_tt, isB_ff, Bool.not_true, Bool.not_false, Option.bind_some, pick3, pickA, extractA, List.getElem?_cons_zero, List.getElem?_cons_succ, bin_lss, bin_gtr, bin_leq, bin_geq, bin_eql, bin_neq, un_not]
        have := hret s4 w (iv (k : Int)) (.ptr (some (s.next, 0))) (.bool true) (.bool false) (.bool true) x10 (hold2.trans (o24.mono (by omega)))
        rw [hRk] at this
        exact this

set_option maxRecDepth 16000 in
/-- Check, of the reference. -/
theorem rcheck_ok {E : Env} (hE : Good E) {s : ASt} {b : Nat} {v tr : AV} {us : List AV} {O : List Nat} {cs : List (List Int)} {T : Trace20} (hb : b ≤ s.next) (hd : Dest s v us.length 1 us O) (hr : RowCells b s us cs) (hcs : FitsR cs) (hcl : cs.length ≤ 100)
    (hT : TraceAt b s tr T) (hP : PlainT T) {fol : List (List Int) → List Int → Bool} (hfol : ∀ k L, T[k]? = some (false, L) → ∃ n, n ≤ 100000 ∧ followsR n (cs ++ learnT (T.take k)) L = some (fol (cs ++ learnT (T.take k)) L)) :
    WF E 25 [v, tr] (fun r s' => r = .tuple [iv ((checkV fol cs T).1 : Int), .bool (checkV fol cs T).2] ∧ Old s.next s s') s := by
  have hln : ∀ s, lenA Try.prog s 33 tr = some (iv (T.length : Int)) := fun s => by obtain ⟨a, cap, rfl, _⟩ := hT; exact len_slice Try.underlying33
  refine hE.go comp25 (by decide) rfl ?_
  simp only [c25, c25o0, c25o1, c25o2, wpC, wpI, wpS, wpD, wpV, wanted_none, wanted_some, vals, cev_const, cev_var, cev_loc, padV, okV_some, againP, true_and, and_true, upd_zero, upd_succ, nth_zero, nth_succ, wpG_true, wpG_false, condK_true, condK_false, seqK_normal, seqK_ret, seqK_exit, inBlock_normal, inBlock_ret, inBlock_exit, ends_ret, ends_normal, unmark_nil, results_nil, results_cons, one_one, one_zero, one_two, isB_undef, isB_tt, isB_ff, Bool.not_true, Bool.not_false, Option.bind_some, pick3, pickA, extractA, List.getElem?_cons_zero, List.getElem?_cons_succ, bin_lss, bin_gtr, bin_leq, bin_geq, bin_eql, bin_neq, un_not]
  refine rcheck_loop hE hb hd hr hcs hcl hT hP hfol (R := checkV fol cs T) T 0 s (.slice none 0 (some 0)) [] [] _ _ _ _ _ _ _ rfl (Nat.zero_le _) (Old.refl _ _) (Dest.nil s 1) (fun j hj => by cases hj) (RowCells.nil _ _) rfl ?_ ?_
  · intro s' y2 y3 y4 y5 y6 y7 y8 y9 y10 ho hR
    simp only [if_true, c25o14, hln, wpC, wpI, wpS, wpD, wpV, wanted_none, wanted_some, vals, cev_const, cev_var, cev_loc, padV, okV_some, againP, true_and, and_true, upd_zero, upd_succ, nth_zero, nth_succ, wpG_true, wpG_false, condK_true, condK_false, seqK_normal, seqK_ret, seqK_exit, inBlock_normal, inBlock_ret, inBlock_exit, ends_ret, ends_normal, unmark_nil, results_nil, results_cons, one_one, one_zero, one_two, isB_undef, isB_tt, isB_ff, Bool.not_true, Bool.not_false, Option.bind_some, pick3, pickA, extractA, List.getElem?_cons_zero, List.getElem?_cons_succ, bin_lss, bin_gtr, bin_leq, bin_geq, bin_eql, bin_neq, un_not]
    rw [hR]
    exact ⟨rfl, ho⟩
  · intro s' y4 y5 y6 y7 y8 y9 y10 ho
    simp only [wpC, wpI, wpS, wpD, wpV, wanted_none, wanted_some, vals, cev_const, cev_var, cev_loc, padV, okV_some, againP, true_and, and_true, upd_zero, upd_succ, nth_zero, nth_succ, wpG_true, wpG_false, condK_true, condK_false, seqK_normal, seqK_ret, seqK_exit, inBlock_normal, inBlock_ret, inBlock_exit, ends_ret, ends_normal, unmark_nil, results_nil, results_cons, one_one, one_zero, one_two, isB_undef, isB_tt, isB_ff, Bool.not_true, Bool.not_false, Option.bind_some, pick3, pickA, extractA, List.getElem?_cons_zero, List.getElem?_cons_succ, bin_lss, bin_gtr, bin_leq, bin_geq, bin_eql, bin_neq, un_not]
    exact ho

set_option maxRecDepth 16000 in
theorem rleft_loop {E : Env} (hE : Good E) {s0 : ASt} {b : Nat} {v tr : AV} {T : Trace20} (hb : b ≤ s0.next) (hT : TraceAt b s0 tr T) (hP : PlainT T) {Q : ARes → Prop} :
    ∀ (t : List (Bool × List Int)) (k : Nat) (s : ASt) (w : AV) (us2 : List AV) (O2 : List Nat) (x2 x5 x6 : AV), T.drop k = t → k ≤ T.length → Old s0.next s0 s → Dest s w us2.length 1 us2 O2 → (∀ j ∈ O2, s0.next ≤ j) → RowCells b s us2 (learnT (T.take k)) →
      (∀ s' w' us' O' y2 y4 y5 y6, Old s0.next s0 s' → Dest s' w' us'.length 1 us' O' → RowCells b s' us' (learnT T) → Q ⟨.exit 0, [v, tr, y2, w', y4, y5, y6], [], s'⟩) →
      WC E none (.loop c28l8) Q [v, tr, x2, w, iv (k : Int), x5, x6] [] s := by
  have hln : ∀ s, lenA Try.prog s 33 tr = some (iv (T.length : Int)) := fun s => by obtain ⟨a, cap, rfl, _⟩ := hT; exact len_slice Try.underlying33
  have hP1 := hP.1
  intro t
  induction t with
  | nil =>
    intro k s w us2 O2 x2 x5 x6 hdr hk hold hd2 hO2 hr2 hend
    have := drop_end hdr hk
    subst this
    rw [List.take_length] at hr2
    refine WC.loop' ?_
    simp only [c28l8, c28o3, hln, Int.lt_irrefl, decide_false, wpC, wpI, wpS, wpD, wpV, wanted_none, wanted_some, vals, cev_const, cev_var, cev_loc, padV, okV_some, againP, true_and, and_true, upd_zero, upd_succ, nth_zero, nth_succ, wpG_true, wpG_false, condK_true, condK_false, seqK_normal, seqK_ret, seqK_exit, inBlock_normal, inBlock_ret, inBlock_exit, ends_ret, ends_normal, unmark_nil, results_nil, results_cons, one_one, one_zero, one_two, isB_undef, isB_tt, isB_ff, Bool.not_true, Bool.not_false, Option.bind_some, pick3, pickA, extractA, List.getElem?_cons_zero, List.getElem?_cons_succ, bin_lss, bin_gtr, bin_leq, bin_geq, bin_eql, bin_neq, un_not]
    exact hend _ _ _ _ _ _ _ _ hold hd2 hr2
  | cons x t ih =>
    intro k s w us2 O2 x2 x5 x6 hdr hk hold hd2 hO2 hr2 hend
    obtain ⟨d, L⟩ := x
    obtain ⟨hlt, hx, hdr'⟩ := drop_facts hdr
    have hkk : decide ((k : Int) < (T.length : Int)) = true := decide_eq_true (by omega)
    have e3 := bin_add Try.prog 3 (k : Int) 1 ⟨by omega, by omega⟩
    have hcast : ((k : Int) + 1) = ((k + 1 : Nat) : Int) := by omega
    have hns := hold.1
    obtain ⟨a, cap, htv, hc⟩ := hT.old hold hb
    obtain ⟨i, o, u, ha, hi, hl1, hl2, hu⟩ := hc k d L hx
    have e1 : indexAddrA Try.prog 33 tr (iv (k : Int)) = some (.ptr (some (i, o + k * 2))) := by rw [htv, ha]; exact idx_slice Try.underlying33 sz27 hlt
    have e2 : loadV Try.prog s 4 (.ptr (some (i, o + k * 2))) = some (.bool d) := load_one ag4 hl1
    have e4 : ∀ s', (∀ x, x < b → s'.heap.get x = s.heap.get x) → loadV Try.prog s' 23 (.ptr (some (i, o + k * 2 + 1))) = some u := fun s' h => load_one ag23 (by rw [load1_eq (h i hi)]; exact hl2)
    have e4' := e4 s (fun _ _ => rfl)
    have hlearn := hP.learn k
    have hul : us2.length ≤ 100 := by rw [hr2.1]; exact hlearn.2
    have hPL : Plain L := hP.2 _ (List.mem_of_getElem? hx)
    have hll : L.length ≤ 1000 := by have := hPL.2.2; omega
    refine WC.loop' ?_
    generalize hW : WC E none (CCode.loop c28l8) Q = W
    cases d with
    | true =>
      simp only [c28l8, c28o3, c28o4, hln, hkk, e1, e2, fa27_0, fa27_1, c28o5, e4', wpC, wpI, wpS, wpD, wpV, wanted_none, wanted_some, vals, cev_const, cev_var, cev_loc, padV, okV_some, againP, true_and, and_true, upd_zero, upd_succ, nth_zero, nth_succ, wpG_true, wpG_false, condK_true, condK_false, seqK_normal, seqK_ret, seqK_exit, inBlock_normal, inBlock_ret, inBlock_exit, ends_ret, ends_normal, unmark_nil, results_nil, results_cons, one_one, one_zero, one_two, isB_undef, isB_tt, isB_ff, Bool.not_true, Bool.not_false, Option.bind_some, pick3, pickA, extractA, List.getElem?_cons_zero, List.getElem?_cons_succ, bin_lss, bin_gtr, bin_leq, bin_geq, bin_eql, bin_neq, un_not]
      refine (drop_ok hE (b := b) (by omega) (hP.fitsR k) hPL.1 hll hd2 hr2 hu).mono ?_
      rintro r s3 ⟨us', O', h1, h2, h3, h4⟩
      simp only [c28o7, e3, hcast, wpC, wpI, wpS, wpD, wpV, wanted_none, wanted_some, vals, cev_const, cev_var, cev_loc, padV, okV_some, againP, true_and, and_true, upd_zero, upd_succ, nth_zero, nth_succ, wpG_true, wpG_false, condK_true, condK_false, seqK_normal, seqK_ret, seqK_exit, inBlock_normal, inBlock_ret, inBlock_exit, ends_ret, ends_normal, unmark_nil, results_nil, results_cons, one_one, one_zero, one_two, isB_undef, isB_tt, isB_ff, Bool.not_true, Bool.not_false, Option.bind_some, pick3, pickA, extractA, List.getElem?_cons_zero, List.getElem?_cons_succ, bin_lss, bin_gtr, bin_leq, bin_geq, bin_eql, bin_neq, un_not]
      rw [← hW]
      exact ih (k + 1) s3 r us' O' _ _ _ hdr' hlt (hold.trans (h4.mono (by omega))) h1 (fun j hj => (h3 j hj).elim (hO2 j) (fun h => by omega)) (by rw [learnT_succ hx]; exact h2) hend
    | false =>
      have b0 := bld_zero (P := Try.prog) (t := 22) Try.underlying22 sz23 zr23 rfl
      have b1 := bld_one (P := Try.prog) (t := 22) (v := u) Try.underlying22 sz23 zr23 rfl hu.isCell.2
      have hms : ∀ (m : Nat) (i : Nat), Made.val i (.slice m) = .slice (some (i, 0)) m (some m) := fun _ _ => rfl
      have d0 := dest_empty (s := s) (ty := 23)
      have f1 := hd2.new (mkRow 23 1 [])
      generalize hs1 : newObj s (mkRow 23 1 []) = s1 at d0 f1
      have n1 : s1.next = s.next + 1 := by rw [← hs1]; rfl
      have o1 : Old s.next s s1 := by rw [← hs1]; exact Old.new s _
      have d0 := d0.new (mkRow 23 1 [u])
      have f1 := f1.new (mkRow 23 1 [u])
      generalize hs2 : newObj s1 (mkRow 23 1 [u]) = s2 at d0 f1
      have n2 : s2.next = s.next + 2 := by rw [← hs2]; show s1.next + 1 = _; omega
      have o2 : Old s.next s s2 := o1.trans (by rw [← hs2]; exact (Old.new s1 _).mono (by omega))
      have hrow : s2.heap.get s1.next = some (mkRow 23 1 [u]) := by rw [← hs2, heap_new, if_pos rfl]
      obtain ⟨aw, capw, hwe, _⟩ := hd2.cells
      have sw := f1.src (P := Try.prog) (e := 23)
      rw [hwe] at sw
      obtain ⟨va, s3, Oa, a1, a2, a3, a4, a5, a6, a7⟩ := d0.append (P := Try.prog) (st := 22) (xt := 22) Try.underlying22 sz23 by23 (by decide) (strx 22 23 Try.underlying22) zero23 sw (by omega) hr2.cells (by omega) (by omega)
      rw [← hwe] at a1
      have Oa_new : ∀ j ∈ Oa, s2.next ≤ j := fun j hj => (a6 j hj).elim (fun h => by cases h) id
      have c1 := src_one (P := Try.prog) (e := 23) (s := s3) (i := s1.next) (n := 1) (cap := some 1) (sz := 1) 23 1 (by rw [a5 _ (by omega) (by simp)]; exact hrow) rfl
      obtain ⟨vc, s5, Oc, k1, k2, k3, k4, k5, k6, k7⟩ := a2.append (P := Try.prog) (st := 22) (xt := 22) Try.underlying22 sz23 by23 (by decide) (strx 22 23 Try.underlying22) zero23 c1 rfl (by simp [allCells, hu.isCell.1]) (by omega) (by omega)
      have o3 : Old s.next s s3 := o2.trans ⟨a3, fun x hx => a5 x (by omega) (by simp)⟩
      have o5 : Old s.next s s5 := o3.trans ⟨k3, fun x hx => k5 x (by omega) (fun h => by have := Oa_new x h; omega)⟩
      rw [n1] at k1
      simp only [c28l8, c28o3, c28o4, hln, hkk, e1, e2, fa27_0, fa27_1, c28o6, b0, hs1, e4 s1 (fun x hx => o1.2 x (by omega)), b1, hs2, hms, a1, again_r1, sameA_some, e4 s3 (fun x hx => o3.2 x (by omega)), hu.self, n1, k1, c28o7, e3, hcast, wpC, wpI, wpS, wpD, wpV, wanted_none, wanted_some, vals, cev_const, cev_var, cev_loc, padV, okV_some, againP, true_and, and_true, upd_zero, upd_succ, nth_zero, nth_succ, wpG_true, wpG_false, condK_true, condK_false, seqK_normal, seqK_ret, seqK_exit, inBlock_normal, inBlock_ret, inBlock_exit, ends_ret, ends_normal, unmark_nil, results_nil, results_cons, one_one, one_zero, one_two, isB_undef, isB_tt, isB_ff, Bool.not_true, Bool.not_false, Option.bind_some, pick3, pickA, extractA, List.getElem?_cons_zero, List.getElem?_cons_succ, bin_lss, bin_gtr, bin_leq, bin_geq, bin_eql, bin_neq, un_not]
      rw [← hW]
      refine ih (k + 1) s5 vc (us2 ++ [u]) Oc _ _ _ hdr' hlt (hold.trans (o5.mono hns)) (by simpa using k2) (fun j hj => ?_) ?_ hend
      · rcases k6 j hj with h | h
        · have := Oa_new j h; omega
        · omega
      · rw [learnT_succ hx]
        exact (hr2.old (o5.mono (by omega))).append (RowCells.one (hu.old (o5.mono (by omega)) (Nat.le_refl _)))

/-- Left, of the reference. -/
theorem rleft_ok {E : Env} (hE : Good E) {s : ASt} {b : Nat} {v tr : AV} {us : List AV} {O : List Nat} {cs : List (List Int)} {T : Trace20} (hb : b ≤ s.next) (hd : Dest s v us.length 1 us O) (hr : RowCells b s us cs) (hcl : cs.length ≤ 100)
    (hT : TraceAt b s tr T) (hP : PlainT T) :
    WF E 28 [v, tr] (fun r s' => RowsOf s'.next s' r (cs ++ learnT T) ∧ Old s.next s s') s := by
  refine hE.go comp28 (by decide) rfl ?_
  simp only [c28, c28o0, c28o1, c28o2, wpC, wpI, wpS, wpD, wpV, wanted_none, wanted_some, vals, cev_const, cev_var, cev_loc, padV, okV_some, againP, true_and, and_true, upd_zero, upd_succ, nth_zero, nth_succ, wpG_true, wpG_false, condK_true, condK_false, seqK_normal, seqK_ret, seqK_exit, inBlock_normal, inBlock_ret, inBlock_exit, ends_ret, ends_normal, unmark_nil, results_nil, results_cons, one_one, one_zero, one_two, isB_undef, isB_tt, isB_ff, Bool.not_true, Bool.not_false, Option.bind_some, pick3, pickA, extractA, List.getElem?_cons_zero, List.getElem?_cons_succ, bin_lss, bin_gtr, bin_leq, bin_geq, bin_eql, bin_neq, un_not]
  refine rleft_loop hE hb hT hP T 0 s (.slice none 0 (some 0)) [] [] _ _ _ rfl (Nat.zero_le _) (Old.refl _ _) (Dest.nil s 1) (fun j hj => by cases hj) (RowCells.nil _ _) ?_
  intro s' w' us' O' y2 y4 y5 y6 ho hd' hr'
  have hv' : Dest s' v us.length 1 us O := hd.frame ho.1 fun j hj => ho.2 j (hd.slot_lt j hj)
  have hl := (hP.learn T.length).2
  rw [List.take_length] at hl
  have hrv : RowCells b s' us cs := hr.old (ho.mono hb)
  have hn := ho.1
  simp only [if_true, c28o9, wpC, wpI, wpS, wpD, wpV, wanted_none, wanted_some, vals, cev_const, cev_var, cev_loc, padV, okV_some, againP, true_and, and_true, upd_zero, upd_succ, nth_zero, nth_succ, wpG_true, wpG_false, condK_true, condK_false, seqK_normal, seqK_ret, seqK_exit, inBlock_normal, inBlock_ret, inBlock_exit, ends_ret, ends_normal, unmark_nil, results_nil, results_cons, one_one, one_zero, one_two, isB_undef, isB_tt, isB_ff, Bool.not_true, Bool.not_false, Option.bind_some, pick3, pickA, extractA, List.getElem?_cons_zero, List.getElem?_cons_succ, bin_lss, bin_gtr, bin_leq, bin_geq, bin_eql, bin_neq, un_not]
  refine (all_ok hE hv' hd' (by rw [hr.1]; omega) (by rw [hr'.1]; omega) hrv.cells hr'.cells).mono ?_
  rintro r s2 ⟨Oq, h1, h2, h3⟩
  simp only [wpC, wpI, wpS, wpD, wpV, wanted_none, wanted_some, vals, cev_const, cev_var, cev_loc, padV, okV_some, againP, true_and, and_true, upd_zero, upd_succ, nth_zero, nth_succ, wpG_true, wpG_false, condK_true, condK_false, seqK_normal, seqK_ret, seqK_exit, inBlock_normal, inBlock_ret, inBlock_exit, ends_ret, ends_normal, unmark_nil, results_nil, results_cons, one_one, one_zero, one_two, isB_undef, isB_tt, isB_ff, Bool.not_true, Bool.not_false, Option.bind_some, pick3, pickA, extractA, List.getElem?_cons_zero, List.getElem?_cons_succ, bin_lss, bin_gtr, bin_leq, bin_geq, bin_eql, bin_neq, un_not]
  exact ⟨mkRows h1.slice ((hrv.append hr').old (h3.mono (by omega))) (by have := h3.1; omega), ho.trans (h3.mono (by omega))⟩
end Go.Proofs.Ytilhhmkdcoajnaa.Am

/- What the law's functions holds and models of layer 20 compute; conditions: literals of six variables. -/
set_option linter.unusedVariables false
set_option linter.unusedSimpArgs false
namespace Go.Proofs.Ytilhhmkdcoajnaa.Am
open Go Go.Proofs

def bitV (b n : Nat) : Bool := decide (b / 2 ^ n % 2 = 1)
def isIv (x : Option AV) (q : Nat) : Bool := match x with
  | some (.int .i64 (.ofNat m)) => Nat.beq m q
  | _ => false
theorem isIv_eq {x : Option AV} {q : Nat} (h : isIv x q = true) : x = some (iv (q : Int)) := by
  unfold isIv at h
  split at h
  · rw [Nat.eq_of_beq_eq_true h]; rfl
  · cases h
theorem shr_all : ((List.range 64).all fun b => (List.range 6).all fun n => isIv (binA Try.prog .shr 3 (.int .i64 (.ofNat b)) (.int .i64 (.ofNat n))) (b / 2 ^ n)) = true := by kernel_rfl
theorem and_all : ((List.range 64).all fun b => isIv (binA Try.prog .and 3 (.int .i64 (.ofNat b)) (.int .i64 (.ofNat 1))) (b % 2)) = true := by kernel_rfl
theorem bin_shr {b n : Nat} (hb : b < 64) (hn : n < 6) : binA Try.prog .shr 3 (iv (b : Int)) (iv (n : Int)) = some (iv ((b / 2 ^ n : Nat) : Int)) :=
  isIv_eq (List.all_eq_true.1 (List.all_eq_true.1 shr_all b (List.mem_range.2 hb)) n (List.mem_range.2 hn))
theorem bin_and {b : Nat} (hb : b < 64) : binA Try.prog .and 3 (iv (b : Int)) (iv 1) = some (iv ((b % 2 : Nat) : Int)) :=
  isIv_eq (List.all_eq_true.1 and_all b (List.mem_range.2 hb))

/-- Of six variables. -/
def Six (L : List Int) : Prop := ∀ x ∈ L, -6 ≤ x ∧ x ≤ 6
def litV6 (b : Nat) (x : Int) : Bool := if 0 < x then bitV b (x - 1).toNat else if x < 0 then !bitV b (-x - 1).toNat else false
def holdsV (b : Nat) (c : List Int) : Bool := c.any (litV6 b)
def modelsV (cs : List (List Int)) : Nat := ((List.range 64).filter fun b => cs.all (holdsV b)).length

set_option maxRecDepth 16000 in
theorem lit_step {E : Env} {s : ASt} {b : Nat} (hb : b < 64) {x : Int} (hx : -6 ≤ x ∧ x ≤ 6) (v1 v2 v3 v5 v6 : AV) {K : List AV → ASt → Prop} (hK : K [iv (b : Int), v1, v2, v3, iv x, v5, .bool (litV6 b x)] s) :
    wpI E c62o4 K [] [iv (b : Int), v1, v2, v3, iv x, v5, v6] s := by
  unfold litV6 at hK
  by_cases hp : 0 < x
  · have e0 : decide ((0 : Int) < x) = true := decide_eq_true hp
    have hn : (x - 1).toNat < 6 := by omega
    have hc : x - 1 = (((x - 1).toNat : Nat) : Int) := by omega
    have e1 := bin_sub Try.prog 3 x 1 ⟨by omega, by omega⟩
    generalize (x - 1).toNat = n at hn hc hK
    rw [hc] at e1
    have e2 := bin_shr hb hn
    have hq : b / 2 ^ n < 64 := Nat.lt_of_le_of_lt (Nat.div_le_self _ _) hb
    have e3 := bin_and hq
    rw [if_pos hp] at hK
    unfold bitV at hK
    have hd : decide (((b / 2 ^ n % 2 : Nat) : Int) = 1) = decide (b / 2 ^ n % 2 = 1) := by
      exact decide_eq_decide.2 (by omega)
    cases hbit : decide (b / 2 ^ n % 2 = 1) with
    | true =>
      rw [hbit] at hK hd
      simp only [c62o4, e0, e1, e2, e3, hd, beq_self_eq_true, Bool.true_beq, Bool.false_beq, wpC, wpI, wpS, wpD, wpV, wanted_none, wanted_some, vals, cev_const, cev_var, cev_loc, padV, okV_some, againP, true_and, and_true, upd_zero, upd_succ, nth_zero, nth_succ, wpG_true, wpG_false, condK_true, condK_false, seqK_normal, seqK_ret, seqK_exit, inBlock_normal, inBlock_ret, inBlock_exit, ends_ret, ends_normal, unmark_nil, results_nil, results_cons, one_one, one_zero, one_two, isB_undef, isB_tt, isB_ff, Bool.not_true, Bool.not_false, Option.bind_some, pick3, pickA, extractA, List.getElem?_cons_zero, List.getElem?_cons_succ, bin_lss, bin_gtr, bin_leq, bin_geq, bin_eql, bin_neq, un_not]
      exact hK
    | false =>
      rw [hbit] at hK hd
      have e5 : decide (x < 0) = false := decide_eq_false (by omega)
      simp only [c62o4, e0, e1, e2, e3, e5, hd, beq_self_eq_true, Bool.true_beq, Bool.false_beq, wpC, wpI, wpS, wpD, wpV, wanted_none, wanted_some, vals, cev_const, cev_var, cev_loc, padV, okV_some, againP, true_and, and_true, upd_zero, upd_succ, nth_zero, nth_succ, wpG_true, wpG_false, condK_true, condK_false, seqK_normal, seqK_ret, seqK_exit, inBlock_normal, inBlock_ret, inBlock_exit, ends_ret, ends_normal, unmark_nil, results_nil, results_cons, one_one, one_zero, one_two, isB_undef, isB_tt, isB_ff, Bool.not_true, Bool.not_false, Option.bind_some, pick3, pickA, extractA, List.getElem?_cons_zero, List.getElem?_cons_succ, bin_lss, bin_gtr, bin_leq, bin_geq, bin_eql, bin_neq, un_not]
      exact hK
  · have e0 : decide ((0 : Int) < x) = false := decide_eq_false hp
    rw [if_neg hp] at hK
    by_cases hm : x < 0
    · have e5 : decide (x < 0) = true := decide_eq_true hm
      rw [if_pos hm] at hK
      have hn : (-x - 1).toNat < 6 := by omega
      have hc : -x - 1 = (((-x - 1).toNat : Nat) : Int) := by omega
      have eN := un_neg Try.prog x ⟨by omega, by omega⟩
      have e1 := bin_sub Try.prog 3 (-x) 1 ⟨by omega, by omega⟩
      generalize (-x - 1).toNat = n at hn hc hK
      rw [hc] at e1
      have e2 := bin_shr hb hn
      have hq : b / 2 ^ n < 64 := Nat.lt_of_le_of_lt (Nat.div_le_self _ _) hb
      have e3 := bin_and hq
      unfold bitV at hK
      have hd : decide (((b / 2 ^ n % 2 : Nat) : Int) = 0) = !decide (b / 2 ^ n % 2 = 1) := by
        rw [← decide_not]
        exact decide_eq_decide.2 (by omega)
      simp only [c62o4, e0, e5, eN, e1, e2, e3, hd, beq_self_eq_true, Bool.true_beq, Bool.false_beq, wpC, wpI, wpS, wpD, wpV, wanted_none, wanted_some, vals, cev_const, cev_var, cev_loc, padV, okV_some, againP, true_and, and_true, upd_zero, upd_succ, nth_zero, nth_succ, wpG_true, wpG_false, condK_true, condK_false, seqK_normal, seqK_ret, seqK_exit, inBlock_normal, inBlock_ret, inBlock_exit, ends_ret, ends_normal, unmark_nil, results_nil, results_cons, one_one, one_zero, one_two, isB_undef, isB_tt, isB_ff, Bool.not_true, Bool.not_false, Option.bind_some, pick3, pickA, extractA, List.getElem?_cons_zero, List.getElem?_cons_succ, bin_lss, bin_gtr, bin_leq, bin_geq, bin_eql, bin_neq, un_not]
      exact hK
    · have e5 : decide (x < 0) = false := decide_eq_false hm
      rw [if_neg hm] at hK
      simp only [c62o4, e0, e5, beq_self_eq_true, Bool.true_beq, Bool.false_beq, wpC, wpI, wpS, wpD, wpV, wanted_none, wanted_some, vals, cev_const, cev_var, cev_loc, padV, okV_some, againP, true_and, and_true, upd_zero, upd_succ, nth_zero, nth_succ, wpG_true, wpG_false, condK_true, condK_false, seqK_normal, seqK_ret, seqK_exit, inBlock_normal, inBlock_ret, inBlock_exit, ends_ret, ends_normal, unmark_nil, results_nil, results_cons, one_one, one_zero, one_two, isB_undef, isB_tt, isB_ff, Bool.not_true, Bool.not_false, Option.bind_some, pick3, pickA, extractA, List.getElem?_cons_zero, List.getElem?_cons_succ, bin_lss, bin_gtr, bin_leq, bin_geq, bin_eql, bin_neq, un_not]
      exact hK

set_option maxRecDepth 16000 in
theorem holds_loop {E : Env} (hE : Good E) {s : ASt} {b c : Nat} (hb : b < 64) {L : List Int} (hL : Six L) (hlen : L.length ≤ 1000000) {a : Option (Nat × Nat)} {cap : Option Nat} (hc : CellsAt c s a (ivs L)) {Q : ARes → Prop} :
    ∀ (l : List Int) (k : Nat) (x2 x4 x5 x6 : AV), L.drop k = l → k ≤ L.length →
      (∀ (e : AExit) (y2 y3 y4 y5 y6 : AV), (e = .ret ∧ holdsV b l = true ∧ y2 = .bool true ∨ e = .exit 0 ∧ holdsV b l = false) → Q ⟨e, [iv (b : Int), .slice a L.length cap, y2, y3, y4, y5, y6], [], s⟩) →
      WC E none (.loop c62l7) Q [iv (b : Int), .slice a L.length cap, x2, iv (k : Int), x4, x5, x6] [] s := by
  intro l
  induction l with
  | nil =>
    intro k x2 x4 x5 x6 hd hk hq
    have := drop_end hd hk
    subst this
    refine WC.loop' ?_
    simp only [c62l7, c62o2, len_slice Try.underlying23, Int.lt_irrefl, decide_false, wpC, wpI, wpS, wpD, wpV, wanted_none, wanted_some, vals, cev_const, cev_var, cev_loc, padV, okV_some, againP, true_and, and_true, upd_zero, upd_succ, nth_zero, nth_succ, wpG_true, wpG_false, condK_true, condK_false, seqK_normal, seqK_ret, seqK_exit, inBlock_normal, inBlock_ret, inBlock_exit, ends_ret, ends_normal, unmark_nil, results_nil, results_cons, one_one, one_zero, one_two, isB_undef, isB_tt, isB_ff, Bool.not_true, Bool.not_false, Option.bind_some, pick3, pickA, extractA, List.getElem?_cons_zero, List.getElem?_cons_succ, bin_lss, bin_gtr, bin_leq, bin_geq, bin_eql, bin_neq, un_not]
    exact hq _ _ _ _ _ _ (.inr ⟨rfl, rfl⟩)
  | cons x l ih =>
    intro k x2 x4 x5 x6 hd hk hq
    obtain ⟨hlt, hx, hd'⟩ := drop_facts hd
    obtain ⟨i, o, rfl, hi, hload⟩ := hc k _ (get_ivs hx)
    have e1 := idx_slice (cap := cap) (i := i) (o := o) Try.underlying23 sz3 hlt
    have e2 : loadV Try.prog s 3 (.ptr (some (i, o + k * 1))) = some (iv x) := load_one ag3 (by rw [Nat.mul_one]; exact hload)
    have hkk : decide ((k : Int) < (L.length : Int)) = true := decide_eq_true (by omega)
    have e3 := bin_add Try.prog 3 (k : Int) 1 ⟨by omega, by omega⟩
    have hcast : ((k : Int) + 1) = ((k + 1 : Nat) : Int) := by omega
    refine WC.loop' ?_
    generalize hW : WC E none (CCode.loop c62l7) Q = W
    simp only [c62l7, c62o2, c62o3, len_slice Try.underlying23, hkk, e1, e2, wpC, wpI, wpS, wpD, wpV, wanted_none, wanted_some, vals, cev_const, cev_var, cev_loc, padV, okV_some, againP, true_and, and_true, upd_zero, upd_succ, nth_zero, nth_succ, wpG_true, wpG_false, condK_true, condK_false, seqK_normal, seqK_ret, seqK_exit, inBlock_normal, inBlock_ret, inBlock_exit, ends_ret, ends_normal, unmark_nil, results_nil, results_cons, one_one, one_zero, one_two, isB_undef, isB_tt, isB_ff, Bool.not_true, Bool.not_false, Option.bind_some, pick3, pickA, extractA, List.getElem?_cons_zero, List.getElem?_cons_succ, bin_lss, bin_gtr, bin_leq, bin_geq, bin_eql, bin_neq, un_not]
    refine lit_step hb (hL x (List.mem_of_getElem? hx)) _ _ _ _ _ ?_
    cases hl : litV6 b x with
    | true =>
      have hh : holdsV b (x :: l) = true := by simp [holdsV, hl]
      simp only [c62o5, wpC, wpI, wpS, wpD, wpV, wanted_none, wanted_some, vals, cev_const, cev_var, cev_loc, padV, okV_some, againP, true_and, and_true, upd_zero, upd_succ, nth_zero, nth_succ, wpG_true, wpG_false, condK_true, condK_false, seqK_normal, seqK_ret, seqK_exit, inBlock_normal, inBlock_ret, inBlock_exit, ends_ret, ends_normal, unmark_nil, results_nil, results_cons, one_one, one_zero, one_two, isB_undef, isB_tt, isB_ff, Bool.not_true, Bool.not_false, Option.bind_some, pick3, pickA, extractA, List.getElem?_cons_zero, List.getElem?_cons_succ, bin_lss, bin_gtr, bin_leq, bin_geq, bin_eql, bin_neq, un_not]
      exact hq _ _ _ _ _ _ (.inl ⟨rfl, hh, rfl⟩)
    | false =>
      have hh : holdsV b (x :: l) = holdsV b l := by simp [holdsV, hl]
      rw [hh] at hq
      simp only [c62o6, e3, hcast, wpC, wpI, wpS, wpD, wpV, wanted_none, wanted_some, vals, cev_const, cev_var, cev_loc, padV, okV_some, againP, true_and, and_true, upd_zero, upd_succ, nth_zero, nth_succ, wpG_true, wpG_false, condK_true, condK_false, seqK_normal, seqK_ret, seqK_exit, inBlock_normal, inBlock_ret, inBlock_exit, ends_ret, ends_normal, unmark_nil, results_nil, results_cons, one_one, one_zero, one_two, isB_undef, isB_tt, isB_ff, Bool.not_true, Bool.not_false, Option.bind_some, pick3, pickA, extractA, List.getElem?_cons_zero, List.getElem?_cons_succ, bin_lss, bin_gtr, bin_leq, bin_geq, bin_eql, bin_neq, un_not]
      rw [← hW]
      exact ih (k + 1) _ _ _ _ hd' hlt hq

theorem holds_ok {E : Env} (hE : Good E) {s : ASt} {b c : Nat} (hb : b < 64) {L : List Int} (hL : Six L) (hlen : L.length ≤ 1000000) {u : AV} (hu : SliceAt c s u (ivs L)) :
    WF E 62 [iv (b : Int), u] (fun r s' => r = .bool (holdsV b L) ∧ s = s') s := by
  obtain ⟨a, cap, rfl, hc⟩ := hu
  rw [ivs_len]
  refine hE.go comp62 (by decide) rfl ?_
  simp only [c62, c62o0, c62o1, wpC, wpI, wpS, wpD, wpV, wanted_none, wanted_some, vals, cev_const, cev_var, cev_loc, padV, okV_some, againP, true_and, and_true, upd_zero, upd_succ, nth_zero, nth_succ, wpG_true, wpG_false, condK_true, condK_false, seqK_normal, seqK_ret, seqK_exit, inBlock_normal, inBlock_ret, inBlock_exit, ends_ret, ends_normal, unmark_nil, results_nil, results_cons, one_one, one_zero, one_two, isB_undef, isB_tt, isB_ff, Bool.not_true, Bool.not_false, Option.bind_some, pick3, pickA, extractA, List.getElem?_cons_zero, List.getElem?_cons_succ, bin_lss, bin_gtr, bin_leq, bin_geq, bin_eql, bin_neq, un_not]
  refine holds_loop hE hb hL hlen hc L 0 _ _ _ _ rfl (Nat.zero_le _) ?_
  rintro e y2 y3 y4 y5 y6 (⟨rfl, h, rfl⟩ | ⟨rfl, h⟩)
  · simp only [h, wpC, wpI, wpS, wpD, wpV, wanted_none, wanted_some, vals, cev_const, cev_var, cev_loc, padV, okV_some, againP, true_and, and_true, upd_zero, upd_succ, nth_zero, nth_succ, wpG_true, wpG_false, condK_true, condK_false, seqK_normal, seqK_ret, seqK_exit, inBlock_normal, inBlock_ret, inBlock_exit, ends_ret, ends_normal, unmark_nil, results_nil, results_cons, one_one, one_zero, one_two, isB_undef, isB_tt, isB_ff, Bool.not_true, Bool.not_false, Option.bind_some, pick3, pickA, extractA, List.getElem?_cons_zero, List.getElem?_cons_succ, bin_lss, bin_gtr, bin_leq, bin_geq, bin_eql, bin_neq, un_not]
  · simp only [h, if_true, c62o8, wpC, wpI, wpS, wpD, wpV, wanted_none, wanted_some, vals, cev_const, cev_var, cev_loc, padV, okV_some, againP, true_and, and_true, upd_zero, upd_succ, nth_zero, nth_succ, wpG_true, wpG_false, condK_true, condK_false, seqK_normal, seqK_ret, seqK_exit, inBlock_normal, inBlock_ret, inBlock_exit, ends_ret, ends_normal, unmark_nil, results_nil, results_cons, one_one, one_zero, one_two, isB_undef, isB_tt, isB_ff, Bool.not_true, Bool.not_false, Option.bind_some, pick3, pickA, extractA, List.getElem?_cons_zero, List.getElem?_cons_succ, bin_lss, bin_gtr, bin_leq, bin_geq, bin_eql, bin_neq, un_not]

set_option maxRecDepth 16000 in
theorem models_in {E : Env} (hE : Good E) {s : ASt} {b c : Nat} (hb : b < 64) {cs : List (List Int)} (hcs : ∀ L ∈ cs, Six L ∧ L.length ≤ 1000000) (hlen : cs.length ≤ 1000000) {a : Option (Nat × Nat)} {cap : Option Nat} (hr : RowsAt c s a cs) (v1 v2 v6 v8 : AV) {Q : ARes → Prop} :
    ∀ (l : List (List Int)) (k : Nat) (is : Bool) (x7 : AV), cs.drop k = l → k ≤ cs.length →
      (∀ (y5 y7 : AV), Q ⟨.exit 2, [.slice a cs.length cap, v1, v2, iv (b : Int), .bool (is && l.all (holdsV b)), y5, v6, y7, v8], [], s⟩) →
      WC E none (.loop c30l9) Q [.slice a cs.length cap, v1, v2, iv (b : Int), .bool is, iv (k : Int), v6, x7, v8] [] s := by
  intro l
  induction l with
  | nil =>
    intro k is x7 hd hk hq
    have := drop_end hd hk
    subst this
    refine WC.loop' ?_
    simp only [c30l9, c30o6, len_slice Try.underlying22, Int.lt_irrefl, decide_false, wpC, wpI, wpS, wpD, wpV, wanted_none, wanted_some, vals, cev_const, cev_var, cev_loc, padV, okV_some, againP, true_and, and_true, upd_zero, upd_succ, nth_zero, nth_succ, wpG_true, wpG_false, condK_true, condK_false, seqK_normal, seqK_ret, seqK_exit, inBlock_normal, inBlock_ret, inBlock_exit, ends_ret, ends_normal, unmark_nil, results_nil, results_cons, one_one, one_zero, one_two, isB_undef, isB_tt, isB_ff, Bool.not_true, Bool.not_false, Option.bind_some, pick3, pickA, extractA, List.getElem?_cons_zero, List.getElem?_cons_succ, bin_lss, bin_gtr, bin_leq, bin_geq, bin_eql, bin_neq, un_not]
    have := hq (iv (cs.length : Int)) (.bool false)
    simp only [List.all_nil, Bool.and_true] at this
    exact this
  | cons L l ih =>
    intro k is x7 hd hk hq
    obtain ⟨hlt, hx, hd'⟩ := drop_facts hd
    obtain ⟨i, o, u, rfl, hi, hload, hu⟩ := hr k L hx
    have e1 := idx_slice (cap := cap) (i := i) (o := o) Try.underlying22 sz23 hlt
    have e2 : loadV Try.prog s 23 (.ptr (some (i, o + k * 1))) = some u := load_one ag23 (by rw [Nat.mul_one]; exact hload)
    have hkk : decide ((k : Int) < (cs.length : Int)) = true := decide_eq_true (by omega)
    have e3 := bin_add Try.prog 3 (k : Int) 1 ⟨by omega, by omega⟩
    have hcast : ((k : Int) + 1) = ((k + 1 : Nat) : Int) := by omega
    refine WC.loop' ?_
    generalize hW : WC E none (CCode.loop c30l9) Q = W
    cases is with
    | false =>
      simp only [c30l9, c30o6, c30o7, len_slice Try.underlying22, hkk, beq_self_eq_true, Bool.true_beq, Bool.false_beq, c30o8, e3, hcast, wpC, wpI, wpS, wpD, wpV, wanted_none, wanted_some, vals, cev_const, cev_var, cev_loc, padV, okV_some, againP, true_and, and_true, upd_zero, upd_succ, nth_zero, nth_succ, wpG_true, wpG_false, condK_true, condK_false, seqK_normal, seqK_ret, seqK_exit, inBlock_normal, inBlock_ret, inBlock_exit, ends_ret, ends_normal, unmark_nil, results_nil, results_cons, one_one, one_zero, one_two, isB_undef, isB_tt, isB_ff, Bool.not_true, Bool.not_false, Option.bind_some, pick3, pickA, extractA, List.getElem?_cons_zero, List.getElem?_cons_succ, bin_lss, bin_gtr, bin_leq, bin_geq, bin_eql, bin_neq, un_not]
      rw [← hW]
      refine ih (k + 1) false _ hd' hlt fun y5 y7 => ?_
      have := hq y5 y7
      simp only [Bool.false_and] at this ⊢
      exact this
    | true =>
      simp only [c30l9, c30o6, c30o7, len_slice Try.underlying22, hkk, e1, e2, beq_self_eq_true, Bool.true_beq, Bool.false_beq, wpC, wpI, wpS, wpD, wpV, wanted_none, wanted_some, vals, cev_const, cev_var, cev_loc, padV, okV_some, againP, true_and, and_true, upd_zero, upd_succ, nth_zero, nth_succ, wpG_true, wpG_false, condK_true, condK_false, seqK_normal, seqK_ret, seqK_exit, inBlock_normal, inBlock_ret, inBlock_exit, ends_ret, ends_normal, unmark_nil, results_nil, results_cons, one_one, one_zero, one_two, isB_undef, isB_tt, isB_ff, Bool.not_true, Bool.not_false, Option.bind_some, pick3, pickA, extractA, List.getElem?_cons_zero, List.getElem?_cons_succ, bin_lss, bin_gtr, bin_leq, bin_geq, bin_eql, bin_neq, un_not]
      obtain ⟨h6, h7⟩ := hcs L (List.mem_of_getElem? hx)
      refine (holds_ok hE hb h6 h7 hu).mono ?_
      rintro _ _ ⟨rfl, rfl⟩
      simp only [c30o8, e3, hcast, wpC, wpI, wpS, wpD, wpV, wanted_none, wanted_some, vals, cev_const, cev_var, cev_loc, padV, okV_some, againP, true_and, and_true, upd_zero, upd_succ, nth_zero, nth_succ, wpG_true, wpG_false, condK_true, condK_false, seqK_normal, seqK_ret, seqK_exit, inBlock_normal, inBlock_ret, inBlock_exit, ends_ret, ends_normal, unmark_nil, results_nil, results_cons, one_one, one_zero, one_two, isB_undef, isB_tt, isB_ff, Bool.not_true, Bool.not_false, Option.bind_some, pick3, pickA, extractA, List.getElem?_cons_zero, List.getElem?_cons_succ, bin_lss, bin_gtr, bin_leq, bin_geq, bin_eql, bin_neq, un_not]
      rw [← hW]
      refine ih (k + 1) _ _ hd' hlt fun y5 y7 => ?_
      have := hq y5 y7
      simp only [List.all_cons, Bool.true_and] at this ⊢
      exact this

set_option maxRecDepth 16000 in
theorem models_loop {E : Env} (hE : Good E) {s : ASt} {c : Nat} {cs : List (List Int)} (hcs : ∀ L ∈ cs, Six L ∧ L.length ≤ 1000000) (hlen : cs.length ≤ 1000000) {a : Option (Nat × Nat)} {cap : Option Nat} (hr : RowsAt c s a cs) (v1 : AV) {Q : ARes → Prop}
    (hq : ∀ y3 y4 y5 y6 y7 y8, Q ⟨.exit 0, [.slice a cs.length cap, v1, iv (modelsV cs : Int), y3, y4, y5, y6, y7, y8], [], s⟩) :
    ∀ (m k : Nat) (x4 x5 x6 x7 x8 : AV), k + m = 64 →
      WC E none (.loop c30l13) Q [.slice a cs.length cap, v1, iv ((((List.range k).filter fun b => cs.all (holdsV b)).length : Nat) : Int), iv (k : Int), x4, x5, x6, x7, x8] [] s := by
  intro m
  induction m with
  | zero =>
    intro k x4 x5 x6 x7 x8 hm
    have : k = 64 := by omega
    subst this
    have e0 : decide (((64 : Nat) : Int) < 64) = false := rfl
    refine WC.loop' ?_
    simp only [c30l13, c30o3, e0, wpC, wpI, wpS, wpD, wpV, wanted_none, wanted_some, vals, cev_const, cev_var, cev_loc, padV, okV_some, againP, true_and, and_true, upd_zero, upd_succ, nth_zero, nth_succ, wpG_true, wpG_false, condK_true, condK_false, seqK_normal, seqK_ret, seqK_exit, inBlock_normal, inBlock_ret, inBlock_exit, ends_ret, ends_normal, unmark_nil, results_nil, results_cons, one_one, one_zero, one_two, isB_undef, isB_tt, isB_ff, Bool.not_true, Bool.not_false, Option.bind_some, pick3, pickA, extractA, List.getElem?_cons_zero, List.getElem?_cons_succ, bin_lss, bin_gtr, bin_leq, bin_geq, bin_eql, bin_neq, un_not]
    exact hq _ _ _ _ _ _
  | succ m ih =>
    intro k x4 x5 x6 x7 x8 hm
    have e0 : decide ((k : Int) < 64) = true := decide_eq_true (by omega)
    have e3 := bin_add Try.prog 3 (k : Int) 1 ⟨by omega, by omega⟩
    have hcast : ((k : Int) + 1) = ((k + 1 : Nat) : Int) := by omega
    have hfl : ((List.range k).filter fun b => cs.all (holdsV b)).length ≤ k := by
      have := List.length_filter_le (fun b => cs.all (holdsV b)) (List.range k)
      simpa using this
    have hsucc : ((List.range (k + 1)).filter fun b => cs.all (holdsV b)).length = ((List.range k).filter fun b => cs.all (holdsV b)).length + (if cs.all (holdsV k) = true then 1 else 0) := by
      rw [List.range_succ, List.filter_append, List.length_append]
      congr 1
      cases h : cs.all (holdsV k) <;> simp [List.filter, h]
    have ih' := ih (k + 1)
    rw [hsucc] at ih'
    generalize ((List.range k).filter fun b => cs.all (holdsV b)).length = n at hfl ih' ⊢
    have e4 := bin_add Try.prog 3 (n : Int) 1 ⟨by omega, by omega⟩
    have hcast4 : ((n : Int) + 1) = ((n + 1 : Nat) : Int) := by omega
    refine WC.loop' ?_
    generalize hW : WC E none (CCode.loop c30l13) Q = W at ih' ⊢
    simp only [c30l13, c30o3, c30o4, c30o5, e0, wpC, wpI, wpS, wpD, wpV, wanted_none, wanted_some, vals, cev_const, cev_var, cev_loc, padV, okV_some, againP, true_and, and_true, upd_zero, upd_succ, nth_zero, nth_succ, wpG_true, wpG_false, condK_true, condK_false, seqK_normal, seqK_ret, seqK_exit, inBlock_normal, inBlock_ret, inBlock_exit, ends_ret, ends_normal, unmark_nil, results_nil, results_cons, one_one, one_zero, one_two, isB_undef, isB_tt, isB_ff, Bool.not_true, Bool.not_false, Option.bind_some, pick3, pickA, extractA, List.getElem?_cons_zero, List.getElem?_cons_succ, bin_lss, bin_gtr, bin_leq, bin_geq, bin_eql, bin_neq, un_not]
    refine models_in hE (by omega) hcs hlen hr _ _ _ _ cs 0 true _ rfl (Nat.zero_le _) ?_
    intro y5 y7
    simp only [Bool.true_and, if_true, c30o10, wpC, wpI, wpS, wpD, wpV, wanted_none, wanted_some, vals, cev_const, cev_var, cev_loc, padV, okV_some, againP, true_and, and_true, upd_zero, upd_succ, nth_zero, nth_succ, wpG_true, wpG_false, condK_true, condK_false, seqK_normal, seqK_ret, seqK_exit, inBlock_normal, inBlock_ret, inBlock_exit, ends_ret, ends_normal, unmark_nil, results_nil, results_cons, one_one, one_zero, one_two, isB_undef, isB_tt, isB_ff, Bool.not_true, Bool.not_false, Option.bind_some, pick3, pickA, extractA, List.getElem?_cons_zero, List.getElem?_cons_succ, bin_lss, bin_gtr, bin_leq, bin_geq, bin_eql, bin_neq, un_not]
    cases h : cs.all (holdsV k) with
    | true =>
      rw [h] at ih'
      simp only [c30o11, c30o12, e3, hcast, e4, hcast4, wpC, wpI, wpS, wpD, wpV, wanted_none, wanted_some, vals, cev_const, cev_var, cev_loc, padV, okV_some, againP, true_and, and_true, upd_zero, upd_succ, nth_zero, nth_succ, wpG_true, wpG_false, condK_true, condK_false, seqK_normal, seqK_ret, seqK_exit, inBlock_normal, inBlock_ret, inBlock_exit, ends_ret, ends_normal, unmark_nil, results_nil, results_cons, one_one, one_zero, one_two, isB_undef, isB_tt, isB_ff, Bool.not_true, Bool.not_false, Option.bind_some, pick3, pickA, extractA, List.getElem?_cons_zero, List.getElem?_cons_succ, bin_lss, bin_gtr, bin_leq, bin_geq, bin_eql, bin_neq, un_not]
      exact ih' _ _ _ _ _ (by omega)
    | false =>
      rw [h] at ih'
      simp only [c30o12, e3, hcast, wpC, wpI, wpS, wpD, wpV, wanted_none, wanted_some, vals, cev_const, cev_var, cev_loc, padV, okV_some, againP, true_and, and_true, upd_zero, upd_succ, nth_zero, nth_succ, wpG_true, wpG_false, condK_true, condK_false, seqK_normal, seqK_ret, seqK_exit, inBlock_normal, inBlock_ret, inBlock_exit, ends_ret, ends_normal, unmark_nil, results_nil, results_cons, one_one, one_zero, one_two, isB_undef, isB_tt, isB_ff, Bool.not_true, Bool.not_false, Option.bind_some, pick3, pickA, extractA, List.getElem?_cons_zero, List.getElem?_cons_succ, bin_lss, bin_gtr, bin_leq, bin_geq, bin_eql, bin_neq, un_not]
      exact ih' _ _ _ _ _ (by omega)

theorem models_ok {E : Env} (hE : Good E) {s : ASt} {c : Nat} {cs : List (List Int)} (hcs : ∀ L ∈ cs, Six L ∧ L.length ≤ 1000000) (hlen : cs.length ≤ 1000000) {v : AV} (hr : RowsOf c s v cs) :
    WF E 30 [v] (fun r s' => r = iv (modelsV cs : Int) ∧ s = s') s := by
  obtain ⟨a, cap, rfl, hr⟩ := hr
  refine hE.go comp30 (by decide) rfl ?_
  simp only [c30, c30o0, c30o1, c30o2, wpC, wpI, wpS, wpD, wpV, wanted_none, wanted_some, vals, cev_const, cev_var, cev_loc, padV, okV_some, againP, true_and, and_true, upd_zero, upd_succ, nth_zero, nth_succ, wpG_true, wpG_false, condK_true, condK_false, seqK_normal, seqK_ret, seqK_exit, inBlock_normal, inBlock_ret, inBlock_exit, ends_ret, ends_normal, unmark_nil, results_nil, results_cons, one_one, one_zero, one_two, isB_undef, isB_tt, isB_ff, Bool.not_true, Bool.not_false, Option.bind_some, pick3, pickA, extractA, List.getElem?_cons_zero, List.getElem?_cons_succ, bin_lss, bin_gtr, bin_leq, bin_geq, bin_eql, bin_neq, un_not]
  refine models_loop hE hcs hlen hr _ (fun y3 y4 y5 y6 y7 y8 => ?_) 64 0 _ _ _ _ _ rfl
  simp only [if_true, c30o14, wpC, wpI, wpS, wpD, wpV, wanted_none, wanted_some, vals, cev_const, cev_var, cev_loc, padV, okV_some, againP, true_and, and_true, upd_zero, upd_succ, nth_zero, nth_succ, wpG_true, wpG_false, condK_true, condK_false, seqK_normal, seqK_ret, seqK_exit, inBlock_normal, inBlock_ret, inBlock_exit, ends_ret, ends_normal, unmark_nil, results_nil, results_cons, one_one, one_zero, one_two, isB_undef, isB_tt, isB_ff, Bool.not_true, Bool.not_false, Option.bind_some, pick3, pickA, extractA, List.getElem?_cons_zero, List.getElem?_cons_succ, bin_lss, bin_gtr, bin_leq, bin_geq, bin_eql, bin_neq, un_not]
end Go.Proofs.Ytilhhmkdcoajnaa.Am

/- What the program's Check of a trace computes, all of it; conditions: short plain clauses, few lines. -/
set_option linter.unusedVariables false
set_option linter.unusedSimpArgs false
namespace Go.Proofs.Ytilhhmkdcoajnaa.Am
open Go Go.Proofs

set_option maxRecDepth 16000 in
theorem check_last {E : Env} (hE : Good E) {sa s0 : ASt} {n0 b : Nat} {v tr : AV} {cs : List (List Int)} {T : Trace20} (hn0 : sa.next = n0) (hb : b ≤ n0)
    (hT : TraceAt b sa tr T) {fol : List (List Int) → List Int → Bool} (h0 : Old n0 sa s0) (hmem : Mem24 v tr n0 s0) {R : Nat × Bool} {s : ASt} {w : AV} {K : AV → ASt → Prop} (hat : AtState b (n0 + 6) s0 s T T.length w) (hli : Li24 fol cs T v tr n0 R T.length s)
    (hend : ∀ c s', Fin24 v tr n0 sa R T.length s' → K (.bool c) s') : WR E (n0 + 6) [iv (T.length : Int), w] K s := by
  obtain ⟨hR, x6, x7, x9, x10, x11, x12, x13, hlp⟩ := hli
  have hz : zipParams (varsIn E.P 24) (vars24s v tr n0 x6 x7 x9 x10 x11 x12 x13) [10, 11] [iv (T.length : Int), w] = some (vars24s v tr n0 x6 x7 (iv (T.length : Int)) w x11 x12 x13) := by
    rw [hE.P, vars24]; rfl
  refine WR.round hlp hz (by rw [hE.P]; exact ca24) (by rw [hE.P]; exact cb24) ?_
  refine wpC_run ?_
  simp only [c24a, c24o2, c24o3, vars24s, wpC, wpI, wpS, wpD, wpV, wanted_none, wanted_some, vals, cev_const, cev_var, cev_loc, padV, okV_some, againP, true_and, and_true, upd_zero, upd_succ, nth_zero, nth_succ, wpG_true, wpG_false, condK_true, condK_false, seqK_normal, seqK_ret, seqK_exit, inBlock_normal, inBlock_ret, inBlock_exit, ends_ret, ends_normal, unmark_nil, results_nil, results_cons, one_one, one_zero, one_two, isB_undef, isB_tt, isB_ff, Bool.not_true, Bool.not_false, Option.bind_some, pick3, pickA, extractA, List.getElem?_cons_zero, List.getElem?_cons_succ, bin_lss, bin_gtr, bin_leq, bin_geq, bin_eql, bin_neq, un_not]
  refine ⟨_, hlp, rfl, wpC_run ?_⟩
  generalize hs1 : setObj s (n0 + 6) _ = s1
  have n1 : s1.next = s.next := by rw [← hs1]; rfl
  have l1 : loopAt s1 (n0 + 6) = some { loop24 v tr n0 x6 x7 x9 x10 x11 x12 x13 with state := .busy } := by rw [← hs1, loopAt_set]
  have hlt := hat.lt
  have o1 : OldBut (n0 + 6) s s1 := ⟨by omega, fun x _ hx => by rw [← hs1, heap_set, if_neg hx]⟩
  have old1 : Old (n0 + 6) s0 s1 := hat.old.trans (o1.old (by omega))
  have m1 := hmem.old old1 (Nat.le_refl _)
  have hln : ∀ s, lenA Try.prog s 33 tr = some (iv (T.length : Int)) := fun s => by obtain ⟨a, cap, rfl, _⟩ := hT; exact len_slice Try.underlying33
  have ltr := m1.bt.load ag33
  simp only [c24b, c24o4, ltr, hln, decide_true, if_true, wpC, wpI, wpS, wpD, wpV, wanted_none, wanted_some, vals, cev_const, cev_var, cev_loc, padV, okV_some, againP, true_and, and_true, upd_zero, upd_succ, nth_zero, nth_succ, wpG_true, wpG_false, condK_true, condK_false, seqK_normal, seqK_ret, seqK_exit, inBlock_normal, inBlock_ret, inBlock_exit, ends_ret, ends_normal, unmark_nil, results_nil, results_cons, one_one, one_zero, one_two, isB_undef, isB_tt, isB_ff, Bool.not_true, Bool.not_false, Option.bind_some, pick3, pickA, extractA, List.getElem?_cons_zero, List.getElem?_cons_succ, bin_lss, bin_gtr, bin_leq, bin_geq, bin_eql, bin_neq, un_not]
  refine ⟨_, l1, hend _ _ ⟨?_, by show n0 + 6 < s1.next; omega, ?_, _, loopAt_set _ _ _, rfl, .inr ⟨rfl, ?_, ?_⟩⟩⟩
  · refine (h0.trans (old1.mono (by omega))).trans ⟨Nat.le_refl _, fun x hx => by rw [heap_set, if_neg (by omega)]⟩
  · rw [heap_set, if_neg (by omega)]; exact m1.mrk
  · rw [← hR, List.drop_length]; rfl
  · exact m1.old (l := n0 + 6) ⟨Nat.le_refl _, fun x hx => by rw [heap_set, if_neg (by omega)]⟩ (Nat.le_refl _)

theorem alloc3 : allocA Try.prog 3 = some (mkRow 3 0 [iv 0], .ptr) := by simp [allocA, zr3, AV.cells]
theorem alloc4 : allocA Try.prog 4 = some (mkRow 4 0 [.bool false], .ptr) := by simp [allocA, zr4, AV.cells]

set_option maxRecDepth 16000 in
/-- Check. -/
theorem check_ok {E : Env} (hE : Good E) {s : ASt} {b : Nat} {v tr : AV} {us : List AV} {cs : List (List Int)} {T : Trace20} (hb : b ≤ s.next) (hv : SliceAt s.next s v us) (hr : RowCells b s us cs) (hcs : FitsR cs)
    (hT : TraceAt b s tr T) (hP : PlainT T) {fol : List (List Int) → List Int → Bool} (hfol : ∀ k L, T[k]? = some (false, L) → ∃ n, followsV n (cs ++ learnT (T.take k)) L = some (fol (cs ++ learnT (T.take k)) L)) :
    WF E 24 [v, tr] (fun r s' => r = .tuple [iv ((checkV fol cs T).1 : Int), .bool (checkV fol cs T).2] ∧ Old s.next s s') s := by
  have hvc := hv.isCell
  have htc := hT.isCell
  have hptr : ∀ i, Made.val i .ptr = .ptr (some (i, 0)) := fun _ => rfl
  have hbox : boxA 22 v = some (mkRow 22 0 [v], .ptr) := by simp [boxA, hvc.2]
  have hbox2 : boxA 33 tr = some (mkRow 33 0 [tr], .ptr) := by simp [boxA, htc.2]
  refine hE.go comp24 (by decide) rfl ?_
  generalize hn0 : s.next = n0 at hv hb
  generalize hs1 : newObj s (mkRow 22 0 [v]) = s1
  have n1 : s1.next = n0 + 1 := by rw [← hs1, ← hn0]; rfl
  have o1 : Old n0 s s1 := by rw [← hs1, ← hn0]; exact Old.new s _
  have b1 : Box1 s1 n0 v := by rw [← hs1, ← hn0]; exact Box1.new
  generalize hs2 : newObj s1 (mkRow 33 0 [tr]) = s2
  have n2 : s2.next = n0 + 2 := by rw [← hs2]; show s1.next + 1 = _; omega
  have o2 : Old (n0 + 1) s1 s2 := by rw [← hs2, ← n1]; exact Old.new s1 _
  have b2 : Box1 s2 (n0 + 1) tr := by rw [← hs2, ← n1]; exact Box1.new
  generalize hs3 : newObj s2 (mkRow 3 0 [iv 0]) = s3
  have n3 : s3.next = n0 + 3 := by rw [← hs3]; show s2.next + 1 = _; omega
  have o3 : Old (n0 + 2) s2 s3 := by rw [← hs3, ← n2]; exact Old.new s2 _
  have b3 : Box1 s3 (n0 + 2) (iv 0) := by rw [← hs3, ← n2]; exact Box1.new
  generalize hs4 : newObj s3 (mkRow 4 0 [.bool false]) = s4
  have n4 : s4.next = n0 + 4 := by rw [← hs4]; show s3.next + 1 = _; omega
  have o4 : Old (n0 + 3) s3 s4 := by rw [← hs4, ← n3]; exact Old.new s3 _
  have b4 : Box1 s4 (n0 + 3) (.bool false) := by rw [← hs4, ← n3]; exact Box1.new
  have b2' : Box1 s4 (n0 + 1) tr := (b2.keep (o3.2 _ (by omega))).keep (o4.2 _ (by omega))
  have ltr := b2'.load ag33
  simp only [c24, c24o0, c24o1, hbox, hbox2, hn0, hs1, hs2, hs3, hs4, n1, n2, n3, hptr, alloc3, alloc4, ltr, wpC, wpI, wpS, wpD, wpV, wanted_none, wanted_some, vals, cev_const, cev_var, cev_loc, padV, okV_some, againP, true_and, and_true, upd_zero, upd_succ, nth_zero, nth_succ, wpG_true, wpG_false, condK_true, condK_false, seqK_normal, seqK_ret, seqK_exit, inBlock_normal, inBlock_ret, inBlock_exit, ends_ret, ends_normal, unmark_nil, results_nil, results_cons, one_one, one_zero, one_two, isB_undef, isB_tt, isB_ff, Bool.not_true, Bool.not_false, Option.bind_some, pick3, pickA, extractA, List.getElem?_cons_zero, List.getElem?_cons_succ, bin_lss, bin_gtr, bin_leq, bin_geq, bin_eql, bin_neq, un_not]
  refine (states_fun hE htc.2).mono ?_
  rintro _ _ ⟨rfl, rfl⟩
  rw [n4]
  simp only [wpC, wpI, wpS, wpD, wpV, wanted_none, wanted_some, vals, cev_const, cev_var, cev_loc, padV, okV_some, againP, true_and, and_true, upd_zero, upd_succ, nth_zero, nth_succ, wpG_true, wpG_false, condK_true, condK_false, seqK_normal, seqK_ret, seqK_exit, inBlock_normal, inBlock_ret, inBlock_exit, ends_ret, ends_normal, unmark_nil, results_nil, results_cons, one_one, one_zero, one_two, isB_undef, isB_tt, isB_ff, Bool.not_true, Bool.not_false, Option.bind_some, pick3, pickA, extractA, List.getElem?_cons_zero, List.getElem?_cons_succ, bin_lss, bin_gtr, bin_leq, bin_geq, bin_eql, bin_neq, un_not]
  generalize hs5 : newObj s4 (mkRow 33 0 [tr]) = s5
  have n5 : s5.next = n0 + 5 := by rw [← hs5]; show s4.next + 1 = _; omega
  have o5 : Old (n0 + 4) s4 s5 := by rw [← hs5, ← n4]; exact Old.new s4 _
  have b5 : Box1 s5 (n0 + 4) tr := by rw [← hs5, ← n4]; exact Box1.new
  refine WC.range rfl ?_
  rw [n5]
  generalize hs6 : newObj s5 .mark = s6
  have n6 : s6.next = n0 + 6 := by rw [← hs6]; show s5.next + 1 = _; omega
  have o6 : Old (n0 + 5) s5 s6 := by rw [← hs6, ← n5]; exact Old.new s5 _
  have m6 : s6.heap.get (n0 + 5) = some .mark := by rw [← hs6, heap_new, if_pos n5.symm]
  generalize hs7 : newObj s6 _ = s7
  have n7 : s7.next = n0 + 7 := by rw [← hs7]; show s6.next + 1 = _; omega
  have o7 : Old (n0 + 6) s6 s7 := by rw [← hs7, ← n6]; exact Old.new s6 _
  have l7 : loopAt s7 (n0 + 6) = some (loop24 v tr n0 undefA undefA undefA undefA undefA undefA undefA) := by
    unfold loopAt; rw [← hs7, heap_new, if_pos n6.symm]; rfl
  have o57 : Old (n0 + 5) s5 s7 := o6.trans (o7.mono (by omega))
  have o47 : Old (n0 + 4) s4 s7 := o5.trans (o57.mono (by omega))
  have h07 : Old n0 s s7 := (o1.trans (o2.mono (by omega))).trans (((o3.mono (by omega)).trans (o4.mono (by omega))).trans (o47.mono (by omega)))
  have mem : Mem24 v tr n0 s7 := ⟨(((b1.keep (o2.2 _ (by omega))).keep (o3.2 _ (by omega))).keep (o4.2 _ (by omega))).keep (o47.2 _ (by omega)), b2'.keep (o47.2 _ (by omega)), (b3.keep (o4.2 _ (by omega))).keep (o47.2 _ (by omega)), b4.keep (o47.2 _ (by omega)), by rw [o7.2 _ (by omega)]; exact m6⟩
  have hb5 : Box1 s7 (n0 + 4) tr := b5.keep (o57.2 _ (by omega))
  refine (states_ok hE (b := b) (l := n0 + 6) (bx := n0 + 4) (LI := Li24 fol cs T v tr n0 (checkV fol cs T)) (Fin := Fin24 v tr n0 s (checkV fol cs T) T.length) (hT.old h07 hb) hP (by omega) hb5 (by omega) (by omega) ?_ ?_ ?_ ?_).mono ?_
  · rintro k s' s'' ⟨q1, x6, x7, x9, x10, x11, x12, x13, q2⟩ _ _ he
    exact ⟨q1, x6, x7, x9, x10, x11, x12, x13, by rw [loopAt_eq he]; exact q2⟩
  · exact ⟨rfl, _, _, _, _, _, _, _, l7⟩
  · intro k s' w K hk hat hli hgo hend
    exact check_round hE hn0 hb hv hr hcs hT hP hfol h07 mem hk hat hli hgo hend
  · intro s' w K hat hli hend
    exact check_last hE hn0 hb hT h07 mem hat hli hend
  · rintro _ s8 ⟨h1, h2, h3, r, h4, h5, h6⟩
    refine ⟨r, h4, h5, ?_⟩
    generalize hs9 : setObj s8 (n0 + 6) _ = s9
    have n9 : s9.next = s8.next := by rw [← hs9]; rfl
    have e9 : ∀ x, x ≠ n0 + 6 → s9.heap.get x = s8.heap.get x := fun x hx => by rw [← hs9, heap_set, if_neg hx]
    have mk9 : s9.heap.get (n0 + 5) = some .mark := by rw [e9 _ (by omega)]; exact h3
    have hnn := h1.1
    rcases h6 with ⟨p1, p2, p3⟩ | ⟨p1, p2, p3⟩
    · rw [p1]
      show PendK _ _ _ _ (some .ret)
      simp only [PendK, unmark_one mk9, wpC, wpI, wpS, wpD, wpV, wanted_none, wanted_some, vals, cev_const, cev_var, cev_loc, padV, okV_some, againP, true_and, and_true, upd_zero, upd_succ, nth_zero, nth_succ, wpG_true, wpG_false, condK_true, condK_false, seqK_normal, seqK_ret, seqK_exit, inBlock_normal, inBlock_ret, inBlock_exit, ends_ret, ends_normal, unmark_nil, results_nil, results_cons, one_one, one_zero, one_two, isB_undef, isB_tt, isB_ff, Bool.not_true, Bool.not_false, Option.bind_some, pick3, pickA, extractA, List.getElem?_cons_zero, List.getElem?_cons_succ, bin_lss, bin_gtr, bin_leq, bin_geq, bin_eql, bin_neq, un_not]
      have k2 : Box1 (delObj s9 (n0 + 5)) (n0 + 2) _ := (p2.keep (e9 _ (by omega))).keep (by rw [heap_del, if_neg (by omega)])
      have k3 : Box1 (delObj s9 (n0 + 5)) (n0 + 3) _ := (p3.keep (e9 _ (by omega))).keep (by rw [heap_del, if_neg (by omega)])
      simp only [results_load, k2.load ag3, k3.load ag4, wpC, wpI, wpS, wpD, wpV, wanted_none, wanted_some, vals, cev_const, cev_var, cev_loc, padV, okV_some, againP, true_and, and_true, upd_zero, upd_succ, nth_zero, nth_succ, wpG_true, wpG_false, condK_true, condK_false, seqK_normal, seqK_ret, seqK_exit, inBlock_normal, inBlock_ret, inBlock_exit, ends_ret, ends_normal, unmark_nil, results_nil, results_cons, one_one, one_zero, one_two, isB_undef, isB_tt, isB_ff, Bool.not_true, Bool.not_false, Option.bind_some, pick3, pickA, extractA, List.getElem?_cons_zero, List.getElem?_cons_succ, bin_lss, bin_gtr, bin_leq, bin_geq, bin_eql, bin_neq, un_not]
      exact h1.trans ⟨by show s8.next ≤ s9.next; omega, fun x hx => by rw [heap_del, if_neg (by omega), e9 x (by omega)]⟩
    · rw [p1]
      show PendK _ _ _ _ none
      have m9 : Mem24 v tr n0 s9 := p3.old (l := n0 + 6) ⟨by omega, fun x hx => e9 x (by omega)⟩ (Nat.le_refl _)
      have hln : ∀ s, lenA Try.prog s 33 tr = some (iv (T.length : Int)) := fun s => by obtain ⟨a, cap, rfl, _⟩ := hT; exact len_slice Try.underlying33
      obtain ⟨sa, k1, k2, k3, k4⟩ := m9.bi.store (d := iv (T.length : Int)) sz3 rfl rfl
      obtain ⟨sb, j1, j2, j3, j4⟩ := (m9.bb.keep (k4 _ (by omega))).store (d := .bool false) sz4 rfl rfl
      have mk1 : sb.heap.get (n0 + 5) = some .mark := by rw [j4 _ (by omega), k4 _ (by omega)]; exact mk9
      simp only [PendK, c24o10, m9.bt.load ag33, hln, on2, k1, j1, withV, unmark_one mk1, wpC, wpI, wpS, wpD, wpV, wanted_none, wanted_some, vals, cev_const, cev_var, cev_loc, padV, okV_some, againP, true_and, and_true, upd_zero, upd_succ, nth_zero, nth_succ, wpG_true, wpG_false, condK_true, condK_false, seqK_normal, seqK_ret, seqK_exit, inBlock_normal, inBlock_ret, inBlock_exit, ends_ret, ends_normal, unmark_nil, results_nil, results_cons, one_one, one_zero, one_two, isB_undef, isB_tt, isB_ff, Bool.not_true, Bool.not_false, Option.bind_some, pick3, pickA, extractA, List.getElem?_cons_zero, List.getElem?_cons_succ, bin_lss, bin_gtr, bin_leq, bin_geq, bin_eql, bin_neq, un_not]
      have i2 : Box1 (delObj sb (n0 + 5)) (n0 + 2) _ := (k2.keep (j4 _ (by omega))).keep (by rw [heap_del, if_neg (by omega)])
      have i3 : Box1 (delObj sb (n0 + 5)) (n0 + 3) _ := j2.keep (by rw [heap_del, if_neg (by omega)])
      simp only [results_load, i2.load ag3, i3.load ag4, wpC, wpI, wpS, wpD, wpV, wanted_none, wanted_some, vals, cev_const, cev_var, cev_loc, padV, okV_some, againP, true_and, and_true, upd_zero, upd_succ, nth_zero, nth_succ, wpG_true, wpG_false, condK_true, condK_false, seqK_normal, seqK_ret, seqK_exit, inBlock_normal, inBlock_ret, inBlock_exit, ends_ret, ends_normal, unmark_nil, results_nil, results_cons, one_one, one_zero, one_two, isB_undef, isB_tt, isB_ff, Bool.not_true, Bool.not_false, Option.bind_some, pick3, pickA, extractA, List.getElem?_cons_zero, List.getElem?_cons_succ, bin_lss, bin_gtr, bin_leq, bin_geq, bin_eql, bin_neq, un_not]
      rw [p2]
      exact ⟨rfl, h1.trans ⟨by show s8.next ≤ sb.next; omega, fun x hx => by rw [heap_del, if_neg (by omega), j4 x (by omega), k4 x (by omega), e9 x (by omega)]⟩⟩
end Go.Proofs.Ytilhhmkdcoajnaa.Am
