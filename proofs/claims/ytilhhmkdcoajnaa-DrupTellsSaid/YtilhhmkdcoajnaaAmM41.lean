/- What the program's dropped computes: a row of clauses without the last one of the same literals; conditions: short clauses, none null. -/
import Derived.Test.YtilhhmkdcoajnaaAmM40
import Derived.Test.YtilhhmkdcoajnaaAmM39
set_option linter.unusedVariables false
set_option linter.unusedSimpArgs false
namespace Go.Proofs.Ytilhhmkdcoajnaa.Am
open Go Go.Proofs

/-- Clauses of twelve literals at most, each of which may hold. -/
def Plain (L : List Int) : Prop := I64s L ∧ (∀ x ∈ L, nullV x = false) ∧ L.length ≤ 12
theorem loopAt_eq {s s' : ASt} {l : Nat} (h : s'.heap.get l = s.heap.get l) : loopAt s' l = loopAt s l := by unfold loopAt; rw [h]
theorem loopAt_set (s : ASt) (l : Nat) (r : ALoop) : loopAt (setObj s l (.loop r)) l = some r := by unfold loopAt; rw [heap_set, if_pos rfl]
theorem CellsAt.keep {b : Nat} {s s' : ASt} {i o : Nat} {cs : List AV} (h : CellsAt b s (some (i, o)) cs) (k : s'.heap.get i = s.heap.get i) : CellsAt b s' (some (i, o)) cs := fun j u hj => by
  obtain ⟨i', o', e, h1, h2⟩ := h j u hj
  injection e with e; injection e with e1 e2; subst e1; subst e2
  exact ⟨i, o, rfl, h1, by rw [load1_eq k]; exact h2⟩

theorem again_r1 (s : ASt) (loc var : List AV) (f : ASt → AV → Option AV) (x a : CX) : again1 s loc var ⟨none, .r1 f, [x], a⟩ = sameA (f s (cev loc var x)) (cev loc var a) := rfl
/-- 83's slots while its loop runs. -/
noncomputable def vars83s (v u : AV) (n0 q : Nat) (x5 x6 x8 x9 x10 : AV) : List AV := [v, u, .ptr (some (n0, 0)), .ptr (some (n0 + 1, 0)), .ptr (some (q, 0)), x5, x6, .func 116 [] [.ptr (some (q + 1, 0))], x8, x9, x10]
noncomputable def loop83 (v u : AV) (n0 q : Nat) (x5 x6 x8 x9 x10 : AV) : ALoop := loopObj 83 (vars83s v u n0 q x5 x6 x8 x9 x10) #[12, 13] a83 b83 (q + 2)

set_option maxRecDepth 16000 in
theorem drop_round {E : Env} (hE : Good E) {s0 s8 : ASt} {n0 q b : Nat} {v u w d : AV} {us : List AV} {cs : List (List Int)} {c : List Int} {x5 x6 x8 x9 x10 : AV} (hn0 : s0.next = n0) (hq : n0 + 2 ≤ q) (hb : b ≤ n0)
    (hv : SliceAt n0 s0 v us) (hr : RowCells b s0 us cs) (hcs : ∀ L ∈ cs, Plain L) (hlen : us.length ≤ 1000) (h8 : Old n0 s0 s8)
    (hbx : Box1 s8 n0 v) (hrb : Box1 s8 (n0 + 1) d) (hwb : Box1 s8 q w) (hw : SliceAt q s8 w (ivs (cleanV [] c))) (heq : eqA w w = true) (hmk : s8.heap.get (q + 2) = some .mark)
    {k : Nat} {s : ASt} {K : AV → ASt → Prop} (hold : Old (q + 3) s8 s) (hlp : loopAt s (q + 3) = some (loop83 v u n0 q x5 x6 x8 x9 x10)) (hnx : q + 3 < s.next) {uk : AV} {L : List Int} (huk : us[k]? = some uk) (hLk : cs[k]? = some L)
    (hmiss : cleanV [] L ≠ cleanV [] c → ∀ s', Old (q + 3) s8 s' → loopAt s' (q + 3) = some (loop83 v u n0 q x5 x6 x8 x9 x10) → q + 3 < s'.next → K (.bool true) s')
    (hhit : cleanV [] L = cleanV [] c → ∀ s' i Z, Z ≠ [] → Old n0 s0 s' → Box1 s' (n0 + 1) (.slice (some (i, 0)) (us.take k ++ us.drop (k + 1)).length none) → q + 3 < i → i < s'.next → RowAt s' i ((us.take k ++ us.drop (k + 1)) ++ Z) → s'.heap.get (q + 2) = some .mark →
      loopAt s' (q + 3) = some { loop83 v u n0 q x5 x6 x8 x9 x10 with state := .done, pending := some .ret } → K (.bool false) s') :
    WR E (q + 3) [iv (k : Int), uk] K s := by
  have hk : k < us.length := lt_of_get huk
  have hz : zipParams (varsIn E.P 83) (vars83s v u n0 q x5 x6 x8 x9 x10) [12, 13] [iv (k : Int), uk] = some (vars83s v u n0 q x5 x6 (iv (k : Int)) uk x10) := by
    rw [hE.P, vars83]; rfl
  refine WR.round hlp hz (by rw [hE.P]; exact ca83) (by rw [hE.P]; exact cb83) ?_
  refine wpC_run ?_
  simp only [c83a, c83o3, c83o4, vars83s, wpC, wpI, wpS, wpD, wpV, wanted_none, wanted_some, vals, cev_const, cev_var, cev_loc, padV, okV_some, againP, true_and, and_true, upd_zero, upd_succ, nth_zero, nth_succ, wpG_true, wpG_false, condK_true, condK_false, seqK_normal, seqK_ret, seqK_exit, inBlock_normal, inBlock_ret, inBlock_exit, ends_ret, ends_normal, unmark_nil, results_nil, results_cons, one_one, one_zero, one_two, isB_undef, isB_tt, isB_ff, Bool.not_true, Bool.not_false, Option.bind_some, pick3, pickA, extractA, List.getElem?_cons_zero, List.getElem?_cons_succ, bin_lss, bin_gtr, bin_leq, bin_geq, bin_eql, bin_neq, un_not]
  refine ⟨_, hlp, rfl, wpC_run ?_⟩
  have hLp : Plain L := hcs L (List.mem_of_getElem? hLk)
  obtain ⟨uk', huk', hLs⟩ := hr.2 k L hLk
  rw [huk] at huk'
  injection huk' with huk'
  subst huk'
  -- busy
  generalize hs1 : setObj s (q + 3) _ = s1
  have n1 : s1.next = s.next := by rw [← hs1]; rfl
  have l1 : loopAt s1 (q + 3) = some { loop83 v u n0 q x5 x6 x8 x9 x10 with state := .busy } := by rw [← hs1, loopAt_set]
  have o1 : ∀ x, x ≠ q + 3 → s1.heap.get x = s.heap.get x := fun x hx => by rw [← hs1, heap_set, if_neg hx]
  have hold1 : Old (q + 3) s8 s1 := hold.trans ⟨by omega, fun x hx => o1 x (by omega)⟩
  have h81 : Old n0 s0 s1 := h8.trans (hold1.mono (by omega))
  have hnx0 := hold.1
  have w1 : Box1 s1 q w := hwb.keep (hold1.2 q (by omega))
  have ld := w1.load ag23
  simp only [c83b, c83o5, ld, wpC, wpI, wpS, wpD, wpV, wanted_none, wanted_some, vals, cev_const, cev_var, cev_loc, padV, okV_some, againP, true_and, and_true, upd_zero, upd_succ, nth_zero, nth_succ, wpG_true, wpG_false, condK_true, condK_false, seqK_normal, seqK_ret, seqK_exit, inBlock_normal, inBlock_ret, inBlock_exit, ends_ret, ends_normal, unmark_nil, results_nil, results_cons, one_one, one_zero, one_two, isB_undef, isB_tt, isB_ff, Bool.not_true, Bool.not_false, Option.bind_some, pick3, pickA, extractA, List.getElem?_cons_zero, List.getElem?_cons_succ, bin_lss, bin_gtr, bin_leq, bin_geq, bin_eql, bin_neq, un_not]
  refine (clean_ok hE hLp.1 hLp.2.1 hLp.2.2 (b := b) (by omega) (hLs.old h81 hb)).mono ?_
  rintro v2 s2 ⟨hv2, ho2, _⟩
  rw [clean_eq hLp.2.1] at hv2
  have hold2 : Old (q + 3) s8 s2 := hold1.trans (ho2.mono (by omega))
  have l2 : loopAt s2 (q + 3) = some { loop83 v u n0 q x5 x6 x8 x9 x10 with state := .busy } := by rw [loopAt_eq (ho2.2 _ (by omega))]; exact l1
  have ld2 := (hwb.keep (hold2.2 q (by omega))).load ag23
  have hws : SliceAt q s2 w (ivs (cleanV [] c)) := hw.old (hold2.mono (by omega)) (Nat.le_refl _)
  simp only [again_r1, sameA_some, ld2, heq, wpC, wpI, wpS, wpD, wpV, wanted_none, wanted_some, vals, cev_const, cev_var, cev_loc, padV, okV_some, againP, true_and, and_true, upd_zero, upd_succ, nth_zero, nth_succ, wpG_true, wpG_false, condK_true, condK_false, seqK_normal, seqK_ret, seqK_exit, inBlock_normal, inBlock_ret, inBlock_exit, ends_ret, ends_normal, unmark_nil, results_nil, results_cons, one_one, one_zero, one_two, isB_undef, isB_tt, isB_ff, Bool.not_true, Bool.not_false, Option.bind_some, pick3, pickA, extractA, List.getElem?_cons_zero, List.getElem?_cons_succ, bin_lss, bin_gtr, bin_leq, bin_geq, bin_eql, bin_neq, un_not]
  refine (equal_ok hE ?_ hv2 (hws.mono (by have := ho2.1; omega))).mono ?_
  · have := cleanV_len L []
    have := hLp.2.2
    simp at *; omega
  rintro _ _ ⟨rfl, rfl⟩
  by_cases h : cleanV [] L = cleanV [] c
  · have hk1 := bin_add Try.prog 3 (k : Int) 1 ⟨by omega, by omega⟩
    have hk1' : ((k : Int) + 1) = ((k + 1 : Nat) : Int) := by omega
    have ldx := (hbx.keep (hold2.2 n0 (by omega))).load ag22
    simp only [h, decide_true, c83o6, ldx, wpC, wpI, wpS, wpD, wpV, wanted_none, wanted_some, vals, cev_const, cev_var, cev_loc, padV, okV_some, againP, true_and, and_true, upd_zero, upd_succ, nth_zero, nth_succ, wpG_true, wpG_false, condK_true, condK_false, seqK_normal, seqK_ret, seqK_exit, inBlock_normal, inBlock_ret, inBlock_exit, ends_ret, ends_normal, unmark_nil, results_nil, results_cons, one_one, one_zero, one_two, isB_undef, isB_tt, isB_ff, Bool.not_true, Bool.not_false, Option.bind_some, pick3, pickA, extractA, List.getElem?_cons_zero, List.getElem?_cons_succ, bin_lss, bin_gtr, bin_leq, bin_geq, bin_eql, bin_neq, un_not]
    have h82 : Old n0 s0 s2 := h8.trans (hold2.mono (by omega))
    refine (clone22_ok hE (b := n0) (by have := ho2.1; omega) (hv.old h82 (Nat.le_refl _)) hr.cells (by omega)).mono ?_
    rintro v3 s3 ⟨hv3, ho3⟩
    have hold3 : Old (q + 3) s8 s3 := hold2.trans (ho3.mono (by have := hold2.1; have := ho2.1; omega))
    have l3 : loopAt s3 (q + 3) = some { loop83 v u n0 q x5 x6 x8 x9 x10 with state := .busy } := by rw [loopAt_eq (ho3.2 _ (by have := ho2.1; omega))]; exact l2
    rcases hv3 with ⟨a, rfl, e⟩ | ⟨i, rfl, hi1, hi2, hi3⟩
    · subst e; simp at hk
    simp only [hk1, hk1', wpC, wpI, wpS, wpD, wpV, wanted_none, wanted_some, vals, cev_const, cev_var, cev_loc, padV, okV_some, againP, true_and, and_true, upd_zero, upd_succ, nth_zero, nth_succ, wpG_true, wpG_false, condK_true, condK_false, seqK_normal, seqK_ret, seqK_exit, inBlock_normal, inBlock_ret, inBlock_exit, ends_ret, ends_normal, unmark_nil, results_nil, results_cons, one_one, one_zero, one_two, isB_undef, isB_tt, isB_ff, Bool.not_true, Bool.not_false, Option.bind_some, pick3, pickA, extractA, List.getElem?_cons_zero, List.getElem?_cons_succ, bin_lss, bin_gtr, bin_leq, bin_geq, bin_eql, bin_neq, un_not]
    refine (delete22_ok hE hi3 hk hr.cells (by omega)).mono ?_
    rintro _ s4 ⟨Z, hZ, rfl, hz4, n4, o4⟩
    have hin : q + 3 < i := by have := ho2.1; omega
    obtain ⟨s5, g1, g2, g3, g4⟩ := (hrb.keep ((o4 (n0 + 1) (by omega)).trans (hold3.2 (n0 + 1) (by omega)))).store (d := .slice (some (i, 0)) (us.take k ++ us.drop (k + 1)).length none) sz22 rfl rfl
    simp only [on2, g1, withV, wpC, wpI, wpS, wpD, wpV, wanted_none, wanted_some, vals, cev_const, cev_var, cev_loc, padV, okV_some, againP, true_and, and_true, upd_zero, upd_succ, nth_zero, nth_succ, wpG_true, wpG_false, condK_true, condK_false, seqK_normal, seqK_ret, seqK_exit, inBlock_normal, inBlock_ret, inBlock_exit, ends_ret, ends_normal, unmark_nil, results_nil, results_cons, one_one, one_zero, one_two, isB_undef, isB_tt, isB_ff, Bool.not_true, Bool.not_false, Option.bind_some, pick3, pickA, extractA, List.getElem?_cons_zero, List.getElem?_cons_succ, bin_lss, bin_gtr, bin_leq, bin_geq, bin_eql, bin_neq, un_not]
    have l5 : loopAt s5 (q + 3) = some { loop83 v u n0 q x5 x6 x8 x9 x10 with state := .busy } := by rw [loopAt_eq ((g4 _ (by omega)).trans (o4 _ (by omega)))]; exact l3
    refine ⟨_, l5, ?_⟩
    refine hhit h _ i Z hZ ?_ ?_ hin ?_ ?_ ?_ ?_
    · refine (h8.trans ((hold3.mono (by omega)))).trans ⟨by show s3.next ≤ s5.next; omega, fun x hx => ?_⟩
      rw [heap_set, if_neg (by omega), g4 x (by omega), o4 x (by omega)]
    · exact g2.keep (by rw [heap_set, if_neg (by omega)])
    · show i < s5.next; omega
    · exact (hz4.keep (g4 i (by omega))).keep (by rw [heap_set, if_neg (by omega)])
    · rw [heap_set, if_neg (by omega), g4 _ (by omega), o4 _ (by omega), hold3.2 _ (by omega)]; exact hmk
    · rw [loopAt_set]; rfl
  · simp only [h, decide_false, wpC, wpI, wpS, wpD, wpV, wanted_none, wanted_some, vals, cev_const, cev_var, cev_loc, padV, okV_some, againP, true_and, and_true, upd_zero, upd_succ, nth_zero, nth_succ, wpG_true, wpG_false, condK_true, condK_false, seqK_normal, seqK_ret, seqK_exit, inBlock_normal, inBlock_ret, inBlock_exit, ends_ret, ends_normal, unmark_nil, results_nil, results_cons, one_one, one_zero, one_two, isB_undef, isB_tt, isB_ff, Bool.not_true, Bool.not_false, Option.bind_some, pick3, pickA, extractA, List.getElem?_cons_zero, List.getElem?_cons_succ, bin_lss, bin_gtr, bin_leq, bin_geq, bin_eql, bin_neq, un_not]
    refine ⟨_, l2, ?_⟩
    refine hmiss h _ ?_ ?_ ?_
    · exact hold2.trans ⟨Nat.le_refl _, fun x hx => by rw [heap_set, if_neg (by omega)]⟩
    · rw [loopAt_set]; rfl
    · show q + 3 < s2.next
      have := ho2.1; omega
end Go.Proofs.Ytilhhmkdcoajnaa.Am

/- What the program's dropped computes (its loop, and all); conditions: short clauses, none null. -/
set_option linter.unusedVariables false
set_option linter.unusedSimpArgs false
namespace Go.Proofs.Ytilhhmkdcoajnaa.Am
open Go Go.Proofs

set_option maxRecDepth 16000 in
theorem back_loop {E : Env} (hE : Good E) {s0 s8 : ASt} {n0 q b : Nat} {v u w d : AV} {us : List AV} {cs : List (List Int)} {c : List Int} {x5 x6 x8 x9 x10 : AV} (hn0 : s0.next = n0) (hq : n0 + 2 ≤ q) (hb : b ≤ n0)
    (hv : SliceAt n0 s0 v us) (hr : RowCells b s0 us cs) (hcs : ∀ L ∈ cs, Plain L) (hlen : us.length ≤ 1000) (h8 : Old n0 s0 s8)
    (hbx : Box1 s8 n0 v) (hrb : Box1 s8 (n0 + 1) d) (hwb : Box1 s8 q w) (hw : SliceAt q s8 w (ivs (cleanV [] c))) (heq : eqA w w = true) (hmk : s8.heap.get (q + 2) = some .mark) (hbb : Box1 s8 (q + 1) v) {Q : ARes → Prop} :
    ∀ (k : Nat) (s : ASt) (x3 x4 : AV), k ≤ cs.length → Old (q + 3) s8 s → loopAt s (q + 3) = some (loop83 v u n0 q x5 x6 x8 x9 x10) → q + 3 < s.next → lastV cs c cs.length = lastV cs c k →
      (lastV cs c cs.length = none → ∀ s' y2 y3 y4, Old (q + 3) s8 s' → loopAt s' (q + 3) = some (loop83 v u n0 q x5 x6 x8 x9 x10) → q + 3 < s'.next → Q ⟨.exit 0, [.yield (q + 3), .ptr (some (q + 1, 0)), y2, y3, y4], [], s'⟩) →
      (∀ k, k < us.length → lastV cs c cs.length = some k → ∀ s' i Z y2 y3 y4, Z ≠ [] → Old n0 s0 s' → Box1 s' (n0 + 1) (.slice (some (i, 0)) (us.take k ++ us.drop (k + 1)).length none) → q + 3 < i → i < s'.next → RowAt s' i ((us.take k ++ us.drop (k + 1)) ++ Z) → s'.heap.get (q + 2) = some .mark →
        loopAt s' (q + 3) = some { loop83 v u n0 q x5 x6 x8 x9 x10 with state := .done, pending := some .ret } → Q ⟨.ret, [.yield (q + 3), .ptr (some (q + 1, 0)), y2, y3, y4], [], s'⟩) →
      WC E none (.loop c116l4) Q [.yield (q + 3), .ptr (some (q + 1, 0)), iv ((k : Int) - 1), x3, x4] [] s := by
  intro k
  induction k with
  | zero =>
    intro s x3 x4 hk hold hlp hnx hl hend hhit
    refine WC.loop' ?_
    simp only [c116l4, c116o1, show ((0 : Nat) : Int) - 1 = -1 from rfl, show decide ((0 : Int) ≤ -1) = false from rfl, wpC, wpI, wpS, wpD, wpV, wanted_none, wanted_some, vals, cev_const, cev_var, cev_loc, padV, okV_some, againP, true_and, and_true, upd_zero, upd_succ, nth_zero, nth_succ, wpG_true, wpG_false, condK_true, condK_false, seqK_normal, seqK_ret, seqK_exit, inBlock_normal, inBlock_ret, inBlock_exit, ends_ret, ends_normal, unmark_nil, results_nil, results_cons, one_one, one_zero, one_two, isB_undef, isB_tt, isB_ff, Bool.not_true, Bool.not_false, Option.bind_some, pick3, pickA, extractA, List.getElem?_cons_zero, List.getElem?_cons_succ, bin_lss, bin_gtr, bin_leq, bin_geq, bin_eql, bin_neq, un_not]
    exact hend hl s _ _ _ hold hlp hnx
  | succ k ih =>
    intro s x3 x4 hk hold hlp hnx hl hend hhit
    have hL : cs[k]? = some cs[k] := List.getElem?_eq_getElem hk
    obtain ⟨uk, huk, hus⟩ := hr.2 k _ hL
    have hkl : k < us.length := lt_of_get huk
    have hgd : cs.getD k [] = cs[k] := by simp [List.getD_eq_getElem?_getD, hL]
    have hk1 : ((k + 1 : Nat) : Int) - 1 = (k : Int) := by omega
    have hge : decide ((0 : Int) ≤ (k : Int)) = true := decide_eq_true (by omega)
    have e3 := bin_sub Try.prog 3 (k : Int) 1 ⟨by omega, by omega⟩
    have ld := (hbb.keep (hold.2 (q + 1) (by omega))).load ag22
    obtain ⟨a, cap, hve, hcells⟩ := hv
    have hcells' : CellsAt n0 s a us := hcells.old (h8.trans (hold.mono (by omega))) (Nat.le_refl _)
    obtain ⟨i, o, hae, hi, hload⟩ := hcells' k uk huk
    have e1 : indexAddrA Try.prog 22 v (iv (k : Int)) = some (.ptr (some (i, o + k * 1))) := by rw [hve, hae]; exact idx_slice Try.underlying22 sz23 hkl
    have e2 : loadV Try.prog s 23 (.ptr (some (i, o + k * 1))) = some uk := load_one ag23 (by rw [Nat.mul_one]; exact hload)
    refine WC.loop' ?_
    generalize hW : WC E none (CCode.loop c116l4) Q = WW
    rw [hk1]
    simp only [c116l4, c116o1, c116o2, hge, ld, e1, e2, wpC, wpI, wpS, wpD, wpV, wanted_none, wanted_some, vals, cev_const, cev_var, cev_loc, padV, okV_some, againP, true_and, and_true, upd_zero, upd_succ, nth_zero, nth_succ, wpG_true, wpG_false, condK_true, condK_false, seqK_normal, seqK_ret, seqK_exit, inBlock_normal, inBlock_ret, inBlock_exit, ends_ret, ends_normal, unmark_nil, results_nil, results_cons, one_one, one_zero, one_two, isB_undef, isB_tt, isB_ff, Bool.not_true, Bool.not_false, Option.bind_some, pick3, pickA, extractA, List.getElem?_cons_zero, List.getElem?_cons_succ, bin_lss, bin_gtr, bin_leq, bin_geq, bin_eql, bin_neq, un_not]
    refine drop_round hE hn0 hq hb ⟨a, cap, hve, hcells⟩ hr hcs hlen h8 hbx hrb hwb hw heq hmk hold hlp hnx huk hL ?_ ?_
    · intro hne s' g1 g2 g3
      simp only [c116o3, e3, wpC, wpI, wpS, wpD, wpV, wanted_none, wanted_some, vals, cev_const, cev_var, cev_loc, padV, okV_some, againP, true_and, and_true, upd_zero, upd_succ, nth_zero, nth_succ, wpG_true, wpG_false, condK_true, condK_false, seqK_normal, seqK_ret, seqK_exit, inBlock_normal, inBlock_ret, inBlock_exit, ends_ret, ends_normal, unmark_nil, results_nil, results_cons, one_one, one_zero, one_two, isB_undef, isB_tt, isB_ff, Bool.not_true, Bool.not_false, Option.bind_some, pick3, pickA, extractA, List.getElem?_cons_zero, List.getElem?_cons_succ, bin_lss, bin_gtr, bin_leq, bin_geq, bin_eql, bin_neq, un_not]
      rw [← hW]
      refine ih s' _ _ (by omega) g1 g2 g3 ?_ hend hhit
      rw [hl]
      show (if cleanV [] (cs.getD k []) = cleanV [] c then some k else lastV cs c k) = lastV cs c k
      rw [hgd, if_neg hne]
    · intro he s' i Z g0 g1 g2 g3 g4 g5 g6 g7
      simp only [wpC, wpI, wpS, wpD, wpV, wanted_none, wanted_some, vals, cev_const, cev_var, cev_loc, padV, okV_some, againP, true_and, and_true, upd_zero, upd_succ, nth_zero, nth_succ, wpG_true, wpG_false, condK_true, condK_false, seqK_normal, seqK_ret, seqK_exit, inBlock_normal, inBlock_ret, inBlock_exit, ends_ret, ends_normal, unmark_nil, results_nil, results_cons, one_one, one_zero, one_two, isB_undef, isB_tt, isB_ff, Bool.not_true, Bool.not_false, Option.bind_some, pick3, pickA, extractA, List.getElem?_cons_zero, List.getElem?_cons_succ, bin_lss, bin_gtr, bin_leq, bin_geq, bin_eql, bin_neq, un_not]
      refine hhit k hkl ?_ s' i Z _ _ _ g0 g1 g2 g3 g4 g5 g6 g7
      rw [hl]
      show (if cleanV [] (cs.getD k []) = cleanV [] c then some k else lastV cs c k) = some k
      rw [hgd, if_pos he]

theorem back_ok {E : Env} (hE : Good E) {s : ASt} {v : AV} (hv : v.cells = [v]) : WF E 104 [v] (fun r s' => r = .func 116 [] [.ptr (some (s.next, 0))] ∧ s' = newObj s (mkRow 22 0 [v])) s := by
  refine hE.go comp104 (by decide) rfl ?_
  have hptr : ∀ i, Made.val i .ptr = .ptr (some (i, 0)) := fun _ => rfl
  have hbox : boxA 22 v = some (mkRow 22 0 [v], .ptr) := by simp [boxA, hv]
  simp only [c104, c104o0, c104o1, hbox, hptr, List.take_zero, List.drop_zero, wpC, wpI, wpS, wpD, wpV, wanted_none, wanted_some, vals, cev_const, cev_var, cev_loc, padV, okV_some, againP, true_and, and_true, upd_zero, upd_succ, nth_zero, nth_succ, wpG_true, wpG_false, condK_true, condK_false, seqK_normal, seqK_ret, seqK_exit, inBlock_normal, inBlock_ret, inBlock_exit, ends_ret, ends_normal, unmark_nil, results_nil, results_cons, one_one, one_zero, one_two, isB_undef, isB_tt, isB_ff, Bool.not_true, Bool.not_false, Option.bind_some, pick3, pickA, extractA, List.getElem?_cons_zero, List.getElem?_cons_succ, bin_lss, bin_gtr, bin_leq, bin_geq, bin_eql, bin_neq, un_not]

theorem results_load (P : Program) (s : ASt) (v : List AV) (x : CX) (t : TypeId) (l : List (CX × Option TypeId)) : resultsA P s v ((x, some t) :: l) = (loadV P s t (cev [] v x)).bind fun u => (resultsA P s v l).bind fun r => some (u :: r) := rfl
theorem alloc22 : allocA Try.prog 22 = some (mkRow 22 0 [.slice none 0 (some 0)], .ptr) := by simp [allocA, zr22, AV.cells]
theorem alloc23 : allocA Try.prog 23 = some (mkRow 23 0 [.slice none 0 (some 0)], .ptr) := by simp [allocA, zr23, AV.cells]

set_option maxRecDepth 16000 in
/-- dropped. -/
theorem dropped_ok {E : Env} (hE : Good E) {s : ASt} {b : Nat} {v u : AV} {us : List AV} {cs : List (List Int)} {c : List Int} (hb : b ≤ s.next) (hv : SliceAt s.next s v us) (hr : RowCells b s us cs) (hcs : ∀ L ∈ cs, Plain L) (hlen : us.length ≤ 1000) (hc : Plain c) (hu : SliceAt b s u (ivs c)) :
    WF E 83 [v, u] (fun r s' => ∃ us', RowCells b s' us' (dropV cs c) ∧ (r = v ∧ us' = us ∨ ∃ i Z, r = .slice (some (i, 0)) us'.length none ∧ RowAt s' i (us' ++ Z) ∧ Z ≠ [] ∧ s.next ≤ i ∧ i < s'.next) ∧ Old s.next s s') s := by
  have hvc := hv.isCell
  have hptr : ∀ i, Made.val i .ptr = .ptr (some (i, 0)) := fun _ => rfl
  have hbox : boxA 22 v = some (mkRow 22 0 [v], .ptr) := by simp [boxA, hvc.2]
  refine hE.go comp83 (by decide) rfl ?_
  generalize hn0 : s.next = n0 at hv
  generalize hs1 : newObj s (mkRow 22 0 [v]) = s1
  have n1 : s1.next = n0 + 1 := by rw [← hs1, ← hn0]; rfl
  have o1 : Old n0 s s1 := by rw [← hs1, ← hn0]; exact Old.new s _
  have b1 : Box1 s1 n0 v := by rw [← hs1, ← hn0]; exact Box1.new
  generalize hs2 : newObj s1 (mkRow 22 0 [.slice none 0 (some 0)]) = s2
  have n2 : s2.next = n0 + 2 := by rw [← hs2]; show s1.next + 1 = _; omega
  have o2 : Old (n0 + 1) s1 s2 := by rw [← hs2, ← n1]; exact Old.new s1 _
  have b2 : Box1 s2 (n0 + 1) (.slice none 0 (some 0)) := by rw [← hs2, ← n1]; exact Box1.new
  simp only [c83, c83o0, c83o1, hbox, hn0, hs1, hptr, alloc22, hs2, n1, wpC, wpI, wpS, wpD, wpV, wanted_none, wanted_some, vals, cev_const, cev_var, cev_loc, padV, okV_some, againP, true_and, and_true, upd_zero, upd_succ, nth_zero, nth_succ, wpG_true, wpG_false, condK_true, condK_false, seqK_normal, seqK_ret, seqK_exit, inBlock_normal, inBlock_ret, inBlock_exit, ends_ret, ends_normal, unmark_nil, results_nil, results_cons, one_one, one_zero, one_two, isB_undef, isB_tt, isB_ff, Bool.not_true, Bool.not_false, Option.bind_some, pick3, pickA, extractA, List.getElem?_cons_zero, List.getElem?_cons_succ, bin_lss, bin_gtr, bin_leq, bin_geq, bin_eql, bin_neq, un_not]
  refine (clean_ok hE hc.1 hc.2.1 hc.2.2 (b := b) (by omega) (hu.old (o1.trans (o2.mono (by omega))) (by omega))).mono ?_
  rintro w s3 ⟨hw, o3, heq⟩
  rw [clean_eq hc.2.1] at hw
  have n3 : n0 + 2 ≤ s3.next := by have := o3.1; omega
  generalize hq : s3.next = q at n3 hw
  generalize hs4 : newObj s3 (mkRow 23 0 [.slice none 0 (some 0)]) = s4
  have n4 : s4.next = q + 1 := by rw [← hs4, ← hq]; rfl
  have o4 : Old q s3 s4 := by rw [← hs4, ← hq]; exact Old.new s3 _
  have b4 : Box1 s4 q (.slice none 0 (some 0)) := by rw [← hs4, ← hq]; exact Box1.new
  obtain ⟨s5, g1, g2, g3, g4⟩ := b4.store (d := w) sz23 hw.isCell.1 hw.isCell.2
  have o5 : Old q s3 s5 := o4.trans ⟨by omega, fun x hx => g4 x (by omega)⟩
  have b1' : Box1 s5 n0 v := ((b1.keep (o2.2 n0 (by omega))).keep (o3.2 n0 (by omega))).keep (o5.2 n0 (by omega))
  have b2' : Box1 s5 (n0 + 1) (.slice none 0 (some 0)) := (b2.keep (o3.2 _ (by omega))).keep (o5.2 _ (by omega))
  simp only [c83o2, alloc23, hq, hs4, on2, g1, withV, b1'.load ag22, hptr, wpC, wpI, wpS, wpD, wpV, wanted_none, wanted_some, vals, cev_const, cev_var, cev_loc, padV, okV_some, againP, true_and, and_true, upd_zero, upd_succ, nth_zero, nth_succ, wpG_true, wpG_false, condK_true, condK_false, seqK_normal, seqK_ret, seqK_exit, inBlock_normal, inBlock_ret, inBlock_exit, ends_ret, ends_normal, unmark_nil, results_nil, results_cons, one_one, one_zero, one_two, isB_undef, isB_tt, isB_ff, Bool.not_true, Bool.not_false, Option.bind_some, pick3, pickA, extractA, List.getElem?_cons_zero, List.getElem?_cons_succ, bin_lss, bin_gtr, bin_leq, bin_geq, bin_eql, bin_neq, un_not]
  refine (back_ok hE hvc.2).mono ?_
  rintro _ _ ⟨rfl, rfl⟩
  rw [show s5.next = q + 1 by omega]
  simp only [wpC, wpI, wpS, wpD, wpV, wanted_none, wanted_some, vals, cev_const, cev_var, cev_loc, padV, okV_some, againP, true_and, and_true, upd_zero, upd_succ, nth_zero, nth_succ, wpG_true, wpG_false, condK_true, condK_false, seqK_normal, seqK_ret, seqK_exit, inBlock_normal, inBlock_ret, inBlock_exit, ends_ret, ends_normal, unmark_nil, results_nil, results_cons, one_one, one_zero, one_two, isB_undef, isB_tt, isB_ff, Bool.not_true, Bool.not_false, Option.bind_some, pick3, pickA, extractA, List.getElem?_cons_zero, List.getElem?_cons_succ, bin_lss, bin_gtr, bin_leq, bin_geq, bin_eql, bin_neq, un_not]
  generalize hs6 : newObj s5 (mkRow 22 0 [v]) = s6
  have n6 : s6.next = q + 2 := by rw [← hs6]; show s5.next + 1 = _; omega
  have o6 : Old (q + 1) s5 s6 := by rw [← hs6, show q + 1 = s5.next by omega]; exact Old.new s5 _
  have b6 : Box1 s6 (q + 1) v := by rw [← hs6, show q + 1 = s5.next by omega]; exact Box1.new
  refine WC.range rfl ?_
  rw [n6]
  generalize hs7 : newObj s6 .mark = s7
  have n7 : s7.next = q + 3 := by rw [← hs7]; show s6.next + 1 = _; omega
  have o7 : Old (q + 2) s6 s7 := by rw [← hs7, ← n6]; exact Old.new s6 _
  have m7 : s7.heap.get (q + 2) = some .mark := by rw [← hs7, heap_new, if_pos n6.symm]
  generalize hs8 : newObj s7 _ = s8
  have n8 : s8.next = q + 4 := by rw [← hs8]; show s7.next + 1 = _; omega
  have o8 : Old (q + 3) s7 s8 := by rw [← hs8, ← n7]; exact Old.new s7 _
  have l8 : loopAt s8 (q + 3) = some (loop83 v u n0 q undefA undefA undefA undefA undefA) := by
    unfold loopAt; rw [← hs8, heap_new, if_pos n7.symm]; rfl
  have o58 : Old (q + 1) s5 s8 := o6.trans ((o7.mono (by omega)).trans (o8.mono (by omega)))
  have h8 : Old n0 s s8 := (o1.trans (o2.mono (by omega))).trans ((o3.mono (by omega)).trans ((o5.mono (by omega)).trans (o58.mono (by omega))))
  have hbx := b1'.keep (o58.2 n0 (by omega))
  have hrb := b2'.keep (o58.2 (n0 + 1) (by omega))
  have hwb := g2.keep (o58.2 q (by omega))
  have hbb := (b6.keep (o7.2 (q + 1) (by omega))).keep (o8.2 (q + 1) (by omega))
  have hmk : s8.heap.get (q + 2) = some .mark := by rw [o8.2 _ (by omega)]; exact m7
  have hw8 : SliceAt q s8 w (ivs (cleanV [] c)) := hw.old (o5.trans (o58.mono (by omega))) (Nat.le_refl _)
  have hlv : lenA Try.prog s8 22 v = some (iv (us.length : Int)) := by obtain ⟨a, cap, rfl, _⟩ := hv; exact len_slice Try.underlying22
  have hsub := bin_sub Try.prog 3 (us.length : Int) 1 ⟨by omega, by omega⟩
  have huc : us.length = cs.length := hr.1
  refine hE.go comp116 (by decide) rfl ?_
  simp only [c116, c116o0, List.nil_append, List.cons_append, hbb.load ag22, hlv, hsub, wpC, wpI, wpS, wpD, wpV, wanted_none, wanted_some, vals, cev_const, cev_var, cev_loc, padV, okV_some, againP, true_and, and_true, upd_zero, upd_succ, nth_zero, nth_succ, wpG_true, wpG_false, condK_true, condK_false, seqK_normal, seqK_ret, seqK_exit, inBlock_normal, inBlock_ret, inBlock_exit, ends_ret, ends_normal, unmark_nil, results_nil, results_cons, one_one, one_zero, one_two, isB_undef, isB_tt, isB_ff, Bool.not_true, Bool.not_false, Option.bind_some, pick3, pickA, extractA, List.getElem?_cons_zero, List.getElem?_cons_succ, bin_lss, bin_gtr, bin_leq, bin_geq, bin_eql, bin_neq, un_not]
  rw [huc]
  refine back_loop hE hn0 n3 (by omega) hv hr hcs hlen h8 hbx hrb hwb hw8 heq hmk hbb cs.length s8 _ _ (Nat.le_refl _) (Old.refl _ _) l8 (by omega) rfl ?_ ?_
  · intro hnone s' y2 y3 y4 h1 h2 h3
    have hdr : dropV cs c = cs := by unfold dropV; rw [hnone]; rfl
    simp only [if_true, wpC, wpI, wpS, wpD, wpV, wanted_none, wanted_some, vals, cev_const, cev_var, cev_loc, padV, okV_some, againP, true_and, and_true, upd_zero, upd_succ, nth_zero, nth_succ, wpG_true, wpG_false, condK_true, condK_false, seqK_normal, seqK_ret, seqK_exit, inBlock_normal, inBlock_ret, inBlock_exit, ends_ret, ends_normal, unmark_nil, results_nil, results_cons, one_one, one_zero, one_two, isB_undef, isB_tt, isB_ff, Bool.not_true, Bool.not_false, Option.bind_some, pick3, pickA, extractA, List.getElem?_cons_zero, List.getElem?_cons_succ, bin_lss, bin_gtr, bin_leq, bin_geq, bin_eql, bin_neq, un_not]
    refine ⟨_, h2, rfl, ?_⟩
    generalize hs9 : setObj s' (q + 3) _ = s9
    have n9 : s9.next = s'.next := by rw [← hs9]; rfl
    have o9 : Old (q + 3) s8 s9 := h1.trans ⟨by omega, fun x hx => by rw [← hs9, heap_set, if_neg (by omega)]⟩
    obtain ⟨t1, k1, k2, k3, k4⟩ := (hrb.keep (o9.2 (n0 + 1) (by omega))).store (d := v) sz22 hvc.1 hvc.2
    have mk1 : t1.heap.get (q + 2) = some .mark := by rw [k4 _ (by omega), o9.2 _ (by omega)]; exact hmk
    show PendK _ _ _ _ none
    simp only [PendK, c83o8, (hbx.keep (o9.2 n0 (by omega))).load ag22, on2, k1, withV, unmark_one mk1, wpC, wpI, wpS, wpD, wpV, wanted_none, wanted_some, vals, cev_const, cev_var, cev_loc, padV, okV_some, againP, true_and, and_true, upd_zero, upd_succ, nth_zero, nth_succ, wpG_true, wpG_false, condK_true, condK_false, seqK_normal, seqK_ret, seqK_exit, inBlock_normal, inBlock_ret, inBlock_exit, ends_ret, ends_normal, unmark_nil, results_nil, results_cons, one_one, one_zero, one_two, isB_undef, isB_tt, isB_ff, Bool.not_true, Bool.not_false, Option.bind_some, pick3, pickA, extractA, List.getElem?_cons_zero, List.getElem?_cons_succ, bin_lss, bin_gtr, bin_leq, bin_geq, bin_eql, bin_neq, un_not]
    have k2' : Box1 (delObj t1 (q + 2)) (n0 + 1) v := k2.keep (by rw [heap_del, if_neg (by omega)])
    simp only [results_load, k2'.load ag22, wpC, wpI, wpS, wpD, wpV, wanted_none, wanted_some, vals, cev_const, cev_var, cev_loc, padV, okV_some, againP, true_and, and_true, upd_zero, upd_succ, nth_zero, nth_succ, wpG_true, wpG_false, condK_true, condK_false, seqK_normal, seqK_ret, seqK_exit, inBlock_normal, inBlock_ret, inBlock_exit, ends_ret, ends_normal, unmark_nil, results_nil, results_cons, one_one, one_zero, one_two, isB_undef, isB_tt, isB_ff, Bool.not_true, Bool.not_false, Option.bind_some, pick3, pickA, extractA, List.getElem?_cons_zero, List.getElem?_cons_succ, bin_lss, bin_gtr, bin_leq, bin_geq, bin_eql, bin_neq, un_not]
    have hfin : Old n0 s (delObj t1 (q + 2)) := h8.trans ((o9.mono (by omega)).trans ⟨by show s9.next ≤ t1.next; omega, fun x hx => by rw [heap_del, if_neg (by omega), k4 x (by omega)]⟩)
    exact ⟨us, by rw [hdr]; exact hr.old (hfin.mono (by omega)), .inl (by simp), hfin⟩
  · intro k hk hsome s' i Z y2 y3 y4 hZ h1 h2 h3 h4 h5 h6 h7
    have hdr : dropV cs c = cs.take k ++ cs.drop (k + 1) := by unfold dropV; rw [hsome]; rfl
    simp only [wpC, wpI, wpS, wpD, wpV, wanted_none, wanted_some, vals, cev_const, cev_var, cev_loc, padV, okV_some, againP, true_and, and_true, upd_zero, upd_succ, nth_zero, nth_succ, wpG_true, wpG_false, condK_true, condK_false, seqK_normal, seqK_ret, seqK_exit, inBlock_normal, inBlock_ret, inBlock_exit, ends_ret, ends_normal, unmark_nil, results_nil, results_cons, one_one, one_zero, one_two, isB_undef, isB_tt, isB_ff, Bool.not_true, Bool.not_false, Option.bind_some, pick3, pickA, extractA, List.getElem?_cons_zero, List.getElem?_cons_succ, bin_lss, bin_gtr, bin_leq, bin_geq, bin_eql, bin_neq, un_not]
    refine ⟨_, h7, rfl, ?_⟩
    generalize hs9 : setObj s' (q + 3) _ = s9
    have n9 : s9.next = s'.next := by rw [← hs9]; rfl
    have e9 : ∀ x, x ≠ q + 3 → s9.heap.get x = s'.heap.get x := fun x hx => by rw [← hs9, heap_set, if_neg hx]
    have mk1 : s9.heap.get (q + 2) = some .mark := by rw [e9 _ (by omega)]; exact h6
    show PendK _ _ _ _ (some .ret)
    simp only [PendK, unmark_one mk1, wpC, wpI, wpS, wpD, wpV, wanted_none, wanted_some, vals, cev_const, cev_var, cev_loc, padV, okV_some, againP, true_and, and_true, upd_zero, upd_succ, nth_zero, nth_succ, wpG_true, wpG_false, condK_true, condK_false, seqK_normal, seqK_ret, seqK_exit, inBlock_normal, inBlock_ret, inBlock_exit, ends_ret, ends_normal, unmark_nil, results_nil, results_cons, one_one, one_zero, one_two, isB_undef, isB_tt, isB_ff, Bool.not_true, Bool.not_false, Option.bind_some, pick3, pickA, extractA, List.getElem?_cons_zero, List.getElem?_cons_succ, bin_lss, bin_gtr, bin_leq, bin_geq, bin_eql, bin_neq, un_not]
    have k2' : Box1 (delObj s9 (q + 2)) (n0 + 1) _ := (h2.keep (e9 _ (by omega))).keep (by rw [heap_del, if_neg (by omega)])
    simp only [results_load, k2'.load ag22, wpC, wpI, wpS, wpD, wpV, wanted_none, wanted_some, vals, cev_const, cev_var, cev_loc, padV, okV_some, againP, true_and, and_true, upd_zero, upd_succ, nth_zero, nth_succ, wpG_true, wpG_false, condK_true, condK_false, seqK_normal, seqK_ret, seqK_exit, inBlock_normal, inBlock_ret, inBlock_exit, ends_ret, ends_normal, unmark_nil, results_nil, results_cons, one_one, one_zero, one_two, isB_undef, isB_tt, isB_ff, Bool.not_true, Bool.not_false, Option.bind_some, pick3, pickA, extractA, List.getElem?_cons_zero, List.getElem?_cons_succ, bin_lss, bin_gtr, bin_leq, bin_geq, bin_eql, bin_neq, un_not]
    have hfin : Old n0 s (delObj s9 (q + 2)) := h1.trans ⟨by show s'.next ≤ s9.next; omega, fun x hx => by rw [heap_del, if_neg (by omega), e9 x (by omega)]⟩
    have hr9 : RowAt (delObj s9 (q + 2)) i ((us.take k ++ us.drop (k + 1)) ++ Z) := (h5.keep (e9 i (by omega))).keep (by rw [heap_del, if_neg (by omega)])
    refine ⟨us.take k ++ us.drop (k + 1), ?_, .inr ⟨i, Z, rfl, hr9, hZ, by omega, by show i < s9.next; omega⟩, hfin⟩
    rw [hdr]
    have := hr.old (hfin.mono (show b ≤ n0 by omega))
    exact (this.take k).append (this.drop (k + 1))
end Go.Proofs.Ytilhhmkdcoajnaa.Am

/- The memory of what a trace has learned; what the program's states does, round by round; conditions: short plain clauses, few lines. -/
set_option linter.unusedVariables false
set_option linter.unusedSimpArgs false
namespace Go.Proofs.Ytilhhmkdcoajnaa.Am
open Go Go.Proofs

/-! ### Lines in memory -/
def TraceAt (b : Nat) (s : ASt) (v : AV) (T : Trace20) : Prop := ∃ a cap, v = .slice a T.length cap ∧ ∀ k d L, T[k]? = some (d, L) →
  ∃ i o u, a = some (i, o) ∧ i < b ∧ load1 s i (o + k * 2) = some (.bool d) ∧ load1 s i (o + k * 2 + 1) = some u ∧ SliceAt b s u (ivs L)
theorem TraceAt.old {b b' : Nat} {s s' : ASt} {v : AV} {T : Trace20} (h : TraceAt b s v T) (k : Old b' s s') (hb : b ≤ b') : TraceAt b s' v T := by
  obtain ⟨a, cap, hv, hc⟩ := h
  refine ⟨a, cap, hv, fun j d L hj => ?_⟩
  obtain ⟨i, o, u, h1, h2, h3, h4, h5⟩ := hc j d L hj
  exact ⟨i, o, u, h1, h2, by rw [load1_eq (k.2 i (by omega))]; exact h3, by rw [load1_eq (k.2 i (by omega))]; exact h4, h5.old k hb⟩
theorem TraceAt.mono {b b' : Nat} {s : ASt} {v : AV} {T : Trace20} (h : TraceAt b s v T) (hb : b ≤ b') : TraceAt b' s v T := by
  obtain ⟨a, cap, hv, hc⟩ := h
  refine ⟨a, cap, hv, fun j d L hj => ?_⟩
  obtain ⟨i, o, u, h1, h2, h3, h4, h5⟩ := hc j d L hj
  exact ⟨i, o, u, h1, by omega, h3, h4, h5.mono hb⟩
theorem TraceAt.isCell {b : Nat} {s : ASt} {v : AV} {T : Trace20} (h : TraceAt b s v T) : v.isCell = true ∧ v.cells = [v] := by
  obtain ⟨a, cap, rfl, _⟩ := h
  exact ⟨rfl, rfl⟩
theorem MadeT.trace {lo : Nat} {s : ASt} {v : AV} {us : List AV} {T : Trace20} {O : List Nat} (h : MadeT lo s v us T O) : TraceAt s.next s v T := by
  obtain ⟨a, cap, hv, hc⟩ := h.dest.cells
  refine ⟨a, cap, hv, fun k d L hk => ?_⟩
  obtain ⟨i, o, u, cap', e, h1, h2, h3, h4, _⟩ := h.line hk
  rw [hv] at e
  injection e with e1 e2 e3
  exact ⟨i, o, u, e1, h1, h2, h3, h4⟩
theorem load_two {s : ASt} {i o : Nat} {c0 c1 : AV} (h0 : load1 s i o = some c0) (h1 : load1 s i (o + 1) = some c1) : loadN s i o 2 = some [c0, c1] := by
  unfold load1 at h0 h1
  cases hr : rowAt s i with
  | none => rw [hr] at h0; cases h0
  | some r =>
    rw [hr] at h0 h1
    simp only [Option.bind_some] at h0 h1
    obtain ⟨g0, h0⟩ := guardB_some h0
    obtain ⟨g1, h1⟩ := guardB_some h1
    have hlt : o + 1 < r.n := by simpa [Nat.blt_eq] using g1
    simp [loadN, hr, guardB, ble_of (show o + 2 ≤ r.n by omega), Tree.take, h0, h1]

def stepT (cs : List (List Int)) (x : Bool × List Int) : List (List Int) := if x.1 then dropV cs x.2 else cs ++ [x.2]
/-- What a trace has learned. -/
def learnT (T : Trace20) : List (List Int) := T.foldl stepT []
theorem learnT_succ {T : Trace20} {k : Nat} {x : Bool × List Int} (h : T[k]? = some x) : learnT (T.take (k + 1)) = stepT (learnT (T.take k)) x := by
  unfold learnT
  have hlt := lt_of_get h
  have : T.take (k + 1) = T.take k ++ [x] := by
    rw [List.take_succ_eq_append_getElem hlt]
    congr 2
    rw [List.getElem?_eq_getElem hlt] at h
    injection h
  rw [this, List.foldl_append]; rfl
theorem without_mem {α : Type} {l : List α} {o : Option Nat} {x : α} (h : x ∈ without l o) : x ∈ l := by
  cases o with
  | none => exact h
  | some k =>
    rcases List.mem_append.1 h with h | h
    · exact List.mem_of_mem_take h
    · exact List.mem_of_mem_drop h
theorem without_len {α : Type} {l : List α} {o : Option Nat} : (without l o).length ≤ l.length := by
  cases o with
  | none => exact Nat.le_refl _
  | some k => show (l.take k ++ l.drop (k + 1)).length ≤ _; simp; omega
theorem learnT_mem : ∀ {T : Trace20} {L : List Int}, L ∈ learnT T → ∃ d, (d, L) ∈ T := by
  have : ∀ (T : Trace20) (cs : List (List Int)) (L : List Int), L ∈ T.foldl stepT cs → L ∈ cs ∨ ∃ d, (d, L) ∈ T := by
    intro T
    induction T with
    | nil => intro cs L h; exact .inl h
    | cons x T ih =>
      intro cs L h
      rcases ih _ L h with h | ⟨d, h⟩
      · obtain ⟨d, M⟩ := x
        unfold stepT at h
        cases d with
        | true => exact .inl (without_mem h)
        | false =>
          rcases List.mem_append.1 h with h | h
          · exact .inl h
          · have : L = M := by simpa using h
            exact .inr ⟨false, by rw [this]; exact List.mem_cons_self⟩
      · exact .inr ⟨d, List.mem_cons_of_mem _ h⟩
  intro T L h
  exact (this T [] L h).resolve_left (fun h => by cases h)
theorem learnT_len : ∀ {T : Trace20}, (learnT T).length ≤ T.length := by
  have : ∀ (T : Trace20) (cs : List (List Int)), (T.foldl stepT cs).length ≤ cs.length + T.length := by
    intro T
    induction T with
    | nil => intro cs; exact Nat.le_refl _
    | cons x T ih =>
      intro cs
      refine Nat.le_trans (ih _) ?_
      have : (stepT cs x).length ≤ cs.length + 1 := by
        unfold stepT
        split
        · exact Nat.le_trans without_len (by omega)
        · simp
      simp only [List.length_cons]
      omega
  intro T
  have := this T []
  rw [List.length_nil, Nat.zero_add] at this
  exact this

/-! ### What has been learned, in memory -/
def Learn (s : ASt) (v : AV) (us : List AV) : Prop := (∃ a, v = .slice a us.length (some us.length) ∧ Dest s v us.length 1 us []) ∨
  (∃ i Z r, v = .slice (some (i, 0)) us.length none ∧ s.heap.get i = some (.row r) ∧ Holds r (us ++ Z) ∧ r.sz = 1 ∧ 0 < (us ++ Z).length ∧ i < s.next)
theorem Learn.nil (s : ASt) : Learn s (.slice none 0 (some 0)) [] := .inl ⟨none, rfl, Dest.nil s 1⟩
theorem Learn.frame {s s' : ASt} {v : AV} {us : List AV} (h : Learn s v us) (hn : s.next ≤ s'.next) (k : ∀ j, j < s.next → slot v = some j → s'.heap.get j = s.heap.get j) : Learn s' v us := by
  rcases h with ⟨a, rfl, h2⟩ | ⟨i, Z, r, rfl, h2, h3, h4, h5, h6⟩
  · exact .inl ⟨a, rfl, h2.frame hn fun j hj => k j (h2.slot_lt j hj) hj⟩
  · exact .inr ⟨i, Z, r, rfl, by rw [k i h6 rfl]; exact h2, h3, h4, h5, by omega⟩
theorem Learn.slice {s : ASt} {v : AV} {us : List AV} (h : Learn s v us) : SliceAt s.next s v us := by
  rcases h with ⟨a, rfl, h2⟩ | ⟨i, Z, r, rfl, h2, h3, h4, h5, h6⟩
  · obtain ⟨a', cap, e, hc⟩ := h2.cells
    exact ⟨a', cap, e, hc⟩
  · refine ⟨_, _, rfl, fun k u hk => ⟨i, 0, rfl, h6, ?_⟩⟩
    have hlt := lt_of_get hk
    rw [Nat.zero_add]
    exact load1_row h2 (by rw [h3.1]; simp; omega) (h3.2 k u (by rw [List.getElem?_append_left hlt]; exact hk))
theorem Learn.len {s : ASt} {v : AV} {us : List AV} (h : Learn s v us) (s' : ASt) : lenA Try.prog s' 22 v = some (iv (us.length : Int)) := by
  obtain ⟨a, cap, rfl, _⟩ := h.slice
  exact len_slice Try.underlying22
set_option maxRecDepth 4000 in
theorem Learn.full {s : ASt} {v : AV} {us : List AV} (h : Learn s v us) :
    ∃ a, sliceOpnds Try.prog 22 false true true s [v, iv (us.length : Int), iv (us.length : Int)] = some (.slice a us.length (some us.length)) ∧ Dest s (.slice a us.length (some us.length)) us.length 1 us [] ∧ slot (.slice a us.length (some us.length)) = slot v := by
  have hb : ∀ n : Nat, us.length ≤ n → boundA (iv (us.length : Int)) n = some us.length := fun n hn => by simp [boundA, idxOf, natOf_nat, guardB, ble_of hn]
  have hb' := hb us.length (Nat.le_refl _)
  rcases h with ⟨a, rfl, h2⟩ | ⟨i, Z, r, rfl, h2, h3, h4, h5, h6⟩
  · refine ⟨a, ?_, h2, rfl⟩
    show sliceA Try.prog s 22 (.slice a us.length (some us.length)) none (some (iv (us.length : Int))) (some (iv (us.length : Int))) = _
    cases a with
    | none => simp [sliceA, Try.underlying22, sz23, hb', guardB]
    | some io =>
      obtain ⟨i, o⟩ := io
      cases hz : Nat.beq us.length 0 <;> simp [sliceA, Try.underlying22, sz23, hb', guardB, hz]
  · refine ⟨some (i, 0), ?_, .inl ⟨_, rfl, rfl, by omega, (fun e => by cases e), fun i' o' e => ?_⟩, rfl⟩
    · show sliceA Try.prog s 22 (.slice (some (i, 0)) us.length none) none (some (iv (us.length : Int))) (some (iv (us.length : Int))) = _
      have hn : r.n = us.length + Z.length := by rw [h3.1]; simp
      have hb0 := hb r.n (by omega)
      have hpos : 0 < r.n := by simp at h5; omega
      cases hz : Nat.beq us.length 0 <;> simp [sliceA, Try.underlying22, sz23, rowAt, h2, h4, hb', hb0, guardB, ble_of (Nat.zero_le r.n), show Nat.beq 1 0 = false from rfl, blt_of hpos, hz]
    · injection e with e
      injection e with e1 e2
      subst e1; subst e2
      refine ⟨h6, ?_⟩
      have := loadN_holds h2 h3 0 us (by simp) (fun j u hj => by rw [Nat.zero_add, List.getElem?_append_left (lt_of_get hj)]; exact hj)
      rw [Nat.mul_one]; exact this
theorem Learn.of_dest {s : ASt} {v : AV} {us : List AV} {O : List Nat} (h : Dest s v us.length 1 us O) (h0 : 0 < us.length) : Learn s v us := by
  rcases h with ⟨a, rfl, rfl, h3, h4, h5⟩ | ⟨i, p, rfl, h6, h7⟩
  · exact .inl ⟨a, rfl, .inl ⟨a, rfl, rfl, h3, h4, h5⟩⟩
  · rcases h6.ex with ⟨e', _⟩ | ⟨_, q1, q2, q3, r, q4, q5, q6, q7, q8, q9⟩
    · cases e'
    · exact .inr ⟨i, [], r, rfl, q4, by rw [List.append_nil]; exact q5, q8, by simpa using h0, q2⟩

/-- Nothing that is there has changed, but one object. -/
def OldBut (l : Nat) (s s' : ASt) : Prop := s.next ≤ s'.next ∧ ∀ x, x < s.next → x ≠ l → s'.heap.get x = s.heap.get x
theorem OldBut.old {l : Nat} {s s' : ASt} (h : OldBut l s s') (hl : l ≤ s.next) : Old l s s' := ⟨h.1, fun x hx => h.2 x (by omega) (by omega)⟩
theorem Old.but {l : Nat} {s s' : ASt} (h : Old s.next s s') : OldBut l s s' := ⟨h.1, fun x hx _ => h.2 x hx⟩
theorem OldBut.trans {l : Nat} {s s1 s2 : ASt} (h : OldBut l s s1) (k : OldBut l s1 s2) : OldBut l s s2 := ⟨Nat.le_trans h.1 k.1, fun x hx hl => (k.2 x (Nat.lt_of_lt_of_le hx h.1) hl).trans (h.2 x hx hl)⟩
theorem OldBut.refl (l : Nat) (s : ASt) : OldBut l s s := ⟨Nat.le_refl _, fun _ _ _ => rfl⟩

/-- A trace of few short plain lines. -/
def PlainT (T : Trace20) : Prop := T.length ≤ 100 ∧ ∀ x ∈ T, Plain x.2
theorem PlainT.learn {T : Trace20} (h : PlainT T) (k : Nat) : (∀ L ∈ learnT (T.take k), Plain L) ∧ (learnT (T.take k)).length ≤ 100 := by
  refine ⟨fun L hL => ?_, ?_⟩
  · obtain ⟨d, hd⟩ := learnT_mem hL
    exact h.2 _ (List.mem_of_mem_take hd)
  · have := learnT_len (T := T.take k)
    have h1 := h.1
    have : (T.take k).length ≤ T.length := by simp; omega
    omega

/-- The memory of a round. -/
structure AtState (b l : Nat) (s0 s : ASt) (T : Trace20) (k : Nat) (v : AV) : Prop where
  ex : ∃ us, Learn s v us ∧ RowCells b s us (learnT (T.take k)) ∧ slot v ≠ some l
  old : Old l s0 s
  lt : l < s.next

theorem push_row {s : ASt} {v : AV} {n : Nat} {us : List AV} {O : List Nat} (hd : Dest s v n 1 us O) (hl : n ≤ 1000000000) {x : AV} (hc : x.isCell = true) :
    ∃ v' s' O', appendA Try.prog (newObj s (mkRow 23 1 [x])) [22, 22] [v, .slice (some (s.next, 0)) 1 (some 1)] = some (v', s') ∧ Dest s' v' (n + 1) 1 (us ++ [x]) O' ∧ s.next ≤ s'.next ∧
      (∀ j, j < s.next → j ∉ O → s'.heap.get j = s.heap.get j) ∧ (∀ j ∈ O', j ∈ O ∨ s.next < j) ∧ (∀ j, slot v' = some j → slot v = some j ∨ s.next < j) := by
  have c1 := src_one (P := Try.prog) (e := 23) (s := newObj s (mkRow 23 1 [x])) (n := 1) (cap := some 1) (sz := 1) 23 1 (by rw [heap_new, if_pos rfl]) rfl
  obtain ⟨v', s', O', h1, h2, h3, h4, h5, h6, h7⟩ := (hd.new (mkRow 23 1 [x])).append (P := Try.prog) (st := 22) (xt := 22) Try.underlying22 sz23 by23 (by decide) (strx 22 23 Try.underlying22) zero23 c1 rfl (by simp [allCells, hc]) (by omega) (by omega)
  have hn : (newObj s (mkRow 23 1 [x])).next = s.next + 1 := rfl
  refine ⟨v', s', O', h1, h2, by omega, ?_, ?_, ?_⟩
  · intro j hj ho
    rw [h5 j (by omega) ho, heap_new, if_neg (by omega)]
  · intro j hj
    exact (h6 j hj).imp id (fun h => by omega)
  · intro j hj
    exact (h7 j hj).imp id (fun h => by omega)

set_option maxRecDepth 16000 in
theorem states_loop {E : Env} (hE : Good E) {b l bx : Nat} {s0 : ASt} {v : AV} {T : Trace20} (hT : TraceAt b s0 v T) (hP : PlainT T) (hbl : b ≤ l) (hbx : Box1 s0 bx v) (hbxl : bx < l) {LI : Nat → ASt → Prop} {Fin : ASt → Prop}
    (hframe : ∀ k s s', LI k s → OldBut l s s' → l < s.next → s'.heap.get l = s.heap.get l → LI k s')
    (hround : ∀ (k : Nat) (s : ASt) (w : AV) (K : AV → ASt → Prop), k < T.length → AtState b l s0 s T k w → LI k s → (∀ s', OldBut l s s' → LI (k + 1) s' → K (.bool true) s') → (∀ s', Fin s' → K (.bool false) s') → WR E l [iv (k : Int), w] K s)
    {Q : ARes → Prop} :
    ∀ (t : List (Bool × List Int)) (k : Nat) (s : ASt) (w x3 x4 x8 x9 x10 : AV), T.drop k = t → k ≤ T.length → AtState b l s0 s T k w → LI k s →
      (∀ s' w' y3 y4 y8 y9 y10, AtState b l s0 s' T T.length w' → LI T.length s' → Q ⟨.exit 0, [.yield l, .ptr (some (bx, 0)), w', y3, y4, v, iv (T.length : Int), iv (T.length : Int), y8, y9, y10], [], s'⟩) →
      (∀ s' y2 y3 y4 y7 y8 y9 y10, Fin s' → Q ⟨.ret, [.yield l, .ptr (some (bx, 0)), y2, y3, y4, v, iv (T.length : Int), y7, y8, y9, y10], [], s'⟩) →
      WC E none (.loop c82l9) Q [.yield l, .ptr (some (bx, 0)), w, x3, x4, v, iv (T.length : Int), iv (k : Int), x8, x9, x10] [] s := by
  intro t
  induction t with
  | nil =>
    intro k s w x3 x4 x8 x9 x10 hd hk hat hli hend hret
    have := drop_end hd hk
    subst this
    refine WC.loop' ?_
    simp only [c82l9, c82o2, Int.lt_irrefl, decide_false, wpC, wpI, wpS, wpD, wpV, wanted_none, wanted_some, vals, cev_const, cev_var, cev_loc, padV, okV_some, againP, true_and, and_true, upd_zero, upd_succ, nth_zero, nth_succ, wpG_true, wpG_false, condK_true, condK_false, seqK_normal, seqK_ret, seqK_exit, inBlock_normal, inBlock_ret, inBlock_exit, ends_ret, ends_normal, unmark_nil, results_nil, results_cons, one_one, one_zero, one_two, isB_undef, isB_tt, isB_ff, Bool.not_true, Bool.not_false, Option.bind_some, pick3, pickA, extractA, List.getElem?_cons_zero, List.getElem?_cons_succ, bin_lss, bin_gtr, bin_leq, bin_geq, bin_eql, bin_neq, un_not]
    exact hend s w _ _ _ _ _ hat hli
  | cons x t ih =>
    intro k s w x3 x4 x8 x9 x10 hd hk hat hli hend hret
    obtain ⟨d, L⟩ := x
    obtain ⟨hlt, hx, hd'⟩ := drop_facts hd
    have hT1 := hP.1
    have hkk : decide ((k : Int) < (T.length : Int)) = true := decide_eq_true (by omega)
    have e3 := bin_add Try.prog 3 (k : Int) 1 ⟨by omega, by omega⟩
    have hcast : ((k : Int) + 1) = ((k + 1 : Nat) : Int) := by omega
    obtain ⟨a, cap, hv, hc⟩ := hT.old hat.old hbl
    obtain ⟨i, o, u, ha, hi, hl1, hl2, hu⟩ := hc k d L hx
    have e1 : indexAddrA Try.prog 33 v (iv (k : Int)) = some (.ptr (some (i, o + k * 2))) := by rw [hv, ha]; exact idx_slice Try.underlying33 sz27 hlt
    have e2 : loadV Try.prog s 27 (.ptr (some (i, o + k * 2))) = some (.agg [.bool d, u]) := by simp [loadV, ag27, sz27, load_two hl1 hl2]
    have hal : allocA Try.prog 27 = some (mkRow 27 0 [.bool false, .slice none 0 (some 0)], .ptr) := by simp [allocA, zr27, AV.cells]
    have hmv : ∀ i, Made.val i .ptr = .ptr (some (i, 0)) := fun _ => rfl
    generalize hs1 : newObj s (mkRow 27 0 [.bool false, .slice none 0 (some 0)]) = s1
    have n1 : s1.next = s.next + 1 := by rw [← hs1]; rfl
    have o1 : Old s.next s s1 := by rw [← hs1]; exact Old.new s _
    have bx1 : Box2 s1 s.next (.bool false) (.slice none 0 (some 0)) := by
      obtain ⟨r, h1, h2, h3, h4, h5, h6⟩ := holds_mkRow 27 0 [.bool false, .slice none 0 (some 0)]
      exact ⟨r, by rw [← hs1, heap_new, if_pos rfl, h1], h2, h5, h6⟩
    obtain ⟨s2, g1, g2, g3, g4⟩ := bx1.store (d0 := .bool d) (d1 := u) rfl hu.isCell.1
    have o2 : OldBut l s s2 := ⟨by omega, fun x hx _ => by rw [g4 x (by omega), o1.2 x hx]⟩
    have hltl := hat.lt
    have l2 : LI k s2 := hframe k s s2 hli o2 hltl (by rw [g4 l (by omega), o1.2 l hltl])
    have at2 : AtState b l s0 s2 T k w := by
      obtain ⟨us, h1, h2, h3⟩ := hat.ex
      exact ⟨⟨us, h1.frame o2.1 fun j hj hs => by rw [g4 j (by omega), o1.2 j hj], h2.old ((o2.old (by omega)).mono hbl), h3⟩, hat.old.trans (o2.old (by omega)), by omega⟩
    refine WC.loop' ?_
    generalize hW : WC E none (CCode.loop c82l9) Q = W
    simp only [c82l9, c82o2, c82o3, hkk, e1, e2, hal, hmv, hs1, on2, g1, withV, c82o4, wpV, wpC, wpI, wpS, wpD, wpV, wanted_none, wanted_some, vals, cev_const, cev_var, cev_loc, padV, okV_some, againP, true_and, and_true, upd_zero, upd_succ, nth_zero, nth_succ, wpG_true, wpG_false, condK_true, condK_false, seqK_normal, seqK_ret, seqK_exit, inBlock_normal, inBlock_ret, inBlock_exit, ends_ret, ends_normal, unmark_nil, results_nil, results_cons, one_one, one_zero, one_two, isB_undef, isB_tt, isB_ff, Bool.not_true, Bool.not_false, Option.bind_some, pick3, pickA, extractA, List.getElem?_cons_zero, List.getElem?_cons_succ, bin_lss, bin_gtr, bin_leq, bin_geq, bin_eql, bin_neq, un_not]
    refine hround k s2 w _ hlt at2 l2 ?_ ?_
    · intro s3 o3 l3
      have hlb : Box2 s3 s.next (.bool d) u := g2.keep (o3.2 s.next (by omega) (by omega))
      have ld0 : loadV Try.prog s3 4 (.ptr (some (s.next, 0))) = some (.bool d) := load_one ag4 hlb.load0
      have ld1 : loadV Try.prog s3 23 (.ptr (some (s.next, 0 + 1))) = some u := load_one ag23 hlb.load1
      have old3 : Old l s0 s3 := at2.old.trans (o3.old (by omega))
      have hu3 : SliceAt b s3 u (ivs L) := hu.old ((o2.old (by omega)).trans (o3.old (by omega))) hbl
      obtain ⟨us, h1, h2, h3⟩ := at2.ex
      have k1 : Learn s3 w us := h1.frame o3.1 fun j hj hs => o3.2 j hj (fun e => h3 (by rw [hs, e]))
      have k2 : RowCells b s3 us (learnT (T.take k)) := h2.old ((o3.old (by omega)).mono hbl)
      have hlen : us.length ≤ 100 := by rw [k2.1]; exact (hP.learn k).2
      have hlt3 : l < s3.next := by have := o3.1; omega
      have hPL : Plain L := hP.2 _ (List.mem_of_getElem? hx)
      cases d with
      | true =>
        simp only [Bool.not_true, c82o5, fa27_0, ld0, c82o6, fa27_1, ld1, wpC, wpI, wpS, wpD, wpV, wanted_none, wanted_some, vals, cev_const, cev_var, cev_loc, padV, okV_some, againP, true_and, and_true, upd_zero, upd_succ, nth_zero, nth_succ, wpG_true, wpG_false, condK_true, condK_false, seqK_normal, seqK_ret, seqK_exit, inBlock_normal, inBlock_ret, inBlock_exit, ends_ret, ends_normal, unmark_nil, results_nil, results_cons, one_one, one_zero, one_two, isB_undef, isB_tt, isB_ff, Bool.not_true, Bool.not_false, Option.bind_some, pick3, pickA, extractA, List.getElem?_cons_zero, List.getElem?_cons_succ, bin_lss, bin_gtr, bin_leq, bin_geq, bin_eql, bin_neq, un_not]
        refine (dropped_ok hE (b := b) (by omega) k1.slice k2 (hP.learn k).1 (by omega) hPL hu3).mono ?_
        rintro r s4 ⟨us', hr', hdis, ho4⟩
        simp only [c82o8, e3, hcast, wpC, wpI, wpS, wpD, wpV, wanted_none, wanted_some, vals, cev_const, cev_var, cev_loc, padV, okV_some, againP, true_and, and_true, upd_zero, upd_succ, nth_zero, nth_succ, wpG_true, wpG_false, condK_true, condK_false, seqK_normal, seqK_ret, seqK_exit, inBlock_normal, inBlock_ret, inBlock_exit, ends_ret, ends_normal, unmark_nil, results_nil, results_cons, one_one, one_zero, one_two, isB_undef, isB_tt, isB_ff, Bool.not_true, Bool.not_false, Option.bind_some, pick3, pickA, extractA, List.getElem?_cons_zero, List.getElem?_cons_succ, bin_lss, bin_gtr, bin_leq, bin_geq, bin_eql, bin_neq, un_not]
        rw [← hW]
        have hn4 := ho4.1
        refine ih (k + 1) s4 r _ _ _ _ _ hd' hlt ⟨⟨us', ?_, by rw [learnT_succ hx]; exact hr', ?_⟩, old3.trans (ho4.mono (by omega)), by omega⟩ (hframe (k + 1) s3 s4 l3 ho4.but hlt3 (ho4.2 l hlt3)) hend hret
        · rcases hdis with ⟨rfl, rfl⟩ | ⟨i, Z, rfl, ⟨rw1, q1, q2, q3, q4, q5⟩, hZ, hi1, hi2⟩
          · exact k1.frame hn4 fun j hj _ => ho4.2 j hj
          · refine .inr ⟨i, Z, rw1, rfl, q1, q2, q5, ?_, hi2⟩
            have := List.length_pos_iff.2 hZ
            simp; omega
        · rcases hdis with ⟨rfl, rfl⟩ | ⟨i, Z, rfl, hz, hZ, hi1, hi2⟩
          · exact h3
          · intro e
            simp only [slot] at e
            injection e with e
            omega
      | false =>
        obtain ⟨a', f1, f2, f3⟩ := k1.full
        have hln := k1.len s3
        have b1 := bld_one (P := Try.prog) (t := 22) (v := u) Try.underlying22 sz23 zr23 rfl hu.isCell.2
        have hms : ∀ (m : Nat) (i : Nat), Made.val i (.slice m) = .slice (some (i, 0)) m (some m) := fun _ _ => rfl
        obtain ⟨v', s4, O', p1, p2, p3, p4, p5, p6⟩ := push_row f2 (by omega) hu.isCell.1
        simp only [Bool.not_true, c82o5, fa27_0, ld0, c82o7, hln, f1, fa27_1, ld1, b1, hms, p1, c82o8, e3, hcast, wpC, wpI, wpS, wpD, wpV, wanted_none, wanted_some, vals, cev_const, cev_var, cev_loc, padV, okV_some, againP, true_and, and_true, upd_zero, upd_succ, nth_zero, nth_succ, wpG_true, wpG_false, condK_true, condK_false, seqK_normal, seqK_ret, seqK_exit, inBlock_normal, inBlock_ret, inBlock_exit, ends_ret, ends_normal, unmark_nil, results_nil, results_cons, one_one, one_zero, one_two, isB_undef, isB_tt, isB_ff, Bool.not_true, Bool.not_false, Option.bind_some, pick3, pickA, extractA, List.getElem?_cons_zero, List.getElem?_cons_succ, bin_lss, bin_gtr, bin_leq, bin_geq, bin_eql, bin_neq, un_not]
        rw [← hW]
        have ho4 : Old s3.next s3 s4 := ⟨p3, fun x hx => p4 x hx (fun h => by cases h)⟩
        have hn4 := ho4.1
        have k4 : RowCells b s4 us (learnT (T.take k)) := k2.old (ho4.mono (by omega))
        refine ih (k + 1) s4 v' _ _ _ _ _ hd' hlt ⟨⟨us ++ [u], ?_, ?_, ?_⟩, old3.trans (ho4.mono (by omega)), by omega⟩ (hframe (k + 1) s3 s4 l3 ho4.but hlt3 (ho4.2 l hlt3)) hend hret
        · exact Learn.of_dest (by simpa using p2) (by simp)
        · rw [learnT_succ hx]
          exact k4.append (RowCells.one (hu3.old (ho4.mono (by omega)) (Nat.le_refl _)))
        · intro e
          rcases p6 l e with h | h
          · rw [f3] at h; exact h3 h
          · omega
    · intro s3 hf
      simp only [Bool.not_false, wpC, wpI, wpS, wpD, wpV, wanted_none, wanted_some, vals, cev_const, cev_var, cev_loc, padV, okV_some, againP, true_and, and_true, upd_zero, upd_succ, nth_zero, nth_succ, wpG_true, wpG_false, condK_true, condK_false, seqK_normal, seqK_ret, seqK_exit, inBlock_normal, inBlock_ret, inBlock_exit, ends_ret, ends_normal, unmark_nil, results_nil, results_cons, one_one, one_zero, one_two, isB_undef, isB_tt, isB_ff, Bool.not_true, Bool.not_false, Option.bind_some, pick3, pickA, extractA, List.getElem?_cons_zero, List.getElem?_cons_succ, bin_lss, bin_gtr, bin_leq, bin_geq, bin_eql, bin_neq, un_not]
      exact hret s3 _ _ _ _ _ _ _ hf

set_option maxRecDepth 16000 in
/-- states, its function. -/
theorem states_ok {E : Env} (hE : Good E) {b l bx : Nat} {s0 : ASt} {v : AV} {T : Trace20} (hT : TraceAt b s0 v T) (hP : PlainT T) (hbl : b ≤ l) (hbx : Box1 s0 bx v) (hbxl : bx < l) (hl : l < s0.next) {LI : Nat → ASt → Prop} {Fin : ASt → Prop}
    (hframe : ∀ k s s', LI k s → OldBut l s s' → l < s.next → s'.heap.get l = s.heap.get l → LI k s') (hli : LI 0 s0)
    (hround : ∀ (k : Nat) (s : ASt) (w : AV) (K : AV → ASt → Prop), k < T.length → AtState b l s0 s T k w → LI k s → (∀ s', OldBut l s s' → LI (k + 1) s' → K (.bool true) s') → (∀ s', Fin s' → K (.bool false) s') → WR E l [iv (k : Int), w] K s)
    (hlast : ∀ (s : ASt) (w : AV) (K : AV → ASt → Prop), AtState b l s0 s T T.length w → LI T.length s → (∀ c s', Fin s' → K (.bool c) s') → WR E l [iv (T.length : Int), w] K s) :
    WF E 82 [.yield l, .ptr (some (bx, 0))] (fun _ s' => Fin s') s0 := by
  have ln : ∀ s, lenA Try.prog s 33 v = some (iv (T.length : Int)) := fun s => by obtain ⟨a, cap, rfl, _⟩ := hT; exact len_slice Try.underlying33
  have ld := hbx.load ag33
  refine hE.go comp82 (by decide) rfl ?_
  simp only [c82, c82o0, c82o1, ld, ln, wpC, wpI, wpS, wpD, wpV, wanted_none, wanted_some, vals, cev_const, cev_var, cev_loc, padV, okV_some, againP, true_and, and_true, upd_zero, upd_succ, nth_zero, nth_succ, wpG_true, wpG_false, condK_true, condK_false, seqK_normal, seqK_ret, seqK_exit, inBlock_normal, inBlock_ret, inBlock_exit, ends_ret, ends_normal, unmark_nil, results_nil, results_cons, one_one, one_zero, one_two, isB_undef, isB_tt, isB_ff, Bool.not_true, Bool.not_false, Option.bind_some, pick3, pickA, extractA, List.getElem?_cons_zero, List.getElem?_cons_succ, bin_lss, bin_gtr, bin_leq, bin_geq, bin_eql, bin_neq, un_not]
  refine states_loop hE hT hP hbl hbx hbxl hframe hround T 0 s0 _ _ _ _ _ _ rfl (Nat.zero_le _) ⟨⟨[], Learn.nil s0, RowCells.nil _ _, fun h => by cases h⟩, Old.refl _ _, hl⟩ hli ?_ ?_
  · intro s' w' y3 y4 y8 y9 y10 hat hl'
    have ld' := (hbx.keep (hat.old.2 bx hbxl)).load ag33
    simp only [if_true, c82o10, ld', ln, wpV, wpC, wpI, wpS, wpD, wpV, wanted_none, wanted_some, vals, cev_const, cev_var, cev_loc, padV, okV_some, againP, true_and, and_true, upd_zero, upd_succ, nth_zero, nth_succ, wpG_true, wpG_false, condK_true, condK_false, seqK_normal, seqK_ret, seqK_exit, inBlock_normal, inBlock_ret, inBlock_exit, ends_ret, ends_normal, unmark_nil, results_nil, results_cons, one_one, one_zero, one_two, isB_undef, isB_tt, isB_ff, Bool.not_true, Bool.not_false, Option.bind_some, pick3, pickA, extractA, List.getElem?_cons_zero, List.getElem?_cons_succ, bin_lss, bin_gtr, bin_leq, bin_geq, bin_eql, bin_neq, un_not]
    refine hlast s' w' _ hat hl' fun c s1 h1 => ?_
    simp only [wpC, wpI, wpS, wpD, wpV, wanted_none, wanted_some, vals, cev_const, cev_var, cev_loc, padV, okV_some, againP, true_and, and_true, upd_zero, upd_succ, nth_zero, nth_succ, wpG_true, wpG_false, condK_true, condK_false, seqK_normal, seqK_ret, seqK_exit, inBlock_normal, inBlock_ret, inBlock_exit, ends_ret, ends_normal, unmark_nil, results_nil, results_cons, one_one, one_zero, one_two, isB_undef, isB_tt, isB_ff, Bool.not_true, Bool.not_false, Option.bind_some, pick3, pickA, extractA, List.getElem?_cons_zero, List.getElem?_cons_succ, bin_lss, bin_gtr, bin_leq, bin_geq, bin_eql, bin_neq, un_not]
    exact h1
  · intro s' y2 y3 y4 y7 y8 y9 y10 h1
    simp only [wpC, wpI, wpS, wpD, wpV, wanted_none, wanted_some, vals, cev_const, cev_var, cev_loc, padV, okV_some, againP, true_and, and_true, upd_zero, upd_succ, nth_zero, nth_succ, wpG_true, wpG_false, condK_true, condK_false, seqK_normal, seqK_ret, seqK_exit, inBlock_normal, inBlock_ret, inBlock_exit, ends_ret, ends_normal, unmark_nil, results_nil, results_cons, one_one, one_zero, one_two, isB_undef, isB_tt, isB_ff, Bool.not_true, Bool.not_false, Option.bind_some, pick3, pickA, extractA, List.getElem?_cons_zero, List.getElem?_cons_succ, bin_lss, bin_gtr, bin_leq, bin_geq, bin_eql, bin_neq, un_not]
    exact h1
theorem states_fun {E : Env} (hE : Good E) {s : ASt} {v : AV} (hv : v.cells = [v]) : WF E 54 [v] (fun r s' => r = .func 82 [] [.ptr (some (s.next, 0))] ∧ s' = newObj s (mkRow 33 0 [v])) s := by
  refine hE.go comp54 (by decide) rfl ?_
  have hptr : ∀ i, Made.val i .ptr = .ptr (some (i, 0)) := fun _ => rfl
  have hbox : boxA 33 v = some (mkRow 33 0 [v], .ptr) := by simp [boxA, hv]
  simp only [c54, c54o0, c54o1, hbox, hptr, List.take_zero, List.drop_zero, wpC, wpI, wpS, wpD, wpV, wanted_none, wanted_some, vals, cev_const, cev_var, cev_loc, padV, okV_some, againP, true_and, and_true, upd_zero, upd_succ, nth_zero, nth_succ, wpG_true, wpG_false, condK_true, condK_false, seqK_normal, seqK_ret, seqK_exit, inBlock_normal, inBlock_ret, inBlock_exit, ends_ret, ends_normal, unmark_nil, results_nil, results_cons, one_one, one_zero, one_two, isB_undef, isB_tt, isB_ff, Bool.not_true, Bool.not_false, Option.bind_some, pick3, pickA, extractA, List.getElem?_cons_zero, List.getElem?_cons_succ, bin_lss, bin_gtr, bin_leq, bin_geq, bin_eql, bin_neq, un_not]
end Go.Proofs.Ytilhhmkdcoajnaa.Am

/- Concat of two rows of clauses, by the program's library; conditions: few clauses. -/
set_option linter.unusedVariables false
set_option linter.unusedSimpArgs false
namespace Go.Proofs.Ytilhhmkdcoajnaa.Am
open Go Go.Proofs

theorem SliceAt.src22 {b : Nat} {s : ASt} {v : AV} {cs : List AV} (h : SliceAt b s v cs) : ∃ a cap, v = .slice a cs.length cap ∧ CellsAt b s a cs ∧ (0 < cs.length → srcCells Try.prog s 23 1 v = some (cs.length, cs)) := by
  obtain ⟨a, cap, rfl, hc⟩ := h
  exact ⟨a, cap, rfl, hc, fun h0 => SliceAt.src hc rfl h0⟩
theorem src_empty {s : ASt} {a : Option (Nat × Nat)} {cap : Option Nat} : srcCells Try.prog s 23 1 (.slice a 0 cap) = some (0, []) := by
  cases a with
  | none => rfl
  | some io => obtain ⟨i, o⟩ := io; rfl
theorem SliceAt.src0 {b : Nat} {s : ASt} {v : AV} {cs : List AV} (h : SliceAt b s v cs) : ∃ a cap, v = .slice a cs.length cap ∧ srcCells Try.prog s 23 1 v = some (cs.length, cs) := by
  obtain ⟨a, cap, rfl, hc⟩ := h
  refine ⟨a, cap, rfl, ?_⟩
  cases cs with
  | nil => exact src_empty
  | cons x cs => exact SliceAt.src hc rfl (by simp)

/-- An append that fits in the row. -/
theorem row_put {s : ASt} {i b : Nat} {A Z add : List AV} {u : AV} (h : RowAt s i (A ++ Z)) (hu : SliceAt b s u add) (hfit : add.length ≤ Z.length) (hc : allCells add = true) (hl : A.length + add.length ≤ 1000000) :
    ∃ s', appendA Try.prog s [22, 22] [.slice (some (i, 0)) A.length none, u] = some (.slice (some (i, 0)) (A ++ add).length none, s') ∧ RowAt s' i ((A ++ add) ++ Z.drop add.length) ∧ s'.next = s.next ∧ ∀ x, x ≠ i → s'.heap.get x = s.heap.get x := by
  obtain ⟨a, cap, rfl, hsrc⟩ := hu.src0
  have hx : isSliceOrStr Try.prog 22 = true := strx 22 23 Try.underlying22
  rw [appendA_eq Try.underlying22 sz23 by23 (by decide) hx hsrc hc (by omega) (by omega)]
  obtain ⟨r, q1, q2, q3, q4, q5⟩ := h
  have hrow : rowAt s i = some r := by simp [rowAt, q1]
  have h : RowAt s i (A ++ Z) := ⟨r, q1, q2, q3, q4, q5⟩
  have hfit' : Nat.ble (0 + (A.length + add.length) * 1) r.n = true := ble_of (by rw [q2.1]; simp; omega)
  simp only [appTo, hrow, Option.bind_some, appOpen, q5, beq_of rfl, guardB, cond_true, hfit', List.length_append]
  cases hd : add with
  | nil => exact ⟨s, rfl, by simpa using h, rfl, fun _ _ => rfl⟩
  | cons y T =>
    rw [← hd]
    obtain ⟨s1, g1, g2, g3, g4⟩ := h.fill (o := 0 + A.length * 1) (vs := add) (by rw [hd]; simp) (by simp; omega) hc
    refine ⟨s1, by rw [g1]; rfl, ?_, g3, g4⟩
    have e1 : 0 + A.length * 1 = A.length := by omega
    rw [e1, List.take_left' rfl, ← List.drop_drop, List.drop_left' rfl] at g2
    exact g2

/-- An append of nothing to nothing. -/
theorem nil_put {s : ASt} {b : Nat} {u : AV} (hu : SliceAt b s u []) : appendA Try.prog s [22, 22] [.slice none 0 (some 0), u] = some (.slice none 0 (some 0), s) := by
  obtain ⟨a, cap, rfl, hsrc⟩ := hu.src0
  rw [appendA_eq Try.underlying22 sz23 by23 (by decide) (strx 22 23 Try.underlying22) hsrc rfl (by simp) (by simp)]
  rfl
theorem allCells_rep (n : Nat) : allCells (rep [AV.slice none 0 (some 0)] n) = true := by
  induction n with
  | zero => rfl
  | succ n ih => exact allCells_append rfl ih
theorem rep_len (n : Nat) : (rep [AV.slice none 0 (some 0)] n).length = n := by
  induction n with
  | zero => rfl
  | succ n ih => show ([_] ++ rep _ n).length = _; rw [List.length_append, ih]; simp; omega

set_option maxRecDepth 8000 in
/-- Grow, of nothing. -/
theorem grow22_ok {E : Env} (hE : Good E) {s : ASt} {n : Nat} (hn : n ≤ 1000000) :
    WF E 84 [.slice none 0 (some 0), iv (n : Int)] (fun r s' => (n = 0 ∧ r = .slice none 0 (some 0) ∧ s' = s ∨ ∃ i Z, 0 < n ∧ r = .slice (some (i, 0)) 0 none ∧ RowAt s' i Z ∧ Z.length = n ∧ s.next ≤ i ∧ i < s'.next ∧ allCells Z = true) ∧ Old s.next s s') s := by
  refine hE.go comp84 (by decide) rfl ?_
  have h0 : decide ((n : Int) < 0) = false := decide_eq_false (by omega)
  have hcap : ∀ s, capA Try.prog s 22 (.slice none 0 (some 0)) = some (iv 0) := fun s => by simp [capA, Try.underlying22]
  have hln : ∀ s, lenA Try.prog s 22 (.slice none 0 (some 0)) = some (iv 0) := fun s => by simp [lenA, Try.underlying22]
  have e1 := bin_sub Try.prog 3 0 0 ⟨by decide, by decide⟩
  have e2 := bin_sub Try.prog 3 (n : Int) 0 ⟨by omega, by omega⟩
  have e0 : (0 : Int) - 0 = 0 := rfl
  have en : (n : Int) - 0 = (n : Int) := by omega
  cases Nat.eq_zero_or_pos n with
  | inl hz =>
    subst hz
    have h1 : decide ((0 : Int) < ((0 : Nat) : Int)) = false := rfl
    simp only [c84, c84o0, c84o1, c84o2, c84o3, c84o5, h0, hcap, hln, e1, e0, e2, en, h1, wpC, wpI, wpS, wpD, wpV, wanted_none, wanted_some, vals, cev_const, cev_var, cev_loc, padV, okV_some, againP, true_and, and_true, upd_zero, upd_succ, nth_zero, nth_succ, wpG_true, wpG_false, condK_true, condK_false, seqK_normal, seqK_ret, seqK_exit, inBlock_normal, inBlock_ret, inBlock_exit, ends_ret, ends_normal, unmark_nil, results_nil, results_cons, one_one, one_zero, one_two, isB_undef, isB_tt, isB_ff, Bool.not_true, Bool.not_false, Option.bind_some, pick3, pickA, extractA, List.getElem?_cons_zero, List.getElem?_cons_succ, bin_lss, bin_gtr, bin_leq, bin_geq, bin_eql, bin_neq, un_not]
    exact ⟨.inl trivial, Old.refl _ _⟩
  | inr hp =>
    have h1 : decide ((0 : Int) < (n : Int)) = true := decide_eq_true (by omega)
    have hb0 : ∀ m, boundA (iv 0) m = some 0 := fun m => by simp [boundA, idxOf, natOf, guardB, ble_of (Nat.zero_le m)]
    have hs0 : sliceOpnds Try.prog 22 false true false s [.slice none 0 (some 0), iv 0] = some (.slice none 0 (some 0)) := by
      show sliceA Try.prog s 22 (.slice none 0 (some 0)) none (some (iv 0)) none = _
      simp [sliceA, Try.underlying22, sz23, hb0]
    have hint : isIntT Try.prog 3 = true := by simp [isIntT, Try.underlying3]
    have hsrc : srcCells Try.prog s 23 1 (iv (n : Int)) = some (n, rep [AV.slice none 0 (some 0)] n) := by
      show guardB (Nat.ble n 1099511627776 && Nat.blt 0 n) ((zeroT Try.prog 23).bind fun z => guardB (Nat.beq z.cells.length 1) (some (n, rep z.cells n))) = _
      simp [ble_of (show n ≤ 1099511627776 by omega), blt_of hp, guardB, zr23, AV.cells]
    have happ : appendA Try.prog s [22, 3] [.slice none 0 (some 0), iv (n : Int)] = some (.slice (some (s.next, 0)) n none, newObj s (grownRow 23 1 (Tree.fill .leaf 0 (rep [AV.slice none 0 (some 0)] n)) n none)) := by
      simp [appendA, Try.underlying22, sz23, by23, guardB, hint, hsrc, allCells_rep, ble_of (show n ≤ 1099511627776 by omega), ble_of (show n * 24 ≤ 1099511627776 by omega), appTo, beq_off (show n ≠ 0 by omega), appFresh, zero23, rep_len, show Nat.beq 1 0 = false from rfl]
    generalize hs1 : newObj s (grownRow 23 1 (Tree.fill .leaf 0 (rep [AV.slice none 0 (some 0)] n)) n none) = s1 at happ
    have n1 : s1.next = s.next + 1 := by rw [← hs1]; rfl
    have o1 : Old s.next s s1 := by rw [← hs1]; exact Old.new s _
    have hrow : RowAt s1 s.next (rep [AV.slice none 0 (some 0)] n) := by
      refine ⟨{ elem := 23, sz := 1, n, c := Tree.fill .leaf 0 (rep [AV.slice none 0 (some 0)] n), spare := true, mode := .own, par := none, bytes := false }, by rw [← hs1, heap_new, if_pos rfl]; rfl, ⟨(rep_len n).symm, fun k u hk => ?_⟩, rfl, rfl, rfl⟩
      have hlt := lt_of_get hk
      show (Tree.fill .leaf 0 _).get k = some u
      rw [Tree.get_fill, if_pos ⟨Nat.zero_le _, by omega⟩]
      simpa using hk
    have h2 := open_hi Try.underlying22 sz23 (n := n) (k := 0) hrow (Nat.zero_le _)
    have h2' : sliceOpnds Try.prog 22 false true false s1 [.slice (some (s.next, 0)) n none, iv 0] = some (.slice (some (s.next, 0)) 0 none) := h2
    simp only [c84, c84o0, c84o1, c84o2, c84o3, c84o4, c84o5, h0, hcap, hln, e1, e0, e2, en, h1, hs0, happ, h2', wpC, wpI, wpS, wpD, wpV, wanted_none, wanted_some, vals, cev_const, cev_var, cev_loc, padV, okV_some, againP, true_and, and_true, upd_zero, upd_succ, nth_zero, nth_succ, wpG_true, wpG_false, condK_true, condK_false, seqK_normal, seqK_ret, seqK_exit, inBlock_normal, inBlock_ret, inBlock_exit, ends_ret, ends_normal, unmark_nil, results_nil, results_cons, one_one, one_zero, one_two, isB_undef, isB_tt, isB_ff, Bool.not_true, Bool.not_false, Option.bind_some, pick3, pickA, extractA, List.getElem?_cons_zero, List.getElem?_cons_succ, bin_lss, bin_gtr, bin_leq, bin_geq, bin_eql, bin_neq, un_not]
    exact ⟨.inr ⟨s.next, _, hp, rfl, hrow, rep_len n, Nat.le_refl _, by omega, allCells_rep n⟩, o1⟩

set_option maxRecDepth 16000 in
/-- Concat, of two. -/
theorem concat_ok {E : Env} (hE : Good E) {s : ASt} {q b : Nat} {u1 u2 : AV} {A B : List AV} (hq : q < s.next) (h1 : load1 s q 0 = some u1) (h2 : load1 s q 1 = some u2) (hb : b ≤ s.next) (hA : SliceAt b s u1 A) (hB : SliceAt b s u2 B) (hcA : allCells A = true) (hcB : allCells B = true) (hlA : A.length ≤ 1000) (hlB : B.length ≤ 1000) :
    WF E 55 [.slice (some (q, 0)) 2 (some 2)] (fun r s' => SliceAt s'.next s' r (A ++ B) ∧ (∀ j, slot r = some j → s.next ≤ j) ∧ Old s.next s s') s := by
  refine hE.go comp55 (by decide) rfl ?_
  have len1 : ∀ s', lenA Try.prog s' 22 u1 = some (iv (A.length : Int)) := fun s' => by obtain ⟨a, cap, rfl, _⟩ := hA; exact len_slice Try.underlying22
  have len2 : ∀ s', lenA Try.prog s' 22 u2 = some (iv (B.length : Int)) := fun s' => by obtain ⟨a, cap, rfl, _⟩ := hB; exact len_slice Try.underlying22
  have i0 := idx_slice (P := Try.prog) (t := 110) (cap := some 2) (i := q) (o := 0) (len := 2) (k := 0) Try.underlying110 sz22 (by decide)
  have i1 := idx_slice (P := Try.prog) (t := 110) (cap := some 2) (i := q) (o := 0) (len := 2) (k := 1) Try.underlying110 sz22 (by decide)
  have i0' : indexAddrA Try.prog 110 (.slice (some (q, 0)) 2 (some 2)) (iv 0) = some (.ptr (some (q, 0))) := i0
  have i1' : indexAddrA Try.prog 110 (.slice (some (q, 0)) 2 (some 2)) (iv 1) = some (.ptr (some (q, 1))) := i1
  have l1 : ∀ s', Old s.next s s' → loadV Try.prog s' 22 (.ptr (some (q, 0))) = some u1 := fun s' h => load_one ag22 (by rw [load1_eq (h.2 q hq)]; exact h1)
  have l2 : ∀ s', Old s.next s s' → loadV Try.prog s' 22 (.ptr (some (q, 1))) = some u2 := fun s' h => load_one ag22 (by rw [load1_eq (h.2 q hq)]; exact h2)
  have c01 : decide ((0 : Int) < 2) = true := rfl
  have c12 : decide ((1 : Int) < 2) = true := rfl
  have c22 : decide ((2 : Int) < 2) = false := rfl
  have a01 := bin_add Try.prog 3 0 1 ⟨by decide, by decide⟩
  have a11 := bin_add Try.prog 3 1 1 ⟨by decide, by decide⟩
  have t01 : (0 : Int) + 1 = 1 := rfl
  have t11 : (1 : Int) + 1 = 2 := rfl
  have t2 : ((2 : Nat) : Int) = 2 := rfl
  have aA := bin_add Try.prog 3 0 (A.length : Int) ⟨by omega, by omega⟩
  have tA : (0 : Int) + (A.length : Int) = (A.length : Int) := by omega
  have aB := bin_add Try.prog 3 (A.length : Int) (B.length : Int) ⟨by omega, by omega⟩
  have tB : (A.length : Int) + (B.length : Int) = ((A.length + B.length : Nat) : Int) := by omega
  have nA : decide ((A.length : Int) < 0) = false := decide_eq_false (by omega)
  have nB : decide (((A.length + B.length : Nat) : Int) < 0) = false := decide_eq_false (by omega)
  have r0 := l1 s (Old.refl _ _)
  have r1 := l2 s (Old.refl _ _)
  simp only [c55, c55o0, c55o1, c55o2, len_slice Try.underlying110, t2, wpC, wpI, wpS, wpD, wpV, wanted_none, wanted_some, vals, cev_const, cev_var, cev_loc, padV, okV_some, againP, true_and, and_true, upd_zero, upd_succ, nth_zero, nth_succ, wpG_true, wpG_false, condK_true, condK_false, seqK_normal, seqK_ret, seqK_exit, inBlock_normal, inBlock_ret, inBlock_exit, ends_ret, ends_normal, unmark_nil, results_nil, results_cons, one_one, one_zero, one_two, isB_undef, isB_tt, isB_ff, Bool.not_true, Bool.not_false, Option.bind_some, pick3, pickA, extractA, List.getElem?_cons_zero, List.getElem?_cons_succ, bin_lss, bin_gtr, bin_leq, bin_geq, bin_eql, bin_neq, un_not]
  refine WC.loop' ?_
  generalize hW : WC E none (CCode.loop c55l8) _ = W
  simp only [c55l8, c55o3, c55o4, c55o5, c55o6, c55o7, c01, i0', r0, len1, aA, tA, nA, a01, t01, wpC, wpI, wpS, wpD, wpV, wanted_none, wanted_some, vals, cev_const, cev_var, cev_loc, padV, okV_some, againP, true_and, and_true, upd_zero, upd_succ, nth_zero, nth_succ, wpG_true, wpG_false, condK_true, condK_false, seqK_normal, seqK_ret, seqK_exit, inBlock_normal, inBlock_ret, inBlock_exit, ends_ret, ends_normal, unmark_nil, results_nil, results_cons, one_one, one_zero, one_two, isB_undef, isB_tt, isB_ff, Bool.not_true, Bool.not_false, Option.bind_some, pick3, pickA, extractA, List.getElem?_cons_zero, List.getElem?_cons_succ, bin_lss, bin_gtr, bin_leq, bin_geq, bin_eql, bin_neq, un_not]
  rw [← hW]
  refine WC.loop' ?_
  rw [hW]
  simp only [c55l8, c55o3, c55o4, c55o5, c55o6, c55o7, c12, i1', r1, len2, aB, tB, nB, a11, t11, wpC, wpI, wpS, wpD, wpV, wanted_none, wanted_some, vals, cev_const, cev_var, cev_loc, padV, okV_some, againP, true_and, and_true, upd_zero, upd_succ, nth_zero, nth_succ, wpG_true, wpG_false, condK_true, condK_false, seqK_normal, seqK_ret, seqK_exit, inBlock_normal, inBlock_ret, inBlock_exit, ends_ret, ends_normal, unmark_nil, results_nil, results_cons, one_one, one_zero, one_two, isB_undef, isB_tt, isB_ff, Bool.not_true, Bool.not_false, Option.bind_some, pick3, pickA, extractA, List.getElem?_cons_zero, List.getElem?_cons_succ, bin_lss, bin_gtr, bin_leq, bin_geq, bin_eql, bin_neq, un_not]
  rw [← hW]
  refine WC.loop' ?_
  rw [hW]
  simp only [c55l8, c55o3, c22, if_true, c55o9, wpC, wpI, wpS, wpD, wpV, wanted_none, wanted_some, vals, cev_const, cev_var, cev_loc, padV, okV_some, againP, true_and, and_true, upd_zero, upd_succ, nth_zero, nth_succ, wpG_true, wpG_false, condK_true, condK_false, seqK_normal, seqK_ret, seqK_exit, inBlock_normal, inBlock_ret, inBlock_exit, ends_ret, ends_normal, unmark_nil, results_nil, results_cons, one_one, one_zero, one_two, isB_undef, isB_tt, isB_ff, Bool.not_true, Bool.not_false, Option.bind_some, pick3, pickA, extractA, List.getElem?_cons_zero, List.getElem?_cons_succ, bin_lss, bin_gtr, bin_leq, bin_geq, bin_eql, bin_neq, un_not]
  refine (grow22_ok hE (n := A.length + B.length) (by omega)).mono ?_
  rintro w s1 ⟨hw, ho1⟩
  simp only [c55o10, len_slice Try.underlying110, t2, wpC, wpI, wpS, wpD, wpV, wanted_none, wanted_some, vals, cev_const, cev_var, cev_loc, padV, okV_some, againP, true_and, and_true, upd_zero, upd_succ, nth_zero, nth_succ, wpG_true, wpG_false, condK_true, condK_false, seqK_normal, seqK_ret, seqK_exit, inBlock_normal, inBlock_ret, inBlock_exit, ends_ret, ends_normal, unmark_nil, results_nil, results_cons, one_one, one_zero, one_two, isB_undef, isB_tt, isB_ff, Bool.not_true, Bool.not_false, Option.bind_some, pick3, pickA, extractA, List.getElem?_cons_zero, List.getElem?_cons_succ, bin_lss, bin_gtr, bin_leq, bin_geq, bin_eql, bin_neq, un_not]
  have k1 := l1 s1 ho1
  have hA1 : SliceAt b s1 u1 A := hA.old ho1 hb
  rcases hw with ⟨hz, rfl, rfl⟩ | ⟨i, Z, hp, rfl, hz, hzl, hi1, hi2, hzc⟩
  · have hA0 : A = [] := List.length_eq_zero_iff.1 (by omega)
    have hB0 : B = [] := List.length_eq_zero_iff.1 (by omega)
    subst hA0; subst hB0
    have p1 := nil_put hA
    have p2 := nil_put hB
    refine WC.loop' ?_
    generalize hV : WC E none (CCode.loop c55l15) _ = V
    simp only [c55l15, c55o11, c55o12, c55o13, c55o14, c01, i0', r0, p1, a01, t01, wpC, wpI, wpS, wpD, wpV, wanted_none, wanted_some, vals, cev_const, cev_var, cev_loc, padV, okV_some, againP, true_and, and_true, upd_zero, upd_succ, nth_zero, nth_succ, wpG_true, wpG_false, condK_true, condK_false, seqK_normal, seqK_ret, seqK_exit, inBlock_normal, inBlock_ret, inBlock_exit, ends_ret, ends_normal, unmark_nil, results_nil, results_cons, one_one, one_zero, one_two, isB_undef, isB_tt, isB_ff, Bool.not_true, Bool.not_false, Option.bind_some, pick3, pickA, extractA, List.getElem?_cons_zero, List.getElem?_cons_succ, bin_lss, bin_gtr, bin_leq, bin_geq, bin_eql, bin_neq, un_not]
    rw [← hV]
    refine WC.loop' ?_
    rw [hV]
    simp only [c55l15, c55o11, c55o12, c55o13, c55o14, c12, i1', r1, p2, a11, t11, wpC, wpI, wpS, wpD, wpV, wanted_none, wanted_some, vals, cev_const, cev_var, cev_loc, padV, okV_some, againP, true_and, and_true, upd_zero, upd_succ, nth_zero, nth_succ, wpG_true, wpG_false, condK_true, condK_false, seqK_normal, seqK_ret, seqK_exit, inBlock_normal, inBlock_ret, inBlock_exit, ends_ret, ends_normal, unmark_nil, results_nil, results_cons, one_one, one_zero, one_two, isB_undef, isB_tt, isB_ff, Bool.not_true, Bool.not_false, Option.bind_some, pick3, pickA, extractA, List.getElem?_cons_zero, List.getElem?_cons_succ, bin_lss, bin_gtr, bin_leq, bin_geq, bin_eql, bin_neq, un_not]
    rw [← hV]
    refine WC.loop' ?_
    simp only [c55l15, c55o11, c22, if_true, c55o16, wpC, wpI, wpS, wpD, wpV, wanted_none, wanted_some, vals, cev_const, cev_var, cev_loc, padV, okV_some, againP, true_and, and_true, upd_zero, upd_succ, nth_zero, nth_succ, wpG_true, wpG_false, condK_true, condK_false, seqK_normal, seqK_ret, seqK_exit, inBlock_normal, inBlock_ret, inBlock_exit, ends_ret, ends_normal, unmark_nil, results_nil, results_cons, one_one, one_zero, one_two, isB_undef, isB_tt, isB_ff, Bool.not_true, Bool.not_false, Option.bind_some, pick3, pickA, extractA, List.getElem?_cons_zero, List.getElem?_cons_succ, bin_lss, bin_gtr, bin_leq, bin_geq, bin_eql, bin_neq, un_not]
    exact ⟨⟨none, some 0, rfl, CellsAt.nil⟩, (fun j h => by cases h), Old.refl _ _⟩
  · obtain ⟨s2, p1, p2, p3, p4⟩ := row_put (A := []) (Z := Z) (by simpa using hz) hA1 (by omega) hcA (by simp; omega)
    have ho2 : Old s.next s s2 := ho1.trans ⟨by omega, fun x hx => p4 x (by omega)⟩
    have hB2 : SliceAt b s2 u2 B := hB.old ho2 hb
    obtain ⟨s3, g1, g2, g3, g4⟩ := row_put p2 hB2 (by simp; omega) hcB (by simp; omega)
    have ho3 : Old s.next s s3 := ho2.trans ⟨by omega, fun x hx => g4 x (by omega)⟩
    have k2 := l2 s2 ho2
    rw [List.length_nil] at p1
    refine WC.loop' ?_
    generalize hV : WC E none (CCode.loop c55l15) _ = V
    simp only [c55l15, c55o11, c55o12, c55o13, c55o14, c01, i0', k1, p1, a01, t01, wpC, wpI, wpS, wpD, wpV, wanted_none, wanted_some, vals, cev_const, cev_var, cev_loc, padV, okV_some, againP, true_and, and_true, upd_zero, upd_succ, nth_zero, nth_succ, wpG_true, wpG_false, condK_true, condK_false, seqK_normal, seqK_ret, seqK_exit, inBlock_normal, inBlock_ret, inBlock_exit, ends_ret, ends_normal, unmark_nil, results_nil, results_cons, one_one, one_zero, one_two, isB_undef, isB_tt, isB_ff, Bool.not_true, Bool.not_false, Option.bind_some, pick3, pickA, extractA, List.getElem?_cons_zero, List.getElem?_cons_succ, bin_lss, bin_gtr, bin_leq, bin_geq, bin_eql, bin_neq, un_not]
    rw [← hV]
    refine WC.loop' ?_
    rw [hV]
    simp only [c55l15, c55o11, c55o12, c55o13, c55o14, c12, i1', k2, g1, a11, t11, wpC, wpI, wpS, wpD, wpV, wanted_none, wanted_some, vals, cev_const, cev_var, cev_loc, padV, okV_some, againP, true_and, and_true, upd_zero, upd_succ, nth_zero, nth_succ, wpG_true, wpG_false, condK_true, condK_false, seqK_normal, seqK_ret, seqK_exit, inBlock_normal, inBlock_ret, inBlock_exit, ends_ret, ends_normal, unmark_nil, results_nil, results_cons, one_one, one_zero, one_two, isB_undef, isB_tt, isB_ff, Bool.not_true, Bool.not_false, Option.bind_some, pick3, pickA, extractA, List.getElem?_cons_zero, List.getElem?_cons_succ, bin_lss, bin_gtr, bin_leq, bin_geq, bin_eql, bin_neq, un_not]
    rw [← hV]
    refine WC.loop' ?_
    simp only [c55l15, c55o11, c22, if_true, c55o16, wpC, wpI, wpS, wpD, wpV, wanted_none, wanted_some, vals, cev_const, cev_var, cev_loc, padV, okV_some, againP, true_and, and_true, upd_zero, upd_succ, nth_zero, nth_succ, wpG_true, wpG_false, condK_true, condK_false, seqK_normal, seqK_ret, seqK_exit, inBlock_normal, inBlock_ret, inBlock_exit, ends_ret, ends_normal, unmark_nil, results_nil, results_cons, one_one, one_zero, one_two, isB_undef, isB_tt, isB_ff, Bool.not_true, Bool.not_false, Option.bind_some, pick3, pickA, extractA, List.getElem?_cons_zero, List.getElem?_cons_succ, bin_lss, bin_gtr, bin_leq, bin_geq, bin_eql, bin_neq, un_not]
    refine ⟨⟨some (i, 0), none, rfl, fun k u hk => ⟨i, 0, rfl, by omega, ?_⟩⟩, (fun j h => by simp only [slot] at h; injection h with h; omega), ho3⟩
    rw [Nat.zero_add]
    rw [List.nil_append] at g2
    exact g2.load1 (by rw [List.getElem?_append_left (lt_of_get hk)]; exact hk)
end Go.Proofs.Ytilhhmkdcoajnaa.Am
