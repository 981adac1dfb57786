/- What the program's clean computes of a row of literals; conditions: twelve at most, each of which may hold. -/
import Derived.Test.YtilhhmkdcoajnaaAmM39
set_option linter.unusedVariables false
set_option linter.unusedSimpArgs false
namespace Go.Proofs.Ytilhhmkdcoajnaa.Am
open Go Go.Proofs

theorem rowAt_of_load1 {s : ASt} {i o : Nat} {u : AV} (h : load1 s i o = some u) : ∃ r, rowAt s i = some r ∧ o < r.n ∧ r.c.get o = some u := by
  unfold load1 at h
  simp only [Option.bind_eq_some_iff] at h
  obtain ⟨r, h1, h2⟩ := h
  cases hb : Nat.blt o r.n with
  | true => rw [hb] at h2; exact ⟨r, h1, by simpa [Nat.blt_eq] using hb, h2⟩
  | false => rw [hb] at h2; cases h2
theorem CellsAt.loadN {b : Nat} {s : ASt} {i o : Nat} {cs : List AV} (h : CellsAt b s (some (i, o)) cs) (hne : cs ≠ []) : loadN s i o cs.length = some cs := by
  have hp : ∀ k u, cs[k]? = some u → load1 s i (o + k) = some u := by
    intro k u hk
    obtain ⟨i', o', e, _, h2⟩ := h k u hk
    injection e with e; injection e with e1 e2; subst e1; subst e2
    exact h2
  have hpos : 0 < cs.length := List.length_pos_iff.2 hne
  obtain ⟨r, h1, h2, _⟩ := rowAt_of_load1 (hp (cs.length - 1) cs[cs.length - 1] (List.getElem?_eq_getElem (by omega)))
  unfold Go.Proofs.Ytilhhmkdcoajnaa.Am.loadN
  rw [h1]
  have hb : Nat.ble (o + cs.length) r.n = true := ble_of (by omega)
  simp only [Option.bind_some, guardB, hb, cond_true]
  refine take_of _ _ fun j u hj => ?_
  obtain ⟨r', g1, _, g3⟩ := rowAt_of_load1 (hp j u hj)
  rw [h1] at g1; injection g1 with g1; subst g1
  exact g3
theorem SliceAt.src {b : Nat} {s : ASt} {a : Option (Nat × Nat)} {n : Nat} {cap : Option Nat} {cs : List AV} (h : CellsAt b s a cs) (hn : cs.length = n) (h0 : 0 < n) {e : TypeId} : srcCells Try.prog s e 1 (.slice a n cap) = some (n, cs) := by
  subst hn
  have hne : cs ≠ [] := List.length_pos_iff.1 h0
  cases a with
  | none =>
    obtain ⟨i, o, e, _⟩ := h 0 cs[0] (List.getElem?_eq_getElem h0)
    cases e
  | some io =>
    obtain ⟨i, o⟩ := io
    have := srcN_load (size := 1) (by rw [Nat.mul_one]; exact h.loadN hne)
    simp [srcCells, this]

theorem eq_nil23 {a : Option (Nat × Nat)} {n : Nat} {cap : Option Nat} : binA Try.prog .eql 23 (.slice a n cap) (.slice none 0 (some 0)) = some (.bool a.isNone) := by
  have h : isSliceT Try.prog 23 = true := by simp [isSliceT, Try.underlying23]
  cases a <;> simp [binA, eqV, guardB, h]

set_option maxRecDepth 8000 in
/-- Clone. -/
theorem clone_ok {E : Env} (hE : Good E) {b : Nat} {s : ASt} {v : AV} {L : List Int} (hb : b ≤ s.next) (h : SliceAt b s v (ivs L)) (hL : L.length ≤ 1000000) :
    WF E 60 [v] (fun r s' => IntArr s.next s' r L ∧ Old s.next s s') s := by
  obtain ⟨a, cap, rfl, hc⟩ := h
  rw [ivs_len] at *
  refine hE.go comp60 (by decide) rfl ?_
  cases ha : a with
  | none =>
    subst ha
    have hL0 : L = [] := by
      cases L with
      | nil => rfl
      | cons x L => obtain ⟨i, o, e, _⟩ := hc 0 (iv x) rfl; cases e
    subst hL0
    simp only [c60, c60o0, c60o1, c60o2, eq_nil23, Option.isNone_none, wpC, wpI, wpS, wpD, wpV, wanted_none, wanted_some, vals, cev_const, cev_var, cev_loc, padV, okV_some, againP, true_and, and_true, upd_zero, upd_succ, nth_zero, nth_succ, wpG_true, wpG_false, condK_true, condK_false, seqK_normal, seqK_ret, seqK_exit, inBlock_normal, inBlock_ret, inBlock_exit, ends_ret, ends_normal, unmark_nil, results_nil, results_cons, one_one, one_zero, one_two, isB_undef, isB_tt, isB_ff, Bool.not_true, Bool.not_false, Option.bind_some, pick3, pickA, extractA, List.getElem?_cons_zero, List.getElem?_cons_succ, bin_lss, bin_gtr, bin_leq, bin_geq, bin_eql, bin_neq, un_not]
    exact ⟨.inl ⟨none, rfl, rfl⟩, Old.refl _ _⟩
  | some io =>
    obtain ⟨i, o⟩ := io
    subst ha
    have b0 := bld_zero (P := Try.prog) (t := 23) Try.underlying23 sz3 zr3 rfl
    have hmv : ∀ (m : Nat) (i : Nat), Made.val i (.slice m) = .slice (some (i, 0)) m (some m) := fun _ _ => rfl
    generalize hs1 : newObj s (mkRow 3 1 []) = s1
    have n1 : s1.next = s.next + 1 := by rw [← hs1]; rfl
    have o1 : Old s.next s s1 := by rw [← hs1]; exact Old.new s _
    have hld : loadN s1 s.next 0 (0 * 1) = some [] := by
      obtain ⟨r, h1, h2, _⟩ := holds_mkRow 3 1 []
      exact loadN_holds (s := s1) (i := s.next) (by rw [← hs1, heap_new, if_pos rfl, h1]) h2 0 [] (Nat.le_refl _) (fun j u hj => by simp at hj)
    have hx : isSliceOrStr Try.prog 23 = true := strx 23 3 Try.underlying23
    cases hLc : L with
    | nil =>
      subst hLc
      have hsrc : srcCells Try.prog s1 3 1 (.slice (some (i, o)) 0 cap) = some (0, []) := rfl
      have happ : appendA Try.prog s1 [23, 23] [.slice (some (s.next, 0)) 0 (some 0), .slice (some (i, o)) 0 cap] = some (.slice (some (s.next, 0)) 0 (some 0), s1) := by
        rw [appendA_eq Try.underlying23 sz3 by3 (by decide) hx hsrc rfl (by omega) (by omega)]
        rfl
      simp only [c60, c60o0, c60o1, c60o3, eq_nil23, Option.isNone_some, List.length_nil, b0, hs1, hmv, happ, wpC, wpI, wpS, wpD, wpV, wanted_none, wanted_some, vals, cev_const, cev_var, cev_loc, padV, okV_some, againP, true_and, and_true, upd_zero, upd_succ, nth_zero, nth_succ, wpG_true, wpG_false, condK_true, condK_false, seqK_normal, seqK_ret, seqK_exit, inBlock_normal, inBlock_ret, inBlock_exit, ends_ret, ends_normal, unmark_nil, results_nil, results_cons, one_one, one_zero, one_two, isB_undef, isB_tt, isB_ff, Bool.not_true, Bool.not_false, Option.bind_some, pick3, pickA, extractA, List.getElem?_cons_zero, List.getElem?_cons_succ, bin_lss, bin_gtr, bin_leq, bin_geq, bin_eql, bin_neq, un_not]
      exact ⟨.inl ⟨_, rfl, rfl⟩, o1⟩
    | cons x T =>
      rw [← hLc]
      have hne : 0 < L.length := by rw [hLc]; simp
      have hc1 : CellsAt b s1 (some (i, o)) (ivs L) := hc.old o1 hb
      have hsrc := SliceAt.src (e := 3) (cap := cap) hc1 (ivs_len L) hne
      have happ : appendA Try.prog s1 [23, 23] [.slice (some (s.next, 0)) 0 (some 0), .slice (some (i, o)) L.length cap] = some (.slice (some (s1.next, 0)) L.length none, newObj s1 (grownRow 3 1 (Tree.fill .leaf 0 (ivs L)) (ivs L).length none)) := by
        rw [appendA_eq Try.underlying23 sz3 by3 (by decide) hx hsrc (cells_ivs L) (by omega) (by omega)]
        simp only [appTo, appExact, show Nat.ble (0 + L.length) 0 = false from ble_off (by omega), Nat.zero_add, show Nat.ble L.length 0 = false from ble_off (by omega), cond_false, hld, Option.bind_some, appFresh, guardB, zero3, cond_true, List.nil_append, Nat.zero_add]
      simp only [c60, c60o0, c60o1, c60o3, eq_nil23, Option.isNone_some, b0, hs1, hmv, happ, wpC, wpI, wpS, wpD, wpV, wanted_none, wanted_some, vals, cev_const, cev_var, cev_loc, padV, okV_some, againP, true_and, and_true, upd_zero, upd_succ, nth_zero, nth_succ, wpG_true, wpG_false, condK_true, condK_false, seqK_normal, seqK_ret, seqK_exit, inBlock_normal, inBlock_ret, inBlock_exit, ends_ret, ends_normal, unmark_nil, results_nil, results_cons, one_one, one_zero, one_two, isB_undef, isB_tt, isB_ff, Bool.not_true, Bool.not_false, Option.bind_some, pick3, pickA, extractA, List.getElem?_cons_zero, List.getElem?_cons_succ, bin_lss, bin_gtr, bin_leq, bin_geq, bin_eql, bin_neq, un_not]
      refine ⟨.inr ⟨s1.next, rfl, by omega, Nat.lt_succ_self _, _, by rw [heap_new, if_pos rfl]; rfl, ⟨rfl, ?_⟩, rfl, rfl, rfl⟩, o1.trans ((Old.new s1 _).mono (by omega))⟩
      intro k u hk
      have hlt := lt_of_get hk
      show (Tree.fill .leaf 0 (ivs L)).get k = some u
      rw [Tree.get_fill, if_pos ⟨Nat.zero_le _, by omega⟩]
      simpa using hk

theorem IntArr.slice {lo : Nat} {s : ASt} {v : AV} {L : List Int} (h : IntArr lo s v L) : SliceAt s.next s v (ivs L) := by
  rcases h with ⟨a, rfl, rfl⟩ | ⟨i, rfl, h1, h2, h3⟩
  · exact ⟨a, some 0, rfl, CellsAt.nil⟩
  · exact ⟨some (i, 0), none, by simp, fun k u hk => ⟨i, 0, rfl, h2, by rw [Nat.zero_add]; exact h3.load1 hk⟩⟩

/-- clean's function: is this literal none? -/
theorem none_ok {E : Env} (hE : Good E) {s : ASt} (x : Int) (hx : i64 x) (hn : nullV x = false) : WF E 86 [iv x] (fun r s' => r = .bool false ∧ s = s') s := by
  refine hE.go comp86 (by decide) rfl ?_
  have h0 : decide ((signV x).2 = 0) = false := by
    refine decide_eq_false ?_
    unfold nullV at hn
    have hn' := of_decide_eq_false hn
    unfold signV
    split
    · simp
    · split
      · simp
      · exact fun _ => hn' (by omega)
  simp only [c86, c86o0, c86o1, wpC, wpI, wpS, wpD, wpV, wanted_none, wanted_some, vals, cev_const, cev_var, cev_loc, padV, okV_some, againP, true_and, and_true, upd_zero, upd_succ, nth_zero, nth_succ, wpG_true, wpG_false, condK_true, condK_false, seqK_normal, seqK_ret, seqK_exit, inBlock_normal, inBlock_ret, inBlock_exit, ends_ret, ends_normal, unmark_nil, results_nil, results_cons, one_one, one_zero, one_two, isB_undef, isB_tt, isB_ff, Bool.not_true, Bool.not_false, Option.bind_some, pick3, pickA, extractA, List.getElem?_cons_zero, List.getElem?_cons_succ, bin_lss, bin_gtr, bin_leq, bin_geq, bin_eql, bin_neq, un_not]
  refine (sign_ok hE x s hx).mono ?_
  rintro _ _ ⟨rfl, rfl⟩
  simp only [c86o2, h0, wpC, wpI, wpS, wpD, wpV, wanted_none, wanted_some, vals, cev_const, cev_var, cev_loc, padV, okV_some, againP, true_and, and_true, upd_zero, upd_succ, nth_zero, nth_succ, wpG_true, wpG_false, condK_true, condK_false, seqK_normal, seqK_ret, seqK_exit, inBlock_normal, inBlock_ret, inBlock_exit, ends_ret, ends_normal, unmark_nil, results_nil, results_cons, one_one, one_zero, one_two, isB_undef, isB_tt, isB_ff, Bool.not_true, Bool.not_false, Option.bind_some, pick3, pickA, extractA, List.getElem?_cons_zero, List.getElem?_cons_succ, bin_lss, bin_gtr, bin_leq, bin_geq, bin_eql, bin_neq, un_not]

set_option maxRecDepth 8000 in
theorem index_loop {E : Env} (hE : Good E) {s : ASt} {b : Nat} {L : List Int} (hL : I64s L) (hnn : ∀ x ∈ L, nullV x = false) (hlen : L.length < 9223372036854775808) {a : Option (Nat × Nat)} {cap : Option Nat} (hc : CellsAt b s a (ivs L)) {Q : ARes → Prop} (x2 : AV) :
    ∀ (l : List Int) (k : Nat) (x3 x6 x7 : AV), L.drop k = l → k ≤ L.length →
      (∀ (y3 y5 y6 y7 : AV), Q ⟨.exit 0, [.slice a L.length cap, .func 86 [] [], x2, y3, iv (L.length : Int), y5, y6, y7], [], s⟩) →
      WC E none (.loop c94l7) Q [.slice a L.length cap, .func 86 [] [], x2, x3, iv (L.length : Int), iv (k : Int), x6, x7] [] s := by
  intro l
  induction l with
  | nil =>
    intro k x3 x6 x7 hd hk hq
    have := drop_end hd hk
    subst this
    refine WC.loop' ?_
    simp only [c94l7, c94o2, Int.lt_irrefl, decide_false, wpC, wpI, wpS, wpD, wpV, wanted_none, wanted_some, vals, cev_const, cev_var, cev_loc, padV, okV_some, againP, true_and, and_true, upd_zero, upd_succ, nth_zero, nth_succ, wpG_true, wpG_false, condK_true, condK_false, seqK_normal, seqK_ret, seqK_exit, inBlock_normal, inBlock_ret, inBlock_exit, ends_ret, ends_normal, unmark_nil, results_nil, results_cons, one_one, one_zero, one_two, isB_undef, isB_tt, isB_ff, Bool.not_true, Bool.not_false, Option.bind_some, pick3, pickA, extractA, List.getElem?_cons_zero, List.getElem?_cons_succ, bin_lss, bin_gtr, bin_leq, bin_geq, bin_eql, bin_neq, un_not]
    exact hq _ _ _ _
  | cons x l ih =>
    intro k x3 x6 x7 hd hk hq
    obtain ⟨hlt, hx, hd'⟩ := drop_facts hd
    obtain ⟨i, o, rfl, hi, hload⟩ := hc k _ (get_ivs hx)
    have hxm : x ∈ L := List.mem_of_getElem? hx
    have e1 := idx_slice (cap := cap) (i := i) (o := o) Try.underlying23 sz3 hlt
    have e2 : loadV Try.prog s 3 (.ptr (some (i, o + k * 1))) = some (iv x) := load_one ag3 (by rw [Nat.mul_one]; exact hload)
    have hkk : decide ((k : Int) < (L.length : Int)) = true := decide_eq_true (by omega)
    have e3 := bin_add Try.prog 3 (k : Int) 1 ⟨by omega, by omega⟩
    have e3' : ((k : Int) + 1) = ((k + 1 : Nat) : Int) := by omega
    refine WC.loop' ?_
    generalize hW : WC E none (CCode.loop c94l7) Q = WW
    simp only [c94l7, c94o2, c94o3, c94o4, hkk, e1, e2, List.nil_append, List.append_nil, wpC, wpI, wpS, wpD, wpV, wanted_none, wanted_some, vals, cev_const, cev_var, cev_loc, padV, okV_some, againP, true_and, and_true, upd_zero, upd_succ, nth_zero, nth_succ, wpG_true, wpG_false, condK_true, condK_false, seqK_normal, seqK_ret, seqK_exit, inBlock_normal, inBlock_ret, inBlock_exit, ends_ret, ends_normal, unmark_nil, results_nil, results_cons, one_one, one_zero, one_two, isB_undef, isB_tt, isB_ff, Bool.not_true, Bool.not_false, Option.bind_some, pick3, pickA, extractA, List.getElem?_cons_zero, List.getElem?_cons_succ, bin_lss, bin_gtr, bin_leq, bin_geq, bin_eql, bin_neq, un_not]
    refine (none_ok hE x (hL x hxm) (hnn x hxm)).mono ?_
    rintro _ _ ⟨rfl, rfl⟩
    simp only [c94o6, e3, e3', wpC, wpI, wpS, wpD, wpV, wanted_none, wanted_some, vals, cev_const, cev_var, cev_loc, padV, okV_some, againP, true_and, and_true, upd_zero, upd_succ, nth_zero, nth_succ, wpG_true, wpG_false, condK_true, condK_false, seqK_normal, seqK_ret, seqK_exit, inBlock_normal, inBlock_ret, inBlock_exit, ends_ret, ends_normal, unmark_nil, results_nil, results_cons, one_one, one_zero, one_two, isB_undef, isB_tt, isB_ff, Bool.not_true, Bool.not_false, Option.bind_some, pick3, pickA, extractA, List.getElem?_cons_zero, List.getElem?_cons_succ, bin_lss, bin_gtr, bin_leq, bin_geq, bin_eql, bin_neq, un_not]
    rw [← hW]
    exact ih (k + 1) _ _ _ hd' hlt hq

theorem index_ok {E : Env} (hE : Good E) {s : ASt} {b : Nat} {L : List Int} (hL : I64s L) (hnn : ∀ x ∈ L, nullV x = false) (hlen : L.length < 9223372036854775808) {v : AV} (hv : SliceAt b s v (ivs L)) :
    WF E 94 [v, .func 86 [] []] (fun r s' => r = iv (-1) ∧ s = s') s := by
  obtain ⟨a, cap, rfl, hc⟩ := hv
  rw [ivs_len]
  refine hE.go comp94 (by decide) rfl ?_
  simp only [c94, c94o0, c94o1, len_slice Try.underlying23, wpC, wpI, wpS, wpD, wpV, wanted_none, wanted_some, vals, cev_const, cev_var, cev_loc, padV, okV_some, againP, true_and, and_true, upd_zero, upd_succ, nth_zero, nth_succ, wpG_true, wpG_false, condK_true, condK_false, seqK_normal, seqK_ret, seqK_exit, inBlock_normal, inBlock_ret, inBlock_exit, ends_ret, ends_normal, unmark_nil, results_nil, results_cons, one_one, one_zero, one_two, isB_undef, isB_tt, isB_ff, Bool.not_true, Bool.not_false, Option.bind_some, pick3, pickA, extractA, List.getElem?_cons_zero, List.getElem?_cons_succ, bin_lss, bin_gtr, bin_leq, bin_geq, bin_eql, bin_neq, un_not]
  refine index_loop hE hL hnn hlen hc _ L 0 _ _ _ rfl (Nat.zero_le _) ?_
  intro y3 y5 y6 y7
  simp only [c94o8, if_true, wpC, wpI, wpS, wpD, wpV, wanted_none, wanted_some, vals, cev_const, cev_var, cev_loc, padV, okV_some, againP, true_and, and_true, upd_zero, upd_succ, nth_zero, nth_succ, wpG_true, wpG_false, condK_true, condK_false, seqK_normal, seqK_ret, seqK_exit, inBlock_normal, inBlock_ret, inBlock_exit, ends_ret, ends_normal, unmark_nil, results_nil, results_cons, one_one, one_zero, one_two, isB_undef, isB_tt, isB_ff, Bool.not_true, Bool.not_false, Option.bind_some, pick3, pickA, extractA, List.getElem?_cons_zero, List.getElem?_cons_succ, bin_lss, bin_gtr, bin_leq, bin_geq, bin_eql, bin_neq, un_not]

theorem delete_ok {E : Env} (hE : Good E) {s : ASt} {b : Nat} {L : List Int} (hL : I64s L) (hnn : ∀ x ∈ L, nullV x = false) (hlen : L.length < 9223372036854775808) {v : AV} (hv : SliceAt b s v (ivs L)) :
    WF E 85 [v, .func 86 [] []] (fun r s' => r = v ∧ s = s') s := by
  refine hE.go comp85 (by decide) rfl ?_
  simp only [c85, c85o0, c85o1, wpC, wpI, wpS, wpD, wpV, wanted_none, wanted_some, vals, cev_const, cev_var, cev_loc, padV, okV_some, againP, true_and, and_true, upd_zero, upd_succ, nth_zero, nth_succ, wpG_true, wpG_false, condK_true, condK_false, seqK_normal, seqK_ret, seqK_exit, inBlock_normal, inBlock_ret, inBlock_exit, ends_ret, ends_normal, unmark_nil, results_nil, results_cons, one_one, one_zero, one_two, isB_undef, isB_tt, isB_ff, Bool.not_true, Bool.not_false, Option.bind_some, pick3, pickA, extractA, List.getElem?_cons_zero, List.getElem?_cons_succ, bin_lss, bin_gtr, bin_leq, bin_geq, bin_eql, bin_neq, un_not]
  refine (index_ok hE hL hnn hlen hv).mono ?_
  rintro _ _ ⟨rfl, rfl⟩
  simp only [c85o2, c85o3, decide_true, wpC, wpI, wpS, wpD, wpV, wanted_none, wanted_some, vals, cev_const, cev_var, cev_loc, padV, okV_some, againP, true_and, and_true, upd_zero, upd_succ, nth_zero, nth_succ, wpG_true, wpG_false, condK_true, condK_false, seqK_normal, seqK_ret, seqK_exit, inBlock_normal, inBlock_ret, inBlock_exit, ends_ret, ends_normal, unmark_nil, results_nil, results_cons, one_one, one_zero, one_two, isB_undef, isB_tt, isB_ff, Bool.not_true, Bool.not_false, Option.bind_some, pick3, pickA, extractA, List.getElem?_cons_zero, List.getElem?_cons_succ, bin_lss, bin_gtr, bin_leq, bin_geq, bin_eql, bin_neq, un_not]

theorem sortV_len (L : List Int) : (sortV L).length = L.length := by
  have : ∀ (R q : List Int), (R.foldl (fun q x => down x q) q).length = q.length + R.length := by
    intro R
    induction R with
    | nil => intro q; rfl
    | cons y R ih => intro q; simp only [List.foldl_cons, ih, down_len, List.length_cons]; omega
  unfold sortV
  rw [List.length_reverse, this]; simp
/-- clean. -/
theorem clean_ok {E : Env} (hE : Good E) {s : ASt} {b : Nat} {L : List Int} (hL : I64s L) (hnn : ∀ x ∈ L, nullV x = false) (hlen : L.length ≤ 12) (hb : b ≤ s.next) {v : AV} (hv : SliceAt b s v (ivs L)) :
    WF E 56 [v] (fun r s' => SliceAt s'.next s' r (ivs (compV (sortV L))) ∧ Old s.next s s' ∧ eqA r r = true) s := by
  refine hE.go comp56 (by decide) rfl ?_
  simp only [c56, c56o0, c56o1, wpC, wpI, wpS, wpD, wpV, wanted_none, wanted_some, vals, cev_const, cev_var, cev_loc, padV, okV_some, againP, true_and, and_true, upd_zero, upd_succ, nth_zero, nth_succ, wpG_true, wpG_false, condK_true, condK_false, seqK_normal, seqK_ret, seqK_exit, inBlock_normal, inBlock_ret, inBlock_exit, ends_ret, ends_normal, unmark_nil, results_nil, results_cons, one_one, one_zero, one_two, isB_undef, isB_tt, isB_ff, Bool.not_true, Bool.not_false, Option.bind_some, pick3, pickA, extractA, List.getElem?_cons_zero, List.getElem?_cons_succ, bin_lss, bin_gtr, bin_leq, bin_geq, bin_eql, bin_neq, un_not]
  refine (clone_ok hE hb hv (by omega)).mono ?_
  rintro v1 s1 ⟨h1, h2⟩
  simp only [wpC, wpI, wpS, wpD, wpV, wanted_none, wanted_some, vals, cev_const, cev_var, cev_loc, padV, okV_some, againP, true_and, and_true, upd_zero, upd_succ, nth_zero, nth_succ, wpG_true, wpG_false, condK_true, condK_false, seqK_normal, seqK_ret, seqK_exit, inBlock_normal, inBlock_ret, inBlock_exit, ends_ret, ends_normal, unmark_nil, results_nil, results_cons, one_one, one_zero, one_two, isB_undef, isB_tt, isB_ff, Bool.not_true, Bool.not_false, Option.bind_some, pick3, pickA, extractA, List.getElem?_cons_zero, List.getElem?_cons_succ, bin_lss, bin_gtr, bin_leq, bin_geq, bin_eql, bin_neq, un_not]
  refine (delete_ok hE hL hnn (by omega) h1.slice).mono ?_
  rintro _ _ ⟨rfl, rfl⟩
  simp only [c56o2, wpC, wpI, wpS, wpD, wpV, wanted_none, wanted_some, vals, cev_const, cev_var, cev_loc, padV, okV_some, againP, true_and, and_true, upd_zero, upd_succ, nth_zero, nth_succ, wpG_true, wpG_false, condK_true, condK_false, seqK_normal, seqK_ret, seqK_exit, inBlock_normal, inBlock_ret, inBlock_exit, ends_ret, ends_normal, unmark_nil, results_nil, results_cons, one_one, one_zero, one_two, isB_undef, isB_tt, isB_ff, Bool.not_true, Bool.not_false, Option.bind_some, pick3, pickA, extractA, List.getElem?_cons_zero, List.getElem?_cons_succ, bin_lss, bin_gtr, bin_leq, bin_geq, bin_eql, bin_neq, un_not]
  refine (sort_ok hE h1 hlen).mono ?_
  rintro r2 s2 ⟨h3, h4, h5⟩
  simp only [c56o3, wpC, wpI, wpS, wpD, wpV, wanted_none, wanted_some, vals, cev_const, cev_var, cev_loc, padV, okV_some, againP, true_and, and_true, upd_zero, upd_succ, nth_zero, nth_succ, wpG_true, wpG_false, condK_true, condK_false, seqK_normal, seqK_ret, seqK_exit, inBlock_normal, inBlock_ret, inBlock_exit, ends_ret, ends_normal, unmark_nil, results_nil, results_cons, one_one, one_zero, one_two, isB_undef, isB_tt, isB_ff, Bool.not_true, Bool.not_false, Option.bind_some, pick3, pickA, extractA, List.getElem?_cons_zero, List.getElem?_cons_succ, bin_lss, bin_gtr, bin_leq, bin_geq, bin_eql, bin_neq, un_not]
  refine (comp_ok hE h3 ?_).mono ?_
  · rw [sortV_len]; omega
  rintro v3 s3 ⟨h6, h7, h8, h9, h10⟩
  simp only [wpC, wpI, wpS, wpD, wpV, wanted_none, wanted_some, vals, cev_const, cev_var, cev_loc, padV, okV_some, againP, true_and, and_true, upd_zero, upd_succ, nth_zero, nth_succ, wpG_true, wpG_false, condK_true, condK_false, seqK_normal, seqK_ret, seqK_exit, inBlock_normal, inBlock_ret, inBlock_exit, ends_ret, ends_normal, unmark_nil, results_nil, results_cons, one_one, one_zero, one_two, isB_undef, isB_tt, isB_ff, Bool.not_true, Bool.not_false, Option.bind_some, pick3, pickA, extractA, List.getElem?_cons_zero, List.getElem?_cons_succ, bin_lss, bin_gtr, bin_leq, bin_geq, bin_eql, bin_neq, un_not]
  exact ⟨h6, h2.trans (h4.trans h8), h10⟩
end Go.Proofs.Ytilhhmkdcoajnaa.Am

/- The program's clean and the reference's are one: both are the literals, rising, each once; conditions: none is null. -/
set_option linter.unusedVariables false
set_option linter.unusedSimpArgs false
namespace Go.Proofs.Ytilhhmkdcoajnaa.Am
open Go Go.Proofs

abbrev Rise (l : List Int) : Prop := l.Pairwise (· < ·)
def ins (x : Int) : List Int → List Int
  | [] => [x]
  | y :: l => if y < x then y :: ins x l else if y = x then y :: l else x :: y :: l
theorem insV_ins (x : Int) : ∀ L, insV x L = ins x L
  | [] => rfl
  | y :: l => by
    have ih := insV_ins x l
    unfold insV at ih ⊢
    unfold ins atV
    by_cases h : y < x
    · rw [if_pos h, if_pos h, List.getElem?_cons_succ, ← ih]
      split
      · rfl
      · rfl
    · rw [if_neg h, if_neg h]
      by_cases h2 : y = x
      · subst h2; simp
      · rw [if_neg (by simpa using h2), if_neg h2]; rfl
theorem ins_mem (x z : Int) : ∀ L, z ∈ ins x L ↔ z = x ∨ z ∈ L
  | [] => by simp [ins]
  | y :: l => by
    have ih := ins_mem x z l
    unfold ins
    split
    · simp only [List.mem_cons, ih]
      constructor
      · rintro (h | h | h)
        · exact .inr (.inl h)
        · exact .inl h
        · exact .inr (.inr h)
      · rintro (h | h | h)
        · exact .inr (.inl h)
        · exact .inl h
        · exact .inr (.inr h)
    · split
      · rename_i h2; subst h2; simp only [List.mem_cons]
        constructor
        · intro h; exact .inr h
        · rintro (h | h)
          · exact .inl h
          · exact h
      · simp only [List.mem_cons]
theorem ins_rise {x : Int} : ∀ {L}, Rise L → Rise (ins x L)
  | [], _ => by simp [ins]
  | y :: l, h => by
    obtain ⟨h1, h2⟩ := List.pairwise_cons.1 h
    unfold ins
    split
    · rename_i hlt
      refine List.pairwise_cons.2 ⟨fun z hz => ?_, ins_rise h2⟩
      rcases (ins_mem x z l).1 hz with rfl | hz
      · exact hlt
      · exact h1 z hz
    · split
      · exact h
      · rename_i hn1 hn2
        refine List.pairwise_cons.2 ⟨fun z hz => ?_, h⟩
        rcases List.mem_cons.1 hz with rfl | hz
        · omega
        · have := h1 z hz; omega
theorem cleanV_rise : ∀ (l : List Int) {out : List Int}, Rise out → Rise (cleanV out l)
  | [], _, h => h
  | x :: l, out, h => by
    unfold cleanV
    split
    · exact cleanV_rise l h
    · rw [insV_ins]; exact cleanV_rise l (ins_rise h)
theorem cleanV_mem' : ∀ (l : List Int) {out : List Int} (z : Int), z ∈ cleanV out l ↔ z ∈ out ∨ (z ∈ l ∧ nullV z = false)
  | [], out, z => by simp [cleanV]
  | x :: l, out, z => by
    unfold cleanV
    cases hx : nullV x with
    | true =>
      rw [if_pos rfl, cleanV_mem' l]
      constructor
      · rintro (h | ⟨h, k⟩)
        · exact .inl h
        · exact .inr ⟨List.mem_cons_of_mem _ h, k⟩
      · rintro (h | ⟨h, k⟩)
        · exact .inl h
        · rcases List.mem_cons.1 h with rfl | h
          · rw [hx] at k; cases k
          · exact .inr ⟨h, k⟩
    | false =>
      rw [if_neg (by simp), cleanV_mem' l, insV_ins, ins_mem]
      constructor
      · rintro ((rfl | h) | ⟨h, k⟩)
        · exact .inr ⟨List.mem_cons_self, hx⟩
        · exact .inl h
        · exact .inr ⟨List.mem_cons_of_mem _ h, k⟩
      · rintro (h | ⟨h, k⟩)
        · exact .inl (.inr h)
        · rcases List.mem_cons.1 h with rfl | h
          · exact .inl (.inl rfl)
          · exact .inr ⟨h, k⟩
theorem rise_eq : ∀ {A B : List Int}, Rise A → Rise B → (∀ z, z ∈ A ↔ z ∈ B) → A = B
  | [], [], _, _, _ => rfl
  | [], b :: B, _, _, h => by have := (h b).2 List.mem_cons_self; simp at this
  | a :: A, [], _, _, h => by have := (h a).1 List.mem_cons_self; simp at this
  | a :: A, b :: B, hA, hB, h => by
    obtain ⟨a1, a2⟩ := List.pairwise_cons.1 hA
    obtain ⟨b1, b2⟩ := List.pairwise_cons.1 hB
    have e : a = b := by
      rcases List.mem_cons.1 ((h a).1 List.mem_cons_self) with e | e
      · exact e
      · rcases List.mem_cons.1 ((h b).2 List.mem_cons_self) with e' | e'
        · exact e'.symm
        · have := b1 a e; have := a1 b e'; omega
    subst e
    rw [rise_eq a2 b2 fun z => ?_]
    constructor
    · intro hz
      rcases List.mem_cons.1 ((h z).1 (List.mem_cons_of_mem _ hz)) with e | e
      · subst e; have := a1 z hz; omega
      · exact e
    · intro hz
      rcases List.mem_cons.1 ((h z).2 (List.mem_cons_of_mem _ hz)) with e | e
      · subst e; have := b1 z hz; omega
      · exact e
abbrev Fall (l : List Int) : Prop := l.Pairwise (fun a b => b ≤ a)
theorem down_mem (x z : Int) : ∀ q, z ∈ down x q ↔ z = x ∨ z ∈ q
  | [] => by simp [down]
  | y :: q => by
    have ih := down_mem x z q
    unfold down
    split
    · simp only [List.mem_cons, ih]
      constructor
      · rintro (h | h | h)
        · exact .inr (.inl h)
        · exact .inl h
        · exact .inr (.inr h)
      · rintro (h | h | h)
        · exact .inr (.inl h)
        · exact .inl h
        · exact .inr (.inr h)
    · simp only [List.mem_cons]
theorem down_fall {x : Int} : ∀ {q}, Fall q → Fall (down x q)
  | [], _ => by simp [down]
  | y :: q, h => by
    obtain ⟨h1, h2⟩ := List.pairwise_cons.1 h
    unfold down
    split
    · rename_i hlt
      refine List.pairwise_cons.2 ⟨fun z hz => ?_, down_fall h2⟩
      rcases (down_mem x z q).1 hz with rfl | hz
      · omega
      · exact h1 z hz
    · rename_i hn
      refine List.pairwise_cons.2 ⟨fun z hz => ?_, h⟩
      rcases List.mem_cons.1 hz with rfl | hz
      · omega
      · have := h1 z hz; omega
theorem foldDown : ∀ (R : List Int) {q : List Int}, Fall q → Fall (R.foldl (fun q x => down x q) q) ∧ ∀ z, z ∈ R.foldl (fun q x => down x q) q ↔ z ∈ q ∨ z ∈ R
  | [], q, h => ⟨h, fun z => by simp⟩
  | x :: R, q, h => by
    obtain ⟨h1, h2⟩ := foldDown R (down_fall (x := x) h)
    refine ⟨h1, fun z => ?_⟩
    rw [List.foldl_cons, h2, down_mem, List.mem_cons]
    constructor
    · rintro ((h | h) | h)
      · exact .inr (.inl h)
      · exact .inl h
      · exact .inr (.inr h)
    · rintro (h | h | h)
      · exact .inl (.inr h)
      · exact .inl (.inl h)
      · exact .inr h
theorem dd_rise : ∀ (l : List Int) (p : Int), (p :: l).Pairwise (· ≤ ·) → Rise (p :: dd p l) ∧ ∀ z, z ∈ p :: dd p l ↔ z ∈ p :: l
  | [], p, _ => ⟨by simp [dd], fun z => by simp [dd]⟩
  | x :: l, p, h => by
    obtain ⟨h1, h2⟩ := List.pairwise_cons.1 h
    unfold dd
    split
    · rename_i e
      subst e
      obtain ⟨k1, k2⟩ := dd_rise l x h2
      refine ⟨k1, fun z => ?_⟩
      rw [k2, List.mem_cons, List.mem_cons, List.mem_cons]
      constructor
      · rintro (h | h)
        · exact .inl h
        · exact .inr (.inr h)
      · rintro (h | h | h)
        · exact .inl h
        · exact .inl h
        · exact .inr h
    · rename_i hne
      obtain ⟨k1, k2⟩ := dd_rise l x h2
      refine ⟨List.pairwise_cons.2 ⟨fun z hz => ?_, k1⟩, fun z => ?_⟩
      · have hpx := h1 x List.mem_cons_self
        rcases List.mem_cons.1 ((k2 z).1 hz) with rfl | hz'
        · omega
        · have := (List.pairwise_cons.1 h2).1 z hz'; omega
      · rw [List.mem_cons, k2, List.mem_cons (l := x :: l)]
theorem clean_eq {L : List Int} (hnn : ∀ x ∈ L, nullV x = false) : compV (sortV L) = cleanV [] L := by
  obtain ⟨h1, h2⟩ := foldDown L (q := []) .nil
  have hs : (sortV L).Pairwise (· ≤ ·) := by
    unfold sortV
    rw [List.pairwise_reverse]
    exact h1
  have hm : ∀ z, z ∈ sortV L ↔ z ∈ L := by
    intro z; unfold sortV; rw [List.mem_reverse, h2]; simp
  have hc : Rise (compV (sortV L)) ∧ ∀ z, z ∈ compV (sortV L) ↔ z ∈ sortV L := by
    cases hl : sortV L with
    | nil => exact ⟨by simp [compV], fun z => by simp [compV]⟩
    | cons p l => rw [hl] at hs; exact dd_rise l p hs
  refine rise_eq hc.1 (cleanV_rise L .nil) fun z => ?_
  rw [hc.2, hm, cleanV_mem']
  constructor
  · intro h; exact .inr ⟨h, hnn z h⟩
  · rintro (h | h)
    · cases h
    · exact h.1
end Go.Proofs.Ytilhhmkdcoajnaa.Am

/- Loops over functions: rules; and the code of the functions of layer 20 that have one, printed by a program of ours (dev/Print.lean) and checked by the kernel; conditions: none. -/
set_option linter.unusedVariables false
set_option linter.unusedSimpArgs false
namespace Go.Proofs.Ytilhhmkdcoajnaa.Am
open Go Go.Proofs

/-- Behind a loop over a function: how its code goes on. -/
def PendK (Q : ARes → Prop) (var : List AV) (marks : List Nat) (s : ASt) (pd : Option Code) : Prop := match pd with
  | none => Q ⟨.normal, var, marks, s⟩
  | some .ret => Q ⟨.ret, var, marks, s⟩
  | some (.exit id) => Q ⟨.exit id, var, marks, s⟩
  | some _ => False
theorem pend_run {Q : ARes → Prop} {var : List AV} {marks : List Nat} {s : ASt} {pd : Option Code} (h : PendK Q var marks s pd) : ∃ r, cPending var marks s pd = some r ∧ Q r := by
  unfold PendK at h
  unfold cPending
  split at h
  · exact ⟨_, rfl, h⟩
  · exact ⟨_, rfl, h⟩
  · exact ⟨_, rfl, h⟩
  · exact h.elim

/-- A loop over a function, ahead of it. -/
def loopObj (fn : FuncId) (var : List AV) (ps : Array Tmp) (a b : Code) (dfr : Nat) : ALoop := { state := .ready, pending := none, fn, var, params := ps, assign := a, body := b, dfr }
theorem WC.range {E : Env} {Q : ARes → Prop} {var : List AV} {marks : List Nat} {s : ASt} {fn : FuncId} {f : CX} {ps : Array Tmp} {a b : Code} {g : FuncId} {first cap : List AV} (hf : cev [] var f = .func g first cap)
    (h : WF E g (first ++ ([.yield (s.next + 1)] ++ cap)) (fun _ s' => ∃ r, loopAt s' (s.next + 1) = some r ∧ isBusy r.state = false ∧ PendK Q var (s.next :: marks) (setObj s' (s.next + 1) (.loop { r with state := .exhausted })) r.pending)
      (newObj (newObj s .mark) (.loop (loopObj fn var ps a b s.next)))) : WC E none (.rangeFunc fn f ps a b) Q var marks s := by
  obtain ⟨n, p, h1, r, h2, h3, h4⟩ := h
  obtain ⟨res, h5, h6⟩ := pend_run h4
  refine ⟨n + 1, res, ?_, h6⟩
  show stepC (runA E n) none (.rangeFunc fn f ps a b) var marks s = some res
  simp only [stepC, cRange, cRange2, cRangeEnd, hf, callV]
  have e : (newObj s .mark).next = s.next + 1 := rfl
  rw [e]
  have h1' := h1
  unfold loopObj at h1'
  rw [h1']
  simp only [Option.bind_some, h2, h3, cond_false, h5]

/-- A round. -/
theorem WR.round {E : Env} {K : AV → ASt → Prop} {l : Nat} {xs : List AV} {s : ASt} {r : ALoop} {var : List AV} {ca cb : CCode} (h1 : loopAt s l = some r) (h2 : zipParams (varsIn E.P r.fn) r.var r.params.toList xs = some var)
    (h3 : compIn E.P r.fn r.assign = some ca) (h4 : compIn E.P r.fn r.body = some cb)
    (h : WC E (some l) ca (fun q => q.exit = .normal ∧ ∃ r', loopAt q.st l = some r' ∧ isReady r'.state = true ∧
      WC E (some l) cb (fun q2 => ∃ r'', loopAt q2.st l = some r'' ∧ K (.bool (exitCode q2.exit).isNone) (setObj q2.st l (.loop { r'' with state := stateOf (exitCode q2.exit), pending := exitCode q2.exit }))) q.var q.marks (setObj q.st l (.loop { r' with state := .busy }))) var [] s) : WR E l xs K s := by
  obtain ⟨n, q, g1, g2, r', g3, g4, m, q2, g5, r'', g6, g7⟩ := h
  refine ⟨max n m + 1, (_, _), ?_, g7⟩
  show stepR E (runA E (max n m)) l xs s = _
  simp only [stepR, h1, Option.bind_some, h2, h3, h4, roundBody, (runA_le E (Nat.le_max_left n m)).code g1, g2, isNormal, cond_true, g3, g4, roundEnd, (runA_le E (Nat.le_max_right n m)).code g5, g6]
  rfl

/-- The first loop over a function in some code. -/
noncomputable def codeRange : Code → Option (Code × Code)
  | .seq x y => match codeRange x with
    | some p => some p
    | none => codeRange y
  | .cond _ x y => match codeRange x with
    | some p => some p
    | none => codeRange y
  | .block _ c => codeRange c
  | .loop c => codeRange c
  | .scope c => codeRange c
  | .rangeFunc _ _ a b => some (a, b)
  | _ => none
noncomputable def rangeOf (f : FuncId) : Code × Code := (((Try.prog.funcs[f]?).bind fun fn => fn.body.bind codeRange)).getD (.skip, .skip)

/-! litmus/drup.dropped -/
/- kept: [0, 1, 2, 4, 5, 6, 7, 11, 12, 13, 17], params 2 -/
noncomputable def c83o0 : List CItem := [
  ⟨none, .mk (fun l => match l with | [v] => boxA 22 v | _ => none), [(.var 0)], (.set 2), []⟩,
  ⟨none, .mk (fun l => match l with | [] => allocA Try.prog 22 | _ => none), [], (.set 3), []⟩]
noncomputable def c83o1 : List CItem := [
  ⟨none, .call 56, [(.var 1)], .push, []⟩,
  ⟨none, .mk (fun l => match l with | [] => allocA Try.prog 23 | _ => none), [], (.set 4), []⟩,
  ⟨none, .e (fun s => on2 (fun a x => withV (storeV Try.prog s 23 a x))), [(.var 4), (.loc 0)], .push, []⟩]
noncomputable def c83o2 : List CItem := [
  ⟨none, .r1 (fun s a => loadV Try.prog s 22 a), [(.var 2)], .push, []⟩,
  ⟨none, .call 104, [(.loc 0)], (.set 7), []⟩]
noncomputable def c83o3 : List CItem := [
  ⟨none, .p1 some, [(.var 8)], (.set 5), []⟩]
noncomputable def c83o4 : List CItem := [
  ⟨none, .p1 some, [(.var 9)], (.set 6), []⟩]
noncomputable def c83o5 : List CItem := [
  ⟨none, .r1 (fun s a => loadV Try.prog s 23 a), [(.var 4)], .push, []⟩,
  ⟨none, .call 56, [(.var 6)], .push, [⟨none, .r1 (fun s a => loadV Try.prog s 23 a), [(.var 4)], (.loc 1)⟩]⟩,
  ⟨none, .call 105, [(.loc 0), (.loc 1)], (.set 10), []⟩]
noncomputable def c83o6 : List CItem := [
  ⟨none, .r1 (fun s a => loadV Try.prog s 22 a), [(.var 2)], .push, []⟩,
  ⟨none, .call 107, [(.loc 0)], .push, []⟩,
  ⟨none, .p2 (binA Try.prog .add 3), [(.var 5), (.const (.int .i64 (1)))], .push, []⟩,
  ⟨none, .call 106, [(.loc 1), (.var 5), (.loc 0)], .push, []⟩,
  ⟨none, .e (fun s => on2 (fun a x => withV (storeV Try.prog s 22 a x))), [(.var 3), (.loc 0)], .push, []⟩]
noncomputable def c83a : CCode := (.seq (.ops c83o3) (.ops c83o4))
noncomputable def c83b : CCode := (.block 1 (.seq (.ops c83o5) (.cond (.var 10)
  (.seq (.ops c83o6) .ret)
  .skip)))
/-- The loop's code, as the program has it. -/
noncomputable def a83 : Code := (rangeOf 83).1
noncomputable def b83 : Code := (rangeOf 83).2
noncomputable def c83o8 : List CItem := [
  ⟨none, .r1 (fun s a => loadV Try.prog s 22 a), [(.var 2)], .push, []⟩,
  ⟨none, .e (fun s => on2 (fun a x => withV (storeV Try.prog s 22 a x))), [(.var 3), (.loc 0)], .push, []⟩]
noncomputable def c83 : CFunc := ⟨2, 11, (.seq (.ops c83o0) (.seq (.ops c83o1) (.seq (.seq (.ops c83o2) (.block 0 (.rangeFunc 83 (.var 7) #[12, 13] a83 b83))) (.seq (.ops c83o8) .ret)))), [((.var 3), some 22)]⟩

theorem comp83 : compFunc Try.prog 83 = some c83 := by kernel_rfl
theorem vars83 : varsIn Try.prog 83 = [0, 1, 2, 4, 5, 6, 7, 11, 12, 13, 17] := by kernel_rfl
theorem ca83 : compIn Try.prog 83 a83 = some c83a := by kernel_rfl
theorem cb83 : compIn Try.prog 83 b83 = some c83b := by kernel_rfl

/-! litmus/drup.Check -/
/- kept: [0, 1, 2, 3, 4, 5, 6, 7, 9, 10, 11, 22, 33, 42], params 2 -/
noncomputable def c24o0 : List CItem := [
  ⟨none, .mk (fun l => match l with | [v] => boxA 22 v | _ => none), [(.var 0)], (.set 2), []⟩,
  ⟨none, .mk (fun l => match l with | [v] => boxA 33 v | _ => none), [(.var 1)], (.set 3), []⟩,
  ⟨none, .mk (fun l => match l with | [] => allocA Try.prog 3 | _ => none), [], (.set 4), []⟩,
  ⟨none, .mk (fun l => match l with | [] => allocA Try.prog 4 | _ => none), [], (.set 5), []⟩]
noncomputable def c24o1 : List CItem := [
  ⟨none, .r1 (fun s a => loadV Try.prog s 33 a), [(.var 3)], .push, []⟩,
  ⟨none, .call 54, [(.loc 0)], (.set 8), []⟩]
noncomputable def c24o2 : List CItem := [
  ⟨none, .p1 some, [(.var 9)], (.set 6), []⟩]
noncomputable def c24o3 : List CItem := [
  ⟨none, .p1 some, [(.var 10)], (.set 7), []⟩]
noncomputable def c24o4 : List CItem := [
  ⟨none, .r1 (fun s a => loadV Try.prog s 33 a), [(.var 3)], .push, []⟩,
  ⟨none, .r (fun s l => match l with | [x] => lenA Try.prog s 33 x | _ => none), [(.loc 0)], .push, []⟩,
  ⟨none, .p2 (binA Try.prog .eql 3), [(.var 6), (.loc 0)], .push, []⟩,
  ⟨(some ((.loc 0), false)), .r1 (fun s a => loadV Try.prog s 33 a), [(.var 3)], .push, []⟩,
  ⟨(some ((.loc 1), false)), .p1 some, [(.var 6)], .push, []⟩,
  ⟨(some ((.loc 2), false)), .p2 (indexAddrA Try.prog 33), [(.loc 1), (.loc 0)], .push, []⟩,
  ⟨(some ((.loc 3), false)), .p1 (fun x => fieldAddrA Try.prog 27 x 0), [(.loc 0)], .push, []⟩,
  ⟨(some ((.loc 4), false)), .r1 (fun s a => loadV Try.prog s 4 a), [(.loc 0)], .push, []⟩,
  ⟨none, .p pick3, [(.loc 5), (.const (.bool true)), (.loc 0)], (.set 11), []⟩]
noncomputable def c24o5 : List CItem := [
  ⟨none, .r1 (fun s a => loadV Try.prog s 22 a), [(.var 2)], .push, []⟩,
  ⟨none, .mk (fun l => (sliceRowA Try.prog 110 2 (zipIdx [0, 1] l)).bind fun r => some (r, .slice 2)), [(.loc 0), (.var 7)], .push, []⟩,
  ⟨none, .r1 (fun s a => loadV Try.prog s 33 a), [(.var 3)], .push, []⟩,
  ⟨none, .p2 (indexAddrA Try.prog 33), [(.loc 0), (.var 6)], .push, []⟩,
  ⟨none, .p1 (fun x => fieldAddrA Try.prog 27 x 1), [(.loc 0)], .push, []⟩,
  ⟨none, .r1 (fun s a => loadV Try.prog s 23 a), [(.loc 0)], .push, []⟩,
  ⟨none, .call 55, [(.loc 4)], .push, [⟨none, .r1 (fun s a => loadV Try.prog s 23 a), [(.loc 2)], (.loc 1)⟩, ⟨none, .r1 (fun s a => loadV Try.prog s 33 a), [(.var 3)], (.loc 4)⟩]⟩,
  ⟨none, .call 17, [(.loc 0), (.loc 1)], .push, []⟩,
  ⟨none, .p1 (unA Try.prog Go.UnOp.not), [(.loc 0)], (.set 12), []⟩]
noncomputable def c24o6 : List CItem := [
  ⟨none, .e (fun s => on2 (fun a x => withV (storeV Try.prog s 3 a x))), [(.var 4), (.var 6)], .push, []⟩,
  ⟨none, .e (fun s => on2 (fun a x => withV (storeV Try.prog s 4 a x))), [(.var 5), (.const (.bool false))], .push, []⟩]
noncomputable def c24o7 : List CItem := [
  ⟨none, .r1 (fun s a => loadV Try.prog s 33 a), [(.var 3)], .push, []⟩,
  ⟨none, .p2 (indexAddrA Try.prog 33), [(.loc 0), (.var 6)], .push, []⟩,
  ⟨none, .p1 (fun x => fieldAddrA Try.prog 27 x 1), [(.loc 0)], .push, []⟩,
  ⟨none, .r1 (fun s a => loadV Try.prog s 23 a), [(.loc 0)], .push, []⟩,
  ⟨none, .call 56, [(.loc 0)], .push, []⟩,
  ⟨none, .r (fun s l => match l with | [x] => lenA Try.prog s 23 x | _ => none), [(.loc 0)], .push, []⟩,
  ⟨none, .p2 (binA Try.prog .eql 3), [(.loc 0), (.const (.int .i64 (0)))], (.set 13), []⟩]
noncomputable def c24o8 : List CItem := [
  ⟨none, .e (fun s => on2 (fun a x => withV (storeV Try.prog s 3 a x))), [(.var 4), (.var 6)], .push, []⟩,
  ⟨none, .e (fun s => on2 (fun a x => withV (storeV Try.prog s 4 a x))), [(.var 5), (.const (.bool true))], .push, []⟩]
noncomputable def c24a : CCode := (.seq (.ops c24o2) (.ops c24o3))
noncomputable def c24b : CCode := (.block 1 (.seq (.seq (.ops c24o4) (.cond (.var 11)
  (.exit 1)
  .skip)) (.seq (.seq (.ops c24o5) (.cond (.var 12)
  (.seq (.ops c24o6) .ret)
  .skip)) (.seq (.ops c24o7) (.cond (.var 13)
  (.seq (.ops c24o8) .ret)
  .skip)))))
/-- The loop's code, as the program has it. -/
noncomputable def a24 : Code := (rangeOf 24).1
noncomputable def b24 : Code := (rangeOf 24).2
noncomputable def c24o10 : List CItem := [
  ⟨none, .r1 (fun s a => loadV Try.prog s 33 a), [(.var 3)], .push, []⟩,
  ⟨none, .r (fun s l => match l with | [x] => lenA Try.prog s 33 x | _ => none), [(.loc 0)], .push, []⟩,
  ⟨none, .e (fun s => on2 (fun a x => withV (storeV Try.prog s 3 a x))), [(.var 4), (.loc 0)], .push, []⟩,
  ⟨none, .e (fun s => on2 (fun a x => withV (storeV Try.prog s 4 a x))), [(.var 5), (.const (.bool false))], .push, []⟩]
noncomputable def c24 : CFunc := ⟨2, 14, (.seq (.ops c24o0) (.seq (.seq (.ops c24o1) (.block 0 (.rangeFunc 24 (.var 8) #[10, 11] a24 b24))) (.seq (.ops c24o10) .ret))), [((.var 4), some 3), ((.var 5), some 4)]⟩

theorem comp24 : compFunc Try.prog 24 = some c24 := by kernel_rfl
theorem vars24 : varsIn Try.prog 24 = [0, 1, 2, 3, 4, 5, 6, 7, 9, 10, 11, 22, 33, 42] := by kernel_rfl
theorem ca24 : compIn Try.prog 24 a24 = some c24a := by kernel_rfl
theorem cb24 : compIn Try.prog 24 b24 = some c24b := by kernel_rfl

/-! litmus/drup.Left -/
/- kept: [0, 1, 2, 3, 4, 5, 6, 7, 9, 11, 12, 13, 17, 21, 22, 23, 24], params 2 -/
noncomputable def c27o0 : List CItem := [
  ⟨none, .mk (fun l => match l with | [v] => boxA 22 v | _ => none), [(.var 0)], (.set 2), []⟩,
  ⟨none, .mk (fun l => match l with | [v] => boxA 33 v | _ => none), [(.var 1)], (.set 3), []⟩,
  ⟨none, .p1 some, [(.const (.slice none 0 (some 0)))], (.set 4), []⟩]
noncomputable def c27o1 : List CItem := [
  ⟨none, .mk (fun l => match l with | [] => allocA Try.prog 22 | _ => none), [], (.set 5), []⟩]
noncomputable def c27o2 : List CItem := [
  ⟨none, .r1 (fun s a => loadV Try.prog s 33 a), [(.var 3)], .push, []⟩,
  ⟨none, .call 54, [(.loc 0)], (.set 9), []⟩]
noncomputable def c27o3 : List CItem := [
  ⟨none, .p1 some, [(.var 10)], (.set 6), []⟩]
noncomputable def c27o4 : List CItem := [
  ⟨none, .p1 some, [(.var 11)], (.set 7), []⟩]
noncomputable def c27o5 : List CItem := [
  ⟨none, .r1 (fun s a => loadV Try.prog s 33 a), [(.var 3)], .push, []⟩,
  ⟨none, .r (fun s l => match l with | [x] => lenA Try.prog s 33 x | _ => none), [(.loc 0)], .push, []⟩,
  ⟨none, .p2 (binA Try.prog .lss 3), [(.var 6), (.loc 0)], (.set 12), []⟩]
noncomputable def c27o6 : List CItem := [
  ⟨none, .r1 (fun s a => loadV Try.prog s 22 a), [(.var 2)], .push, []⟩,
  ⟨none, .mk (fun l => (sliceRowA Try.prog 110 2 (zipIdx [0, 1] l)).bind fun r => some (r, .slice 2)), [(.loc 0), (.var 7)], .push, []⟩,
  ⟨none, .call 55, [(.loc 0)], (.set 13), []⟩,
  ⟨none, .r (fun s l => match l with | [x] => lenA Try.prog s 22 x | _ => none), [(.var 13)], (.set 14), []⟩,
  ⟨none, .p1 some, [(.const (.int .i64 (0)))], (.set 15), []⟩]
noncomputable def c27o7 : List CItem := [
  ⟨none, .p2 (binA Try.prog .lss 3), [(.var 15), (.var 14)], (.set 16), []⟩]
noncomputable def c27o8 : List CItem := [
  ⟨none, .p2 (indexAddrA Try.prog 22), [(.var 13), (.var 15)], .push, []⟩,
  ⟨none, .r1 (fun s a => loadV Try.prog s 23 a), [(.loc 0)], .push, []⟩,
  ⟨none, .p1 some, [(.loc 0)], (.set 8), []⟩]
noncomputable def c27o9 : List CItem := [
  ⟨none, .r1 (fun s a => loadV Try.prog s 22 a), [(.var 5)], .push, []⟩,
  ⟨none, .call 60, [(.var 8)], .push, [⟨none, .r1 (fun s a => loadV Try.prog s 22 a), [(.var 5)], (.loc 1)⟩]⟩,
  ⟨none, .mk (fun l => (sliceRowA Try.prog 22 1 (zipIdx [0] l)).bind fun r => some (r, .slice 1)), [(.loc 0)], .push, []⟩,
  ⟨none, .e (fun s l => appendA Try.prog s [22, 22] l), [(.loc 2), (.loc 0)], .push, []⟩,
  ⟨none, .e (fun s => on2 (fun a x => withV (storeV Try.prog s 22 a x))), [(.var 5), (.loc 0)], .push, []⟩]
noncomputable def c27o10 : List CItem := [
  ⟨none, .p2 (binA Try.prog .add 3), [(.var 15), (.const (.int .i64 (1)))], .push, []⟩,
  ⟨none, .p1 some, [(.loc 0)], (.set 15), []⟩]
noncomputable def c27l11 : CCode := (.seq (.ops c27o7) (.seq (.cond (.var 16)
  .skip
  (.exit 2)) (.seq (.block 3 (.seq (.ops c27o8) (.ops c27o9))) (.ops c27o10))))
noncomputable def c27a : CCode := (.seq (.ops c27o3) (.ops c27o4))
noncomputable def c27b : CCode := (.block 1 (.seq (.seq (.ops c27o5) (.cond (.var 12)
  (.exit 1)
  .skip)) (.seq (.ops c27o6) (.block 2 (.loop c27l11)))))
/-- The loop's code, as the program has it. -/
noncomputable def a27 : Code := (rangeOf 27).1
noncomputable def b27 : Code := (rangeOf 27).2
noncomputable def c27o13 : List CItem := [
  ⟨none, .r1 (fun s a => loadV Try.prog s 22 a), [(.var 5)], .push, []⟩,
  ⟨none, .p1 some, [(.loc 0)], (.set 4), []⟩]
noncomputable def c27 : CFunc := ⟨2, 17, (.seq (.ops c27o0) (.seq (.ops c27o1) (.seq (.seq (.ops c27o2) (.block 0 (.rangeFunc 27 (.var 9) #[12, 13] a27 b27))) (.seq (.ops c27o13) .ret)))), [((.var 4), none)]⟩

theorem comp27 : compFunc Try.prog 27 = some c27 := by kernel_rfl
theorem vars27 : varsIn Try.prog 27 = [0, 1, 2, 3, 4, 5, 6, 7, 9, 11, 12, 13, 17, 21, 22, 23, 24] := by kernel_rfl
theorem ca27 : compIn Try.prog 27 a27 = some c27a := by kernel_rfl
theorem cb27 : compIn Try.prog 27 b27 = some c27b := by kernel_rfl

end Go.Proofs.Ytilhhmkdcoajnaa.Am

/- Boxes; the library's Clone and Delete of rows of rows; conditions: sizes fit. -/
set_option linter.unusedVariables false
set_option linter.unusedSimpArgs false
namespace Go.Proofs.Ytilhhmkdcoajnaa.Am
open Go Go.Proofs

/-- An object of one cell. -/
def Box1 (s : ASt) (j : Nat) (c : AV) : Prop := ∃ r, s.heap.get j = some (.row r) ∧ Holds r [c] ∧ r.mode = .own ∧ r.par = none
theorem Box1.keep {s s' : ASt} {j : Nat} {c : AV} (h : Box1 s j c) (k : s'.heap.get j = s.heap.get j) : Box1 s' j c := by
  obtain ⟨r, h1, h2⟩ := h
  exact ⟨r, k.trans h1, h2⟩
theorem Box1.load {s : ASt} {j : Nat} {c : AV} (h : Box1 s j c) {t : TypeId} (ht : aggT Try.prog t = some false) : loadV Try.prog s t (.ptr (some (j, 0))) = some c := by
  obtain ⟨r, h1, h2, _⟩ := h
  exact load_one ht (load1_row h1 (by rw [h2.1]; simp) (h2.2 0 c rfl))
theorem Box1.store {s : ASt} {j : Nat} {c d : AV} (h : Box1 s j c) {t : TypeId} (ht : sizeT Try.prog t = some 1) (h1 : d.isCell = true) (h2 : d.cells = [d]) :
    ∃ s', storeV Try.prog s t (.ptr (some (j, 0))) d = some s' ∧ Box1 s' j d ∧ s'.next = s.next ∧ ∀ x, x ≠ j → s'.heap.get x = s.heap.get x := by
  obtain ⟨r, g1, g2, g3, g4⟩ := h
  refine ⟨setObj s j (.row { r with c := r.c.fill 0 [d], par := none }), ?_, ⟨{ r with c := r.c.fill 0 [d], par := none }, by rw [heap_set, if_pos rfl], ⟨g2.1, ?_⟩, g3, rfl⟩, rfl, fun x hx => by rw [heap_set, if_neg hx]⟩
  · simp [storeV, ht, h2, guardB, storeN_row (vs := [d]) (o := 0) g1 g3 g4 (by simp) (by rw [g2.1]; simp) (by simp [allCells, h1])]
  · intro k u hk
    have := lt_of_get hk
    show (Tree.fill r.c 0 [d]).get k = some u
    rw [Tree.get_fill, if_pos ⟨Nat.zero_le _, by simpa using this⟩]
    simpa using hk
theorem Box1.new {s : ASt} {t : TypeId} {c : AV} : Box1 (newObj s (mkRow t 0 [c])) s.next c := by
  obtain ⟨r, h1, h2, _, _, h5, h6⟩ := holds_mkRow t 0 [c]
  exact ⟨r, by rw [heap_new, if_pos rfl, h1], h2, h5, h6⟩
theorem unmark_one {s : ASt} {i : Nat} (h : s.heap.get i = some .mark) : unmark s [i] = some (delObj s i) := by simp [unmark, h]

/-! ### Rows of one-cell elements, open at their end -/
section
theorem open_lo {t e : TypeId} (ht : Try.prog.underlying t = some (.slice e)) (hs : sizeT Try.prog e = some 1) {s : ASt} {i n k : Nat} {cs : List AV} (h : RowAt s i cs) (hk : k ≤ n) : sliceOpnds Try.prog t true false false s [.slice (some (i, 0)) n none, iv (k : Int)] = some (.slice (some (i, 0 + k * 1)) (n - k) none) := by
  obtain ⟨r, h1, h2, h3, h4, h5⟩ := h
  have hb : boundA (iv (k : Int)) n = some k := by simp [boundA, idxOf, natOf_nat, guardB, ble_of hk]
  show sliceA Try.prog s t (.slice (some (i, 0)) n none) (some (iv (k : Int))) none none = _
  simp [sliceA, ht, hs, rowAt, h1, h5, guardB, hb, ble_of (Nat.zero_le r.n), show Nat.beq 1 0 = false from rfl]
theorem open_hi {t e : TypeId} (ht : Try.prog.underlying t = some (.slice e)) (hs : sizeT Try.prog e = some 1) {s : ASt} {i n k : Nat} {cs : List AV} (h : RowAt s i cs) (hk : k ≤ cs.length) : sliceOpnds Try.prog t false true false s [.slice (some (i, 0)) n none, iv (k : Int)] = some (.slice (some (i, 0)) k none) := by
  obtain ⟨r, h1, h2, h3, h4, h5⟩ := h
  have hb : boundA (iv (k : Int)) r.n = some k := by simp [boundA, idxOf, natOf_nat, guardB, h2.1, ble_of hk]
  show sliceA Try.prog s t (.slice (some (i, 0)) n none) none (some (iv (k : Int))) none = _
  simp [sliceA, ht, hs, rowAt, h1, h5, guardB, hb, ble_of (Nat.zero_le r.n), show Nat.beq 1 0 = false from rfl]
theorem open_both {t e : TypeId} (ht : Try.prog.underlying t = some (.slice e)) (hs : sizeT Try.prog e = some 1) {s : ASt} {i n k m : Nat} {cs : List AV} (h : RowAt s i cs) (hk : k ≤ m) (hm : m ≤ cs.length) : sliceOpnds Try.prog t true true false s [.slice (some (i, 0)) n none, iv (k : Int), iv (m : Int)] = some (.slice (some (i, 0 + k * 1)) (m - k) none) := by
  obtain ⟨r, h1, h2, h3, h4, h5⟩ := h
  have hb : boundA (iv (m : Int)) r.n = some m := by simp [boundA, idxOf, natOf_nat, guardB, h2.1, ble_of hm]
  have hb2 : boundA (iv (k : Int)) m = some k := by simp [boundA, idxOf, natOf_nat, guardB, ble_of hk]
  show sliceA Try.prog s t (.slice (some (i, 0)) n none) (some (iv (k : Int))) (some (iv (m : Int))) none = _
  simp [sliceA, ht, hs, rowAt, h1, h5, guardB, hb, hb2, ble_of (Nat.zero_le r.n), show Nat.beq 1 0 = false from rfl]
theorem open_all {t e : TypeId} (ht : Try.prog.underlying t = some (.slice e)) (hs : sizeT Try.prog e = some 1) {s : ASt} {i n k m : Nat} {cs : List AV} (h : RowAt s i cs) (hk : k ≤ m) (hm : m ≤ n) (hn : n ≤ cs.length) (h0 : 0 < n) : ∃ w, sliceOpnds Try.prog t true true true s [.slice (some (i, 0)) n none, iv (k : Int), iv (m : Int), iv (n : Int)] = some w := by
  obtain ⟨r, h1, h2, h3, h4, h5⟩ := h
  have hb0 : boundA (iv (n : Int)) r.n = some n := by simp [boundA, idxOf, natOf_nat, guardB, h2.1, ble_of hn]
  have hb : boundA (iv (m : Int)) n = some m := by simp [boundA, idxOf, natOf_nat, guardB, ble_of hm]
  have hb2 : boundA (iv (k : Int)) m = some k := by simp [boundA, idxOf, natOf_nat, guardB, ble_of hk]
  show ∃ w, sliceA Try.prog s t (.slice (some (i, 0)) n none) (some (iv (k : Int))) (some (iv (m : Int))) (some (iv (n : Int))) = some w
  simp [sliceA, ht, hs, rowAt, h1, h5, guardB, hb0, hb, hb2, ble_of (Nat.zero_le r.n), show Nat.beq 1 0 = false from rfl, show Nat.blt 0 r.n = true from blt_of (by rw [h2.1]; omega)]
theorem open_clear {t e : TypeId} (ht : Try.prog.underlying t = some (.slice e)) {z : AV} (hz : zeroT Try.prog e = some z) (hzc : z.cells = [z]) (hz1 : z.isCell = true) {s : ASt} {i k : Nat} {A : List AV} {b : AV} (h : RowAt s i (A ++ [b])) (hA : A.length = k) :
    ∃ s', clearA Try.prog s [t] [.slice (some (i, 0 + k * 1)) 1 none] = some (undefA, s') ∧ RowAt s' i (A ++ [z]) ∧ s'.next = s.next ∧ ∀ x, x ≠ i → s'.heap.get x = s.heap.get x := by
  subst hA
  obtain ⟨s', g1, g2, g3, g4⟩ := h.fill (o := A.length) (vs := [z]) (by simp) (by simp) (by simp [allCells, hz1])
  refine ⟨s', ?_, ?_, g3, g4⟩
  · simp [clearA, ht, hz, hzc, rep, g1]
  · have e' : (A ++ [b]).take A.length ++ [z] ++ (A ++ [b]).drop (A.length + [z].length) = A ++ [z] := by
      rw [List.take_left' rfl, List.drop_eq_nil_of_le (by simp)]; simp
    rw [e'] at g2
    exact g2
end

/-- A row of slices that may be written; none, if it is empty. -/
def ArrOf (lo : Nat) (s : ASt) (v : AV) (us : List AV) : Prop := (∃ a, v = .slice a 0 (some 0) ∧ us = []) ∨ ∃ i, v = .slice (some (i, 0)) us.length none ∧ lo ≤ i ∧ i < s.next ∧ RowAt s i us
theorem eq_nil22 {a : Option (Nat × Nat)} {n : Nat} {cap : Option Nat} : binA Try.prog .eql 22 (.slice a n cap) (.slice none 0 (some 0)) = some (.bool a.isNone) := by
  have h : isSliceT Try.prog 22 = true := by simp [isSliceT, Try.underlying22]
  cases a <;> simp [binA, eqV, guardB, h]

set_option maxRecDepth 8000 in
/-- Clone, of a row of rows. -/
theorem clone22_ok {E : Env} (hE : Good E) {b : Nat} {s : ASt} {v : AV} {us : List AV} (hb : b ≤ s.next) (h : SliceAt b s v us) (hcell : allCells us = true) (hL : us.length ≤ 1000000) :
    WF E 107 [v] (fun r s' => ArrOf s.next s' r us ∧ Old s.next s s') s := by
  obtain ⟨a, cap, rfl, hc⟩ := h
  refine hE.go comp107 (by decide) rfl ?_
  cases ha : a with
  | none =>
    subst ha
    have hL0 : us = [] := by
      cases us with
      | nil => rfl
      | cons x L => obtain ⟨i, o, e, _⟩ := hc 0 x rfl; cases e
    subst hL0
    simp only [c107, c107o0, c107o1, c107o2, eq_nil22, Option.isNone_none, wpC, wpI, wpS, wpD, wpV, wanted_none, wanted_some, vals, cev_const, cev_var, cev_loc, padV, okV_some, againP, true_and, and_true, upd_zero, upd_succ, nth_zero, nth_succ, wpG_true, wpG_false, condK_true, condK_false, seqK_normal, seqK_ret, seqK_exit, inBlock_normal, inBlock_ret, inBlock_exit, ends_ret, ends_normal, unmark_nil, results_nil, results_cons, one_one, one_zero, one_two, isB_undef, isB_tt, isB_ff, Bool.not_true, Bool.not_false, Option.bind_some, pick3, pickA, extractA, List.getElem?_cons_zero, List.getElem?_cons_succ, bin_lss, bin_gtr, bin_leq, bin_geq, bin_eql, bin_neq, un_not]
    exact ⟨.inl ⟨none, rfl, rfl⟩, Old.refl _ _⟩
  | some io =>
    obtain ⟨i, o⟩ := io
    subst ha
    have b0 := bld_zero (P := Try.prog) (t := 22) Try.underlying22 sz23 zr23 rfl
    have hmv : ∀ (m : Nat) (i : Nat), Made.val i (.slice m) = .slice (some (i, 0)) m (some m) := fun _ _ => rfl
    generalize hs1 : newObj s (mkRow 23 1 []) = s1
    have n1 : s1.next = s.next + 1 := by rw [← hs1]; rfl
    have o1 : Old s.next s s1 := by rw [← hs1]; exact Old.new s _
    have hld : loadN s1 s.next 0 (0 * 1) = some [] := by
      obtain ⟨r, h1, h2, _⟩ := holds_mkRow 23 1 []
      exact loadN_holds (s := s1) (i := s.next) (by rw [← hs1, heap_new, if_pos rfl, h1]) h2 0 [] (Nat.le_refl _) (fun j u hj => by simp at hj)
    have hx : isSliceOrStr Try.prog 22 = true := strx 22 23 Try.underlying22
    cases hLc : us with
    | nil =>
      subst hLc
      have hsrc : srcCells Try.prog s1 23 1 (.slice (some (i, o)) 0 cap) = some (0, []) := rfl
      have happ : appendA Try.prog s1 [22, 22] [.slice (some (s.next, 0)) 0 (some 0), .slice (some (i, o)) 0 cap] = some (.slice (some (s.next, 0)) 0 (some 0), s1) := by
        rw [appendA_eq Try.underlying22 sz23 by23 (by decide) hx hsrc rfl (by omega) (by omega)]
        rfl
      simp only [c107, c107o0, c107o1, c107o3, eq_nil22, Option.isNone_some, List.length_nil, b0, hs1, hmv, happ, wpC, wpI, wpS, wpD, wpV, wanted_none, wanted_some, vals, cev_const, cev_var, cev_loc, padV, okV_some, againP, true_and, and_true, upd_zero, upd_succ, nth_zero, nth_succ, wpG_true, wpG_false, condK_true, condK_false, seqK_normal, seqK_ret, seqK_exit, inBlock_normal, inBlock_ret, inBlock_exit, ends_ret, ends_normal, unmark_nil, results_nil, results_cons, one_one, one_zero, one_two, isB_undef, isB_tt, isB_ff, Bool.not_true, Bool.not_false, Option.bind_some, pick3, pickA, extractA, List.getElem?_cons_zero, List.getElem?_cons_succ, bin_lss, bin_gtr, bin_leq, bin_geq, bin_eql, bin_neq, un_not]
      exact ⟨.inl ⟨_, rfl, rfl⟩, o1⟩
    | cons x T =>
      rw [← hLc]
      have hne : 0 < us.length := by rw [hLc]; simp
      have hc1 : CellsAt b s1 (some (i, o)) us := hc.old o1 hb
      have hsrc := SliceAt.src (e := 23) (cap := cap) hc1 rfl hne
      have happ : appendA Try.prog s1 [22, 22] [.slice (some (s.next, 0)) 0 (some 0), .slice (some (i, o)) us.length cap] = some (.slice (some (s1.next, 0)) us.length none, newObj s1 (grownRow 23 1 (Tree.fill .leaf 0 us) us.length none)) := by
        rw [appendA_eq Try.underlying22 sz23 by23 (by decide) hx hsrc hcell (by omega) (by omega)]
        simp only [appTo, appExact, Nat.zero_add, show Nat.ble us.length 0 = false from ble_off (by omega), cond_false, hld, Option.bind_some, appFresh, guardB, zero23, cond_true, List.nil_append, Nat.zero_add]
      simp only [c107, c107o0, c107o1, c107o3, eq_nil22, Option.isNone_some, b0, hs1, hmv, happ, wpC, wpI, wpS, wpD, wpV, wanted_none, wanted_some, vals, cev_const, cev_var, cev_loc, padV, okV_some, againP, true_and, and_true, upd_zero, upd_succ, nth_zero, nth_succ, wpG_true, wpG_false, condK_true, condK_false, seqK_normal, seqK_ret, seqK_exit, inBlock_normal, inBlock_ret, inBlock_exit, ends_ret, ends_normal, unmark_nil, results_nil, results_cons, one_one, one_zero, one_two, isB_undef, isB_tt, isB_ff, Bool.not_true, Bool.not_false, Option.bind_some, pick3, pickA, extractA, List.getElem?_cons_zero, List.getElem?_cons_succ, bin_lss, bin_gtr, bin_leq, bin_geq, bin_eql, bin_neq, un_not]
      refine ⟨.inr ⟨s1.next, rfl, by omega, Nat.lt_succ_self _, _, by rw [heap_new, if_pos rfl]; rfl, ⟨rfl, ?_⟩, rfl, rfl, rfl⟩, o1.trans ((Old.new s1 _).mono (by omega))⟩
      intro k u hk
      have hlt := lt_of_get hk
      show (Tree.fill .leaf 0 us).get k = some u
      rw [Tree.get_fill, if_pos ⟨Nat.zero_le _, by omega⟩]
      simpa using hk

set_option maxRecDepth 8000 in
/-- Delete, of one element of a row of rows. -/
theorem delete22_ok {E : Env} (hE : Good E) {s : ASt} {i k : Nat} {us : List AV} (hr : RowAt s i us) (hk : k < us.length) (hcell : allCells us = true) (hL : us.length ≤ 1000000) :
    WF E 106 [.slice (some (i, 0)) us.length none, iv (k : Int), iv ((k + 1 : Nat) : Int)] (fun r s' => ∃ Z, Z ≠ [] ∧ r = .slice (some (i, 0)) (us.take k ++ us.drop (k + 1)).length none ∧ RowAt s' i ((us.take k ++ us.drop (k + 1)) ++ Z) ∧ s'.next = s.next ∧ ∀ x, x ≠ i → s'.heap.get x = s.heap.get x) s := by
  refine hE.go comp106 (by decide) rfl ?_
  have hn' : (us.take k ++ us.drop (k + 1)).length = us.length - 1 := by simp; omega
  obtain ⟨w, hw⟩ := open_all Try.underlying22 sz23 (n := us.length) (k := k) (m := k + 1) hr (by omega) (by omega) (Nat.le_refl _) (by omega)
  have h1 := open_hi Try.underlying22 sz23 (n := us.length) (k := k) hr (by omega)
  have h2 := open_lo Try.underlying22 sz23 (n := us.length) (k := k + 1) hr (by omega)
  have hne : decide ((k : Int) = ((k + 1 : Nat) : Int)) = false := decide_eq_false (by omega)
  have hsp : us = us.take k ++ us[k] :: us.drop (k + 1) := by rw [List.getElem_cons_drop, List.take_append_drop]
  have happ : ∃ s1 b, appendA Try.prog s [22, 22] [.slice (some (i, 0)) k none, .slice (some (i, 0 + (k + 1) * 1)) (us.length - (k + 1)) none] = some (.slice (some (i, 0)) (us.length - 1) none, s1) ∧ RowAt s1 i ((us.take k ++ us.drop (k + 1)) ++ [b]) ∧ s1.next = s.next ∧ ∀ x, x ≠ i → s1.heap.get x = s.heap.get x := by
    have hx : isSliceOrStr Try.prog 22 = true := strx 22 23 Try.underlying22
    have hdl : (us.drop (k + 1)).length = us.length - (k + 1) := by simp
    have hcd : allCells (us.drop (k + 1)) = true := by
      have : ∀ {a b : List AV}, allCells (a ++ b) = true → allCells b = true := by
        intro a b
        induction a with
        | nil => intro h; exact h
        | cons x a ih => intro h; simp only [List.cons_append, allCells, Bool.and_eq_true] at h; exact ih h.2
      exact this (a := us.take (k + 1)) (by rw [List.take_append_drop]; exact hcell)
    obtain ⟨r, q1, q2, q3, q4, q5⟩ := hr
    have hrow : rowAt s i = some r := by simp [rowAt, q1]
    have hr : RowAt s i us := ⟨r, q1, q2, q3, q4, q5⟩
    have hsrc : srcCells Try.prog s 23 1 (.slice (some (i, 0 + (k + 1) * 1)) (us.length - (k + 1)) none) = some (us.length - (k + 1), us.drop (k + 1)) := by
      have := loadN_holds q1 q2 (0 + (k + 1) * 1) (us.drop (k + 1)) (by simp; omega) (fun j u hj => by
        rw [List.getElem?_drop] at hj
        rw [← hj]; congr 1; omega)
      rw [hdl] at this
      simp only [srcCells]
      rw [srcN_load (size := 1) (by rw [Nat.mul_one (us.length - (k + 1))]; exact this)]
      rfl
    rw [appendA_eq Try.underlying22 sz23 by23 (by decide) hx hsrc hcd (by omega) (by omega)]
    have hfit : Nat.ble (0 + (k + (us.length - (k + 1))) * 1) r.n = true := ble_of (by rw [q2.1]; omega)
    have hlen : k + (us.length - (k + 1)) = us.length - 1 := by omega
    simp only [appTo, hrow, Option.bind_some, appOpen, q5, beq_of rfl, guardB, cond_true, hfit]
    rw [hlen]
    cases hd : us.drop (k + 1) with
    | nil =>
      refine ⟨s, us[k], rfl, ?_, rfl, fun _ _ => rfl⟩
      rw [List.append_nil]
      rw [hd] at hsp
      rw [← hsp]
      exact hr
    | cons y T =>
      rw [← hd]
      have hlast : us.drop (us.length - 1) = [us[us.length - 1]] := by
        rw [List.drop_eq_getElem_cons (by omega), List.drop_eq_nil_of_le (by omega)]
      obtain ⟨s1, g1, g2, g3, g4⟩ := hr.fill (o := 0 + k * 1) (vs := us.drop (k + 1)) (by rw [hd]; simp) (by rw [hdl]; omega) hcd
      refine ⟨s1, us[us.length - 1], by rw [g1]; rfl, ?_, g3, g4⟩
      have e1 : 0 + k * 1 = k := by omega
      have e2 : k + (us.length - (k + 1)) = us.length - 1 := by omega
      rw [e1, hdl, e2, hlast] at g2
      exact g2
  obtain ⟨s1, b, g1, g2, g3, g4⟩ := happ
  have h3 := open_both Try.underlying22 sz23 (n := us.length - 1) (k := us.length - 1) (m := us.length) g2 (by omega) (by simp; omega)
  obtain ⟨s2, k1, k2, k3, k4⟩ := open_clear Try.underlying22 zr23 rfl rfl (k := us.length - 1) g2 hn'
  have hone : us.length - (us.length - 1) = 1 := by omega
  rw [hone] at h3
  simp only [c106, c106o0, c106o1, c106o2, c106o4, c106o5, c106o6, c106o7, len_slice Try.underlying22, hw, h1, h2, hne, g1, h3, k1, again_r, sameA_some, wpC, wpI, wpS, wpD, wpV, wanted_none, wanted_some, vals, cev_const, cev_var, cev_loc, padV, okV_some, againP, true_and, and_true, upd_zero, upd_succ, nth_zero, nth_succ, wpG_true, wpG_false, condK_true, condK_false, seqK_normal, seqK_ret, seqK_exit, inBlock_normal, inBlock_ret, inBlock_exit, ends_ret, ends_normal, unmark_nil, results_nil, results_cons, one_one, one_zero, one_two, isB_undef, isB_tt, isB_ff, Bool.not_true, Bool.not_false, Option.bind_some, pick3, pickA, extractA, List.getElem?_cons_zero, List.getElem?_cons_succ, bin_lss, bin_gtr, bin_leq, bin_geq, bin_eql, bin_neq, un_not]
  refine ⟨_, (fun h => by cases h), by rw [hn'], k2, by omega, fun x hx => (k4 x hx).trans (g4 x hx)⟩
end Go.Proofs.Ytilhhmkdcoajnaa.Am

/- What the library's Equal computes of two rows of whole numbers; conditions: lengths fit. -/
set_option linter.unusedVariables false
set_option linter.unusedSimpArgs false
namespace Go.Proofs.Ytilhhmkdcoajnaa.Am
open Go Go.Proofs

set_option maxRecDepth 8000 in
theorem equal_loop {E : Env} (hE : Good E) {s : ASt} {b : Nat} {A B : List Int} (hl : A.length = B.length) (hA : A.length ≤ 1000000) {a1 a2 : Option (Nat × Nat)} {cap1 cap2 : Option Nat} (hc1 : CellsAt b s a1 (ivs A)) (hc2 : CellsAt b s a2 (ivs B)) {Q : ARes → Prop} (x4 : AV) :
    ∀ (l m : List Int) (k : Nat) (x3 x7 x8 : AV), A.drop k = l → B.drop k = m → k ≤ A.length →
      (∀ (e : AExit) (y2 y3 y6 y7 y8 : AV), (e = .ret ∧ l ≠ m ∧ y2 = .bool false ∨ e = .exit 0 ∧ l = m) → Q ⟨e, [.slice a1 A.length cap1, .slice a2 A.length cap2, y2, y3, x4, iv (A.length : Int), y6, y7, y8], [], s⟩) →
      WC E none (.loop c105l9) Q [.slice a1 A.length cap1, .slice a2 A.length cap2, .bool false, x3, x4, iv (A.length : Int), iv (k : Int), x7, x8] [] s := by
  intro l
  induction l with
  | nil =>
    intro m k x3 x7 x8 hd hd2 hk hq
    have := drop_end hd hk
    subst this
    have hm : m = [] := by rw [← hd2, hl]; simp
    refine WC.loop' ?_
    simp only [c105l9, c105o4, Int.lt_irrefl, decide_false, wpC, wpI, wpS, wpD, wpV, wanted_none, wanted_some, vals, cev_const, cev_var, cev_loc, padV, okV_some, againP, true_and, and_true, upd_zero, upd_succ, nth_zero, nth_succ, wpG_true, wpG_false, condK_true, condK_false, seqK_normal, seqK_ret, seqK_exit, inBlock_normal, inBlock_ret, inBlock_exit, ends_ret, ends_normal, unmark_nil, results_nil, results_cons, one_one, one_zero, one_two, isB_undef, isB_tt, isB_ff, Bool.not_true, Bool.not_false, Option.bind_some, pick3, pickA, extractA, List.getElem?_cons_zero, List.getElem?_cons_succ, bin_lss, bin_gtr, bin_leq, bin_geq, bin_eql, bin_neq, un_not]
    exact hq _ _ _ _ _ _ (.inr ⟨rfl, hm.symm⟩)
  | cons x l ih =>
    intro m k x3 x7 x8 hd hd2 hk hq
    obtain ⟨hlt, hx, hd'⟩ := drop_facts hd
    obtain ⟨y, hy⟩ : ∃ y, B[k]? = some y := ⟨B[k]'(by omega), List.getElem?_eq_getElem (by omega)⟩
    have hm : m = y :: B.drop (k + 1) := by
      rw [← hd2, List.drop_eq_getElem_cons (by omega)]
      rw [List.getElem?_eq_getElem (by omega)] at hy
      injection hy with hy
      rw [hy]
    subst hm
    obtain ⟨i, o, rfl, hi, hload⟩ := hc1 k _ (get_ivs hx)
    obtain ⟨i', o', rfl, hi', hload'⟩ := hc2 k _ (get_ivs hy)
    have e1 := idx_slice (cap := cap1) (i := i) (o := o) Try.underlying23 sz3 hlt
    have e2 : loadV Try.prog s 3 (.ptr (some (i, o + k * 1))) = some (iv x) := load_one ag3 (by rw [Nat.mul_one]; exact hload)
    have e1' := idx_slice (cap := cap2) (i := i') (o := o') Try.underlying23 sz3 hlt
    have e2' : loadV Try.prog s 3 (.ptr (some (i', o' + k * 1))) = some (iv y) := load_one ag3 (by rw [Nat.mul_one]; exact hload')
    have hkk : decide ((k : Int) < (A.length : Int)) = true := decide_eq_true (by omega)
    have e3 := bin_add Try.prog 3 (k : Int) 1 ⟨by omega, by omega⟩
    have e3' : ((k : Int) + 1) = ((k + 1 : Nat) : Int) := by omega
    refine WC.loop' ?_
    generalize hW : WC E none (CCode.loop c105l9) Q = WW
    by_cases h : x = y
    · subst h
      simp only [c105l9, c105o4, c105o5, c105o6, c105o8, hkk, e1, e2, e1', e2', e3, e3', ne_eq, not_true, decide_false, wpC, wpI, wpS, wpD, wpV, wanted_none, wanted_some, vals, cev_const, cev_var, cev_loc, padV, okV_some, againP, true_and, and_true, upd_zero, upd_succ, nth_zero, nth_succ, wpG_true, wpG_false, condK_true, condK_false, seqK_normal, seqK_ret, seqK_exit, inBlock_normal, inBlock_ret, inBlock_exit, ends_ret, ends_normal, unmark_nil, results_nil, results_cons, one_one, one_zero, one_two, isB_undef, isB_tt, isB_ff, Bool.not_true, Bool.not_false, Option.bind_some, pick3, pickA, extractA, List.getElem?_cons_zero, List.getElem?_cons_succ, bin_lss, bin_gtr, bin_leq, bin_geq, bin_eql, bin_neq, un_not]
      rw [← hW]
      refine ih (B.drop (k + 1)) (k + 1) _ _ _ hd' rfl hlt ?_
      intro e y2 y3 y6 y7 y8 he
      refine hq e y2 y3 y6 y7 y8 ?_
      rcases he with ⟨h1, h2, h3⟩ | ⟨h1, h2⟩
      · exact .inl ⟨h1, fun e => h2 (by injection e), h3⟩
      · exact .inr ⟨h1, by rw [h2]⟩
    · simp only [c105l9, c105o4, c105o5, c105o6, c105o7, hkk, e1, e2, e1', e2', h, ne_eq, not_false_eq_true, decide_true, wpC, wpI, wpS, wpD, wpV, wanted_none, wanted_some, vals, cev_const, cev_var, cev_loc, padV, okV_some, againP, true_and, and_true, upd_zero, upd_succ, nth_zero, nth_succ, wpG_true, wpG_false, condK_true, condK_false, seqK_normal, seqK_ret, seqK_exit, inBlock_normal, inBlock_ret, inBlock_exit, ends_ret, ends_normal, unmark_nil, results_nil, results_cons, one_one, one_zero, one_two, isB_undef, isB_tt, isB_ff, Bool.not_true, Bool.not_false, Option.bind_some, pick3, pickA, extractA, List.getElem?_cons_zero, List.getElem?_cons_succ, bin_lss, bin_gtr, bin_leq, bin_geq, bin_eql, bin_neq, un_not]
      exact hq _ _ _ _ _ _ (.inl ⟨rfl, fun e => h (by injection e), rfl⟩)
/-- Equal. -/
theorem equal_ok {E : Env} (hE : Good E) {s : ASt} {b : Nat} {A B : List Int} (hA : A.length ≤ 1000000) {v u : AV} (hv : SliceAt b s v (ivs A)) (hu : SliceAt b s u (ivs B)) :
    WF E 105 [v, u] (fun r s' => r = .bool (decide (A = B)) ∧ s = s') s := by
  obtain ⟨a1, cap1, rfl, hc1⟩ := hv
  obtain ⟨a2, cap2, rfl, hc2⟩ := hu
  rw [ivs_len, ivs_len]
  refine hE.go comp105 (by decide) rfl ?_
  by_cases hl : A.length = B.length
  · have hd : decide (¬ ((A.length : Int) = (B.length : Int))) = false := decide_eq_false (by omega)
    simp only [c105, c105o0, c105o1, c105o3, len_slice Try.underlying23, ne_eq, hd, wpC, wpI, wpS, wpD, wpV, wanted_none, wanted_some, vals, cev_const, cev_var, cev_loc, padV, okV_some, againP, true_and, and_true, upd_zero, upd_succ, nth_zero, nth_succ, wpG_true, wpG_false, condK_true, condK_false, seqK_normal, seqK_ret, seqK_exit, inBlock_normal, inBlock_ret, inBlock_exit, ends_ret, ends_normal, unmark_nil, results_nil, results_cons, one_one, one_zero, one_two, isB_undef, isB_tt, isB_ff, Bool.not_true, Bool.not_false, Option.bind_some, pick3, pickA, extractA, List.getElem?_cons_zero, List.getElem?_cons_succ, bin_lss, bin_gtr, bin_leq, bin_geq, bin_eql, bin_neq, un_not]
    rw [← hl]
    refine equal_loop hE hl hA hc1 hc2 _ A B 0 _ _ _ rfl rfl (Nat.zero_le _) ?_
    rintro e y2 y3 y6 y7 y8 (⟨rfl, h, rfl⟩ | ⟨rfl, h⟩)
    · simp only [h, decide_false, wpC, wpI, wpS, wpD, wpV, wanted_none, wanted_some, vals, cev_const, cev_var, cev_loc, padV, okV_some, againP, true_and, and_true, upd_zero, upd_succ, nth_zero, nth_succ, wpG_true, wpG_false, condK_true, condK_false, seqK_normal, seqK_ret, seqK_exit, inBlock_normal, inBlock_ret, inBlock_exit, ends_ret, ends_normal, unmark_nil, results_nil, results_cons, one_one, one_zero, one_two, isB_undef, isB_tt, isB_ff, Bool.not_true, Bool.not_false, Option.bind_some, pick3, pickA, extractA, List.getElem?_cons_zero, List.getElem?_cons_succ, bin_lss, bin_gtr, bin_leq, bin_geq, bin_eql, bin_neq, un_not]
    · simp only [c105o10, h, decide_true, if_true, wpC, wpI, wpS, wpD, wpV, wanted_none, wanted_some, vals, cev_const, cev_var, cev_loc, padV, okV_some, againP, true_and, and_true, upd_zero, upd_succ, nth_zero, nth_succ, wpG_true, wpG_false, condK_true, condK_false, seqK_normal, seqK_ret, seqK_exit, inBlock_normal, inBlock_ret, inBlock_exit, ends_ret, ends_normal, unmark_nil, results_nil, results_cons, one_one, one_zero, one_two, isB_undef, isB_tt, isB_ff, Bool.not_true, Bool.not_false, Option.bind_some, pick3, pickA, extractA, List.getElem?_cons_zero, List.getElem?_cons_succ, bin_lss, bin_gtr, bin_leq, bin_geq, bin_eql, bin_neq, un_not]
  · have hd : decide (¬ ((A.length : Int) = (B.length : Int))) = true := decide_eq_true (by omega)
    have hne : A ≠ B := fun e => hl (by rw [e])
    simp only [c105, c105o0, c105o1, c105o2, len_slice Try.underlying23, ne_eq, hd, hne, decide_false, wpC, wpI, wpS, wpD, wpV, wanted_none, wanted_some, vals, cev_const, cev_var, cev_loc, padV, okV_some, againP, true_and, and_true, upd_zero, upd_succ, nth_zero, nth_succ, wpG_true, wpG_false, condK_true, condK_false, seqK_normal, seqK_ret, seqK_exit, inBlock_normal, inBlock_ret, inBlock_exit, ends_ret, ends_normal, unmark_nil, results_nil, results_cons, one_one, one_zero, one_two, isB_undef, isB_tt, isB_ff, Bool.not_true, Bool.not_false, Option.bind_some, pick3, pickA, extractA, List.getElem?_cons_zero, List.getElem?_cons_succ, bin_lss, bin_gtr, bin_leq, bin_geq, bin_eql, bin_neq, un_not]
end Go.Proofs.Ytilhhmkdcoajnaa.Am
