/- What the functions sign, of, set, unit of layer 20 compute; conditions: the numbers fit. -/
import Derived.Test.YtilhhmkdcoajnaaAmDrupCode
set_option linter.unusedVariables false
set_option linter.unusedSimpArgs false
namespace Go.Proofs.Ytilhhmkdcoajnaa.Am
open Go Go.Proofs

/-- Of the functions' environment: the closed function 'works' (21) alone may be told. -/
structure Good (E : Env) : Prop where
  P : E.P = Try.prog
  nat : ∀ (f : FuncId) (xs : List AV) (s : ASt), f ≠ 21 → E.nat f xs s = none
theorem Good.go {E : Env} (hE : Good E) {f : FuncId} {xs : List AV} {cf : CFunc} {K : AV → ASt → Prop} {s : ASt} (hf : compFunc Try.prog f = some cf) (hne : f ≠ 21) (ha : xs.length = cf.na) (h : wpC E none cf.body (Ends Try.prog cf.results K) (padV xs cf.nv) [] s) : WF E f xs K s :=
  WF.body' (hE.nat f xs s hne) (by rw [hE.P]; exact hf) ha (by rw [hE.P]; exact h)

def signV (x : Int) : Int × Int := if 0 < x then (x, 1) else if x < 0 ∧ x ≠ -9223372036854775808 then (-x, -1) else (0, 0)
theorem sign_ok {E : Env} (hE : Good E) (x : Int) (s : ASt) (hx : i64 x) : WF E 48 [iv x] (fun v s' => v = .tuple [iv (signV x).1, iv (signV x).2] ∧ s = s') s := by
  obtain ⟨hx1, hx2⟩ := hx
  refine hE.go comp48 (by decide) rfl ?_
  unfold signV
  by_cases h1 : 0 < x
  · simp [c48, c48o0, c48o1, c48o2, c48o3, c48o4, c48o5, h1, wpC, wpI, wpS, wpD, wpV, wanted_none, wanted_some, vals, cev_const, cev_var, cev_loc, padV, okV_some, againP, true_and, and_true, upd_zero, upd_succ, nth_zero, nth_succ, wpG_true, wpG_false, condK_true, condK_false, seqK_normal, seqK_ret, seqK_exit, inBlock_normal, inBlock_ret, inBlock_exit, ends_ret, ends_normal, unmark_nil, results_nil, results_cons, one_one, one_zero, one_two, isB_undef, isB_tt, isB_ff, Bool.not_true, Bool.not_false, Option.bind_some, pick3, pickA, extractA, List.getElem?_cons_zero, List.getElem?_cons_succ, bin_lss, bin_gtr, bin_leq, bin_geq, bin_eql, bin_neq, un_not]
  · by_cases h2 : x < 0
    · by_cases h3 : x = -9223372036854775808
      · subst h3
        simp [c48, c48o0, c48o1, c48o2, c48o3, c48o4, c48o5, un_neg_least, wpC, wpI, wpS, wpD, wpV, wanted_none, wanted_some, vals, cev_const, cev_var, cev_loc, padV, okV_some, againP, true_and, and_true, upd_zero, upd_succ, nth_zero, nth_succ, wpG_true, wpG_false, condK_true, condK_false, seqK_normal, seqK_ret, seqK_exit, inBlock_normal, inBlock_ret, inBlock_exit, ends_ret, ends_normal, unmark_nil, results_nil, results_cons, one_one, one_zero, one_two, isB_undef, isB_tt, isB_ff, Bool.not_true, Bool.not_false, Option.bind_some, pick3, pickA, extractA, List.getElem?_cons_zero, List.getElem?_cons_succ, bin_lss, bin_gtr, bin_leq, bin_geq, bin_eql, bin_neq, un_not]
      · have h4 : 0 < -x := by omega
        simp [c48, c48o0, c48o1, c48o2, c48o3, c48o4, c48o5, h1, h2, h3, h4, un_neg _ x ⟨by omega, by omega⟩, wpC, wpI, wpS, wpD, wpV, wanted_none, wanted_some, vals, cev_const, cev_var, cev_loc, padV, okV_some, againP, true_and, and_true, upd_zero, upd_succ, nth_zero, nth_succ, wpG_true, wpG_false, condK_true, condK_false, seqK_normal, seqK_ret, seqK_exit, inBlock_normal, inBlock_ret, inBlock_exit, ends_ret, ends_normal, unmark_nil, results_nil, results_cons, one_one, one_zero, one_two, isB_undef, isB_tt, isB_ff, Bool.not_true, Bool.not_false, Option.bind_some, pick3, pickA, extractA, List.getElem?_cons_zero, List.getElem?_cons_succ, bin_lss, bin_gtr, bin_leq, bin_geq, bin_eql, bin_neq, un_not]
    · have : x = 0 := by omega
      subst this
      simp [c48, c48o0, c48o1, c48o2, c48o3, c48o4, c48o5, wpC, wpI, wpS, wpD, wpV, wanted_none, wanted_some, vals, cev_const, cev_var, cev_loc, padV, okV_some, againP, true_and, and_true, upd_zero, upd_succ, nth_zero, nth_succ, wpG_true, wpG_false, condK_true, condK_false, seqK_normal, seqK_ret, seqK_exit, inBlock_normal, inBlock_ret, inBlock_exit, ends_ret, ends_normal, unmark_nil, results_nil, results_cons, one_one, one_zero, one_two, isB_undef, isB_tt, isB_ff, Bool.not_true, Bool.not_false, Option.bind_some, pick3, pickA, extractA, List.getElem?_cons_zero, List.getElem?_cons_succ, bin_lss, bin_gtr, bin_leq, bin_geq, bin_eql, bin_neq, un_not]
theorem signV_range (x : Int) (hx : i64 x) : i64 (signV x).1 ∧ ((signV x).2 = 1 ∨ (signV x).2 = -1 ∨ (signV x).2 = 0) := by
  obtain ⟨h1, h2⟩ := hx
  unfold signV
  split
  · exact ⟨⟨by omega, by omega⟩, .inl rfl⟩
  · split
    · exact ⟨⟨by simp only; omega, by simp only; omega⟩, .inr (.inl rfl)⟩
    · exact ⟨⟨by decide, by decide⟩, .inr (.inr rfl)⟩

/-! ### The map of what is known -/
abbrev KMap := List (Int × Int)
def look (M : KMap) (k : Int) : Int := match M with
  | [] => 0
  | (j, v) :: l => if j = k then v else look l k
def putM (M : KMap) (k v : Int) : KMap := match M with
  | [] => [(k, v)]
  | (j, w) :: l => if j = k then (j, v) :: l else (j, w) :: putM l k v
def Signs (M : KMap) : Prop := ∀ p ∈ M, p.2 = 1 ∨ p.2 = -1
inductive EntsOf : KMap → List (AV × AV × Nat) → Prop
  | nil : EntsOf [] []
  | cons {k v : Int} {b : Nat} {M : KMap} {es : List (AV × AV × Nat)} (h : EntsOf M es) : EntsOf ((k, v) :: M) ((iv k, iv v, b) :: es)
def MapAt (s : ASt) (i : Nat) (M : KMap) : Prop := ∃ es c, s.heap.get i = some (.map es c) ∧ EntsOf M es

theorem keyEq_iv (a b : Int) : keyEq (iv a) (iv b) = some (decide (a = b)) := by
  show some (eqI a b) = _
  rw [eqI_eq]; rfl
theorem findA_ents {M : KMap} {es : List (AV × AV × Nat)} (h : EntsOf M es) (k : Int) : ∀ n, (∃ j v b, findA (iv k) es n = some (some (j, iv v, b)) ∧ n ≤ j ∧ look M k = v ∧ (∀ w, EntsOf (putM M k w) (setNth es (j - n) (iv w)))) ∨ (findA (iv k) es n = some none ∧ look M k = 0 ∧ ∀ w c, EntsOf (putM M k w) (es ++ [(iv k, iv w, c)])) := by
  induction h with
  | nil => intro n; exact .inr ⟨rfl, rfl, fun w c => .cons .nil⟩
  | cons h ih =>
    rename_i j v b M es
    intro n
    by_cases e : j = k
    · subst e
      left
      refine ⟨n, v, b, ?_, Nat.le_refl n, by simp [look], fun w => ?_⟩
      · simp only [findA, keyEq_iv, decide_true, Option.bind_some]
      · rw [Nat.sub_self]
        simp only [putM, if_true, setNth]
        exact .cons h
    · have he : findA (iv k) ((iv j, iv v, b) :: es) n = findA (iv k) es (n + 1) := by
        simp only [findA, keyEq_iv, Option.bind_some]
        rw [show decide (k = j) = false from decide_eq_false (fun q => e q.symm)]
      rcases ih (n + 1) with ⟨j', v', b', h1, h2, h3, h4⟩ | ⟨h1, h2, h3⟩
      · left
        refine ⟨j', v', b', by rw [he]; exact h1, by omega, by simp [look, e, h3], fun w => ?_⟩
        rw [show j' - n = (j' - (n + 1)) + 1 from by omega]
        simp only [putM, if_neg e, setNth]
        exact .cons (h4 w)
      · right
        refine ⟨by rw [he]; exact h1, by simp [look, e, h2], fun w c => ?_⟩
        simp only [putM, if_neg e, List.cons_append]
        exact .cons (h3 w c)

theorem simpleKey_iv (k : Int) : simpleKey Try.prog 3 (iv k) = true := by
  simp [simpleKey, Try.underlying3, sameKind]
theorem lookup_map {s : ASt} {i : Nat} {M : KMap} (h : MapAt s i M) (k : Int) : lookupA Try.prog s 69 (.map (some i)) (iv k) false = some (iv (look M k)) := by
  obtain ⟨es, c, h1, h2⟩ := h
  simp only [lookupA, Try.underlying69, simpleKey_iv, guardB, cond_true, h1, Option.bind_some]
  rcases findA_ents h2 k 0 with ⟨j, v, b, h3, _, h4, _⟩ | ⟨h3, h4, _⟩
  · rw [h3, h4]; rfl
  · rw [h3, h4]; simp only [Option.bind_some, zr3]; rfl
theorem update_map {s : ASt} {i : Nat} {M : KMap} (h : MapAt s i M) (k v : Int) : ∃ s', updateA Try.prog s 69 (.map (some i)) (iv k) (iv v) = some s' ∧ MapAt s' i (putM M k v) ∧ s'.next = s.next ∧ ∀ j, j ≠ i → s'.heap.get j = s.heap.get j := by
  obtain ⟨es, c, h1, h2⟩ := h
  simp only [updateA, Try.underlying69, simpleKey_iv, guardB, cond_true, h1, Option.bind_some]
  rcases findA_ents h2 k 0 with ⟨j, u, b, h3, _, _, h4⟩ | ⟨h3, _, h4⟩
  · rw [h3]
    have h5 := h4 v
    rw [Nat.sub_zero] at h5
    exact ⟨_, rfl, ⟨_, _, by rw [heap_set, if_pos rfl], h5⟩, rfl, fun x hx => by rw [heap_set, if_neg hx]⟩
  · rw [h3]
    exact ⟨_, rfl, ⟨_, _, by rw [heap_set, if_pos rfl], h4 v c⟩, rfl, fun x hx => by rw [heap_set, if_neg hx]⟩

theorem look_signs {M : KMap} (h : Signs M) (k : Int) : look M k = 1 ∨ look M k = -1 ∨ look M k = 0 := by
  induction M with
  | nil => exact .inr (.inr rfl)
  | cons p M ih =>
    obtain ⟨j, v⟩ := p
    simp only [look]
    split
    · exact (h (j, v) List.mem_cons_self).imp id .inl
    · exact ih fun q hq => h q (List.mem_cons_of_mem _ hq)
theorem putM_signs {M : KMap} (h : Signs M) {k v : Int} (hv : v = 1 ∨ v = -1) : Signs (putM M k v) := by
  induction M with
  | nil => intro p hp; simp [putM] at hp; subst hp; exact hv
  | cons p M ih =>
    obtain ⟨j, w⟩ := p
    simp only [putM]
    split
    · intro q hq
      rcases List.mem_cons.1 hq with rfl | hq
      · exact hv
      · exact h q (List.mem_cons_of_mem _ hq)
    · intro q hq
      rcases List.mem_cons.1 hq with rfl | hq
      · exact h _ List.mem_cons_self
      · exact ih (fun q hq => h q (List.mem_cons_of_mem _ hq)) q hq

def ofV (M : KMap) (x : Int) : Int := if (signV x).2 = 0 then -1 else look M (signV x).1 * (signV x).2
theorem of_ok {E : Env} (hE : Good E) {s : ASt} {i : Nat} {M : KMap} (hm : MapAt s i M) (hg : Signs M) (x : Int) (hx : i64 x) : WF E 49 [.map (some i), iv x] (fun v s' => v = iv (ofV M x) ∧ s = s') s := by
  have hr := signV_range x hx
  have hl := look_signs hg (signV x).1
  refine hE.go comp49 (by decide) rfl ?_
  simp only [c49, c49o0, c49o1, c49o2, c49o3, c49o4, wpC, wpI, wpS, wpD, wpV, wanted_none, wanted_some, vals, cev_const, cev_var, cev_loc, padV, okV_some, againP, true_and, and_true, upd_zero, upd_succ, nth_zero, nth_succ, wpG_true, wpG_false, condK_true, condK_false, seqK_normal, seqK_ret, seqK_exit, inBlock_normal, inBlock_ret, inBlock_exit, ends_ret, ends_normal, unmark_nil, results_nil, results_cons, one_one, one_zero, one_two, isB_undef, isB_tt, isB_ff, Bool.not_true, Bool.not_false, Option.bind_some, pick3, pickA, extractA, List.getElem?_cons_zero, List.getElem?_cons_succ, bin_lss, bin_gtr, bin_leq, bin_geq, bin_eql, bin_neq, un_not]
  refine (sign_ok hE x s hx).mono ?_
  rintro _ _ ⟨rfl, rfl⟩
  have hmul : i64 (look M (signV x).1 * (signV x).2) := by
    rcases hl with h | h | h <;> rcases hr.2 with h' | h' | h' <;> rw [h, h'] <;> exact ⟨by decide, by decide⟩
  unfold ofV
  by_cases h0 : (signV x).2 = 0
  · simp [h0, wpC, wpI, wpS, wpD, wpV, wanted_none, wanted_some, vals, cev_const, cev_var, cev_loc, padV, okV_some, againP, true_and, and_true, upd_zero, upd_succ, nth_zero, nth_succ, wpG_true, wpG_false, condK_true, condK_false, seqK_normal, seqK_ret, seqK_exit, inBlock_normal, inBlock_ret, inBlock_exit, ends_ret, ends_normal, unmark_nil, results_nil, results_cons, one_one, one_zero, one_two, isB_undef, isB_tt, isB_ff, Bool.not_true, Bool.not_false, Option.bind_some, pick3, pickA, extractA, List.getElem?_cons_zero, List.getElem?_cons_succ, bin_lss, bin_gtr, bin_leq, bin_geq, bin_eql, bin_neq, un_not]
  · simp [h0, on2, lookup_map hm, bin_mul _ _ _ _ hmul, wpC, wpI, wpS, wpD, wpV, wanted_none, wanted_some, vals, cev_const, cev_var, cev_loc, padV, okV_some, againP, true_and, and_true, upd_zero, upd_succ, nth_zero, nth_succ, wpG_true, wpG_false, condK_true, condK_false, seqK_normal, seqK_ret, seqK_exit, inBlock_normal, inBlock_ret, inBlock_exit, ends_ret, ends_normal, unmark_nil, results_nil, results_cons, one_one, one_zero, one_two, isB_undef, isB_tt, isB_ff, Bool.not_true, Bool.not_false, Option.bind_some, pick3, pickA, extractA, List.getElem?_cons_zero, List.getElem?_cons_succ, bin_lss, bin_gtr, bin_leq, bin_geq, bin_eql, bin_neq, un_not]

theorem set_ok {E : Env} (hE : Good E) {s : ASt} {i : Nat} {M : KMap} (hm : MapAt s i M) (x : Int) (hx : i64 x) : WF E 50 [.map (some i), iv x] (fun v s' => v = .tuple [] ∧ MapAt s' i (putM M (signV x).1 (signV x).2) ∧ s'.next = s.next ∧ ∀ j, j ≠ i → s'.heap.get j = s.heap.get j) s := by
  refine hE.go comp50 (by decide) rfl ?_
  simp only [c50, c50o0, c50o1, wpC, wpI, wpS, wpD, wpV, wanted_none, wanted_some, vals, cev_const, cev_var, cev_loc, padV, okV_some, againP, true_and, and_true, upd_zero, upd_succ, nth_zero, nth_succ, wpG_true, wpG_false, condK_true, condK_false, seqK_normal, seqK_ret, seqK_exit, inBlock_normal, inBlock_ret, inBlock_exit, ends_ret, ends_normal, unmark_nil, results_nil, results_cons, one_one, one_zero, one_two, isB_undef, isB_tt, isB_ff, Bool.not_true, Bool.not_false, Option.bind_some, pick3, pickA, extractA, List.getElem?_cons_zero, List.getElem?_cons_succ, bin_lss, bin_gtr, bin_leq, bin_geq, bin_eql, bin_neq, un_not]
  refine (sign_ok hE x s hx).mono ?_
  rintro _ _ ⟨rfl, rfl⟩
  obtain ⟨s', h1, h2, h3, h4⟩ := update_map hm (signV x).1 (signV x).2
  simp only [on3, h1, withV, wpC, wpI, wpS, wpD, wpV, wanted_none, wanted_some, vals, cev_const, cev_var, cev_loc, padV, okV_some, againP, true_and, and_true, upd_zero, upd_succ, nth_zero, nth_succ, wpG_true, wpG_false, condK_true, condK_false, seqK_normal, seqK_ret, seqK_exit, inBlock_normal, inBlock_ret, inBlock_exit, ends_ret, ends_normal, unmark_nil, results_nil, results_cons, one_one, one_zero, one_two, isB_undef, isB_tt, isB_ff, Bool.not_true, Bool.not_false, Option.bind_some, pick3, pickA, extractA, List.getElem?_cons_zero, List.getElem?_cons_succ, bin_lss, bin_gtr, bin_leq, bin_geq, bin_eql, bin_neq, un_not]
  exact ⟨h2, h3, h4⟩

abbrev ivs (l : List Int) : List AV := l.map iv
def I64s (l : List Int) : Prop := ∀ x ∈ l, i64 x
theorem ivs_get {l : List Int} {k : Nat} {u : AV} (h : (ivs l)[k]? = some u) : ∃ x, l[k]? = some x ∧ u = iv x := by
  rw [List.getElem?_map] at h
  cases hk : l[k]? with
  | none => rw [hk] at h; cases h
  | some x => rw [hk] at h; injection h with h; exact ⟨x, rfl, h.symm⟩
theorem get_ivs {l : List Int} {k : Nat} {x : Int} (h : l[k]? = some x) : (ivs l)[k]? = some (iv x) := by rw [List.getElem?_map, h]; rfl

end Go.Proofs.Ytilhhmkdcoajnaa.Am

