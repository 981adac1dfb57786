/- What the function unit of layer 20, and the loops of Follows, compute; conditions: the numbers fit. -/
import Derived.Test.YtilhhmkdcoajnaaAmDrup1
set_option linter.unusedVariables false
set_option linter.unusedSimpArgs false
namespace Go.Proofs.Ytilhhmkdcoajnaa.Am
open Go Go.Proofs


/-- The literal that may hold yet, and how many (at most 2). -/
def unitV (M : KMap) : List Int → Int → Int → Int × Int
  | [], lit, left => (lit, left)
  | x :: l, lit, left => if 0 < ofV M x then (0, 2) else if ofV M x < 0 ∨ (left = 1 ∧ x = lit) then unitV M l lit left else if 1 < left + 1 then (0, 2) else unitV M l x (left + 1)

theorem unit_loop {E : Env} (hE : Good E) {s : ASt} {i b : Nat} {M : KMap} (hm : MapAt s i M) (hg : Signs M) {L : List Int} (hL : I64s L) (hlen : L.length < 9223372036854775808) {a : Option (Nat × Nat)} {cap : Option Nat} (hc : CellsAt b s a (ivs L)) (v0 v1 : AV) {Q : ARes → Prop} :
    ∀ (l : List Int) (k : Nat) (lit left : Int) (x4 x5 x9 x10 x11 x12 : AV), L.drop k = l → k ≤ L.length → (left = 0 ∨ left = 1) → v0 = .map (some i) →
      (∀ (e : AExit) (y4 y5 y6 y7 y8 y9 y10 y11 y12 : AV), (e = .ret ∨ e = .exit 0) → Q ⟨e, [v0, v1, iv (unitV M l lit left).1, iv (unitV M l lit left).2, y4, y5, y6, y7, y8, y9, y10, y11, y12], [], s⟩) →
      WC E none (.loop c52l13) Q [v0, v1, iv lit, iv left, x4, x5, .slice a L.length cap, iv (L.length : Int), iv (k : Int), x9, x10, x11, x12] [] s := by
  intro l
  induction l with
  | nil =>
    intro k lit left x4 x5 x9 x10 x11 x12 hd hk hl hv hq
    have hkl : k = L.length := by
      have := congrArg List.length hd
      simp at this; omega
    subst hkl
    refine WC.loop' ?_
    simp only [c52l13, c52o2, wpC, wpI, wpS, wpD, wpV, wanted_none, wanted_some, vals, cev_const, cev_var, cev_loc, padV, okV_some, againP, true_and, and_true, upd_zero, upd_succ, nth_zero, nth_succ, wpG_true, wpG_false, condK_true, condK_false, seqK_normal, seqK_ret, seqK_exit, inBlock_normal, inBlock_ret, inBlock_exit, ends_ret, ends_normal, unmark_nil, results_nil, results_cons, one_one, one_zero, one_two, isB_undef, isB_tt, isB_ff, Bool.not_true, Bool.not_false, Option.bind_some, pick3, pickA, extractA, List.getElem?_cons_zero, List.getElem?_cons_succ, bin_lss, bin_gtr, bin_leq, bin_geq, bin_eql, bin_neq, un_not]
    simp only [Int.lt_irrefl, decide_false, wpC, wpI, wpS, wpD, wpV, wanted_none, wanted_some, vals, cev_const, cev_var, cev_loc, padV, okV_some, againP, true_and, and_true, upd_zero, upd_succ, nth_zero, nth_succ, wpG_true, wpG_false, condK_true, condK_false, seqK_normal, seqK_ret, seqK_exit, inBlock_normal, inBlock_ret, inBlock_exit, ends_ret, ends_normal, unmark_nil, results_nil, results_cons, one_one, one_zero, one_two, isB_undef, isB_tt, isB_ff, Bool.not_true, Bool.not_false, Option.bind_some, pick3, pickA, extractA, List.getElem?_cons_zero, List.getElem?_cons_succ, bin_lss, bin_gtr, bin_leq, bin_geq, bin_eql, bin_neq, un_not]
    exact hq _ _ _ _ _ _ _ _ _ _ (.inr rfl)
  | cons x l ih =>
    intro k lit left x4 x5 x9 x10 x11 x12 hd hk hl hv hq
    have hlt : k < L.length := by
      have := congrArg List.length hd
      simp at this; omega
    have hx : L[k]? = some x := by
      have := congrArg (fun l => l[0]?) hd
      simpa using this
    have hd' : L.drop (k + 1) = l := by
      rw [← List.drop_drop, hd]; rfl
    have hxi : i64 x := hL x (List.mem_of_getElem? hx)
    subst hv
    obtain ⟨j, o, rfl, hj, hload⟩ := hc k _ (get_ivs hx)
    have e1 := idx_slice (cap := cap) (i := j) (o := o) Try.underlying23 sz3 hlt
    have e2 : loadV Try.prog s 3 (.ptr (some (j, o + k * 1))) = some (iv x) := load_one ag3 (by rw [Nat.mul_one]; exact hload)
    have hkk : decide ((k : Int) < (L.length : Int)) = true := decide_eq_true (by omega)
    have e3 := bin_add Try.prog 3 (k : Int) 1 ⟨by omega, by omega⟩
    refine WC.loop' ?_
    simp only [c52l13, c52o2, c52o3, c52o4, hkk, e1, e2, wpC, wpI, wpS, wpD, wpV, wanted_none, wanted_some, vals, cev_const, cev_var, cev_loc, padV, okV_some, againP, true_and, and_true, upd_zero, upd_succ, nth_zero, nth_succ, wpG_true, wpG_false, condK_true, condK_false, seqK_normal, seqK_ret, seqK_exit, inBlock_normal, inBlock_ret, inBlock_exit, ends_ret, ends_normal, unmark_nil, results_nil, results_cons, one_one, one_zero, one_two, isB_undef, isB_tt, isB_ff, Bool.not_true, Bool.not_false, Option.bind_some, pick3, pickA, extractA, List.getElem?_cons_zero, List.getElem?_cons_succ, bin_lss, bin_gtr, bin_leq, bin_geq, bin_eql, bin_neq, un_not]
    refine (of_ok hE hm hg x hxi).mono ?_
    rintro _ _ ⟨rfl, rfl⟩
    by_cases h1 : 0 < ofV M x
    · simp only [c52o5, c52o6, h1, decide_true, wpC, wpI, wpS, wpD, wpV, wanted_none, wanted_some, vals, cev_const, cev_var, cev_loc, padV, okV_some, againP, true_and, and_true, upd_zero, upd_succ, nth_zero, nth_succ, wpG_true, wpG_false, condK_true, condK_false, seqK_normal, seqK_ret, seqK_exit, inBlock_normal, inBlock_ret, inBlock_exit, ends_ret, ends_normal, unmark_nil, results_nil, results_cons, one_one, one_zero, one_two, isB_undef, isB_tt, isB_ff, Bool.not_true, Bool.not_false, Option.bind_some, pick3, pickA, extractA, List.getElem?_cons_zero, List.getElem?_cons_succ, bin_lss, bin_gtr, bin_leq, bin_geq, bin_eql, bin_neq, un_not]
      have hu : unitV M (x :: l) lit left = (0, 2) := by simp [unitV, h1]
      rw [hu] at hq
      exact hq _ _ _ _ _ _ _ _ _ _ (.inl rfl)
    · have next : ∀ (lit' left' : Int) (x4' x5' x9' x10' x11' x12' : AV), (left' = 0 ∨ left' = 1) → unitV M (x :: l) lit left = unitV M l lit' left' →
          WC E none (.loop c52l13) Q [.map (some i), v1, iv lit', iv left', x4', x5', .slice (some (j, o)) L.length cap, iv (L.length : Int), iv ((k : Int) + 1), x9', x10', x11', x12'] [] s := by
        intro lit' left' x4' x5' x9' x10' x11' x12' hl' he
        rw [show ((k : Int) + 1) = ((k + 1 : Nat) : Int) from by omega]
        refine ih (k + 1) lit' left' _ _ _ _ _ _ hd' hlt hl' rfl ?_
        rw [← he]
        exact hq
      by_cases h2 : ofV M x < 0
      · simp only [c52o5, c52o7, c52o12, h1, h2, e3, decide_true, decide_false, wpC, wpI, wpS, wpD, wpV, wanted_none, wanted_some, vals, cev_const, cev_var, cev_loc, padV, okV_some, againP, true_and, and_true, upd_zero, upd_succ, nth_zero, nth_succ, wpG_true, wpG_false, condK_true, condK_false, seqK_normal, seqK_ret, seqK_exit, inBlock_normal, inBlock_ret, inBlock_exit, ends_ret, ends_normal, unmark_nil, results_nil, results_cons, one_one, one_zero, one_two, isB_undef, isB_tt, isB_ff, Bool.not_true, Bool.not_false, Option.bind_some, pick3, pickA, extractA, List.getElem?_cons_zero, List.getElem?_cons_succ, bin_lss, bin_gtr, bin_leq, bin_geq, bin_eql, bin_neq, un_not]
        exact next lit left _ _ _ _ _ _ hl (by simp [unitV, h1, h2])
      · rcases hl with rfl | rfl
        · simp only [c52o5, c52o7, c52o8, c52o9, c52o11, c52o12, h1, h2, decide_true, decide_false, wpC, wpI, wpS, wpD, wpV, wanted_none, wanted_some, vals, cev_const, cev_var, cev_loc, padV, okV_some, againP, true_and, and_true, upd_zero, upd_succ, nth_zero, nth_succ, wpG_true, wpG_false, condK_true, condK_false, seqK_normal, seqK_ret, seqK_exit, inBlock_normal, inBlock_ret, inBlock_exit, ends_ret, ends_normal, unmark_nil, results_nil, results_cons, one_one, one_zero, one_two, isB_undef, isB_tt, isB_ff, Bool.not_true, Bool.not_false, Option.bind_some, pick3, pickA, extractA, List.getElem?_cons_zero, List.getElem?_cons_succ, bin_lss, bin_gtr, bin_leq, bin_geq, bin_eql, bin_neq, un_not]
          simp [e3, wpC, wpI, wpS, wpD, wpV, wanted_none, wanted_some, vals, cev_const, cev_var, cev_loc, padV, okV_some, againP, true_and, and_true, upd_zero, upd_succ, nth_zero, nth_succ, wpG_true, wpG_false, condK_true, condK_false, seqK_normal, seqK_ret, seqK_exit, inBlock_normal, inBlock_ret, inBlock_exit, ends_ret, ends_normal, unmark_nil, results_nil, results_cons, one_one, one_zero, one_two, isB_undef, isB_tt, isB_ff, Bool.not_true, Bool.not_false, Option.bind_some, pick3, pickA, extractA, List.getElem?_cons_zero, List.getElem?_cons_succ, bin_lss, bin_gtr, bin_leq, bin_geq, bin_eql, bin_neq, un_not, bin_add Try.prog 3 0 1 ⟨by decide, by decide⟩]
          exact next x 1 _ _ _ _ _ _ (.inr rfl) (by simp [unitV, h1, h2])
        · by_cases h3 : x = lit
          · subst h3
            simp only [c52o5, c52o7, c52o12, h1, h2, decide_true, decide_false, wpC, wpI, wpS, wpD, wpV, wanted_none, wanted_some, vals, cev_const, cev_var, cev_loc, padV, okV_some, againP, true_and, and_true, upd_zero, upd_succ, nth_zero, nth_succ, wpG_true, wpG_false, condK_true, condK_false, seqK_normal, seqK_ret, seqK_exit, inBlock_normal, inBlock_ret, inBlock_exit, ends_ret, ends_normal, unmark_nil, results_nil, results_cons, one_one, one_zero, one_two, isB_undef, isB_tt, isB_ff, Bool.not_true, Bool.not_false, Option.bind_some, pick3, pickA, extractA, List.getElem?_cons_zero, List.getElem?_cons_succ, bin_lss, bin_gtr, bin_leq, bin_geq, bin_eql, bin_neq, un_not]
            simp [e3, wpC, wpI, wpS, wpD, wpV, wanted_none, wanted_some, vals, cev_const, cev_var, cev_loc, padV, okV_some, againP, true_and, and_true, upd_zero, upd_succ, nth_zero, nth_succ, wpG_true, wpG_false, condK_true, condK_false, seqK_normal, seqK_ret, seqK_exit, inBlock_normal, inBlock_ret, inBlock_exit, ends_ret, ends_normal, unmark_nil, results_nil, results_cons, one_one, one_zero, one_two, isB_undef, isB_tt, isB_ff, Bool.not_true, Bool.not_false, Option.bind_some, pick3, pickA, extractA, List.getElem?_cons_zero, List.getElem?_cons_succ, bin_lss, bin_gtr, bin_leq, bin_geq, bin_eql, bin_neq, un_not]
            exact next x 1 _ _ _ _ _ _ (.inr rfl) (by simp [unitV, h1, h2])
          · simp only [c52o5, c52o7, c52o8, c52o9, c52o10, c52o12, h1, h2, h3, decide_true, decide_false, wpC, wpI, wpS, wpD, wpV, wanted_none, wanted_some, vals, cev_const, cev_var, cev_loc, padV, okV_some, againP, true_and, and_true, upd_zero, upd_succ, nth_zero, nth_succ, wpG_true, wpG_false, condK_true, condK_false, seqK_normal, seqK_ret, seqK_exit, inBlock_normal, inBlock_ret, inBlock_exit, ends_ret, ends_normal, unmark_nil, results_nil, results_cons, one_one, one_zero, one_two, isB_undef, isB_tt, isB_ff, Bool.not_true, Bool.not_false, Option.bind_some, pick3, pickA, extractA, List.getElem?_cons_zero, List.getElem?_cons_succ, bin_lss, bin_gtr, bin_leq, bin_geq, bin_eql, bin_neq, un_not]
            simp [h3, e3, wpC, wpI, wpS, wpD, wpV, wanted_none, wanted_some, vals, cev_const, cev_var, cev_loc, padV, okV_some, againP, true_and, and_true, upd_zero, upd_succ, nth_zero, nth_succ, wpG_true, wpG_false, condK_true, condK_false, seqK_normal, seqK_ret, seqK_exit, inBlock_normal, inBlock_ret, inBlock_exit, ends_ret, ends_normal, unmark_nil, results_nil, results_cons, one_one, one_zero, one_two, isB_undef, isB_tt, isB_ff, Bool.not_true, Bool.not_false, Option.bind_some, pick3, pickA, extractA, List.getElem?_cons_zero, List.getElem?_cons_succ, bin_lss, bin_gtr, bin_leq, bin_geq, bin_eql, bin_neq, un_not, bin_add Try.prog 3 1 1 ⟨by decide, by decide⟩]
            have hu : unitV M (x :: l) lit 1 = (0, 2) := by simp [unitV, h1, h2, h3]
            rw [hu] at hq
            exact hq _ _ _ _ _ _ _ _ _ _ (.inl rfl)

theorem unit_ok {E : Env} (hE : Good E) {s : ASt} {i b : Nat} {M : KMap} (hm : MapAt s i M) (hg : Signs M) {L : List Int} (hL : I64s L) (hlen : L.length < 9223372036854775808) {c : AV} (hc : SliceAt b s c (ivs L)) :
    WF E 52 [.map (some i), c] (fun v s' => v = .tuple [iv (unitV M L 0 0).1, iv (unitV M L 0 0).2] ∧ s = s') s := by
  obtain ⟨a, cap, rfl, hc⟩ := hc
  rw [List.length_map]
  refine hE.go comp52 (by decide) rfl ?_
  simp only [c52, c52o0, c52o1, len_slice Try.underlying23, wpC, wpI, wpS, wpD, wpV, wanted_none, wanted_some, vals, cev_const, cev_var, cev_loc, padV, okV_some, againP, true_and, and_true, upd_zero, upd_succ, nth_zero, nth_succ, wpG_true, wpG_false, condK_true, condK_false, seqK_normal, seqK_ret, seqK_exit, inBlock_normal, inBlock_ret, inBlock_exit, ends_ret, ends_normal, unmark_nil, results_nil, results_cons, one_one, one_zero, one_two, isB_undef, isB_tt, isB_ff, Bool.not_true, Bool.not_false, Option.bind_some, pick3, pickA, extractA, List.getElem?_cons_zero, List.getElem?_cons_succ, bin_lss, bin_gtr, bin_leq, bin_geq, bin_eql, bin_neq, un_not]
  refine unit_loop hE hm hg hL hlen hc _ _ L 0 0 0 _ _ _ _ _ _ rfl (Nat.zero_le _) (.inl rfl) rfl ?_
  rintro e y4 y5 y6 y7 y8 y9 y10 y11 y12 (rfl | rfl)
  · simp only [wpC, wpI, wpS, wpD, wpV, wanted_none, wanted_some, vals, cev_const, cev_var, cev_loc, padV, okV_some, againP, true_and, and_true, upd_zero, upd_succ, nth_zero, nth_succ, wpG_true, wpG_false, condK_true, condK_false, seqK_normal, seqK_ret, seqK_exit, inBlock_normal, inBlock_ret, inBlock_exit, ends_ret, ends_normal, unmark_nil, results_nil, results_cons, one_one, one_zero, one_two, isB_undef, isB_tt, isB_ff, Bool.not_true, Bool.not_false, Option.bind_some, pick3, pickA, extractA, List.getElem?_cons_zero, List.getElem?_cons_succ, bin_lss, bin_gtr, bin_leq, bin_geq, bin_eql, bin_neq, un_not]
  · simp only [c52o14, if_true, wpC, wpI, wpS, wpD, wpV, wanted_none, wanted_some, vals, cev_const, cev_var, cev_loc, padV, okV_some, againP, true_and, and_true, upd_zero, upd_succ, nth_zero, nth_succ, wpG_true, wpG_false, condK_true, condK_false, seqK_normal, seqK_ret, seqK_exit, inBlock_normal, inBlock_ret, inBlock_exit, ends_ret, ends_normal, unmark_nil, results_nil, results_cons, one_one, one_zero, one_two, isB_undef, isB_tt, isB_ff, Bool.not_true, Bool.not_false, Option.bind_some, pick3, pickA, extractA, List.getElem?_cons_zero, List.getElem?_cons_succ, bin_lss, bin_gtr, bin_leq, bin_geq, bin_eql, bin_neq, un_not]

/-- How a literal is put. -/
def litPut (M : KMap) (x : Int) : KMap := putM M (signV x).1 (signV x).2
theorem unitV_one (M : KMap) : ∀ (L : List Int) (lit left : Int), (left = 0 ∨ left = 1) → (unitV M L lit left).2 = 1 → ((unitV M L lit left).1 ∈ L ∧ ofV M (unitV M L lit left).1 = 0) ∨ (left = 1 ∧ (unitV M L lit left).1 = lit) := by
  intro L
  induction L with
  | nil => intro lit left _ h; exact .inr ⟨h, rfl⟩
  | cons x l ih =>
    intro lit left hl h
    simp only [unitV] at h ⊢
    split at h
    · simp at h
    · rename_i h1
      rw [if_neg h1]
      split at h
      · rename_i h2
        rw [if_pos h2]
        rcases ih lit left hl h with ⟨h3, h4⟩ | h3
        · exact .inl ⟨List.mem_cons_of_mem _ h3, h4⟩
        · exact .inr h3
      · rename_i h2
        rw [if_neg h2]
        split at h
        · simp at h
        · rename_i h3
          rw [if_neg h3]
          rcases ih x (left + 1) (by omega) h with ⟨h4, h5⟩ | ⟨h4, h5⟩
          · exact .inl ⟨List.mem_cons_of_mem _ h4, h5⟩
          · rw [h5]
            exact .inl ⟨List.mem_cons_self, by omega⟩
theorem litPut_signs {M : KMap} (h : Signs M) {x : Int} (hx : i64 x) (h0 : ofV M x = 0) : Signs (litPut M x) := by
  refine putM_signs h ?_
  rcases (signV_range x hx).2 with h1 | h1 | h1
  · exact .inl h1
  · exact .inr h1
  · simp [ofV, h1] at h0

/-! ### Cells -/
theorem store_one {P : Program} {t : TypeId} (hs : sizeT P t = some 1) {s : ASt} {i o : Nat} {r : ARow} {v : AV} (hg : s.heap.get i = some (.row r)) (hm : r.mode = .own) (hp : r.par = none) (ho : o < r.n) (hv : v.cells = [v]) (hc : v.isCell = true) :
    storeV P s t (.ptr (some (i, o))) v = some (setObj s i (.row { r with c := r.c.fill o [v], par := none })) := by
  simp [storeV, hs, guardB, hv, storeN, rowAt, hg, hm, isOwn, allCells, hc, ble_of (show o + 1 ≤ r.n by omega), unshare, hp]

/-- The map of a pass, and the cell that holds it. -/
structure Know (s : ASt) (i j : Nat) (M : KMap) : Prop where
  map : MapAt s i M
  cell : load1 s j 0 = some (.map (some i))
  ne : j ≠ i
  signs : Signs M

/-- 'look', the closure of Follows. -/
theorem look_ok {E : Env} (hE : Good E) {s : ASt} {i j b : Nat} {M : KMap} (hk : Know s i j M) {L : List Int} (hL : I64s L) (hlen : L.length < 9223372036854775808) {c : AV} (hc : SliceAt b s c (ivs L)) :
    WF E 51 [c, .ptr (some (j, 0))] (fun v s' => v = .tuple [.bool (decide ((unitV M L 0 0).2 = 1)), .bool (decide ((unitV M L 0 0).2 = 0))] ∧
      Know s' i j (if (unitV M L 0 0).2 = 1 then litPut M (unitV M L 0 0).1 else M) ∧ s'.next = s.next ∧ ∀ x, x ≠ i → s'.heap.get x = s.heap.get x) s := by
  have e1 : loadV Try.prog s 69 (.ptr (some (j, 0))) = some (.map (some i)) := load_one ag69 hk.cell
  refine hE.go comp51 (by decide) rfl ?_
  simp only [c51, c51o0, c51o1, e1, wpC, wpI, wpS, wpD, wpV, wanted_none, wanted_some, vals, cev_const, cev_var, cev_loc, padV, okV_some, againP, true_and, and_true, upd_zero, upd_succ, nth_zero, nth_succ, wpG_true, wpG_false, condK_true, condK_false, seqK_normal, seqK_ret, seqK_exit, inBlock_normal, inBlock_ret, inBlock_exit, ends_ret, ends_normal, unmark_nil, results_nil, results_cons, one_one, one_zero, one_two, isB_undef, isB_tt, isB_ff, Bool.not_true, Bool.not_false, Option.bind_some, pick3, pickA, extractA, List.getElem?_cons_zero, List.getElem?_cons_succ, bin_lss, bin_gtr, bin_leq, bin_geq, bin_eql, bin_neq, un_not]
  refine (unit_ok hE hk.map hk.signs hL hlen hc).mono ?_
  rintro _ _ ⟨rfl, rfl⟩
  by_cases h : (unitV M L 0 0).2 = 1
  · have hu := (unitV_one M L 0 0 (.inl rfl) h).resolve_right (by simp)
    have hx : i64 (unitV M L 0 0).1 := hL _ hu.1
    simp only [c51o2, c51o3, h, decide_true, e1, wpC, wpI, wpS, wpD, wpV, wanted_none, wanted_some, vals, cev_const, cev_var, cev_loc, padV, okV_some, againP, true_and, and_true, upd_zero, upd_succ, nth_zero, nth_succ, wpG_true, wpG_false, condK_true, condK_false, seqK_normal, seqK_ret, seqK_exit, inBlock_normal, inBlock_ret, inBlock_exit, ends_ret, ends_normal, unmark_nil, results_nil, results_cons, one_one, one_zero, one_two, isB_undef, isB_tt, isB_ff, Bool.not_true, Bool.not_false, Option.bind_some, pick3, pickA, extractA, List.getElem?_cons_zero, List.getElem?_cons_succ, bin_lss, bin_gtr, bin_leq, bin_geq, bin_eql, bin_neq, un_not]
    refine (set_ok hE hk.map _ hx).mono ?_
    rintro _ s' ⟨rfl, h1, h2, h3⟩
    simp only [c51o4, wpC, wpI, wpS, wpD, wpV, wanted_none, wanted_some, vals, cev_const, cev_var, cev_loc, padV, okV_some, againP, true_and, and_true, upd_zero, upd_succ, nth_zero, nth_succ, wpG_true, wpG_false, condK_true, condK_false, seqK_normal, seqK_ret, seqK_exit, inBlock_normal, inBlock_ret, inBlock_exit, ends_ret, ends_normal, unmark_nil, results_nil, results_cons, one_one, one_zero, one_two, isB_undef, isB_tt, isB_ff, Bool.not_true, Bool.not_false, Option.bind_some, pick3, pickA, extractA, List.getElem?_cons_zero, List.getElem?_cons_succ, bin_lss, bin_gtr, bin_leq, bin_geq, bin_eql, bin_neq, un_not]
    simp only [Int.reduceEq, decide_false, decide_true, if_true, wpC, wpI, wpS, wpD, wpV, wanted_none, wanted_some, vals, cev_const, cev_var, cev_loc, padV, okV_some, againP, true_and, and_true, upd_zero, upd_succ, nth_zero, nth_succ, wpG_true, wpG_false, condK_true, condK_false, seqK_normal, seqK_ret, seqK_exit, inBlock_normal, inBlock_ret, inBlock_exit, ends_ret, ends_normal, unmark_nil, results_nil, results_cons, one_one, one_zero, one_two, isB_undef, isB_tt, isB_ff, Bool.not_true, Bool.not_false, Option.bind_some, pick3, pickA, extractA, List.getElem?_cons_zero, List.getElem?_cons_succ, bin_lss, bin_gtr, bin_leq, bin_geq, bin_eql, bin_neq, un_not]
    exact ⟨⟨h1, by rw [load1_eq (h3 j hk.ne)]; exact hk.cell, hk.ne, litPut_signs hk.signs hx hu.2⟩, h2, h3⟩
  · simp only [c51o2, c51o4, h, decide_false, if_false, wpC, wpI, wpS, wpD, wpV, wanted_none, wanted_some, vals, cev_const, cev_var, cev_loc, padV, okV_some, againP, true_and, and_true, upd_zero, upd_succ, nth_zero, nth_succ, wpG_true, wpG_false, condK_true, condK_false, seqK_normal, seqK_ret, seqK_exit, inBlock_normal, inBlock_ret, inBlock_exit, ends_ret, ends_normal, unmark_nil, results_nil, results_cons, one_one, one_zero, one_two, isB_undef, isB_tt, isB_ff, Bool.not_true, Bool.not_false, Option.bind_some, pick3, pickA, extractA, List.getElem?_cons_zero, List.getElem?_cons_succ, bin_lss, bin_gtr, bin_leq, bin_geq, bin_eql, bin_neq, un_not]
    exact ⟨hk, fun _ _ => trivial⟩
end Go.Proofs.Ytilhhmkdcoajnaa.Am

