/- What the function Follows of layer 20 computes; conditions: the numbers fit. -/
import Derived.Test.YtilhhmkdcoajnaaAmDrup2
set_option linter.unusedVariables false
set_option linter.unusedSimpArgs false
namespace Go.Proofs.Ytilhhmkdcoajnaa.Am
open Go Go.Proofs

/-- A pass over all clauses: none: one of them is false. -/
def passV (M : KMap) : List (List Int) → Bool → Option (KMap × Bool)
  | [], more => some (M, more)
  | c :: cs, more => if (unitV M c 0 0).2 = 0 then none else if (unitV M c 0 0).2 = 1 then passV (litPut M (unitV M c 0 0).1) cs true else passV M cs more
/-- Passes; none: the fuel is short. -/
def loopV (cs : List (List Int)) : Nat → KMap → Option Bool
  | 0, _ => none
  | n + 1, M => match passV M cs false with
    | none => some true
    | some (M', true) => loopV cs n M'
    | some (_, false) => some false
/-- What is known at first; none: the clause always holds. -/
def initV (M : KMap) : List Int → Option KMap
  | [] => some M
  | x :: l => if (signV x).2 = 0 then initV M l else if 0 < ofV M x then none else initV (litPut M (-x)) l
def followsV (n : Nat) (cs : List (List Int)) (c : List Int) : Option Bool := match initV [] c with
  | none => some true
  | some M => loopV cs n M

/-- Rows of numbers, in objects below b. -/
def RowsAt (b : Nat) (s : ASt) (a : Option (Nat × Nat)) (cs : List (List Int)) : Prop := ∀ k L, cs[k]? = some L → ∃ i o u, a = some (i, o) ∧ i < b ∧ load1 s i (o + k) = some u ∧ SliceAt b s u (ivs L)
theorem RowsAt.old {b b' : Nat} {s s' : ASt} {a : Option (Nat × Nat)} {cs : List (List Int)} (h : RowsAt b s a cs) (k : Old b' s s') (hb : b ≤ b') : RowsAt b s' a cs := fun j L hj => by
  obtain ⟨i, o, u, h1, h2, h3, h4⟩ := h j L hj
  exact ⟨i, o, u, h1, h2, by rw [load1_eq (k.2 i (Nat.lt_of_lt_of_le h2 hb))]; exact h3, h4.old k hb⟩
theorem RowsAt.mono {b b' : Nat} {s : ASt} {a : Option (Nat × Nat)} {cs : List (List Int)} (h : RowsAt b s a cs) (hb : b ≤ b') : RowsAt b' s a cs := fun j L hj => by
  obtain ⟨i, o, u, h1, h2, h3, h4⟩ := h j L hj
  exact ⟨i, o, u, h1, Nat.lt_of_lt_of_le h2 hb, h3, h4.mono hb⟩
def Fits (cs : List (List Int)) : Prop := cs.length < 9223372036854775808 ∧ ∀ L ∈ cs, I64s L ∧ L.length < 9223372036854775808
def RowsOf (b : Nat) (s : ASt) (v : AV) (cs : List (List Int)) : Prop := ∃ a cap, v = .slice a cs.length cap ∧ RowsAt b s a cs

/-- The memory of a call of Follows: what was there below n, the map and the cell. -/
structure FolMem (n : Nat) (s0 s : ASt) (i j : Nat) (M : KMap) : Prop where
  know : Know s i j M
  old : Old n s0 s
  hi : n ≤ i
  nx : s.next = s0.next + 2
def OldN (n : Nat) (s0 s : ASt) : Prop := Old n s0 s ∧ s.next = s0.next + 2
theorem FolMem.oldN {n : Nat} {s0 s : ASt} {i j : Nat} {M : KMap} (h : FolMem n s0 s i j M) : OldN n s0 s := ⟨h.old, h.nx⟩

theorem pass_loop {E : Env} (hE : Good E) {n : Nat} {s0 : ASt} {i j : Nat} {cs : List (List Int)} (hcs : Fits cs) {a : Option (Nat × Nat)} {cap : Option Nat} (hr : RowsAt n s0 a cs) (v0 v1 v3 : AV) {Q : ARes → Prop} :
    ∀ (l : List (List Int)) (k : Nat) (M : KMap) (more : Bool) (s : ASt) (x2 x4 x5 x8 x9 x10 x11 x12 x13 x14 x15 x16 x17 x21 x22 x23 : AV), cs.drop k = l → k ≤ cs.length → FolMem n s0 s i j M →
      (match passV M l more with
        | none => ∀ s' y4 y5 y7 y8 y9 y10 y11 y12 y13 y14 y15 y16 y17 y18 y19 y20 y21 y22 y23, OldN n s0 s' → Q ⟨.ret, [v0, v1, .bool true, v3, y4, y5, .func 51 [] [.ptr (some (j, 0))], y7, y8, y9, y10, y11, y12, y13, y14, y15, y16, y17, y18, y19, y20, y21, y22, y23], [], s'⟩
        | some (M', more') => ∀ s' y2 y4 y5 y8 y9 y10 y11 y12 y13 y14 y15 y16 y17 y18 y19 y20 y21 y22 y23, FolMem n s0 s' i j M' → Q ⟨.exit 4, [v0, v1, y2, v3, y4, y5, .func 51 [] [.ptr (some (j, 0))], .bool more', y8, y9, y10, y11, y12, y13, y14, y15, y16, y17, y18, y19, y20, y21, y22, y23], [], s'⟩) →
      WC E none (.loop c17l25) Q [v0, v1, x2, v3, x4, x5, .func 51 [] [.ptr (some (j, 0))], .bool more, x8, x9, x10, x11, x12, x13, x14, x15, x16, x17, .slice a cs.length cap, iv (cs.length : Int), iv (k : Int), x21, x22, x23] [] s := by
  intro l
  induction l with
  | nil =>
    intro k M more s x2 x4 x5 x8 x9 x10 x11 x12 x13 x14 x15 x16 x17 x21 x22 x23 hd hk hmem hq
    have hkl : k = cs.length := by
      have := congrArg List.length hd
      simp at this; omega
    subst hkl
    refine WC.loop' ?_
    simp only [c17l25, c17o17, Int.lt_irrefl, decide_false, wpC, wpI, wpS, wpD, wpV, wanted_none, wanted_some, vals, cev_const, cev_var, cev_loc, padV, okV_some, againP, true_and, and_true, upd_zero, upd_succ, nth_zero, nth_succ, wpG_true, wpG_false, condK_true, condK_false, seqK_normal, seqK_ret, seqK_exit, inBlock_normal, inBlock_ret, inBlock_exit, ends_ret, ends_normal, unmark_nil, results_nil, results_cons, one_one, one_zero, one_two, isB_undef, isB_tt, isB_ff, Bool.not_true, Bool.not_false, Option.bind_some, pick3, pickA, extractA, List.getElem?_cons_zero, List.getElem?_cons_succ, bin_lss, bin_gtr, bin_leq, bin_geq, bin_eql, bin_neq, un_not]
    exact hq s _ _ _ _ _ _ _ _ _ _ _ _ _ _ _ _ _ _ _ hmem
  | cons L l ih =>
    intro k M more s x2 x4 x5 x8 x9 x10 x11 x12 x13 x14 x15 x16 x17 x21 x22 x23 hd hk hmem hq
    have hlt : k < cs.length := by
      have := congrArg List.length hd
      simp at this; omega
    have hx : cs[k]? = some L := by
      have := congrArg (fun l => l[0]?) hd
      simpa using this
    have hd' : cs.drop (k + 1) = l := by
      rw [← List.drop_drop, hd]; rfl
    obtain ⟨p, o, u, rfl, hp, hload, hu⟩ := hr k L hx
    obtain ⟨hL, hLl⟩ := hcs.2 L (List.mem_of_getElem? hx)
    have e1 := idx_slice (cap := cap) (i := p) (o := o) Try.underlying22 sz23 hlt
    have e2 : loadV Try.prog s 23 (.ptr (some (p, o + k * 1))) = some u := load_one ag23 (by rw [Nat.mul_one, load1_eq (hmem.old.2 p hp)]; exact hload)
    have hkk : decide ((k : Int) < (cs.length : Int)) = true := decide_eq_true (by omega)
    have hcl := hcs.1
    have e3 := bin_add Try.prog 3 (k : Int) 1 ⟨by omega, by omega⟩
    refine WC.loop' ?_
    simp only [c17l25, c17o17, c17o18, c17o19, hkk, e1, e2, List.nil_append, List.cons_append, wpC, wpI, wpS, wpD, wpV, wanted_none, wanted_some, vals, cev_const, cev_var, cev_loc, padV, okV_some, againP, true_and, and_true, upd_zero, upd_succ, nth_zero, nth_succ, wpG_true, wpG_false, condK_true, condK_false, seqK_normal, seqK_ret, seqK_exit, inBlock_normal, inBlock_ret, inBlock_exit, ends_ret, ends_normal, unmark_nil, results_nil, results_cons, one_one, one_zero, one_two, isB_undef, isB_tt, isB_ff, Bool.not_true, Bool.not_false, Option.bind_some, pick3, pickA, extractA, List.getElem?_cons_zero, List.getElem?_cons_succ, bin_lss, bin_gtr, bin_leq, bin_geq, bin_eql, bin_neq, un_not]
    refine (look_ok hE hmem.know hL hLl (hu.old hmem.old (Nat.le_refl n))).mono ?_
    rintro _ s1 ⟨rfl, h1, h2, h3⟩
    have hnx : s1.next = s0.next + 2 := h2.trans hmem.nx
    have hold : Old n s0 s1 := hmem.old.trans ⟨by omega, fun x hx => h3 x (by have := hmem.hi; omega)⟩
    by_cases h0 : (unitV M L 0 0).2 = 0
    · have hp0 : passV M (L :: l) more = none := by simp [passV, h0]
      rw [hp0] at hq
      simp only [c17o20, c17o21, h0, decide_true, wpC, wpI, wpS, wpD, wpV, wanted_none, wanted_some, vals, cev_const, cev_var, cev_loc, padV, okV_some, againP, true_and, and_true, upd_zero, upd_succ, nth_zero, nth_succ, wpG_true, wpG_false, condK_true, condK_false, seqK_normal, seqK_ret, seqK_exit, inBlock_normal, inBlock_ret, inBlock_exit, ends_ret, ends_normal, unmark_nil, results_nil, results_cons, one_one, one_zero, one_two, isB_undef, isB_tt, isB_ff, Bool.not_true, Bool.not_false, Option.bind_some, pick3, pickA, extractA, List.getElem?_cons_zero, List.getElem?_cons_succ, bin_lss, bin_gtr, bin_leq, bin_geq, bin_eql, bin_neq, un_not]
      exact hq s1 _ _ _ _ _ _ _ _ _ _ _ _ _ _ _ _ _ _ _ ⟨hold, hnx⟩
    · by_cases hone : (unitV M L 0 0).2 = 1
      · have hp1 : passV M (L :: l) more = passV (litPut M (unitV M L 0 0).1) l true := by simp [passV, hone]
        rw [hp1] at hq
        rw [if_pos hone] at h1
        simp only [c17o20, c17o22, c17o23, c17o24, hone, Int.reduceEq, decide_true, decide_false, Bool.not_true, e3, wpC, wpI, wpS, wpD, wpV, wanted_none, wanted_some, vals, cev_const, cev_var, cev_loc, padV, okV_some, againP, true_and, and_true, upd_zero, upd_succ, nth_zero, nth_succ, wpG_true, wpG_false, condK_true, condK_false, seqK_normal, seqK_ret, seqK_exit, inBlock_normal, inBlock_ret, inBlock_exit, ends_ret, ends_normal, unmark_nil, results_nil, results_cons, one_one, one_zero, one_two, isB_undef, isB_tt, isB_ff, Bool.not_true, Bool.not_false, Option.bind_some, pick3, pickA, extractA, List.getElem?_cons_zero, List.getElem?_cons_succ, bin_lss, bin_gtr, bin_leq, bin_geq, bin_eql, bin_neq, un_not]
        rw [show ((k : Int) + 1) = ((k + 1 : Nat) : Int) from by omega]
        exact ih (k + 1) _ true s1 _ _ _ _ _ _ _ _ _ _ _ _ _ _ _ _ hd' hlt ⟨h1, hold, hmem.hi, hnx⟩ hq
      · have hp1 : passV M (L :: l) more = passV M l more := by simp [passV, hone, h0]
        rw [hp1] at hq
        rw [if_neg hone] at h1
        simp only [c17o20, c17o22, c17o24, hone, h0, decide_false, Bool.not_false, if_true, e3, wpC, wpI, wpS, wpD, wpV, wanted_none, wanted_some, vals, cev_const, cev_var, cev_loc, padV, okV_some, againP, true_and, and_true, upd_zero, upd_succ, nth_zero, nth_succ, wpG_true, wpG_false, condK_true, condK_false, seqK_normal, seqK_ret, seqK_exit, inBlock_normal, inBlock_ret, inBlock_exit, ends_ret, ends_normal, unmark_nil, results_nil, results_cons, one_one, one_zero, one_two, isB_undef, isB_tt, isB_ff, Bool.not_true, Bool.not_false, Option.bind_some, pick3, pickA, extractA, List.getElem?_cons_zero, List.getElem?_cons_succ, bin_lss, bin_gtr, bin_leq, bin_geq, bin_eql, bin_neq, un_not]
        rw [show ((k : Int) + 1) = ((k + 1 : Nat) : Int) from by omega]
        exact ih (k + 1) _ more s1 _ _ _ _ _ _ _ _ _ _ _ _ _ _ _ _ hd' hlt ⟨h1, hold, hmem.hi, hnx⟩ hq

theorem more_loop {E : Env} (hE : Good E) {n : Nat} {s0 : ASt} {i j : Nat} {cs : List (List Int)} (hcs : Fits cs) {a : Option (Nat × Nat)} {cap : Option Nat} (hr : RowsAt n s0 a cs) (v1 v3 : AV) {Q : ARes → Prop} :
    ∀ (fuel : Nat) (M : KMap) (s : ASt) (b : Bool) (x2 x4 x5 x8 x9 x10 x11 x12 x13 x14 x15 x16 x17 x18 x19 x20 x21 x22 x23 : AV), loopV cs fuel M = some b → FolMem n s0 s i j M →
      (∀ e s' y2 y4 y5 y6 y7 y8 y9 y10 y11 y12 y13 y14 y15 y16 y17 y18 y19 y20 y21 y22 y23, OldN n s0 s' → (e = .ret ∧ y2 = .bool true ∧ b = true ∨ e = .exit 2 ∧ b = false) → Q ⟨e, [.slice a cs.length cap, v1, y2, v3, y4, y5, y6, y7, y8, y9, y10, y11, y12, y13, y14, y15, y16, y17, y18, y19, y20, y21, y22, y23], [], s'⟩) →
      WC E none (.loop c17l26) Q [.slice a cs.length cap, v1, x2, v3, x4, x5, .func 51 [] [.ptr (some (j, 0))], .bool true, x8, x9, x10, x11, x12, x13, x14, x15, x16, x17, x18, x19, x20, x21, x22, x23] [] s := by
  intro fuel
  induction fuel with
  | zero => intro M s b _ _ _ _ _ _ _ _ _ _ _ _ _ _ _ _ _ _ _ h; cases h
  | succ fuel ih =>
    intro M s b x2 x4 x5 x8 x9 x10 x11 x12 x13 x14 x15 x16 x17 x18 x19 x20 x21 x22 x23 hl hmem hq
    refine WC.loop' ?_
    simp only [c17l26, c17o14, c17o15, c17o16, len_slice Try.underlying22, wpC, wpI, wpS, wpD, wpV, wanted_none, wanted_some, vals, cev_const, cev_var, cev_loc, padV, okV_some, againP, true_and, and_true, upd_zero, upd_succ, nth_zero, nth_succ, wpG_true, wpG_false, condK_true, condK_false, seqK_normal, seqK_ret, seqK_exit, inBlock_normal, inBlock_ret, inBlock_exit, ends_ret, ends_normal, unmark_nil, results_nil, results_cons, one_one, one_zero, one_two, isB_undef, isB_tt, isB_ff, Bool.not_true, Bool.not_false, Option.bind_some, pick3, pickA, extractA, List.getElem?_cons_zero, List.getElem?_cons_succ, bin_lss, bin_gtr, bin_leq, bin_geq, bin_eql, bin_neq, un_not]
    refine pass_loop hE hcs hr _ _ _ cs 0 M false s _ _ _ _ _ _ _ _ _ _ _ _ _ _ _ _ rfl (Nat.zero_le _) hmem ?_
    simp only [loopV] at hl
    split at hl
    · rename_i hp
      injection hl with hl
      subst hl
      rw [hp]
      intro s' y4 y5 y7 y8 y9 y10 y11 y12 y13 y14 y15 y16 y17 y18 y19 y20 y21 y22 y23 ho
      simp only [wpC, wpI, wpS, wpD, wpV, wanted_none, wanted_some, vals, cev_const, cev_var, cev_loc, padV, okV_some, againP, true_and, and_true, upd_zero, upd_succ, nth_zero, nth_succ, wpG_true, wpG_false, condK_true, condK_false, seqK_normal, seqK_ret, seqK_exit, inBlock_normal, inBlock_ret, inBlock_exit, ends_ret, ends_normal, unmark_nil, results_nil, results_cons, one_one, one_zero, one_two, isB_undef, isB_tt, isB_ff, Bool.not_true, Bool.not_false, Option.bind_some, pick3, pickA, extractA, List.getElem?_cons_zero, List.getElem?_cons_succ, bin_lss, bin_gtr, bin_leq, bin_geq, bin_eql, bin_neq, un_not]
      exact hq _ _ _ _ _ _ _ _ _ _ _ _ _ _ _ _ _ _ _ _ _ _ _ ho (.inl ⟨rfl, rfl, rfl⟩)
    · rename_i M' hp
      rw [hp]
      intro s' y2 y4 y5 y8 y9 y10 y11 y12 y13 y14 y15 y16 y17 y18 y19 y20 y21 y22 y23 ho
      simp only [if_true, wpC, wpI, wpS, wpD, wpV, wanted_none, wanted_some, vals, cev_const, cev_var, cev_loc, padV, okV_some, againP, true_and, and_true, upd_zero, upd_succ, nth_zero, nth_succ, wpG_true, wpG_false, condK_true, condK_false, seqK_normal, seqK_ret, seqK_exit, inBlock_normal, inBlock_ret, inBlock_exit, ends_ret, ends_normal, unmark_nil, results_nil, results_cons, one_one, one_zero, one_two, isB_undef, isB_tt, isB_ff, Bool.not_true, Bool.not_false, Option.bind_some, pick3, pickA, extractA, List.getElem?_cons_zero, List.getElem?_cons_succ, bin_lss, bin_gtr, bin_leq, bin_geq, bin_eql, bin_neq, un_not]
      exact ih M' s' b _ _ _ _ _ _ _ _ _ _ _ _ _ _ _ _ _ _ _ hl ho hq
    · rename_i M' hp
      injection hl with hl
      subst hl
      rw [hp]
      intro s' y2 y4 y5 y8 y9 y10 y11 y12 y13 y14 y15 y16 y17 y18 y19 y20 y21 y22 y23 ho
      simp only [if_true, wpC, wpI, wpS, wpD, wpV, wanted_none, wanted_some, vals, cev_const, cev_var, cev_loc, padV, okV_some, againP, true_and, and_true, upd_zero, upd_succ, nth_zero, nth_succ, wpG_true, wpG_false, condK_true, condK_false, seqK_normal, seqK_ret, seqK_exit, inBlock_normal, inBlock_ret, inBlock_exit, ends_ret, ends_normal, unmark_nil, results_nil, results_cons, one_one, one_zero, one_two, isB_undef, isB_tt, isB_ff, Bool.not_true, Bool.not_false, Option.bind_some, pick3, pickA, extractA, List.getElem?_cons_zero, List.getElem?_cons_succ, bin_lss, bin_gtr, bin_leq, bin_geq, bin_eql, bin_neq, un_not]
      refine WC.loop' ?_
      simp only [c17l26, c17o14, wpC, wpI, wpS, wpD, wpV, wanted_none, wanted_some, vals, cev_const, cev_var, cev_loc, padV, okV_some, againP, true_and, and_true, upd_zero, upd_succ, nth_zero, nth_succ, wpG_true, wpG_false, condK_true, condK_false, seqK_normal, seqK_ret, seqK_exit, inBlock_normal, inBlock_ret, inBlock_exit, ends_ret, ends_normal, unmark_nil, results_nil, results_cons, one_one, one_zero, one_two, isB_undef, isB_tt, isB_ff, Bool.not_true, Bool.not_false, Option.bind_some, pick3, pickA, extractA, List.getElem?_cons_zero, List.getElem?_cons_succ, bin_lss, bin_gtr, bin_leq, bin_geq, bin_eql, bin_neq, un_not]
      exact hq _ _ _ _ _ _ _ _ _ _ _ _ _ _ _ _ _ _ _ _ _ _ _ ho.oldN (.inr ⟨rfl, rfl⟩)

theorem signV_neg {x : Int} (hx : i64 x) (h : (signV x).2 ≠ 0) : i64 (-x) ∧ (signV (-x)).2 ≠ 0 := by
  obtain ⟨h1, h2⟩ := hx
  unfold signV at h ⊢
  split at h
  · rw [if_neg (by omega), if_pos ⟨by omega, by omega⟩]
    exact ⟨⟨by omega, by omega⟩, by simp⟩
  · split at h
    · rw [if_pos (by omega)]
      exact ⟨⟨by omega, by omega⟩, by simp⟩
    · simp at h

theorem init_loop {E : Env} (hE : Good E) {n : Nat} {s0 : ASt} {i j : Nat} {c : List Int} (hc : I64s c) (hcl : c.length < 9223372036854775808) {a : Option (Nat × Nat)} {cap : Option Nat} (hr : CellsAt n s0 a (ivs c)) (v0 v1 x6 x7 x8 x9 x10 : AV) {Q : ARes → Prop} :
    ∀ (l : List Int) (k : Nat) (M : KMap) (s : ASt) (x2 x4 x5 x14 x15 x16 x17 x18 x19 x20 x21 x22 x23 : AV), c.drop k = l → k ≤ c.length → FolMem n s0 s i j M →
      (match initV M l with
        | none => ∀ s' y4 y5 y6 y7 y8 y9 y10 y11 y12 y13 y14 y15 y16 y17 y18 y19 y20 y21 y22 y23, OldN n s0 s' → Q ⟨.ret, [v0, v1, .bool true, .ptr (some (j, 0)), y4, y5, y6, y7, y8, y9, y10, y11, y12, y13, y14, y15, y16, y17, y18, y19, y20, y21, y22, y23], [], s'⟩
        | some M' => ∀ s' y2 y4 y5 y6 y7 y8 y9 y10 y11 y12 y13 y14 y15 y16 y17 y18 y19 y20 y21 y22 y23, FolMem n s0 s' i j M' → Q ⟨.exit 0, [v0, v1, y2, .ptr (some (j, 0)), y4, y5, y6, y7, y8, y9, y10, y11, y12, y13, y14, y15, y16, y17, y18, y19, y20, y21, y22, y23], [], s'⟩) →
      WC E none (.loop c17l11) Q [v0, v1, x2, .ptr (some (j, 0)), x4, x5, x6, x7, x8, x9, x10, .slice a c.length cap, iv (c.length : Int), iv (k : Int), x14, x15, x16, x17, x18, x19, x20, x21, x22, x23] [] s := by
  intro l
  induction l with
  | nil =>
    intro k M s x2 x4 x5 x14 x15 x16 x17 x18 x19 x20 x21 x22 x23 hd hk hmem hq
    have hkl : k = c.length := by
      have := congrArg List.length hd
      simp at this; omega
    subst hkl
    refine WC.loop' ?_
    simp only [c17l11, c17o3, Int.lt_irrefl, decide_false, wpC, wpI, wpS, wpD, wpV, wanted_none, wanted_some, vals, cev_const, cev_var, cev_loc, padV, okV_some, againP, true_and, and_true, upd_zero, upd_succ, nth_zero, nth_succ, wpG_true, wpG_false, condK_true, condK_false, seqK_normal, seqK_ret, seqK_exit, inBlock_normal, inBlock_ret, inBlock_exit, ends_ret, ends_normal, unmark_nil, results_nil, results_cons, one_one, one_zero, one_two, isB_undef, isB_tt, isB_ff, Bool.not_true, Bool.not_false, Option.bind_some, pick3, pickA, extractA, List.getElem?_cons_zero, List.getElem?_cons_succ, bin_lss, bin_gtr, bin_leq, bin_geq, bin_eql, bin_neq, un_not]
    exact hq s _ _ _ _ _ _ _ _ _ _ _ _ _ _ _ _ _ _ _ _ _ hmem
  | cons x l ih =>
    intro k M s x2 x4 x5 x14 x15 x16 x17 x18 x19 x20 x21 x22 x23 hd hk hmem hq
    have hlt : k < c.length := by
      have := congrArg List.length hd
      simp at this; omega
    have hx : c[k]? = some x := by
      have := congrArg (fun l => l[0]?) hd
      simpa using this
    have hd' : c.drop (k + 1) = l := by
      rw [← List.drop_drop, hd]; rfl
    obtain ⟨p, o, rfl, hp, hload⟩ := hr k _ (get_ivs hx)
    have hxi := hc x (List.mem_of_getElem? hx)
    have e1 := idx_slice (cap := cap) (i := p) (o := o) Try.underlying23 sz3 hlt
    have e2 : loadV Try.prog s 3 (.ptr (some (p, o + k * 1))) = some (iv x) := load_one ag3 (by rw [Nat.mul_one, load1_eq (hmem.old.2 p hp)]; exact hload)
    have hkk : decide ((k : Int) < (c.length : Int)) = true := decide_eq_true (by omega)
    have e3 := bin_add Try.prog 3 (k : Int) 1 ⟨by omega, by omega⟩
    have e4 : loadV Try.prog s 69 (.ptr (some (j, 0))) = some (.map (some i)) := load_one ag69 hmem.know.cell
    refine WC.loop' ?_
    simp only [c17l11, c17o3, c17o4, c17o5, hkk, e1, e2, wpC, wpI, wpS, wpD, wpV, wanted_none, wanted_some, vals, cev_const, cev_var, cev_loc, padV, okV_some, againP, true_and, and_true, upd_zero, upd_succ, nth_zero, nth_succ, wpG_true, wpG_false, condK_true, condK_false, seqK_normal, seqK_ret, seqK_exit, inBlock_normal, inBlock_ret, inBlock_exit, ends_ret, ends_normal, unmark_nil, results_nil, results_cons, one_one, one_zero, one_two, isB_undef, isB_tt, isB_ff, Bool.not_true, Bool.not_false, Option.bind_some, pick3, pickA, extractA, List.getElem?_cons_zero, List.getElem?_cons_succ, bin_lss, bin_gtr, bin_leq, bin_geq, bin_eql, bin_neq, un_not]
    refine (sign_ok hE x s hxi).mono ?_
    rintro _ _ ⟨rfl, rfl⟩
    by_cases h0 : (signV x).2 = 0
    · have hi0 : initV M (x :: l) = initV M l := by simp [initV, h0]
      rw [hi0] at hq
      simp only [c17o6, c17o10, h0, decide_true, if_true, e3, wpC, wpI, wpS, wpD, wpV, wanted_none, wanted_some, vals, cev_const, cev_var, cev_loc, padV, okV_some, againP, true_and, and_true, upd_zero, upd_succ, nth_zero, nth_succ, wpG_true, wpG_false, condK_true, condK_false, seqK_normal, seqK_ret, seqK_exit, inBlock_normal, inBlock_ret, inBlock_exit, ends_ret, ends_normal, unmark_nil, results_nil, results_cons, one_one, one_zero, one_two, isB_undef, isB_tt, isB_ff, Bool.not_true, Bool.not_false, Option.bind_some, pick3, pickA, extractA, List.getElem?_cons_zero, List.getElem?_cons_succ, bin_lss, bin_gtr, bin_leq, bin_geq, bin_eql, bin_neq, un_not]
      rw [show ((k : Int) + 1) = ((k + 1 : Nat) : Int) from by omega]
      exact ih (k + 1) M s _ _ _ _ _ _ _ _ _ _ _ _ _ hd' hlt hmem hq
    · simp only [c17o6, c17o7, h0, decide_false, e4, wpC, wpI, wpS, wpD, wpV, wanted_none, wanted_some, vals, cev_const, cev_var, cev_loc, padV, okV_some, againP, true_and, and_true, upd_zero, upd_succ, nth_zero, nth_succ, wpG_true, wpG_false, condK_true, condK_false, seqK_normal, seqK_ret, seqK_exit, inBlock_normal, inBlock_ret, inBlock_exit, ends_ret, ends_normal, unmark_nil, results_nil, results_cons, one_one, one_zero, one_two, isB_undef, isB_tt, isB_ff, Bool.not_true, Bool.not_false, Option.bind_some, pick3, pickA, extractA, List.getElem?_cons_zero, List.getElem?_cons_succ, bin_lss, bin_gtr, bin_leq, bin_geq, bin_eql, bin_neq, un_not]
      refine (of_ok hE hmem.know.map hmem.know.signs x hxi).mono ?_
      rintro _ _ ⟨rfl, rfl⟩
      by_cases h1 : 0 < ofV M x
      · have hi1 : initV M (x :: l) = none := by simp [initV, h0, h1]
        rw [hi1] at hq
        simp only [c17o8, h1, decide_true, wpC, wpI, wpS, wpD, wpV, wanted_none, wanted_some, vals, cev_const, cev_var, cev_loc, padV, okV_some, againP, true_and, and_true, upd_zero, upd_succ, nth_zero, nth_succ, wpG_true, wpG_false, condK_true, condK_false, seqK_normal, seqK_ret, seqK_exit, inBlock_normal, inBlock_ret, inBlock_exit, ends_ret, ends_normal, unmark_nil, results_nil, results_cons, one_one, one_zero, one_two, isB_undef, isB_tt, isB_ff, Bool.not_true, Bool.not_false, Option.bind_some, pick3, pickA, extractA, List.getElem?_cons_zero, List.getElem?_cons_succ, bin_lss, bin_gtr, bin_leq, bin_geq, bin_eql, bin_neq, un_not]
        exact hq s _ _ _ _ _ _ _ _ _ _ _ _ _ _ _ _ _ _ _ _ hmem.oldN
      · obtain ⟨hn1, hn2⟩ := signV_neg hxi h0
        have hi1 : initV M (x :: l) = initV (litPut M (-x)) l := by simp [initV, h0, h1]
        rw [hi1] at hq
        simp only [c17o9, h1, decide_false, e4, un_neg _ x hn1, wpC, wpI, wpS, wpD, wpV, wanted_none, wanted_some, vals, cev_const, cev_var, cev_loc, padV, okV_some, againP, true_and, and_true, upd_zero, upd_succ, nth_zero, nth_succ, wpG_true, wpG_false, condK_true, condK_false, seqK_normal, seqK_ret, seqK_exit, inBlock_normal, inBlock_ret, inBlock_exit, ends_ret, ends_normal, unmark_nil, results_nil, results_cons, one_one, one_zero, one_two, isB_undef, isB_tt, isB_ff, Bool.not_true, Bool.not_false, Option.bind_some, pick3, pickA, extractA, List.getElem?_cons_zero, List.getElem?_cons_succ, bin_lss, bin_gtr, bin_leq, bin_geq, bin_eql, bin_neq, un_not]
        refine (set_ok hE hmem.know.map (-x) hn1).mono ?_
        rintro _ s1 ⟨rfl, g1, g2, g3⟩
        simp only [c17o10, e3, wpC, wpI, wpS, wpD, wpV, wanted_none, wanted_some, vals, cev_const, cev_var, cev_loc, padV, okV_some, againP, true_and, and_true, upd_zero, upd_succ, nth_zero, nth_succ, wpG_true, wpG_false, condK_true, condK_false, seqK_normal, seqK_ret, seqK_exit, inBlock_normal, inBlock_ret, inBlock_exit, ends_ret, ends_normal, unmark_nil, results_nil, results_cons, one_one, one_zero, one_two, isB_undef, isB_tt, isB_ff, Bool.not_true, Bool.not_false, Option.bind_some, pick3, pickA, extractA, List.getElem?_cons_zero, List.getElem?_cons_succ, bin_lss, bin_gtr, bin_leq, bin_geq, bin_eql, bin_neq, un_not]
        rw [show ((k : Int) + 1) = ((k + 1 : Nat) : Int) from by omega]
        refine ih (k + 1) _ s1 _ _ _ _ _ _ _ _ _ _ _ _ _ hd' hlt ⟨⟨g1, by rw [load1_eq (g3 j hmem.know.ne)]; exact hmem.know.cell, hmem.know.ne, putM_signs hmem.know.signs ?_⟩, hmem.old.trans ⟨by omega, fun y hy => g3 y (by have := hmem.hi; omega)⟩, hmem.hi, g2.trans hmem.nx⟩ hq
        rcases (signV_range (-x) hn1).2 with h | h | h
        · exact .inl h
        · exact .inr h
        · exact absurd h hn2

set_option maxRecDepth 4000 in
theorem follows_ok {E : Env} (hE : Good E) {s : ASt} {cs : List (List Int)} {c : List Int} (hcs : Fits cs) (hc : I64s c) (hcl : c.length < 9223372036854775808) {v u : AV} (hr : RowsOf s.next s v cs) (hu : SliceAt s.next s u (ivs c)) {fuel : Nat} {b : Bool} (hf : followsV fuel cs c = some b) :
    WF E 17 [v, u] (fun r s' => r = .bool b ∧ OldN s.next s s') s := by
  obtain ⟨a, cap, rfl, hr⟩ := hr
  obtain ⟨a2, cap2, rfl, hu⟩ := hu
  rw [List.length_map]
  refine hE.go comp17 (by decide) rfl ?_
  have hz : allocA Try.prog 69 = some (mkRow 69 0 [.map none], .ptr) := by simp [allocA, zr69, AV.cells]
  simp only [c17, c17o0, c17o1, c17o2, hz, Made.val, on2, len_slice Try.underlying23, wpC, wpI, wpS, wpD, wpV, wanted_none, wanted_some, vals, cev_const, cev_var, cev_loc, padV, okV_some, againP, true_and, and_true, upd_zero, upd_succ, nth_zero, nth_succ, wpG_true, wpG_false, condK_true, condK_false, seqK_normal, seqK_ret, seqK_exit, inBlock_normal, inBlock_ret, inBlock_exit, ends_ret, ends_normal, unmark_nil, results_nil, results_cons, one_one, one_zero, one_two, isB_undef, isB_tt, isB_ff, Bool.not_true, Bool.not_false, Option.bind_some, pick3, pickA, extractA, List.getElem?_cons_zero, List.getElem?_cons_succ, bin_lss, bin_gtr, bin_leq, bin_geq, bin_eql, bin_neq, un_not]
  -- the two new objects
  let s1 := newObj s (.map [] 0)
  let s2 := newObj s1 (mkRow 69 0 [.map none])
  obtain ⟨r, hr1, hr2, _, _, hr5, hr6⟩ := holds_mkRow 69 0 [.map none]
  have hg : s2.heap.get (s.next + 1) = some (.row r) := by
    rw [heap_new, if_pos (show s.next + 1 = s1.next from rfl), hr1]
  have hst := store_one (P := Try.prog) (t := 69) sz69 (o := 0) (v := .map (some s.next)) hg hr5 hr6 (by rw [hr2.1]; decide) rfl rfl
  have hst' : storeV Try.prog (newObj (newObj s (.map [] 0)) (mkRow 69 0 [.map none])) 69 (.ptr (some ((newObj s (.map [] 0)).next, 0))) (.map (some s.next)) = _ := hst
  simp only [hst', withV, wpC, wpI, wpS, wpD, wpV, wanted_none, wanted_some, vals, cev_const, cev_var, cev_loc, padV, okV_some, againP, true_and, and_true, upd_zero, upd_succ, nth_zero, nth_succ, wpG_true, wpG_false, condK_true, condK_false, seqK_normal, seqK_ret, seqK_exit, inBlock_normal, inBlock_ret, inBlock_exit, ends_ret, ends_normal, unmark_nil, results_nil, results_cons, one_one, one_zero, one_two, isB_undef, isB_tt, isB_ff, Bool.not_true, Bool.not_false, Option.bind_some, pick3, pickA, extractA, List.getElem?_cons_zero, List.getElem?_cons_succ, bin_lss, bin_gtr, bin_leq, bin_geq, bin_eql, bin_neq, un_not]
  generalize hs3 : setObj s2 (s.next + 1) (.row { r with c := r.c.fill 0 [.map (some s.next)], par := none }) = s3
  have k3 : ∀ x, s3.heap.get x = if x = s.next + 1 then some (.row { r with c := r.c.fill 0 [.map (some s.next)], par := none }) else if x = s.next then some (.map [] 0) else s.heap.get x := by
    intro x
    rw [← hs3, heap_set]
    by_cases h1 : x = s.next + 1
    · rw [if_pos h1, if_pos h1]
    · rw [if_neg h1, if_neg h1, heap_new, if_neg (show ¬ x = s1.next from h1), heap_new]
  have hmem : FolMem s.next s s3 s.next (s.next + 1) [] := by
    refine ⟨⟨⟨[], 0, by rw [k3, if_neg (by omega), if_pos rfl], .nil⟩, ?_, by omega, fun p hp => by cases hp⟩, ⟨by rw [← hs3]; show s.next ≤ s.next + 1 + 1; omega, fun x hx => by rw [k3, if_neg (by omega), if_neg (by omega)]⟩, Nat.le_refl _, by rw [← hs3]; rfl⟩
    refine load1_row (r := { r with c := r.c.fill 0 [.map (some s.next)], par := none }) (by rw [k3, if_pos rfl]) (by rw [hr2.1]; decide) ?_
    show (Tree.fill r.c 0 [AV.map (some s.next)]).get 0 = _
    rw [Tree.get_fill, if_pos ⟨Nat.le_refl _, by simp⟩]
    rfl
  have hnx : (newObj s (.map [] 0)).next = s.next + 1 := rfl
  rw [hnx]
  refine init_loop hE hc hcl hu _ _ _ _ _ _ _ c 0 [] s3 _ _ _ _ _ _ _ _ _ _ _ _ _ rfl (Nat.zero_le _) hmem ?_
  unfold followsV at hf
  cases hi : initV [] c with
  | none =>
    rw [hi] at hf
    injection hf with hf
    subst hf
    intro s' y4 y5 y6 y7 y8 y9 y10 y11 y12 y13 y14 y15 y16 y17 y18 y19 y20 y21 y22 y23 ho
    simp only [wpC, wpI, wpS, wpD, wpV, wanted_none, wanted_some, vals, cev_const, cev_var, cev_loc, padV, okV_some, againP, true_and, and_true, upd_zero, upd_succ, nth_zero, nth_succ, wpG_true, wpG_false, condK_true, condK_false, seqK_normal, seqK_ret, seqK_exit, inBlock_normal, inBlock_ret, inBlock_exit, ends_ret, ends_normal, unmark_nil, results_nil, results_cons, one_one, one_zero, one_two, isB_undef, isB_tt, isB_ff, Bool.not_true, Bool.not_false, Option.bind_some, pick3, pickA, extractA, List.getElem?_cons_zero, List.getElem?_cons_succ, bin_lss, bin_gtr, bin_leq, bin_geq, bin_eql, bin_neq, un_not]
    exact ho
  | some M =>
    rw [hi] at hf
    intro s' y2 y4 y5 y6 y7 y8 y9 y10 y11 y12 y13 y14 y15 y16 y17 y18 y19 y20 y21 y22 y23 ho
    simp only [if_true, c17o12, c17o13, List.take_zero, List.drop_zero, wpC, wpI, wpS, wpD, wpV, wanted_none, wanted_some, vals, cev_const, cev_var, cev_loc, padV, okV_some, againP, true_and, and_true, upd_zero, upd_succ, nth_zero, nth_succ, wpG_true, wpG_false, condK_true, condK_false, seqK_normal, seqK_ret, seqK_exit, inBlock_normal, inBlock_ret, inBlock_exit, ends_ret, ends_normal, unmark_nil, results_nil, results_cons, one_one, one_zero, one_two, isB_undef, isB_tt, isB_ff, Bool.not_true, Bool.not_false, Option.bind_some, pick3, pickA, extractA, List.getElem?_cons_zero, List.getElem?_cons_succ, bin_lss, bin_gtr, bin_leq, bin_geq, bin_eql, bin_neq, un_not]
    have hf : loopV cs fuel M = some b := hf
    refine more_loop hE hcs hr _ _ fuel M s' b _ _ _ _ _ _ _ _ _ _ _ _ _ _ _ _ _ _ _ hf ho ?_
    intro e s4 y2 y4 y5 y6 y7 y8 y9 y10 y11 y12 y13 y14 y15 y16 y17 y18 y19 y20 y21 y22 y23 ho4 he
    rcases he with ⟨rfl, rfl, rfl⟩ | ⟨rfl, rfl⟩
    · simp only [wpC, wpI, wpS, wpD, wpV, wanted_none, wanted_some, vals, cev_const, cev_var, cev_loc, padV, okV_some, againP, true_and, and_true, upd_zero, upd_succ, nth_zero, nth_succ, wpG_true, wpG_false, condK_true, condK_false, seqK_normal, seqK_ret, seqK_exit, inBlock_normal, inBlock_ret, inBlock_exit, ends_ret, ends_normal, unmark_nil, results_nil, results_cons, one_one, one_zero, one_two, isB_undef, isB_tt, isB_ff, Bool.not_true, Bool.not_false, Option.bind_some, pick3, pickA, extractA, List.getElem?_cons_zero, List.getElem?_cons_succ, bin_lss, bin_gtr, bin_leq, bin_geq, bin_eql, bin_neq, un_not]
      exact ho4
    · simp only [if_true, c17o27, wpC, wpI, wpS, wpD, wpV, wanted_none, wanted_some, vals, cev_const, cev_var, cev_loc, padV, okV_some, againP, true_and, and_true, upd_zero, upd_succ, nth_zero, nth_succ, wpG_true, wpG_false, condK_true, condK_false, seqK_normal, seqK_ret, seqK_exit, inBlock_normal, inBlock_ret, inBlock_exit, ends_ret, ends_normal, unmark_nil, results_nil, results_cons, one_one, one_zero, one_two, isB_undef, isB_tt, isB_ff, Bool.not_true, Bool.not_false, Option.bind_some, pick3, pickA, extractA, List.getElem?_cons_zero, List.getElem?_cons_succ, bin_lss, bin_gtr, bin_leq, bin_geq, bin_eql, bin_neq, un_not]
      exact ho4
end Go.Proofs.Ytilhhmkdcoajnaa.Am

