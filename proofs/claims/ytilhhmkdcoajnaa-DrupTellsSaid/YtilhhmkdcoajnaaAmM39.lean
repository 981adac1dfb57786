/- What the law's function lines of layer 20 computes: its loop; conditions: none but the reading of its argument. -/
import Derived.Test.YtilhhmkdcoajnaaAmM38
set_option linter.unusedVariables false
set_option linter.unusedSimpArgs false
namespace Go.Proofs.Ytilhhmkdcoajnaa.Am
open Go Go.Proofs

theorem linesV_len (l : List Step20) : ∀ out, (linesV out l).length = out.length + l.length := by
  induction l with
  | nil => intro out; rfl
  | cons x l ih => obtain ⟨d, w, L⟩ := x; intro out; simp only [linesV, ih]; simp; omega

set_option maxRecDepth 16000 in
/-- Behind the row of a line: which literals it has, and that it is put. -/
theorem line_rest {E : Env} {lo : Nat} {s0 : ASt} {b : Nat} {ss : List Step20} (hss : ∀ x ∈ ss, u8 x.2.1) {a : Option (Nat × Nat)} {cap : Option Nat} (hlen : ss.length < 9223372036854775808) (hb : b ≤ lo) (hst : StepsAt b s0 a ss)
    {k : Nat} {d : Bool} {w : Int} {L : List Int} (hk : ss[k]? = some (d, w, L)) {us : List AV} {T : Trace20} {O : List Nat} (hT : T.length ≤ 100) {v2 : AV} {s : ASt} (hm : MadeT lo s v2 us T O) (hold : Old lo s0 s) (hlo : lo ≤ s.next) {j : Nat} {u : AV} (hx : XBox lo s j O d u (rowV L)) (hj : lo ≤ j ∧ j < s.next) (hjO : j ∉ O)
    (hjs : slot v2 ≠ some j) (hju : ∀ x ∈ us, slot x ≠ some j) (hjx : slot u ≠ some j) (v1 v5 x6 x7 : AV) {Q : ARes → Prop}
    (hq : ∀ v' s' us' O' y6 y7, MadeT lo s' v' us' (T ++ [lineOf T d w L]) O' → Old lo s0 s' → Q ⟨.normal, [.slice a ss.length cap, v1, v', iv (k : Int), .ptr (some (j, 0)), v5, y6, y7], [], s'⟩) :
    wpC E none (.seq (.seq (.ops c23o7) (.cond (.var 7) (.ops c23o8) .skip)) (.ops c23o9)) Q [.slice a ss.length cap, v1, v2, iv (k : Int), .ptr (some (j, 0)), v5, x6, x7] [] s := by
  have hlt : k < ss.length := by
    rcases Nat.lt_or_ge k ss.length with h' | h'
    · exact h'
    · rw [List.getElem?_eq_none h'] at hk; cases hk
  obtain ⟨hw1, hw2⟩ := hss _ (List.mem_of_getElem? hk)
  obtain ⟨i, o, u3, rfl, hi, hd1, hd2, hd3, _⟩ := hst k d w L hk
  have e1 := idx_slice (cap := cap) (i := i) (o := o) Try.underlying31 sz79 hlt
  have lw : ∀ s', Old lo s0 s' → loadV Try.prog s' 5 (.ptr (some (i, o + k * 3 + 1))) = some (.int .u8 w) := fun s' h => load_one ag5 (by rw [load1_eq (h.2 i (by omega))]; exact hd2)
  have ld : loadV Try.prog s 4 (.ptr (some (j, 0))) = some (.bool d) := load_one ag4 hx.box.load0
  obtain ⟨a2, cap2, rfl, hc2⟩ := hm.dest.cells
  have hrem := bin_rem (P := Try.prog) (t := 5) (k := .u8) hw1 (show (0 : Int) < 3 by decide)
  -- the end: the line is put
  have fin : ∀ (s1 : ASt) (u1 : AV) (L1 : List Int) (y6 y7 : AV), XBox lo s1 j O d u1 L1 → MadeT lo s1 (.slice a2 T.length cap2) us T O → Old lo s0 s1 → lo ≤ s1.next → lineOf T d w L = (d, L1) →
      wpI E c23o9 (fun v s' => Q ⟨.normal, v, [], s'⟩) [] [.slice (some (i, o)) ss.length cap, v1, .slice a2 T.length cap2, iv (k : Int), .ptr (some (j, 0)), v5, y6, y7] s1 := by
    intro s1 u1 L1 y6 y7 hx1 hm1 hold1 hlo1 hl
    obtain ⟨v', s', O', p1, p2, p3⟩ := push_line (d := d) hm1 (by omega) hx1.slice hx1.slot hlo1
    have hmv : ∀ (m : Nat) (i : Nat), Made.val i (.slice m) = .slice (some (i, 0)) m (some m) := fun _ _ => rfl
    simp only [c23o9, hx1.box.loads, bld_line, hmv, p1, wpC, wpI, wpS, wpD, wpV, wanted_none, wanted_some, vals, cev_const, cev_var, cev_loc, padV, okV_some, againP, true_and, and_true, upd_zero, upd_succ, nth_zero, nth_succ, wpG_true, wpG_false, condK_true, condK_false, seqK_normal, seqK_ret, seqK_exit, inBlock_normal, inBlock_ret, inBlock_exit, ends_ret, ends_normal, unmark_nil, results_nil, results_cons, one_one, one_zero, one_two, isB_undef, isB_tt, isB_ff, Bool.not_true, Bool.not_false, Option.bind_some, pick3, pickA, extractA, List.getElem?_cons_zero, List.getElem?_cons_succ, bin_lss, bin_gtr, bin_leq, bin_geq, bin_eql, bin_neq, un_not]
    rw [hl] at hq
    exact hq v' s' _ O' _ _ p2 (hold1.trans p3)
  by_cases hag : again20 T d w = true
  · -- of a line ahead
    have hd : d = true := by cases d <;> simp [again20] at hag ⊢
    have hTl : 0 < T.length := by simp [again20] at hag; omega
    have hw3 : 0 < w % 3 := by simp [again20] at hag; omega
    subst hd
    have hgt : decide ((0 : Int) < (T.length : Int)) = true := decide_eq_true (by omega)
    have hr2 := bin_rem (P := Try.prog) (t := 3) (k := .i64) hw1 (show (0 : Int) < (T.length : Int) by omega)
    have hq1 := Int.emod_nonneg w (show (T.length : Int) ≠ 0 by omega)
    have hq2 := Int.emod_lt_of_pos w (show (0 : Int) < (T.length : Int) by omega)
    have hcast : w % (T.length : Int) = (((w % (T.length : Int)).toNat : Nat) : Int) := by omega
    have hm2 : (w % (T.length : Int)).toNat < T.length := by omega
    generalize hidx : (w % (T.length : Int)).toNat = m at hcast hm2
    have hTm : T[m]? = some T[m] := List.getElem?_eq_getElem hm2
    obtain ⟨i2, o2, u2, cap3, hv2, hi2, _, hl2, hu2, hmem⟩ := hm.line hTm
    injection hv2 with hv2a hv2b hv2c
    subst hv2a; subst hv2c
    have f1 := idx_slice (P := Try.prog) (t := 33) (cap := cap2) (i := i2) (o := o2) Try.underlying33 sz27 hm2
    have f2 : loadV Try.prog s 23 (.ptr (some (i2, o2 + m * 2 + 1))) = some u2 := load_one ag23 hl2
    obtain ⟨s1, g1, g2, g3, g4⟩ := hx.box.store1 (d1 := u2) hu2.isCell.1 hu2.isCell.2
    have hne : ∀ x, slot u2 = some x → x ≠ j := fun x hx' e => hju u2 hmem (by rw [hx', e])
    have hl : lineOf T true w L = (true, T[m].2) := by
      unfold lineOf
      rw [if_pos hag, hidx]
      simp [List.getD_eq_getElem?_getD, hTm]
    have hx1 : XBox lo s1 j O true u2 T[m].2 := ⟨g2, by rw [g3]; exact hu2.keep fun x hx' => g4 x (hne x hx'), fun x hx' => by rw [g3]; exact hm.slots u2 hmem x hx'⟩
    have hm1 : MadeT lo s1 (.slice (some (i2, o2)) T.length cap2) us T O := by
      refine ⟨hm.dest.frame (by omega) fun x hx' => g4 x (fun e => hjs (by rw [hx', e])), (hm.rows.mono (by omega)).keep fun y hy x hx' => g4 x (fun e => hju y hy (by rw [hx', e])), fun y hy x hx' => by rw [g3]; exact hm.slots y hy x hx', hm.own⟩
    have hold1 : Old lo s0 s1 := hold.trans ⟨by omega, fun x hx' => g4 x (by omega)⟩
    simp only [c23o7, fa27_0, ld, beq_self_eq_true, len_slice Try.underlying33, hgt, e1, fa79_1, lw s hold, hrem, gtr_u8, hw3, decide_true, c23o8, conv_u8 ⟨hw1, hw2⟩, hr2, hcast, f1, fa27_1, f2, Nat.zero_add, g1, withV, on2, wpC, wpI, wpS, wpD, wpV, wanted_none, wanted_some, vals, cev_const, cev_var, cev_loc, padV, okV_some, againP, true_and, and_true, upd_zero, upd_succ, nth_zero, nth_succ, wpG_true, wpG_false, condK_true, condK_false, seqK_normal, seqK_ret, seqK_exit, inBlock_normal, inBlock_ret, inBlock_exit, ends_ret, ends_normal, unmark_nil, results_nil, results_cons, one_one, one_zero, one_two, isB_undef, isB_tt, isB_ff, Bool.not_true, Bool.not_false, Option.bind_some, pick3, pickA, extractA, List.getElem?_cons_zero, List.getElem?_cons_succ, bin_lss, bin_gtr, bin_leq, bin_geq, bin_eql, bin_neq, un_not]
    exact fin s1 u2 T[m].2 _ _ hx1 hm1 hold1 (by omega) hl
  · -- of its own
    have hl : lineOf T d w L = (d, rowV L) := by unfold lineOf; rw [if_neg hag]
    have go := fun (y6 y7 : AV) => fin s u (rowV L) y6 y7 hx hm hold hlo hl
    cases d with
    | false =>
      simp only [c23o7, fa27_0, ld, Bool.false_beq, Bool.not_true, wpC, wpI, wpS, wpD, wpV, wanted_none, wanted_some, vals, cev_const, cev_var, cev_loc, padV, okV_some, againP, true_and, and_true, upd_zero, upd_succ, nth_zero, nth_succ, wpG_true, wpG_false, condK_true, condK_false, seqK_normal, seqK_ret, seqK_exit, inBlock_normal, inBlock_ret, inBlock_exit, ends_ret, ends_normal, unmark_nil, results_nil, results_cons, one_one, one_zero, one_two, isB_undef, isB_tt, isB_ff, Bool.not_true, Bool.not_false, Option.bind_some, pick3, pickA, extractA, List.getElem?_cons_zero, List.getElem?_cons_succ, bin_lss, bin_gtr, bin_leq, bin_geq, bin_eql, bin_neq, un_not]
      exact go _ _
    | true =>
      by_cases hTl : 0 < T.length
      · have hgt : decide ((0 : Int) < (T.length : Int)) = true := decide_eq_true (by omega)
        have hw3 : ¬ (0 : Int) < w % 3 := fun h => hag (by simp [again20, hTl, h])
        simp only [c23o7, fa27_0, ld, beq_self_eq_true, len_slice Try.underlying33, hgt, e1, fa79_1, lw s hold, hrem, gtr_u8, hw3, decide_false, wpC, wpI, wpS, wpD, wpV, wanted_none, wanted_some, vals, cev_const, cev_var, cev_loc, padV, okV_some, againP, true_and, and_true, upd_zero, upd_succ, nth_zero, nth_succ, wpG_true, wpG_false, condK_true, condK_false, seqK_normal, seqK_ret, seqK_exit, inBlock_normal, inBlock_ret, inBlock_exit, ends_ret, ends_normal, unmark_nil, results_nil, results_cons, one_one, one_zero, one_two, isB_undef, isB_tt, isB_ff, Bool.not_true, Bool.not_false, Option.bind_some, pick3, pickA, extractA, List.getElem?_cons_zero, List.getElem?_cons_succ, bin_lss, bin_gtr, bin_leq, bin_geq, bin_eql, bin_neq, un_not]
        exact go _ _
      · have hgt : decide ((0 : Int) < (T.length : Int)) = false := decide_eq_false (by omega)
        simp only [c23o7, fa27_0, ld, beq_self_eq_true, len_slice Try.underlying33, hgt, Bool.false_beq, Bool.not_true, wpC, wpI, wpS, wpD, wpV, wanted_none, wanted_some, vals, cev_const, cev_var, cev_loc, padV, okV_some, againP, true_and, and_true, upd_zero, upd_succ, nth_zero, nth_succ, wpG_true, wpG_false, condK_true, condK_false, seqK_normal, seqK_ret, seqK_exit, inBlock_normal, inBlock_ret, inBlock_exit, ends_ret, ends_normal, unmark_nil, results_nil, results_cons, one_one, one_zero, one_two, isB_undef, isB_tt, isB_ff, Bool.not_true, Bool.not_false, Option.bind_some, pick3, pickA, extractA, List.getElem?_cons_zero, List.getElem?_cons_succ, bin_lss, bin_gtr, bin_leq, bin_geq, bin_eql, bin_neq, un_not]
        exact go _ _
end Go.Proofs.Ytilhhmkdcoajnaa.Am

/- What the law's function lines of layer 20 computes; conditions: none but the reading of its argument. -/
set_option linter.unusedVariables false
set_option linter.unusedSimpArgs false
namespace Go.Proofs.Ytilhhmkdcoajnaa.Am
open Go Go.Proofs

theorem bld30 {u : AV} (hu : u.cells = [u]) : sliceRowA Try.prog 30 1 (zipIdx [0] [u]) = some (mkRow 76 1 [u]) := bld_one Try.underlying30 sz76 zr76 rfl hu

set_option maxRecDepth 16000 in
theorem lines_loop {E : Env} (hE : Good E) {s0 : ASt} {b : Nat} (hb : b ≤ s0.next) {ss : List Step20} (hss : ∀ x ∈ ss, u8 x.2.1 ∧ I8s x.2.2 ∧ x.2.2.length < 9223372036854775808) (hlen : ss.length < 9223372036854775808) {a : Option (Nat × Nat)} {cap : Option Nat} (hst : StepsAt b s0 a ss) (v1 : AV) {Q : ARes → Prop} :
    ∀ (m k : Nat) (us : List AV) (T : Trace20) (O : List Nat) (v2 : AV) (s : ASt) (x4 x5 x6 x7 : AV), m = 20 - k → k ≤ ss.length → k ≤ 20 → T = linesV [] (ss.take k) → MadeT s0.next s v2 us T O → Old s0.next s0 s →
      (∀ s' v' us' O' y4 y5 y6 y7, MadeT s0.next s' v' us' (linesV [] (ss.take 20)) O' → Old s0.next s0 s' → Q ⟨.exit 0, [.slice a ss.length cap, v1, v', iv ((min ss.length 20 : Nat) : Int), y4, y5, y6, y7], [], s'⟩) →
      WC E none (.loop c23l11) Q [.slice a ss.length cap, v1, v2, iv (k : Int), x4, x5, x6, x7] [] s := by
  intro m
  induction m with
  | zero =>
    intro k us T O v2 s x4 x5 x6 x7 hm hk hk20 hT hmd hold hq
    have hke : k = 20 := by omega
    subst hke
    subst hT
    have hmin : min ss.length 20 = 20 := by omega
    rw [hmin] at hq
    refine WC.loop' ?_
    by_cases hlt : (20 : Int) < (ss.length : Int)
    · simp only [c23l11, c23o3, len_slice Try.underlying31, hlt, decide_true, show ((20 : Nat) : Int) = 20 from rfl, Int.lt_irrefl, decide_false, wpC, wpI, wpS, wpD, wpV, wanted_none, wanted_some, vals, cev_const, cev_var, cev_loc, padV, okV_some, againP, true_and, and_true, upd_zero, upd_succ, nth_zero, nth_succ, wpG_true, wpG_false, condK_true, condK_false, seqK_normal, seqK_ret, seqK_exit, inBlock_normal, inBlock_ret, inBlock_exit, ends_ret, ends_normal, unmark_nil, results_nil, results_cons, one_one, one_zero, one_two, isB_undef, isB_tt, isB_ff, Bool.not_true, Bool.not_false, Option.bind_some, pick3, pickA, extractA, List.getElem?_cons_zero, List.getElem?_cons_succ, bin_lss, bin_gtr, bin_leq, bin_geq, bin_eql, bin_neq, un_not]
      exact hq s v2 us O _ _ _ _ hmd hold
    · simp only [c23l11, c23o3, len_slice Try.underlying31, hlt, show ((20 : Nat) : Int) = 20 from rfl, decide_false, wpC, wpI, wpS, wpD, wpV, wanted_none, wanted_some, vals, cev_const, cev_var, cev_loc, padV, okV_some, againP, true_and, and_true, upd_zero, upd_succ, nth_zero, nth_succ, wpG_true, wpG_false, condK_true, condK_false, seqK_normal, seqK_ret, seqK_exit, inBlock_normal, inBlock_ret, inBlock_exit, ends_ret, ends_normal, unmark_nil, results_nil, results_cons, one_one, one_zero, one_two, isB_undef, isB_tt, isB_ff, Bool.not_true, Bool.not_false, Option.bind_some, pick3, pickA, extractA, List.getElem?_cons_zero, List.getElem?_cons_succ, bin_lss, bin_gtr, bin_leq, bin_geq, bin_eql, bin_neq, un_not]
      exact hq s v2 us O _ _ _ _ hmd hold
  | succ m ih =>
    intro k us T O v2 s x4 x5 x6 x7 hm hk hk20 hT hmd hold hq
    have hk4 : k < 20 := by omega
    refine WC.loop' ?_
    generalize hW : WC E none (CCode.loop c23l11) Q = W
    by_cases hlt : k < ss.length
    · have hx : ss[k]? = some ss[k] := List.getElem?_eq_getElem hlt
      obtain ⟨hw, hL, hLl⟩ := hss ss[k] (List.getElem_mem _)
      generalize hsk : ss[k] = sk at hx hw hL hLl
      obtain ⟨d, w, L⟩ := sk
      have hTl : T.length = k := by rw [hT, linesV_len]; simp; omega
      obtain ⟨i, o, u8', hai, hi, hd1, hd2, hd3, hu8⟩ := hst k d w L hx
      subst hai
      have hns : s0.next ≤ s.next := hold.1
      have e1 := idx_slice (cap := cap) (i := i) (o := o) Try.underlying31 sz79 hlt
      have ldd : ∀ {s'}, Old s0.next s0 s' → loadV Try.prog s' 4 (.ptr (some (i, o + k * 3))) = some (.bool d) := fun h => load_one ag4 (by rw [load1_eq (h.2 i (by omega))]; exact hd1)
      have ldu : ∀ {s'}, Old s0.next s0 s' → loadV Try.prog s' 76 (.ptr (some (i, o + k * 3 + 2))) = some u8' := fun h => load_one ag76 (by rw [load1_eq (h.2 i (by omega))]; exact hd3)
      have hkk : decide ((k : Int) < (ss.length : Int)) = true := decide_eq_true (by omega)
      have hkk20 : decide ((k : Int) < 20) = true := decide_eq_true (by omega)
      have e3 := bin_add Try.prog 3 (k : Int) 1 ⟨by omega, by omega⟩
      have hcast : ((k : Int) + 1) = ((k + 1 : Nat) : Int) := by omega
      have hmv : ∀ (m : Nat) (i : Nat), Made.val i (.slice m) = .slice (some (i, 0)) m (some m) := fun _ _ => rfl
      -- x
      have hbox0 : Box2 (newObj s (mkRow 27 0 [.bool false, .slice none 0 (some 0)])) s.next (.bool false) (.slice none 0 (some 0)) := by
        obtain ⟨r, h1, h2, _, _, h5, h6⟩ := holds_mkRow 27 0 [.bool false, .slice none 0 (some 0)]
        exact ⟨r, by rw [heap_new, if_pos rfl, h1], h2, h5, h6⟩
      obtain ⟨s1, g1, g2, g3, g4⟩ := hbox0.store (d0 := .bool d) (d1 := .slice none 0 (some 0)) rfl rfl
      have n1 : s1.next = s.next + 1 := g3
      have o1 : ∀ x, x < s.next → s1.heap.get x = s.heap.get x := fun x hx => by rw [g4 x (by omega), heap_new, if_neg (by omega)]
      have hold1 : Old s0.next s0 s1 := hold.trans ⟨by omega, fun x hx => o1 x (by omega)⟩
      have hu8c := hu8.isCell
      -- its row
      generalize hs2 : newObj s1 (mkRow 76 1 [u8']) = s2
      have n2 : s2.next = s.next + 2 := by rw [← hs2]; show s1.next + 1 = _; omega
      have o2 : ∀ x, x < s1.next → s2.heap.get x = s1.heap.get x := fun x hx => by rw [← hs2, heap_new, if_neg (by omega)]
      have hold2 : Old s0.next s0 s2 := hold1.trans ⟨by omega, fun x hx => o2 x (by omega)⟩
      have hr8 : Rows8Of s2.next s2 (.slice (some (s1.next, 0)) 1 (some 1)) [L] := by
        refine ⟨_, _, rfl, fun q L' hL' => ?_⟩
        cases q with
        | zero =>
          simp at hL'; subst hL'
          obtain ⟨r, h1, h2, _⟩ := holds_mkRow 76 1 [u8']
          refine ⟨s1.next, 0, u8', rfl, by omega, load1_row (by rw [← hs2, heap_new, if_pos rfl, h1]) (by rw [h2.1]; simp) (h2.2 0 u8' rfl), (hu8.old hold2 hb).mono (by omega)⟩
        | succ q => simp at hL'
      have hfa : allocA Try.prog 27 = some (mkRow 27 0 [.bool false, .slice none 0 (some 0)], .ptr) := alloc27
      have hptr : ∀ i, Made.val i .ptr = .ptr (some (i, 0)) := fun _ => rfl
      simp only [c23l11, c23o3, c23o4, c23o5, len_slice Try.underlying31, hkk, hkk20, e1, fa79_0, ldd hold, bld_drop, hfa, hptr, on2, g1, withV, fa79_2, ldu hold1, bld30 hu8c.2, hmv, hs2, wpC, wpI, wpS, wpD, wpV, wanted_none, wanted_some, vals, cev_const, cev_var, cev_loc, padV, okV_some, againP, true_and, and_true, upd_zero, upd_succ, nth_zero, nth_succ, wpG_true, wpG_false, condK_true, condK_false, seqK_normal, seqK_ret, seqK_exit, inBlock_normal, inBlock_ret, inBlock_exit, ends_ret, ends_normal, unmark_nil, results_nil, results_cons, one_one, one_zero, one_two, isB_undef, isB_tt, isB_ff, Bool.not_true, Bool.not_false, Option.bind_some, pick3, pickA, extractA, List.getElem?_cons_zero, List.getElem?_cons_succ, bin_lss, bin_gtr, bin_leq, bin_geq, bin_eql, bin_neq, un_not]
      refine (clauses_ok hE (Nat.le_refl _) (ls := [L]) (fun x hx => by have : x = L := by simpa using hx
                                                                        subst this; exact ⟨hL, hLl⟩) (by simp) hr8).mono ?_
      rintro v5 s3 ⟨us5, O5, hm5, hold3⟩
      have hcl : clausesV [L] = [rowV L] := rfl
      rw [hcl] at hm5
      obtain ⟨u5, hu5a, hu5b⟩ := hm5.rows.2 0 (rowV L) rfl
      have hu5m : u5 ∈ us5 := List.mem_of_getElem? hu5a
      obtain ⟨a5, cap5, hv5, hc5⟩ := hm5.dest.cells
      obtain ⟨i5, o5, ha5, hi5, hl5⟩ := hc5 0 u5 hu5a
      have husl : us5.length = 1 := hm5.rows.1
      rw [husl, ha5] at hv5
      subst hv5
      have f1 : indexAddrA Try.prog 22 (.slice (some (i5, o5)) 1 cap5) (iv 0) = some (.ptr (some (i5, o5 + 0 * 1))) := idx_slice (k := 0) Try.underlying22 sz23 (by decide)
      have f2 : loadV Try.prog s3 23 (.ptr (some (i5, o5 + 0 * 1))) = some u5 := load_one ag23 (by simpa using hl5)
      have hb3 : Box2 s3 s.next (.bool d) (.slice none 0 (some 0)) := g2.keep (by rw [hold3.2 s.next (by omega), o2 s.next (by omega)])
      obtain ⟨s4, k1, k2, k3, k4⟩ := hb3.store1 hu5b.isCell.1 hu5b.isCell.2
      have o34 : ∀ x, x < s.next → s4.heap.get x = s.heap.get x := fun x hx => by rw [k4 x (by omega), hold3.2 x (by omega), o2 x (by omega), o1 x hx]
      have hold3' := hold3.1
      have hmd4 : MadeT s0.next s4 v2 us T O := hmd.frame (by omega) o34
      have hold4 : Old s0.next s0 s4 := hold.trans ⟨by omega, fun x hx => o34 x (by omega)⟩
      have hsl5 := fun x (hx : slot u5 = some x) => hm5.slots u5 hu5m x hx
      have hOlt : ∀ x ∈ O, x < s.next := hmd.dest.lt
      have hxb : XBox s0.next s4 s.next O d u5 (rowV L) := ⟨k2, by rw [k3]; exact hu5b.keep fun x hx => k4 x (by have := (hsl5 x hx).1; omega), fun x hx => by
        obtain ⟨p1, p2, p3⟩ := hsl5 x hx
        exact ⟨by omega, by omega, fun h => by have := hOlt x h; omega⟩⟩
      simp only [c23o6, f1, f2, fa27_1, Nat.zero_add, on2, k1, withV, wpC, wpI, wpS, wpD, wpV, wanted_none, wanted_some, vals, cev_const, cev_var, cev_loc, padV, okV_some, againP, true_and, and_true, upd_zero, upd_succ, nth_zero, nth_succ, wpG_true, wpG_false, condK_true, condK_false, seqK_normal, seqK_ret, seqK_exit, inBlock_normal, inBlock_ret, inBlock_exit, ends_ret, ends_normal, unmark_nil, results_nil, results_cons, one_one, one_zero, one_two, isB_undef, isB_tt, isB_ff, Bool.not_true, Bool.not_false, Option.bind_some, pick3, pickA, extractA, List.getElem?_cons_zero, List.getElem?_cons_succ, bin_lss, bin_gtr, bin_leq, bin_geq, bin_eql, bin_neq, un_not]
      have hrest := line_rest (E := E) (lo := s0.next) (s0 := s0) (b := b) (fun x hx => (hss x hx).1) (cap := cap) hlen hb hst hx (by omega) hmd4 hold4 (by omega) hxb ⟨by omega, by omega⟩ (fun h => by have := hOlt _ h; omega)
        (fun h => by have := hmd.dest.slot_lt _ h; omega) (fun y hy h => by have := (hmd.slots y hy _ h).2.1; omega) (fun h => by have := (hsl5 _ h).1; omega) v1 (.slice (some (i5, o5)) 1 cap5) (.bool true) x7 (Q := InBlock 1 (seqK (wpC E none (.ops c23o10) (seqK W Q)) (seqK W Q)))
        (fun v' s' us' O' y6 y7 h1 h2 => by
          simp only [c23o10, e3, hcast, wpC, wpI, wpS, wpD, wpV, wanted_none, wanted_some, vals, cev_const, cev_var, cev_loc, padV, okV_some, againP, true_and, and_true, upd_zero, upd_succ, nth_zero, nth_succ, wpG_true, wpG_false, condK_true, condK_false, seqK_normal, seqK_ret, seqK_exit, inBlock_normal, inBlock_ret, inBlock_exit, ends_ret, ends_normal, unmark_nil, results_nil, results_cons, one_one, one_zero, one_two, isB_undef, isB_tt, isB_ff, Bool.not_true, Bool.not_false, Option.bind_some, pick3, pickA, extractA, List.getElem?_cons_zero, List.getElem?_cons_succ, bin_lss, bin_gtr, bin_leq, bin_geq, bin_eql, bin_neq, un_not]
          rw [← hW]
          refine ih (k + 1) us' _ O' v' s' _ _ _ _ (by omega) hlt (by omega) ?_ h1 h2 hq
          rw [List.take_succ_eq_append_getElem hlt, hsk, hT]
          have : ∀ (l : List Step20) (out : Trace20), linesV out (l ++ [(d, w, L)]) = linesV out l ++ [lineOf (linesV out l) d w L] := by
            intro l
            induction l with
            | nil => intro out; rfl
            | cons x l ih => obtain ⟨d', w', L'⟩ := x; intro out; simp only [List.cons_append, linesV]; exact ih _
          rw [this])
      simp only [wpC, wpI, wpS, wpD, wpV, wanted_none, wanted_some, vals, cev_const, cev_var, cev_loc, padV, okV_some, againP, true_and, and_true, upd_zero, upd_succ, nth_zero, nth_succ, wpG_true, wpG_false, condK_true, condK_false, seqK_normal, seqK_ret, seqK_exit, inBlock_normal, inBlock_ret, inBlock_exit, ends_ret, ends_normal, unmark_nil, results_nil, results_cons, one_one, one_zero, one_two, isB_undef, isB_tt, isB_ff, Bool.not_true, Bool.not_false, Option.bind_some, pick3, pickA, extractA, List.getElem?_cons_zero, List.getElem?_cons_succ, bin_lss, bin_gtr, bin_leq, bin_geq, bin_eql, bin_neq, un_not] at hrest
      exact hrest
    · have hkl : k = ss.length := by omega
      subst hT
      have hte : ss.take k = ss.take 20 := by rw [List.take_of_length_le (by omega), List.take_of_length_le (by omega)]
      rw [hte] at hmd
      have hmin : min ss.length 20 = k := by omega
      rw [hmin] at hq
      have hkk : decide ((k : Int) < (ss.length : Int)) = false := decide_eq_false (by omega)
      simp only [c23l11, c23o3, len_slice Try.underlying31, hkk, wpC, wpI, wpS, wpD, wpV, wanted_none, wanted_some, vals, cev_const, cev_var, cev_loc, padV, okV_some, againP, true_and, and_true, upd_zero, upd_succ, nth_zero, nth_succ, wpG_true, wpG_false, condK_true, condK_false, seqK_normal, seqK_ret, seqK_exit, inBlock_normal, inBlock_ret, inBlock_exit, ends_ret, ends_normal, unmark_nil, results_nil, results_cons, one_one, one_zero, one_two, isB_undef, isB_tt, isB_ff, Bool.not_true, Bool.not_false, Option.bind_some, pick3, pickA, extractA, List.getElem?_cons_zero, List.getElem?_cons_succ, bin_lss, bin_gtr, bin_leq, bin_geq, bin_eql, bin_neq, un_not]
      exact hq s v2 us O _ _ _ _ hmd hold

/-- lines. -/
theorem lines_ok {E : Env} (hE : Good E) {s : ASt} {b : Nat} (hb : b ≤ s.next) {ss : List Step20} (hss : ∀ x ∈ ss, u8 x.2.1 ∧ I8s x.2.2 ∧ x.2.2.length < 9223372036854775808) (hlen : ss.length < 9223372036854775808) {v : AV} (hv : StepsOf b s v ss) :
    WF E 23 [v] (fun r s' => ∃ us O, MadeT s.next s' r us (linesV [] (ss.take 20)) O ∧ Old s.next s s') s := by
  obtain ⟨a, cap, rfl, hst⟩ := hv
  refine hE.go comp23 (by decide) rfl ?_
  simp only [c23, c23o0, c23o1, c23o2, wpC, wpI, wpS, wpD, wpV, wanted_none, wanted_some, vals, cev_const, cev_var, cev_loc, padV, okV_some, againP, true_and, and_true, upd_zero, upd_succ, nth_zero, nth_succ, wpG_true, wpG_false, condK_true, condK_false, seqK_normal, seqK_ret, seqK_exit, inBlock_normal, inBlock_ret, inBlock_exit, ends_ret, ends_normal, unmark_nil, results_nil, results_cons, one_one, one_zero, one_two, isB_undef, isB_tt, isB_ff, Bool.not_true, Bool.not_false, Option.bind_some, pick3, pickA, extractA, List.getElem?_cons_zero, List.getElem?_cons_succ, bin_lss, bin_gtr, bin_leq, bin_geq, bin_eql, bin_neq, un_not]
  refine lines_loop hE hb hss hlen hst _ 20 0 [] [] [] _ s _ _ _ _ rfl (Nat.zero_le _) (by omega) rfl ⟨Dest.nil s 2, LineCells.nil _ _, (fun u hu => by cases hu), (fun j hj => by cases hj)⟩ (Old.refl _ _) ?_
  intro s' v' us' O' y4 y5 y6 y7 h1 h2
  simp only [c23o12, if_true, wpC, wpI, wpS, wpD, wpV, wanted_none, wanted_some, vals, cev_const, cev_var, cev_loc, padV, okV_some, againP, true_and, and_true, upd_zero, upd_succ, nth_zero, nth_succ, wpG_true, wpG_false, condK_true, condK_false, seqK_normal, seqK_ret, seqK_exit, inBlock_normal, inBlock_ret, inBlock_exit, ends_ret, ends_normal, unmark_nil, results_nil, results_cons, one_one, one_zero, one_two, isB_undef, isB_tt, isB_ff, Bool.not_true, Bool.not_false, Option.bind_some, pick3, pickA, extractA, List.getElem?_cons_zero, List.getElem?_cons_succ, bin_lss, bin_gtr, bin_leq, bin_geq, bin_eql, bin_neq, un_not]
  exact ⟨us', O', h1, h2⟩
end Go.Proofs.Ytilhhmkdcoajnaa.Am

/- The compiled code of more functions that layer 20 reaches, printed by a program of ours (dev/Print.lean) and checked by the kernel; conditions: none. -/
set_option linter.unusedVariables false
set_option linter.unusedSimpArgs false
namespace Go.Proofs.Ytilhhmkdcoajnaa.Am
open Go Go.Proofs

/-! math/bits.Len -/
/- kept: [0, 2], params 1 -/
noncomputable def c109o0 : List CItem := [
  ⟨none, .p1 some, [(.const (.int .i64 (0)))], (.set 1), []⟩]
noncomputable def c109o1 : List CItem := [
  ⟨none, .r1 (fun s x => convA Try.prog s 133 145 x), [(.var 0)], .push, []⟩,
  ⟨none, .call 126, [(.loc 0)], .push, []⟩,
  ⟨none, .p1 some, [(.loc 0)], (.set 1), []⟩]
noncomputable def c109o2 : List CItem := [
  ⟨none, .call 127, [(.var 0)], .push, []⟩,
  ⟨none, .p1 some, [(.loc 0)], (.set 1), []⟩]
noncomputable def c109 : CFunc := ⟨1, 2, (.seq (.ops c109o0) (.seq (.cond (.const (.bool false))
  (.seq (.ops c109o1) .ret)
  .skip) (.seq (.ops c109o2) .ret))), [((.var 1), none)]⟩

/-! cmp.Less[int] -/
/- kept: [0, 1, 4], params 2 -/
noncomputable def c123o0 : List CItem := [
  ⟨none, .p1 some, [(.const (.bool false))], (.set 2), []⟩]
noncomputable def c123o1 : List CItem := [
  ⟨none, .call 134, [(.var 0)], .push, []⟩,
  ⟨(some ((.loc 0), true)), .p1 some, [(.var 1)], .push, []⟩,
  ⟨(some ((.loc 1), true)), .call 134, [(.loc 0)], .push, []⟩,
  ⟨(some ((.loc 2), true)), .p1 (unA Try.prog Go.UnOp.not), [(.loc 0)], .push, []⟩,
  ⟨none, .p pick3, [(.loc 3), (.loc 0), (.const (.bool false))], .push, []⟩,
  ⟨(some ((.loc 0), false)), .p1 some, [(.var 0)], .push, []⟩,
  ⟨(some ((.loc 1), false)), .p1 some, [(.var 1)], .push, []⟩,
  ⟨(some ((.loc 2), false)), .p2 (binA Try.prog .lss 3), [(.loc 1), (.loc 0)], .push, []⟩,
  ⟨none, .p pick3, [(.loc 3), (.const (.bool true)), (.loc 0)], .push, []⟩,
  ⟨none, .p1 some, [(.loc 0)], (.set 2), []⟩]
noncomputable def c123 : CFunc := ⟨2, 3, (.seq (.ops c123o0) (.seq (.ops c123o1) .ret)), [((.var 2), none)]⟩

/-! math/bits.Len64 -/
/- kept: [0, 2, 4, 8, 14], params 1 -/
noncomputable def c127o0 : List CItem := [
  ⟨none, .p1 some, [(.const (.int .i64 (0)))], (.set 1), []⟩]
noncomputable def c127o1 : List CItem := [
  ⟨none, .p2 (binA Try.prog .geq 147), [(.var 0), (.const (.int .u64 (4294967296)))], (.set 2), []⟩]
noncomputable def c127o2 : List CItem := [
  ⟨none, .p1 some, [(.var 0)], .push, []⟩,
  ⟨none, .p2 (binA Try.prog .shr 147), [(.loc 0), (.const (.int .u64 (32)))], .push, []⟩,
  ⟨none, .p1 some, [(.loc 0)], (.set 0), []⟩]
noncomputable def c127o3 : List CItem := [
  ⟨none, .p1 some, [(.const (.int .i64 (32)))], (.set 1), []⟩]
noncomputable def c127o4 : List CItem := [
  ⟨none, .p2 (binA Try.prog .geq 147), [(.var 0), (.const (.int .u64 (65536)))], (.set 3), []⟩]
noncomputable def c127o5 : List CItem := [
  ⟨none, .p1 some, [(.var 0)], .push, []⟩,
  ⟨none, .p2 (binA Try.prog .shr 147), [(.loc 0), (.const (.int .u64 (16)))], .push, []⟩,
  ⟨none, .p1 some, [(.loc 0)], (.set 0), []⟩]
noncomputable def c127o6 : List CItem := [
  ⟨none, .p1 some, [(.var 1)], .push, []⟩,
  ⟨none, .p2 (binA Try.prog .add 3), [(.loc 0), (.const (.int .i64 (16)))], .push, []⟩,
  ⟨none, .p1 some, [(.loc 0)], (.set 1), []⟩]
noncomputable def c127o7 : List CItem := [
  ⟨none, .p2 (binA Try.prog .geq 147), [(.var 0), (.const (.int .u64 (256)))], (.set 4), []⟩]
noncomputable def c127o8 : List CItem := [
  ⟨none, .p1 some, [(.var 0)], .push, []⟩,
  ⟨none, .p2 (binA Try.prog .shr 147), [(.loc 0), (.const (.int .u64 (8)))], .push, []⟩,
  ⟨none, .p1 some, [(.loc 0)], (.set 0), []⟩]
noncomputable def c127o9 : List CItem := [
  ⟨none, .p1 some, [(.var 1)], .push, []⟩,
  ⟨none, .p2 (binA Try.prog .add 3), [(.loc 0), (.const (.int .i64 (8)))], .push, []⟩,
  ⟨none, .p1 some, [(.loc 0)], (.set 1), []⟩]
noncomputable def c127o10 : List CItem := [
  ⟨none, .p1 some, [(.var 1)], .push, []⟩,
  ⟨none, .r1 (fun s x => convA Try.prog s 147 5 x), [(.var 0)], .push, []⟩,
  ⟨none, .p2 (indexA Try.prog 9), [(.const (.str [0, 1, 2, 2, 3, 3, 3, 3, 4, 4, 4, 4, 4, 4, 4, 4, 5, 5, 5, 5, 5, 5, 5, 5, 5, 5, 5, 5, 5, 5, 5, 5, 6, 6, 6, 6, 6, 6, 6, 6, 6, 6, 6, 6, 6, 6, 6, 6, 6, 6, 6, 6, 6, 6, 6, 6, 6, 6, 6, 6, 6, 6, 6, 6, 7, 7, 7, 7, 7, 7, 7, 7, 7, 7, 7, 7, 7, 7, 7, 7, 7, 7, 7, 7, 7, 7, 7, 7, 7, 7, 7, 7, 7, 7, 7, 7, 7, 7, 7, 7, 7, 7, 7, 7, 7, 7, 7, 7, 7, 7, 7, 7, 7, 7, 7, 7, 7, 7, 7, 7, 7, 7, 7, 7, 7, 7, 7, 7, 8, 8, 8, 8, 8, 8, 8, 8, 8, 8, 8, 8, 8, 8, 8, 8, 8, 8, 8, 8, 8, 8, 8, 8, 8, 8, 8, 8, 8, 8, 8, 8, 8, 8, 8, 8, 8, 8, 8, 8, 8, 8, 8, 8, 8, 8, 8, 8, 8, 8, 8, 8, 8, 8, 8, 8, 8, 8, 8, 8, 8, 8, 8, 8, 8, 8, 8, 8, 8, 8, 8, 8, 8, 8, 8, 8, 8, 8, 8, 8, 8, 8, 8, 8, 8, 8, 8, 8, 8, 8, 8, 8, 8, 8, 8, 8, 8, 8, 8, 8, 8, 8, 8, 8, 8, 8, 8, 8, 8, 8, 8, 8, 8, 8, 8, 8, 8, 8, 8, 8, 8, 8, 8, 8, 8, 8, 8, 8])), (.loc 0)], .push, []⟩,
  ⟨none, .r1 (fun s x => convA Try.prog s 5 3 x), [(.loc 0)], .push, []⟩,
  ⟨none, .p2 (binA Try.prog .add 3), [(.loc 3), (.loc 0)], .push, []⟩,
  ⟨none, .p1 some, [(.loc 0)], (.set 1), []⟩]
noncomputable def c127 : CFunc := ⟨1, 5, (.seq (.ops c127o0) (.seq (.seq (.ops c127o1) (.cond (.var 2)
  (.seq (.ops c127o2) (.ops c127o3))
  .skip)) (.seq (.seq (.ops c127o4) (.cond (.var 3)
  (.seq (.ops c127o5) (.ops c127o6))
  .skip)) (.seq (.seq (.ops c127o7) (.cond (.var 4)
  (.seq (.ops c127o8) (.ops c127o9))
  .skip)) (.seq (.ops c127o10) .ret))))), [((.var 1), none)]⟩

/-! cmp.isNaN[int] -/
/- kept: [0, 2], params 1 -/
noncomputable def c134o0 : List CItem := [
  ⟨none, .p1 some, [(.const (.bool false))], (.set 1), []⟩]
noncomputable def c134o1 : List CItem := [
  ⟨none, .p2 (binA Try.prog .neq 3), [(.var 0), (.var 0)], .push, []⟩,
  ⟨none, .p1 some, [(.loc 0)], (.set 1), []⟩]
noncomputable def c134 : CFunc := ⟨1, 2, (.seq (.ops c134o0) (.seq (.ops c134o1) .ret)), [((.var 1), none)]⟩


theorem comp109 : compFunc Try.prog 109 = some c109 := by kernel_rfl
theorem comp123 : compFunc Try.prog 123 = some c123 := by kernel_rfl
theorem comp127 : compFunc Try.prog 127 = some c127 := by kernel_rfl
theorem comp134 : compFunc Try.prog 134 = some c134 := by kernel_rfl
end Go.Proofs.Ytilhhmkdcoajnaa.Am

/- Rows that are written in place: loads, stores, a tail that is cleared, slices of them; conditions: none. -/
set_option linter.unusedVariables false
set_option linter.unusedSimpArgs false
namespace Go.Proofs.Ytilhhmkdcoajnaa.Am
open Go Go.Proofs

/-- A row of one's own, with these cells. -/
def RowAt (s : ASt) (i : Nat) (cs : List AV) : Prop := ∃ r, s.heap.get i = some (.row r) ∧ Holds r cs ∧ r.mode = .own ∧ r.par = none ∧ r.sz = 1
theorem RowAt.keep {s s' : ASt} {i : Nat} {cs : List AV} (h : RowAt s i cs) (k : s'.heap.get i = s.heap.get i) : RowAt s' i cs := by
  obtain ⟨r, h1, h2⟩ := h
  exact ⟨r, k.trans h1, h2⟩
theorem lt_of_get {α : Type} {l : List α} {k : Nat} {u : α} (h : l[k]? = some u) : k < l.length := by
  rcases Nat.lt_or_ge k l.length with h' | h'
  · exact h'
  · rw [List.getElem?_eq_none h'] at h; cases h
theorem RowAt.load1 {s : ASt} {i k : Nat} {cs : List AV} {u : AV} (h : RowAt s i cs) (hk : cs[k]? = some u) : load1 s i k = some u := by
  obtain ⟨r, h1, h2, _⟩ := h
  exact load1_row h1 (by rw [h2.1]; exact lt_of_get hk) (h2.2 k u hk)
theorem RowAt.load {s : ASt} {i k : Nat} {cs : List AV} {u : AV} (h : RowAt s i cs) (hk : cs[k]? = some u) : loadV Try.prog s 3 (.ptr (some (i, 0 + k * 1))) = some u := by
  rw [Nat.zero_add, Nat.mul_one]; exact load_one ag3 (h.load1 hk)
theorem RowAt.fill {s : ASt} {i o : Nat} {cs vs : List AV} (h : RowAt s i cs) (hne : vs ≠ []) (ho : o + vs.length ≤ cs.length) (hc : allCells vs = true) :
    ∃ s', storeN s i o vs = some s' ∧ RowAt s' i (cs.take o ++ vs ++ cs.drop (o + vs.length)) ∧ s'.next = s.next ∧ ∀ x, x ≠ i → s'.heap.get x = s.heap.get x := by
  obtain ⟨r, h1, h2, h3, h4, h5⟩ := h
  refine ⟨_, storeN_row h1 h3 h4 hne (by rw [h2.1]; exact ho) hc, ⟨{ r with c := r.c.fill o vs, par := none }, by rw [heap_set, if_pos rfl], ⟨?_, ?_⟩, h3, rfl, h5⟩, rfl, fun x hx => by rw [heap_set, if_neg hx]⟩
  · show r.n = _
    rw [h2.1]; simp; omega
  · intro k u hk
    show (Tree.fill r.c o vs).get k = some u
    rw [Tree.get_fill]
    by_cases hin : o ≤ k ∧ k < o + vs.length
    · rw [if_pos hin]
      rw [List.append_assoc, List.getElem?_append_right (by simp; omega), List.getElem?_append_left (by simp; omega)] at hk
      have : (cs.take o).length = o := by simp; omega
      rw [this] at hk
      exact hk
    · rw [if_neg hin]
      refine h2.2 k u ?_
      rcases Nat.lt_or_ge k o with hlt | hge
      · rw [List.append_assoc, List.getElem?_append_left (by simp; omega), List.getElem?_take, if_pos hlt] at hk
        exact hk
      · rw [List.getElem?_append_right (by simp; omega), List.getElem?_drop] at hk
        have e : o + vs.length + (k - (cs.take o ++ vs).length) = k := by simp; omega
        rw [e] at hk
        exact hk
theorem RowAt.store {s : ASt} {i k : Nat} {A B : List AV} {w u : AV} (h : RowAt s i (A ++ w :: B)) (hk : A.length = k) (h1 : u.isCell = true) (h2 : u.cells = [u]) :
    ∃ s', storeV Try.prog s 3 (.ptr (some (i, 0 + k * 1))) u = some s' ∧ RowAt s' i (A ++ u :: B) ∧ s'.next = s.next ∧ ∀ x, x ≠ i → s'.heap.get x = s.heap.get x := by
  subst hk
  obtain ⟨s', g1, g2, g3, g4⟩ := h.fill (o := A.length) (vs := [u]) (by simp) (by simp) (by simp [allCells, h1])
  refine ⟨s', ?_, ?_, g3, g4⟩
  · simp [storeV, sz3, h2, guardB, g1]
  · have e : (A ++ w :: B).take A.length ++ [u] ++ (A ++ w :: B).drop (A.length + [u].length) = A ++ u :: B := by
      rw [List.take_left', List.drop_append]
      · simp
      · rfl
    rw [e] at g2
    exact g2
theorem RowAt.old {b : Nat} {s s' : ASt} {i : Nat} (h : b ≤ i) (hn : s'.next = s.next) (k : ∀ x, x ≠ i → s'.heap.get x = s.heap.get x) : Old b s s' := ⟨by omega, fun x hx => k x (by omega)⟩
theorem iv_cell (x : Int) : (iv x).isCell = true ∧ (iv x).cells = [iv x] := ⟨rfl, rfl⟩
theorem ivs_append (A B : List Int) : ivs (A ++ B) = ivs A ++ ivs B := by simp
theorem ivs_cons (x : Int) (B : List Int) : ivs (x :: B) = iv x :: ivs B := rfl
theorem ivs_len (A : List Int) : (ivs A).length = A.length := by simp
theorem get_mid {A B : List AV} {w : AV} {k : Nat} (hk : A.length = k) : (A ++ w :: B)[k]? = some w := by
  subst hk; simp
end Go.Proofs.Ytilhhmkdcoajnaa.Am

/- What the library's Sort computes of a short row of whole numbers; conditions: twelve at most. -/
set_option linter.unusedVariables false
set_option linter.unusedSimpArgs false
namespace Go.Proofs.Ytilhhmkdcoajnaa.Am
open Go Go.Proofs

theorem nan_ok {E : Env} (hE : Good E) {s : ASt} (x : Int) : WF E 134 [iv x] (fun r s' => r = .bool false ∧ s = s') s := by
  refine hE.go comp134 (by decide) rfl ?_
  simp only [c134, c134o0, c134o1, ne_eq, not_true, decide_false, wpC, wpI, wpS, wpD, wpV, wanted_none, wanted_some, vals, cev_const, cev_var, cev_loc, padV, okV_some, againP, true_and, and_true, upd_zero, upd_succ, nth_zero, nth_succ, wpG_true, wpG_false, condK_true, condK_false, seqK_normal, seqK_ret, seqK_exit, inBlock_normal, inBlock_ret, inBlock_exit, ends_ret, ends_normal, unmark_nil, results_nil, results_cons, one_one, one_zero, one_two, isB_undef, isB_tt, isB_ff, Bool.not_true, Bool.not_false, Option.bind_some, pick3, pickA, extractA, List.getElem?_cons_zero, List.getElem?_cons_succ, bin_lss, bin_gtr, bin_leq, bin_geq, bin_eql, bin_neq, un_not]
theorem less_ok {E : Env} (hE : Good E) {s : ASt} (x y : Int) : WF E 123 [iv x, iv y] (fun r s' => r = .bool (decide (x < y)) ∧ s = s') s := by
  refine hE.go comp123 (by decide) rfl ?_
  simp only [c123, c123o0, c123o1, wpC, wpI, wpS, wpD, wpV, wanted_none, wanted_some, vals, cev_const, cev_var, cev_loc, padV, okV_some, againP, true_and, and_true, upd_zero, upd_succ, nth_zero, nth_succ, wpG_true, wpG_false, condK_true, condK_false, seqK_normal, seqK_ret, seqK_exit, inBlock_normal, inBlock_ret, inBlock_exit, ends_ret, ends_normal, unmark_nil, results_nil, results_cons, one_one, one_zero, one_two, isB_undef, isB_tt, isB_ff, Bool.not_true, Bool.not_false, Option.bind_some, pick3, pickA, extractA, List.getElem?_cons_zero, List.getElem?_cons_succ, bin_lss, bin_gtr, bin_leq, bin_geq, bin_eql, bin_neq, un_not]
  refine (nan_ok hE x).mono ?_
  rintro _ _ ⟨rfl, rfl⟩
  simp only [wpC, wpI, wpS, wpD, wpV, wanted_none, wanted_some, vals, cev_const, cev_var, cev_loc, padV, okV_some, againP, true_and, and_true, upd_zero, upd_succ, nth_zero, nth_succ, wpG_true, wpG_false, condK_true, condK_false, seqK_normal, seqK_ret, seqK_exit, inBlock_normal, inBlock_ret, inBlock_exit, ends_ret, ends_normal, unmark_nil, results_nil, results_cons, one_one, one_zero, one_two, isB_undef, isB_tt, isB_ff, Bool.not_true, Bool.not_false, Option.bind_some, pick3, pickA, extractA, List.getElem?_cons_zero, List.getElem?_cons_succ, bin_lss, bin_gtr, bin_leq, bin_geq, bin_eql, bin_neq, un_not]
theorem geq_u64 (t : TypeId) (a b : Int) : binA Try.prog .geq t (.int .u64 a) (.int .u64 b) = some (.bool (decide (b ≤ a))) := by
  show some (AV.bool (!ltI a b)) = _
  rw [ltI_eq, ← decide_not]
  congr 3
  exact propext Int.not_lt
theorem in_u8 {n : Int} (h : u8 n) : inRange .u8 n = true := by
  obtain ⟨h1, h2⟩ := h
  cases n with
  | ofNat m =>
    have h3 : (m : Int) ≤ 255 := h2
    simp [inRange]; omega
  | negSucc m => omega
theorem in_u64 {n : Int} (h : u8 n) : inRange .u64 n = true := by
  obtain ⟨h1, h2⟩ := h
  cases n with
  | ofNat m =>
    have h3 : (m : Int) ≤ 255 := h2
    simp [inRange]; omega
  | negSucc m => omega
theorem tab_at {l : List Nat} {n m : Nat} (h : l[n]? = some m) : indexA Try.prog 9 (.str l) (.int .u8 (n : Int)) = some (.int .u8 (m : Int)) := by
  simp [indexA, idxOf, natOf_nat, Try.underlying9, h]
def tab64 : List Nat := [0, 1, 2, 2, 3, 3, 3, 3, 4, 4, 4, 4, 4, 4, 4, 4, 5, 5, 5, 5, 5, 5, 5, 5, 5, 5, 5, 5, 5, 5, 5, 5, 6, 6, 6, 6, 6, 6, 6, 6, 6, 6, 6, 6, 6, 6, 6, 6, 6, 6, 6, 6, 6, 6, 6, 6, 6, 6, 6, 6, 6, 6, 6, 6, 7, 7, 7, 7, 7, 7, 7, 7, 7, 7, 7, 7, 7, 7, 7, 7, 7, 7, 7, 7, 7, 7, 7, 7, 7, 7, 7, 7, 7, 7, 7, 7, 7, 7, 7, 7, 7, 7, 7, 7, 7, 7, 7, 7, 7, 7, 7, 7, 7, 7, 7, 7, 7, 7, 7, 7, 7, 7, 7, 7, 7, 7, 7, 7, 8, 8, 8, 8, 8, 8, 8, 8, 8, 8, 8, 8, 8, 8, 8, 8, 8, 8, 8, 8, 8, 8, 8, 8, 8, 8, 8, 8, 8, 8, 8, 8, 8, 8, 8, 8, 8, 8, 8, 8, 8, 8, 8, 8, 8, 8, 8, 8, 8, 8, 8, 8, 8, 8, 8, 8, 8, 8, 8, 8, 8, 8, 8, 8, 8, 8, 8, 8, 8, 8, 8, 8, 8, 8, 8, 8, 8, 8, 8, 8, 8, 8, 8, 8, 8, 8, 8, 8, 8, 8, 8, 8, 8, 8, 8, 8, 8, 8, 8, 8, 8, 8, 8, 8, 8, 8, 8, 8, 8, 8, 8, 8, 8, 8, 8, 8, 8, 8, 8, 8, 8, 8, 8, 8, 8, 8, 8, 8]
set_option maxRecDepth 20000 in
theorem len64_ok {E : Env} (hE : Good E) {s : ASt} (n : Nat) (hn : n ≤ 12) : WF E 127 [.int .u64 (n : Int)] (fun r s' => (∃ m : Int, r = iv m) ∧ s = s') s := by
  refine hE.go comp127 (by decide) rfl ?_
  have g1 : decide ((4294967296 : Int) ≤ (n : Int)) = false := decide_eq_false (by omega)
  have g2 : decide ((65536 : Int) ≤ (n : Int)) = false := decide_eq_false (by omega)
  have g3 : decide ((256 : Int) ≤ (n : Int)) = false := decide_eq_false (by omega)
  have g4 : convA Try.prog s 147 5 (.int .u64 (n : Int)) = some (.int .u8 (n : Int)) := by
    simp [convA, Try.underlying147, Try.underlying5, wrapA_of (in_u8 (n := n) ⟨by omega, by omega⟩)]
  have g5 : ∃ m : Nat, m ≤ 4 ∧ indexA Try.prog 9 (.str tab64) (.int .u8 (n : Int)) = some (.int .u8 (m : Int)) := by
    have : n = 0 ∨ n = 1 ∨ n = 2 ∨ n = 3 ∨ n = 4 ∨ n = 5 ∨ n = 6 ∨ n = 7 ∨ n = 8 ∨ n = 9 ∨ n = 10 ∨ n = 11 ∨ n = 12 := by omega
    rcases this with rfl | rfl | rfl | rfl | rfl | rfl | rfl | rfl | rfl | rfl | rfl | rfl | rfl <;> exact ⟨_, by decide, tab_at rfl⟩
  obtain ⟨m, hm, g5⟩ := g5
  have g6 : convA Try.prog s 5 3 (.int .u8 (m : Int)) = some (iv (m : Int)) := conv_u8 ⟨by omega, by omega⟩
  have g7 := bin_add Try.prog 3 0 (m : Int) ⟨by omega, by omega⟩
  unfold tab64 at g5
  simp only [c127, c127o0, c127o1, c127o4, c127o7, c127o10, geq_u64, g1, g2, g3, g4, g5, g6, g7, wpC, wpI, wpS, wpD, wpV, wanted_none, wanted_some, vals, cev_const, cev_var, cev_loc, padV, okV_some, againP, true_and, and_true, upd_zero, upd_succ, nth_zero, nth_succ, wpG_true, wpG_false, condK_true, condK_false, seqK_normal, seqK_ret, seqK_exit, inBlock_normal, inBlock_ret, inBlock_exit, ends_ret, ends_normal, unmark_nil, results_nil, results_cons, one_one, one_zero, one_two, isB_undef, isB_tt, isB_ff, Bool.not_true, Bool.not_false, Option.bind_some, pick3, pickA, extractA, List.getElem?_cons_zero, List.getElem?_cons_succ, bin_lss, bin_gtr, bin_leq, bin_geq, bin_eql, bin_neq, un_not]
  exact ⟨_, rfl⟩
theorem len_ok {E : Env} (hE : Good E) {s : ASt} (n : Nat) (hn : n ≤ 12) : WF E 109 [.int .u64 (n : Int)] (fun r s' => (∃ m : Int, r = iv m) ∧ s = s') s := by
  refine hE.go comp109 (by decide) rfl ?_
  simp only [c109, c109o0, c109o2, wpC, wpI, wpS, wpD, wpV, wanted_none, wanted_some, vals, cev_const, cev_var, cev_loc, padV, okV_some, againP, true_and, and_true, upd_zero, upd_succ, nth_zero, nth_succ, wpG_true, wpG_false, condK_true, condK_false, seqK_normal, seqK_ret, seqK_exit, inBlock_normal, inBlock_ret, inBlock_exit, ends_ret, ends_normal, unmark_nil, results_nil, results_cons, one_one, one_zero, one_two, isB_undef, isB_tt, isB_ff, Bool.not_true, Bool.not_false, Option.bind_some, pick3, pickA, extractA, List.getElem?_cons_zero, List.getElem?_cons_succ, bin_lss, bin_gtr, bin_leq, bin_geq, bin_eql, bin_neq, un_not]
  refine (len64_ok hE n hn).mono ?_
  rintro _ _ ⟨⟨m, rfl⟩, rfl⟩
  simp only [wpC, wpI, wpS, wpD, wpV, wanted_none, wanted_some, vals, cev_const, cev_var, cev_loc, padV, okV_some, againP, true_and, and_true, upd_zero, upd_succ, nth_zero, nth_succ, wpG_true, wpG_false, condK_true, condK_false, seqK_normal, seqK_ret, seqK_exit, inBlock_normal, inBlock_ret, inBlock_exit, ends_ret, ends_normal, unmark_nil, results_nil, results_cons, one_one, one_zero, one_two, isB_undef, isB_tt, isB_ff, Bool.not_true, Bool.not_false, Option.bind_some, pick3, pickA, extractA, List.getElem?_cons_zero, List.getElem?_cons_succ, bin_lss, bin_gtr, bin_leq, bin_geq, bin_eql, bin_neq, un_not]
  exact ⟨_, rfl⟩

/-! ### The insertion sort -/
/-- A number into a row that falls. -/
def down (x : Int) : List Int → List Int
  | [] => [x]
  | y :: q => if x < y then y :: down x q else x :: y :: q
def sortV (L : List Int) : List Int := (L.foldl (fun q x => down x q) []).reverse
theorem down_len (x : Int) : ∀ q, (down x q).length = q.length + 1
  | [] => rfl
  | y :: q => by
    unfold down
    split
    · simp [down_len x q]
    · simp

set_option maxRecDepth 8000 in
theorem sort_in {E : Env} (hE : Good E) {lo i n m : Nat} (hlo : lo ≤ i) (hn : n ≤ 1000) (x : Int) {Q : ARes → Prop} :
    ∀ (p T : List Int) (s : ASt) (x5 x6 : AV), p.length < n → n ≤ p.length + 1 + T.length → RowAt s i (ivs (p.reverse ++ x :: T)) →
      (∀ s' y4 y6, RowAt s' i (ivs ((down x p).reverse ++ T)) → s'.next = s.next → (∀ z, z ≠ i → s'.heap.get z = s.heap.get z) → Q ⟨.exit 2, [.slice (some (i, 0)) n none, iv 0, iv (n : Int), iv (m : Int), y4, x5, y6], [], s'⟩) →
      WC E none (.loop c117l6) Q [.slice (some (i, 0)) n none, iv 0, iv (n : Int), iv (m : Int), iv (p.length : Int), x5, x6] [] s := by
  intro p
  induction p with
  | nil =>
    intro T s x5 x6 h1 h2 hr hq
    refine WC.loop' ?_
    simp only [c117l6, c117o3, List.length_nil, show ((0 : Nat) : Int) = 0 from rfl, Int.lt_irrefl, decide_false, wpC, wpI, wpS, wpD, wpV, wanted_none, wanted_some, vals, cev_const, cev_var, cev_loc, padV, okV_some, againP, true_and, and_true, upd_zero, upd_succ, nth_zero, nth_succ, wpG_true, wpG_false, condK_true, condK_false, seqK_normal, seqK_ret, seqK_exit, inBlock_normal, inBlock_ret, inBlock_exit, ends_ret, ends_normal, unmark_nil, results_nil, results_cons, one_one, one_zero, one_two, isB_undef, isB_tt, isB_ff, Bool.not_true, Bool.not_false, Option.bind_some, pick3, pickA, extractA, List.getElem?_cons_zero, List.getElem?_cons_succ, bin_lss, bin_gtr, bin_leq, bin_geq, bin_eql, bin_neq, un_not]
    exact hq s _ _ hr rfl fun _ _ => rfl
  | cons y q ih =>
    intro T s x5 x6 h1 h2 hr hq
    have hj : (y :: q).length = q.length + 1 := rfl
    rw [hj] at h1 h2 ⊢
    have hcells : ivs ((y :: q).reverse ++ x :: T) = ivs q.reverse ++ iv y :: (iv x :: ivs T) := by simp
    have hcells2 : ivs ((y :: q).reverse ++ x :: T) = (ivs q.reverse ++ [iv y]) ++ iv x :: ivs T := by simp
    have hql : (ivs q.reverse).length = q.length := by simp
    have hql2 : (ivs q.reverse ++ [iv y]).length = q.length + 1 := by simp
    have hgt : decide ((0 : Int) < ((q.length + 1 : Nat) : Int)) = true := decide_eq_true (by omega)
    have a1 : indexAddrA Try.prog 23 (.slice (some (i, 0)) n none) (iv ((q.length + 1 : Nat) : Int)) = some (.ptr (some (i, 0 + (q.length + 1) * 1))) := idx_slice Try.underlying23 sz3 (by omega)
    have a0 : indexAddrA Try.prog 23 (.slice (some (i, 0)) n none) (iv ((q.length : Nat) : Int)) = some (.ptr (some (i, 0 + q.length * 1))) := idx_slice Try.underlying23 sz3 (by omega)
    have l1 : loadV Try.prog s 3 (.ptr (some (i, 0 + (q.length + 1) * 1))) = some (iv x) := hr.load (by rw [hcells2]; exact get_mid hql2)
    have l0 : loadV Try.prog s 3 (.ptr (some (i, 0 + q.length * 1))) = some (iv y) := hr.load (by rw [hcells]; exact get_mid hql)
    have hs := bin_sub Try.prog 3 ((q.length + 1 : Nat) : Int) 1 ⟨by omega, by omega⟩
    have hs1 : (((q.length + 1 : Nat) : Int) - 1) = ((q.length : Nat) : Int) := by omega
    rw [hs1] at hs
    refine WC.loop' ?_
    generalize hW : WC E none (CCode.loop c117l6) Q = W
    simp only [c117l6, c117o3, hgt, a1, l1, hs, a0, l0, wpC, wpI, wpS, wpD, wpV, wanted_none, wanted_some, vals, cev_const, cev_var, cev_loc, padV, okV_some, againP, true_and, and_true, upd_zero, upd_succ, nth_zero, nth_succ, wpG_true, wpG_false, condK_true, condK_false, seqK_normal, seqK_ret, seqK_exit, inBlock_normal, inBlock_ret, inBlock_exit, ends_ret, ends_normal, unmark_nil, results_nil, results_cons, one_one, one_zero, one_two, isB_undef, isB_tt, isB_ff, Bool.not_true, Bool.not_false, Option.bind_some, pick3, pickA, extractA, List.getElem?_cons_zero, List.getElem?_cons_succ, bin_lss, bin_gtr, bin_leq, bin_geq, bin_eql, bin_neq, un_not]
    refine (less_ok hE x y).mono ?_
    rintro _ _ ⟨rfl, rfl⟩
    by_cases h : x < y
    · rw [hcells2] at hr
      obtain ⟨s1, g1, g2, g3, g4⟩ := hr.store (k := q.length + 1) (u := iv y) hql2 rfl rfl
      have e1 : (ivs q.reverse ++ [iv y]) ++ iv y :: ivs T = ivs q.reverse ++ iv y :: (iv y :: ivs T) := by simp
      rw [e1] at g2
      obtain ⟨s2, k1, k2, k3, k4⟩ := g2.store (k := q.length) (u := iv x) hql rfl rfl
      simp only [h, decide_true, c117o4, c117o5, a1, l1, hs, a0, l0, on2, g1, k1, withV, wpC, wpI, wpS, wpD, wpV, wanted_none, wanted_some, vals, cev_const, cev_var, cev_loc, padV, okV_some, againP, true_and, and_true, upd_zero, upd_succ, nth_zero, nth_succ, wpG_true, wpG_false, condK_true, condK_false, seqK_normal, seqK_ret, seqK_exit, inBlock_normal, inBlock_ret, inBlock_exit, ends_ret, ends_normal, unmark_nil, results_nil, results_cons, one_one, one_zero, one_two, isB_undef, isB_tt, isB_ff, Bool.not_true, Bool.not_false, Option.bind_some, pick3, pickA, extractA, List.getElem?_cons_zero, List.getElem?_cons_succ, bin_lss, bin_gtr, bin_leq, bin_geq, bin_eql, bin_neq, un_not]
      rw [← hW]
      have e2 : down x (y :: q) = y :: down x q := by simp [down, h]
      refine ih (y :: T) s2 x5 _ (by omega) (by simp; omega) ?_ ?_
      · have e3 : ivs (q.reverse ++ x :: (y :: T)) = ivs q.reverse ++ iv x :: (iv y :: ivs T) := by simp
        rw [e3]; exact k2
      · intro s' y4 y6 f1 f2 f3
        refine hq s' y4 y6 ?_ (by omega) fun z hz => (f3 z hz).trans ((k4 z hz).trans (g4 z hz))
        rw [e2]
        have e4 : (y :: down x q).reverse ++ T = (down x q).reverse ++ (y :: T) := by simp
        rw [e4]; exact f1
    · have e2 : down x (y :: q) = x :: y :: q := by simp [down, h]
      simp only [h, decide_false, wpC, wpI, wpS, wpD, wpV, wanted_none, wanted_some, vals, cev_const, cev_var, cev_loc, padV, okV_some, againP, true_and, and_true, upd_zero, upd_succ, nth_zero, nth_succ, wpG_true, wpG_false, condK_true, condK_false, seqK_normal, seqK_ret, seqK_exit, inBlock_normal, inBlock_ret, inBlock_exit, ends_ret, ends_normal, unmark_nil, results_nil, results_cons, one_one, one_zero, one_two, isB_undef, isB_tt, isB_ff, Bool.not_true, Bool.not_false, Option.bind_some, pick3, pickA, extractA, List.getElem?_cons_zero, List.getElem?_cons_succ, bin_lss, bin_gtr, bin_leq, bin_geq, bin_eql, bin_neq, un_not]
      refine hq s _ _ ?_ rfl fun _ _ => rfl
      rw [e2]
      have e4 : (x :: y :: q).reverse ++ T = (y :: q).reverse ++ x :: T := by simp
      rw [e4]; exact hr
end Go.Proofs.Ytilhhmkdcoajnaa.Am

/- What the library's Sort computes of a short row of whole numbers (its outer loop, and all); conditions: twelve at most. -/
set_option linter.unusedVariables false
set_option linter.unusedSimpArgs false
namespace Go.Proofs.Ytilhhmkdcoajnaa.Am
open Go Go.Proofs

/-- A row of whole numbers that may be written; none, if it is empty. -/
def IntArr (lo : Nat) (s : ASt) (v : AV) (L : List Int) : Prop := (∃ a, v = .slice a 0 (some 0) ∧ L = []) ∨ ∃ i, v = .slice (some (i, 0)) L.length none ∧ lo ≤ i ∧ i < s.next ∧ RowAt s i (ivs L)
theorem IntArr.len {lo : Nat} {s : ASt} {v : AV} {L : List Int} (h : IntArr lo s v L) : lenA Try.prog s 23 v = some (iv (L.length : Int)) := by
  rcases h with ⟨a, rfl, rfl⟩ | ⟨i, rfl, _⟩
  · exact len_slice Try.underlying23
  · exact len_slice Try.underlying23

set_option maxRecDepth 8000 in
theorem sort_out {E : Env} (hE : Good E) {lo i n : Nat} (hlo : lo ≤ i) (hn : n ≤ 1000) {Q : ARes → Prop} :
    ∀ (R q : List Int) (s : ASt) (m : Nat) (x4 x5 x6 : AV), q.length = m → n = q.length + R.length → RowAt s i (ivs (q.reverse ++ R)) →
      (∀ s' y3 y4 y5 y6, RowAt s' i (ivs (R.foldl (fun q x => down x q) q).reverse) → s'.next = s.next → (∀ z, z ≠ i → s'.heap.get z = s.heap.get z) → Q ⟨.exit 0, [.slice (some (i, 0)) n none, iv 0, iv (n : Int), y3, y4, y5, y6], [], s'⟩) →
      WC E none (.loop c117l8) Q [.slice (some (i, 0)) n none, iv 0, iv (n : Int), iv (m : Int), x4, x5, x6] [] s := by
  intro R
  induction R with
  | nil =>
    intro q s m x4 x5 x6 hm hq hr hk
    subst hm
    have hlt : decide (((q.length : Nat) : Int) < (n : Int)) = false := decide_eq_false (by simp at hq; omega)
    refine WC.loop' ?_
    simp only [c117l8, c117o1, hlt, wpC, wpI, wpS, wpD, wpV, wanted_none, wanted_some, vals, cev_const, cev_var, cev_loc, padV, okV_some, againP, true_and, and_true, upd_zero, upd_succ, nth_zero, nth_succ, wpG_true, wpG_false, condK_true, condK_false, seqK_normal, seqK_ret, seqK_exit, inBlock_normal, inBlock_ret, inBlock_exit, ends_ret, ends_normal, unmark_nil, results_nil, results_cons, one_one, one_zero, one_two, isB_undef, isB_tt, isB_ff, Bool.not_true, Bool.not_false, Option.bind_some, pick3, pickA, extractA, List.getElem?_cons_zero, List.getElem?_cons_succ, bin_lss, bin_gtr, bin_leq, bin_geq, bin_eql, bin_neq, un_not]
    exact hk s _ _ _ _ (by simpa using hr) rfl fun _ _ => rfl
  | cons x T ih =>
    intro q s m x4 x5 x6 hm hq hr hk
    subst hm
    have hR : (x :: T).length = T.length + 1 := rfl
    rw [hR] at hq
    have hlt : decide (((q.length : Nat) : Int) < (n : Int)) = true := decide_eq_true (by omega)
    have e3 := bin_add Try.prog 3 ((q.length : Nat) : Int) 1 ⟨by omega, by omega⟩
    have hcast : (((q.length : Nat) : Int) + 1) = ((q.length + 1 : Nat) : Int) := by omega
    refine WC.loop' ?_
    generalize hW : WC E none (CCode.loop c117l8) Q = W
    simp only [c117l8, c117o1, c117o2, hlt, wpC, wpI, wpS, wpD, wpV, wanted_none, wanted_some, vals, cev_const, cev_var, cev_loc, padV, okV_some, againP, true_and, and_true, upd_zero, upd_succ, nth_zero, nth_succ, wpG_true, wpG_false, condK_true, condK_false, seqK_normal, seqK_ret, seqK_exit, inBlock_normal, inBlock_ret, inBlock_exit, ends_ret, ends_normal, unmark_nil, results_nil, results_cons, one_one, one_zero, one_two, isB_undef, isB_tt, isB_ff, Bool.not_true, Bool.not_false, Option.bind_some, pick3, pickA, extractA, List.getElem?_cons_zero, List.getElem?_cons_succ, bin_lss, bin_gtr, bin_leq, bin_geq, bin_eql, bin_neq, un_not]
    refine sort_in hE hlo hn x q T s _ _ (by omega) (by omega) hr ?_
    intro s' y4 y6 g1 g2 g3
    simp only [c117o7, e3, hcast, if_true, wpC, wpI, wpS, wpD, wpV, wanted_none, wanted_some, vals, cev_const, cev_var, cev_loc, padV, okV_some, againP, true_and, and_true, upd_zero, upd_succ, nth_zero, nth_succ, wpG_true, wpG_false, condK_true, condK_false, seqK_normal, seqK_ret, seqK_exit, inBlock_normal, inBlock_ret, inBlock_exit, ends_ret, ends_normal, unmark_nil, results_nil, results_cons, one_one, one_zero, one_two, isB_undef, isB_tt, isB_ff, Bool.not_true, Bool.not_false, Option.bind_some, pick3, pickA, extractA, List.getElem?_cons_zero, List.getElem?_cons_succ, bin_lss, bin_gtr, bin_leq, bin_geq, bin_eql, bin_neq, un_not]
    rw [← hW]
    refine ih (down x q) s' (q.length + 1) _ _ _ (down_len x q) (by rw [down_len]; omega) g1 ?_
    intro s2 y3 y4' y5 y6' h1 h2 h3
    exact hk s2 y3 y4' y5 y6' h1 (by omega) fun z hz => (h3 z hz).trans (g3 z hz)

theorem sort117 {E : Env} (hE : Good E) {lo : Nat} {s : ASt} {v : AV} {L : List Int} (h : IntArr lo s v L) (hL : L.length ≤ 12) :
    WF E 117 [v, iv 0, iv (L.length : Int)] (fun r s' => IntArr lo s' v (sortV L) ∧ Old lo s s' ∧ s'.next = s.next) s := by
  refine hE.go comp117 (by decide) rfl ?_
  have e3 := bin_add Try.prog 3 0 1 ⟨by omega, by omega⟩
  have e4 : (0 : Int) + 1 = 1 := rfl
  rcases h with ⟨a, rfl, rfl⟩ | ⟨i, rfl, h1, h2, h3⟩
  · simp only [c117, c117o0, e3, e4, List.length_nil, show ((0 : Nat) : Int) = 0 from rfl, wpC, wpI, wpS, wpD, wpV, wanted_none, wanted_some, vals, cev_const, cev_var, cev_loc, padV, okV_some, againP, true_and, and_true, upd_zero, upd_succ, nth_zero, nth_succ, wpG_true, wpG_false, condK_true, condK_false, seqK_normal, seqK_ret, seqK_exit, inBlock_normal, inBlock_ret, inBlock_exit, ends_ret, ends_normal, unmark_nil, results_nil, results_cons, one_one, one_zero, one_two, isB_undef, isB_tt, isB_ff, Bool.not_true, Bool.not_false, Option.bind_some, pick3, pickA, extractA, List.getElem?_cons_zero, List.getElem?_cons_succ, bin_lss, bin_gtr, bin_leq, bin_geq, bin_eql, bin_neq, un_not]
    refine WC.loop' ?_
    simp only [c117l8, c117o1, show decide ((1 : Int) < 0) = false from rfl, if_true, wpC, wpI, wpS, wpD, wpV, wanted_none, wanted_some, vals, cev_const, cev_var, cev_loc, padV, okV_some, againP, true_and, and_true, upd_zero, upd_succ, nth_zero, nth_succ, wpG_true, wpG_false, condK_true, condK_false, seqK_normal, seqK_ret, seqK_exit, inBlock_normal, inBlock_ret, inBlock_exit, ends_ret, ends_normal, unmark_nil, results_nil, results_cons, one_one, one_zero, one_two, isB_undef, isB_tt, isB_ff, Bool.not_true, Bool.not_false, Option.bind_some, pick3, pickA, extractA, List.getElem?_cons_zero, List.getElem?_cons_succ, bin_lss, bin_gtr, bin_leq, bin_geq, bin_eql, bin_neq, un_not]
    exact ⟨.inl ⟨a, rfl, rfl⟩, Old.refl _ _⟩
  · simp only [c117, c117o0, e3, e4, wpC, wpI, wpS, wpD, wpV, wanted_none, wanted_some, vals, cev_const, cev_var, cev_loc, padV, okV_some, againP, true_and, and_true, upd_zero, upd_succ, nth_zero, nth_succ, wpG_true, wpG_false, condK_true, condK_false, seqK_normal, seqK_ret, seqK_exit, inBlock_normal, inBlock_ret, inBlock_exit, ends_ret, ends_normal, unmark_nil, results_nil, results_cons, one_one, one_zero, one_two, isB_undef, isB_tt, isB_ff, Bool.not_true, Bool.not_false, Option.bind_some, pick3, pickA, extractA, List.getElem?_cons_zero, List.getElem?_cons_succ, bin_lss, bin_gtr, bin_leq, bin_geq, bin_eql, bin_neq, un_not]
    cases L with
    | nil =>
      refine WC.loop' ?_
      simp only [c117l8, c117o1, List.length_nil, show ((0 : Nat) : Int) = 0 from rfl, show decide ((1 : Int) < 0) = false from rfl, if_true, wpC, wpI, wpS, wpD, wpV, wanted_none, wanted_some, vals, cev_const, cev_var, cev_loc, padV, okV_some, againP, true_and, and_true, upd_zero, upd_succ, nth_zero, nth_succ, wpG_true, wpG_false, condK_true, condK_false, seqK_normal, seqK_ret, seqK_exit, inBlock_normal, inBlock_ret, inBlock_exit, ends_ret, ends_normal, unmark_nil, results_nil, results_cons, one_one, one_zero, one_two, isB_undef, isB_tt, isB_ff, Bool.not_true, Bool.not_false, Option.bind_some, pick3, pickA, extractA, List.getElem?_cons_zero, List.getElem?_cons_succ, bin_lss, bin_gtr, bin_leq, bin_geq, bin_eql, bin_neq, un_not]
      exact ⟨.inr ⟨i, rfl, h1, h2, h3⟩, Old.refl _ _⟩
    | cons x T =>
      refine sort_out hE h1 (n := (x :: T).length) (by omega) T [x] s 1 _ _ _ rfl (by simp; omega) h3 ?_
      intro s' y3 y4 y5 y6 g1 g2 g3
      simp only [if_true, wpC, wpI, wpS, wpD, wpV, wanted_none, wanted_some, vals, cev_const, cev_var, cev_loc, padV, okV_some, againP, true_and, and_true, upd_zero, upd_succ, nth_zero, nth_succ, wpG_true, wpG_false, condK_true, condK_false, seqK_normal, seqK_ret, seqK_exit, inBlock_normal, inBlock_ret, inBlock_exit, ends_ret, ends_normal, unmark_nil, results_nil, results_cons, one_one, one_zero, one_two, isB_undef, isB_tt, isB_ff, Bool.not_true, Bool.not_false, Option.bind_some, pick3, pickA, extractA, List.getElem?_cons_zero, List.getElem?_cons_succ, bin_lss, bin_gtr, bin_leq, bin_geq, bin_eql, bin_neq, un_not]
      have hl : (sortV (x :: T)).length = (x :: T).length := by
        have : ∀ (R q : List Int), (R.foldl (fun q x => down x q) q).length = q.length + R.length := by
          intro R
          induction R with
          | nil => intro q; rfl
          | cons y R ih => intro q; simp only [List.foldl_cons, ih, down_len, List.length_cons]; omega
        unfold sortV
        rw [List.length_reverse, this]; simp
      refine ⟨.inr ⟨i, by rw [hl], h1, by omega, g1⟩, ⟨by omega, fun z hz => g3 z (by omega)⟩, g2⟩

set_option maxRecDepth 8000 in
theorem sort108 {E : Env} (hE : Good E) {lo : Nat} {s : ASt} {v : AV} {L : List Int} (h : IntArr lo s v L) (hL : L.length ≤ 12) (m : Int) :
    WF E 108 [v, iv 0, iv (L.length : Int), iv m] (fun r s' => IntArr lo s' v (sortV L) ∧ Old lo s s' ∧ s'.next = s.next) s := by
  refine hE.go comp108 (by decide) rfl ?_
  have e3 := bin_sub Try.prog 3 (L.length : Int) 0 ⟨by omega, by omega⟩
  have e4 : (L.length : Int) - 0 = (L.length : Int) := by omega
  have e5 : decide ((L.length : Int) ≤ 12) = true := decide_eq_true (by omega)
  simp only [c108, c108o0, c108o1, wpC, wpI, wpS, wpD, wpV, wanted_none, wanted_some, vals, cev_const, cev_var, cev_loc, padV, okV_some, againP, true_and, and_true, upd_zero, upd_succ, nth_zero, nth_succ, wpG_true, wpG_false, condK_true, condK_false, seqK_normal, seqK_ret, seqK_exit, inBlock_normal, inBlock_ret, inBlock_exit, ends_ret, ends_normal, unmark_nil, results_nil, results_cons, one_one, one_zero, one_two, isB_undef, isB_tt, isB_ff, Bool.not_true, Bool.not_false, Option.bind_some, pick3, pickA, extractA, List.getElem?_cons_zero, List.getElem?_cons_succ, bin_lss, bin_gtr, bin_leq, bin_geq, bin_eql, bin_neq, un_not]
  refine WC.loop' ?_
  generalize WC E none (CCode.loop c108l31) _ = W
  simp only [c108l31, c108o2, c108o3, c108o4, e3, e4, e5, wpC, wpI, wpS, wpD, wpV, wanted_none, wanted_some, vals, cev_const, cev_var, cev_loc, padV, okV_some, againP, true_and, and_true, upd_zero, upd_succ, nth_zero, nth_succ, wpG_true, wpG_false, condK_true, condK_false, seqK_normal, seqK_ret, seqK_exit, inBlock_normal, inBlock_ret, inBlock_exit, ends_ret, ends_normal, unmark_nil, results_nil, results_cons, one_one, one_zero, one_two, isB_undef, isB_tt, isB_ff, Bool.not_true, Bool.not_false, Option.bind_some, pick3, pickA, extractA, List.getElem?_cons_zero, List.getElem?_cons_succ, bin_lss, bin_gtr, bin_leq, bin_geq, bin_eql, bin_neq, un_not]
  refine (sort117 hE h hL).mono ?_
  rintro r s' h'
  simp only [wpC, wpI, wpS, wpD, wpV, wanted_none, wanted_some, vals, cev_const, cev_var, cev_loc, padV, okV_some, againP, true_and, and_true, upd_zero, upd_succ, nth_zero, nth_succ, wpG_true, wpG_false, condK_true, condK_false, seqK_normal, seqK_ret, seqK_exit, inBlock_normal, inBlock_ret, inBlock_exit, ends_ret, ends_normal, unmark_nil, results_nil, results_cons, one_one, one_zero, one_two, isB_undef, isB_tt, isB_ff, Bool.not_true, Bool.not_false, Option.bind_some, pick3, pickA, extractA, List.getElem?_cons_zero, List.getElem?_cons_succ, bin_lss, bin_gtr, bin_leq, bin_geq, bin_eql, bin_neq, un_not]
  exact h'

theorem conv_u64 {s : ASt} {n : Nat} (h : n ≤ 12) : convA Try.prog s 3 133 (iv (n : Int)) = some (.int .u64 (n : Int)) := by
  simp [convA, Try.underlying3, Try.underlying133, wrapA_of (in_u64 (n := n) ⟨by omega, by omega⟩)]
/-- Sort. -/
theorem sort_ok {E : Env} (hE : Good E) {lo : Nat} {s : ASt} {v : AV} {L : List Int} (h : IntArr lo s v L) (hL : L.length ≤ 12) :
    WF E 87 [v] (fun r s' => IntArr lo s' v (sortV L) ∧ Old lo s s' ∧ s'.next = s.next) s := by
  refine hE.go comp87 (by decide) rfl ?_
  simp only [c87, c87o0, c87o1, h.len, conv_u64 hL, wpC, wpI, wpS, wpD, wpV, wanted_none, wanted_some, vals, cev_const, cev_var, cev_loc, padV, okV_some, againP, true_and, and_true, upd_zero, upd_succ, nth_zero, nth_succ, wpG_true, wpG_false, condK_true, condK_false, seqK_normal, seqK_ret, seqK_exit, inBlock_normal, inBlock_ret, inBlock_exit, ends_ret, ends_normal, unmark_nil, results_nil, results_cons, one_one, one_zero, one_two, isB_undef, isB_tt, isB_ff, Bool.not_true, Bool.not_false, Option.bind_some, pick3, pickA, extractA, List.getElem?_cons_zero, List.getElem?_cons_succ, bin_lss, bin_gtr, bin_leq, bin_geq, bin_eql, bin_neq, un_not]
  refine (len_ok hE L.length hL).mono ?_
  rintro _ _ ⟨⟨m, rfl⟩, rfl⟩
  simp only [wpC, wpI, wpS, wpD, wpV, wanted_none, wanted_some, vals, cev_const, cev_var, cev_loc, padV, okV_some, againP, true_and, and_true, upd_zero, upd_succ, nth_zero, nth_succ, wpG_true, wpG_false, condK_true, condK_false, seqK_normal, seqK_ret, seqK_exit, inBlock_normal, inBlock_ret, inBlock_exit, ends_ret, ends_normal, unmark_nil, results_nil, results_cons, one_one, one_zero, one_two, isB_undef, isB_tt, isB_ff, Bool.not_true, Bool.not_false, Option.bind_some, pick3, pickA, extractA, List.getElem?_cons_zero, List.getElem?_cons_succ, bin_lss, bin_gtr, bin_leq, bin_geq, bin_eql, bin_neq, un_not]
  refine (sort108 hE h hL m).mono ?_
  rintro r s' h'
  simp only [wpC, wpI, wpS, wpD, wpV, wanted_none, wanted_some, vals, cev_const, cev_var, cev_loc, padV, okV_some, againP, true_and, and_true, upd_zero, upd_succ, nth_zero, nth_succ, wpG_true, wpG_false, condK_true, condK_false, seqK_normal, seqK_ret, seqK_exit, inBlock_normal, inBlock_ret, inBlock_exit, ends_ret, ends_normal, unmark_nil, results_nil, results_cons, one_one, one_zero, one_two, isB_undef, isB_tt, isB_ff, Bool.not_true, Bool.not_false, Option.bind_some, pick3, pickA, extractA, List.getElem?_cons_zero, List.getElem?_cons_succ, bin_lss, bin_gtr, bin_leq, bin_geq, bin_eql, bin_neq, un_not]
  exact h'
end Go.Proofs.Ytilhhmkdcoajnaa.Am

/- What the library's Compact computes of a row of whole numbers; conditions: its length fits. -/
set_option linter.unusedVariables false
set_option linter.unusedSimpArgs false
namespace Go.Proofs.Ytilhhmkdcoajnaa.Am
open Go Go.Proofs

theorem RowAt.loadAt {s : ASt} {i k a : Nat} {cs : List AV} {u : AV} (h : RowAt s i cs) (hk : cs[k]? = some u) (ha : a = k) : loadV Try.prog s 3 (.ptr (some (i, a))) = some u := by
  subst ha; exact load_one ag3 (h.load1 hk)
theorem row_lo {s : ASt} {i n k : Nat} {cs : List AV} (h : RowAt s i cs) (hn : n ≤ cs.length) (hk : k ≤ n) : sliceOpnds Try.prog 23 true false false s [.slice (some (i, 0)) n none, iv (k : Int)] = some (.slice (some (i, 0 + k * 1)) (n - k) none) := by
  obtain ⟨r, h1, h2, h3, h4, h5⟩ := h
  have hb : boundA (iv (k : Int)) n = some k := by simp [boundA, idxOf, natOf_nat, guardB, ble_of hk]
  show sliceA Try.prog s 23 (.slice (some (i, 0)) n none) (some (iv (k : Int))) none none = _
  simp [sliceA, Try.underlying23, sz3, rowAt, h1, h5, guardB, hb, ble_of (Nat.zero_le r.n), show Nat.beq 1 0 = false from rfl]
theorem row_hi {s : ASt} {i n k : Nat} {cs : List AV} (h : RowAt s i cs) (hk : k ≤ cs.length) : sliceOpnds Try.prog 23 false true false s [.slice (some (i, 0)) n none, iv (k : Int)] = some (.slice (some (i, 0)) k none) := by
  obtain ⟨r, h1, h2, h3, h4, h5⟩ := h
  have hb : boundA (iv (k : Int)) r.n = some k := by simp [boundA, idxOf, natOf_nat, guardB, h2.1, ble_of hk]
  show sliceA Try.prog s 23 (.slice (some (i, 0)) n none) none (some (iv (k : Int))) none = _
  simp [sliceA, Try.underlying23, sz3, rowAt, h1, h5, guardB, hb, ble_of (Nat.zero_le r.n), show Nat.beq 1 0 = false from rfl]
theorem rep_zero (m : Nat) : rep (AV.cells (.int .i64 0)) m = ivs (List.replicate m 0) := by
  induction m with
  | zero => rfl
  | succ m ih => show iv 0 :: rep _ m = _; rw [ih]; rfl
theorem cells_ivs' (L : List Int) : allCells (ivs L) = true := cells_ivs L
theorem row_clear {s : ASt} {i m k : Nat} {A B : List AV} (h : RowAt s i (A ++ B)) (hA : A.length = k) (hB : B.length = m) :
    ∃ s' Z, clearA Try.prog s [23] [.slice (some (i, 0 + k * 1)) m none] = some (undefA, s') ∧ Z.length = m ∧ RowAt s' i (A ++ Z) ∧ s'.next = s.next ∧ ∀ x, x ≠ i → s'.heap.get x = s.heap.get x := by
  subst hA; subst hB
  cases B with
  | nil => exact ⟨s, [], by simp [clearA, Try.underlying23], rfl, h, rfl, fun _ _ => rfl⟩
  | cons b B =>
    obtain ⟨s', g1, g2, g3, g4⟩ := h.fill (o := A.length) (vs := ivs (List.replicate (B.length + 1) 0)) (by simp [List.replicate_succ]) (by simp) (cells_ivs _)
    refine ⟨s', ivs (List.replicate (B.length + 1) 0), ?_, by simp, ?_, g3, g4⟩
    · have hz : zeroT Try.prog 3 = some (.int .i64 0) := zr3
      simp only [clearA, Try.underlying23, List.length_cons, hz, Option.bind_some, rep_zero, Nat.zero_add, Nat.mul_one, g1]
    · have e : (A ++ b :: B).take A.length ++ ivs (List.replicate (B.length + 1) 0) ++ (A ++ b :: B).drop (A.length + (ivs (List.replicate (B.length + 1) 0)).length) = A ++ ivs (List.replicate (B.length + 1) 0) := by
        rw [List.take_left' rfl, List.drop_eq_nil_of_le (by simp)]; simp
      rw [e] at g2
      exact g2

/-- Without those that are as the one ahead. -/
def dd (p : Int) : List Int → List Int
  | [] => []
  | x :: r => if x = p then dd p r else x :: dd x r
def compV : List Int → List Int
  | [] => []
  | x :: r => x :: dd x r

set_option maxRecDepth 8000 in
theorem comp_in {E : Env} (hE : Good E) {lo i n k0 : Nat} (hlo : lo ≤ i) (hn : n ≤ 1000) (hk0 : 0 < k0) {Q : ARes → Prop} (x1 x5 x6 x7 : AV) :
    ∀ (S W G : List Int) (p : Int) (s : ASt) (k2 : Nat) (x8 x9 : AV), 0 < k2 → k0 + k2 = W.length + G.length + 1 → n = W.length + G.length + 1 + S.length → k0 ≤ n → RowAt s i (ivs (W ++ (G ++ p :: S))) →
      (∀ s' W' G' y4 y8 y9, W' = W ++ dd p S → W'.length + G'.length = n → RowAt s' i (ivs (W' ++ G')) → s'.next = s.next → (∀ z, z ≠ i → s'.heap.get z = s.heap.get z) → Q ⟨.exit 2, [.slice (some (i, 0)) n none, x1, iv (W'.length : Int), .slice (some (i, 0 + k0 * 1)) (n - k0) none, y4, x5, x6, x7, y8, y9], [], s'⟩) →
      WC E none (.loop c88l13) Q [.slice (some (i, 0)) n none, x1, iv (W.length : Int), .slice (some (i, 0 + k0 * 1)) (n - k0) none, iv (k2 : Int), x5, x6, x7, x8, x9] [] s := by
  intro S
  induction S with
  | nil =>
    intro W G p s k2 x8 x9 hk2 hk hnn hkn hr hq
    have hlt : decide (((k2 : Nat) : Int) < ((n - k0 : Nat) : Int)) = false := decide_eq_false (by simp at hnn; omega)
    refine WC.loop' ?_
    simp only [c88l13, c88o8, len_slice Try.underlying23, hlt, wpC, wpI, wpS, wpD, wpV, wanted_none, wanted_some, vals, cev_const, cev_var, cev_loc, padV, okV_some, againP, true_and, and_true, upd_zero, upd_succ, nth_zero, nth_succ, wpG_true, wpG_false, condK_true, condK_false, seqK_normal, seqK_ret, seqK_exit, inBlock_normal, inBlock_ret, inBlock_exit, ends_ret, ends_normal, unmark_nil, results_nil, results_cons, one_one, one_zero, one_two, isB_undef, isB_tt, isB_ff, Bool.not_true, Bool.not_false, Option.bind_some, pick3, pickA, extractA, List.getElem?_cons_zero, List.getElem?_cons_succ, bin_lss, bin_gtr, bin_leq, bin_geq, bin_eql, bin_neq, un_not]
    exact hq s W (G ++ [p]) _ _ _ (by simp [dd]) (by simp at hnn ⊢; omega) hr rfl fun _ _ => rfl
  | cons x T ih =>
    intro W G p s k2 x8 x9 hk2 hk hnn hkn hr hq
    have hS : (x :: T).length = T.length + 1 := rfl
    rw [hS] at hnn
    have hlt : decide (((k2 : Nat) : Int) < ((n - k0 : Nat) : Int)) = true := decide_eq_true (by omega)
    have a1 : indexAddrA Try.prog 23 (.slice (some (i, 0 + k0 * 1)) (n - k0) none) (iv (k2 : Int)) = some (.ptr (some (i, 0 + k0 * 1 + k2 * 1))) := idx_slice Try.underlying23 sz3 (by omega)
    have hs := bin_sub Try.prog 3 (k2 : Int) 1 ⟨by omega, by omega⟩
    have hs1 : ((k2 : Int) - 1) = ((k2 - 1 : Nat) : Int) := by omega
    rw [hs1] at hs
    have a0 : indexAddrA Try.prog 23 (.slice (some (i, 0 + k0 * 1)) (n - k0) none) (iv ((k2 - 1 : Nat) : Int)) = some (.ptr (some (i, 0 + k0 * 1 + (k2 - 1) * 1))) := idx_slice Try.underlying23 sz3 (by omega)
    have aw : indexAddrA Try.prog 23 (.slice (some (i, 0)) n none) (iv (W.length : Int)) = some (.ptr (some (i, 0 + W.length * 1))) := idx_slice Try.underlying23 sz3 (by omega)
    have c1 : ivs (W ++ (G ++ p :: x :: T)) = ivs (W ++ G ++ [p]) ++ iv x :: ivs T := by simp
    have c0 : ivs (W ++ (G ++ p :: x :: T)) = ivs (W ++ G) ++ iv p :: ivs (x :: T) := by simp
    have l1 : loadV Try.prog s 3 (.ptr (some (i, 0 + k0 * 1 + k2 * 1))) = some (iv x) := hr.loadAt (k := W.length + G.length + 1) (by rw [c1]; exact get_mid (by simp; omega)) (by omega)
    have l0 : loadV Try.prog s 3 (.ptr (some (i, 0 + k0 * 1 + (k2 - 1) * 1))) = some (iv p) := hr.loadAt (k := W.length + G.length) (by rw [c0]; exact get_mid (by simp)) (by omega)
    have e3 := bin_add Try.prog 3 (k2 : Int) 1 ⟨by omega, by omega⟩
    have e3' : ((k2 : Int) + 1) = ((k2 + 1 : Nat) : Int) := by omega
    have e4 := bin_add Try.prog 3 (W.length : Int) 1 ⟨by omega, by omega⟩
    have e4' : ((W.length : Int) + 1) = ((W.length + 1 : Nat) : Int) := by omega
    refine WC.loop' ?_
    generalize hW : WC E none (CCode.loop c88l13) Q = WW
    by_cases h : x = p
    · subst h
      simp only [c88l13, c88o8, c88o9, c88o12, len_slice Try.underlying23, hlt, a1, a0, l1, hs, l0, e3, e3', ne_eq, not_true, decide_false, wpC, wpI, wpS, wpD, wpV, wanted_none, wanted_some, vals, cev_const, cev_var, cev_loc, padV, okV_some, againP, true_and, and_true, upd_zero, upd_succ, nth_zero, nth_succ, wpG_true, wpG_false, condK_true, condK_false, seqK_normal, seqK_ret, seqK_exit, inBlock_normal, inBlock_ret, inBlock_exit, ends_ret, ends_normal, unmark_nil, results_nil, results_cons, one_one, one_zero, one_two, isB_undef, isB_tt, isB_ff, Bool.not_true, Bool.not_false, Option.bind_some, pick3, pickA, extractA, List.getElem?_cons_zero, List.getElem?_cons_succ, bin_lss, bin_gtr, bin_leq, bin_geq, bin_eql, bin_neq, un_not]
      rw [← hW]
      have hc : W ++ (G ++ x :: x :: T) = W ++ ((G ++ [x]) ++ x :: T) := by simp
      rw [hc] at hr
      refine ih W (G ++ [x]) x s (k2 + 1) _ _ (by omega) (by simp; omega) (by simp; omega) hkn hr ?_
      intro s' W' G' y4 y8 y9 f1 f2 f3 f4 f5
      exact hq s' W' G' y4 y8 y9 (by rw [f1]; simp [dd]) f2 f3 f4 f5
    · have hd : dd p (x :: T) = x :: dd x T := by simp [dd, h]
      obtain ⟨g0, tl, htl, hG⟩ : ∃ g0 tl, G ++ p :: x :: T = g0 :: tl ∧ ∃ G1, tl = G1 ++ x :: T ∧ G1.length = G.length := by
        cases G with
        | nil => exact ⟨p, x :: T, rfl, [], rfl, rfl⟩
        | cons g G => exact ⟨g, G ++ p :: x :: T, rfl, G ++ [p], by simp, by simp⟩
      obtain ⟨G1, rfl, hG1⟩ := hG
      have cw : ivs (W ++ (G ++ p :: x :: T)) = ivs W ++ iv g0 :: ivs (G1 ++ x :: T) := by rw [htl]; simp
      have hr2 := hr
      rw [cw] at hr2
      obtain ⟨s1, g1, g2, g3, g4⟩ := hr2.store (k := W.length) (u := iv x) (by simp) rfl rfl
      simp only [c88l13, c88o8, c88o9, c88o10, c88o11, c88o12, len_slice Try.underlying23, hlt, a1, a0, aw, l1, hs, l0, e3, e3', e4, e4', h, ne_eq, not_false_eq_true, decide_true, on2, g1, withV, wpC, wpI, wpS, wpD, wpV, wanted_none, wanted_some, vals, cev_const, cev_var, cev_loc, padV, okV_some, againP, true_and, and_true, upd_zero, upd_succ, nth_zero, nth_succ, wpG_true, wpG_false, condK_true, condK_false, seqK_normal, seqK_ret, seqK_exit, inBlock_normal, inBlock_ret, inBlock_exit, ends_ret, ends_normal, unmark_nil, results_nil, results_cons, one_one, one_zero, one_two, isB_undef, isB_tt, isB_ff, Bool.not_true, Bool.not_false, Option.bind_some, pick3, pickA, extractA, List.getElem?_cons_zero, List.getElem?_cons_succ, bin_lss, bin_gtr, bin_leq, bin_geq, bin_eql, bin_neq, un_not]
      rw [← hW]
      have hr3 : RowAt s1 i (ivs ((W ++ [x]) ++ (G1 ++ x :: T))) := by
        have : ivs ((W ++ [x]) ++ (G1 ++ x :: T)) = ivs W ++ iv x :: ivs (G1 ++ x :: T) := by simp
        rw [this]; exact g2
      have hwl : (W ++ [x]).length = W.length + 1 := by simp
      have := ih (W ++ [x]) G1 x s1 (k2 + 1) (.bool true) (.bool true) (by omega) (by rw [hwl]; omega) (by rw [hwl]; omega) hkn hr3 ?_
      · rw [hwl] at this
        exact this
      · intro s' W' G' y4 y8 y9 f1 f2 f3 f4 f5
        exact hq s' W' G' y4 y8 y9 (by rw [f1, hd]; simp) f2 f3 (by omega) fun z hz => (f5 z hz).trans (g4 z hz)

set_option maxRecDepth 8000 in
theorem comp_out {E : Env} (hE : Good E) {lo i n : Nat} (hlo : lo ≤ i) (hn : n ≤ 1000) {Q : ARes → Prop} (x1 x5 : AV) :
    ∀ (R A : List Int) (y : Int) (s : ASt) (x3 x4 x6 x7 x8 x9 : AV), n = A.length + 1 + R.length → RowAt s i (ivs (A ++ y :: R)) →
      (∀ e s' W' (G' : List AV) y1 y2 y3 y4 y6 y7 y8 y9, (e = .ret ∧ y1 = .slice (some (i, 0)) W'.length none ∨ e = .exit 0 ∧ y1 = x1 ∧ W'.length = n) → W' = A ++ y :: dd y R → RowAt s' i (ivs W' ++ G') → s'.next = s.next → (∀ z, z ≠ i → s'.heap.get z = s.heap.get z) →
        Q ⟨e, [.slice (some (i, 0)) n none, y1, y2, y3, y4, x5, y6, y7, y8, y9], [], s'⟩) →
      WC E none (.loop c88l17) Q [.slice (some (i, 0)) n none, x1, iv ((A.length + 1 : Nat) : Int), x3, x4, x5, x6, x7, x8, x9] [] s := by
  intro R
  induction R with
  | nil =>
    intro A y s x3 x4 x6 x7 x8 x9 hnn hr hq
    have hlt : decide (((A.length + 1 : Nat) : Int) < (n : Int)) = false := decide_eq_false (by simp at hnn; omega)
    refine WC.loop' ?_
    simp only [c88l17, c88o4, len_slice Try.underlying23, hlt, wpC, wpI, wpS, wpD, wpV, wanted_none, wanted_some, vals, cev_const, cev_var, cev_loc, padV, okV_some, againP, true_and, and_true, upd_zero, upd_succ, nth_zero, nth_succ, wpG_true, wpG_false, condK_true, condK_false, seqK_normal, seqK_ret, seqK_exit, inBlock_normal, inBlock_ret, inBlock_exit, ends_ret, ends_normal, unmark_nil, results_nil, results_cons, one_one, one_zero, one_two, isB_undef, isB_tt, isB_ff, Bool.not_true, Bool.not_false, Option.bind_some, pick3, pickA, extractA, List.getElem?_cons_zero, List.getElem?_cons_succ, bin_lss, bin_gtr, bin_leq, bin_geq, bin_eql, bin_neq, un_not]
    exact hq _ s (A ++ [y]) [] _ _ _ _ _ _ _ _ (.inr ⟨rfl, rfl, by simp at hnn ⊢; omega⟩) (by simp [dd]) (by simpa using hr) rfl fun _ _ => rfl
  | cons x T ih =>
    intro A y s x3 x4 x6 x7 x8 x9 hnn hr hq
    have hS : (x :: T).length = T.length + 1 := rfl
    rw [hS] at hnn
    have hlt : decide (((A.length + 1 : Nat) : Int) < (n : Int)) = true := decide_eq_true (by omega)
    have a1 : indexAddrA Try.prog 23 (.slice (some (i, 0)) n none) (iv ((A.length + 1 : Nat) : Int)) = some (.ptr (some (i, 0 + (A.length + 1) * 1))) := idx_slice Try.underlying23 sz3 (by omega)
    have hs := bin_sub Try.prog 3 ((A.length + 1 : Nat) : Int) 1 ⟨by omega, by omega⟩
    have hs1 : (((A.length + 1 : Nat) : Int) - 1) = ((A.length : Nat) : Int) := by omega
    rw [hs1] at hs
    have a0 : indexAddrA Try.prog 23 (.slice (some (i, 0)) n none) (iv ((A.length : Nat) : Int)) = some (.ptr (some (i, 0 + A.length * 1))) := idx_slice Try.underlying23 sz3 (by omega)
    have c1 : ivs (A ++ y :: x :: T) = ivs (A ++ [y]) ++ iv x :: ivs T := by simp
    have c0 : ivs (A ++ y :: x :: T) = ivs A ++ iv y :: ivs (x :: T) := by simp
    have l1 : loadV Try.prog s 3 (.ptr (some (i, 0 + (A.length + 1) * 1))) = some (iv x) := hr.loadAt (k := A.length + 1) (by rw [c1]; exact get_mid (by simp)) (by omega)
    have l0 : loadV Try.prog s 3 (.ptr (some (i, 0 + A.length * 1))) = some (iv y) := hr.loadAt (k := A.length) (by rw [c0]; exact get_mid (by simp)) (by omega)
    have e3 := bin_add Try.prog 3 ((A.length + 1 : Nat) : Int) 1 ⟨by omega, by omega⟩
    have e3' : (((A.length + 1 : Nat) : Int) + 1) = ((A.length + 2 : Nat) : Int) := by omega
    refine WC.loop' ?_
    generalize hW : WC E none (CCode.loop c88l17) Q = WW
    by_cases h : x = y
    · subst h
      have hlen : (ivs (A ++ x :: x :: T)).length = n := by simp; omega
      have s1 := row_lo (n := n) (k := A.length + 1) hr (by omega) (by omega)
      simp only [c88l17, c88o4, c88o5, c88o6, c88o7, len_slice Try.underlying23, hlt, a1, a0, l1, hs, l0, s1, decide_true, wpC, wpI, wpS, wpD, wpV, wanted_none, wanted_some, vals, cev_const, cev_var, cev_loc, padV, okV_some, againP, true_and, and_true, upd_zero, upd_succ, nth_zero, nth_succ, wpG_true, wpG_false, condK_true, condK_false, seqK_normal, seqK_ret, seqK_exit, inBlock_normal, inBlock_ret, inBlock_exit, ends_ret, ends_normal, unmark_nil, results_nil, results_cons, one_one, one_zero, one_two, isB_undef, isB_tt, isB_ff, Bool.not_true, Bool.not_false, Option.bind_some, pick3, pickA, extractA, List.getElem?_cons_zero, List.getElem?_cons_succ, bin_lss, bin_gtr, bin_leq, bin_geq, bin_eql, bin_neq, un_not]
      have hc : A ++ x :: x :: T = (A ++ [x]) ++ ([] ++ x :: T) := by simp
      rw [hc] at hr
      have hwl : (A ++ [x]).length = A.length + 1 := by simp
      have := comp_in hE (n := n) (k0 := A.length + 1) hlo hn (by omega) (Q := InBlock 2 (seqK (wpC E none (.seq (.ops c88o14) (.seq (.ops c88o15) .ret)) (InBlock 1 (seqK (wpC E none (.ops c88o16) (seqK WW Q)) (seqK WW Q)))) (InBlock 1 (seqK (wpC E none (.ops c88o16) (seqK WW Q)) (seqK WW Q))))) x1 x5 (.bool true) (.bool true) T (A ++ [x]) [] x s 1 x8 x9 (by omega) (by rw [hwl]; simp) (by rw [hwl]; simp; omega) (by omega) hr ?_
      · rw [hwl] at this
        simp only [wpC, wpI, wpS, wpD, wpV, wanted_none, wanted_some, vals, cev_const, cev_var, cev_loc, padV, okV_some, againP, true_and, and_true, upd_zero, upd_succ, nth_zero, nth_succ, wpG_true, wpG_false, condK_true, condK_false, seqK_normal, seqK_ret, seqK_exit, inBlock_normal, inBlock_ret, inBlock_exit, ends_ret, ends_normal, unmark_nil, results_nil, results_cons, one_one, one_zero, one_two, isB_undef, isB_tt, isB_ff, Bool.not_true, Bool.not_false, Option.bind_some, pick3, pickA, extractA, List.getElem?_cons_zero, List.getElem?_cons_succ, bin_lss, bin_gtr, bin_leq, bin_geq, bin_eql, bin_neq, un_not] at this
        exact this
      · intro s' W' G' y4 y8 y9 f1 f2 f3 f4 f5
        have hlen' : (ivs (W' ++ G')).length = n := by simp; omega
        have t1 := row_lo (n := n) (k := W'.length) f3 (by omega) (by omega)
        rw [ivs_append] at f3
        obtain ⟨s2, Z, g1, g2, g3, g4, g5⟩ := row_clear f3 (k := W'.length) (m := n - W'.length) (by simp) (by simp; omega)
        have t2 := row_hi (n := n) (k := W'.length) g3 (by simp)
        simp only [c88o14, c88o15, t1, g1, t2, if_true, wpC, wpI, wpS, wpD, wpV, wanted_none, wanted_some, vals, cev_const, cev_var, cev_loc, padV, okV_some, againP, true_and, and_true, upd_zero, upd_succ, nth_zero, nth_succ, wpG_true, wpG_false, condK_true, condK_false, seqK_normal, seqK_ret, seqK_exit, inBlock_normal, inBlock_ret, inBlock_exit, ends_ret, ends_normal, unmark_nil, results_nil, results_cons, one_one, one_zero, one_two, isB_undef, isB_tt, isB_ff, Bool.not_true, Bool.not_false, Option.bind_some, pick3, pickA, extractA, List.getElem?_cons_zero, List.getElem?_cons_succ, bin_lss, bin_gtr, bin_leq, bin_geq, bin_eql, bin_neq, un_not]
        have hd : dd x (x :: T) = dd x T := by simp [dd]
        exact hq _ s2 W' Z _ _ _ _ _ _ _ _ (.inl ⟨rfl, rfl⟩) (by rw [f1, hd]; simp) g3 (by omega) fun z hz => (g5 z hz).trans (f5 z hz)
    · simp only [c88l17, c88o4, c88o5, c88o16, len_slice Try.underlying23, hlt, a1, a0, l1, hs, l0, e3, e3', h, decide_false, wpC, wpI, wpS, wpD, wpV, wanted_none, wanted_some, vals, cev_const, cev_var, cev_loc, padV, okV_some, againP, true_and, and_true, upd_zero, upd_succ, nth_zero, nth_succ, wpG_true, wpG_false, condK_true, condK_false, seqK_normal, seqK_ret, seqK_exit, inBlock_normal, inBlock_ret, inBlock_exit, ends_ret, ends_normal, unmark_nil, results_nil, results_cons, one_one, one_zero, one_two, isB_undef, isB_tt, isB_ff, Bool.not_true, Bool.not_false, Option.bind_some, pick3, pickA, extractA, List.getElem?_cons_zero, List.getElem?_cons_succ, bin_lss, bin_gtr, bin_leq, bin_geq, bin_eql, bin_neq, un_not]
      rw [← hW]
      have hwl : (A ++ [y]).length = A.length + 1 := by simp
      have hc : A ++ y :: x :: T = (A ++ [y]) ++ x :: T := by simp
      rw [hc] at hr
      have := ih (A ++ [y]) x s x3 x4 (.bool true) (.bool false) x8 x9 (by rw [hwl]; omega) hr ?_
      · rw [hwl] at this
        exact this
      · intro e s' W' G' y1 y2 y3 y4 y6 y7 y8 y9 f1 f2 f3 f4 f5
        exact hq e s' W' G' y1 y2 y3 y4 y6 y7 y8 y9 f1 (by rw [f2]; simp [dd, h]) f3 f4 f5
/-- Compact. -/
theorem comp_ok {E : Env} (hE : Good E) {lo : Nat} {s : ASt} {v : AV} {L : List Int} (h : IntArr lo s v L) (hL : L.length ≤ 1000) :
    WF E 88 [v] (fun r s' => SliceAt s'.next s' r (ivs (compV L)) ∧ (∀ j, slot r = some j → lo ≤ j ∨ slot v = some j) ∧ Old lo s s' ∧ s'.next = s.next ∧ eqA r r = true) s := by
  refine hE.go comp88 (by decide) rfl ?_
  have fin : ∀ {s' : ASt} {i : Nat} {W : List Int} {G : List AV}, RowAt s' i (ivs W ++ G) → i < s'.next → SliceAt s'.next s' (.slice (some (i, 0)) W.length none) (ivs W) := by
    intro s' i W G hr hi
    refine ⟨some (i, 0), none, by simp, fun k u hk => ⟨i, 0, rfl, hi, ?_⟩⟩
    rw [Nat.zero_add]
    exact hr.load1 (by rw [List.getElem?_append_left (lt_of_get hk)]; exact hk)
  by_cases hlt : L.length < 2
  · have hd : decide ((L.length : Int) < 2) = true := decide_eq_true (by omega)
    have hc : compV L = L := by
      cases L with
      | nil => rfl
      | cons x r => cases r with
        | nil => rfl
        | cons y r => simp at hlt; omega
    simp only [c88, c88o0, c88o1, c88o2, h.len, hd, wpC, wpI, wpS, wpD, wpV, wanted_none, wanted_some, vals, cev_const, cev_var, cev_loc, padV, okV_some, againP, true_and, and_true, upd_zero, upd_succ, nth_zero, nth_succ, wpG_true, wpG_false, condK_true, condK_false, seqK_normal, seqK_ret, seqK_exit, inBlock_normal, inBlock_ret, inBlock_exit, ends_ret, ends_normal, unmark_nil, results_nil, results_cons, one_one, one_zero, one_two, isB_undef, isB_tt, isB_ff, Bool.not_true, Bool.not_false, Option.bind_some, pick3, pickA, extractA, List.getElem?_cons_zero, List.getElem?_cons_succ, bin_lss, bin_gtr, bin_leq, bin_geq, bin_eql, bin_neq, un_not]
    rw [hc]
    refine ⟨?_, fun j hj => .inr hj, Old.refl _ _, ?_⟩
    rotate_left
    · rcases h with ⟨a, rfl, rfl⟩ | ⟨i, rfl, h1, h2, h3⟩
      · exact eqA_slice fun _ => ⟨0, rfl⟩
      · exact eqA_slice fun e => by cases e
    rcases h with ⟨a, rfl, rfl⟩ | ⟨i, rfl, h1, h2, h3⟩
    · exact ⟨a, some 0, rfl, fun k u hk => by simp at hk⟩
    · exact fin (G := []) (by simpa using h3) h2
  · have hd : decide ((L.length : Int) < 2) = false := decide_eq_false (by omega)
    rcases h with ⟨a, rfl, rfl⟩ | ⟨i, rfl, h1, h2, h3⟩
    · simp at hlt
    cases L with
    | nil => simp at hlt
    | cons y R =>
      simp only [c88, c88o0, c88o1, c88o3, len_slice Try.underlying23, hd, wpC, wpI, wpS, wpD, wpV, wanted_none, wanted_some, vals, cev_const, cev_var, cev_loc, padV, okV_some, againP, true_and, and_true, upd_zero, upd_succ, nth_zero, nth_succ, wpG_true, wpG_false, condK_true, condK_false, seqK_normal, seqK_ret, seqK_exit, inBlock_normal, inBlock_ret, inBlock_exit, ends_ret, ends_normal, unmark_nil, results_nil, results_cons, one_one, one_zero, one_two, isB_undef, isB_tt, isB_ff, Bool.not_true, Bool.not_false, Option.bind_some, pick3, pickA, extractA, List.getElem?_cons_zero, List.getElem?_cons_succ, bin_lss, bin_gtr, bin_leq, bin_geq, bin_eql, bin_neq, un_not]
      refine comp_out hE (n := (y :: R).length) h1 hL (.slice none 0 (some 0)) _ R [] y s _ _ _ _ _ _ (by simp; omega) h3 ?_
      rintro e s' W' G' y1 y2 y3 y4 y6 y7 y8 y9 (⟨rfl, rfl⟩ | ⟨rfl, rfl, hl⟩) f2 f3 f4 f5
      · simp only [wpC, wpI, wpS, wpD, wpV, wanted_none, wanted_some, vals, cev_const, cev_var, cev_loc, padV, okV_some, againP, true_and, and_true, upd_zero, upd_succ, nth_zero, nth_succ, wpG_true, wpG_false, condK_true, condK_false, seqK_normal, seqK_ret, seqK_exit, inBlock_normal, inBlock_ret, inBlock_exit, ends_ret, ends_normal, unmark_nil, results_nil, results_cons, one_one, one_zero, one_two, isB_undef, isB_tt, isB_ff, Bool.not_true, Bool.not_false, Option.bind_some, pick3, pickA, extractA, List.getElem?_cons_zero, List.getElem?_cons_succ, bin_lss, bin_gtr, bin_leq, bin_geq, bin_eql, bin_neq, un_not]
        rw [show compV (y :: R) = W' from f2.symm]
        exact ⟨fin f3 (by omega), fun j hj => .inr hj, ⟨by omega, fun z hz => f5 z (by omega)⟩, f4, eqA_slice fun e => by cases e⟩
      · simp only [c88o18, if_true, wpC, wpI, wpS, wpD, wpV, wanted_none, wanted_some, vals, cev_const, cev_var, cev_loc, padV, okV_some, againP, true_and, and_true, upd_zero, upd_succ, nth_zero, nth_succ, wpG_true, wpG_false, condK_true, condK_false, seqK_normal, seqK_ret, seqK_exit, inBlock_normal, inBlock_ret, inBlock_exit, ends_ret, ends_normal, unmark_nil, results_nil, results_cons, one_one, one_zero, one_two, isB_undef, isB_tt, isB_ff, Bool.not_true, Bool.not_false, Option.bind_some, pick3, pickA, extractA, List.getElem?_cons_zero, List.getElem?_cons_succ, bin_lss, bin_gtr, bin_leq, bin_geq, bin_eql, bin_neq, un_not]
        rw [show compV (y :: R) = W' from f2.symm, ← hl]
        exact ⟨fin f3 (by omega), fun j hj => .inr hj, ⟨by omega, fun z hz => f5 z (by omega)⟩, f4, eqA_slice fun e => by cases e⟩
end Go.Proofs.Ytilhhmkdcoajnaa.Am
