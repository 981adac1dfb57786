/- What the reference's function clean of layer 20 computes; conditions: the numbers fit. -/
import Derived.Test.YtilhhmkdcoajnaaAmM36
import Derived.Test.YtilhhmkdcoajnaaAmDrup3
set_option linter.unusedVariables false
set_option linter.unusedSimpArgs false
namespace Go.Proofs.Ytilhhmkdcoajnaa.Am
open Go Go.Proofs

theorem neg_least : unA Try.prog .neg (iv (-9223372036854775808)) = some (iv (-9223372036854775808)) := rfl

set_option maxRecDepth 8000 in
/-- Is a number none? -/
theorem null_step {E : Env} {s : ASt} (x : Int) (hx : i64 x) (v0 v1 v2 v3 v5 v6 v7 v8 v9 : AV) {K : List AV → ASt → Prop} (hK : K [v0, v1, v2, v3, iv x, v5, v6, .bool (nullV x), v8, v9] s) :
    wpI E c59o5 K [] [v0, v1, v2, v3, iv x, v5, v6, v7, v8, v9] s := by
  obtain ⟨h1, h2⟩ := hx
  by_cases h0 : x = 0
  · subst h0
    have : nullV 0 = true := rfl
    rw [this] at hK
    simp only [c59o5, decide_true, Bool.true_eq_false, Bool.false_eq_true, beq_self_eq_true, wpC, wpI, wpS, wpD, wpV, wanted_none, wanted_some, vals, cev_const, cev_var, cev_loc, padV, okV_some, againP, true_and, and_true, upd_zero, upd_succ, nth_zero, nth_succ, wpG_true, wpG_false, condK_true, condK_false, seqK_normal, seqK_ret, seqK_exit, inBlock_normal, inBlock_ret, inBlock_exit, ends_ret, ends_normal, unmark_nil, results_nil, results_cons, one_one, one_zero, one_two, isB_undef, isB_tt, isB_ff, Bool.not_true, Bool.not_false, Option.bind_some, pick3, pickA, extractA, List.getElem?_cons_zero, List.getElem?_cons_succ, bin_lss, bin_gtr, bin_leq, bin_geq, bin_eql, bin_neq, un_not]
    exact hK
  · by_cases hl : x = -9223372036854775808
    · subst hl
      have : nullV (-9223372036854775808) = true := rfl
      rw [this] at hK
      simp only [c59o5, neg_least, Int.reduceEq, decide_false, decide_true, beq_self_eq_true, wpC, wpI, wpS, wpD, wpV, wanted_none, wanted_some, vals, cev_const, cev_var, cev_loc, padV, okV_some, againP, true_and, and_true, upd_zero, upd_succ, nth_zero, nth_succ, wpG_true, wpG_false, condK_true, condK_false, seqK_normal, seqK_ret, seqK_exit, inBlock_normal, inBlock_ret, inBlock_exit, ends_ret, ends_normal, unmark_nil, results_nil, results_cons, one_one, one_zero, one_two, isB_undef, isB_tt, isB_ff, Bool.not_true, Bool.not_false, Option.bind_some, pick3, pickA, extractA, List.getElem?_cons_zero, List.getElem?_cons_succ, bin_lss, bin_gtr, bin_leq, bin_geq, bin_eql, bin_neq, un_not]
      exact hK
    · have hn : nullV x = false := by simp [nullV, h0, hl]
      rw [hn] at hK
      have hne : ¬ x = -x := by omega
      simp only [c59o5, h0, hne, un_neg _ x ⟨by omega, by omega⟩, decide_false, beq_self_eq_true, wpC, wpI, wpS, wpD, wpV, wanted_none, wanted_some, vals, cev_const, cev_var, cev_loc, padV, okV_some, againP, true_and, and_true, upd_zero, upd_succ, nth_zero, nth_succ, wpG_true, wpG_false, condK_true, condK_false, seqK_normal, seqK_ret, seqK_exit, inBlock_normal, inBlock_ret, inBlock_exit, ends_ret, ends_normal, unmark_nil, results_nil, results_cons, one_one, one_zero, one_two, isB_undef, isB_tt, isB_ff, Bool.not_true, Bool.not_false, Option.bind_some, pick3, pickA, extractA, List.getElem?_cons_zero, List.getElem?_cons_succ, bin_lss, bin_gtr, bin_leq, bin_geq, bin_eql, bin_neq, un_not]
      exact hK

theorem insV_at {x : Int} {L : List Int} : insV x L = if L[atV x L]? = some x then L else L.take (atV x L) ++ (x :: L.drop (atV x L)) := rfl

set_option maxRecDepth 8000 in
/-- Is it not there yet? -/
theorem there_step {E : Env} {s : ASt} {out : List Int} {O : List Nat} (ho : out.length ≤ 1000) {v2 : AV} (hd : Dest s v2 out.length 1 (ivs out) O) (x : Int) {k : Nat} (hk : k ≤ out.length) (v0 v1 v3 v6 v7 v8 v9 : AV) {K : List AV → ASt → Prop}
    (hK : K [v0, v1, v2, v3, iv x, iv (k : Int), v6, v7, v8, .bool (decide (out[k]? ≠ some x))] s) :
    wpI E c59o10 K [] [v0, v1, v2, v3, iv x, iv (k : Int), v6, v7, v8, v9] s := by
  obtain ⟨a, cap, rfl, hc⟩ := hd.cells
  by_cases he : k = out.length
  · subst he
    have : decide (out[out.length]? ≠ some x) = true := by simp
    rw [this] at hK
    simp only [c59o10, len_slice Try.underlying23, decide_true, Bool.true_eq_false, beq_self_eq_true, wpC, wpI, wpS, wpD, wpV, wanted_none, wanted_some, vals, cev_const, cev_var, cev_loc, padV, okV_some, againP, true_and, and_true, upd_zero, upd_succ, nth_zero, nth_succ, wpG_true, wpG_false, condK_true, condK_false, seqK_normal, seqK_ret, seqK_exit, inBlock_normal, inBlock_ret, inBlock_exit, ends_ret, ends_normal, unmark_nil, results_nil, results_cons, one_one, one_zero, one_two, isB_undef, isB_tt, isB_ff, Bool.not_true, Bool.not_false, Option.bind_some, pick3, pickA, extractA, List.getElem?_cons_zero, List.getElem?_cons_succ, bin_lss, bin_gtr, bin_leq, bin_geq, bin_eql, bin_neq, un_not]
    exact hK
  · have hlt : k < out.length := by omega
    have hy : out[k]? = some out[k] := List.getElem?_eq_getElem hlt
    obtain ⟨i, o, rfl, hi, hload⟩ := hc k _ (get_ivs hy)
    have e1 := idx_slice (cap := cap) (i := i) (o := o) Try.underlying23 sz3 hlt
    have e2 : loadV Try.prog s 3 (.ptr (some (i, o + k * 1))) = some (iv out[k]) := load_one ag3 (by rw [Nat.mul_one]; exact hload)
    have hne : ¬ (k : Int) = (out.length : Int) := by omega
    rw [hy] at hK
    have : decide (some out[k] ≠ some x) = decide (out[k] ≠ x) := by simp
    rw [this] at hK
    simp only [c59o10, len_slice Try.underlying23, hne, e1, e2, decide_false, beq_self_eq_true, wpC, wpI, wpS, wpD, wpV, wanted_none, wanted_some, vals, cev_const, cev_var, cev_loc, padV, okV_some, againP, true_and, and_true, upd_zero, upd_succ, nth_zero, nth_succ, wpG_true, wpG_false, condK_true, condK_false, seqK_normal, seqK_ret, seqK_exit, inBlock_normal, inBlock_ret, inBlock_exit, ends_ret, ends_normal, unmark_nil, results_nil, results_cons, one_one, one_zero, one_two, isB_undef, isB_tt, isB_ff, Bool.not_true, Bool.not_false, Option.bind_some, pick3, pickA, extractA, List.getElem?_cons_zero, List.getElem?_cons_succ, bin_lss, bin_gtr, bin_leq, bin_geq, bin_eql, bin_neq, un_not]
    exact hK

set_option maxRecDepth 8000 in
theorem clean_loop {E : Env} (hE : Good E) {s0 : ASt} {b : Nat} {L : List Int} (hL : I64s L) (hlen : L.length ≤ 1000) {a : Option (Nat × Nat)} {cap : Option Nat} (hb : b ≤ s0.next) (hc : CellsAt b s0 a (ivs L)) (v1 : AV) {Q : ARes → Prop} :
    ∀ (l : List Int) (k : Nat) (out : List Int) (O : List Nat) (v2 : AV) (s : ASt) (x4 x5 x6 x7 x8 x9 : AV), L.drop k = l → k ≤ L.length → out.length ≤ k → Dest s v2 out.length 1 (ivs out) O → Old s0.next s0 s →
      (∀ s' v' O' y4 y5 y6 y7 y8 y9, Dest s' v' (cleanV out l).length 1 (ivs (cleanV out l)) O' → Old s0.next s0 s' → Q ⟨.exit 0, [.slice a L.length cap, v1, v', iv (L.length : Int), y4, y5, y6, y7, y8, y9], [], s'⟩) →
      WC E none (.loop c59l13) Q [.slice a L.length cap, v1, v2, iv (k : Int), x4, x5, x6, x7, x8, x9] [] s := by
  intro l
  induction l with
  | nil =>
    intro k out O v2 s x4 x5 x6 x7 x8 x9 hdr hk hok hd hold hq
    have := drop_end hdr hk
    subst this
    refine WC.loop' ?_
    simp only [c59l13, c59o3, len_slice Try.underlying23, Int.lt_irrefl, decide_false, wpC, wpI, wpS, wpD, wpV, wanted_none, wanted_some, vals, cev_const, cev_var, cev_loc, padV, okV_some, againP, true_and, and_true, upd_zero, upd_succ, nth_zero, nth_succ, wpG_true, wpG_false, condK_true, condK_false, seqK_normal, seqK_ret, seqK_exit, inBlock_normal, inBlock_ret, inBlock_exit, ends_ret, ends_normal, unmark_nil, results_nil, results_cons, one_one, one_zero, one_two, isB_undef, isB_tt, isB_ff, Bool.not_true, Bool.not_false, Option.bind_some, pick3, pickA, extractA, List.getElem?_cons_zero, List.getElem?_cons_succ, bin_lss, bin_gtr, bin_leq, bin_geq, bin_eql, bin_neq, un_not]
    exact hq s v2 O _ _ _ _ _ _ hd hold
  | cons x l ih =>
    intro k out O v2 s x4 x5 x6 x7 x8 x9 hdr hk hok hd hold hq
    obtain ⟨hlt, hx, hd'⟩ := drop_facts hdr
    have hxi := hL x (List.mem_of_getElem? hx)
    obtain ⟨i, o, rfl, hi, hload⟩ := hc k _ (get_ivs hx)
    have e1 := idx_slice (cap := cap) (i := i) (o := o) Try.underlying23 sz3 hlt
    have e2 : loadV Try.prog s 3 (.ptr (some (i, o + k * 1))) = some (iv x) := load_one ag3 (by rw [Nat.mul_one, load1_eq (hold.2 i (by omega))]; exact hload)
    have hkk : decide ((k : Int) < (L.length : Int)) = true := decide_eq_true (by omega)
    have e3 := bin_add Try.prog 3 (k : Int) 1 ⟨by omega, by omega⟩
    have hcast : ((k : Int) + 1) = ((k + 1 : Nat) : Int) := by omega
    refine WC.loop' ?_
    simp only [c59l13, c59o3, c59o4, len_slice Try.underlying23, hkk, e1, e2, wpC, wpI, wpS, wpD, wpV, wanted_none, wanted_some, vals, cev_const, cev_var, cev_loc, padV, okV_some, againP, true_and, and_true, upd_zero, upd_succ, nth_zero, nth_succ, wpG_true, wpG_false, condK_true, condK_false, seqK_normal, seqK_ret, seqK_exit, inBlock_normal, inBlock_ret, inBlock_exit, ends_ret, ends_normal, unmark_nil, results_nil, results_cons, one_one, one_zero, one_two, isB_undef, isB_tt, isB_ff, Bool.not_true, Bool.not_false, Option.bind_some, pick3, pickA, extractA, List.getElem?_cons_zero, List.getElem?_cons_succ, bin_lss, bin_gtr, bin_leq, bin_geq, bin_eql, bin_neq, un_not]
    refine null_step x hxi _ _ _ _ _ _ _ _ _ ?_
    cases hn : nullV x with
    | true =>
      have hcl : cleanV out (x :: l) = cleanV out l := by simp [cleanV, hn]
      rw [hcl] at hq
      simp only [c59o12, if_true, e3, hcast, wpC, wpI, wpS, wpD, wpV, wanted_none, wanted_some, vals, cev_const, cev_var, cev_loc, padV, okV_some, againP, true_and, and_true, upd_zero, upd_succ, nth_zero, nth_succ, wpG_true, wpG_false, condK_true, condK_false, seqK_normal, seqK_ret, seqK_exit, inBlock_normal, inBlock_ret, inBlock_exit, ends_ret, ends_normal, unmark_nil, results_nil, results_cons, one_one, one_zero, one_two, isB_undef, isB_tt, isB_ff, Bool.not_true, Bool.not_false, Option.bind_some, pick3, pickA, extractA, List.getElem?_cons_zero, List.getElem?_cons_succ, bin_lss, bin_gtr, bin_leq, bin_geq, bin_eql, bin_neq, un_not]
      exact ih (k + 1) out O v2 s _ _ _ _ _ _ hd' hlt (by omega) hd hold hq
    | false =>
      have hcl : cleanV out (x :: l) = cleanV (insV x out) l := by simp [cleanV, hn]
      rw [hcl] at hq
      have hat := atV_le x out
      simp only [c59o6, wpC, wpI, wpS, wpD, wpV, wanted_none, wanted_some, vals, cev_const, cev_var, cev_loc, padV, okV_some, againP, true_and, and_true, upd_zero, upd_succ, nth_zero, nth_succ, wpG_true, wpG_false, condK_true, condK_false, seqK_normal, seqK_ret, seqK_exit, inBlock_normal, inBlock_ret, inBlock_exit, ends_ret, ends_normal, unmark_nil, results_nil, results_cons, one_one, one_zero, one_two, isB_undef, isB_tt, isB_ff, Bool.not_true, Bool.not_false, Option.bind_some, pick3, pickA, extractA, List.getElem?_cons_zero, List.getElem?_cons_succ, bin_lss, bin_gtr, bin_leq, bin_geq, bin_eql, bin_neq, un_not]
      refine clean_at hE (by omega) hd x _ _ _ _ _ _ out 0 _ rfl (Nat.zero_le _) fun y8 => ?_
      rw [Nat.zero_add]
      simp only [if_true, wpC, wpI, wpS, wpD, wpV, wanted_none, wanted_some, vals, cev_const, cev_var, cev_loc, padV, okV_some, againP, true_and, and_true, upd_zero, upd_succ, nth_zero, nth_succ, wpG_true, wpG_false, condK_true, condK_false, seqK_normal, seqK_ret, seqK_exit, inBlock_normal, inBlock_ret, inBlock_exit, ends_ret, ends_normal, unmark_nil, results_nil, results_cons, one_one, one_zero, one_two, isB_undef, isB_tt, isB_ff, Bool.not_true, Bool.not_false, Option.bind_some, pick3, pickA, extractA, List.getElem?_cons_zero, List.getElem?_cons_succ, bin_lss, bin_gtr, bin_leq, bin_geq, bin_eql, bin_neq, un_not]
      refine there_step (by omega) hd x hat _ _ _ _ _ _ _ ?_
      by_cases h : out[atV x out]? = some x
      · have hins : insV x out = out := by rw [insV_at, if_pos h]
        rw [hins] at hq
        rw [show decide (out[atV x out]? ≠ some x) = false from decide_eq_false (by simp [h])]
        simp only [c59o12, e3, hcast, wpC, wpI, wpS, wpD, wpV, wanted_none, wanted_some, vals, cev_const, cev_var, cev_loc, padV, okV_some, againP, true_and, and_true, upd_zero, upd_succ, nth_zero, nth_succ, wpG_true, wpG_false, condK_true, condK_false, seqK_normal, seqK_ret, seqK_exit, inBlock_normal, inBlock_ret, inBlock_exit, ends_ret, ends_normal, unmark_nil, results_nil, results_cons, one_one, one_zero, one_two, isB_undef, isB_tt, isB_ff, Bool.not_true, Bool.not_false, Option.bind_some, pick3, pickA, extractA, List.getElem?_cons_zero, List.getElem?_cons_succ, bin_lss, bin_gtr, bin_leq, bin_geq, bin_eql, bin_neq, un_not]
        exact ih (k + 1) out O v2 s _ _ _ _ _ _ hd' hlt (by omega) hd hold hq
      · have hins : insV x out = out.take (atV x out) ++ (x :: out.drop (atV x out)) := by rw [insV_at, if_neg h]
        rw [hins] at hq
        rw [show decide (out[atV x out]? ≠ some x) = true from decide_eq_true h]
        simp only [wpC, wpI, wpS, wpD, wpV, wanted_none, wanted_some, vals, cev_const, cev_var, cev_loc, padV, okV_some, againP, true_and, and_true, upd_zero, upd_succ, nth_zero, nth_succ, wpG_true, wpG_false, condK_true, condK_false, seqK_normal, seqK_ret, seqK_exit, inBlock_normal, inBlock_ret, inBlock_exit, ends_ret, ends_normal, unmark_nil, results_nil, results_cons, one_one, one_zero, one_two, isB_undef, isB_tt, isB_ff, Bool.not_true, Bool.not_false, Option.bind_some, pick3, pickA, extractA, List.getElem?_cons_zero, List.getElem?_cons_succ, bin_lss, bin_gtr, bin_leq, bin_geq, bin_eql, bin_neq, un_not]
        refine ins_step (by omega) hd x hat _ _ _ _ _ _ _ fun v' s' O' g1 g2 => ?_
        simp only [c59o12, e3, hcast, wpC, wpI, wpS, wpD, wpV, wanted_none, wanted_some, vals, cev_const, cev_var, cev_loc, padV, okV_some, againP, true_and, and_true, upd_zero, upd_succ, nth_zero, nth_succ, wpG_true, wpG_false, condK_true, condK_false, seqK_normal, seqK_ret, seqK_exit, inBlock_normal, inBlock_ret, inBlock_exit, ends_ret, ends_normal, unmark_nil, results_nil, results_cons, one_one, one_zero, one_two, isB_undef, isB_tt, isB_ff, Bool.not_true, Bool.not_false, Option.bind_some, pick3, pickA, extractA, List.getElem?_cons_zero, List.getElem?_cons_succ, bin_lss, bin_gtr, bin_leq, bin_geq, bin_eql, bin_neq, un_not]
        have hl2 : (out.take (atV x out) ++ (x :: out.drop (atV x out))).length = out.length + 1 := by simp; omega
        exact ih (k + 1) _ O' v' s' _ _ _ _ _ _ hd' hlt (by omega) (by rw [hl2]; exact g1) (hold.trans (g2.mono hold.1)) hq

/-- clean. -/
theorem rclean_ok {E : Env} (hE : Good E) {s : ASt} {b : Nat} {L : List Int} (hL : I64s L) (hlen : L.length ≤ 1000) {v : AV} (hb : b ≤ s.next) (hv : SliceAt b s v (ivs L)) :
    WF E 59 [v] (fun r s' => ∃ O, Dest s' r (cleanV [] L).length 1 (ivs (cleanV [] L)) O ∧ Old s.next s s') s := by
  obtain ⟨a, cap, rfl, hc⟩ := hv
  rw [List.length_map]
  refine hE.go comp59 (by decide) rfl ?_
  simp only [c59, c59o0, c59o1, c59o2, wpC, wpI, wpS, wpD, wpV, wanted_none, wanted_some, vals, cev_const, cev_var, cev_loc, padV, okV_some, againP, true_and, and_true, upd_zero, upd_succ, nth_zero, nth_succ, wpG_true, wpG_false, condK_true, condK_false, seqK_normal, seqK_ret, seqK_exit, inBlock_normal, inBlock_ret, inBlock_exit, ends_ret, ends_normal, unmark_nil, results_nil, results_cons, one_one, one_zero, one_two, isB_undef, isB_tt, isB_ff, Bool.not_true, Bool.not_false, Option.bind_some, pick3, pickA, extractA, List.getElem?_cons_zero, List.getElem?_cons_succ, bin_lss, bin_gtr, bin_leq, bin_geq, bin_eql, bin_neq, un_not]
  refine clean_loop hE hL hlen hb hc _ L 0 [] [] _ s _ _ _ _ _ _ rfl (Nat.zero_le _) (Nat.le_refl _) (Dest.nil s 1) (Old.refl _ _) ?_
  intro s' v' O' y4 y5 y6 y7 y8 y9 h1 h2
  simp only [c59o14, if_true, wpC, wpI, wpS, wpD, wpV, wanted_none, wanted_some, vals, cev_const, cev_var, cev_loc, padV, okV_some, againP, true_and, and_true, upd_zero, upd_succ, nth_zero, nth_succ, wpG_true, wpG_false, condK_true, condK_false, seqK_normal, seqK_ret, seqK_exit, inBlock_normal, inBlock_ret, inBlock_exit, ends_ret, ends_normal, unmark_nil, results_nil, results_cons, one_one, one_zero, one_two, isB_undef, isB_tt, isB_ff, Bool.not_true, Bool.not_false, Option.bind_some, pick3, pickA, extractA, List.getElem?_cons_zero, List.getElem?_cons_succ, bin_lss, bin_gtr, bin_leq, bin_geq, bin_eql, bin_neq, un_not]
  exact ⟨O', h1, h2⟩

theorem cleanV_len : ∀ (l out : List Int), (cleanV out l).length ≤ out.length + l.length
  | [], out => Nat.le_refl _
  | x :: l, out => by
    simp only [cleanV]
    have h2 := insV_len x out
    cases h : nullV x with
    | true =>
      have := cleanV_len l out
      simp only [if_true, List.length_cons]; omega
    | false =>
      have := cleanV_len l (insV x out)
      simp only [Bool.false_eq_true, if_false, List.length_cons]; omega
theorem cleanV_i64 : ∀ (l out : List Int), I64s l → I64s out → I64s (cleanV out l)
  | [], out, _, h => h
  | x :: l, out, hl, h => by
    simp only [cleanV]
    refine cleanV_i64 l _ (fun y hy => hl y (List.mem_cons_of_mem _ hy)) ?_
    split
    · exact h
    · exact insV_i64 (hl x List.mem_cons_self) h
end Go.Proofs.Ytilhhmkdcoajnaa.Am

/- What the reference's function Follows of layer 20 computes; conditions: the numbers fit. -/
set_option linter.unusedVariables false
set_option linter.unusedSimpArgs false
namespace Go.Proofs.Ytilhhmkdcoajnaa.Am
open Go Go.Proofs

theorem Dest.slot_lt {s : ASt} {v : AV} {n sz : Nat} {cs : List AV} {O : List Nat} (hd : Dest s v n sz cs O) : ∀ j, slot v = some j → j < s.next := by
  intro j hj
  rcases hd with ⟨a, rfl, h2, h3, h4, h5⟩ | ⟨i, p, rfl, h2, h3⟩
  · cases a with
    | none => cases hj
    | some io => obtain ⟨i, o⟩ := io; simp [slot] at hj; subst hj; exact (h5 i o rfl).1
  · simp [slot] at hj; subst hj
    rcases h2.ex with ⟨e, _⟩ | ⟨_, _, k2, _⟩
    · cases e
    · exact k2
theorem Dest.new {s : ASt} {v : AV} {n sz : Nat} {cs : List AV} {O : List Nat} (hd : Dest s v n sz cs O) (o : AObj) : Dest (newObj s o) v n sz cs O :=
  hd.frame (Nat.le_succ _) fun j hj => by rw [heap_new, if_neg (by have := hd.slot_lt j hj; omega)]

/-- One number is appended. -/
theorem push_int {s : ASt} {v : AV} {L : List Int} {O : List Nat} (hd : Dest s v L.length 1 (ivs L) O) (hl : L.length ≤ 1000000000) (x : Int) :
    ∃ v' s' O', appendA Try.prog (newObj s (mkRow 3 1 [iv x])) [23, 23] [v, .slice (some (s.next, 0)) 1 (some 1)] = some (v', s') ∧ Dest s' v' (L ++ [x]).length 1 (ivs (L ++ [x])) O' ∧ s.next ≤ s'.next ∧
      (∀ j, j < s.next → j ∉ O → s'.heap.get j = s.heap.get j) ∧ (∀ j ∈ O', j ∈ O ∨ s.next ≤ j) := by
  have c1 := src_one (P := Try.prog) (e := 3) (s := newObj s (mkRow 3 1 [iv x])) (n := 1) (cap := some 1) (sz := 1) 3 1 (by rw [heap_new, if_pos rfl]) rfl
  obtain ⟨v', s', O', h1, h2, h3, h4, h5, h6, h7⟩ := (hd.new (mkRow 3 1 [iv x])).append (P := Try.prog) (st := 23) (xt := 23) Try.underlying23 sz3 by3 (by decide) (strx 23 3 Try.underlying23) zero3 c1 rfl rfl (by omega) (by omega)
  have hn : (newObj s (mkRow 3 1 [iv x])).next = s.next + 1 := rfl
  refine ⟨v', s', O', h1, ?_, by omega, ?_, ?_⟩
  · simpa using h2
  · intro j hj ho
    rw [h5 j (by omega) ho, heap_new, if_neg (by omega)]
  · intro j hj
    exact (h6 j hj).imp id (fun h => by omega)

/-! ### The literals that may hold -/
def openR (K : List Int) (l : List Int) : List Int := l.filter fun x => decide (-x ∉ K)
def holdsR (K : List Int) (l : List Int) : Bool := l.any fun x => decide (x ∈ K)

set_option maxRecDepth 8000 in
theorem open_loop {E : Env} (hE : Good E) {n1 : Nat} {s1 : ASt} (hn1 : n1 ≤ s1.next) {K : List Int} (hKl : K.length ≤ 1000000000) {v3 : AV} (hK : SliceAt n1 s1 v3 (ivs K)) {C : List Int} (hC : ∀ x ∈ C, i64 (-x)) (hCl : C.length ≤ 1000) {a : Option (Nat × Nat)} {cap : Option Nat} (hc : CellsAt n1 s1 a (ivs C)) (v0 v1 v2 v4 v5 v6 v7 : AV) {Q : ARes → Prop} :
    ∀ (l : List Int) (k : Nat) (opn : List Int) (O : List Nat) (holds : Bool) (v9 : AV) (s : ASt) (x12 x13 x14 x15 x16 x17 x18 x19 : AV), C.drop k = l → k ≤ C.length → opn.length ≤ k → Dest s v9 opn.length 1 (ivs opn) O → (∀ j ∈ O, n1 ≤ j) → Old n1 s1 s →
      (∀ s' v' O' y11 y12 y13 y14 y15 y16 y17 y18 y19, Dest s' v' (opn ++ openR K l).length 1 (ivs (opn ++ openR K l)) O' → (∀ j ∈ O', n1 ≤ j) → Old n1 s1 s' →
        Q ⟨.exit 6, [v0, v1, v2, v3, v4, v5, v6, v7, .slice a C.length cap, v', .bool (holds || holdsR K l), y11, y12, y13, y14, y15, y16, y17, y18, y19], [], s'⟩) →
      WC E none (.loop c29l24) Q [v0, v1, v2, v3, v4, v5, v6, v7, .slice a C.length cap, v9, .bool holds, iv (k : Int), x12, x13, x14, x15, x16, x17, x18, x19] [] s := by
  intro l
  induction l with
  | nil =>
    intro k opn O holds v9 s x12 x13 x14 x15 x16 x17 x18 x19 hdr hk hok hd hO hold hq
    have := drop_end hdr hk
    subst this
    have e : opn ++ openR K [] = opn := by simp [openR]
    have e2 : (holds || holdsR K []) = holds := by simp [holdsR]
    rw [e, e2] at hq
    refine WC.loop' ?_
    simp only [c29l24, c29o19, len_slice Try.underlying23, Int.lt_irrefl, decide_false, wpC, wpI, wpS, wpD, wpV, wanted_none, wanted_some, vals, cev_const, cev_var, cev_loc, padV, okV_some, againP, true_and, and_true, upd_zero, upd_succ, nth_zero, nth_succ, wpG_true, wpG_false, condK_true, condK_false, seqK_normal, seqK_ret, seqK_exit, inBlock_normal, inBlock_ret, inBlock_exit, ends_ret, ends_normal, unmark_nil, results_nil, results_cons, one_one, one_zero, one_two, isB_undef, isB_tt, isB_ff, Bool.not_true, Bool.not_false, Option.bind_some, pick3, pickA, extractA, List.getElem?_cons_zero, List.getElem?_cons_succ, bin_lss, bin_gtr, bin_leq, bin_geq, bin_eql, bin_neq, un_not]
    exact hq s v9 O _ _ _ _ _ _ _ _ _ hd hO hold
  | cons x l ih =>
    intro k opn O holds v9 s x12 x13 x14 x15 x16 x17 x18 x19 hdr hk hok hd hO hold hq
    obtain ⟨hlt, hx, hd'⟩ := drop_facts hdr
    have hxn := hC x (List.mem_of_getElem? hx)
    obtain ⟨i, o, rfl, hi, hload⟩ := hc k _ (get_ivs hx)
    have e1 := idx_slice (cap := cap) (i := i) (o := o) Try.underlying23 sz3 hlt
    have ld : ∀ {s' : ASt}, Old n1 s1 s' → loadV Try.prog s' 3 (.ptr (some (i, o + k * 1))) = some (iv x) := fun h => load_one ag3 (by rw [Nat.mul_one, load1_eq (h.2 i hi)]; exact hload)
    have hkk : decide ((k : Int) < (C.length : Int)) = true := decide_eq_true (by omega)
    have e3 := bin_add Try.prog 3 (k : Int) 1 ⟨by omega, by omega⟩
    have hcast : ((k : Int) + 1) = ((k + 1 : Nat) : Int) := by omega
    have hKs : SliceAt n1 s v3 (ivs K) := hK.old hold (Nat.le_refl _)
    have hh : (holds || holdsR K (x :: l)) = ((holds || decide (x ∈ K)) || holdsR K l) := by simp [holdsR, Bool.or_assoc]
    rw [hh] at hq
    -- behind 'holds'
    have rest : ∀ (holds' : Bool) (w12 w13 w14 w15 w16 w17 w18 w19 : AV), holds' = (holds || decide (x ∈ K)) →
        wpI E c29o21 (fun v s' => condK (cev [] v (.var 17)) (wpC E none (.ops c29o22) (InBlock 7 (seqK (wpC E none (.ops c29o23) (seqK (WC E none (.loop c29l24) Q) Q)) (seqK (WC E none (.loop c29l24) Q) Q)))) (wpC E none .skip (InBlock 7 (seqK (wpC E none (.ops c29o23) (seqK (WC E none (.loop c29l24) Q) Q)) (seqK (WC E none (.loop c29l24) Q) Q)))) v [] s') []
          [v0, v1, v2, v3, v4, v5, v6, v7, .slice (some (i, o)) C.length cap, v9, .bool holds', iv (k : Int), w12, w13, w14, w15, w16, w17, w18, w19] s := by
      intro holds' w12 w13 w14 w15 w16 w17 w18 w19 he
      subst he
      simp only [c29o21, e1, ld hold, un_neg _ x hxn, wpC, wpI, wpS, wpD, wpV, wanted_none, wanted_some, vals, cev_const, cev_var, cev_loc, padV, okV_some, againP, true_and, and_true, upd_zero, upd_succ, nth_zero, nth_succ, wpG_true, wpG_false, condK_true, condK_false, seqK_normal, seqK_ret, seqK_exit, inBlock_normal, inBlock_ret, inBlock_exit, ends_ret, ends_normal, unmark_nil, results_nil, results_cons, one_one, one_zero, one_two, isB_undef, isB_tt, isB_ff, Bool.not_true, Bool.not_false, Option.bind_some, pick3, pickA, extractA, List.getElem?_cons_zero, List.getElem?_cons_succ, bin_lss, bin_gtr, bin_leq, bin_geq, bin_eql, bin_neq, un_not]
      refine (in_ok hE (by omega) hKs (-x)).mono ?_
      rintro _ _ ⟨rfl, rfl⟩
      by_cases h : -x ∈ K
      · have ho : openR K (x :: l) = openR K l := by simp [openR, h]
        rw [ho] at hq
        simp only [h, decide_true, Bool.not_true, c29o23, e3, hcast, wpC, wpI, wpS, wpD, wpV, wanted_none, wanted_some, vals, cev_const, cev_var, cev_loc, padV, okV_some, againP, true_and, and_true, upd_zero, upd_succ, nth_zero, nth_succ, wpG_true, wpG_false, condK_true, condK_false, seqK_normal, seqK_ret, seqK_exit, inBlock_normal, inBlock_ret, inBlock_exit, ends_ret, ends_normal, unmark_nil, results_nil, results_cons, one_one, one_zero, one_two, isB_undef, isB_tt, isB_ff, Bool.not_true, Bool.not_false, Option.bind_some, pick3, pickA, extractA, List.getElem?_cons_zero, List.getElem?_cons_succ, bin_lss, bin_gtr, bin_leq, bin_geq, bin_eql, bin_neq, un_not]
        exact ih (k + 1) opn O _ v9 s _ _ _ _ _ _ _ _ hd' hlt (by omega) hd hO hold hq
      · have ho : openR K (x :: l) = x :: openR K l := by simp [openR, h]
        rw [ho] at hq
        have b1 := bld_one (P := Try.prog) (t := 23) (v := iv x) Try.underlying23 sz3 zr3 rfl rfl
        obtain ⟨v', s', O', p1, p2, p3, p4, p5⟩ := push_int hd (by omega) x
        have hmv : ∀ (m : Nat) (i : Nat), Made.val i (.slice m) = .slice (some (i, 0)) m (some m) := fun _ _ => rfl
        simp only [h, decide_false, Bool.not_false, c29o22, e1, ld hold, b1, hmv, p1, c29o23, e3, hcast, wpC, wpI, wpS, wpD, wpV, wanted_none, wanted_some, vals, cev_const, cev_var, cev_loc, padV, okV_some, againP, true_and, and_true, upd_zero, upd_succ, nth_zero, nth_succ, wpG_true, wpG_false, condK_true, condK_false, seqK_normal, seqK_ret, seqK_exit, inBlock_normal, inBlock_ret, inBlock_exit, ends_ret, ends_normal, unmark_nil, results_nil, results_cons, one_one, one_zero, one_two, isB_undef, isB_tt, isB_ff, Bool.not_true, Bool.not_false, Option.bind_some, pick3, pickA, extractA, List.getElem?_cons_zero, List.getElem?_cons_succ, bin_lss, bin_gtr, bin_leq, bin_geq, bin_eql, bin_neq, un_not]
        have hold' : Old n1 s1 s' := hold.trans ⟨p3, fun j hj => p4 j (by have := hold.1; omega) (fun hm => by have := hO j hm; omega)⟩
        have ha : opn ++ x :: openR K l = (opn ++ [x]) ++ openR K l := by simp
        rw [ha] at hq
        exact ih (k + 1) (opn ++ [x]) O' _ v' s' _ _ _ _ _ _ _ _ hd' hlt (by simp; omega) p2 (fun j hj => (p5 j hj).elim (hO j) (fun h => by have := hold.1; omega)) hold' hq
    refine WC.loop' ?_
    cases holds with
    | true =>
      simp only [c29l24, c29o19, c29o20, len_slice Try.underlying23, hkk, Bool.true_eq_false, beq_self_eq_true, wpC, wpI, wpS, wpD, wpV, wanted_none, wanted_some, vals, cev_const, cev_var, cev_loc, padV, okV_some, againP, true_and, and_true, upd_zero, upd_succ, nth_zero, nth_succ, wpG_true, wpG_false, condK_true, condK_false, seqK_normal, seqK_ret, seqK_exit, inBlock_normal, inBlock_ret, inBlock_exit, ends_ret, ends_normal, unmark_nil, results_nil, results_cons, one_one, one_zero, one_two, isB_undef, isB_tt, isB_ff, Bool.not_true, Bool.not_false, Option.bind_some, pick3, pickA, extractA, List.getElem?_cons_zero, List.getElem?_cons_succ, bin_lss, bin_gtr, bin_leq, bin_geq, bin_eql, bin_neq, un_not]
      have := rest true
      simp only [wpC, wpI, wpS, wpD, wpV, wanted_none, wanted_some, vals, cev_const, cev_var, cev_loc, padV, okV_some, againP, true_and, and_true, upd_zero, upd_succ, nth_zero, nth_succ, wpG_true, wpG_false, condK_true, condK_false, seqK_normal, seqK_ret, seqK_exit, inBlock_normal, inBlock_ret, inBlock_exit, ends_ret, ends_normal, unmark_nil, results_nil, results_cons, one_one, one_zero, one_two, isB_undef, isB_tt, isB_ff, Bool.not_true, Bool.not_false, Option.bind_some, pick3, pickA, extractA, List.getElem?_cons_zero, List.getElem?_cons_succ, bin_lss, bin_gtr, bin_leq, bin_geq, bin_eql, bin_neq, un_not] at this
      exact this _ _ _ _ _ _ _ _ (by simp)
    | false =>
      simp only [c29l24, c29o19, c29o20, len_slice Try.underlying23, hkk, beq_self_eq_true, e1, ld hold, wpC, wpI, wpS, wpD, wpV, wanted_none, wanted_some, vals, cev_const, cev_var, cev_loc, padV, okV_some, againP, true_and, and_true, upd_zero, upd_succ, nth_zero, nth_succ, wpG_true, wpG_false, condK_true, condK_false, seqK_normal, seqK_ret, seqK_exit, inBlock_normal, inBlock_ret, inBlock_exit, ends_ret, ends_normal, unmark_nil, results_nil, results_cons, one_one, one_zero, one_two, isB_undef, isB_tt, isB_ff, Bool.not_true, Bool.not_false, Option.bind_some, pick3, pickA, extractA, List.getElem?_cons_zero, List.getElem?_cons_succ, bin_lss, bin_gtr, bin_leq, bin_geq, bin_eql, bin_neq, un_not]
      refine (in_ok hE (by omega) hKs x).mono ?_
      rintro _ _ ⟨rfl, rfl⟩
      simp only [wpC, wpI, wpS, wpD, wpV, wanted_none, wanted_some, vals, cev_const, cev_var, cev_loc, padV, okV_some, againP, true_and, and_true, upd_zero, upd_succ, nth_zero, nth_succ, wpG_true, wpG_false, condK_true, condK_false, seqK_normal, seqK_ret, seqK_exit, inBlock_normal, inBlock_ret, inBlock_exit, ends_ret, ends_normal, unmark_nil, results_nil, results_cons, one_one, one_zero, one_two, isB_undef, isB_tt, isB_ff, Bool.not_true, Bool.not_false, Option.bind_some, pick3, pickA, extractA, List.getElem?_cons_zero, List.getElem?_cons_succ, bin_lss, bin_gtr, bin_leq, bin_geq, bin_eql, bin_neq, un_not]
      have := rest (decide (x ∈ K))
      simp only [wpC, wpI, wpS, wpD, wpV, wanted_none, wanted_some, vals, cev_const, cev_var, cev_loc, padV, okV_some, againP, true_and, and_true, upd_zero, upd_succ, nth_zero, nth_succ, wpG_true, wpG_false, condK_true, condK_false, seqK_normal, seqK_ret, seqK_exit, inBlock_normal, inBlock_ret, inBlock_exit, ends_ret, ends_normal, unmark_nil, results_nil, results_cons, one_one, one_zero, one_two, isB_undef, isB_tt, isB_ff, Bool.not_true, Bool.not_false, Option.bind_some, pick3, pickA, extractA, List.getElem?_cons_zero, List.getElem?_cons_succ, bin_lss, bin_gtr, bin_leq, bin_geq, bin_eql, bin_neq, un_not] at this
      exact this _ _ _ _ _ _ _ _ (by simp)
end Go.Proofs.Ytilhhmkdcoajnaa.Am

/- What the reference's function Follows of layer 20 computes: its loops; conditions: the numbers fit. -/
set_option linter.unusedVariables false
set_option linter.unusedSimpArgs false
namespace Go.Proofs.Ytilhhmkdcoajnaa.Am
open Go Go.Proofs

def passR (K : List Int) : List (List Int) → Bool → Option (List Int × Bool)
  | [], more => some (K, more)
  | c :: cs, more => match openR K (cleanV [] c) with
    | [] => none
    | [y] => bif holdsR K (cleanV [] c) then passR K cs more else passR (K ++ [y]) cs true
    | _ => passR K cs more
def loopR (cs : List (List Int)) : Nat → List Int → Option Bool
  | 0, _ => none
  | n + 1, K => match passR K cs false with
    | none => some true
    | some (K', true) => loopR cs n K'
    | some (_, false) => some false
/-- What is known at first, of a clean clause: none: it always holds. -/
def initR (C : List Int) (K : List Int) : List Int → Option (List Int)
  | [] => some K
  | x :: l => if -x ∈ C then none else initR C (K ++ [-x]) l
def followsR (n : Nat) (cs : List (List Int)) (c : List Int) : Option Bool := match initR (cleanV [] c) [] (cleanV [] c) with
  | none => some true
  | some K => loopR cs n K

theorem insV_mem {x y : Int} {L : List Int} (h : y ∈ insV x L) : y = x ∨ y ∈ L := by
  unfold insV at h
  split at h
  · exact .inr h
  · rcases List.mem_append.1 h with h | h
    · exact .inr (List.mem_of_mem_take h)
    · rcases List.mem_cons.1 h with h | h
      · exact .inl h
      · exact .inr (List.mem_of_mem_drop h)
theorem cleanV_mem : ∀ (l out : List Int) (y : Int), y ∈ cleanV out l → y ∈ out ∨ (y ∈ l ∧ nullV y = false)
  | [], out, y, h => .inl h
  | x :: l, out, y, h => by
    simp only [cleanV] at h
    rcases cleanV_mem l _ y h with h | ⟨h, h'⟩
    · cases hn : nullV x with
      | true => rw [hn] at h; exact .inl h
      | false =>
        rw [hn] at h
        rcases insV_mem h with rfl | h
        · exact .inr ⟨List.mem_cons_self, hn⟩
        · exact .inl h
    · exact .inr ⟨List.mem_cons_of_mem _ h, h'⟩
theorem clean_neg {c : List Int} (hc : I64s c) : ∀ x ∈ cleanV [] c, i64 (-x) := by
  intro x hx
  rcases cleanV_mem c [] x hx with h | ⟨h, h'⟩
  · cases h
  · obtain ⟨h1, h2⟩ := hc x h
    simp only [nullV, decide_eq_false_iff_not] at h'
    exact ⟨by omega, by omega⟩
def FitsR (cs : List (List Int)) : Prop := cs.length ≤ 1000 ∧ ∀ L ∈ cs, I64s L ∧ L.length ≤ 1000

/-- What is known, in memory. -/
structure KnownR (n0 : Nat) (s0 s : ASt) (v : AV) (K : List Int) : Prop where
  ex : ∃ O, Dest s v K.length 1 (ivs K) O ∧ ∀ j ∈ O, n0 ≤ j
  old : Old n0 s0 s
theorem KnownR.slice {n0 : Nat} {s0 s : ASt} {v : AV} {K : List Int} (h : KnownR n0 s0 s v K) : SliceAt s.next s v (ivs K) := by
  obtain ⟨O, h1, _⟩ := h.ex
  obtain ⟨a, cap, h2, h3⟩ := h1.cells
  exact ⟨a, cap, by rw [List.length_map]; exact h2, h3⟩
theorem KnownR.more {n0 : Nat} {s0 s s' : ASt} {v : AV} {K : List Int} (h : KnownR n0 s0 s v K) (hn : n0 ≤ s.next) (k : Old s.next s s') : KnownR n0 s0 s' v K := by
  obtain ⟨O, h1, h2⟩ := h.ex
  exact ⟨⟨O, h1.frame k.1 fun j hj => k.2 j (h1.slot_lt j hj), h2⟩, h.old.trans (k.mono hn)⟩

set_option maxRecDepth 8000 in
theorem passR_loop {E : Env} (hE : Good E) {n0 : Nat} {s0 : ASt} (hn0 : n0 ≤ s0.next) {cs : List (List Int)} (hcs : FitsR cs) {a : Option (Nat × Nat)} {cap : Option Nat} (hr : RowsAt n0 s0 a cs) (v1 v4 v5 : AV) {Q : ARes → Prop} :
    ∀ (l : List (List Int)) (k : Nat) (K : List Int) (more : Bool) (v3 : AV) (s : ASt) (x2 x8 x9 x10 x11 x12 x13 x14 x15 x16 x17 x18 x19 : AV), cs.drop k = l → k ≤ cs.length → K.length + l.length ≤ 1000000000 → KnownR n0 s0 s v3 K →
      (match passR K l more with
        | none => ∀ s' y3 y6 y7 y8 y9 y10 y11 y12 y13 y14 y15 y16 y17 y18 y19, Old n0 s0 s' → Q ⟨.ret, [.slice a cs.length cap, v1, .bool true, y3, v4, v5, y6, y7, y8, y9, y10, y11, y12, y13, y14, y15, y16, y17, y18, y19], [], s'⟩
        | some (K', more') => ∀ s' v3' y2 y7 y8 y9 y10 y11 y12 y13 y14 y15 y16 y17 y18 y19, KnownR n0 s0 s' v3' K' → Q ⟨.exit 4, [.slice a cs.length cap, v1, y2, v3', v4, v5, .bool more', y7, y8, y9, y10, y11, y12, y13, y14, y15, y16, y17, y18, y19], [], s'⟩) →
      WC E none (.loop c29l31) Q [.slice a cs.length cap, v1, x2, v3, v4, v5, .bool more, iv (k : Int), x8, x9, x10, x11, x12, x13, x14, x15, x16, x17, x18, x19] [] s := by
  intro l
  induction l with
  | nil =>
    intro k K more v3 s x2 x8 x9 x10 x11 x12 x13 x14 x15 x16 x17 x18 x19 hd hk hl hmem hq
    have := drop_end hd hk
    subst this
    refine WC.loop' ?_
    simp only [c29l31, c29o14, len_slice Try.underlying22, Int.lt_irrefl, decide_false, wpC, wpI, wpS, wpD, wpV, wanted_none, wanted_some, vals, cev_const, cev_var, cev_loc, padV, okV_some, againP, true_and, and_true, upd_zero, upd_succ, nth_zero, nth_succ, wpG_true, wpG_false, condK_true, condK_false, seqK_normal, seqK_ret, seqK_exit, inBlock_normal, inBlock_ret, inBlock_exit, ends_ret, ends_normal, unmark_nil, results_nil, results_cons, one_one, one_zero, one_two, isB_undef, isB_tt, isB_ff, Bool.not_true, Bool.not_false, Option.bind_some, pick3, pickA, extractA, List.getElem?_cons_zero, List.getElem?_cons_succ, bin_lss, bin_gtr, bin_leq, bin_geq, bin_eql, bin_neq, un_not]
    exact hq s v3 _ _ _ _ _ _ _ _ _ _ _ _ _ _ hmem
  | cons L l ih =>
    intro k K more v3 s x2 x8 x9 x10 x11 x12 x13 x14 x15 x16 x17 x18 x19 hd hk hl hmem hq
    obtain ⟨hlt, hx, hd'⟩ := drop_facts hd
    obtain ⟨p, o, u, rfl, hp, hload, hu⟩ := hr k L hx
    obtain ⟨hL, hLl⟩ := hcs.2 L (List.mem_of_getElem? hx)
    have hns : n0 ≤ s.next := Nat.le_trans hn0 hmem.old.1
    have e1 := idx_slice (cap := cap) (i := p) (o := o) Try.underlying22 sz23 hlt
    have e2 : loadV Try.prog s 23 (.ptr (some (p, o + k * 1))) = some u := load_one ag23 (by rw [Nat.mul_one, load1_eq (hmem.old.2 p hp)]; exact hload)
    have hkk : decide ((k : Int) < (cs.length : Int)) = true := decide_eq_true (by omega)
    have hcl := hcs.1
    have e3 := bin_add Try.prog 3 (k : Int) 1 ⟨by omega, by omega⟩
    have hcast : ((k : Int) + 1) = ((k + 1 : Nat) : Int) := by omega
    refine WC.loop' ?_
    simp only [c29l31, c29o14, c29o15, len_slice Try.underlying22, hkk, e1, e2, wpC, wpI, wpS, wpD, wpV, wanted_none, wanted_some, vals, cev_const, cev_var, cev_loc, padV, okV_some, againP, true_and, and_true, upd_zero, upd_succ, nth_zero, nth_succ, wpG_true, wpG_false, condK_true, condK_false, seqK_normal, seqK_ret, seqK_exit, inBlock_normal, inBlock_ret, inBlock_exit, ends_ret, ends_normal, unmark_nil, results_nil, results_cons, one_one, one_zero, one_two, isB_undef, isB_tt, isB_ff, Bool.not_true, Bool.not_false, Option.bind_some, pick3, pickA, extractA, List.getElem?_cons_zero, List.getElem?_cons_succ, bin_lss, bin_gtr, bin_leq, bin_geq, bin_eql, bin_neq, un_not]
    refine (rclean_ok hE hL hLl hns (hu.old hmem.old (Nat.le_refl _))).mono ?_
    rintro v8 s1 ⟨O8, hd8, hold1⟩
    have hmem1 := hmem.more hns hold1
    obtain ⟨a8, cap8, rfl, hc8⟩ := hd8.cells
    have hcl8 : (cleanV [] L).length ≤ 1000 := by have := cleanV_len L []; simp at this; omega
    simp only [c29o16, c29o17, c29o18, wpC, wpI, wpS, wpD, wpV, wanted_none, wanted_some, vals, cev_const, cev_var, cev_loc, padV, okV_some, againP, true_and, and_true, upd_zero, upd_succ, nth_zero, nth_succ, wpG_true, wpG_false, condK_true, condK_false, seqK_normal, seqK_ret, seqK_exit, inBlock_normal, inBlock_ret, inBlock_exit, ends_ret, ends_normal, unmark_nil, results_nil, results_cons, one_one, one_zero, one_two, isB_undef, isB_tt, isB_ff, Bool.not_true, Bool.not_false, Option.bind_some, pick3, pickA, extractA, List.getElem?_cons_zero, List.getElem?_cons_succ, bin_lss, bin_gtr, bin_leq, bin_geq, bin_eql, bin_neq, un_not]
    refine open_loop hE (Nat.le_refl s1.next) (by simp at hl; omega) hmem1.slice (clean_neg hL) hcl8 hc8 _ _ _ _ _ _ _ (cleanV [] L) 0 [] [] false _ s1 _ _ _ _ _ _ _ _ rfl (Nat.zero_le _) (Nat.le_refl _) (Dest.nil s1 1) (fun j hj => by cases hj) (Old.refl _ _) ?_
    intro s2 v9 O9 y11 y12 y13 y14 y15 y16 y17 y18 y19 hd9 hO9 hold2
    simp only [List.nil_append, Bool.false_or] at hd9 ⊢
    have hns1 : n0 ≤ s1.next := Nat.le_trans hns hold1.1
    have hmem2 := hmem1.more hns1 hold2
    have hns2 : n0 ≤ s2.next := Nat.le_trans hns1 hold2.1
    obtain ⟨a9, cap9, rfl, hc9⟩ := hd9.cells
    have hol : (openR K (cleanV [] L)).length ≤ 1000 := by have := List.length_filter_le (fun x => decide (-x ∉ K)) (cleanV [] L); unfold openR; omega
    simp only [if_true, c29o25, len_slice Try.underlying23, wpC, wpI, wpS, wpD, wpV, wanted_none, wanted_some, vals, cev_const, cev_var, cev_loc, padV, okV_some, againP, true_and, and_true, upd_zero, upd_succ, nth_zero, nth_succ, wpG_true, wpG_false, condK_true, condK_false, seqK_normal, seqK_ret, seqK_exit, inBlock_normal, inBlock_ret, inBlock_exit, ends_ret, ends_normal, unmark_nil, results_nil, results_cons, one_one, one_zero, one_two, isB_undef, isB_tt, isB_ff, Bool.not_true, Bool.not_false, Option.bind_some, pick3, pickA, extractA, List.getElem?_cons_zero, List.getElem?_cons_succ, bin_lss, bin_gtr, bin_leq, bin_geq, bin_eql, bin_neq, un_not]
    cases ho : openR K (cleanV [] L) with
    | nil =>
      have hpn : passR K (L :: l) more = none := by simp [passR, ho]
      rw [hpn] at hq
      simp only [List.length_nil, Int.natCast_zero, decide_true, c29o26, wpC, wpI, wpS, wpD, wpV, wanted_none, wanted_some, vals, cev_const, cev_var, cev_loc, padV, okV_some, againP, true_and, and_true, upd_zero, upd_succ, nth_zero, nth_succ, wpG_true, wpG_false, condK_true, condK_false, seqK_normal, seqK_ret, seqK_exit, inBlock_normal, inBlock_ret, inBlock_exit, ends_ret, ends_normal, unmark_nil, results_nil, results_cons, one_one, one_zero, one_two, isB_undef, isB_tt, isB_ff, Bool.not_true, Bool.not_false, Option.bind_some, pick3, pickA, extractA, List.getElem?_cons_zero, List.getElem?_cons_succ, bin_lss, bin_gtr, bin_leq, bin_geq, bin_eql, bin_neq, un_not]
      exact hq s2 _ _ _ _ _ _ _ _ _ _ _ _ _ _ _ hmem2.old
    | cons y l2 =>
      rw [ho] at hc9
      have hne : ¬ ((l2.length + 1 : Nat) : Int) = 0 := by omega
      have hne0 : decide ((1 : Int) = 0) = false := rfl
      have hne0' : decide (((0 + 1 : Nat) : Int) = 0) = false := rfl
      cases l2 with
      | nil =>
        cases hh : holdsR K (cleanV [] L) with
        | true =>
          have hpn : passR K (L :: l) more = passR K l more := by simp [passR, ho, hh]
          rw [hpn] at hq
          simp only [List.length_cons, List.length_nil, hne0, hne0', decide_false, c29o27, Bool.not_true, Bool.false_eq_true, beq_self_eq_true, c29o30, e3, hcast, wpC, wpI, wpS, wpD, wpV, wanted_none, wanted_some, vals, cev_const, cev_var, cev_loc, padV, okV_some, againP, true_and, and_true, upd_zero, upd_succ, nth_zero, nth_succ, wpG_true, wpG_false, condK_true, condK_false, seqK_normal, seqK_ret, seqK_exit, inBlock_normal, inBlock_ret, inBlock_exit, ends_ret, ends_normal, unmark_nil, results_nil, results_cons, one_one, one_zero, one_two, isB_undef, isB_tt, isB_ff, Bool.not_true, Bool.not_false, Option.bind_some, pick3, pickA, extractA, List.getElem?_cons_zero, List.getElem?_cons_succ, bin_lss, bin_gtr, bin_leq, bin_geq, bin_eql, bin_neq, un_not]
          exact ih (k + 1) K more v3 s2 _ _ _ _ _ _ _ _ _ _ _ _ _ hd' hlt (by simp at hl; omega) hmem2 hq
        | false =>
          have hpn : passR K (L :: l) more = passR (K ++ [y]) l true := by simp [passR, ho, hh]
          rw [hpn] at hq
          obtain ⟨j9, o9, rfl, hj9, hl9⟩ := hc9 0 (iv y) rfl
          have f1 := idx_slice (P := Try.prog) (t := 23) (cap := cap9) (i := j9) (o := o9) (len := 1) (k := 0) Try.underlying23 sz3 (by decide)
          have f2 : loadV Try.prog s2 3 (.ptr (some (j9, o9 + 0 * 1))) = some (iv y) := load_one ag3 (by simpa using hl9)
          have f1' : indexAddrA Try.prog 23 (.slice (some (j9, o9)) 1 cap9) (iv 0) = some (.ptr (some (j9, o9 + 0 * 1))) := f1
          have b1 := bld_one (P := Try.prog) (t := 23) (v := iv y) Try.underlying23 sz3 zr3 rfl rfl
          obtain ⟨O3, h31, h32⟩ := hmem2.ex
          obtain ⟨v3', s3, O3', p1, p2, p3, p4, p5⟩ := push_int h31 (by simp at hl; omega) y
          have hmv : ∀ (m : Nat) (i : Nat), Made.val i (.slice m) = .slice (some (i, 0)) m (some m) := fun _ _ => rfl
          have hlen1 : ((0 + 1 : Nat) : Int) = 1 := rfl
          simp only [List.length_cons, List.length_nil, hne0, hne0', decide_false, c29o27, Bool.not_false, beq_self_eq_true, len_slice Try.underlying23, hlen1, decide_true, c29o28, f1', f2, b1, hmv, p1, c29o29, c29o30, e3, hcast, wpC, wpI, wpS, wpD, wpV, wanted_none, wanted_some, vals, cev_const, cev_var, cev_loc, padV, okV_some, againP, true_and, and_true, upd_zero, upd_succ, nth_zero, nth_succ, wpG_true, wpG_false, condK_true, condK_false, seqK_normal, seqK_ret, seqK_exit, inBlock_normal, inBlock_ret, inBlock_exit, ends_ret, ends_normal, unmark_nil, results_nil, results_cons, one_one, one_zero, one_two, isB_undef, isB_tt, isB_ff, Bool.not_true, Bool.not_false, Option.bind_some, pick3, pickA, extractA, List.getElem?_cons_zero, List.getElem?_cons_succ, bin_lss, bin_gtr, bin_leq, bin_geq, bin_eql, bin_neq, un_not]
          refine ih (k + 1) (K ++ [y]) true v3' s3 _ _ _ _ _ _ _ _ _ _ _ _ _ hd' hlt (by simp at hl ⊢; omega) ⟨⟨O3', p2, fun j hj => (p5 j hj).elim (h32 j) (fun h => by omega)⟩, hmem2.old.trans ⟨p3, fun j hj => p4 j (by omega) (fun hm => by have := h32 j hm; omega)⟩⟩ hq
      | cons z l3 =>
        have hpn : passR K (L :: l) more = passR K l more := by simp [passR, ho]
        rw [hpn] at hq
        have hne1 : ¬ ((l3.length + 1 + 1 : Nat) : Int) = 1 := by omega
        have hne2 : ¬ ((l3.length + 1 + 1 : Nat) : Int) = 0 := by omega
        cases hh : holdsR K (cleanV [] L) with
        | true =>
          simp only [List.length_cons, hne2, decide_false, c29o27, Bool.not_true, Bool.false_beq, c29o30, e3, hcast, wpC, wpI, wpS, wpD, wpV, wanted_none, wanted_some, vals, cev_const, cev_var, cev_loc, padV, okV_some, againP, true_and, and_true, upd_zero, upd_succ, nth_zero, nth_succ, wpG_true, wpG_false, condK_true, condK_false, seqK_normal, seqK_ret, seqK_exit, inBlock_normal, inBlock_ret, inBlock_exit, ends_ret, ends_normal, unmark_nil, results_nil, results_cons, one_one, one_zero, one_two, isB_undef, isB_tt, isB_ff, Bool.not_true, Bool.not_false, Option.bind_some, pick3, pickA, extractA, List.getElem?_cons_zero, List.getElem?_cons_succ, bin_lss, bin_gtr, bin_leq, bin_geq, bin_eql, bin_neq, un_not]
          exact ih (k + 1) K more v3 s2 _ _ _ _ _ _ _ _ _ _ _ _ _ hd' hlt (by simp at hl; omega) hmem2 hq
        | false =>
          simp only [List.length_cons, hne2, hne1, decide_false, c29o27, Bool.not_false, beq_self_eq_true, len_slice Try.underlying23, c29o30, e3, hcast, wpC, wpI, wpS, wpD, wpV, wanted_none, wanted_some, vals, cev_const, cev_var, cev_loc, padV, okV_some, againP, true_and, and_true, upd_zero, upd_succ, nth_zero, nth_succ, wpG_true, wpG_false, condK_true, condK_false, seqK_normal, seqK_ret, seqK_exit, inBlock_normal, inBlock_ret, inBlock_exit, ends_ret, ends_normal, unmark_nil, results_nil, results_cons, one_one, one_zero, one_two, isB_undef, isB_tt, isB_ff, Bool.not_true, Bool.not_false, Option.bind_some, pick3, pickA, extractA, List.getElem?_cons_zero, List.getElem?_cons_succ, bin_lss, bin_gtr, bin_leq, bin_geq, bin_eql, bin_neq, un_not]
          exact ih (k + 1) K more v3 s2 _ _ _ _ _ _ _ _ _ _ _ _ _ hd' hlt (by simp at hl; omega) hmem2 hq
end Go.Proofs.Ytilhhmkdcoajnaa.Am

/- What the reference's function Follows of layer 20 computes; conditions: the numbers fit, and passes end. -/
set_option linter.unusedVariables false
set_option linter.unusedSimpArgs false
namespace Go.Proofs.Ytilhhmkdcoajnaa.Am
open Go Go.Proofs

theorem passR_len {cs : List (List Int)} : ∀ {l : List (List Int)} {K K' : List Int} {more more' : Bool}, passR K l more = some (K', more') → K'.length ≤ K.length + l.length := by
  intro l
  induction l with
  | nil => intro K K' more more' h; injection h with h; injection h with h1 h2; subst h1; simp
  | cons c l ih =>
    intro K K' more more' h
    unfold passR at h
    split at h
    · cases h
    · rename_i y hy
      cases hh : holdsR K (cleanV [] c) with
      | true => rw [hh] at h; have := ih h; simp; omega
      | false => rw [hh] at h; have := ih h; simp at this ⊢; omega
    · have := ih h; simp; omega

set_option maxRecDepth 8000 in
theorem moreR_loop {E : Env} (hE : Good E) {n0 : Nat} {s0 : ASt} (hn0 : n0 ≤ s0.next) {cs : List (List Int)} (hcs : FitsR cs) {a : Option (Nat × Nat)} {cap : Option Nat} (hr : RowsAt n0 s0 a cs) (v1 v4 v5 : AV) {Q : ARes → Prop} :
    ∀ (fuel : Nat) (K : List Int) (b : Bool) (v3 : AV) (s : ASt) (x2 x7 x8 x9 x10 x11 x12 x13 x14 x15 x16 x17 x18 x19 : AV), loopR cs fuel K = some b → K.length + fuel * cs.length ≤ 1000000000 → KnownR n0 s0 s v3 K →
      (∀ e s' y2 y3 y6 y7 y8 y9 y10 y11 y12 y13 y14 y15 y16 y17 y18 y19, Old n0 s0 s' → (e = .ret ∧ y2 = .bool true ∧ b = true ∨ e = .exit 2 ∧ b = false) → Q ⟨e, [.slice a cs.length cap, v1, y2, y3, v4, v5, y6, y7, y8, y9, y10, y11, y12, y13, y14, y15, y16, y17, y18, y19], [], s'⟩) →
      WC E none (.loop c29l32) Q [.slice a cs.length cap, v1, x2, v3, v4, v5, .bool true, x7, x8, x9, x10, x11, x12, x13, x14, x15, x16, x17, x18, x19] [] s := by
  intro fuel
  induction fuel with
  | zero => intro K b v3 s _ _ _ _ _ _ _ _ _ _ _ _ _ _ h; cases h
  | succ fuel ih =>
    intro K b v3 s x2 x7 x8 x9 x10 x11 x12 x13 x14 x15 x16 x17 x18 x19 hl hf hmem hq
    have hmul : (fuel + 1) * cs.length = fuel * cs.length + cs.length := Nat.succ_mul _ _
    refine WC.loop' ?_
    simp only [c29l32, c29o11, c29o12, c29o13, wpC, wpI, wpS, wpD, wpV, wanted_none, wanted_some, vals, cev_const, cev_var, cev_loc, padV, okV_some, againP, true_and, and_true, upd_zero, upd_succ, nth_zero, nth_succ, wpG_true, wpG_false, condK_true, condK_false, seqK_normal, seqK_ret, seqK_exit, inBlock_normal, inBlock_ret, inBlock_exit, ends_ret, ends_normal, unmark_nil, results_nil, results_cons, one_one, one_zero, one_two, isB_undef, isB_tt, isB_ff, Bool.not_true, Bool.not_false, Option.bind_some, pick3, pickA, extractA, List.getElem?_cons_zero, List.getElem?_cons_succ, bin_lss, bin_gtr, bin_leq, bin_geq, bin_eql, bin_neq, un_not]
    refine passR_loop hE hn0 hcs hr _ _ _ cs 0 K false v3 s _ _ _ _ _ _ _ _ _ _ _ _ _ rfl (Nat.zero_le _) (by omega) hmem ?_
    simp only [loopR] at hl
    split at hl
    · rename_i hp
      injection hl with hl
      subst hl
      rw [hp]
      intro s' y3 y6 y7 y8 y9 y10 y11 y12 y13 y14 y15 y16 y17 y18 y19 ho
      simp only [wpC, wpI, wpS, wpD, wpV, wanted_none, wanted_some, vals, cev_const, cev_var, cev_loc, padV, okV_some, againP, true_and, and_true, upd_zero, upd_succ, nth_zero, nth_succ, wpG_true, wpG_false, condK_true, condK_false, seqK_normal, seqK_ret, seqK_exit, inBlock_normal, inBlock_ret, inBlock_exit, ends_ret, ends_normal, unmark_nil, results_nil, results_cons, one_one, one_zero, one_two, isB_undef, isB_tt, isB_ff, Bool.not_true, Bool.not_false, Option.bind_some, pick3, pickA, extractA, List.getElem?_cons_zero, List.getElem?_cons_succ, bin_lss, bin_gtr, bin_leq, bin_geq, bin_eql, bin_neq, un_not]
      exact hq _ _ _ _ _ _ _ _ _ _ _ _ _ _ _ _ _ _ ho (.inl ⟨rfl, rfl, rfl⟩)
    · rename_i K' hp
      rw [hp]
      intro s' v3' y2 y7 y8 y9 y10 y11 y12 y13 y14 y15 y16 y17 y18 y19 ho
      simp only [if_true, wpC, wpI, wpS, wpD, wpV, wanted_none, wanted_some, vals, cev_const, cev_var, cev_loc, padV, okV_some, againP, true_and, and_true, upd_zero, upd_succ, nth_zero, nth_succ, wpG_true, wpG_false, condK_true, condK_false, seqK_normal, seqK_ret, seqK_exit, inBlock_normal, inBlock_ret, inBlock_exit, ends_ret, ends_normal, unmark_nil, results_nil, results_cons, one_one, one_zero, one_two, isB_undef, isB_tt, isB_ff, Bool.not_true, Bool.not_false, Option.bind_some, pick3, pickA, extractA, List.getElem?_cons_zero, List.getElem?_cons_succ, bin_lss, bin_gtr, bin_leq, bin_geq, bin_eql, bin_neq, un_not]
      have := passR_len (cs := cs) hp
      exact ih K' b v3' s' _ _ _ _ _ _ _ _ _ _ _ _ _ _ hl (by omega) ho hq
    · rename_i K' hp
      injection hl with hl
      subst hl
      rw [hp]
      intro s' v3' y2 y7 y8 y9 y10 y11 y12 y13 y14 y15 y16 y17 y18 y19 ho
      simp only [if_true, wpC, wpI, wpS, wpD, wpV, wanted_none, wanted_some, vals, cev_const, cev_var, cev_loc, padV, okV_some, againP, true_and, and_true, upd_zero, upd_succ, nth_zero, nth_succ, wpG_true, wpG_false, condK_true, condK_false, seqK_normal, seqK_ret, seqK_exit, inBlock_normal, inBlock_ret, inBlock_exit, ends_ret, ends_normal, unmark_nil, results_nil, results_cons, one_one, one_zero, one_two, isB_undef, isB_tt, isB_ff, Bool.not_true, Bool.not_false, Option.bind_some, pick3, pickA, extractA, List.getElem?_cons_zero, List.getElem?_cons_succ, bin_lss, bin_gtr, bin_leq, bin_geq, bin_eql, bin_neq, un_not]
      refine WC.loop' ?_
      simp only [c29l32, c29o11, wpC, wpI, wpS, wpD, wpV, wanted_none, wanted_some, vals, cev_const, cev_var, cev_loc, padV, okV_some, againP, true_and, and_true, upd_zero, upd_succ, nth_zero, nth_succ, wpG_true, wpG_false, condK_true, condK_false, seqK_normal, seqK_ret, seqK_exit, inBlock_normal, inBlock_ret, inBlock_exit, ends_ret, ends_normal, unmark_nil, results_nil, results_cons, one_one, one_zero, one_two, isB_undef, isB_tt, isB_ff, Bool.not_true, Bool.not_false, Option.bind_some, pick3, pickA, extractA, List.getElem?_cons_zero, List.getElem?_cons_succ, bin_lss, bin_gtr, bin_leq, bin_geq, bin_eql, bin_neq, un_not]
      exact hq _ _ _ _ _ _ _ _ _ _ _ _ _ _ _ _ _ _ ho.old (.inr ⟨rfl, rfl⟩)

set_option maxRecDepth 8000 in
theorem initR_loop {E : Env} (hE : Good E) {n0 : Nat} {s0 : ASt} (hn0 : n0 ≤ s0.next) {C : List Int} (hC : ∀ x ∈ C, i64 (-x)) (hCl : C.length ≤ 1000) {n1 : Nat} {s1 : ASt} {a : Option (Nat × Nat)} {cap : Option Nat} (hc : CellsAt n1 s1 a (ivs C)) (v0 v1 : AV) {Q : ARes → Prop} :
    ∀ (l : List Int) (k : Nat) (K : List Int) (v3 : AV) (s : ASt) (x2 x6 x7 x8 x9 x10 x11 x12 x13 x14 x15 x16 x17 x18 x19 : AV), C.drop k = l → k ≤ C.length → K.length ≤ k → KnownR n0 s0 s v3 K → (∃ O, Dest s v3 K.length 1 (ivs K) O ∧ (∀ j ∈ O, n0 ≤ j) ∧ ∀ j ∈ O, n1 ≤ j) → Old n1 s1 s → n1 ≤ s1.next →
      (match initR C K l with
        | none => ∀ s' y3 y5 y6 y7 y8 y9 y10 y11 y12 y13 y14 y15 y16 y17 y18 y19, Old n0 s0 s' → Q ⟨.ret, [v0, v1, .bool true, y3, .slice a C.length cap, y5, y6, y7, y8, y9, y10, y11, y12, y13, y14, y15, y16, y17, y18, y19], [], s'⟩
        | some K' => ∀ s' v3' y2 y5 y6 y7 y8 y9 y10 y11 y12 y13 y14 y15 y16 y17 y18 y19, KnownR n0 s0 s' v3' K' → K'.length ≤ C.length → Q ⟨.exit 0, [v0, v1, y2, v3', .slice a C.length cap, y5, y6, y7, y8, y9, y10, y11, y12, y13, y14, y15, y16, y17, y18, y19], [], s'⟩) →
      WC E none (.loop c29l9) Q [v0, v1, x2, v3, .slice a C.length cap, iv (k : Int), x6, x7, x8, x9, x10, x11, x12, x13, x14, x15, x16, x17, x18, x19] [] s := by
  intro l
  induction l with
  | nil =>
    intro k K v3 s x2 x6 x7 x8 x9 x10 x11 x12 x13 x14 x15 x16 x17 x18 x19 hd hk hKk hmem hex hold hn1 hq
    have := drop_end hd hk
    subst this
    refine WC.loop' ?_
    simp only [c29l9, c29o4, len_slice Try.underlying23, Int.lt_irrefl, decide_false, wpC, wpI, wpS, wpD, wpV, wanted_none, wanted_some, vals, cev_const, cev_var, cev_loc, padV, okV_some, againP, true_and, and_true, upd_zero, upd_succ, nth_zero, nth_succ, wpG_true, wpG_false, condK_true, condK_false, seqK_normal, seqK_ret, seqK_exit, inBlock_normal, inBlock_ret, inBlock_exit, ends_ret, ends_normal, unmark_nil, results_nil, results_cons, one_one, one_zero, one_two, isB_undef, isB_tt, isB_ff, Bool.not_true, Bool.not_false, Option.bind_some, pick3, pickA, extractA, List.getElem?_cons_zero, List.getElem?_cons_succ, bin_lss, bin_gtr, bin_leq, bin_geq, bin_eql, bin_neq, un_not]
    exact hq s v3 _ _ _ _ _ _ _ _ _ _ _ _ _ _ _ _ hmem hKk
  | cons x l ih =>
    intro k K v3 s x2 x6 x7 x8 x9 x10 x11 x12 x13 x14 x15 x16 x17 x18 x19 hd hk hKk hmem hex hold hn1 hq
    obtain ⟨hlt, hx, hd'⟩ := drop_facts hd
    have hxn := hC x (List.mem_of_getElem? hx)
    have hCs : SliceAt n1 s (.slice a C.length cap) (ivs C) := ⟨a, cap, by rw [List.length_map], hc.old hold (Nat.le_refl _)⟩
    obtain ⟨i, o, rfl, hi, hload⟩ := hc k _ (get_ivs hx)
    have e1 := idx_slice (cap := cap) (i := i) (o := o) Try.underlying23 sz3 hlt
    have e2 : loadV Try.prog s 3 (.ptr (some (i, o + k * 1))) = some (iv x) := load_one ag3 (by rw [Nat.mul_one, load1_eq (hold.2 i hi)]; exact hload)
    have hkk : decide ((k : Int) < (C.length : Int)) = true := decide_eq_true (by omega)
    have e3 := bin_add Try.prog 3 (k : Int) 1 ⟨by omega, by omega⟩
    have hcast : ((k : Int) + 1) = ((k + 1 : Nat) : Int) := by omega
    refine WC.loop' ?_
    simp only [c29l9, c29o4, c29o5, len_slice Try.underlying23, hkk, e1, e2, un_neg _ x hxn, wpC, wpI, wpS, wpD, wpV, wanted_none, wanted_some, vals, cev_const, cev_var, cev_loc, padV, okV_some, againP, true_and, and_true, upd_zero, upd_succ, nth_zero, nth_succ, wpG_true, wpG_false, condK_true, condK_false, seqK_normal, seqK_ret, seqK_exit, inBlock_normal, inBlock_ret, inBlock_exit, ends_ret, ends_normal, unmark_nil, results_nil, results_cons, one_one, one_zero, one_two, isB_undef, isB_tt, isB_ff, Bool.not_true, Bool.not_false, Option.bind_some, pick3, pickA, extractA, List.getElem?_cons_zero, List.getElem?_cons_succ, bin_lss, bin_gtr, bin_leq, bin_geq, bin_eql, bin_neq, un_not]
    refine (in_ok hE (by omega) hCs (-x)).mono ?_
    rintro _ _ ⟨rfl, rfl⟩
    by_cases h : -x ∈ C
    · have hp : initR C K (x :: l) = none := by simp [initR, h]
      rw [hp] at hq
      simp only [h, decide_true, c29o6, wpC, wpI, wpS, wpD, wpV, wanted_none, wanted_some, vals, cev_const, cev_var, cev_loc, padV, okV_some, againP, true_and, and_true, upd_zero, upd_succ, nth_zero, nth_succ, wpG_true, wpG_false, condK_true, condK_false, seqK_normal, seqK_ret, seqK_exit, inBlock_normal, inBlock_ret, inBlock_exit, ends_ret, ends_normal, unmark_nil, results_nil, results_cons, one_one, one_zero, one_two, isB_undef, isB_tt, isB_ff, Bool.not_true, Bool.not_false, Option.bind_some, pick3, pickA, extractA, List.getElem?_cons_zero, List.getElem?_cons_succ, bin_lss, bin_gtr, bin_leq, bin_geq, bin_eql, bin_neq, un_not]
      exact hq s _ _ _ _ _ _ _ _ _ _ _ _ _ _ _ _ hmem.old
    · have hp : initR C K (x :: l) = initR C (K ++ [-x]) l := by simp [initR, h]
      rw [hp] at hq
      obtain ⟨O3, h31, h32, h33⟩ := hex
      have b1 := bld_one (P := Try.prog) (t := 23) (v := iv (-x)) Try.underlying23 sz3 zr3 rfl rfl
      obtain ⟨v3', s3, O3', p1, p2, p3, p4, p5⟩ := push_int h31 (by omega) (-x)
      have hmv : ∀ (m : Nat) (i : Nat), Made.val i (.slice m) = .slice (some (i, 0)) m (some m) := fun _ _ => rfl
      have hns : n0 ≤ s.next := Nat.le_trans hn0 hmem.old.1
      have hns1 : n1 ≤ s.next := Nat.le_trans hn1 hold.1
      simp only [h, decide_false, c29o7, e1, e2, un_neg _ x hxn, b1, hmv, p1, c29o8, e3, hcast, wpC, wpI, wpS, wpD, wpV, wanted_none, wanted_some, vals, cev_const, cev_var, cev_loc, padV, okV_some, againP, true_and, and_true, upd_zero, upd_succ, nth_zero, nth_succ, wpG_true, wpG_false, condK_true, condK_false, seqK_normal, seqK_ret, seqK_exit, inBlock_normal, inBlock_ret, inBlock_exit, ends_ret, ends_normal, unmark_nil, results_nil, results_cons, one_one, one_zero, one_two, isB_undef, isB_tt, isB_ff, Bool.not_true, Bool.not_false, Option.bind_some, pick3, pickA, extractA, List.getElem?_cons_zero, List.getElem?_cons_succ, bin_lss, bin_gtr, bin_leq, bin_geq, bin_eql, bin_neq, un_not]
      have f0 : ∀ j ∈ O3', n0 ≤ j := fun j hj => (p5 j hj).elim (h32 j) (fun h => by omega)
      have f1 : ∀ j ∈ O3', n1 ≤ j := fun j hj => (p5 j hj).elim (h33 j) (fun h => by omega)
      exact ih (k + 1) (K ++ [-x]) v3' s3 _ _ _ _ _ _ _ _ _ _ _ _ _ _ _ hd' hlt (by simp; omega)
        ⟨⟨O3', p2, f0⟩, hmem.old.trans ⟨p3, fun j hj => p4 j (by omega) (fun hm => by have := h32 j hm; omega)⟩⟩ ⟨O3', p2, f0, f1⟩
        (hold.trans ⟨p3, fun j hj => p4 j (by omega) (fun hm => by have := h33 j hm; omega)⟩) hn1 hq

set_option maxRecDepth 8000 in
theorem rfollows_ok {E : Env} (hE : Good E) {s : ASt} {cs : List (List Int)} {c : List Int} (hcs : FitsR cs) (hc : I64s c) (hcl : c.length ≤ 1000) {n0 : Nat} (hn0 : n0 ≤ s.next) {v u : AV} (hr : RowsOf n0 s v cs) (hu : SliceAt n0 s u (ivs c)) {fuel : Nat} (hfu : fuel ≤ 100000) {b : Bool} (hf : followsR fuel cs c = some b) :
    WF E 29 [v, u] (fun r s' => r = .bool b ∧ Old s.next s s') s := by
  obtain ⟨a, cap, rfl, hr⟩ := hr
  refine hE.go comp29 (by decide) rfl ?_
  simp only [c29, c29o0, c29o1, c29o2, wpC, wpI, wpS, wpD, wpV, wanted_none, wanted_some, vals, cev_const, cev_var, cev_loc, padV, okV_some, againP, true_and, and_true, upd_zero, upd_succ, nth_zero, nth_succ, wpG_true, wpG_false, condK_true, condK_false, seqK_normal, seqK_ret, seqK_exit, inBlock_normal, inBlock_ret, inBlock_exit, ends_ret, ends_normal, unmark_nil, results_nil, results_cons, one_one, one_zero, one_two, isB_undef, isB_tt, isB_ff, Bool.not_true, Bool.not_false, Option.bind_some, pick3, pickA, extractA, List.getElem?_cons_zero, List.getElem?_cons_succ, bin_lss, bin_gtr, bin_leq, bin_geq, bin_eql, bin_neq, un_not]
  refine (rclean_ok hE hc hcl hn0 hu).mono ?_
  rintro v4 s1 ⟨O4, hd4, hold1⟩
  obtain ⟨a4, cap4, rfl, hc4⟩ := hd4.cells
  have hC := clean_neg hc
  have hCl : (cleanV [] c).length ≤ 1000 := by have := cleanV_len c []; simp at this; omega
  have hrs : RowsAt s.next s a cs := hr.mono hn0
  have hk0 : KnownR s.next s s1 (.slice none 0 (some 0)) [] := ⟨⟨[], Dest.nil s1 1, fun j hj => by cases hj⟩, hold1⟩
  simp only [c29o3, wpC, wpI, wpS, wpD, wpV, wanted_none, wanted_some, vals, cev_const, cev_var, cev_loc, padV, okV_some, againP, true_and, and_true, upd_zero, upd_succ, nth_zero, nth_succ, wpG_true, wpG_false, condK_true, condK_false, seqK_normal, seqK_ret, seqK_exit, inBlock_normal, inBlock_ret, inBlock_exit, ends_ret, ends_normal, unmark_nil, results_nil, results_cons, one_one, one_zero, one_two, isB_undef, isB_tt, isB_ff, Bool.not_true, Bool.not_false, Option.bind_some, pick3, pickA, extractA, List.getElem?_cons_zero, List.getElem?_cons_succ, bin_lss, bin_gtr, bin_leq, bin_geq, bin_eql, bin_neq, un_not]
  refine initR_loop hE (Nat.le_refl s.next) hC hCl hc4 _ _ (cleanV [] c) 0 [] _ s1 _ _ _ _ _ _ _ _ _ _ _ _ _ _ _ rfl (Nat.zero_le _) (Nat.le_refl _) hk0 ⟨[], Dest.nil s1 1, (fun j hj => by cases hj), (fun j hj => by cases hj)⟩ (Old.refl _ _) (Nat.le_refl _) ?_
  unfold followsR at hf
  cases hi : initR (cleanV [] c) [] (cleanV [] c) with
  | none =>
    rw [hi] at hf
    injection hf with hf
    subst hf
    intro s' y3 y5 y6 y7 y8 y9 y10 y11 y12 y13 y14 y15 y16 y17 y18 y19 ho
    simp only [wpC, wpI, wpS, wpD, wpV, wanted_none, wanted_some, vals, cev_const, cev_var, cev_loc, padV, okV_some, againP, true_and, and_true, upd_zero, upd_succ, nth_zero, nth_succ, wpG_true, wpG_false, condK_true, condK_false, seqK_normal, seqK_ret, seqK_exit, inBlock_normal, inBlock_ret, inBlock_exit, ends_ret, ends_normal, unmark_nil, results_nil, results_cons, one_one, one_zero, one_two, isB_undef, isB_tt, isB_ff, Bool.not_true, Bool.not_false, Option.bind_some, pick3, pickA, extractA, List.getElem?_cons_zero, List.getElem?_cons_succ, bin_lss, bin_gtr, bin_leq, bin_geq, bin_eql, bin_neq, un_not]
    exact ho
  | some K =>
    rw [hi] at hf
    have hf : loopR cs fuel K = some b := hf
    intro s' v3' y2 y5 y6 y7 y8 y9 y10 y11 y12 y13 y14 y15 y16 y17 y18 y19 hmem hKl
    simp only [if_true, c29o10, wpC, wpI, wpS, wpD, wpV, wanted_none, wanted_some, vals, cev_const, cev_var, cev_loc, padV, okV_some, againP, true_and, and_true, upd_zero, upd_succ, nth_zero, nth_succ, wpG_true, wpG_false, condK_true, condK_false, seqK_normal, seqK_ret, seqK_exit, inBlock_normal, inBlock_ret, inBlock_exit, ends_ret, ends_normal, unmark_nil, results_nil, results_cons, one_one, one_zero, one_two, isB_undef, isB_tt, isB_ff, Bool.not_true, Bool.not_false, Option.bind_some, pick3, pickA, extractA, List.getElem?_cons_zero, List.getElem?_cons_succ, bin_lss, bin_gtr, bin_leq, bin_geq, bin_eql, bin_neq, un_not]
    have hcs1 := hcs.1
    have hmul : fuel * cs.length ≤ 100000 * 1000 := Nat.mul_le_mul hfu hcs1
    refine moreR_loop hE (Nat.le_refl s.next) hcs hrs _ _ _ fuel K b v3' s' _ _ _ _ _ _ _ _ _ _ _ _ _ _ hf (by omega) hmem ?_
    intro e s4 y2 y3 y6 y7 y8 y9 y10 y11 y12 y13 y14 y15 y16 y17 y18 y19 ho4 he
    rcases he with ⟨rfl, rfl, rfl⟩ | ⟨rfl, rfl⟩
    · simp only [wpC, wpI, wpS, wpD, wpV, wanted_none, wanted_some, vals, cev_const, cev_var, cev_loc, padV, okV_some, againP, true_and, and_true, upd_zero, upd_succ, nth_zero, nth_succ, wpG_true, wpG_false, condK_true, condK_false, seqK_normal, seqK_ret, seqK_exit, inBlock_normal, inBlock_ret, inBlock_exit, ends_ret, ends_normal, unmark_nil, results_nil, results_cons, one_one, one_zero, one_two, isB_undef, isB_tt, isB_ff, Bool.not_true, Bool.not_false, Option.bind_some, pick3, pickA, extractA, List.getElem?_cons_zero, List.getElem?_cons_succ, bin_lss, bin_gtr, bin_leq, bin_geq, bin_eql, bin_neq, un_not]
      exact ho4
    · simp only [if_true, c29o33, wpC, wpI, wpS, wpD, wpV, wanted_none, wanted_some, vals, cev_const, cev_var, cev_loc, padV, okV_some, againP, true_and, and_true, upd_zero, upd_succ, nth_zero, nth_succ, wpG_true, wpG_false, condK_true, condK_false, seqK_normal, seqK_ret, seqK_exit, inBlock_normal, inBlock_ret, inBlock_exit, ends_ret, ends_normal, unmark_nil, results_nil, results_cons, one_one, one_zero, one_two, isB_undef, isB_tt, isB_ff, Bool.not_true, Bool.not_false, Option.bind_some, pick3, pickA, extractA, List.getElem?_cons_zero, List.getElem?_cons_succ, bin_lss, bin_gtr, bin_leq, bin_geq, bin_eql, bin_neq, un_not]
      exact ho4
end Go.Proofs.Ytilhhmkdcoajnaa.Am

/- What the reference's functions same, drop, all of layer 20 compute; conditions: the numbers fit. -/
set_option linter.unusedVariables false
set_option linter.unusedSimpArgs false
namespace Go.Proofs.Ytilhhmkdcoajnaa.Am
open Go Go.Proofs

theorem Dest.slice {s : ASt} {v : AV} {n : Nat} {cs : List AV} {O : List Nat} (hd : Dest s v n 1 cs O) : SliceAt s.next s v cs := by
  obtain ⟨a, cap, h1, h2⟩ := hd.cells
  have := hd.len
  exact ⟨a, cap, by rw [this, Nat.mul_one]; exact h1, h2⟩

/-! ### same -/
theorem list_ext_or {A B : List Int} (hl : A.length = B.length) {k : Nat} (hp : A.take k = B.take k) (hk : k = A.length) : A = B := by
  subst hk
  rw [List.take_length] at hp
  rw [hp, hl, List.take_length]

set_option maxRecDepth 8000 in
theorem same_loop {E : Env} (hE : Good E) {s : ASt} {b : Nat} {A B : List Int} (hl : A.length = B.length) (hA : A.length ≤ 1000000) {a1 a2 : Option (Nat × Nat)} {cap1 cap2 : Option Nat} (hc1 : CellsAt b s a1 (ivs A)) (hc2 : CellsAt b s a2 (ivs B)) (v0 v1 v6 : AV) {Q : ARes → Prop} :
    ∀ (l : List Int) (k : Nat) (x2 x7 x8 : AV), A.drop k = l → k ≤ A.length → A.take k = B.take k →
      (∀ (e : AExit) (y2 y3 y4 y5 y7 y8 : AV), (e = .ret ∧ A ≠ B ∧ y2 = .bool false ∨ e = .exit 0 ∧ A = B) → Q ⟨e, [v0, v1, y2, y3, y4, y5, v6, y7, y8], [], s⟩) →
      WC E none (.loop c89l9) Q [v0, v1, x2, .slice a1 A.length cap1, .slice a2 B.length cap2, iv (k : Int), v6, x7, x8] [] s := by
  intro l
  induction l with
  | nil =>
    intro k x2 x7 x8 hd hk hp hq
    have := drop_end hd hk
    subst this
    refine WC.loop' ?_
    simp only [c89l9, c89o5, len_slice Try.underlying23, Int.lt_irrefl, decide_false, wpC, wpI, wpS, wpD, wpV, wanted_none, wanted_some, vals, cev_const, cev_var, cev_loc, padV, okV_some, againP, true_and, and_true, upd_zero, upd_succ, nth_zero, nth_succ, wpG_true, wpG_false, condK_true, condK_false, seqK_normal, seqK_ret, seqK_exit, inBlock_normal, inBlock_ret, inBlock_exit, ends_ret, ends_normal, unmark_nil, results_nil, results_cons, one_one, one_zero, one_two, isB_undef, isB_tt, isB_ff, Bool.not_true, Bool.not_false, Option.bind_some, pick3, pickA, extractA, List.getElem?_cons_zero, List.getElem?_cons_succ, bin_lss, bin_gtr, bin_leq, bin_geq, bin_eql, bin_neq, un_not]
    exact hq _ _ _ _ _ _ _ (.inr ⟨rfl, list_ext_or hl hp rfl⟩)
  | cons x l ih =>
    intro k x2 x7 x8 hd hk hp hq
    obtain ⟨hlt, hx, hd'⟩ := drop_facts hd
    have hltB : k < B.length := by omega
    have hy : B[k]? = some B[k] := List.getElem?_eq_getElem hltB
    obtain ⟨i, o, rfl, hi, hload⟩ := hc1 k _ (get_ivs hx)
    obtain ⟨i2, o2, rfl, hi2, hload2⟩ := hc2 k _ (get_ivs hy)
    have e1 := idx_slice (cap := cap1) (i := i) (o := o) Try.underlying23 sz3 hlt
    have e2 : loadV Try.prog s 3 (.ptr (some (i, o + k * 1))) = some (iv x) := load_one ag3 (by rw [Nat.mul_one]; exact hload)
    have f1 := idx_slice (cap := cap2) (i := i2) (o := o2) Try.underlying23 sz3 hltB
    have f2 : loadV Try.prog s 3 (.ptr (some (i2, o2 + k * 1))) = some (iv B[k]) := load_one ag3 (by rw [Nat.mul_one]; exact hload2)
    have hkk : decide ((k : Int) < (A.length : Int)) = true := decide_eq_true (by omega)
    have e3 := bin_add Try.prog 3 (k : Int) 1 ⟨by omega, by omega⟩
    have hcast : ((k : Int) + 1) = ((k + 1 : Nat) : Int) := by omega
    refine WC.loop' ?_
    by_cases h : x = B[k]
    · have hne : decide (x ≠ B[k]) = false := decide_eq_false (fun q => q h)
      simp only [c89l9, c89o5, c89o6, len_slice Try.underlying23, hkk, e1, e2, f1, f2, hne, c89o8, e3, hcast, wpC, wpI, wpS, wpD, wpV, wanted_none, wanted_some, vals, cev_const, cev_var, cev_loc, padV, okV_some, againP, true_and, and_true, upd_zero, upd_succ, nth_zero, nth_succ, wpG_true, wpG_false, condK_true, condK_false, seqK_normal, seqK_ret, seqK_exit, inBlock_normal, inBlock_ret, inBlock_exit, ends_ret, ends_normal, unmark_nil, results_nil, results_cons, one_one, one_zero, one_two, isB_undef, isB_tt, isB_ff, Bool.not_true, Bool.not_false, Option.bind_some, pick3, pickA, extractA, List.getElem?_cons_zero, List.getElem?_cons_succ, bin_lss, bin_gtr, bin_leq, bin_geq, bin_eql, bin_neq, un_not]
      refine ih (k + 1) _ _ _ hd' hlt ?_ hq
      rw [List.take_succ_eq_append_getElem hlt, List.take_succ_eq_append_getElem hltB, hp]
      congr 2
      rw [← h]
      rw [List.getElem?_eq_getElem hlt] at hx
      injection hx
    · have hne : decide (x ≠ B[k]) = true := decide_eq_true h
      simp only [c89l9, c89o5, c89o6, len_slice Try.underlying23, hkk, e1, e2, f1, f2, hne, c89o7, wpC, wpI, wpS, wpD, wpV, wanted_none, wanted_some, vals, cev_const, cev_var, cev_loc, padV, okV_some, againP, true_and, and_true, upd_zero, upd_succ, nth_zero, nth_succ, wpG_true, wpG_false, condK_true, condK_false, seqK_normal, seqK_ret, seqK_exit, inBlock_normal, inBlock_ret, inBlock_exit, ends_ret, ends_normal, unmark_nil, results_nil, results_cons, one_one, one_zero, one_two, isB_undef, isB_tt, isB_ff, Bool.not_true, Bool.not_false, Option.bind_some, pick3, pickA, extractA, List.getElem?_cons_zero, List.getElem?_cons_succ, bin_lss, bin_gtr, bin_leq, bin_geq, bin_eql, bin_neq, un_not]
      refine hq _ _ _ _ _ _ _ (.inl ⟨rfl, fun q => ?_, rfl⟩)
      subst q
      rw [List.getElem?_eq_getElem hlt] at hx
      injection hx with hx
      exact h hx.symm

theorem same_ok {E : Env} (hE : Good E) {s : ASt} {b : Nat} {x y : List Int} (hx : I64s x) (hy : I64s y) (hxl : x.length ≤ 1000) (hyl : y.length ≤ 1000) {v u : AV} (hb : b ≤ s.next) (hv : SliceAt b s v (ivs x)) (hu : SliceAt b s u (ivs y)) :
    WF E 89 [v, u] (fun r s' => r = .bool (decide (cleanV [] x = cleanV [] y)) ∧ Old s.next s s') s := by
  refine hE.go comp89 (by decide) rfl ?_
  simp only [c89, c89o0, c89o1, wpC, wpI, wpS, wpD, wpV, wanted_none, wanted_some, vals, cev_const, cev_var, cev_loc, padV, okV_some, againP, true_and, and_true, upd_zero, upd_succ, nth_zero, nth_succ, wpG_true, wpG_false, condK_true, condK_false, seqK_normal, seqK_ret, seqK_exit, inBlock_normal, inBlock_ret, inBlock_exit, ends_ret, ends_normal, unmark_nil, results_nil, results_cons, one_one, one_zero, one_two, isB_undef, isB_tt, isB_ff, Bool.not_true, Bool.not_false, Option.bind_some, pick3, pickA, extractA, List.getElem?_cons_zero, List.getElem?_cons_succ, bin_lss, bin_gtr, bin_leq, bin_geq, bin_eql, bin_neq, un_not]
  refine (rclean_ok hE hx hxl hb hv).mono ?_
  rintro w1 s1 ⟨O1, d1, h1⟩
  simp only [wpC, wpI, wpS, wpD, wpV, wanted_none, wanted_some, vals, cev_const, cev_var, cev_loc, padV, okV_some, againP, true_and, and_true, upd_zero, upd_succ, nth_zero, nth_succ, wpG_true, wpG_false, condK_true, condK_false, seqK_normal, seqK_ret, seqK_exit, inBlock_normal, inBlock_ret, inBlock_exit, ends_ret, ends_normal, unmark_nil, results_nil, results_cons, one_one, one_zero, one_two, isB_undef, isB_tt, isB_ff, Bool.not_true, Bool.not_false, Option.bind_some, pick3, pickA, extractA, List.getElem?_cons_zero, List.getElem?_cons_succ, bin_lss, bin_gtr, bin_leq, bin_geq, bin_eql, bin_neq, un_not]
  refine (rclean_ok hE hy hyl (Nat.le_trans hb h1.1) (hu.old h1 hb)).mono ?_
  rintro w2 s2 ⟨O2, d2, h2⟩
  have d1' : Dest s2 w1 (cleanV [] x).length 1 (ivs (cleanV [] x)) O1 := d1.frame h2.1 fun j hj => h2.2 j (d1.slot_lt j hj)
  obtain ⟨a1, cap1, rfl, hc1⟩ := d1'.cells
  obtain ⟨a2, cap2, rfl, hc2⟩ := d2.cells
  have hold : Old s.next s s2 := h1.trans (h2.mono h1.1)
  have l1 : (cleanV [] x).length ≤ 1000 := by have := cleanV_len x []; simp at this; omega
  by_cases hl : (cleanV [] x).length = (cleanV [] y).length
  · have hne : decide (((cleanV [] x).length : Int) ≠ ((cleanV [] y).length : Int)) = false := decide_eq_false (fun q => q (by omega))
    simp only [c89o2, len_slice Try.underlying23, hne, c89o4, wpC, wpI, wpS, wpD, wpV, wanted_none, wanted_some, vals, cev_const, cev_var, cev_loc, padV, okV_some, againP, true_and, and_true, upd_zero, upd_succ, nth_zero, nth_succ, wpG_true, wpG_false, condK_true, condK_false, seqK_normal, seqK_ret, seqK_exit, inBlock_normal, inBlock_ret, inBlock_exit, ends_ret, ends_normal, unmark_nil, results_nil, results_cons, one_one, one_zero, one_two, isB_undef, isB_tt, isB_ff, Bool.not_true, Bool.not_false, Option.bind_some, pick3, pickA, extractA, List.getElem?_cons_zero, List.getElem?_cons_succ, bin_lss, bin_gtr, bin_leq, bin_geq, bin_eql, bin_neq, un_not]
    refine same_loop hE hl (by omega) hc1 hc2 _ _ _ (cleanV [] x) 0 _ _ _ rfl (Nat.zero_le _) rfl ?_
    rintro e y2 y3 y4 y5 y7 y8 (⟨rfl, h, rfl⟩ | ⟨rfl, h⟩)
    · simp only [wpC, wpI, wpS, wpD, wpV, wanted_none, wanted_some, vals, cev_const, cev_var, cev_loc, padV, okV_some, againP, true_and, and_true, upd_zero, upd_succ, nth_zero, nth_succ, wpG_true, wpG_false, condK_true, condK_false, seqK_normal, seqK_ret, seqK_exit, inBlock_normal, inBlock_ret, inBlock_exit, ends_ret, ends_normal, unmark_nil, results_nil, results_cons, one_one, one_zero, one_two, isB_undef, isB_tt, isB_ff, Bool.not_true, Bool.not_false, Option.bind_some, pick3, pickA, extractA, List.getElem?_cons_zero, List.getElem?_cons_succ, bin_lss, bin_gtr, bin_leq, bin_geq, bin_eql, bin_neq, un_not]
      exact ⟨by simp [h], hold⟩
    · simp only [if_true, c89o10, wpC, wpI, wpS, wpD, wpV, wanted_none, wanted_some, vals, cev_const, cev_var, cev_loc, padV, okV_some, againP, true_and, and_true, upd_zero, upd_succ, nth_zero, nth_succ, wpG_true, wpG_false, condK_true, condK_false, seqK_normal, seqK_ret, seqK_exit, inBlock_normal, inBlock_ret, inBlock_exit, ends_ret, ends_normal, unmark_nil, results_nil, results_cons, one_one, one_zero, one_two, isB_undef, isB_tt, isB_ff, Bool.not_true, Bool.not_false, Option.bind_some, pick3, pickA, extractA, List.getElem?_cons_zero, List.getElem?_cons_succ, bin_lss, bin_gtr, bin_leq, bin_geq, bin_eql, bin_neq, un_not]
      exact ⟨by simp [h], hold⟩
  · have hne : decide (((cleanV [] x).length : Int) ≠ ((cleanV [] y).length : Int)) = true := decide_eq_true (by omega)
    simp only [c89o2, len_slice Try.underlying23, hne, c89o3, wpC, wpI, wpS, wpD, wpV, wanted_none, wanted_some, vals, cev_const, cev_var, cev_loc, padV, okV_some, againP, true_and, and_true, upd_zero, upd_succ, nth_zero, nth_succ, wpG_true, wpG_false, condK_true, condK_false, seqK_normal, seqK_ret, seqK_exit, inBlock_normal, inBlock_ret, inBlock_exit, ends_ret, ends_normal, unmark_nil, results_nil, results_cons, one_one, one_zero, one_two, isB_undef, isB_tt, isB_ff, Bool.not_true, Bool.not_false, Option.bind_some, pick3, pickA, extractA, List.getElem?_cons_zero, List.getElem?_cons_succ, bin_lss, bin_gtr, bin_leq, bin_geq, bin_eql, bin_neq, un_not]
    refine ⟨?_, hold⟩
    rw [decide_eq_false (fun q => hl (by rw [q]))]

/-! ### Rows of slices -/
/-- Cells that are slices of numbers, which lie below b. -/
def RowCells (b : Nat) (s : ASt) (us : List AV) (cs : List (List Int)) : Prop := us.length = cs.length ∧ ∀ (k : Nat) (L : List Int), cs[k]? = some L → ∃ u : AV, us[k]? = some u ∧ SliceAt b s u (ivs L)
theorem RowCells.old {b : Nat} {s s' : ASt} {us : List AV} {cs : List (List Int)} (h : RowCells b s us cs) (k : Old b s s') : RowCells b s' us cs :=
  ⟨h.1, fun j L hj => let ⟨u, h1, h2⟩ := h.2 j L hj; ⟨u, h1, h2.old k (Nat.le_refl _)⟩⟩
theorem RowCells.mono {b b' : Nat} {s : ASt} {us : List AV} {cs : List (List Int)} (h : RowCells b s us cs) (k : b ≤ b') : RowCells b' s us cs :=
  ⟨h.1, fun j L hj => let ⟨u, h1, h2⟩ := h.2 j L hj; ⟨u, h1, h2.mono k⟩⟩
theorem RowCells.nil (b : Nat) (s : ASt) : RowCells b s [] [] := ⟨rfl, fun k L h => by simp at h⟩
theorem RowCells.append {b : Nat} {s : ASt} {us us' : List AV} {cs cs' : List (List Int)} (h : RowCells b s us cs) (h' : RowCells b s us' cs') : RowCells b s (us ++ us') (cs ++ cs') := by
  refine ⟨by simp [h.1, h'.1], fun k L hk => ?_⟩
  rcases Nat.lt_or_ge k cs.length with hlt | hge
  · rw [List.getElem?_append_left hlt] at hk
    obtain ⟨u, h1, h2⟩ := h.2 k L hk
    exact ⟨u, by rw [List.getElem?_append_left (by rw [h.1]; exact hlt)]; exact h1, h2⟩
  · rw [List.getElem?_append_right hge] at hk
    obtain ⟨u, h1, h2⟩ := h'.2 _ L hk
    exact ⟨u, by rw [List.getElem?_append_right (by rw [h.1]; exact hge), h.1]; exact h1, h2⟩
theorem RowCells.take {b : Nat} {s : ASt} {us : List AV} {cs : List (List Int)} (h : RowCells b s us cs) (n : Nat) : RowCells b s (us.take n) (cs.take n) := by
  refine ⟨by simp [h.1], fun k L hk => ?_⟩
  rcases Nat.lt_or_ge k n with hlt | hge
  · rw [List.getElem?_take_of_lt hlt] at hk
    obtain ⟨u, h1, h2⟩ := h.2 k L hk
    exact ⟨u, by rw [List.getElem?_take_of_lt hlt]; exact h1, h2⟩
  · rw [List.getElem?_eq_none (by simp; omega)] at hk; cases hk
theorem RowCells.drop {b : Nat} {s : ASt} {us : List AV} {cs : List (List Int)} (h : RowCells b s us cs) (n : Nat) : RowCells b s (us.drop n) (cs.drop n) := by
  refine ⟨by simp [h.1], fun k L hk => ?_⟩
  rw [List.getElem?_drop] at hk
  obtain ⟨u, h1, h2⟩ := h.2 _ L hk
  exact ⟨u, by rw [List.getElem?_drop]; exact h1, h2⟩
theorem RowCells.one {b : Nat} {s : ASt} {u : AV} {L : List Int} (h : SliceAt b s u (ivs L)) : RowCells b s [u] [L] := by
  refine ⟨rfl, fun k L' hk => ?_⟩
  cases k with
  | zero => simp at hk; subst hk; exact ⟨u, rfl, h⟩
  | succ k => simp at hk
/-- Every cell is a slice. -/
theorem RowCells.cells {b : Nat} {s : ASt} {us : List AV} {cs : List (List Int)} (h : RowCells b s us cs) : allCells us = true := by
  have : ∀ (l : List AV), (∀ u ∈ l, u.isCell = true) → allCells l = true := by
    intro l
    induction l with
    | nil => intro _; rfl
    | cons u l ih => intro hl; simp only [allCells, Bool.and_eq_true]; exact ⟨hl u List.mem_cons_self, ih fun x hx => hl x (List.mem_cons_of_mem _ hx)⟩
  refine this us fun u hu => ?_
  obtain ⟨k, hk⟩ := List.mem_iff_getElem?.1 hu
  have hlt : k < us.length := by
    rcases Nat.lt_or_ge k us.length with h' | h'
    · exact h'
    · rw [List.getElem?_eq_none h'] at hk; cases hk
  have hlt2 : k < cs.length := by rw [← h.1]; exact hlt
  obtain ⟨u', h1, a, cap, h2, _⟩ := h.2 k cs[k] (List.getElem?_eq_getElem hlt2)
  rw [hk] at h1
  injection h1 with h1
  subst h1; subst h2
  rfl
theorem RowCells.rows {b c : Nat} {s : ASt} {us : List AV} {cs : List (List Int)} (h : RowCells b s us cs) {a : Option (Nat × Nat)} (hc : CellsAt c s a us) (hbc : b ≤ c) : RowsAt c s a cs := by
  intro k L hk
  obtain ⟨u, h1, h2⟩ := h.2 k L hk
  obtain ⟨i, o, h3, h4, h5⟩ := hc k u h1
  exact ⟨i, o, u, h3, h4, h5, h2.mono hbc⟩
end Go.Proofs.Ytilhhmkdcoajnaa.Am
