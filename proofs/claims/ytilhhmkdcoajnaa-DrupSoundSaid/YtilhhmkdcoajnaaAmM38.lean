/- What the reference's function Clauses of layer 20 computes; conditions: none but the reading of its argument. -/
import Derived.Test.YtilhhmkdcoajnaaAmM37
set_option linter.unusedVariables false
set_option linter.unusedSimpArgs false
namespace Go.Proofs.Ytilhhmkdcoajnaa.Am
open Go Go.Proofs

theorem bin_rem {P : Program} {t : TypeId} {k : IntKind} {a b : Int} (ha : 0 ≤ a) (hb : 0 < b) : binA P .rem t (.int k a) (.int k b) = some (.int k (a % b)) := by
  have hne : b ≠ 0 := by omega
  have e1 : a.tmod b = a % b := Int.tmod_eq_emod_of_nonneg ha
  have hk : sameKind k k = true := by cases k <;> rfl
  show guardB (sameKind k k) ((runP P (Op.intDiv .rem k a b)).bind ofValue) = _
  rw [hk]
  unfold Op.intDiv
  rw [if_neg hne, e1]
  rfl

abbrev i8v (n : Int) : AV := .int .i8 n
def i8 (n : Int) : Prop := -128 ≤ n ∧ n ≤ 127
theorem conv_i8 {s : ASt} {n : Int} (h : i8 n) : convA Try.prog s 77 3 (i8v n) = some (iv n) := by
  obtain ⟨h1, h2⟩ := h
  simp [convA, Try.underlying77, Try.underlying3, wrap_i64 (n := n) ⟨by omega, by omega⟩]
theorem max_i64 (a b : Int) : minMax true (iv a) [iv b] = some (iv (max a b)) := by
  show guardB true (some (AV.int .i64 (bif ltI a b then b else a))) = _
  rw [ltI_eq]
  by_cases h : a < b
  · rw [decide_eq_true h]; simp only [cond_true, guardB]; rw [Int.max_eq_right (by omega)]
  · rw [decide_eq_false h]; simp only [cond_false, guardB, cond_true]; rw [Int.max_eq_left (by omega)]

/-- The literal of a drawn number. -/
def litV (x : Int) : Int := if x < 0 then -(1 + max x (-x) % 6) else 1 + max x (-x) % 6
def rowV (l : List Int) : List Int := (l.take 5).map litV
def clausesV (l : List (List Int)) : List (List Int) := (l.take 20).map rowV
theorem litV_small {x : Int} : -6 ≤ litV x ∧ litV x ≤ 6 ∧ litV x ≠ 0 := by
  have h1 := Int.emod_nonneg (max x (-x)) (show (6 : Int) ≠ 0 by decide)
  have h2 := Int.emod_lt_of_pos (max x (-x)) (show (0 : Int) < 6 by decide)
  unfold litV
  split <;> omega
theorem rowV_fits (l : List Int) : I64s (rowV l) ∧ (rowV l).length ≤ 5 := by
  refine ⟨fun x hx => ?_, by simp [rowV]; omega⟩
  obtain ⟨y, _, rfl⟩ := List.mem_map.1 hx
  have := litV_small (x := y)
  exact ⟨by omega, by omega⟩
theorem clausesV_fits (l : List (List Int)) : FitsR (clausesV l) ∧ (clausesV l).length ≤ 20 := by
  have : (clausesV l).length ≤ 20 := by simp [clausesV]; omega
  refine ⟨⟨by omega, fun L hL => ?_⟩, this⟩
  obtain ⟨y, _, rfl⟩ := List.mem_map.1 hL
  have := rowV_fits y
  exact ⟨this.1, by omega⟩

/-- Rows of small numbers. -/
abbrev i8vs (l : List Int) : List AV := l.map i8v
def I8s (l : List Int) : Prop := ∀ x ∈ l, i8 x
def Rows8At (b : Nat) (s : ASt) (a : Option (Nat × Nat)) (ls : List (List Int)) : Prop := ∀ k L, ls[k]? = some L → ∃ i o u, a = some (i, o) ∧ i < b ∧ load1 s i (o + k) = some u ∧ SliceAt b s u (i8vs L)
def Rows8Of (b : Nat) (s : ASt) (v : AV) (ls : List (List Int)) : Prop := ∃ a cap, v = .slice a ls.length cap ∧ Rows8At b s a ls
theorem get_i8vs {l : List Int} {k : Nat} {x : Int} (h : l[k]? = some x) : (i8vs l)[k]? = some (i8v x) := by rw [List.getElem?_map, h]; rfl

/-- Cells that are slices, apart from some objects. -/
def AwayOf (O : List Nat) (us : List AV) : Prop := ∀ u ∈ us, ∀ j, slot u = some j → j ∉ O
theorem SliceAt.keep {b : Nat} {s s' : ASt} {u : AV} {cs : List AV} (h : SliceAt b s u cs) (k : ∀ j, slot u = some j → s'.heap.get j = s.heap.get j) : SliceAt b s' u cs := by
  obtain ⟨a, cap, rfl, hc⟩ := h
  refine ⟨a, cap, rfl, fun x y hy => ?_⟩
  obtain ⟨i, o, rfl, h2, h3⟩ := hc x y hy
  exact ⟨i, o, rfl, h2, by rw [load1_eq (k i rfl)]; exact h3⟩
theorem RowCells.keep {b : Nat} {s s' : ASt} {us : List AV} {cs : List (List Int)} (h : RowCells b s us cs) (k : ∀ u ∈ us, ∀ j, slot u = some j → s'.heap.get j = s.heap.get j) : RowCells b s' us cs :=
  ⟨h.1, fun j L hj => let ⟨u, h1, h2⟩ := h.2 j L hj; ⟨u, h1, h2.keep (k u (List.mem_of_getElem? h1))⟩⟩

/-- A cell is appended. -/
theorem push_cell {st e : TypeId} {by_ : Nat} (ht : Try.prog.underlying st = some (.slice e)) (hs : sizeT Try.prog e = some 1) (hb : bytesT Try.prog e = some by_) (hby : by_ ≤ 100) (hx : isSliceOrStr Try.prog st = true) (hz : zeroOk Try.prog e 1 = true) {s : ASt} {v : AV} {n : Nat} {us : List AV} {O : List Nat} (hd : Dest s v n 1 us O) (hl : n ≤ 1000000000) {x : AV} (hc : x.isCell = true) :
    ∃ v' s' O', appendA Try.prog (newObj s (mkRow e 1 [x])) [st, st] [v, .slice (some (s.next, 0)) 1 (some 1)] = some (v', s') ∧ Dest s' v' (n + 1) 1 (us ++ [x]) O' ∧ s.next ≤ s'.next ∧
      (∀ j, j < s.next → j ∉ O → s'.heap.get j = s.heap.get j) ∧ (∀ j ∈ O', j ∈ O ∨ s.next < j) := by
  have c1 := src_one (P := Try.prog) (e := e) (s := newObj s (mkRow e 1 [x])) (n := 1) (cap := some 1) (sz := 1) e 1 (by rw [heap_new, if_pos rfl]) rfl
  have hmul : (n + 1) * by_ ≤ (n + 1) * 100 := Nat.mul_le_mul_left _ hby
  obtain ⟨v', s', O', h1, h2, h3, h4, h5, h6, h7⟩ := (hd.new (mkRow e 1 [x])).append (P := Try.prog) (st := st) (xt := st) ht hs hb (by decide) hx hz c1 rfl (by simp [allCells, hc]) (by omega) (by omega)
  have hn : (newObj s (mkRow e 1 [x])).next = s.next + 1 := rfl
  refine ⟨v', s', O', h1, h2, by omega, ?_, ?_⟩
  · intro j hj ho
    rw [h5 j (by omega) ho, heap_new, if_neg (by omega)]
  · intro j hj
    exact (h6 j hj).imp id (fun h => by omega)

theorem push_int' {s : ASt} {v : AV} {L : List Int} {O : List Nat} (hd : Dest s v L.length 1 (ivs L) O) (hl : L.length ≤ 1000000000) (x : Int) :
    ∃ v' s' O', appendA Try.prog (newObj s (mkRow 3 1 [iv x])) [23, 23] [v, .slice (some (s.next, 0)) 1 (some 1)] = some (v', s') ∧ Dest s' v' (L ++ [x]).length 1 (ivs (L ++ [x])) O' ∧ s.next ≤ s'.next ∧
      (∀ j, j < s.next → j ∉ O → s'.heap.get j = s.heap.get j) ∧ (∀ j ∈ O', j ∈ O ∨ s.next ≤ j) ∧ (∀ j, slot v' = some j → slot v = some j ∨ s.next ≤ j) := by
  have c1 := src_one (P := Try.prog) (e := 3) (s := newObj s (mkRow 3 1 [iv x])) (n := 1) (cap := some 1) (sz := 1) 3 1 (by rw [heap_new, if_pos rfl]) rfl
  obtain ⟨v', s', O', h1, h2, h3, h4, h5, h6, h7⟩ := (hd.new (mkRow 3 1 [iv x])).append (P := Try.prog) (st := 23) (xt := 23) Try.underlying23 sz3 by3 (by decide) (strx 23 3 Try.underlying23) zero3 c1 rfl rfl (by omega) (by omega)
  have hn : (newObj s (mkRow 3 1 [iv x])).next = s.next + 1 := rfl
  refine ⟨v', s', O', h1, ?_, by omega, ?_, ?_, ?_⟩
  · simpa using h2
  · intro j hj ho
    rw [h5 j (by omega) ho, heap_new, if_neg (by omega)]
  · intro j hj
    exact (h6 j hj).imp id (fun h => by omega)
  · intro j hj
    exact (h7 j hj).imp id (fun h => by omega)

set_option maxRecDepth 8000 in
theorem lits_loop {E : Env} (hE : Good E) {n1 : Nat} {s1 : ASt} (hn1 : n1 ≤ s1.next) {L : List Int} (hL : I8s L) (hLl : L.length < 9223372036854775808) {a : Option (Nat × Nat)} {cap : Option Nat} (hc : CellsAt n1 s1 a (i8vs L)) {v0 p : AV} {i4 : Nat}
    (g1 : indexAddrA Try.prog 30 v0 (iv (i4 : Int)) = some p) (g2 : ∀ s, Old n1 s1 s → loadV Try.prog s 76 p = some (.slice a L.length cap)) (v2 v3 v9 : AV) {Q : ARes → Prop} :
    ∀ (m k : Nat) (out : List Int) (O : List Nat) (v5 : AV) (s : ASt) (x7 x8 x10 x11 : AV), m = 5 - k → k ≤ L.length → k ≤ 5 → out = (L.take k).map litV → Dest s v5 out.length 1 (ivs out) O → ((∀ j ∈ O, n1 ≤ j) ∧ ∀ j, slot v5 = some j → n1 ≤ j) → Old n1 s1 s →
      (∀ s' v' O' y6 y7 y8 y10 y11, Dest s' v' (rowV L).length 1 (ivs (rowV L)) O' → ((∀ j ∈ O', n1 ≤ j) ∧ ∀ j, slot v' = some j → n1 ≤ j) → Old n1 s1 s' → Q ⟨.exit 2, [v0, iv 6, v2, v3, iv (i4 : Int), v', y6, y7, y8, v9, y10, y11], [], s'⟩) →
      WC E none (.loop c22l13) Q [v0, iv 6, v2, v3, iv (i4 : Int), v5, iv (k : Int), x7, x8, v9, x10, x11] [] s := by
  intro m
  induction m with
  | zero =>
    intro k out O v5 s x7 x8 x10 x11 hm hk hk5 ho hd hO hold hq
    have hke : k = 5 := by omega
    subst hke
    have : out = rowV L := ho
    subst this
    refine WC.loop' ?_
    by_cases hlt : (5 : Int) < (L.length : Int)
    · simp only [c22l13, c22o6, g1, g2 s hold, len_slice Try.underlying76, hlt, decide_true, show ((5 : Nat) : Int) = 5 from rfl, beq_self_eq_true, Int.lt_irrefl, decide_false, wpC, wpI, wpS, wpD, wpV, wanted_none, wanted_some, vals, cev_const, cev_var, cev_loc, padV, okV_some, againP, true_and, and_true, upd_zero, upd_succ, nth_zero, nth_succ, wpG_true, wpG_false, condK_true, condK_false, seqK_normal, seqK_ret, seqK_exit, inBlock_normal, inBlock_ret, inBlock_exit, ends_ret, ends_normal, unmark_nil, results_nil, results_cons, one_one, one_zero, one_two, isB_undef, isB_tt, isB_ff, Bool.not_true, Bool.not_false, Option.bind_some, pick3, pickA, extractA, List.getElem?_cons_zero, List.getElem?_cons_succ, bin_lss, bin_gtr, bin_leq, bin_geq, bin_eql, bin_neq, un_not]
      exact hq s v5 O _ _ _ _ _ hd hO hold
    · simp only [c22l13, c22o6, g1, g2 s hold, len_slice Try.underlying76, hlt, show ((5 : Nat) : Int) = 5 from rfl, decide_false, Bool.false_eq_true, Bool.false_beq, Bool.not_true, wpC, wpI, wpS, wpD, wpV, wanted_none, wanted_some, vals, cev_const, cev_var, cev_loc, padV, okV_some, againP, true_and, and_true, upd_zero, upd_succ, nth_zero, nth_succ, wpG_true, wpG_false, condK_true, condK_false, seqK_normal, seqK_ret, seqK_exit, inBlock_normal, inBlock_ret, inBlock_exit, ends_ret, ends_normal, unmark_nil, results_nil, results_cons, one_one, one_zero, one_two, isB_undef, isB_tt, isB_ff, Bool.not_true, Bool.not_false, Option.bind_some, pick3, pickA, extractA, List.getElem?_cons_zero, List.getElem?_cons_succ, bin_lss, bin_gtr, bin_leq, bin_geq, bin_eql, bin_neq, un_not]
      exact hq s v5 O _ _ _ _ _ hd hO hold
  | succ m ih =>
    intro k out O v5 s x7 x8 x10 x11 hm hk hk5 ho hd hO hold hq
    have hk4 : k < 5 := by omega
    refine WC.loop' ?_
    by_cases hlt : k < L.length
    · have hx : L[k]? = some L[k] := List.getElem?_eq_getElem hlt
      have hxi := hL L[k] (List.getElem_mem _)
      obtain ⟨i, o, rfl, hi, hload⟩ := hc k _ (get_i8vs hx)
      have e1 := idx_slice (cap := cap) (i := i) (o := o) Try.underlying76 sz77 hlt
      have ld : ∀ {s' : ASt}, Old n1 s1 s' → loadV Try.prog s' 77 (.ptr (some (i, o + k * 1))) = some (i8v L[k]) := fun h => load_one ag77 (by rw [Nat.mul_one, load1_eq (h.2 i hi)]; exact hload)
      have hkk : decide ((k : Int) < (L.length : Int)) = true := decide_eq_true (by omega)
      have hkk5 : decide ((k : Int) < 5) = true := decide_eq_true (by omega)
      have e3 := bin_add Try.prog 3 (k : Int) 1 ⟨by omega, by omega⟩
      have hcast : ((k : Int) + 1) = ((k + 1 : Nat) : Int) := by omega
      obtain ⟨hx1, hx2⟩ := hxi
      have hneg := un_neg Try.prog L[k] ⟨by omega, by omega⟩
      have hmx : (0 : Int) ≤ max L[k] (-L[k]) := by omega
      have hrem := bin_rem (P := Try.prog) (t := 3) (k := .i64) hmx (show (0 : Int) < 6 by decide)
      have h6 := Int.emod_lt_of_pos (max L[k] (-L[k])) (show (0 : Int) < 6 by decide)
      have h6' := Int.emod_nonneg (max L[k] (-L[k])) (show (6 : Int) ≠ 0 by decide)
      have hadd := bin_add Try.prog 3 1 (max L[k] (-L[k]) % 6) ⟨by omega, by omega⟩
      have hneg2 := un_neg Try.prog (1 + max L[k] (-L[k]) % 6) ⟨by omega, by omega⟩
      have hout' : out ++ [litV L[k]] = (L.take (k + 1)).map litV := by rw [ho, List.take_succ_eq_append_getElem hlt, List.map_append]; rfl
      have holen : out.length ≤ 5 := by rw [ho]; simp; omega
      have b1 : ∀ y : Int, sliceRowA Try.prog 23 1 (zipIdx [0] [iv y]) = some (mkRow 3 1 [iv y]) := fun y => bld_one Try.underlying23 sz3 zr3 rfl rfl
      have hmv : ∀ (m : Nat) (i : Nat), Made.val i (.slice m) = .slice (some (i, 0)) m (some m) := fun _ _ => rfl
      obtain ⟨v', s', O', p1, p2, p3, p4, p5, p6⟩ := push_int' hd (by omega) (litV L[k])
      have hold' : Old n1 s1 s' := hold.trans ⟨p3, fun j hj => p4 j (by have := hold.1; omega) (fun hm => by have := hO.1 j hm; omega)⟩
      have go : ∀ (w7 w8 w10 w11 : AV), WC E none (.loop c22l13) Q [v0, iv 6, v2, v3, iv (i4 : Int), v', iv ((k + 1 : Nat) : Int), w7, w8, v9, w10, w11] [] s' := fun w7 w8 w10 w11 =>
        ih (k + 1) (out ++ [litV L[k]]) O' v' s' _ _ _ _ (by omega) hlt (by omega) hout' p2 ⟨fun j hj => (p5 j hj).elim (hO.1 j) (fun h => by have := hold.1; omega), fun j hj => (p6 j hj).elim (hO.2 j) (fun h => by have := hold.1; omega)⟩ hold' hq
      by_cases hneg0 : L[k] < 0
      · have hlit : litV L[k] = -(1 + max L[k] (-L[k]) % 6) := by unfold litV; rw [if_pos hneg0]
        rw [hlit] at p1
        simp only [c22l13, c22o6, c22o7, c22o8, c22o9, c22o10, c22o11, c22o12, g1, g2 s hold, len_slice Try.underlying76, hkk, hkk5, beq_self_eq_true, e1, ld hold, conv_i8 ⟨hx1, hx2⟩, hneg, max_i64, hrem, hadd, hneg0, decide_true, hneg2, b1, hmv, p1, e3, hcast, wpC, wpI, wpS, wpD, wpV, wanted_none, wanted_some, vals, cev_const, cev_var, cev_loc, padV, okV_some, againP, true_and, and_true, upd_zero, upd_succ, nth_zero, nth_succ, wpG_true, wpG_false, condK_true, condK_false, seqK_normal, seqK_ret, seqK_exit, inBlock_normal, inBlock_ret, inBlock_exit, ends_ret, ends_normal, unmark_nil, results_nil, results_cons, one_one, one_zero, one_two, isB_undef, isB_tt, isB_ff, Bool.not_true, Bool.not_false, Option.bind_some, pick3, pickA, extractA, List.getElem?_cons_zero, List.getElem?_cons_succ, bin_lss, bin_gtr, bin_leq, bin_geq, bin_eql, bin_neq, un_not]
        exact go _ _ _ _
      · have hlit : litV L[k] = 1 + max L[k] (-L[k]) % 6 := by unfold litV; rw [if_neg hneg0]
        rw [hlit] at p1
        simp only [c22l13, c22o6, c22o7, c22o8, c22o9, c22o11, c22o12, g1, g2 s hold, len_slice Try.underlying76, hkk, hkk5, beq_self_eq_true, e1, ld hold, conv_i8 ⟨hx1, hx2⟩, hneg, max_i64, hrem, hadd, hneg0, decide_false, b1, hmv, p1, e3, hcast, wpC, wpI, wpS, wpD, wpV, wanted_none, wanted_some, vals, cev_const, cev_var, cev_loc, padV, okV_some, againP, true_and, and_true, upd_zero, upd_succ, nth_zero, nth_succ, wpG_true, wpG_false, condK_true, condK_false, seqK_normal, seqK_ret, seqK_exit, inBlock_normal, inBlock_ret, inBlock_exit, ends_ret, ends_normal, unmark_nil, results_nil, results_cons, one_one, one_zero, one_two, isB_undef, isB_tt, isB_ff, Bool.not_true, Bool.not_false, Option.bind_some, pick3, pickA, extractA, List.getElem?_cons_zero, List.getElem?_cons_succ, bin_lss, bin_gtr, bin_leq, bin_geq, bin_eql, bin_neq, un_not]
        exact go _ _ _ _
    · have hkl : k = L.length := by omega
      have hrow : out = rowV L := by rw [ho, hkl, List.take_length]; unfold rowV; rw [List.take_of_length_le (by omega)]
      subst hrow
      have hkk : decide ((k : Int) < (L.length : Int)) = false := decide_eq_false (by omega)
      simp only [c22l13, c22o6, g1, g2 s hold, len_slice Try.underlying76, hkk, Bool.false_beq, Bool.not_true, wpC, wpI, wpS, wpD, wpV, wanted_none, wanted_some, vals, cev_const, cev_var, cev_loc, padV, okV_some, againP, true_and, and_true, upd_zero, upd_succ, nth_zero, nth_succ, wpG_true, wpG_false, condK_true, condK_false, seqK_normal, seqK_ret, seqK_exit, inBlock_normal, inBlock_ret, inBlock_exit, ends_ret, ends_normal, unmark_nil, results_nil, results_cons, one_one, one_zero, one_two, isB_undef, isB_tt, isB_ff, Bool.not_true, Bool.not_false, Option.bind_some, pick3, pickA, extractA, List.getElem?_cons_zero, List.getElem?_cons_succ, bin_lss, bin_gtr, bin_leq, bin_geq, bin_eql, bin_neq, un_not]
      exact hq s v5 O _ _ _ _ _ hd hO hold
end Go.Proofs.Ytilhhmkdcoajnaa.Am

/- What the reference's function Clauses of layer 20 computes; conditions: none but the reading of its argument. -/
set_option linter.unusedVariables false
set_option linter.unusedSimpArgs false
namespace Go.Proofs.Ytilhhmkdcoajnaa.Am
open Go Go.Proofs

/-- Rows that are made: the outer slice, its cells, and what they hold; the inner slices lie apart from what an append changes, from lo on. -/
structure Made20 (lo : Nat) (s : ASt) (v : AV) (us : List AV) (cs : List (List Int)) (O : List Nat) : Prop where
  dest : Dest s v us.length 1 us O
  rows : RowCells s.next s us cs
  slots : ∀ u ∈ us, ∀ j, slot u = some j → lo ≤ j ∧ j < s.next ∧ j ∉ O
  own : ∀ j ∈ O, lo ≤ j

theorem Dest.isSlice {s : ASt} {v : AV} {n sz : Nat} {cs : List AV} {O : List Nat} (h : Dest s v n sz cs O) : v.isCell = true := by
  obtain ⟨a, cap, rfl, _⟩ := h.cells
  rfl
theorem slot_lt_of {b : Nat} {s : ASt} {u : AV} {cs : List AV} {O : List Nat} {n : Nat} (h : Dest s u n 1 cs O) : ∀ j, slot u = some j → j < s.next := h.slot_lt

set_option maxRecDepth 8000 in
theorem clauses_loop {E : Env} (hE : Good E) {s0 : ASt} {b : Nat} (hb : b ≤ s0.next) {ls : List (List Int)} (hls : ∀ L ∈ ls, I8s L ∧ L.length < 9223372036854775808) (hlen : ls.length < 9223372036854775808) {a : Option (Nat × Nat)} {cap : Option Nat} (hc : Rows8At b s0 a ls) (v2 : AV) {Q : ARes → Prop} :
    ∀ (m k : Nat) (us : List AV) (O : List Nat) (v3 : AV) (s : ASt) (x5 x6 x7 x8 x9 x10 x11 : AV), m = 20 - k → k ≤ ls.length → k ≤ 20 → Made20 s0.next s v3 us ((ls.take k).map rowV) O → Old s0.next s0 s →
      (∀ s' v' us' O' y4 y5 y6 y7 y8 y9 y10 y11, Made20 s0.next s' v' us' (clausesV ls) O' → Old s0.next s0 s' → Q ⟨.exit 0, [.slice a ls.length cap, iv 6, v2, v', y4, y5, y6, y7, y8, y9, y10, y11], [], s'⟩) →
      WC E none (.loop c22l16) Q [.slice a ls.length cap, iv 6, v2, v3, iv (k : Int), x5, x6, x7, x8, x9, x10, x11] [] s := by
  intro m
  induction m with
  | zero =>
    intro k us O v3 s x5 x6 x7 x8 x9 x10 x11 hm hk hk20 hmd hold hq
    have hke : k = 20 := by omega
    subst hke
    refine WC.loop' ?_
    by_cases hlt : (20 : Int) < (ls.length : Int)
    · simp only [c22l16, c22o3, len_slice Try.underlying30, hlt, decide_true, show ((20 : Nat) : Int) = 20 from rfl, beq_self_eq_true, Int.lt_irrefl, decide_false, wpC, wpI, wpS, wpD, wpV, wanted_none, wanted_some, vals, cev_const, cev_var, cev_loc, padV, okV_some, againP, true_and, and_true, upd_zero, upd_succ, nth_zero, nth_succ, wpG_true, wpG_false, condK_true, condK_false, seqK_normal, seqK_ret, seqK_exit, inBlock_normal, inBlock_ret, inBlock_exit, ends_ret, ends_normal, unmark_nil, results_nil, results_cons, one_one, one_zero, one_two, isB_undef, isB_tt, isB_ff, Bool.not_true, Bool.not_false, Option.bind_some, pick3, pickA, extractA, List.getElem?_cons_zero, List.getElem?_cons_succ, bin_lss, bin_gtr, bin_leq, bin_geq, bin_eql, bin_neq, un_not]
      exact hq s v3 us O _ _ _ _ _ _ _ _ hmd hold
    · simp only [c22l16, c22o3, len_slice Try.underlying30, hlt, show ((20 : Nat) : Int) = 20 from rfl, decide_false, Bool.false_beq, Bool.not_true, wpC, wpI, wpS, wpD, wpV, wanted_none, wanted_some, vals, cev_const, cev_var, cev_loc, padV, okV_some, againP, true_and, and_true, upd_zero, upd_succ, nth_zero, nth_succ, wpG_true, wpG_false, condK_true, condK_false, seqK_normal, seqK_ret, seqK_exit, inBlock_normal, inBlock_ret, inBlock_exit, ends_ret, ends_normal, unmark_nil, results_nil, results_cons, one_one, one_zero, one_two, isB_undef, isB_tt, isB_ff, Bool.not_true, Bool.not_false, Option.bind_some, pick3, pickA, extractA, List.getElem?_cons_zero, List.getElem?_cons_succ, bin_lss, bin_gtr, bin_leq, bin_geq, bin_eql, bin_neq, un_not]
      exact hq s v3 us O _ _ _ _ _ _ _ _ hmd hold
  | succ m ih =>
    intro k us O v3 s x5 x6 x7 x8 x9 x10 x11 hm hk hk20 hmd hold hq
    have hk4 : k < 20 := by omega
    refine WC.loop' ?_
    by_cases hlt : k < ls.length
    · have hx : ls[k]? = some ls[k] := List.getElem?_eq_getElem hlt
      obtain ⟨hL, hLl⟩ := hls ls[k] (List.getElem_mem _)
      obtain ⟨i, o, u, rfl, hi, hload, au, cu, rfl, hcu⟩ := hc k _ hx
      rw [List.length_map] at hload
      have e1 := idx_slice (cap := cap) (i := i) (o := o) Try.underlying30 sz76 hlt
      have hns : s0.next ≤ s.next := hold.1
      have ld : ∀ s', Old s.next s s' → loadV Try.prog s' 76 (.ptr (some (i, o + k * 1))) = some (.slice au ls[k].length cu) := fun s' h => load_one ag76 (by rw [Nat.mul_one, load1_eq ((hold.trans (h.mono hns)).2 i (by omega))]; exact hload)
      have hkk : decide ((k : Int) < (ls.length : Int)) = true := decide_eq_true (by omega)
      have hkk20 : decide ((k : Int) < 20) = true := decide_eq_true (by omega)
      have e3 := bin_add Try.prog 3 (k : Int) 1 ⟨by omega, by omega⟩
      have hcast : ((k : Int) + 1) = ((k + 1 : Nat) : Int) := by omega
      have hcu' : CellsAt s.next s au (i8vs ls[k]) := (hcu.old hold hb).mono (Nat.le_trans hb hns)
      simp only [c22l16, c22o3, c22o4, c22o5, len_slice Try.underlying30, hkk, hkk20, beq_self_eq_true, wpC, wpI, wpS, wpD, wpV, wanted_none, wanted_some, vals, cev_const, cev_var, cev_loc, padV, okV_some, againP, true_and, and_true, upd_zero, upd_succ, nth_zero, nth_succ, wpG_true, wpG_false, condK_true, condK_false, seqK_normal, seqK_ret, seqK_exit, inBlock_normal, inBlock_ret, inBlock_exit, ends_ret, ends_normal, unmark_nil, results_nil, results_cons, one_one, one_zero, one_two, isB_undef, isB_tt, isB_ff, Bool.not_true, Bool.not_false, Option.bind_some, pick3, pickA, extractA, List.getElem?_cons_zero, List.getElem?_cons_succ, bin_lss, bin_gtr, bin_leq, bin_geq, bin_eql, bin_neq, un_not]
      refine lits_loop hE (Nat.le_refl s.next) hL hLl hcu' e1 ld _ _ _ 5 0 [] [] _ s _ _ _ _ rfl (Nat.zero_le _) (by omega) rfl (Dest.nil s 1) ⟨(fun j hj => by cases hj), (fun j hj => by cases hj)⟩ (Old.refl _ _) ?_
      intro s1 v5 O5 y6 y7 y8 y10 y11 hd5 hO5 hold1
      have hmv : ∀ (m : Nat) (i : Nat), Made.val i (.slice m) = .slice (some (i, 0)) m (some m) := fun _ _ => rfl
      have hv5 : v5.cells = [v5] := by obtain ⟨a', c', rfl, _⟩ := hd5.cells; rfl
      have b1 := bld_one (P := Try.prog) (t := 22) (v := v5) Try.underlying22 sz23 zr23 rfl hv5
      have hslot := hmd.dest.slot_lt
      have hd3 : Dest s1 v3 us.length 1 us O := hmd.dest.frame hold1.1 fun j hj => hold1.2 j (hslot j hj)
      have husl : us.length = k := by have := hmd.rows.1; simp at this; omega
      obtain ⟨v', s2, O', p1, p2, p3, p4, p5⟩ := push_cell (st := 22) (e := 23) (by_ := 24) Try.underlying22 sz23 by23 (by decide) (strx 22 23 Try.underlying22) zero23 hd3 (by omega) hd5.isSlice
      simp only [if_true, c22o14, b1, hmv, p1, c22o15, e3, hcast, wpC, wpI, wpS, wpD, wpV, wanted_none, wanted_some, vals, cev_const, cev_var, cev_loc, padV, okV_some, againP, true_and, and_true, upd_zero, upd_succ, nth_zero, nth_succ, wpG_true, wpG_false, condK_true, condK_false, seqK_normal, seqK_ret, seqK_exit, inBlock_normal, inBlock_ret, inBlock_exit, ends_ret, ends_normal, unmark_nil, results_nil, results_cons, one_one, one_zero, one_two, isB_undef, isB_tt, isB_ff, Bool.not_true, Bool.not_false, Option.bind_some, pick3, pickA, extractA, List.getElem?_cons_zero, List.getElem?_cons_succ, bin_lss, bin_gtr, bin_leq, bin_geq, bin_eql, bin_neq, un_not]
      have hOlt : ∀ j ∈ O, j < s.next := hmd.dest.lt
      have hs12 : s1.next ≤ s2.next := p3
      have hold2 : Old s0.next s0 s2 := (hold.trans (hold1.mono hns)).trans ⟨p3, fun j hj => p4 j (by have := hold1.1; omega) (fun hm => by have := hmd.own j hm; omega)⟩
      have old_slot : ∀ u ∈ us, ∀ j, slot u = some j → s2.heap.get j = s.heap.get j := by
        intro u hu j hj
        obtain ⟨g1, g2, g3⟩ := hmd.slots u hu j hj
        rw [p4 j (by have := hold1.1; omega) g3]
        exact hold1.2 j g2
      have v5_slot : ∀ j, slot v5 = some j → s2.heap.get j = s1.heap.get j := by
        intro j hj
        have h1 := hO5.2 j hj
        exact p4 j (hd5.slot_lt j hj) (fun hm => by have := hOlt j hm; omega)
      refine ih (k + 1) (us ++ [v5]) O' v' s2 _ _ _ _ _ _ _ (by omega) hlt (by omega) ⟨?_, ?_, ?_, ?_⟩ hold2 hq
      · rw [List.length_append]; exact p2
      · rw [List.take_succ_eq_append_getElem hlt, List.map_append]
        refine ((hmd.rows.keep old_slot).mono (Nat.le_trans hold1.1 hs12)).append (RowCells.one ?_)
        exact ((hd5.slice).keep v5_slot).mono hs12
      · intro u hu j hj
        have hO'j : j < s1.next → j ∉ O → j ∉ O' := fun h1 h2 h3 => (p5 j h3).elim h2 (fun h => by omega)
        rcases List.mem_append.1 hu with hu | hu
        · obtain ⟨g1, g2, g3⟩ := hmd.slots u hu j hj
          exact ⟨g1, by have := hold1.1; omega, hO'j (by have := hold1.1; omega) g3⟩
        · have : u = v5 := by simpa using hu
          subst this
          have h1 := hO5.2 j hj
          have h2 := hd5.slot_lt j hj
          exact ⟨by omega, by omega, hO'j h2 (fun hm => by have := hOlt j hm; omega)⟩
      · intro j hj
        exact (p5 j hj).elim (hmd.own j) (fun h => by have := hold1.1; omega)
    · have hkl : k = ls.length := by omega
      have hcv : (ls.take k).map rowV = clausesV ls := by rw [hkl, List.take_length]; unfold clausesV; rw [List.take_of_length_le (by omega)]
      rw [hcv] at hmd
      have hkk : decide ((k : Int) < (ls.length : Int)) = false := decide_eq_false (by omega)
      simp only [c22l16, c22o3, len_slice Try.underlying30, hkk, Bool.false_beq, Bool.not_true, wpC, wpI, wpS, wpD, wpV, wanted_none, wanted_some, vals, cev_const, cev_var, cev_loc, padV, okV_some, againP, true_and, and_true, upd_zero, upd_succ, nth_zero, nth_succ, wpG_true, wpG_false, condK_true, condK_false, seqK_normal, seqK_ret, seqK_exit, inBlock_normal, inBlock_ret, inBlock_exit, ends_ret, ends_normal, unmark_nil, results_nil, results_cons, one_one, one_zero, one_two, isB_undef, isB_tt, isB_ff, Bool.not_true, Bool.not_false, Option.bind_some, pick3, pickA, extractA, List.getElem?_cons_zero, List.getElem?_cons_succ, bin_lss, bin_gtr, bin_leq, bin_geq, bin_eql, bin_neq, un_not]
      exact hq s v3 us O _ _ _ _ _ _ _ _ hmd hold

set_option maxRecDepth 8000 in
/-- Clauses. -/
theorem clauses_ok {E : Env} (hE : Good E) {s : ASt} {b : Nat} (hb : b ≤ s.next) {ls : List (List Int)} (hls : ∀ L ∈ ls, I8s L ∧ L.length < 9223372036854775808) (hlen : ls.length < 9223372036854775808) {v : AV} (hv : Rows8Of b s v ls) :
    WF E 22 [v, iv 6] (fun r s' => ∃ us O, Made20 s.next s' r us (clausesV ls) O ∧ Old s.next s s') s := by
  obtain ⟨a, cap, rfl, hc⟩ := hv
  refine hE.go comp22 (by decide) rfl ?_
  simp only [c22, c22o0, c22o1, c22o2, wpC, wpI, wpS, wpD, wpV, wanted_none, wanted_some, vals, cev_const, cev_var, cev_loc, padV, okV_some, againP, true_and, and_true, upd_zero, upd_succ, nth_zero, nth_succ, wpG_true, wpG_false, condK_true, condK_false, seqK_normal, seqK_ret, seqK_exit, inBlock_normal, inBlock_ret, inBlock_exit, ends_ret, ends_normal, unmark_nil, results_nil, results_cons, one_one, one_zero, one_two, isB_undef, isB_tt, isB_ff, Bool.not_true, Bool.not_false, Option.bind_some, pick3, pickA, extractA, List.getElem?_cons_zero, List.getElem?_cons_succ, bin_lss, bin_gtr, bin_leq, bin_geq, bin_eql, bin_neq, un_not]
  refine clauses_loop hE hb hls hlen hc _ 20 0 [] [] _ s _ _ _ _ _ _ _ rfl (Nat.zero_le _) (by omega) ⟨Dest.nil s 1, RowCells.nil _ _, (fun u hu => by cases hu), (fun j hj => by cases hj)⟩ (Old.refl _ _) ?_
  intro s' v' us' O' y4 y5 y6 y7 y8 y9 y10 y11 h1 h2
  simp only [c22o17, if_true, wpC, wpI, wpS, wpD, wpV, wanted_none, wanted_some, vals, cev_const, cev_var, cev_loc, padV, okV_some, againP, true_and, and_true, upd_zero, upd_succ, nth_zero, nth_succ, wpG_true, wpG_false, condK_true, condK_false, seqK_normal, seqK_ret, seqK_exit, inBlock_normal, inBlock_ret, inBlock_exit, ends_ret, ends_normal, unmark_nil, results_nil, results_cons, one_one, one_zero, one_two, isB_undef, isB_tt, isB_ff, Bool.not_true, Bool.not_false, Option.bind_some, pick3, pickA, extractA, List.getElem?_cons_zero, List.getElem?_cons_succ, bin_lss, bin_gtr, bin_leq, bin_geq, bin_eql, bin_neq, un_not]
  exact ⟨us', O', h1, h2⟩
end Go.Proofs.Ytilhhmkdcoajnaa.Am

/- Lines that are drawn, in memory: boxes of two cells, rows of lines; what the law's function lines computes; conditions: none but the reading of its argument. -/
set_option linter.unusedVariables false
set_option linter.unusedSimpArgs false
namespace Go.Proofs.Ytilhhmkdcoajnaa.Am
open Go Go.Proofs

theorem fa27_0 (j o : Nat) : fieldAddrA Try.prog 27 (.ptr (some (j, o))) 0 = some (.ptr (some (j, o))) := by
  simp [fieldAddrA, Try.underlying27, sz4, guardB]
  rfl
theorem fa27_1 (j o : Nat) : fieldAddrA Try.prog 27 (.ptr (some (j, o))) 1 = some (.ptr (some (j, o + 1))) := by
  simp [fieldAddrA, Try.underlying27, sz23, guardB]
  rfl
theorem fa79_0 (j o : Nat) : fieldAddrA Try.prog 79 (.ptr (some (j, o))) 0 = some (.ptr (some (j, o))) := by
  simp [fieldAddrA, Try.underlying79, sz4, guardB]
  rfl
theorem fa79_1 (j o : Nat) : fieldAddrA Try.prog 79 (.ptr (some (j, o))) 1 = some (.ptr (some (j, o + 1))) := by
  simp [fieldAddrA, Try.underlying79, sz5, guardB]
  rfl
theorem fa79_2 (j o : Nat) : fieldAddrA Try.prog 79 (.ptr (some (j, o))) 2 = some (.ptr (some (j, o + 2))) := by
  simp [fieldAddrA, Try.underlying79, sz76, guardB]
  rfl

/-- A variable of two cells. -/
def Box2 (s : ASt) (j : Nat) (c0 c1 : AV) : Prop := ∃ r, s.heap.get j = some (.row r) ∧ Holds r [c0, c1] ∧ r.mode = .own ∧ r.par = none
theorem Box2.keep {s s' : ASt} {j : Nat} {c0 c1 : AV} (h : Box2 s j c0 c1) (k : s'.heap.get j = s.heap.get j) : Box2 s' j c0 c1 := by
  obtain ⟨r, h1, h2⟩ := h
  exact ⟨r, by rw [k]; exact h1, h2⟩
theorem Box2.load0 {s : ASt} {j : Nat} {c0 c1 : AV} (h : Box2 s j c0 c1) : load1 s j 0 = some c0 := by
  obtain ⟨r, h1, h2, _⟩ := h
  exact load1_row h1 (by rw [h2.1]; simp) (h2.2 0 c0 rfl)
theorem Box2.load1 {s : ASt} {j : Nat} {c0 c1 : AV} (h : Box2 s j c0 c1) : load1 s j 1 = some c1 := by
  obtain ⟨r, h1, h2, _⟩ := h
  exact load1_row h1 (by rw [h2.1]; simp) (h2.2 1 c1 rfl)
theorem Box2.loads {s : ASt} {j : Nat} {c0 c1 : AV} (h : Box2 s j c0 c1) : loadV Try.prog s 27 (.ptr (some (j, 0))) = some (.agg [c0, c1]) := by
  obtain ⟨r, h1, h2, _⟩ := h
  have := loadN_holds h1 h2 0 [c0, c1] (Nat.le_refl _) (fun k u hk => by simpa using hk)
  have e : loadN s j 0 2 = some [c0, c1] := this
  simp [loadV, ag27, sz27, e]
theorem storeN_row {s : ASt} {i o : Nat} {r : ARow} {vs : List AV} (hg : s.heap.get i = some (.row r)) (hm : r.mode = .own) (hp : r.par = none) (hne : vs ≠ []) (ho : o + vs.length ≤ r.n) (hc : allCells vs = true) :
    storeN s i o vs = some (setObj s i (.row { r with c := r.c.fill o vs, par := none })) := by
  cases vs with
  | nil => exact absurd rfl hne
  | cons v vs =>
    have hb := ble_of ho
    simp only [storeN, rowAt, hg, Option.bind_some, hm, isOwn, hb, hc, Bool.and_self, guardB, cond_true, unshare, hp]
theorem Box2.store {s : ASt} {j : Nat} {c0 c1 d0 d1 : AV} (h : Box2 s j c0 c1) (h0 : d0.isCell = true) (h1 : d1.isCell = true) :
    ∃ s', storeV Try.prog s 27 (.ptr (some (j, 0))) (.agg [d0, d1]) = some s' ∧ Box2 s' j d0 d1 ∧ s'.next = s.next ∧ ∀ x, x ≠ j → s'.heap.get x = s.heap.get x := by
  obtain ⟨r, g1, g2, g3, g4⟩ := h
  refine ⟨setObj s j (.row { r with c := r.c.fill 0 [d0, d1], par := none }), ?_, ⟨{ r with c := r.c.fill 0 [d0, d1], par := none }, by rw [heap_set, if_pos rfl], ⟨g2.1, ?_⟩, g3, rfl⟩, rfl, fun x hx => by rw [heap_set, if_neg hx]⟩
  · simp [storeV, sz27, AV.cells, guardB, storeN_row (vs := [d0, d1]) (o := 0) g1 g3 g4 (by simp) (by rw [g2.1]; exact Nat.le_refl _) (by simp [allCells, h0, h1])]
  · intro k u hk
    have hlt : k < 2 := by
      rcases Nat.lt_or_ge k 2 with h' | h'
      · exact h'
      · rw [List.getElem?_eq_none (by simpa using h')] at hk; cases hk
    show (Tree.fill r.c 0 [d0, d1]).get k = some u
    rw [Tree.get_fill, if_pos ⟨Nat.zero_le _, by simpa using hlt⟩]
    simpa using hk
theorem Box2.store1 {s : ASt} {j : Nat} {c0 c1 d1 : AV} (h : Box2 s j c0 c1) (h1 : d1.isCell = true) (hc : d1.cells = [d1]) :
    ∃ s', storeV Try.prog s 23 (.ptr (some (j, 1))) d1 = some s' ∧ Box2 s' j c0 d1 ∧ s'.next = s.next ∧ ∀ x, x ≠ j → s'.heap.get x = s.heap.get x := by
  obtain ⟨r, g1, g2, g3, g4⟩ := h
  refine ⟨setObj s j (.row { r with c := r.c.fill 1 [d1], par := none }), ?_, ⟨{ r with c := r.c.fill 1 [d1], par := none }, by rw [heap_set, if_pos rfl], ⟨g2.1, ?_⟩, g3, rfl⟩, rfl, fun x hx => by rw [heap_set, if_neg hx]⟩
  · simp [storeV, sz23, hc, guardB, storeN_row (vs := [d1]) (o := 1) g1 g3 g4 (by simp) (by rw [g2.1]; exact Nat.le_refl _) (by simp [allCells, h1])]
  · intro k u hk
    have hlt : k < 2 := by
      rcases Nat.lt_or_ge k 2 with h' | h'
      · exact h'
      · rw [List.getElem?_eq_none (by simpa using h')] at hk; cases hk
    show (Tree.fill r.c 1 [d1]).get k = some u
    rw [Tree.get_fill]
    rcases (show k = 0 ∨ k = 1 by omega) with rfl | rfl
    · rw [if_neg (by omega)]
      simp at hk; subst hk
      exact g2.2 0 c0 rfl
    · rw [if_pos ⟨Nat.le_refl _, by simp⟩]
      simpa using hk

/-! ### Rows of lines -/
abbrev Trace20 := List (Bool × List Int)
/-- Cells of lines. -/
def LineCells (b : Nat) (s : ASt) (us : List AV) (T : Trace20) : Prop := us.length = T.length * 2 ∧ ∀ (k : Nat) (d : Bool) (L : List Int), T[k]? = some (d, L) → us[k * 2]? = some (.bool d) ∧ ∃ u : AV, us[k * 2 + 1]? = some u ∧ SliceAt b s u (ivs L)
theorem LineCells.mono {b b' : Nat} {s : ASt} {us : List AV} {T : Trace20} (h : LineCells b s us T) (k : b ≤ b') : LineCells b' s us T :=
  ⟨h.1, fun j d L hj => let ⟨h0, u, h1, h2⟩ := h.2 j d L hj; ⟨h0, u, h1, h2.mono k⟩⟩
theorem LineCells.keep {b : Nat} {s s' : ASt} {us : List AV} {T : Trace20} (h : LineCells b s us T) (k : ∀ u ∈ us, ∀ j, slot u = some j → s'.heap.get j = s.heap.get j) : LineCells b s' us T :=
  ⟨h.1, fun j d L hj => let ⟨h0, u, h1, h2⟩ := h.2 j d L hj; ⟨h0, u, h1, h2.keep (k u (List.mem_of_getElem? h1))⟩⟩
theorem LineCells.nil (b : Nat) (s : ASt) : LineCells b s [] [] := ⟨rfl, fun k d L h => by simp at h⟩
theorem LineCells.snoc {b : Nat} {s : ASt} {us : List AV} {T : Trace20} (h : LineCells b s us T) {d : Bool} {u : AV} {L : List Int} (hu : SliceAt b s u (ivs L)) : LineCells b s (us ++ [.bool d, u]) (T ++ [(d, L)]) := by
  refine ⟨by simp [h.1]; omega, fun k d' L' hk => ?_⟩
  rcases Nat.lt_or_ge k T.length with hlt | hge
  · rw [List.getElem?_append_left hlt] at hk
    obtain ⟨h0, u', h1, h2⟩ := h.2 k d' L' hk
    have hl := h.1
    exact ⟨by rw [List.getElem?_append_left (by omega)]; exact h0, u', by rw [List.getElem?_append_left (by omega)]; exact h1, h2⟩
  · rw [List.getElem?_append_right hge] at hk
    have hk0 : k = T.length := by
      rcases Nat.lt_or_ge (k - T.length) 1 with h' | h'
      · omega
      · rw [List.getElem?_eq_none (by simpa using h')] at hk; cases hk
    subst hk0
    rw [Nat.sub_self] at hk
    simp at hk
    obtain ⟨rfl, rfl⟩ := hk
    have hl := h.1
    refine ⟨?_, u, ?_, hu⟩
    · rw [List.getElem?_append_right (by omega), hl, Nat.sub_self]; rfl
    · rw [List.getElem?_append_right (by omega), hl, show T.length * 2 + 1 - T.length * 2 = 1 from by omega]; rfl

/-- Lines that are made. -/
structure MadeT (lo : Nat) (s : ASt) (v : AV) (us : List AV) (T : Trace20) (O : List Nat) : Prop where
  dest : Dest s v T.length 2 us O
  rows : LineCells s.next s us T
  slots : ∀ u ∈ us, ∀ j, slot u = some j → lo ≤ j ∧ j < s.next ∧ j ∉ O
  own : ∀ j ∈ O, lo ≤ j
theorem MadeT.line {lo : Nat} {s : ASt} {v : AV} {us : List AV} {T : Trace20} {O : List Nat} (h : MadeT lo s v us T O) {k : Nat} {d : Bool} {L : List Int} (hk : T[k]? = some (d, L)) :
    ∃ i o u cap, v = .slice (some (i, o)) T.length cap ∧ i < s.next ∧ load1 s i (o + k * 2) = some (.bool d) ∧ load1 s i (o + k * 2 + 1) = some u ∧ SliceAt s.next s u (ivs L) ∧ u ∈ us := by
  obtain ⟨a, cap, hv, hc⟩ := h.dest.cells
  obtain ⟨h0, u, h1, h2⟩ := h.rows.2 k d L hk
  obtain ⟨i, o, h3, h4, h5⟩ := hc _ _ h0
  obtain ⟨i2, o2, h6, h7, h8⟩ := hc _ _ h1
  rw [h3] at h6
  injection h6 with h6
  injection h6 with e1 e2
  subst e1; subst e2
  exact ⟨i, o, u, cap, by rw [hv, h3], h4, h5, by rw [show o + k * 2 + 1 = o + (k * 2 + 1) from by omega]; exact h8, h2, List.mem_of_getElem? h1⟩
end Go.Proofs.Ytilhhmkdcoajnaa.Am

/- What the law's function lines of layer 20 computes; conditions: none but the reading of its argument. -/
set_option linter.unusedVariables false
set_option linter.unusedSimpArgs false
namespace Go.Proofs.Ytilhhmkdcoajnaa.Am
open Go Go.Proofs

abbrev Step20 := Bool × Int × List Int
def u8 (n : Int) : Prop := 0 ≤ n ∧ n ≤ 255
def StepsAt (b : Nat) (s : ASt) (a : Option (Nat × Nat)) (ss : List Step20) : Prop := ∀ (k : Nat) (d : Bool) (w : Int) (L : List Int), ss[k]? = some (d, w, L) →
  ∃ i o u, a = some (i, o) ∧ i < b ∧ load1 s i (o + k * 3) = some (.bool d) ∧ load1 s i (o + k * 3 + 1) = some (.int .u8 w) ∧ load1 s i (o + k * 3 + 2) = some u ∧ SliceAt b s u (i8vs L)
def StepsOf (b : Nat) (s : ASt) (v : AV) (ss : List Step20) : Prop := ∃ a cap, v = .slice a ss.length cap ∧ StepsAt b s a ss

def again20 (out : Trace20) (d : Bool) (w : Int) : Bool := d && decide (0 < out.length) && decide (0 < w % 3)
def lineOf (out : Trace20) (d : Bool) (w : Int) (L : List Int) : Bool × List Int := if again20 out d w = true then (d, (out.getD (w % (out.length : Int)).toNat (d, [])).2) else (d, rowV L)
def linesV (out : Trace20) : List Step20 → Trace20
  | [] => out
  | (d, w, L) :: l => linesV (out ++ [lineOf out d w L]) l

theorem gtr_u8 (t : TypeId) (a b : Int) : binA Try.prog .gtr t (.int .u8 a) (.int .u8 b) = some (.bool (decide (b < a))) := by
  show some (AV.bool (ltI b a)) = _
  rw [ltI_eq]
theorem conv_u8 {s : ASt} {n : Int} (h : u8 n) : convA Try.prog s 5 3 (.int .u8 n) = some (iv n) := by
  obtain ⟨h1, h2⟩ := h
  simp [convA, Try.underlying5, Try.underlying3, wrap_i64 (n := n) ⟨by omega, by omega⟩]
theorem zero27 : zeroOk Try.prog 27 2 = true := by simp [zeroOk, zr27, AV.cells]
theorem bld_line {d : Bool} {u : AV} : sliceRowA Try.prog 33 1 (zipIdx [0] [.agg [.bool d, u]]) = some (mkRow 27 2 [.bool d, u]) := by
  simp [sliceRowA, Try.underlying33, sz27, guardB, zr27, zipIdx, fillA, rep, AV.cells]
  rfl
theorem bld_drop {d : Bool} : buildA Try.prog 27 (zipIdx [0] [.bool d]) = some (.agg [.bool d, .slice none 0 (some 0)]) := by
  simp [buildA, zr27, Try.underlying27, fieldSizes, sz4, sz23, zipIdx, fillA, AV.cells, guardB]
  rfl
theorem alloc27 : allocA Try.prog 27 = some (mkRow 27 0 [.bool false, .slice none 0 (some 0)], .ptr) := by simp [allocA, zr27, AV.cells]
theorem idx2 {P : Program} {t e : TypeId} {n : Nat} (ht : P.underlying t = some (.slice e)) (hs : sizeT P e = some n) {i o len k : Nat} {cap : Option Nat} (hk : k < len) :
    indexAddrA P t (.slice (some (i, o)) len cap) (iv (k : Int)) = some (.ptr (some (i, o + k * n))) := idx_slice ht hs hk

theorem SliceAt.isCell {b : Nat} {s : ASt} {u : AV} {cs : List AV} (h : SliceAt b s u cs) : u.isCell = true ∧ u.cells = [u] := by
  obtain ⟨a, cap, rfl, _⟩ := h
  exact ⟨rfl, rfl⟩
theorem SliceAt.slot_lt {b : Nat} {s : ASt} {u : AV} {cs : List AV} (h : SliceAt b s u cs) (hne : cs ≠ []) : ∀ j, slot u = some j → j < b := by
  obtain ⟨a, cap, rfl, hc⟩ := h
  intro j hj
  cases cs with
  | nil => exact absurd rfl hne
  | cons c cs =>
    obtain ⟨i, o, rfl, h2, _⟩ := hc 0 c rfl
    simp [slot] at hj; subst hj; exact h2

set_option maxRecDepth 8000 in
/-- A line is appended. -/
theorem push_line {lo : Nat} {s : ASt} {v : AV} {us : List AV} {T : Trace20} {O : List Nat} (hm : MadeT lo s v us T O) (hT : T.length ≤ 1000000) {d : Bool} {u : AV} {L : List Int} (hu : SliceAt s.next s u (ivs L)) (hslot : ∀ j, slot u = some j → lo ≤ j ∧ j < s.next ∧ j ∉ O) (hlo : lo ≤ s.next) :
    ∃ v' s' O', appendA Try.prog (newObj s (mkRow 27 2 [.bool d, u])) [33, 33] [v, .slice (some (s.next, 0)) 1 (some 1)] = some (v', s') ∧ MadeT lo s' v' (us ++ [.bool d, u]) (T ++ [(d, L)]) O' ∧ Old lo s s' := by
  have c1 := src_one (P := Try.prog) (e := 27) (s := newObj s (mkRow 27 2 [.bool d, u])) (n := 1) (cap := some 1) (sz := 2) 27 2 (by rw [heap_new, if_pos rfl]) rfl
  obtain ⟨v', s', O', h1, h2, h3, h4, h5, h6, h7⟩ := (hm.dest.new (mkRow 27 2 [.bool d, u])).append (P := Try.prog) (st := 33) (xt := 33) Try.underlying33 sz27 by27 (by decide) (strx 33 27 Try.underlying33) zero27 c1 rfl (by have := hu.isCell.1; simp only [allCells, this]; rfl) (by omega) (by omega)
  have hn : (newObj s (mkRow 27 2 [.bool d, u])).next = s.next + 1 := rfl
  have keep : ∀ j, j < s.next → j ∉ O → s'.heap.get j = s.heap.get j := fun j hj ho => by rw [h5 j (by omega) ho, heap_new, if_neg (by omega)]
  have hO' : ∀ j, j < s.next → j ∉ O → j ∉ O' := fun j h1 h2 h3 => (h6 j h3).elim h2 (fun h => by omega)
  refine ⟨v', s', O', h1, ⟨?_, ?_, ?_, ?_⟩, ⟨by omega, fun j hj => keep j (by omega) (fun h => by have := hm.own j h; omega)⟩⟩
  · rw [List.length_append]; exact h2
  · refine ((hm.rows.mono (show s.next ≤ s'.next by omega)).keep fun x hx j hj => ?_).snoc ?_
    · obtain ⟨g1, g2, g3⟩ := hm.slots x hx j hj; exact keep j g2 g3
    · exact (hu.keep fun j hj => keep j (hslot j hj).2.1 (hslot j hj).2.2).mono (by omega)
  · intro x hx j hj
    rcases List.mem_append.1 hx with hx | hx
    · obtain ⟨g1, g2, g3⟩ := hm.slots x hx j hj; exact ⟨g1, by omega, hO' j g2 g3⟩
    · rcases List.mem_cons.1 hx with rfl | hx
      · cases hj
      · have : x = u := by simpa using hx
        subst this
        obtain ⟨g1, g2, g3⟩ := hslot j hj; exact ⟨g1, by omega, hO' j g2 g3⟩
  · intro j hj
    exact (h6 j hj).elim (hm.own j) (fun h => by omega)

theorem MadeT.frame {lo : Nat} {s s' : ASt} {v : AV} {us : List AV} {T : Trace20} {O : List Nat} (h : MadeT lo s v us T O) (hn : s.next ≤ s'.next) (k : ∀ j, j < s.next → s'.heap.get j = s.heap.get j) : MadeT lo s' v us T O :=
  ⟨h.dest.frame hn fun j hj => k j (h.dest.slot_lt j hj), (h.rows.mono hn).keep fun u hu j hj => k j (h.slots u hu j hj).2.1, fun u hu j hj => let ⟨g1, g2, g3⟩ := h.slots u hu j hj; ⟨g1, by omega, g3⟩, h.own⟩

/-- The variable x of a round: its box, and where its slice lies. -/
structure XBox (lo : Nat) (s : ASt) (j : Nat) (O : List Nat) (d : Bool) (u : AV) (L : List Int) : Prop where
  box : Box2 s j (.bool d) u
  slice : SliceAt s.next s u (ivs L)
  slot : ∀ i, slot u = some i → lo ≤ i ∧ i < s.next ∧ i ∉ O
end Go.Proofs.Ytilhhmkdcoajnaa.Am

/- What the law's function lines of layer 20 computes: its loop; conditions: none but the reading of its argument. -/
set_option linter.unusedVariables false
set_option linter.unusedSimpArgs false
namespace Go.Proofs.Ytilhhmkdcoajnaa.Am
open Go Go.Proofs

theorem linesV_len (l : List Step20) : ∀ out, (linesV out l).length = out.length + l.length := by
  induction l with
  | nil => intro out; rfl
  | cons x l ih => obtain ⟨d, w, L⟩ := x; intro out; simp only [linesV, ih]; simp; omega

set_option maxRecDepth 16000 in
/-- Behind the row of a line: which literals it has, and that it is put. -/
theorem line_rest {E : Env} {lo : Nat} {s0 : ASt} {b : Nat} {ss : List Step20} (hss : ∀ x ∈ ss, u8 x.2.1) {a : Option (Nat × Nat)} {cap : Option Nat} (hlen : ss.length < 9223372036854775808) (hb : b ≤ lo) (hst : StepsAt b s0 a ss)
    {k : Nat} {d : Bool} {w : Int} {L : List Int} (hk : ss[k]? = some (d, w, L)) {us : List AV} {T : Trace20} {O : List Nat} (hT : T.length ≤ 100) {v2 : AV} {s : ASt} (hm : MadeT lo s v2 us T O) (hold : Old lo s0 s) (hlo : lo ≤ s.next) {j : Nat} {u : AV} (hx : XBox lo s j O d u (rowV L)) (hj : lo ≤ j ∧ j < s.next) (hjO : j ∉ O)
    (hjs : slot v2 ≠ some j) (hju : ∀ x ∈ us, slot x ≠ some j) (hjx : slot u ≠ some j) (v1 v5 x6 x7 : AV) {Q : ARes → Prop}
    (hq : ∀ v' s' us' O' y6 y7, MadeT lo s' v' us' (T ++ [lineOf T d w L]) O' → Old lo s0 s' → Q ⟨.normal, [.slice a ss.length cap, v1, v', iv (k : Int), .ptr (some (j, 0)), v5, y6, y7], [], s'⟩) :
    wpC E none (.seq (.seq (.ops c23o7) (.cond (.var 7) (.ops c23o8) .skip)) (.ops c23o9)) Q [.slice a ss.length cap, v1, v2, iv (k : Int), .ptr (some (j, 0)), v5, x6, x7] [] s := by
  have hlt : k < ss.length := by
    rcases Nat.lt_or_ge k ss.length with h' | h'
    · exact h'
    · rw [List.getElem?_eq_none h'] at hk; cases hk
  obtain ⟨hw1, hw2⟩ := hss _ (List.mem_of_getElem? hk)
  obtain ⟨i, o, u3, rfl, hi, hd1, hd2, hd3, _⟩ := hst k d w L hk
  have e1 := idx_slice (cap := cap) (i := i) (o := o) Try.underlying31 sz79 hlt
  have lw : ∀ s', Old lo s0 s' → loadV Try.prog s' 5 (.ptr (some (i, o + k * 3 + 1))) = some (.int .u8 w) := fun s' h => load_one ag5 (by rw [load1_eq (h.2 i (by omega))]; exact hd2)
  have ld : loadV Try.prog s 4 (.ptr (some (j, 0))) = some (.bool d) := load_one ag4 hx.box.load0
  obtain ⟨a2, cap2, rfl, hc2⟩ := hm.dest.cells
  have hrem := bin_rem (P := Try.prog) (t := 5) (k := .u8) hw1 (show (0 : Int) < 3 by decide)
  -- the end: the line is put
  have fin : ∀ (s1 : ASt) (u1 : AV) (L1 : List Int) (y6 y7 : AV), XBox lo s1 j O d u1 L1 → MadeT lo s1 (.slice a2 T.length cap2) us T O → Old lo s0 s1 → lo ≤ s1.next → lineOf T d w L = (d, L1) →
      wpI E c23o9 (fun v s' => Q ⟨.normal, v, [], s'⟩) [] [.slice (some (i, o)) ss.length cap, v1, .slice a2 T.length cap2, iv (k : Int), .ptr (some (j, 0)), v5, y6, y7] s1 := by
    intro s1 u1 L1 y6 y7 hx1 hm1 hold1 hlo1 hl
    obtain ⟨v', s', O', p1, p2, p3⟩ := push_line (d := d) hm1 (by omega) hx1.slice hx1.slot hlo1
    have hmv : ∀ (m : Nat) (i : Nat), Made.val i (.slice m) = .slice (some (i, 0)) m (some m) := fun _ _ => rfl
    simp only [c23o9, hx1.box.loads, bld_line, hmv, p1, wpC, wpI, wpS, wpD, wpV, wanted_none, wanted_some, vals, cev_const, cev_var, cev_loc, padV, okV_some, againP, true_and, and_true, upd_zero, upd_succ, nth_zero, nth_succ, wpG_true, wpG_false, condK_true, condK_false, seqK_normal, seqK_ret, seqK_exit, inBlock_normal, inBlock_ret, inBlock_exit, ends_ret, ends_normal, unmark_nil, results_nil, results_cons, one_one, one_zero, one_two, isB_undef, isB_tt, isB_ff, Bool.not_true, Bool.not_false, Option.bind_some, pick3, pickA, extractA, List.getElem?_cons_zero, List.getElem?_cons_succ, bin_lss, bin_gtr, bin_leq, bin_geq, bin_eql, bin_neq, un_not]
    rw [hl] at hq
    exact hq v' s' _ O' _ _ p2 (hold1.trans p3)
  by_cases hag : again20 T d w = true
  · -- of a line ahead
    have hd : d = true := by cases d <;> simp [again20] at hag ⊢
    have hTl : 0 < T.length := by simp [again20] at hag; omega
    have hw3 : 0 < w % 3 := by simp [again20] at hag; omega
    subst hd
    have hgt : decide ((0 : Int) < (T.length : Int)) = true := decide_eq_true (by omega)
    have hr2 := bin_rem (P := Try.prog) (t := 3) (k := .i64) hw1 (show (0 : Int) < (T.length : Int) by omega)
    have hq1 := Int.emod_nonneg w (show (T.length : Int) ≠ 0 by omega)
    have hq2 := Int.emod_lt_of_pos w (show (0 : Int) < (T.length : Int) by omega)
    have hcast : w % (T.length : Int) = (((w % (T.length : Int)).toNat : Nat) : Int) := by omega
    have hm2 : (w % (T.length : Int)).toNat < T.length := by omega
    generalize hidx : (w % (T.length : Int)).toNat = m at hcast hm2
    have hTm : T[m]? = some T[m] := List.getElem?_eq_getElem hm2
    obtain ⟨i2, o2, u2, cap3, hv2, hi2, _, hl2, hu2, hmem⟩ := hm.line hTm
    injection hv2 with hv2a hv2b hv2c
    subst hv2a; subst hv2c
    have f1 := idx_slice (P := Try.prog) (t := 33) (cap := cap2) (i := i2) (o := o2) Try.underlying33 sz27 hm2
    have f2 : loadV Try.prog s 23 (.ptr (some (i2, o2 + m * 2 + 1))) = some u2 := load_one ag23 hl2
    obtain ⟨s1, g1, g2, g3, g4⟩ := hx.box.store1 (d1 := u2) hu2.isCell.1 hu2.isCell.2
    have hne : ∀ x, slot u2 = some x → x ≠ j := fun x hx' e => hju u2 hmem (by rw [hx', e])
    have hl : lineOf T true w L = (true, T[m].2) := by
      unfold lineOf
      rw [if_pos hag, hidx]
      simp [List.getD_eq_getElem?_getD, hTm]
    have hx1 : XBox lo s1 j O true u2 T[m].2 := ⟨g2, by rw [g3]; exact hu2.keep fun x hx' => g4 x (hne x hx'), fun x hx' => by rw [g3]; exact hm.slots u2 hmem x hx'⟩
    have hm1 : MadeT lo s1 (.slice (some (i2, o2)) T.length cap2) us T O := by
      refine ⟨hm.dest.frame (by omega) fun x hx' => g4 x (fun e => hjs (by rw [hx', e])), (hm.rows.mono (by omega)).keep fun y hy x hx' => g4 x (fun e => hju y hy (by rw [hx', e])), fun y hy x hx' => by rw [g3]; exact hm.slots y hy x hx', hm.own⟩
    have hold1 : Old lo s0 s1 := hold.trans ⟨by omega, fun x hx' => g4 x (by omega)⟩
    simp only [c23o7, fa27_0, ld, beq_self_eq_true, len_slice Try.underlying33, hgt, e1, fa79_1, lw s hold, hrem, gtr_u8, hw3, decide_true, c23o8, conv_u8 ⟨hw1, hw2⟩, hr2, hcast, f1, fa27_1, f2, Nat.zero_add, g1, withV, on2, wpC, wpI, wpS, wpD, wpV, wanted_none, wanted_some, vals, cev_const, cev_var, cev_loc, padV, okV_some, againP, true_and, and_true, upd_zero, upd_succ, nth_zero, nth_succ, wpG_true, wpG_false, condK_true, condK_false, seqK_normal, seqK_ret, seqK_exit, inBlock_normal, inBlock_ret, inBlock_exit, ends_ret, ends_normal, unmark_nil, results_nil, results_cons, one_one, one_zero, one_two, isB_undef, isB_tt, isB_ff, Bool.not_true, Bool.not_false, Option.bind_some, pick3, pickA, extractA, List.getElem?_cons_zero, List.getElem?_cons_succ, bin_lss, bin_gtr, bin_leq, bin_geq, bin_eql, bin_neq, un_not]
    exact fin s1 u2 T[m].2 _ _ hx1 hm1 hold1 (by omega) hl
  · -- of its own
    have hl : lineOf T d w L = (d, rowV L) := by unfold lineOf; rw [if_neg hag]
    have go := fun (y6 y7 : AV) => fin s u (rowV L) y6 y7 hx hm hold hlo hl
    cases d with
    | false =>
      simp only [c23o7, fa27_0, ld, Bool.false_beq, Bool.not_true, wpC, wpI, wpS, wpD, wpV, wanted_none, wanted_some, vals, cev_const, cev_var, cev_loc, padV, okV_some, againP, true_and, and_true, upd_zero, upd_succ, nth_zero, nth_succ, wpG_true, wpG_false, condK_true, condK_false, seqK_normal, seqK_ret, seqK_exit, inBlock_normal, inBlock_ret, inBlock_exit, ends_ret, ends_normal, unmark_nil, results_nil, results_cons, one_one, one_zero, one_two, isB_undef, isB_tt, isB_ff, Bool.not_true, Bool.not_false, Option.bind_some, pick3, pickA, extractA, List.getElem?_cons_zero, List.getElem?_cons_succ, bin_lss, bin_gtr, bin_leq, bin_geq, bin_eql, bin_neq, un_not]
      exact go _ _
    | true =>
      by_cases hTl : 0 < T.length
      · have hgt : decide ((0 : Int) < (T.length : Int)) = true := decide_eq_true (by omega)
        have hw3 : ¬ (0 : Int) < w % 3 := fun h => hag (by simp [again20, hTl, h])
        simp only [c23o7, fa27_0, ld, beq_self_eq_true, len_slice Try.underlying33, hgt, e1, fa79_1, lw s hold, hrem, gtr_u8, hw3, decide_false, wpC, wpI, wpS, wpD, wpV, wanted_none, wanted_some, vals, cev_const, cev_var, cev_loc, padV, okV_some, againP, true_and, and_true, upd_zero, upd_succ, nth_zero, nth_succ, wpG_true, wpG_false, condK_true, condK_false, seqK_normal, seqK_ret, seqK_exit, inBlock_normal, inBlock_ret, inBlock_exit, ends_ret, ends_normal, unmark_nil, results_nil, results_cons, one_one, one_zero, one_two, isB_undef, isB_tt, isB_ff, Bool.not_true, Bool.not_false, Option.bind_some, pick3, pickA, extractA, List.getElem?_cons_zero, List.getElem?_cons_succ, bin_lss, bin_gtr, bin_leq, bin_geq, bin_eql, bin_neq, un_not]
        exact go _ _
      · have hgt : decide ((0 : Int) < (T.length : Int)) = false := decide_eq_false (by omega)
        simp only [c23o7, fa27_0, ld, beq_self_eq_true, len_slice Try.underlying33, hgt, Bool.false_beq, Bool.not_true, wpC, wpI, wpS, wpD, wpV, wanted_none, wanted_some, vals, cev_const, cev_var, cev_loc, padV, okV_some, againP, true_and, and_true, upd_zero, upd_succ, nth_zero, nth_succ, wpG_true, wpG_false, condK_true, condK_false, seqK_normal, seqK_ret, seqK_exit, inBlock_normal, inBlock_ret, inBlock_exit, ends_ret, ends_normal, unmark_nil, results_nil, results_cons, one_one, one_zero, one_two, isB_undef, isB_tt, isB_ff, Bool.not_true, Bool.not_false, Option.bind_some, pick3, pickA, extractA, List.getElem?_cons_zero, List.getElem?_cons_succ, bin_lss, bin_gtr, bin_leq, bin_geq, bin_eql, bin_neq, un_not]
        exact go _ _
end Go.Proofs.Ytilhhmkdcoajnaa.Am

/- What the law's function lines of layer 20 computes; conditions: none but the reading of its argument. -/
set_option linter.unusedVariables false
set_option linter.unusedSimpArgs false
namespace Go.Proofs.Ytilhhmkdcoajnaa.Am
open Go Go.Proofs

theorem bld30 {u : AV} (hu : u.cells = [u]) : sliceRowA Try.prog 30 1 (zipIdx [0] [u]) = some (mkRow 76 1 [u]) := bld_one Try.underlying30 sz76 zr76 rfl hu

set_option maxRecDepth 16000 in
theorem lines_loop {E : Env} (hE : Good E) {s0 : ASt} {b : Nat} (hb : b ≤ s0.next) {ss : List Step20} (hss : ∀ x ∈ ss, u8 x.2.1 ∧ I8s x.2.2 ∧ x.2.2.length < 9223372036854775808) (hlen : ss.length < 9223372036854775808) {a : Option (Nat × Nat)} {cap : Option Nat} (hst : StepsAt b s0 a ss) (v1 : AV) {Q : ARes → Prop} :
    ∀ (m k : Nat) (us : List AV) (T : Trace20) (O : List Nat) (v2 : AV) (s : ASt) (x4 x5 x6 x7 : AV), m = 20 - k → k ≤ ss.length → k ≤ 20 → T = linesV [] (ss.take k) → MadeT s0.next s v2 us T O → Old s0.next s0 s →
      (∀ s' v' us' O' y4 y5 y6 y7, MadeT s0.next s' v' us' (linesV [] (ss.take 20)) O' → Old s0.next s0 s' → Q ⟨.exit 0, [.slice a ss.length cap, v1, v', iv ((min ss.length 20 : Nat) : Int), y4, y5, y6, y7], [], s'⟩) →
      WC E none (.loop c23l11) Q [.slice a ss.length cap, v1, v2, iv (k : Int), x4, x5, x6, x7] [] s := by
  intro m
  induction m with
  | zero =>
    intro k us T O v2 s x4 x5 x6 x7 hm hk hk20 hT hmd hold hq
    have hke : k = 20 := by omega
    subst hke
    subst hT
    have hmin : min ss.length 20 = 20 := by omega
    rw [hmin] at hq
    refine WC.loop' ?_
    by_cases hlt : (20 : Int) < (ss.length : Int)
    · simp only [c23l11, c23o3, len_slice Try.underlying31, hlt, decide_true, show ((20 : Nat) : Int) = 20 from rfl, Int.lt_irrefl, decide_false, wpC, wpI, wpS, wpD, wpV, wanted_none, wanted_some, vals, cev_const, cev_var, cev_loc, padV, okV_some, againP, true_and, and_true, upd_zero, upd_succ, nth_zero, nth_succ, wpG_true, wpG_false, condK_true, condK_false, seqK_normal, seqK_ret, seqK_exit, inBlock_normal, inBlock_ret, inBlock_exit, ends_ret, ends_normal, unmark_nil, results_nil, results_cons, one_one, one_zero, one_two, isB_undef, isB_tt, isB_ff, Bool.not_true, Bool.not_false, Option.bind_some, pick3, pickA, extractA, List.getElem?_cons_zero, List.getElem?_cons_succ, bin_lss, bin_gtr, bin_leq, bin_geq, bin_eql, bin_neq, un_not]
      exact hq s v2 us O _ _ _ _ hmd hold
    · simp only [c23l11, c23o3, len_slice Try.underlying31, hlt, show ((20 : Nat) : Int) = 20 from rfl, decide_false, wpC, wpI, wpS, wpD, wpV, wanted_none, wanted_some, vals, cev_const, cev_var, cev_loc, padV, okV_some, againP, true_and, and_true, upd_zero, upd_succ, nth_zero, nth_succ, wpG_true, wpG_false, condK_true, condK_false, seqK_normal, seqK_ret, seqK_exit, inBlock_normal, inBlock_ret, inBlock_exit, ends_ret, ends_normal, unmark_nil, results_nil, results_cons, one_one, one_zero, one_two, isB_undef, isB_tt, isB_ff, Bool.not_true, Bool.not_false, Option.bind_some, pick3, pickA, extractA, List.getElem?_cons_zero, List.getElem?_cons_succ, bin_lss, bin_gtr, bin_leq, bin_geq, bin_eql, bin_neq, un_not]
      exact hq s v2 us O _ _ _ _ hmd hold
  | succ m ih =>
    intro k us T O v2 s x4 x5 x6 x7 hm hk hk20 hT hmd hold hq
    have hk4 : k < 20 := by omega
    refine WC.loop' ?_
    generalize hW : WC E none (CCode.loop c23l11) Q = W
    by_cases hlt : k < ss.length
    · have hx : ss[k]? = some ss[k] := List.getElem?_eq_getElem hlt
      obtain ⟨hw, hL, hLl⟩ := hss ss[k] (List.getElem_mem _)
      generalize hsk : ss[k] = sk at hx hw hL hLl
      obtain ⟨d, w, L⟩ := sk
      have hTl : T.length = k := by rw [hT, linesV_len]; simp; omega
      obtain ⟨i, o, u8', hai, hi, hd1, hd2, hd3, hu8⟩ := hst k d w L hx
      subst hai
      have hns : s0.next ≤ s.next := hold.1
      have e1 := idx_slice (cap := cap) (i := i) (o := o) Try.underlying31 sz79 hlt
      have ldd : ∀ {s'}, Old s0.next s0 s' → loadV Try.prog s' 4 (.ptr (some (i, o + k * 3))) = some (.bool d) := fun h => load_one ag4 (by rw [load1_eq (h.2 i (by omega))]; exact hd1)
      have ldu : ∀ {s'}, Old s0.next s0 s' → loadV Try.prog s' 76 (.ptr (some (i, o + k * 3 + 2))) = some u8' := fun h => load_one ag76 (by rw [load1_eq (h.2 i (by omega))]; exact hd3)
      have hkk : decide ((k : Int) < (ss.length : Int)) = true := decide_eq_true (by omega)
      have hkk20 : decide ((k : Int) < 20) = true := decide_eq_true (by omega)
      have e3 := bin_add Try.prog 3 (k : Int) 1 ⟨by omega, by omega⟩
      have hcast : ((k : Int) + 1) = ((k + 1 : Nat) : Int) := by omega
      have hmv : ∀ (m : Nat) (i : Nat), Made.val i (.slice m) = .slice (some (i, 0)) m (some m) := fun _ _ => rfl
      -- x
      have hbox0 : Box2 (newObj s (mkRow 27 0 [.bool false, .slice none 0 (some 0)])) s.next (.bool false) (.slice none 0 (some 0)) := by
        obtain ⟨r, h1, h2, _, _, h5, h6⟩ := holds_mkRow 27 0 [.bool false, .slice none 0 (some 0)]
        exact ⟨r, by rw [heap_new, if_pos rfl, h1], h2, h5, h6⟩
      obtain ⟨s1, g1, g2, g3, g4⟩ := hbox0.store (d0 := .bool d) (d1 := .slice none 0 (some 0)) rfl rfl
      have n1 : s1.next = s.next + 1 := g3
      have o1 : ∀ x, x < s.next → s1.heap.get x = s.heap.get x := fun x hx => by rw [g4 x (by omega), heap_new, if_neg (by omega)]
      have hold1 : Old s0.next s0 s1 := hold.trans ⟨by omega, fun x hx => o1 x (by omega)⟩
      have hu8c := hu8.isCell
      -- its row
      generalize hs2 : newObj s1 (mkRow 76 1 [u8']) = s2
      have n2 : s2.next = s.next + 2 := by rw [← hs2]; show s1.next + 1 = _; omega
      have o2 : ∀ x, x < s1.next → s2.heap.get x = s1.heap.get x := fun x hx => by rw [← hs2, heap_new, if_neg (by omega)]
      have hold2 : Old s0.next s0 s2 := hold1.trans ⟨by omega, fun x hx => o2 x (by omega)⟩
      have hr8 : Rows8Of s2.next s2 (.slice (some (s1.next, 0)) 1 (some 1)) [L] := by
        refine ⟨_, _, rfl, fun q L' hL' => ?_⟩
        cases q with
        | zero =>
          simp at hL'; subst hL'
          obtain ⟨r, h1, h2, _⟩ := holds_mkRow 76 1 [u8']
          refine ⟨s1.next, 0, u8', rfl, by omega, load1_row (by rw [← hs2, heap_new, if_pos rfl, h1]) (by rw [h2.1]; simp) (h2.2 0 u8' rfl), (hu8.old hold2 hb).mono (by omega)⟩
        | succ q => simp at hL'
      have hfa : allocA Try.prog 27 = some (mkRow 27 0 [.bool false, .slice none 0 (some 0)], .ptr) := alloc27
      have hptr : ∀ i, Made.val i .ptr = .ptr (some (i, 0)) := fun _ => rfl
      simp only [c23l11, c23o3, c23o4, c23o5, len_slice Try.underlying31, hkk, hkk20, e1, fa79_0, ldd hold, bld_drop, hfa, hptr, on2, g1, withV, fa79_2, ldu hold1, bld30 hu8c.2, hmv, hs2, wpC, wpI, wpS, wpD, wpV, wanted_none, wanted_some, vals, cev_const, cev_var, cev_loc, padV, okV_some, againP, true_and, and_true, upd_zero, upd_succ, nth_zero, nth_succ, wpG_true, wpG_false, condK_true, condK_false, seqK_normal, seqK_ret, seqK_exit, inBlock_normal, inBlock_ret, inBlock_exit, ends_ret, ends_normal, unmark_nil, results_nil, results_cons, one_one, one_zero, one_two, isB_undef, isB_tt, isB_ff, Bool.not_true, Bool.not_false, Option.bind_some, pick3, pickA, extractA, List.getElem?_cons_zero, List.getElem?_cons_succ, bin_lss, bin_gtr, bin_leq, bin_geq, bin_eql, bin_neq, un_not]
      refine (clauses_ok hE (Nat.le_refl _) (ls := [L]) (fun x hx => by have : x = L := by simpa using hx
                                                                        subst this; exact ⟨hL, hLl⟩) (by simp) hr8).mono ?_
      rintro v5 s3 ⟨us5, O5, hm5, hold3⟩
      have hcl : clausesV [L] = [rowV L] := rfl
      rw [hcl] at hm5
      obtain ⟨u5, hu5a, hu5b⟩ := hm5.rows.2 0 (rowV L) rfl
      have hu5m : u5 ∈ us5 := List.mem_of_getElem? hu5a
      obtain ⟨a5, cap5, hv5, hc5⟩ := hm5.dest.cells
      obtain ⟨i5, o5, ha5, hi5, hl5⟩ := hc5 0 u5 hu5a
      have husl : us5.length = 1 := hm5.rows.1
      rw [husl, ha5] at hv5
      subst hv5
      have f1 : indexAddrA Try.prog 22 (.slice (some (i5, o5)) 1 cap5) (iv 0) = some (.ptr (some (i5, o5 + 0 * 1))) := idx_slice (k := 0) Try.underlying22 sz23 (by decide)
      have f2 : loadV Try.prog s3 23 (.ptr (some (i5, o5 + 0 * 1))) = some u5 := load_one ag23 (by simpa using hl5)
      have hb3 : Box2 s3 s.next (.bool d) (.slice none 0 (some 0)) := g2.keep (by rw [hold3.2 s.next (by omega), o2 s.next (by omega)])
      obtain ⟨s4, k1, k2, k3, k4⟩ := hb3.store1 hu5b.isCell.1 hu5b.isCell.2
      have o34 : ∀ x, x < s.next → s4.heap.get x = s.heap.get x := fun x hx => by rw [k4 x (by omega), hold3.2 x (by omega), o2 x (by omega), o1 x hx]
      have hold3' := hold3.1
      have hmd4 : MadeT s0.next s4 v2 us T O := hmd.frame (by omega) o34
      have hold4 : Old s0.next s0 s4 := hold.trans ⟨by omega, fun x hx => o34 x (by omega)⟩
      have hsl5 := fun x (hx : slot u5 = some x) => hm5.slots u5 hu5m x hx
      have hOlt : ∀ x ∈ O, x < s.next := hmd.dest.lt
      have hxb : XBox s0.next s4 s.next O d u5 (rowV L) := ⟨k2, by rw [k3]; exact hu5b.keep fun x hx => k4 x (by have := (hsl5 x hx).1; omega), fun x hx => by
        obtain ⟨p1, p2, p3⟩ := hsl5 x hx
        exact ⟨by omega, by omega, fun h => by have := hOlt x h; omega⟩⟩
      simp only [c23o6, f1, f2, fa27_1, Nat.zero_add, on2, k1, withV, wpC, wpI, wpS, wpD, wpV, wanted_none, wanted_some, vals, cev_const, cev_var, cev_loc, padV, okV_some, againP, true_and, and_true, upd_zero, upd_succ, nth_zero, nth_succ, wpG_true, wpG_false, condK_true, condK_false, seqK_normal, seqK_ret, seqK_exit, inBlock_normal, inBlock_ret, inBlock_exit, ends_ret, ends_normal, unmark_nil, results_nil, results_cons, one_one, one_zero, one_two, isB_undef, isB_tt, isB_ff, Bool.not_true, Bool.not_false, Option.bind_some, pick3, pickA, extractA, List.getElem?_cons_zero, List.getElem?_cons_succ, bin_lss, bin_gtr, bin_leq, bin_geq, bin_eql, bin_neq, un_not]
      have hrest := line_rest (E := E) (lo := s0.next) (s0 := s0) (b := b) (fun x hx => (hss x hx).1) (cap := cap) hlen hb hst hx (by omega) hmd4 hold4 (by omega) hxb ⟨by omega, by omega⟩ (fun h => by have := hOlt _ h; omega)
        (fun h => by have := hmd.dest.slot_lt _ h; omega) (fun y hy h => by have := (hmd.slots y hy _ h).2.1; omega) (fun h => by have := (hsl5 _ h).1; omega) v1 (.slice (some (i5, o5)) 1 cap5) (.bool true) x7 (Q := InBlock 1 (seqK (wpC E none (.ops c23o10) (seqK W Q)) (seqK W Q)))
        (fun v' s' us' O' y6 y7 h1 h2 => by
          simp only [c23o10, e3, hcast, wpC, wpI, wpS, wpD, wpV, wanted_none, wanted_some, vals, cev_const, cev_var, cev_loc, padV, okV_some, againP, true_and, and_true, upd_zero, upd_succ, nth_zero, nth_succ, wpG_true, wpG_false, condK_true, condK_false, seqK_normal, seqK_ret, seqK_exit, inBlock_normal, inBlock_ret, inBlock_exit, ends_ret, ends_normal, unmark_nil, results_nil, results_cons, one_one, one_zero, one_two, isB_undef, isB_tt, isB_ff, Bool.not_true, Bool.not_false, Option.bind_some, pick3, pickA, extractA, List.getElem?_cons_zero, List.getElem?_cons_succ, bin_lss, bin_gtr, bin_leq, bin_geq, bin_eql, bin_neq, un_not]
          rw [← hW]
          refine ih (k + 1) us' _ O' v' s' _ _ _ _ (by omega) hlt (by omega) ?_ h1 h2 hq
          rw [List.take_succ_eq_append_getElem hlt, hsk, hT]
          have : ∀ (l : List Step20) (out : Trace20), linesV out (l ++ [(d, w, L)]) = linesV out l ++ [lineOf (linesV out l) d w L] := by
            intro l
            induction l with
            | nil => intro out; rfl
            | cons x l ih => obtain ⟨d', w', L'⟩ := x; intro out; simp only [List.cons_append, linesV]; exact ih _
          rw [this])
      simp only [wpC, wpI, wpS, wpD, wpV, wanted_none, wanted_some, vals, cev_const, cev_var, cev_loc, padV, okV_some, againP, true_and, and_true, upd_zero, upd_succ, nth_zero, nth_succ, wpG_true, wpG_false, condK_true, condK_false, seqK_normal, seqK_ret, seqK_exit, inBlock_normal, inBlock_ret, inBlock_exit, ends_ret, ends_normal, unmark_nil, results_nil, results_cons, one_one, one_zero, one_two, isB_undef, isB_tt, isB_ff, Bool.not_true, Bool.not_false, Option.bind_some, pick3, pickA, extractA, List.getElem?_cons_zero, List.getElem?_cons_succ, bin_lss, bin_gtr, bin_leq, bin_geq, bin_eql, bin_neq, un_not] at hrest
      exact hrest
    · have hkl : k = ss.length := by omega
      subst hT
      have hte : ss.take k = ss.take 20 := by rw [List.take_of_length_le (by omega), List.take_of_length_le (by omega)]
      rw [hte] at hmd
      have hmin : min ss.length 20 = k := by omega
      rw [hmin] at hq
      have hkk : decide ((k : Int) < (ss.length : Int)) = false := decide_eq_false (by omega)
      simp only [c23l11, c23o3, len_slice Try.underlying31, hkk, wpC, wpI, wpS, wpD, wpV, wanted_none, wanted_some, vals, cev_const, cev_var, cev_loc, padV, okV_some, againP, true_and, and_true, upd_zero, upd_succ, nth_zero, nth_succ, wpG_true, wpG_false, condK_true, condK_false, seqK_normal, seqK_ret, seqK_exit, inBlock_normal, inBlock_ret, inBlock_exit, ends_ret, ends_normal, unmark_nil, results_nil, results_cons, one_one, one_zero, one_two, isB_undef, isB_tt, isB_ff, Bool.not_true, Bool.not_false, Option.bind_some, pick3, pickA, extractA, List.getElem?_cons_zero, List.getElem?_cons_succ, bin_lss, bin_gtr, bin_leq, bin_geq, bin_eql, bin_neq, un_not]
      exact hq s v2 us O _ _ _ _ hmd hold

/-- lines. -/
theorem lines_ok {E : Env} (hE : Good E) {s : ASt} {b : Nat} (hb : b ≤ s.next) {ss : List Step20} (hss : ∀ x ∈ ss, u8 x.2.1 ∧ I8s x.2.2 ∧ x.2.2.length < 9223372036854775808) (hlen : ss.length < 9223372036854775808) {v : AV} (hv : StepsOf b s v ss) :
    WF E 23 [v] (fun r s' => ∃ us O, MadeT s.next s' r us (linesV [] (ss.take 20)) O ∧ Old s.next s s') s := by
  obtain ⟨a, cap, rfl, hst⟩ := hv
  refine hE.go comp23 (by decide) rfl ?_
  simp only [c23, c23o0, c23o1, c23o2, wpC, wpI, wpS, wpD, wpV, wanted_none, wanted_some, vals, cev_const, cev_var, cev_loc, padV, okV_some, againP, true_and, and_true, upd_zero, upd_succ, nth_zero, nth_succ, wpG_true, wpG_false, condK_true, condK_false, seqK_normal, seqK_ret, seqK_exit, inBlock_normal, inBlock_ret, inBlock_exit, ends_ret, ends_normal, unmark_nil, results_nil, results_cons, one_one, one_zero, one_two, isB_undef, isB_tt, isB_ff, Bool.not_true, Bool.not_false, Option.bind_some, pick3, pickA, extractA, List.getElem?_cons_zero, List.getElem?_cons_succ, bin_lss, bin_gtr, bin_leq, bin_geq, bin_eql, bin_neq, un_not]
  refine lines_loop hE hb hss hlen hst _ 20 0 [] [] [] _ s _ _ _ _ rfl (Nat.zero_le _) (by omega) rfl ⟨Dest.nil s 2, LineCells.nil _ _, (fun u hu => by cases hu), (fun j hj => by cases hj)⟩ (Old.refl _ _) ?_
  intro s' v' us' O' y4 y5 y6 y7 h1 h2
  simp only [c23o12, if_true, wpC, wpI, wpS, wpD, wpV, wanted_none, wanted_some, vals, cev_const, cev_var, cev_loc, padV, okV_some, againP, true_and, and_true, upd_zero, upd_succ, nth_zero, nth_succ, wpG_true, wpG_false, condK_true, condK_false, seqK_normal, seqK_ret, seqK_exit, inBlock_normal, inBlock_ret, inBlock_exit, ends_ret, ends_normal, unmark_nil, results_nil, results_cons, one_one, one_zero, one_two, isB_undef, isB_tt, isB_ff, Bool.not_true, Bool.not_false, Option.bind_some, pick3, pickA, extractA, List.getElem?_cons_zero, List.getElem?_cons_succ, bin_lss, bin_gtr, bin_leq, bin_geq, bin_eql, bin_neq, un_not]
  exact ⟨us', O', h1, h2⟩
end Go.Proofs.Ytilhhmkdcoajnaa.Am

/- The compiled code of more functions that layer 20 reaches, printed by a program of ours (dev/Print.lean) and checked by the kernel; conditions: none. -/
set_option linter.unusedVariables false
set_option linter.unusedSimpArgs false
namespace Go.Proofs.Ytilhhmkdcoajnaa.Am
open Go Go.Proofs

/-! math/bits.Len -/
/- kept: [0, 2], params 1 -/
noncomputable def c109o0 : List CItem := [
  ⟨none, .p1 some, [(.const (.int .i64 (0)))], (.set 1), []⟩]
noncomputable def c109o1 : List CItem := [
  ⟨none, .r1 (fun s x => convA Try.prog s 133 145 x), [(.var 0)], .push, []⟩,
  ⟨none, .call 126, [(.loc 0)], .push, []⟩,
  ⟨none, .p1 some, [(.loc 0)], (.set 1), []⟩]
noncomputable def c109o2 : List CItem := [
  ⟨none, .call 127, [(.var 0)], .push, []⟩,
  ⟨none, .p1 some, [(.loc 0)], (.set 1), []⟩]
noncomputable def c109 : CFunc := ⟨1, 2, (.seq (.ops c109o0) (.seq (.cond (.const (.bool false))
  (.seq (.ops c109o1) .ret)
  .skip) (.seq (.ops c109o2) .ret))), [((.var 1), none)]⟩

/-! cmp.Less[int] -/
/- kept: [0, 1, 4], params 2 -/
noncomputable def c123o0 : List CItem := [
  ⟨none, .p1 some, [(.const (.bool false))], (.set 2), []⟩]
noncomputable def c123o1 : List CItem := [
  ⟨none, .call 134, [(.var 0)], .push, []⟩,
  ⟨(some ((.loc 0), true)), .p1 some, [(.var 1)], .push, []⟩,
  ⟨(some ((.loc 1), true)), .call 134, [(.loc 0)], .push, []⟩,
  ⟨(some ((.loc 2), true)), .p1 (unA Try.prog Go.UnOp.not), [(.loc 0)], .push, []⟩,
  ⟨none, .p pick3, [(.loc 3), (.loc 0), (.const (.bool false))], .push, []⟩,
  ⟨(some ((.loc 0), false)), .p1 some, [(.var 0)], .push, []⟩,
  ⟨(some ((.loc 1), false)), .p1 some, [(.var 1)], .push, []⟩,
  ⟨(some ((.loc 2), false)), .p2 (binA Try.prog .lss 3), [(.loc 1), (.loc 0)], .push, []⟩,
  ⟨none, .p pick3, [(.loc 3), (.const (.bool true)), (.loc 0)], .push, []⟩,
  ⟨none, .p1 some, [(.loc 0)], (.set 2), []⟩]
noncomputable def c123 : CFunc := ⟨2, 3, (.seq (.ops c123o0) (.seq (.ops c123o1) .ret)), [((.var 2), none)]⟩

/-! math/bits.Len64 -/
/- kept: [0, 2, 4, 8, 14], params 1 -/
noncomputable def c127o0 : List CItem := [
  ⟨none, .p1 some, [(.const (.int .i64 (0)))], (.set 1), []⟩]
noncomputable def c127o1 : List CItem := [
  ⟨none, .p2 (binA Try.prog .geq 147), [(.var 0), (.const (.int .u64 (4294967296)))], (.set 2), []⟩]
noncomputable def c127o2 : List CItem := [
  ⟨none, .p1 some, [(.var 0)], .push, []⟩,
  ⟨none, .p2 (binA Try.prog .shr 147), [(.loc 0), (.const (.int .u64 (32)))], .push, []⟩,
  ⟨none, .p1 some, [(.loc 0)], (.set 0), []⟩]
noncomputable def c127o3 : List CItem := [
  ⟨none, .p1 some, [(.const (.int .i64 (32)))], (.set 1), []⟩]
noncomputable def c127o4 : List CItem := [
  ⟨none, .p2 (binA Try.prog .geq 147), [(.var 0), (.const (.int .u64 (65536)))], (.set 3), []⟩]
noncomputable def c127o5 : List CItem := [
  ⟨none, .p1 some, [(.var 0)], .push, []⟩,
  ⟨none, .p2 (binA Try.prog .shr 147), [(.loc 0), (.const (.int .u64 (16)))], .push, []⟩,
  ⟨none, .p1 some, [(.loc 0)], (.set 0), []⟩]
noncomputable def c127o6 : List CItem := [
  ⟨none, .p1 some, [(.var 1)], .push, []⟩,
  ⟨none, .p2 (binA Try.prog .add 3), [(.loc 0), (.const (.int .i64 (16)))], .push, []⟩,
  ⟨none, .p1 some, [(.loc 0)], (.set 1), []⟩]
noncomputable def c127o7 : List CItem := [
  ⟨none, .p2 (binA Try.prog .geq 147), [(.var 0), (.const (.int .u64 (256)))], (.set 4), []⟩]
noncomputable def c127o8 : List CItem := [
  ⟨none, .p1 some, [(.var 0)], .push, []⟩,
  ⟨none, .p2 (binA Try.prog .shr 147), [(.loc 0), (.const (.int .u64 (8)))], .push, []⟩,
  ⟨none, .p1 some, [(.loc 0)], (.set 0), []⟩]
noncomputable def c127o9 : List CItem := [
  ⟨none, .p1 some, [(.var 1)], .push, []⟩,
  ⟨none, .p2 (binA Try.prog .add 3), [(.loc 0), (.const (.int .i64 (8)))], .push, []⟩,
  ⟨none, .p1 some, [(.loc 0)], (.set 1), []⟩]
noncomputable def c127o10 : List CItem := [
  ⟨none, .p1 some, [(.var 1)], .push, []⟩,
  ⟨none, .r1 (fun s x => convA Try.prog s 147 5 x), [(.var 0)], .push, []⟩,
  ⟨none, .p2 (indexA Try.prog 9), [(.const (.str [0, 1, 2, 2, 3, 3, 3, 3, 4, 4, 4, 4, 4, 4, 4, 4, 5, 5, 5, 5, 5, 5, 5, 5, 5, 5, 5, 5, 5, 5, 5, 5, 6, 6, 6, 6, 6, 6, 6, 6, 6, 6, 6, 6, 6, 6, 6, 6, 6, 6, 6, 6, 6, 6, 6, 6, 6, 6, 6, 6, 6, 6, 6, 6, 7, 7, 7, 7, 7, 7, 7, 7, 7, 7, 7, 7, 7, 7, 7, 7, 7, 7, 7, 7, 7, 7, 7, 7, 7, 7, 7, 7, 7, 7, 7, 7, 7, 7, 7, 7, 7, 7, 7, 7, 7, 7, 7, 7, 7, 7, 7, 7, 7, 7, 7, 7, 7, 7, 7, 7, 7, 7, 7, 7, 7, 7, 7, 7, 8, 8, 8, 8, 8, 8, 8, 8, 8, 8, 8, 8, 8, 8, 8, 8, 8, 8, 8, 8, 8, 8, 8, 8, 8, 8, 8, 8, 8, 8, 8, 8, 8, 8, 8, 8, 8, 8, 8, 8, 8, 8, 8, 8, 8, 8, 8, 8, 8, 8, 8, 8, 8, 8, 8, 8, 8, 8, 8, 8, 8, 8, 8, 8, 8, 8, 8, 8, 8, 8, 8, 8, 8, 8, 8, 8, 8, 8, 8, 8, 8, 8, 8, 8, 8, 8, 8, 8, 8, 8, 8, 8, 8, 8, 8, 8, 8, 8, 8, 8, 8, 8, 8, 8, 8, 8, 8, 8, 8, 8, 8, 8, 8, 8, 8, 8, 8, 8, 8, 8, 8, 8, 8, 8, 8, 8, 8, 8])), (.loc 0)], .push, []⟩,
  ⟨none, .r1 (fun s x => convA Try.prog s 5 3 x), [(.loc 0)], .push, []⟩,
  ⟨none, .p2 (binA Try.prog .add 3), [(.loc 3), (.loc 0)], .push, []⟩,
  ⟨none, .p1 some, [(.loc 0)], (.set 1), []⟩]
noncomputable def c127 : CFunc := ⟨1, 5, (.seq (.ops c127o0) (.seq (.seq (.ops c127o1) (.cond (.var 2)
  (.seq (.ops c127o2) (.ops c127o3))
  .skip)) (.seq (.seq (.ops c127o4) (.cond (.var 3)
  (.seq (.ops c127o5) (.ops c127o6))
  .skip)) (.seq (.seq (.ops c127o7) (.cond (.var 4)
  (.seq (.ops c127o8) (.ops c127o9))
  .skip)) (.seq (.ops c127o10) .ret))))), [((.var 1), none)]⟩

/-! cmp.isNaN[int] -/
/- kept: [0, 2], params 1 -/
noncomputable def c134o0 : List CItem := [
  ⟨none, .p1 some, [(.const (.bool false))], (.set 1), []⟩]
noncomputable def c134o1 : List CItem := [
  ⟨none, .p2 (binA Try.prog .neq 3), [(.var 0), (.var 0)], .push, []⟩,
  ⟨none, .p1 some, [(.loc 0)], (.set 1), []⟩]
noncomputable def c134 : CFunc := ⟨1, 2, (.seq (.ops c134o0) (.seq (.ops c134o1) .ret)), [((.var 1), none)]⟩


theorem comp109 : compFunc Try.prog 109 = some c109 := by kernel_rfl
theorem comp123 : compFunc Try.prog 123 = some c123 := by kernel_rfl
theorem comp127 : compFunc Try.prog 127 = some c127 := by kernel_rfl
theorem comp134 : compFunc Try.prog 134 = some c134 := by kernel_rfl
end Go.Proofs.Ytilhhmkdcoajnaa.Am
