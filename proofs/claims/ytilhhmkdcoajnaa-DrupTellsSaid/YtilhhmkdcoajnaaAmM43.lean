/- What the program's Left of a trace computes; conditions: short plain clauses, few lines. -/
import Derived.Test.YtilhhmkdcoajnaaAmM42
set_option linter.unusedVariables false
set_option linter.unusedSimpArgs false
namespace Go.Proofs.Ytilhhmkdcoajnaa.Am
open Go Go.Proofs

/-- A row of one's own, apart from some objects. -/
def Own1 (lo : Nat) (O : List Nat) (s : ASt) (u : AV) (L : List Int) : Prop := (∃ a, u = .slice a 0 (some 0) ∧ L = []) ∨ ∃ i, u = .slice (some (i, 0)) L.length none ∧ lo ≤ i ∧ i < s.next ∧ i ∉ O ∧ RowAt s i (ivs L)
/-- Rows that are one's own. -/
structure LeftOf (lo : Nat) (s : ASt) (v : AV) (us : List AV) (cs : List (List Int)) (O : List Nat) : Prop where
  dest : Dest s v us.length 1 us O
  len : us.length = cs.length
  rows : ∀ (k : Nat) (L : List Int), cs[k]? = some L → ∃ u : AV, us[k]? = some u ∧ Own1 lo O s u L
  own : ∀ j ∈ O, lo ≤ j
theorem Own1.slice {lo : Nat} {O : List Nat} {s : ASt} {u : AV} {L : List Int} (h : Own1 lo O s u L) : SliceAt s.next s u (ivs L) := by
  rcases h with ⟨a, rfl, rfl⟩ | ⟨i, rfl, h1, h2, h3, h4⟩
  · exact ⟨a, some 0, rfl, CellsAt.nil⟩
  · exact ⟨some (i, 0), none, by rw [ivs_len], fun k u hk => ⟨i, 0, rfl, h2, by rw [Nat.zero_add]; exact h4.load1 hk⟩⟩
theorem LeftOf.rowCells {lo : Nat} {s : ASt} {v : AV} {us : List AV} {cs : List (List Int)} {O : List Nat} (h : LeftOf lo s v us cs O) : RowCells s.next s us cs :=
  ⟨h.len, fun k L hk => let ⟨u, h1, h2⟩ := h.rows k L hk; ⟨u, h1, h2.slice⟩⟩
theorem LeftOf.rowsOf {lo : Nat} {s : ASt} {v : AV} {us : List AV} {cs : List (List Int)} {O : List Nat} (h : LeftOf lo s v us cs O) : RowsOf s.next s v cs := Go.Proofs.Ytilhhmkdcoajnaa.Am.mkRows h.dest.slice h.rowCells (Nat.le_refl _)
theorem LeftOf.frame {lo : Nat} {s s' : ASt} {v : AV} {us : List AV} {cs : List (List Int)} {O : List Nat} (h : LeftOf lo s v us cs O) (hn : s.next ≤ s'.next) (hd : ∀ j, slot v = some j → s'.heap.get j = s.heap.get j) (k : ∀ j, lo ≤ j → j < s.next → s'.heap.get j = s.heap.get j) : LeftOf lo s' v us cs O := by
  refine ⟨h.dest.frame hn hd, h.len, fun j L hj => ?_, h.own⟩
  obtain ⟨u, h1, h2⟩ := h.rows j L hj
  refine ⟨u, h1, ?_⟩
  rcases h2 with h2 | ⟨i, h2, h3, h4, h5, h6⟩
  · exact .inl h2
  · exact .inr ⟨i, h2, h3, by omega, h5, h6.keep (k i h3 h4)⟩
theorem LeftOf.nil (lo : Nat) (s : ASt) : LeftOf lo s (.slice none 0 (some 0)) [] [] [] := ⟨Dest.nil s 1, rfl, (fun k L h => by simp at h), (fun j h => by cases h)⟩

/-- 27's slots while its loop runs. -/
noncomputable def vars27s (v tr : AV) (n0 : Nat) (x6 x7 x8 x10 x11 x12 x13 x14 x15 x16 : AV) : List AV := [v, tr, .ptr (some (n0, 0)), .ptr (some (n0 + 1, 0)), .slice none 0 (some 0), .ptr (some (n0 + 2, 0)), x6, x7, x8, .func 82 [] [.ptr (some (n0 + 3, 0))], x10, x11, x12, x13, x14, x15, x16]
noncomputable def loop27 (v tr : AV) (n0 : Nat) (x6 x7 x8 x10 x11 x12 x13 x14 x15 x16 : AV) : ALoop := loopObj 27 (vars27s v tr n0 x6 x7 x8 x10 x11 x12 x13 x14 x15 x16) #[12, 13] a27 b27 (n0 + 4)
structure Mem27 (v tr : AV) (n0 : Nat) (s : ASt) : Prop where
  bc : Box1 s n0 v
  bt : Box1 s (n0 + 1) tr
  bo : Box1 s (n0 + 2) (.slice none 0 (some 0))
  mrk : s.heap.get (n0 + 4) = some .mark
theorem Mem27.old {v tr : AV} {n0 l : Nat} {s s' : ASt} (h : Mem27 v tr n0 s) (k : Old l s s') (hl : n0 + 5 ≤ l) : Mem27 v tr n0 s' :=
  ⟨h.bc.keep (k.2 _ (by omega)), h.bt.keep (k.2 _ (by omega)), h.bo.keep (k.2 _ (by omega)), (k.2 _ (by omega)).trans h.mrk⟩
def Fin27 (n0 : Nat) (s0 : ASt) (R : List (List Int)) (s' : ASt) : Prop := Old n0 s0 s' ∧ n0 + 5 < s'.next ∧ s'.heap.get (n0 + 4) = some .mark ∧ (∃ r, loopAt s' (n0 + 5) = some r ∧ isBusy r.state = false ∧ r.pending = none) ∧
  ∃ w us O, Box1 s' (n0 + 2) w ∧ LeftOf (n0 + 6) s' w us R O ∧ ∀ j, slot w = some j → n0 + 6 ≤ j
def Li27 (v tr : AV) (n0 : Nat) (k : Nat) (s : ASt) : Prop := ∃ x6 x7 x8 x10 x11 x12 x13 x14 x15 x16, loopAt s (n0 + 5) = some (loop27 v tr n0 x6 x7 x8 x10 x11 x12 x13 x14 x15 x16)

set_option maxRecDepth 16000 in
/-- The loop that copies. -/
theorem left_loop {E : Env} (hE : Good E) {sr : ASt} {n0 b : Nat} {v tr r : AV} {usr : List AV} {rs : List (List Int)} (hb : b ≤ n0) (hn : n0 + 6 ≤ sr.next) (hr : SliceAt sr.next sr r usr) (hrs : ∀ j, slot r = some j → n0 + 6 ≤ j) (hrow : RowCells b sr usr rs) (hlen : rs.length ≤ 2000) (hll : ∀ L ∈ rs, L.length ≤ 1000)
    (x6 x7 x10 x11 x12 : AV) {Q : ARes → Prop} :
    ∀ (l : List (List Int)) (k : Nat) (s : ASt) (w : AV) (us : List AV) (O : List Nat) (x8 x16 : AV), rs.drop k = l → k ≤ rs.length → OldBut (n0 + 2) sr s → Box1 s (n0 + 2) w → LeftOf sr.next s w us (rs.take k) O → (∀ j, slot w = some j → sr.next ≤ j) →
      (∀ s' w' us' O' y8 y16, OldBut (n0 + 2) sr s' → Box1 s' (n0 + 2) w' → LeftOf sr.next s' w' us' rs O' → (∀ j, slot w' = some j → sr.next ≤ j) → Q ⟨.exit 2, vars27s v tr n0 x6 x7 y8 x10 x11 x12 r (iv (usr.length : Int)) (iv (usr.length : Int)) y16, [], s'⟩) →
      WC E (some (n0 + 5)) (.loop c27l11) Q (vars27s v tr n0 x6 x7 x8 x10 x11 x12 r (iv (usr.length : Int)) (iv (k : Int)) x16) [] s := by
  have hul := hrow.1
  intro l
  induction l with
  | nil =>
    intro k s w us O x8 x16 hd hk hold hbx hlo hws hq
    have := drop_end hd hk
    subst this
    refine WC.loop' ?_
    rw [← hul]
    simp only [vars27s, c27l11, c27o7, Int.lt_irrefl, decide_false, wpC, wpI, wpS, wpD, wpV, wanted_none, wanted_some, vals, cev_const, cev_var, cev_loc, padV, okV_some, againP, true_and, and_true, upd_zero, upd_succ, nth_zero, nth_succ, wpG_true, wpG_false, condK_true, condK_false, seqK_normal, seqK_ret, seqK_exit, inBlock_normal, inBlock_ret, inBlock_exit, ends_ret, ends_normal, unmark_nil, results_nil, results_cons, one_one, one_zero, one_two, isB_undef, isB_tt, isB_ff, Bool.not_true, Bool.not_false, Option.bind_some, pick3, pickA, extractA, List.getElem?_cons_zero, List.getElem?_cons_succ, bin_lss, bin_gtr, bin_leq, bin_geq, bin_eql, bin_neq, un_not]
    rw [List.take_length] at hlo
    exact hq s w us O _ _ hold hbx hlo hws
  | cons L l ih =>
    intro k s w us O x8 x16 hd hk hold hbx hlo hws hq
    obtain ⟨hlt, hx, hd'⟩ := drop_facts hd
    have hkk : decide ((k : Int) < (usr.length : Int)) = true := decide_eq_true (by omega)
    have e3 := bin_add Try.prog 3 (k : Int) 1 ⟨by omega, by omega⟩
    have hcast : ((k : Int) + 1) = ((k + 1 : Nat) : Int) := by omega
    obtain ⟨uk, huk, hus⟩ := hrow.2 k L hx
    have hr' : SliceAt sr.next s r usr := hr.keep fun j hj => hold.2 j (by obtain ⟨a, cap, rfl, hc⟩ := hr; exact (show SliceAt sr.next sr (.slice a usr.length cap) usr from ⟨a, cap, rfl, hc⟩).slot_lt (List.ne_nil_of_length_pos (by omega)) j hj) (by have := hrs j hj; omega)
    obtain ⟨a, cap, hre, hcells⟩ := hr'
    obtain ⟨i, o, hae, hi, hload⟩ := hcells k uk huk
    have e1 : indexAddrA Try.prog 22 r (iv (k : Int)) = some (.ptr (some (i, o + k * 1))) := by rw [hre, hae]; exact idx_slice Try.underlying22 sz23 (by omega)
    have e2 : loadV Try.prog s 23 (.ptr (some (i, o + k * 1))) = some uk := load_one ag23 (by rw [Nat.mul_one]; exact hload)
    have hns := hold.1
    have hus' : SliceAt b s uk (ivs L) := hus.old ((hold.old (by omega)).mono (by omega)) (Nat.le_refl _)
    have lout := hbx.load ag22
    refine WC.loop' ?_
    generalize hW : WC E (some (n0 + 5)) (CCode.loop c27l11) Q = W
    simp only [vars27s, c27l11, c27o7, c27o8, c27o9, hkk, e1, e2, lout, wpC, wpI, wpS, wpD, wpV, wanted_none, wanted_some, vals, cev_const, cev_var, cev_loc, padV, okV_some, againP, true_and, and_true, upd_zero, upd_succ, nth_zero, nth_succ, wpG_true, wpG_false, condK_true, condK_false, seqK_normal, seqK_ret, seqK_exit, inBlock_normal, inBlock_ret, inBlock_exit, ends_ret, ends_normal, unmark_nil, results_nil, results_cons, one_one, one_zero, one_two, isB_undef, isB_tt, isB_ff, Bool.not_true, Bool.not_false, Option.bind_some, pick3, pickA, extractA, List.getElem?_cons_zero, List.getElem?_cons_succ, bin_lss, bin_gtr, bin_leq, bin_geq, bin_eql, bin_neq, un_not]
    refine (clone_ok hE (b := b) (by omega) hus' (by have := hll L (List.mem_of_getElem? hx); omega)).mono ?_
    rintro u s1 ⟨hu, ho1⟩
    have hn1 := ho1.1
    have hbx1 : Box1 s1 (n0 + 2) w := hbx.keep (ho1.2 _ (by omega))
    have hlo1 : LeftOf sr.next s1 w us (rs.take k) O := hlo.frame ho1.1 (fun j hj => ho1.2 j (hlo.dest.slot_lt j hj)) fun j _ hj => ho1.2 j hj
    have husl : us.length = k := by rw [hlo.len]; simp; omega
    have huc : u.isCell = true ∧ u.cells = [u] := hu.slice.isCell
    have b1 := bld_one (P := Try.prog) (t := 22) (v := u) Try.underlying22 sz23 zr23 rfl huc.2
    have hms : ∀ (m : Nat) (i : Nat), Made.val i (.slice m) = .slice (some (i, 0)) m (some m) := fun _ _ => rfl
    obtain ⟨v', s2, O', p1, p2, p3, p4, p5, p6⟩ := push_row hlo1.dest (by omega) huc.1
    have hbx2 : Box1 s2 (n0 + 2) w := hbx1.keep (p4 _ (by omega) (fun h => by have := hlo.own _ h; omega))
    have hvc : v'.isCell = true ∧ v'.cells = [v'] := p2.slice.isCell
    obtain ⟨s3, q1, q2, q3, q4⟩ := hbx2.store (d := v') sz22 hvc.1 hvc.2
    have hself : eqA w w = true := hlo.dest.slice.self
    simp only [again_r1, sameA_some, hbx1.load ag22, hself, b1, hms, p1, on2, q1, withV, c27o10, e3, hcast, wpC, wpI, wpS, wpD, wpV, wanted_none, wanted_some, vals, cev_const, cev_var, cev_loc, padV, okV_some, againP, true_and, and_true, upd_zero, upd_succ, nth_zero, nth_succ, wpG_true, wpG_false, condK_true, condK_false, seqK_normal, seqK_ret, seqK_exit, inBlock_normal, inBlock_ret, inBlock_exit, ends_ret, ends_normal, unmark_nil, results_nil, results_cons, one_one, one_zero, one_two, isB_undef, isB_tt, isB_ff, Bool.not_true, Bool.not_false, Option.bind_some, pick3, pickA, extractA, List.getElem?_cons_zero, List.getElem?_cons_succ, bin_lss, bin_gtr, bin_leq, bin_geq, bin_eql, bin_neq, un_not]
    rw [← hW]
    have hOlt := hlo.dest.lt
    refine ih (k + 1) s3 v' (us ++ [u]) O' _ _ hd' hlt ⟨by omega, fun x hx hne => ?_⟩ q2 ⟨?_, ?_, ?_, ?_⟩ ?_ hq
    · rw [q4 x hne, p4 x (by omega) (fun h => by have := hlo.own _ h; omega), ho1.2 x (by omega), hold.2 x hx hne]
    · rw [List.length_append]
      refine Dest.frame p2 (by omega) fun j hj => q4 j ?_
      rcases p6 j hj with h | h
      · have := hws j h; omega
      · omega
    · rw [List.length_append, hlo.len]; simp; omega
    · intro j M hj
      rw [List.take_succ_eq_append_getElem hlt] at hj
      have hlk : (rs.take k).length = k := by simp; omega
      rcases Nat.lt_or_ge j k with h | h
      · rw [List.getElem?_append_left (by omega)] at hj
        obtain ⟨y, y1, y2⟩ := hlo1.rows j M hj
        refine ⟨y, by rw [List.getElem?_append_left (by omega)]; exact y1, ?_⟩
        rcases y2 with y2 | ⟨i', g1, g2, g3, g4, g5⟩
        · exact .inl y2
        · refine .inr ⟨i', g1, g2, by omega, fun h => ?_, g5.keep ((q4 i' (by omega)).trans (p4 i' g3 g4))⟩
          rcases p5 i' h with h | h
          · exact g4 h
          · omega
      · rw [List.getElem?_append_right (by omega), hlk] at hj
        have hj0 : j = k := by
          rcases Nat.lt_or_ge (j - k) 1 with h' | h'
          · omega
          · rw [List.getElem?_eq_none (by simpa using h')] at hj; cases hj
        subst hj0
        have hM : rs[j] = M := by simpa using hj
        have hML : M = L := by
          rw [List.getElem?_eq_getElem hlt] at hx
          injection hx with hx
          rw [← hM, hx]
        subst hML
        refine ⟨u, by rw [← husl]; simp, ?_⟩
        rcases hu with ⟨a', e, e'⟩ | ⟨i', g1, g2, g3, g4⟩
        · exact .inl ⟨a', e, e'⟩
        · refine .inr ⟨i', g1, by omega, by omega, fun h => ?_, g4.keep ((q4 i' (by omega)).trans (p4 i' g3 (fun h => by have := hOlt _ h; omega)))⟩
          rcases p5 i' h with h | h
          · have := hOlt _ h; omega
          · omega
    · intro j hj
      rcases p5 j hj with h | h
      · exact hlo.own j h
      · omega
    · intro j hj
      rcases p6 j hj with h | h
      · exact hws j h
      · omega
end Go.Proofs.Ytilhhmkdcoajnaa.Am

/- What the program's Left of a trace computes, all of it; conditions: short plain clauses, few lines. -/
set_option linter.unusedVariables false
set_option linter.unusedSimpArgs false
namespace Go.Proofs.Ytilhhmkdcoajnaa.Am
open Go Go.Proofs

set_option maxRecDepth 16000 in
theorem left_round {E : Env} (hE : Good E) {sa s0 : ASt} {n0 b : Nat} {v tr : AV} {T : Trace20} (hn0 : sa.next = n0) (hb : b ≤ n0) (hT : TraceAt b sa tr T) (h0 : Old n0 sa s0) (hmem : Mem27 v tr n0 s0)
    {k : Nat} {s : ASt} {w : AV} {K : AV → ASt → Prop} (hk : k < T.length) (hat : AtState b (n0 + 5) s0 s T k w) (hli : Li27 v tr n0 k s)
    (hgo : ∀ s', OldBut (n0 + 5) s s' → Li27 v tr n0 (k + 1) s' → K (.bool true) s') : WR E (n0 + 5) [iv (k : Int), w] K s := by
  obtain ⟨x6, x7, x8, x10, x11, x12, x13, x14, x15, x16, hlp⟩ := hli
  have hz : zipParams (varsIn E.P 27) (vars27s v tr n0 x6 x7 x8 x10 x11 x12 x13 x14 x15 x16) [12, 13] [iv (k : Int), w] = some (vars27s v tr n0 x6 x7 x8 (iv (k : Int)) w x12 x13 x14 x15 x16) := by
    rw [hE.P, vars27]; rfl
  refine WR.round hlp hz (by rw [hE.P]; exact ca27) (by rw [hE.P]; exact cb27) ?_
  refine wpC_run ?_
  simp only [c27a, c27o3, c27o4, vars27s, wpC, wpI, wpS, wpD, wpV, wanted_none, wanted_some, vals, cev_const, cev_var, cev_loc, padV, okV_some, againP, true_and, and_true, upd_zero, upd_succ, nth_zero, nth_succ, wpG_true, wpG_false, condK_true, condK_false, seqK_normal, seqK_ret, seqK_exit, inBlock_normal, inBlock_ret, inBlock_exit, ends_ret, ends_normal, unmark_nil, results_nil, results_cons, one_one, one_zero, one_two, isB_undef, isB_tt, isB_ff, Bool.not_true, Bool.not_false, Option.bind_some, pick3, pickA, extractA, List.getElem?_cons_zero, List.getElem?_cons_succ, bin_lss, bin_gtr, bin_leq, bin_geq, bin_eql, bin_neq, un_not]
  refine ⟨_, hlp, rfl, wpC_run ?_⟩
  generalize hs1 : setObj s (n0 + 5) _ = s1
  have n1 : s1.next = s.next := by rw [← hs1]; rfl
  have l1 : loopAt s1 (n0 + 5) = some { loop27 v tr n0 x6 x7 x8 x10 x11 x12 x13 x14 x15 x16 with state := .busy } := by rw [← hs1, loopAt_set]
  have hlt := hat.lt
  have o1 : OldBut (n0 + 5) s s1 := ⟨by omega, fun x _ hx => by rw [← hs1, heap_set, if_neg hx]⟩
  have old1 : Old (n0 + 5) s0 s1 := hat.old.trans (o1.old (by omega))
  have m1 := hmem.old old1 (Nat.le_refl _)
  have hln : ∀ s, lenA Try.prog s 33 tr = some (iv (T.length : Int)) := fun s => by obtain ⟨a, cap, rfl, _⟩ := hT; exact len_slice Try.underlying33
  have ltr := m1.bt.load ag33
  have hne : decide ((k : Int) < (T.length : Int)) = true := decide_eq_true (by omega)
  simp only [c27b, c27o5, ltr, hln, hne, if_true, wpC, wpI, wpS, wpD, wpV, wanted_none, wanted_some, vals, cev_const, cev_var, cev_loc, padV, okV_some, againP, true_and, and_true, upd_zero, upd_succ, nth_zero, nth_succ, wpG_true, wpG_false, condK_true, condK_false, seqK_normal, seqK_ret, seqK_exit, inBlock_normal, inBlock_ret, inBlock_exit, ends_ret, ends_normal, unmark_nil, results_nil, results_cons, one_one, one_zero, one_two, isB_undef, isB_tt, isB_ff, Bool.not_true, Bool.not_false, Option.bind_some, pick3, pickA, extractA, List.getElem?_cons_zero, List.getElem?_cons_succ, bin_lss, bin_gtr, bin_leq, bin_geq, bin_eql, bin_neq, un_not]
  refine ⟨_, l1, ?_⟩
  refine hgo _ ?_ ⟨x6, x7, x8, x10, x11, x12, x13, x14, x15, x16, ?_⟩
  · exact o1.trans ⟨Nat.le_refl _, fun x _ hx => by rw [heap_set, if_neg hx]⟩
  · rw [loopAt_set]; rfl

set_option maxRecDepth 16000 in
theorem left_last {E : Env} (hE : Good E) {sa s0 : ASt} {n0 b : Nat} {v tr : AV} {us : List AV} {cs : List (List Int)} {T : Trace20} (hn0 : sa.next = n0) (hb : b ≤ n0) (hv : SliceAt n0 sa v us) (hr : RowCells b sa us cs) (hcs : FitsR cs)
    (hT : TraceAt b sa tr T) (hP : PlainT T) (h0 : Old n0 sa s0) (hmem : Mem27 v tr n0 s0)
    {s : ASt} {w : AV} {K : AV → ASt → Prop} (hat : AtState b (n0 + 5) s0 s T T.length w) (hli : Li27 v tr n0 T.length s)
    (hend : ∀ c s', Fin27 n0 sa (cs ++ learnT T) s' → K (.bool c) s') : WR E (n0 + 5) [iv (T.length : Int), w] K s := by
  obtain ⟨x6, x7, x8, x10, x11, x12, x13, x14, x15, x16, hlp⟩ := hli
  have hz : zipParams (varsIn E.P 27) (vars27s v tr n0 x6 x7 x8 x10 x11 x12 x13 x14 x15 x16) [12, 13] [iv (T.length : Int), w] = some (vars27s v tr n0 x6 x7 x8 (iv (T.length : Int)) w x12 x13 x14 x15 x16) := by
    rw [hE.P, vars27]; rfl
  refine WR.round hlp hz (by rw [hE.P]; exact ca27) (by rw [hE.P]; exact cb27) ?_
  refine wpC_run ?_
  simp only [c27a, c27o3, c27o4, vars27s, wpC, wpI, wpS, wpD, wpV, wanted_none, wanted_some, vals, cev_const, cev_var, cev_loc, padV, okV_some, againP, true_and, and_true, upd_zero, upd_succ, nth_zero, nth_succ, wpG_true, wpG_false, condK_true, condK_false, seqK_normal, seqK_ret, seqK_exit, inBlock_normal, inBlock_ret, inBlock_exit, ends_ret, ends_normal, unmark_nil, results_nil, results_cons, one_one, one_zero, one_two, isB_undef, isB_tt, isB_ff, Bool.not_true, Bool.not_false, Option.bind_some, pick3, pickA, extractA, List.getElem?_cons_zero, List.getElem?_cons_succ, bin_lss, bin_gtr, bin_leq, bin_geq, bin_eql, bin_neq, un_not]
  refine ⟨_, hlp, rfl, wpC_run ?_⟩
  generalize hs1 : setObj s (n0 + 5) _ = s1
  have n1 : s1.next = s.next := by rw [← hs1]; rfl
  have l1 : loopAt s1 (n0 + 5) = some { loop27 v tr n0 x6 x7 x8 x10 x11 x12 x13 x14 x15 x16 with state := .busy } := by rw [← hs1, loopAt_set]
  have hlt := hat.lt
  have o1 : OldBut (n0 + 5) s s1 := ⟨by omega, fun x _ hx => by rw [← hs1, heap_set, if_neg hx]⟩
  have old1 : Old (n0 + 5) s0 s1 := hat.old.trans (o1.old (by omega))
  have olda : Old n0 sa s1 := h0.trans (old1.mono (by omega))
  have m1 := hmem.old old1 (Nat.le_refl _)
  have hln : ∀ s, lenA Try.prog s 33 tr = some (iv (T.length : Int)) := fun s => by obtain ⟨a, cap, rfl, _⟩ := hT; exact len_slice Try.underlying33
  have ltr := m1.bt.load ag33
  have hP1 := hP.1
  obtain ⟨us2, hw1, hw2, hw3⟩ := hat.ex
  rw [List.take_length] at hw2
  have hw1 : Learn s1 w us2 := hw1.frame o1.1 fun j hj hs => o1.2 j hj (fun e => hw3 (by rw [hs, e]))
  have hw2 : RowCells b s1 us2 (learnT T) := hw2.old ((o1.old (by omega)).mono (by omega))
  have lcl := m1.bc.load ag22
  have hv1 : SliceAt n0 s1 v us := hv.old olda (Nat.le_refl _)
  have hr1 : RowCells b s1 us cs := hr.old (olda.mono hb)
  have hb2 := bld_two hv hw1.slice
  have hms : ∀ (m : Nat) (i : Nat), Made.val i (.slice m) = .slice (some (i, 0)) m (some m) := fun _ _ => rfl
  generalize hs2 : newObj s1 (mkRow 22 1 [v, w]) = s2
  have n2 : s2.next = s1.next + 1 := by rw [← hs2]; rfl
  have o2 : Old s1.next s1 s2 := by rw [← hs2]; exact Old.new s1 _
  obtain ⟨rr, q1, q2, _⟩ := holds_mkRow 22 1 [v, w]
  have g0 : load1 s2 s1.next 0 = some v := load1_row (by rw [← hs2, heap_new, if_pos rfl, q1]) (by rw [q2.1]; simp) (q2.2 0 v rfl)
  have g1 : load1 s2 s1.next 1 = some w := load1_row (by rw [← hs2, heap_new, if_pos rfl, q1]) (by rw [q2.1]; simp) (q2.2 1 w rfl)
  have lcs := hcs.1
  have hPn := hP.learn T.length
  rw [List.take_length] at hPn
  have hlen2 : us2.length ≤ 100 := by rw [hw2.1]; exact hPn.2
  simp only [c27b, c27o5, c27o6, ltr, hln, Int.lt_irrefl, decide_false, lcl, hb2, hs2, hms, wpC, wpI, wpS, wpD, wpV, wanted_none, wanted_some, vals, cev_const, cev_var, cev_loc, padV, okV_some, againP, true_and, and_true, upd_zero, upd_succ, nth_zero, nth_succ, wpG_true, wpG_false, condK_true, condK_false, seqK_normal, seqK_ret, seqK_exit, inBlock_normal, inBlock_ret, inBlock_exit, ends_ret, ends_normal, unmark_nil, results_nil, results_cons, one_one, one_zero, one_two, isB_undef, isB_tt, isB_ff, Bool.not_true, Bool.not_false, Option.bind_some, pick3, pickA, extractA, List.getElem?_cons_zero, List.getElem?_cons_succ, bin_lss, bin_gtr, bin_leq, bin_geq, bin_eql, bin_neq, un_not]
  refine (concat_ok hE (q := s1.next) (b := s1.next) (by omega) g0 g1 (by omega) ((hv1.mono (by omega)).old o2 (Nat.le_refl _)) (hw1.slice.old o2 (Nat.le_refl _)) hr1.cells hw2.cells (by rw [hr1.1]; omega) (by omega)).mono ?_
  rintro r s3 ⟨hr3, hr3s, ho3⟩
  have o13 : Old s1.next s1 s3 := o2.trans (ho3.mono (by omega))
  have n13 := o13.1
  have hrows : RowCells b s3 (us ++ us2) (cs ++ learnT T) := (hr1.append hw2).old (o13.mono (by omega))
  have hlr : ∀ s, lenA Try.prog s 22 r = some (iv ((us ++ us2).length : Int)) := fun s => by obtain ⟨a, cap, rfl, _⟩ := hr3; exact len_slice Try.underlying22
  have m3 : Mem27 v tr n0 s3 := m1.old (o13.mono (show n0 + 5 ≤ s1.next by omega)) (Nat.le_refl _)
  simp only [hlr, wpC, wpI, wpS, wpD, wpV, wanted_none, wanted_some, vals, cev_const, cev_var, cev_loc, padV, okV_some, againP, true_and, and_true, upd_zero, upd_succ, nth_zero, nth_succ, wpG_true, wpG_false, condK_true, condK_false, seqK_normal, seqK_ret, seqK_exit, inBlock_normal, inBlock_ret, inBlock_exit, ends_ret, ends_normal, unmark_nil, results_nil, results_cons, one_one, one_zero, one_two, isB_undef, isB_tt, isB_ff, Bool.not_true, Bool.not_false, Option.bind_some, pick3, pickA, extractA, List.getElem?_cons_zero, List.getElem?_cons_succ, bin_lss, bin_gtr, bin_leq, bin_geq, bin_eql, bin_neq, un_not]
  refine left_loop hE hb (show n0 + 6 ≤ s3.next by omega) hr3 (fun j hj => by have := hr3s j hj; omega) hrows (by simp; omega)
    (fun L hL => by
      rcases List.mem_append.1 hL with h | h
      · exact (hcs.2 L h).2
      · have := (hPn.1 L h).2.2; omega)
    (v := v) (tr := tr) (iv (T.length : Int)) w (iv (T.length : Int)) w (.bool false) (cs ++ learnT T) 0 s3 (.slice none 0 (some 0)) [] [] _ _ rfl (Nat.zero_le _) (OldBut.refl _ _) m3.bo (LeftOf.nil _ _) (fun j hj => by cases hj) ?_
  intro s4 w' us' O' y8 y16 k1 k2 k3 k4
  have l4 : loopAt s4 (n0 + 5) = some { loop27 v tr n0 x6 x7 x8 x10 x11 x12 x13 x14 x15 x16 with state := .busy } := by rw [loopAt_eq ((k1.2 _ (by omega) (by omega)).trans (o13.2 _ (by omega)))]; exact l1
  have n4 := k1.1
  simp only [vars27s, if_true, wpC, wpI, wpS, wpD, wpV, wanted_none, wanted_some, vals, cev_const, cev_var, cev_loc, padV, okV_some, againP, true_and, and_true, upd_zero, upd_succ, nth_zero, nth_succ, wpG_true, wpG_false, condK_true, condK_false, seqK_normal, seqK_ret, seqK_exit, inBlock_normal, inBlock_ret, inBlock_exit, ends_ret, ends_normal, unmark_nil, results_nil, results_cons, one_one, one_zero, one_two, isB_undef, isB_tt, isB_ff, Bool.not_true, Bool.not_false, Option.bind_some, pick3, pickA, extractA, List.getElem?_cons_zero, List.getElem?_cons_succ, bin_lss, bin_gtr, bin_leq, bin_geq, bin_eql, bin_neq, un_not]
  refine ⟨_, l4, hend _ _ ⟨?_, by show n0 + 5 < s4.next; omega, ?_, ⟨_, loopAt_set _ _ _, rfl, rfl⟩, w', us', O', ?_, ?_, fun j hj => by have := k4 j hj; omega⟩⟩
  · refine olda.trans ⟨by show s1.next ≤ s4.next; omega, fun x hx => ?_⟩
    rw [heap_set, if_neg (by omega), k1.2 x (by omega) (by omega), o13.2 x (by omega)]
  · rw [heap_set, if_neg (by omega), k1.2 _ (by omega) (by omega)]; exact m3.mrk
  · exact k2.keep (by rw [heap_set, if_neg (by omega)])
  · have := k3.frame (s' := setObj s4 (n0 + 5) (.loop { loop27 v tr n0 x6 x7 x8 x10 x11 x12 x13 x14 x15 x16 with state := .ready })) (Nat.le_refl _) (fun j hj => by rw [heap_set, if_neg (by have := k4 j hj; omega)]) (fun j hj _ => by rw [heap_set, if_neg (by omega)])
    refine ⟨this.dest, this.len, fun j L hj => ?_, fun j hj => by have := k3.own j hj; omega⟩
    obtain ⟨u, g1, g2⟩ := this.rows j L hj
    refine ⟨u, g1, ?_⟩
    rcases g2 with g2 | ⟨i, g2, g3, g4⟩
    · exact .inl g2
    · exact .inr ⟨i, g2, by omega, g4⟩

set_option maxRecDepth 16000 in
/-- Left. -/
theorem left_ok {E : Env} (hE : Good E) {s : ASt} {b : Nat} {v tr : AV} {us : List AV} {cs : List (List Int)} {T : Trace20} (hb : b ≤ s.next) (hv : SliceAt s.next s v us) (hr : RowCells b s us cs) (hcs : FitsR cs)
    (hT : TraceAt b s tr T) (hP : PlainT T) :
    WF E 27 [v, tr] (fun r s' => (∃ us' O, LeftOf s.next s' r us' (cs ++ learnT T) O ∧ ∀ j, slot r = some j → s.next ≤ j) ∧ Old s.next s s') s := by
  have hvc := hv.isCell
  have htc := hT.isCell
  have hptr : ∀ i, Made.val i .ptr = .ptr (some (i, 0)) := fun _ => rfl
  have hbox : boxA 22 v = some (mkRow 22 0 [v], .ptr) := by simp [boxA, hvc.2]
  have hbox2 : boxA 33 tr = some (mkRow 33 0 [tr], .ptr) := by simp [boxA, htc.2]
  refine hE.go comp27 (by decide) rfl ?_
  generalize hn0 : s.next = n0 at hv hb
  generalize hs1 : newObj s (mkRow 22 0 [v]) = s1
  have n1 : s1.next = n0 + 1 := by rw [← hs1, ← hn0]; rfl
  have o1 : Old n0 s s1 := by rw [← hs1, ← hn0]; exact Old.new s _
  have b1 : Box1 s1 n0 v := by rw [← hs1, ← hn0]; exact Box1.new
  generalize hs2 : newObj s1 (mkRow 33 0 [tr]) = s2
  have n2 : s2.next = n0 + 2 := by rw [← hs2]; show s1.next + 1 = _; omega
  have o2 : Old (n0 + 1) s1 s2 := by rw [← hs2, ← n1]; exact Old.new s1 _
  have b2 : Box1 s2 (n0 + 1) tr := by rw [← hs2, ← n1]; exact Box1.new
  generalize hs3 : newObj s2 (mkRow 22 0 [.slice none 0 (some 0)]) = s4
  have n4 : s4.next = n0 + 3 := by rw [← hs3]; show s2.next + 1 = _; omega
  have o4 : Old (n0 + 2) s2 s4 := by rw [← hs3, ← n2]; exact Old.new s2 _
  have b3 : Box1 s4 (n0 + 2) (.slice none 0 (some 0)) := by rw [← hs3, ← n2]; exact Box1.new
  have b2' : Box1 s4 (n0 + 1) tr := b2.keep (o4.2 _ (by omega))
  have ltr := b2'.load ag33
  simp only [c27, c27o0, c27o1, c27o2, hbox, hbox2, hn0, hs1, hs2, hs3, n1, n2, hptr, alloc22, ltr, wpC, wpI, wpS, wpD, wpV, wanted_none, wanted_some, vals, cev_const, cev_var, cev_loc, padV, okV_some, againP, true_and, and_true, upd_zero, upd_succ, nth_zero, nth_succ, wpG_true, wpG_false, condK_true, condK_false, seqK_normal, seqK_ret, seqK_exit, inBlock_normal, inBlock_ret, inBlock_exit, ends_ret, ends_normal, unmark_nil, results_nil, results_cons, one_one, one_zero, one_two, isB_undef, isB_tt, isB_ff, Bool.not_true, Bool.not_false, Option.bind_some, pick3, pickA, extractA, List.getElem?_cons_zero, List.getElem?_cons_succ, bin_lss, bin_gtr, bin_leq, bin_geq, bin_eql, bin_neq, un_not]
  refine (states_fun hE htc.2).mono ?_
  rintro _ _ ⟨rfl, rfl⟩
  rw [n4]
  simp only [wpC, wpI, wpS, wpD, wpV, wanted_none, wanted_some, vals, cev_const, cev_var, cev_loc, padV, okV_some, againP, true_and, and_true, upd_zero, upd_succ, nth_zero, nth_succ, wpG_true, wpG_false, condK_true, condK_false, seqK_normal, seqK_ret, seqK_exit, inBlock_normal, inBlock_ret, inBlock_exit, ends_ret, ends_normal, unmark_nil, results_nil, results_cons, one_one, one_zero, one_two, isB_undef, isB_tt, isB_ff, Bool.not_true, Bool.not_false, Option.bind_some, pick3, pickA, extractA, List.getElem?_cons_zero, List.getElem?_cons_succ, bin_lss, bin_gtr, bin_leq, bin_geq, bin_eql, bin_neq, un_not]
  generalize hs5 : newObj s4 (mkRow 33 0 [tr]) = s5
  have n5 : s5.next = n0 + 4 := by rw [← hs5]; show s4.next + 1 = _; omega
  have o5 : Old (n0 + 3) s4 s5 := by rw [← hs5, ← n4]; exact Old.new s4 _
  have b5 : Box1 s5 (n0 + 3) tr := by rw [← hs5, ← n4]; exact Box1.new
  refine WC.range rfl ?_
  rw [n5]
  generalize hs6 : newObj s5 .mark = s6
  have n6 : s6.next = n0 + 5 := by rw [← hs6]; show s5.next + 1 = _; omega
  have o6 : Old (n0 + 4) s5 s6 := by rw [← hs6, ← n5]; exact Old.new s5 _
  have m6 : s6.heap.get (n0 + 4) = some .mark := by rw [← hs6, heap_new, if_pos n5.symm]
  generalize hs7 : newObj s6 _ = s7
  have n7 : s7.next = n0 + 6 := by rw [← hs7]; show s6.next + 1 = _; omega
  have o7 : Old (n0 + 5) s6 s7 := by rw [← hs7, ← n6]; exact Old.new s6 _
  have l7 : loopAt s7 (n0 + 5) = some (loop27 v tr n0 undefA undefA undefA undefA undefA undefA undefA undefA undefA undefA) := by
    unfold loopAt; rw [← hs7, heap_new, if_pos n6.symm]; rfl
  have o57 : Old (n0 + 4) s5 s7 := o6.trans (o7.mono (by omega))
  have o47 : Old (n0 + 3) s4 s7 := o5.trans (o57.mono (by omega))
  have h07 : Old n0 s s7 := (o1.trans (o2.mono (by omega))).trans ((o4.mono (by omega)).trans (o47.mono (by omega)))
  have mem : Mem27 v tr n0 s7 := ⟨((b1.keep (o2.2 _ (by omega))).keep (o4.2 _ (by omega))).keep (o47.2 _ (by omega)), b2'.keep (o47.2 _ (by omega)), b3.keep (o47.2 _ (by omega)), by rw [o7.2 _ (by omega)]; exact m6⟩
  have hb5 : Box1 s7 (n0 + 3) tr := b5.keep (o57.2 _ (by omega))
  refine (states_ok hE (b := b) (l := n0 + 5) (bx := n0 + 3) (LI := Li27 v tr n0) (Fin := Fin27 n0 s (cs ++ learnT T)) (hT.old h07 hb) hP (by omega) hb5 (by omega) (by omega) ?_ ?_ ?_ ?_).mono ?_
  · rintro k s' s'' ⟨x6, x7, x8, x10, x11, x12, x13, x14, x15, x16, q2⟩ _ _ he
    exact ⟨x6, x7, x8, x10, x11, x12, x13, x14, x15, x16, by rw [loopAt_eq he]; exact q2⟩
  · exact ⟨_, _, _, _, _, _, _, _, _, _, l7⟩
  · intro k s' w K hk hat hli hgo hend
    exact left_round hE hn0 hb hT h07 mem hk hat hli hgo
  · intro s' w K hat hli hend
    exact left_last hE hn0 hb hv hr hcs hT hP h07 mem hat hli hend
  · rintro _ s8 ⟨h1, h2, h3, ⟨r, h4, h5, h6⟩, w, us', O', h7, h8, h9⟩
    refine ⟨r, h4, h5, ?_⟩
    generalize hs9 : setObj s8 (n0 + 5) _ = s9
    have n9 : s9.next = s8.next := by rw [← hs9]; rfl
    have e9 : ∀ x, x ≠ n0 + 5 → s9.heap.get x = s8.heap.get x := fun x hx => by rw [← hs9, heap_set, if_neg hx]
    have mk9 : s9.heap.get (n0 + 4) = some .mark := by rw [e9 _ (by omega)]; exact h3
    rw [h6]
    show PendK _ _ _ _ none
    simp only [PendK, c27o13, (h7.keep (e9 (n0 + 2) (by omega))).load ag22, unmark_one mk9, wpC, wpI, wpS, wpD, wpV, wanted_none, wanted_some, vals, cev_const, cev_var, cev_loc, padV, okV_some, againP, true_and, and_true, upd_zero, upd_succ, nth_zero, nth_succ, wpG_true, wpG_false, condK_true, condK_false, seqK_normal, seqK_ret, seqK_exit, inBlock_normal, inBlock_ret, inBlock_exit, ends_ret, ends_normal, unmark_nil, results_nil, results_cons, one_one, one_zero, one_two, isB_undef, isB_tt, isB_ff, Bool.not_true, Bool.not_false, Option.bind_some, pick3, pickA, extractA, List.getElem?_cons_zero, List.getElem?_cons_succ, bin_lss, bin_gtr, bin_leq, bin_geq, bin_eql, bin_neq, un_not]
    have hn := h1.1
    have keep : ∀ x, n0 + 6 ≤ x → (delObj s9 (n0 + 4)).heap.get x = s8.heap.get x := fun x hx => by rw [heap_del, if_neg (by omega), e9 x (by omega)]
    have fr := h8.frame (s' := delObj s9 (n0 + 4)) (by show s8.next ≤ s9.next; omega) (fun j hj => keep j (h9 j hj)) (fun j hj _ => keep j hj)
    refine ⟨⟨us', O', ⟨fr.dest, fr.len, fun j L hj => ?_, fun j hj => by have := fr.own j hj; omega⟩, fun j hj => by have := h9 j hj; omega⟩, h1.trans ⟨by show s8.next ≤ s9.next; omega, fun x hx => by rw [heap_del, if_neg (by omega), e9 x (by omega)]⟩⟩
    obtain ⟨u, g1, g2⟩ := fr.rows j L hj
    refine ⟨u, g1, ?_⟩
    rcases g2 with g2 | ⟨i, g2, g3, g4⟩
    · exact .inl g2
    · exact .inr ⟨i, g2, by omega, g4⟩
end Go.Proofs.Ytilhhmkdcoajnaa.Am

/- What the law DrupShares runs: its loops, and all; conditions: the readings of its arguments; Follows ends. -/
set_option linter.unusedVariables false
set_option linter.unusedSimpArgs false
namespace Go.Proofs.Ytilhhmkdcoajnaa.Am
open Go Go.Proofs

/-- Rows that may be written, of these lengths. -/
structure Wr (lo : Nat) (s : ASt) (v : AV) (us : List AV) (O : List Nat) : Prop where
  dest : Dest s v us.length 1 us O
  rows : ∀ (k : Nat) (u : AV), us[k]? = some u → ∃ L : List Int, L.length ≤ 1000 ∧ Own1 lo O s u L
theorem LeftOf.wr {lo : Nat} {s : ASt} {v : AV} {us : List AV} {cs : List (List Int)} {O : List Nat} (h : LeftOf lo s v us cs O) (hl : ∀ L ∈ cs, L.length ≤ 1000) : Wr lo s v us O := by
  refine ⟨h.dest, fun k u hk => ?_⟩
  have hlt : k < cs.length := by have := lt_of_get hk; have := h.len; omega
  obtain ⟨u', h1, h2⟩ := h.rows k cs[k] (List.getElem?_eq_getElem hlt)
  rw [hk] at h1
  injection h1 with h1
  subst h1
  exact ⟨cs[k], hl _ (List.getElem_mem _), h2⟩
theorem Wr.frame {lo : Nat} {s s' : ASt} {v : AV} {us : List AV} {O : List Nat} (h : Wr lo s v us O) (k : Old s.next s s') : Wr lo s' v us O := by
  refine ⟨h.dest.frame k.1 fun j hj => k.2 j (h.dest.slot_lt j hj), fun j u hj => ?_⟩
  obtain ⟨L, h1, h2⟩ := h.rows j u hj
  refine ⟨L, h1, ?_⟩
  rcases h2 with h2 | ⟨i, g1, g2, g3, g4, g5⟩
  · exact .inl h2
  · exact .inr ⟨i, g1, g2, by have := k.1; omega, g4, g5.keep (k.2 i g3)⟩
theorem get_set_ivs {M : List Int} {k j : Nat} {x : Int} {u : AV} (h : (ivs (M.set k x))[j]? = some u) : (j = k ∧ u = iv x) ∨ (j ≠ k ∧ (ivs M)[j]? = some u) := by
  rw [List.getElem?_map, List.getElem?_set] at h
  by_cases e : k = j
  · rw [if_pos e] at h
    split at h
    · simp only [Option.map_some] at h; injection h with h; exact .inl ⟨e.symm, h.symm⟩
    · cases h
  · rw [if_neg e] at h
    exact .inr ⟨fun e' => e e'.symm, by rw [List.getElem?_map]; exact h⟩
set_option maxRecDepth 4000 in
/-- One cell is written. -/
theorem Wr.put {lo : Nat} {s : ASt} {v : AV} {us : List AV} {O : List Nat} (h : Wr lo s v us O) {n : Nat} {u : AV} (hu : us[n]? = some u) {L : List Int} (hL : Own1 lo O s u L) {k : Nat} (hk : k < L.length) :
    ∃ a s', indexAddrA Try.prog 23 u (iv (k : Int)) = some a ∧ storeV Try.prog s 3 a (iv 99) = some s' ∧ Wr lo s' v us O ∧ Old lo s s' := by
  rcases hL with ⟨a, rfl, rfl⟩ | ⟨i, rfl, h1, h2, h3, r, q1, q2, q3, q4, q5⟩
  · simp at hk
  have hn : r.n = L.length := by rw [q2.1, ivs_len]
  have e1 := idx_slice (cap := none) (i := i) (o := 0) Try.underlying23 sz3 hk
  have e2 := store_one (P := Try.prog) (t := 3) sz3 (s := s) (i := i) (o := 0 + k * 1) (r := r) (v := iv 99) q1 q3 q4 (by omega) rfl rfl
  refine ⟨_, _, e1, e2, ⟨h.dest.frame (Nat.le_refl _) fun j hj => ?_, fun j w hj => ?_⟩, ⟨Nat.le_refl _, fun x hx => by rw [heap_set, if_neg (by omega)]⟩⟩
  · rw [heap_set, if_neg ?_]
    intro e
    subst e
    obtain ⟨a, cap, hve, hc⟩ := h.dest.cells
    obtain ⟨i2, o2, ha, _, hl⟩ := hc n _ hu
    subst ha
    rw [hve] at hj
    simp only [slot] at hj
    injection hj with hj
    subst hj
    have hrow : rowAt s i2 = some r := by simp [rowAt, q1]
    unfold load1 at hl
    rw [hrow] at hl
    simp only [Option.bind_some] at hl
    obtain ⟨g0, hl⟩ := guardB_some hl
    have hlt : o2 + n < r.n := by simpa [Nat.blt_eq] using g0
    have hx := q2.2 (o2 + n) _ (List.getElem?_eq_getElem (show o2 + n < (ivs L).length by rw [ivs_len]; omega))
    rw [hl] at hx
    injection hx with hx
    simp at hx
  · obtain ⟨M, g1, g2⟩ := h.rows j w hj
    rcases g2 with ⟨a, g2, g3⟩ | ⟨i', g2, g3, g4, g5, r', p1, p2, p3, p4, p5⟩
    · exact ⟨M, g1, .inl ⟨a, g2, g3⟩⟩
    · by_cases e : i' = i
      · subst e
        rw [q1] at p1
        injection p1 with p1
        injection p1 with p1
        subst p1
        refine ⟨M.set k 99, by rw [List.length_set]; exact g1, .inr ⟨i', by rw [List.length_set]; exact g2, g3, g4, g5, { r with c := r.c.fill (0 + k * 1) [iv 99], par := none }, by rw [heap_set, if_pos rfl], ⟨?_, fun y z hy => ?_⟩, q3, rfl, q5⟩⟩
        · show r.n = _; rw [p2.1, ivs_len, ivs_len, List.length_set]
        · show (Tree.fill r.c (0 + k * 1) [iv 99]).get y = some z
          rw [Tree.get_fill]
          rcases get_set_ivs hy with ⟨e1, e2⟩ | ⟨e1, e2⟩
          · rw [e2, e1, if_pos ⟨by omega, by show k < 0 + k * 1 + 1; omega⟩, show k - (0 + k * 1) = 0 from by omega]
            rfl
          · rw [if_neg (fun h => e1 (by have h1 := h.1; have h2 : y < 0 + k * 1 + 1 := h.2; omega))]
            exact p2.2 y z e2
      · exact ⟨M, g1, .inr ⟨i', g2, g3, g4, g5, r', by rw [heap_set, if_neg e]; exact p1, p2, p3, p4, p5⟩⟩

set_option maxRecDepth 16000 in
/-- One clause is overwritten. -/
theorem wr_in {E : Env} (hE : Good E) {lo : Nat} {v : AV} {us : List AV} {O : List Nat} {n : Nat} {u : AV} (hu : us[n]? = some u) (hlen : us.length ≤ 1000000) (v0 v1 v2 v3 v4 v5 v6 v10 v11 v12 v14 v15 : AV) {Q : ARes → Prop} {N : Nat} (hN : ∀ s, lenA Try.prog s 23 u = some (iv (N : Int))) (hN1 : N ≤ 1000) :
    ∀ (m k : Nat) (s : ASt) (x13 : AV), k + m = N → Wr lo s v us O →
      (∀ s' y9 y13, Wr lo s' v us O → Old lo s s' → Q ⟨.exit 2, [v0, v1, v2, v3, v4, v5, v6, v, iv (n : Int), y9, v10, v11, v12, y13, v14, v15], [], s'⟩) →
      WC E none (.loop c6l13) Q [v0, v1, v2, v3, v4, v5, v6, v, iv (n : Int), iv (k : Int), v10, v11, v12, x13, v14, v15] [] s := by
  have hlt := lt_of_get hu
  intro m
  induction m with
  | zero =>
    intro k s x13 hm h hq
    have hkN : k = N := by omega
    subst hkN
    obtain ⟨a, cap, hve, hc⟩ := h.dest.cells
    obtain ⟨i, o, ha, hi, hl⟩ := hc n u hu
    have e1 : indexAddrA Try.prog 22 v (iv (n : Int)) = some (.ptr (some (i, o + n * 1))) := by rw [hve, ha]; exact idx_slice Try.underlying22 sz23 hlt
    have e2 : loadV Try.prog s 23 (.ptr (some (i, o + n * 1))) = some u := load_one ag23 (by rw [Nat.mul_one]; exact hl)
    refine WC.loop' ?_
    simp only [c6l13, c6o10, e1, e2, hN, Int.lt_irrefl, decide_false, wpC, wpI, wpS, wpD, wpV, wanted_none, wanted_some, vals, cev_const, cev_var, cev_loc, padV, okV_some, againP, true_and, and_true, upd_zero, upd_succ, nth_zero, nth_succ, wpG_true, wpG_false, condK_true, condK_false, seqK_normal, seqK_ret, seqK_exit, inBlock_normal, inBlock_ret, inBlock_exit, ends_ret, ends_normal, unmark_nil, results_nil, results_cons, one_one, one_zero, one_two, isB_undef, isB_tt, isB_ff, Bool.not_true, Bool.not_false, Option.bind_some, pick3, pickA, extractA, List.getElem?_cons_zero, List.getElem?_cons_succ, bin_lss, bin_gtr, bin_leq, bin_geq, bin_eql, bin_neq, un_not]
    exact hq s _ _ h (Old.refl _ _)
  | succ m ih =>
    intro k s x13 hm h hq
    obtain ⟨a, cap, hve, hc⟩ := h.dest.cells
    obtain ⟨i, o, ha, hi, hl⟩ := hc n u hu
    have e1 : indexAddrA Try.prog 22 v (iv (n : Int)) = some (.ptr (some (i, o + n * 1))) := by rw [hve, ha]; exact idx_slice Try.underlying22 sz23 hlt
    have e2 : loadV Try.prog s 23 (.ptr (some (i, o + n * 1))) = some u := load_one ag23 (by rw [Nat.mul_one]; exact hl)
    have hkk : decide ((k : Int) < (N : Int)) = true := decide_eq_true (by omega)
    have e3 := bin_add Try.prog 3 (k : Int) 1 ⟨by omega, by omega⟩
    have hcast : ((k : Int) + 1) = ((k + 1 : Nat) : Int) := by omega
    obtain ⟨L, h1, h2⟩ := h.rows n u hu
    have hLN : L.length = N := by
      have := hN s
      rcases h2 with ⟨a, rfl, rfl⟩ | ⟨i, rfl, _⟩
      · rw [len_slice Try.underlying23] at this
        simp at this
        show 0 = N
        omega
      · rw [len_slice Try.underlying23] at this
        simp at this
        omega
    obtain ⟨p, s', g1, g2, g3, g4⟩ := h.put hu h2 (k := k) (by omega)
    refine WC.loop' ?_
    generalize hW : WC E none (CCode.loop c6l13) Q = W
    simp only [c6l13, c6o10, c6o11, e1, e2, hN, hkk, g1, on2, g2, withV, c6o12, e3, hcast, wpC, wpI, wpS, wpD, wpV, wanted_none, wanted_some, vals, cev_const, cev_var, cev_loc, padV, okV_some, againP, true_and, and_true, upd_zero, upd_succ, nth_zero, nth_succ, wpG_true, wpG_false, condK_true, condK_false, seqK_normal, seqK_ret, seqK_exit, inBlock_normal, inBlock_ret, inBlock_exit, ends_ret, ends_normal, unmark_nil, results_nil, results_cons, one_one, one_zero, one_two, isB_undef, isB_tt, isB_ff, Bool.not_true, Bool.not_false, Option.bind_some, pick3, pickA, extractA, List.getElem?_cons_zero, List.getElem?_cons_succ, bin_lss, bin_gtr, bin_leq, bin_geq, bin_eql, bin_neq, un_not]
    rw [← hW]
    exact ih (k + 1) s' _ (by omega) g3 fun s'' y9 y13 q1 q2 => hq s'' y9 y13 q1 (g4.trans q2)

set_option maxRecDepth 16000 in
/-- All are overwritten. -/
theorem wr_all {E : Env} (hE : Good E) {lo : Nat} {v : AV} {us : List AV} {O : List Nat} (hlen : us.length ≤ 1000000) (v0 v1 v2 v3 v4 v5 v6 v10 v11 v14 v15 : AV) {Q : ARes → Prop} :
    ∀ (m n : Nat) (s : ASt) (x9 x12 x13 : AV), n + m = us.length → Wr lo s v us O →
      (∀ s' y8 y9 y12 y13, Old lo s s' → Q ⟨.exit 0, [v0, v1, v2, v3, v4, v5, v6, v, y8, y9, v10, v11, y12, y13, v14, v15], [], s'⟩) →
      WC E none (.loop c6l15) Q [v0, v1, v2, v3, v4, v5, v6, v, iv (n : Int), x9, v10, v11, x12, x13, v14, v15] [] s := by
  intro m
  induction m with
  | zero =>
    intro n s x9 x12 x13 hm h hq
    have hn : n = us.length := by omega
    subst hn
    have hln : lenA Try.prog s 22 v = some (iv (us.length : Int)) := by obtain ⟨a, cap, hve, hc⟩ := h.dest.cells; rw [hve]; exact len_slice Try.underlying22
    refine WC.loop' ?_
    simp only [c6l15, c6o8, hln, Int.lt_irrefl, decide_false, wpC, wpI, wpS, wpD, wpV, wanted_none, wanted_some, vals, cev_const, cev_var, cev_loc, padV, okV_some, againP, true_and, and_true, upd_zero, upd_succ, nth_zero, nth_succ, wpG_true, wpG_false, condK_true, condK_false, seqK_normal, seqK_ret, seqK_exit, inBlock_normal, inBlock_ret, inBlock_exit, ends_ret, ends_normal, unmark_nil, results_nil, results_cons, one_one, one_zero, one_two, isB_undef, isB_tt, isB_ff, Bool.not_true, Bool.not_false, Option.bind_some, pick3, pickA, extractA, List.getElem?_cons_zero, List.getElem?_cons_succ, bin_lss, bin_gtr, bin_leq, bin_geq, bin_eql, bin_neq, un_not]
    exact hq s _ _ _ _ (Old.refl _ _)
  | succ m ih =>
    intro n s x9 x12 x13 hm h hq
    have hln : lenA Try.prog s 22 v = some (iv (us.length : Int)) := by obtain ⟨a, cap, hve, hc⟩ := h.dest.cells; rw [hve]; exact len_slice Try.underlying22
    have hkk : decide ((n : Int) < (us.length : Int)) = true := decide_eq_true (by omega)
    have e3 := bin_add Try.prog 3 (n : Int) 1 ⟨by omega, by omega⟩
    have hcast : ((n : Int) + 1) = ((n + 1 : Nat) : Int) := by omega
    have hu : us[n]? = some us[n] := List.getElem?_eq_getElem (by omega)
    obtain ⟨L, h1, h2⟩ := h.rows n _ hu
    have hN : ∀ s, lenA Try.prog s 23 us[n] = some (iv (L.length : Int)) := fun s => by
      rcases h2 with ⟨a, e, rfl⟩ | ⟨i, e, _⟩
      · rw [e]; exact len_slice Try.underlying23
      · rw [e]; exact len_slice Try.underlying23
    refine WC.loop' ?_
    generalize hW : WC E none (CCode.loop c6l15) Q = W
    simp only [c6l15, c6o8, c6o9, hln, hkk, wpC, wpI, wpS, wpD, wpV, wanted_none, wanted_some, vals, cev_const, cev_var, cev_loc, padV, okV_some, againP, true_and, and_true, upd_zero, upd_succ, nth_zero, nth_succ, wpG_true, wpG_false, condK_true, condK_false, seqK_normal, seqK_ret, seqK_exit, inBlock_normal, inBlock_ret, inBlock_exit, ends_ret, ends_normal, unmark_nil, results_nil, results_cons, one_one, one_zero, one_two, isB_undef, isB_tt, isB_ff, Bool.not_true, Bool.not_false, Option.bind_some, pick3, pickA, extractA, List.getElem?_cons_zero, List.getElem?_cons_succ, bin_lss, bin_gtr, bin_leq, bin_geq, bin_eql, bin_neq, un_not]
    refine wr_in hE hu hlen _ _ _ _ _ _ _ _ _ _ _ _ hN h1 L.length 0 s _ (by omega) h ?_
    intro s' y9 y13 g1 g2
    simp only [if_true, c6o14, e3, hcast, wpC, wpI, wpS, wpD, wpV, wanted_none, wanted_some, vals, cev_const, cev_var, cev_loc, padV, okV_some, againP, true_and, and_true, upd_zero, upd_succ, nth_zero, nth_succ, wpG_true, wpG_false, condK_true, condK_false, seqK_normal, seqK_ret, seqK_exit, inBlock_normal, inBlock_ret, inBlock_exit, ends_ret, ends_normal, unmark_nil, results_nil, results_cons, one_one, one_zero, one_two, isB_undef, isB_tt, isB_ff, Bool.not_true, Bool.not_false, Option.bind_some, pick3, pickA, extractA, List.getElem?_cons_zero, List.getElem?_cons_succ, bin_lss, bin_gtr, bin_leq, bin_geq, bin_eql, bin_neq, un_not]
    rw [← hW]
    exact ih (n + 1) s' _ _ _ (by omega) g1 fun s'' y8 y9 y12 y13 q => hq s'' y8 y9 y12 y13 (g2.trans q)

theorem rows_one {b q : Nat} {s : ASt} {u : AV} {L : List Int} (hq : q < b) (h : s.heap.get q = some (mkRow 23 1 [u])) (hu : SliceAt b s u (ivs L)) : RowsOf b s (.slice (some (q, 0)) 1 (some 1)) [L] := by
  obtain ⟨r, h1, h2, _⟩ := holds_mkRow 23 1 [u]
  refine ⟨_, _, rfl, fun k M hk => ?_⟩
  have hk0 : k = 0 := by
    rcases Nat.lt_or_ge k 1 with h' | h'
    · omega
    · rw [List.getElem?_eq_none (by simpa using h')] at hk; cases hk
  subst hk0
  have : L = M := by simpa using hk
  subst this
  exact ⟨q, 0, u, rfl, hq, load1_row (h.trans (by rw [h1])) (by rw [h2.1]; simp) (h2.2 0 u rfl), hu⟩

set_option maxRecDepth 16000 in
/-- Lines are compared. -/
theorem same_lines {E : Env} (hE : Good E) {s0 : ASt} {b : Nat} {tr tr' : AV} {T : Trace20} (hb : b ≤ s0.next) (hT : TraceAt b s0 tr T) (hT' : TraceAt b s0 tr' T) (hP : PlainT T) (v0 v1 v2 v3 v5 v7 v8 v9 v11 v12 v13 : AV) {Q : ARes → Prop} :
    ∀ (m k : Nat) (s : ASt) (x14 x15 : AV), k + m = T.length → Old b s0 s → b ≤ s.next →
      (∀ s' y10 y14 y15, Old b s0 s' → b ≤ s'.next → Q ⟨.exit 4, [v0, v1, v2, v3, tr, v5, tr', v7, v8, v9, y10, v11, v12, v13, y14, y15], [], s'⟩) →
      WC E none (.loop c6l21) Q [v0, v1, v2, v3, tr, v5, tr', v7, v8, v9, iv (k : Int), v11, v12, v13, x14, x15] [] s := by
  have hln : ∀ s, lenA Try.prog s 33 tr = some (iv (T.length : Int)) := fun s => by obtain ⟨a, cap, rfl, _⟩ := hT; exact len_slice Try.underlying33
  have hP1 := hP.1
  intro m
  induction m with
  | zero =>
    intro k s x14 x15 hm hold hbs hq
    have hk : k = T.length := by omega
    subst hk
    refine WC.loop' ?_
    simp only [c6l21, c6o17, hln, Int.lt_irrefl, decide_false, wpC, wpI, wpS, wpD, wpV, wanted_none, wanted_some, vals, cev_const, cev_var, cev_loc, padV, okV_some, againP, true_and, and_true, upd_zero, upd_succ, nth_zero, nth_succ, wpG_true, wpG_false, condK_true, condK_false, seqK_normal, seqK_ret, seqK_exit, inBlock_normal, inBlock_ret, inBlock_exit, ends_ret, ends_normal, unmark_nil, results_nil, results_cons, one_one, one_zero, one_two, isB_undef, isB_tt, isB_ff, Bool.not_true, Bool.not_false, Option.bind_some, pick3, pickA, extractA, List.getElem?_cons_zero, List.getElem?_cons_succ, bin_lss, bin_gtr, bin_leq, bin_geq, bin_eql, bin_neq, un_not]
    exact hq s _ _ _ hold hbs
  | succ m ih =>
    intro k s x14 x15 hm hold hbs hq
    have hlt : k < T.length := by omega
    have hx : T[k]? = some T[k] := List.getElem?_eq_getElem hlt
    generalize hdl : T[k] = dl at hx
    obtain ⟨d, L⟩ := dl
    have hPL : Plain L := hP.2 _ (List.mem_of_getElem? hx)
    have hkk : decide ((k : Int) < (T.length : Int)) = true := decide_eq_true (by omega)
    have e3 := bin_add Try.prog 3 (k : Int) 1 ⟨by omega, by omega⟩
    have hcast : ((k : Int) + 1) = ((k + 1 : Nat) : Int) := by omega
    obtain ⟨a, cap, htv, hc⟩ := hT.old hold (Nat.le_refl _)
    obtain ⟨i, o, u, ha, hi, _, hl2, hu⟩ := hc k d L hx
    obtain ⟨a', cap', htv', hc'⟩ := hT'.old hold (Nat.le_refl _)
    obtain ⟨i', o', u', ha', hi', _, hl2', hu'⟩ := hc' k d L hx
    have e1 : indexAddrA Try.prog 33 tr (iv (k : Int)) = some (.ptr (some (i, o + k * 2))) := by rw [htv, ha]; exact idx_slice Try.underlying33 sz27 hlt
    have e1' : indexAddrA Try.prog 33 tr' (iv (k : Int)) = some (.ptr (some (i', o' + k * 2))) := by rw [htv', ha']; exact idx_slice Try.underlying33 sz27 hlt
    have e2 : loadV Try.prog s 23 (.ptr (some (i, o + k * 2 + 1))) = some u := load_one ag23 hl2
    have b1 := bld_one (P := Try.prog) (t := 22) (v := u) Try.underlying22 sz23 zr23 rfl hu.isCell.2
    have b1' := bld_one (P := Try.prog) (t := 22) (v := u') Try.underlying22 sz23 zr23 rfl hu'.isCell.2
    have hms : ∀ (m : Nat) (i : Nat), Made.val i (.slice m) = .slice (some (i, 0)) m (some m) := fun _ _ => rfl
    generalize hs1 : newObj s (mkRow 23 1 [u]) = s1
    have n1 : s1.next = s.next + 1 := by rw [← hs1]; rfl
    have o1 : Old s.next s s1 := by rw [← hs1]; exact Old.new s _
    have r1 : s1.heap.get s.next = some (mkRow 23 1 [u]) := by rw [← hs1, heap_new, if_pos rfl]
    have e2' : loadV Try.prog s1 23 (.ptr (some (i', o' + k * 2 + 1))) = some u' := load_one ag23 (by rw [load1_eq (o1.2 i' (by omega))]; exact hl2')
    generalize hs2 : newObj s1 (mkRow 23 1 [u']) = s2
    have n2 : s2.next = s1.next + 1 := by rw [← hs2]; rfl
    have o2 : Old s1.next s1 s2 := by rw [← hs2]; exact Old.new s1 _
    have r2 : s2.heap.get s1.next = some (mkRow 23 1 [u']) := by rw [← hs2, heap_new, if_pos rfl]
    have r1' : s2.heap.get s.next = some (mkRow 23 1 [u]) := (o2.2 _ (by omega)).trans r1
    have o12 : Old b s s2 := (o1.mono hbs).trans (o2.mono (by omega))
    have q1 : RowsOf s2.next s2 (.slice (some (s.next, 0)) 1 (some 1)) [L] := rows_one (by omega) r1' ((hu.old o12 (Nat.le_refl _)).mono (by omega))
    have q2 : RowsOf s2.next s2 (.slice (some (s1.next, 0)) 1 (some 1)) [L] := rows_one (by omega) r2 ((hu'.old o12 (Nat.le_refl _)).mono (by omega))
    refine WC.loop' ?_
    generalize hW : WC E none (CCode.loop c6l21) Q = W
    simp only [c6l21, c6o17, c6o18, hln, hkk, e1, e1', fa27_1, e2, b1, hs1, hms, e2', b1', hs2, wpC, wpI, wpS, wpD, wpV, wanted_none, wanted_some, vals, cev_const, cev_var, cev_loc, padV, okV_some, againP, true_and, and_true, upd_zero, upd_succ, nth_zero, nth_succ, wpG_true, wpG_false, condK_true, condK_false, seqK_normal, seqK_ret, seqK_exit, inBlock_normal, inBlock_ret, inBlock_exit, ends_ret, ends_normal, unmark_nil, results_nil, results_cons, one_one, one_zero, one_two, isB_undef, isB_tt, isB_ff, Bool.not_true, Bool.not_false, Option.bind_some, pick3, pickA, extractA, List.getElem?_cons_zero, List.getElem?_cons_succ, bin_lss, bin_gtr, bin_leq, bin_geq, bin_eql, bin_neq, un_not]
    have hM : ∀ M ∈ [L], M.length ≤ 1000000 := fun M hM => by
      rw [List.mem_singleton.1 hM]
      have := hPL.2.2
      omega
    refine (rows_ok hE (A := [L]) (B := [L]) (by simp) hM (by simp) q1 q2).mono ?_
    rintro _ _ ⟨rfl, rfl⟩
    simp only [decide_true, Bool.not_true, c6o20, e3, hcast, wpC, wpI, wpS, wpD, wpV, wanted_none, wanted_some, vals, cev_const, cev_var, cev_loc, padV, okV_some, againP, true_and, and_true, upd_zero, upd_succ, nth_zero, nth_succ, wpG_true, wpG_false, condK_true, condK_false, seqK_normal, seqK_ret, seqK_exit, inBlock_normal, inBlock_ret, inBlock_exit, ends_ret, ends_normal, unmark_nil, results_nil, results_cons, one_one, one_zero, one_two, isB_undef, isB_tt, isB_ff, Bool.not_true, Bool.not_false, Option.bind_some, pick3, pickA, extractA, List.getElem?_cons_zero, List.getElem?_cons_succ, bin_lss, bin_gtr, bin_leq, bin_geq, bin_eql, bin_neq, un_not]
    rw [← hW]
    exact ih (k + 1) s2 _ _ (by omega) (hold.trans o12) (by omega) hq
end Go.Proofs.Ytilhhmkdcoajnaa.Am

/- What the laws of layer 20 make of their arguments; DrupShares, all of it; conditions: the readings of the arguments; Follows ends. -/
set_option linter.unusedVariables false
set_option linter.unusedSimpArgs false
namespace Go.Proofs.Ytilhhmkdcoajnaa.Am
open Go Go.Proofs

/-! ### Plain facts of what is drawn -/
def SixP (L : List Int) : Prop := (∀ x ∈ L, -6 ≤ x ∧ x ≤ 6 ∧ x ≠ 0) ∧ L.length ≤ 5
theorem SixP.plain {L : List Int} (h : SixP L) : Plain L := by
  refine ⟨fun x hx => ?_, fun x hx => ?_, by have := h.2; omega⟩
  · have := h.1 x hx; exact ⟨by omega, by omega⟩
  · have := h.1 x hx; unfold nullV; exact decide_eq_false (by omega)
theorem SixP.six {L : List Int} (h : SixP L) : Six L := fun x hx => by have := h.1 x hx; exact ⟨this.1, this.2.1⟩
theorem sixP_row (l : List Int) : SixP (rowV l) := by
  refine ⟨fun x hx => ?_, (rowV_fits l).2⟩
  obtain ⟨y, _, rfl⟩ := List.mem_map.1 hx
  exact litV_small
theorem sixP_clauses {l : List (List Int)} : ∀ L ∈ clausesV l, SixP L := by
  intro L hL
  obtain ⟨y, _, rfl⟩ := List.mem_map.1 hL
  exact sixP_row y
theorem sixP_lines : ∀ (l : List Step20) (out : Trace20), (∀ x ∈ out, SixP x.2) → ∀ x ∈ linesV out l, SixP x.2 := by
  intro l
  induction l with
  | nil => intro out h; exact h
  | cons y l ih =>
    obtain ⟨d, w, L⟩ := y
    intro out h
    refine ih _ fun x hx => ?_
    rcases List.mem_append.1 hx with hx | hx
    · exact h x hx
    · have hx : x = lineOf out d w L := by simpa using hx
      subst hx
      unfold lineOf
      split
      · show SixP (out.getD _ _).2
        rw [List.getD_eq_getElem?_getD]
        cases hg : out[(w % (out.length : Int)).toNat]? with
        | none => exact ⟨(fun x hx => by cases hx), by simp⟩
        | some z => exact h z (List.mem_of_getElem? hg)
      · exact sixP_row L
def traceOf (ss : List Step20) : Trace20 := linesV [] (ss.take 20)
theorem traceOf_six (ss : List Step20) : ∀ x ∈ traceOf ss, SixP x.2 := sixP_lines _ _ (fun x hx => by cases hx)
theorem traceOf_len (ss : List Step20) : (traceOf ss).length ≤ 20 := by
  unfold traceOf
  rw [linesV_len]
  simp
  omega
theorem traceOf_plain (ss : List Step20) : PlainT (traceOf ss) := ⟨by have := traceOf_len ss; omega, fun x hx => (traceOf_six ss x hx).plain⟩

/-! ### The arguments, and what is made of them -/
structure Args20 (b : Nat) (s : ASt) (v0 v1 : AV) (ls : List (List Int)) (ss : List Step20) : Prop where
  le : b ≤ s.next
  hls : ∀ L ∈ ls, I8s L ∧ L.length < 9223372036854775808
  hll : ls.length < 9223372036854775808
  hss : ∀ x ∈ ss, u8 x.2.1 ∧ I8s x.2.2 ∧ x.2.2.length < 9223372036854775808
  hsl : ss.length < 9223372036854775808
  r8 : Rows8Of b s v0 ls
  st : StepsOf b s v1 ss
theorem Args20.old {b : Nat} {s s' : ASt} {v0 v1 : AV} {ls : List (List Int)} {ss : List Step20} (h : Args20 b s v0 v1 ls ss) (k : Old b s s') : Args20 b s' v0 v1 ls ss := by
  refine ⟨Nat.le_trans h.le k.1, h.hls, h.hll, h.hss, h.hsl, ?_, ?_⟩
  · obtain ⟨a, cap, hv, hc⟩ := h.r8
    refine ⟨a, cap, hv, fun j L hj => ?_⟩
    obtain ⟨i, o, u, h1, h2, h3, h4⟩ := hc j L hj
    exact ⟨i, o, u, h1, h2, by rw [load1_eq (k.2 i h2)]; exact h3, h4.old k (Nat.le_refl _)⟩
  · obtain ⟨a, cap, hv, hc⟩ := h.st
    refine ⟨a, cap, hv, fun j d w L hj => ?_⟩
    obtain ⟨i, o, u, h1, h2, h3, h4, h5, h6⟩ := hc j d w L hj
    exact ⟨i, o, u, h1, h2, by rw [load1_eq (k.2 i h2)]; exact h3, by rw [load1_eq (k.2 i h2)]; exact h4, by rw [load1_eq (k.2 i h2)]; exact h5, h6.old k (Nat.le_refl _)⟩

structure Set20 (B : Nat) (s : ASt) (cl tr : AV) (us : List AV) (cs : List (List Int)) (T : Trace20) : Prop where
  dest : ∃ O, Dest s cl us.length 1 us O
  slt : ∀ j, slot cl = some j → j < B
  rows : RowCells B s us cs
  learn : Learn s cl us
  tdest : ∃ us' O, Dest s tr T.length 2 us' O
  tslt : ∀ j, slot tr = some j → j < B
  tr : TraceAt B s tr T
  le : B ≤ s.next
theorem Set20.old {B : Nat} {s s' : ASt} {cl tr : AV} {us : List AV} {cs : List (List Int)} {T : Trace20} (h : Set20 B s cl tr us cs T) (k : Old B s s') : Set20 B s' cl tr us cs T := by
  obtain ⟨O, hd⟩ := h.dest
  obtain ⟨us', O', hd'⟩ := h.tdest
  exact ⟨⟨O, hd.frame k.1 fun j hj => k.2 j (h.slt j hj)⟩, h.slt, h.rows.old k, h.learn.frame k.1 fun j _ hj => k.2 j (h.slt j hj), ⟨us', O', hd'.frame k.1 fun j hj => k.2 j (h.tslt j hj)⟩, h.tslt, h.tr.old k (Nat.le_refl _), Nat.le_trans h.le k.1⟩
theorem Set20.slice {B : Nat} {s : ASt} {cl tr : AV} {us : List AV} {cs : List (List Int)} {T : Trace20} (h : Set20 B s cl tr us cs T) : SliceAt s.next s cl us := by
  obtain ⟨O, hd⟩ := h.dest
  exact hd.slice
theorem Set20.rowsOf {B : Nat} {s : ASt} {cl tr : AV} {us : List AV} {cs : List (List Int)} {T : Trace20} (h : Set20 B s cl tr us cs T) : RowsOf s.next s cl cs := mkRows h.slice h.rows h.le
theorem Set20.mono {B C : Nat} {s : ASt} {cl tr : AV} {us : List AV} {cs : List (List Int)} {T : Trace20} (h : Set20 B s cl tr us cs T) (hB : B ≤ C) (hC : C ≤ s.next) : Set20 C s cl tr us cs T :=
  ⟨h.dest, fun j hj => Nat.lt_of_lt_of_le (h.slt j hj) hB, h.rows.mono hB, h.learn, h.tdest, fun j hj => Nat.lt_of_lt_of_le (h.tslt j hj) hB, h.tr.mono hB, hC⟩

theorem WF.both {E : Env} {f : FuncId} {xs : List AV} {K K' : AV → ASt → Prop} {s : ASt} (h : WF E f xs K s) (h' : WF E f xs K' s) : WF E f xs (fun v s' => K v s' ∧ K' v s') s := by
  obtain ⟨n, p, h1, h2⟩ := h
  obtain ⟨m, q, h3, h4⟩ := h'
  have e1 := (runA_le E (Nat.le_max_left n m)).call h1
  have e2 := (runA_le E (Nat.le_max_right n m)).call h3
  rw [e1] at e2
  injection e2 with e2
  subst e2
  exact ⟨_, p, e1, h2, h4⟩
theorem clauses_none {E : Env} (hE : Good E) {s : ASt} {b : Nat} {v : AV} (hv : Rows8Of b s v []) : WF E 22 [v, iv 6] (fun r s' => r = .slice none 0 (some 0)) s := by
  obtain ⟨a, cap, rfl, hc⟩ := hv
  refine hE.go comp22 (by decide) rfl ?_
  simp only [c22, c22o0, c22o1, c22o2, wpC, wpI, wpS, wpD, wpV, wanted_none, wanted_some, vals, cev_const, cev_var, cev_loc, padV, okV_some, againP, true_and, and_true, upd_zero, upd_succ, nth_zero, nth_succ, wpG_true, wpG_false, condK_true, condK_false, seqK_normal, seqK_ret, seqK_exit, inBlock_normal, inBlock_ret, inBlock_exit, ends_ret, ends_normal, unmark_nil, results_nil, results_cons, one_one, one_zero, one_two, isB_undef, isB_tt, isB_ff, Bool.not_true, Bool.not_false, Option.bind_some, pick3, pickA, extractA, List.getElem?_cons_zero, List.getElem?_cons_succ, bin_lss, bin_gtr, bin_leq, bin_geq, bin_eql, bin_neq, un_not]
  refine WC.loop' ?_
  have h0 : decide ((0 : Int) < ((0 : Nat) : Int)) = false := rfl
  simp only [c22l16, c22o3, List.length_nil, len_slice Try.underlying30, h0, Bool.false_beq, Bool.not_true, c22o17, if_true, wpC, wpI, wpS, wpD, wpV, wanted_none, wanted_some, vals, cev_const, cev_var, cev_loc, padV, okV_some, againP, true_and, and_true, upd_zero, upd_succ, nth_zero, nth_succ, wpG_true, wpG_false, condK_true, condK_false, seqK_normal, seqK_ret, seqK_exit, inBlock_normal, inBlock_ret, inBlock_exit, ends_ret, ends_normal, unmark_nil, results_nil, results_cons, one_one, one_zero, one_two, isB_undef, isB_tt, isB_ff, Bool.not_true, Bool.not_false, Option.bind_some, pick3, pickA, extractA, List.getElem?_cons_zero, List.getElem?_cons_succ, bin_lss, bin_gtr, bin_leq, bin_geq, bin_eql, bin_neq, un_not]
/-- Behind the making of the clauses. -/
structure Mid20 (b : Nat) (s s1 : ASt) (v0 v1 : AV) (ls : List (List Int)) (ss : List Step20) (cl : AV) (us : List AV) : Prop where
  args : Args20 b s1 v0 v1 ls ss
  old : Old s.next s s1
  dest : ∃ O, Dest s1 cl us.length 1 us O
  rows : RowCells s1.next s1 us (clausesV ls)
  learn : Learn s1 cl us
theorem setup1 {E : Env} (hE : Good E) {b : Nat} {s : ASt} {v0 v1 : AV} {ls : List (List Int)} {ss : List Step20} (h : Args20 b s v0 v1 ls ss) :
    WF E 22 [v0, iv 6] (fun cl s1 => ∃ us, Mid20 b s s1 v0 v1 ls ss cl us) s := by
  by_cases hls : ls = []
  · have r8 := h.r8
    rw [hls] at r8
    refine (WF.both (clauses_ok hE h.le h.hls h.hll h.r8) (clauses_none hE r8)).mono ?_
    rintro cl s1 ⟨⟨us, O, hm, ho⟩, rfl⟩
    have hu : us = [] := by
      have := hm.rows.1
      rw [hls] at this
      exact List.length_eq_zero_iff.1 this
    exact ⟨us, h.old (ho.mono h.le), ho, ⟨O, hm.dest⟩, hm.rows, by rw [hu]; exact Learn.nil s1⟩
  · refine (clauses_ok hE h.le h.hls h.hll h.r8).mono ?_
    rintro cl s1 ⟨us, O, hm, ho⟩
    refine ⟨us, h.old (ho.mono h.le), ho, ⟨O, hm.dest⟩, hm.rows, Learn.of_dest hm.dest ?_⟩
    rw [hm.rows.1]
    cases ls with
    | nil => exact absurd rfl hls
    | cons x ls => simp [clausesV]
theorem setup2 {E : Env} (hE : Good E) {b : Nat} {s s1 : ASt} {v0 v1 cl : AV} {us : List AV} {ls : List (List Int)} {ss : List Step20} (h : Mid20 b s s1 v0 v1 ls ss cl us) :
    WF E 23 [v1] (fun tr s2 => Set20 s2.next s2 cl tr us (clausesV ls) (traceOf ss) ∧ Old s.next s s2) s1 := by
  have h1 := h.args
  refine (lines_ok hE h1.le h1.hss h1.hsl h1.st).mono ?_
  rintro tr s2 ⟨us2, O2, hm2, ho2⟩
  have hn := ho2.1
  obtain ⟨O, hd⟩ := h.dest
  have hslt := hd.slot_lt
  exact ⟨⟨⟨O, hd.frame ho2.1 fun j hj => ho2.2 j (hslt j hj)⟩, fun j hj => Nat.lt_of_lt_of_le (hslt j hj) hn, (h.rows.old ho2).mono hn, h.learn.frame ho2.1 fun j hj _ => ho2.2 j hj, ⟨us2, O2, hm2.dest⟩, hm2.dest.slot_lt, hm2.trace, Nat.le_refl _⟩, h.old.trans (ho2.mono h.old.1)⟩

theorem learn_six {T : Trace20} (hT : ∀ x ∈ T, SixP x.2) : ∀ L ∈ learnT T, SixP L := fun L hL => let ⟨d, hd⟩ := learnT_mem hL; hT _ hd

set_option maxRecDepth 16000 in
/-- DrupShares. -/
theorem shares_ok {E : Env} (hE : Good E) (hW : ∀ s, E.nat 21 [] s = some (.bool true, s)) {fol : List (List Int) → List Int → Bool} {b : Nat} {s : ASt} {v0 v1 : AV} {ls : List (List Int)} {ss : List Step20} (h : Args20 b s v0 v1 ls ss)
    (hfol : ∀ k L, (traceOf ss)[k]? = some (false, L) → ∃ n, followsV n (clausesV ls ++ learnT ((traceOf ss).take k)) L = some (fol (clausesV ls ++ learnT ((traceOf ss).take k)) L)) :
    WF E 6 [v0, v1] (fun r _ => r = .bool true) s := by
  have hP := traceOf_plain ss
  have hT6 := traceOf_six ss
  have hcf := clausesV_fits ls
  refine hE.go comp6 (by decide) rfl ?_
  simp only [c6, c6o0, c6o1, wpC, wpI, wpS, wpD, wpV, wanted_none, wanted_some, vals, cev_const, cev_var, cev_loc, padV, okV_some, againP, true_and, and_true, upd_zero, upd_succ, nth_zero, nth_succ, wpG_true, wpG_false, condK_true, condK_false, seqK_normal, seqK_ret, seqK_exit, inBlock_normal, inBlock_ret, inBlock_exit, ends_ret, ends_normal, unmark_nil, results_nil, results_cons, one_one, one_zero, one_two, isB_undef, isB_tt, isB_ff, Bool.not_true, Bool.not_false, Option.bind_some, pick3, pickA, extractA, List.getElem?_cons_zero, List.getElem?_cons_succ, bin_lss, bin_gtr, bin_leq, bin_geq, bin_eql, bin_neq, un_not]
  refine WF.nat (hW s) ?_
  simp only [Bool.not_true, c6o3, wpC, wpI, wpS, wpD, wpV, wanted_none, wanted_some, vals, cev_const, cev_var, cev_loc, padV, okV_some, againP, true_and, and_true, upd_zero, upd_succ, nth_zero, nth_succ, wpG_true, wpG_false, condK_true, condK_false, seqK_normal, seqK_ret, seqK_exit, inBlock_normal, inBlock_ret, inBlock_exit, ends_ret, ends_normal, unmark_nil, results_nil, results_cons, one_one, one_zero, one_two, isB_undef, isB_tt, isB_ff, Bool.not_true, Bool.not_false, Option.bind_some, pick3, pickA, extractA, List.getElem?_cons_zero, List.getElem?_cons_succ, bin_lss, bin_gtr, bin_leq, bin_geq, bin_eql, bin_neq, un_not]
  refine (setup1 hE h).mono ?_
  rintro cl s1 ⟨us, hm1⟩
  simp only [wpC, wpI, wpS, wpD, wpV, wanted_none, wanted_some, vals, cev_const, cev_var, cev_loc, padV, okV_some, againP, true_and, and_true, upd_zero, upd_succ, nth_zero, nth_succ, wpG_true, wpG_false, condK_true, condK_false, seqK_normal, seqK_ret, seqK_exit, inBlock_normal, inBlock_ret, inBlock_exit, ends_ret, ends_normal, unmark_nil, results_nil, results_cons, one_one, one_zero, one_two, isB_undef, isB_tt, isB_ff, Bool.not_true, Bool.not_false, Option.bind_some, pick3, pickA, extractA, List.getElem?_cons_zero, List.getElem?_cons_succ, bin_lss, bin_gtr, bin_leq, bin_geq, bin_eql, bin_neq, un_not]
  refine (setup2 hE hm1).mono ?_
  rintro tr s2 ⟨hs2, ho2⟩
  have h2 := h.old (ho2.mono h.le)
  simp only [c6o4, wpC, wpI, wpS, wpD, wpV, wanted_none, wanted_some, vals, cev_const, cev_var, cev_loc, padV, okV_some, againP, true_and, and_true, upd_zero, upd_succ, nth_zero, nth_succ, wpG_true, wpG_false, condK_true, condK_false, seqK_normal, seqK_ret, seqK_exit, inBlock_normal, inBlock_ret, inBlock_exit, ends_ret, ends_normal, unmark_nil, results_nil, results_cons, one_one, one_zero, one_two, isB_undef, isB_tt, isB_ff, Bool.not_true, Bool.not_false, Option.bind_some, pick3, pickA, extractA, List.getElem?_cons_zero, List.getElem?_cons_succ, bin_lss, bin_gtr, bin_leq, bin_geq, bin_eql, bin_neq, un_not]
  refine (setup1 hE h2).mono ?_
  rintro cl' s3 ⟨us', hm3⟩
  simp only [wpC, wpI, wpS, wpD, wpV, wanted_none, wanted_some, vals, cev_const, cev_var, cev_loc, padV, okV_some, againP, true_and, and_true, upd_zero, upd_succ, nth_zero, nth_succ, wpG_true, wpG_false, condK_true, condK_false, seqK_normal, seqK_ret, seqK_exit, inBlock_normal, inBlock_ret, inBlock_exit, ends_ret, ends_normal, unmark_nil, results_nil, results_cons, one_one, one_zero, one_two, isB_undef, isB_tt, isB_ff, Bool.not_true, Bool.not_false, Option.bind_some, pick3, pickA, extractA, List.getElem?_cons_zero, List.getElem?_cons_succ, bin_lss, bin_gtr, bin_leq, bin_geq, bin_eql, bin_neq, un_not]
  refine (setup2 hE hm3).mono ?_
  rintro tr' s4 ⟨hs4, ho4⟩
  have hs2' : Set20 s2.next s4 cl tr us (clausesV ls) (traceOf ss) := hs2.old ho4
  have hn4 := ho4.1
  have k4 := hs2'.mono hn4 (Nat.le_refl _)
  simp only [c6o5, c6o6, wpC, wpI, wpS, wpD, wpV, wanted_none, wanted_some, vals, cev_const, cev_var, cev_loc, padV, okV_some, againP, true_and, and_true, upd_zero, upd_succ, nth_zero, nth_succ, wpG_true, wpG_false, condK_true, condK_false, seqK_normal, seqK_ret, seqK_exit, inBlock_normal, inBlock_ret, inBlock_exit, ends_ret, ends_normal, unmark_nil, results_nil, results_cons, one_one, one_zero, one_two, isB_undef, isB_tt, isB_ff, Bool.not_true, Bool.not_false, Option.bind_some, pick3, pickA, extractA, List.getElem?_cons_zero, List.getElem?_cons_succ, bin_lss, bin_gtr, bin_leq, bin_geq, bin_eql, bin_neq, un_not]
  refine (left_ok hE (b := s4.next) (Nat.le_refl _) k4.slice k4.rows hcf.1 k4.tr hP).mono ?_
  rintro lf s5 ⟨⟨us5, O5, hl5, _⟩, ho5⟩
  have k5 := k4.old ho5
  have hn5 := ho5.1
  have hw5 : Wr s4.next s5 lf us5 O5 := hl5.wr fun L hL => by
    rcases List.mem_append.1 hL with h | h
    · exact (hcf.1.2 L h).2
    · have := (learn_six hT6 L h).2; omega
  have hu5 : us5.length ≤ 1000000 := by
    have e := hl5.len
    have h1 := (hP.learn (traceOf ss).length).2
    rw [List.take_length] at h1
    have h2 := hcf.2
    rw [List.length_append] at e
    omega
  simp only [wpC, wpI, wpS, wpD, wpV, wanted_none, wanted_some, vals, cev_const, cev_var, cev_loc, padV, okV_some, againP, true_and, and_true, upd_zero, upd_succ, nth_zero, nth_succ, wpG_true, wpG_false, condK_true, condK_false, seqK_normal, seqK_ret, seqK_exit, inBlock_normal, inBlock_ret, inBlock_exit, ends_ret, ends_normal, unmark_nil, results_nil, results_cons, one_one, one_zero, one_two, isB_undef, isB_tt, isB_ff, Bool.not_true, Bool.not_false, Option.bind_some, pick3, pickA, extractA, List.getElem?_cons_zero, List.getElem?_cons_succ, bin_lss, bin_gtr, bin_leq, bin_geq, bin_eql, bin_neq, un_not]
  refine (check_ok hE (b := s4.next) (by omega) k5.slice k5.rows hcf.1 k5.tr hP hfol).mono ?_
  rintro r6 s6 ⟨rfl, ho6⟩
  have hw6 := hw5.frame ho6
  have hn6 := ho6.1
  simp only [c6o7, wpC, wpI, wpS, wpD, wpV, wanted_none, wanted_some, vals, cev_const, cev_var, cev_loc, padV, okV_some, againP, true_and, and_true, upd_zero, upd_succ, nth_zero, nth_succ, wpG_true, wpG_false, condK_true, condK_false, seqK_normal, seqK_ret, seqK_exit, inBlock_normal, inBlock_ret, inBlock_exit, ends_ret, ends_normal, unmark_nil, results_nil, results_cons, one_one, one_zero, one_two, isB_undef, isB_tt, isB_ff, Bool.not_true, Bool.not_false, Option.bind_some, pick3, pickA, extractA, List.getElem?_cons_zero, List.getElem?_cons_succ, bin_lss, bin_gtr, bin_leq, bin_geq, bin_eql, bin_neq, un_not]
  refine wr_all hE hu5 _ _ _ _ _ _ _ _ _ _ _ us5.length 0 s6 _ _ _ (by omega) hw6 ?_
  intro s7 y8 y9 y12 y13 ho7
  have hn7 := ho7.1
  have o47 : Old s4.next s4 s7 := ho5.trans ((ho6.mono hn5).trans ho7)
  have k7 := k4.old o47
  have k7' := hs4.old o47
  simp only [if_true, c6o16, wpC, wpI, wpS, wpD, wpV, wanted_none, wanted_some, vals, cev_const, cev_var, cev_loc, padV, okV_some, againP, true_and, and_true, upd_zero, upd_succ, nth_zero, nth_succ, wpG_true, wpG_false, condK_true, condK_false, seqK_normal, seqK_ret, seqK_exit, inBlock_normal, inBlock_ret, inBlock_exit, ends_ret, ends_normal, unmark_nil, results_nil, results_cons, one_one, one_zero, one_two, isB_undef, isB_tt, isB_ff, Bool.not_true, Bool.not_false, Option.bind_some, pick3, pickA, extractA, List.getElem?_cons_zero, List.getElem?_cons_succ, bin_lss, bin_gtr, bin_leq, bin_geq, bin_eql, bin_neq, un_not]
  refine same_lines hE (s0 := s7) (by omega) k7.tr k7'.tr hP _ _ _ _ _ _ _ _ _ _ _ (traceOf ss).length 0 s7 _ _ (by omega) (Old.refl _ _) (by omega) ?_
  intro s8 y10 y14 y15 ho8 hn8
  have k8 := k7.old ho8
  have k8' := k7'.old ho8
  simp only [if_true, c6o22, wpC, wpI, wpS, wpD, wpV, wanted_none, wanted_some, vals, cev_const, cev_var, cev_loc, padV, okV_some, againP, true_and, and_true, upd_zero, upd_succ, nth_zero, nth_succ, wpG_true, wpG_false, condK_true, condK_false, seqK_normal, seqK_ret, seqK_exit, inBlock_normal, inBlock_ret, inBlock_exit, ends_ret, ends_normal, unmark_nil, results_nil, results_cons, one_one, one_zero, one_two, isB_undef, isB_tt, isB_ff, Bool.not_true, Bool.not_false, Option.bind_some, pick3, pickA, extractA, List.getElem?_cons_zero, List.getElem?_cons_succ, bin_lss, bin_gtr, bin_leq, bin_geq, bin_eql, bin_neq, un_not]
  refine (rows_ok hE (by have := hcf.2; omega) (fun L hL => by have := (hcf.1.2 L hL).2; omega) (by have := hcf.2; omega) k8.rowsOf k8'.rowsOf).mono ?_
  rintro _ _ ⟨rfl, _⟩
  simp only [decide_true, wpC, wpI, wpS, wpD, wpV, wanted_none, wanted_some, vals, cev_const, cev_var, cev_loc, padV, okV_some, againP, true_and, and_true, upd_zero, upd_succ, nth_zero, nth_succ, wpG_true, wpG_false, condK_true, condK_false, seqK_normal, seqK_ret, seqK_exit, inBlock_normal, inBlock_ret, inBlock_exit, ends_ret, ends_normal, unmark_nil, results_nil, results_cons, one_one, one_zero, one_two, isB_undef, isB_tt, isB_ff, Bool.not_true, Bool.not_false, Option.bind_some, pick3, pickA, extractA, List.getElem?_cons_zero, List.getElem?_cons_succ, bin_lss, bin_gtr, bin_leq, bin_geq, bin_eql, bin_neq, un_not]
end Go.Proofs.Ytilhhmkdcoajnaa.Am
