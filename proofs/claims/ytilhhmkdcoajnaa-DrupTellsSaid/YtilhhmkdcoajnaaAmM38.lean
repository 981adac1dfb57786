/- What the reference's functions drop and all of layer 20 compute; conditions: the numbers fit. -/
import Derived.Test.YtilhhmkdcoajnaaAmM37
set_option linter.unusedVariables false
set_option linter.unusedSimpArgs false
namespace Go.Proofs.Ytilhhmkdcoajnaa.Am
open Go Go.Proofs

theorem zero23 : zeroOk Try.prog 23 1 = true := by simp [zeroOk, zr23, AV.cells]
/-- The last one of the same literals, of so many. -/
def lastV (cs : List (List Int)) (c : List Int) : Nat → Option Nat
  | 0 => none
  | k + 1 => if cleanV [] (cs.getD k []) = cleanV [] c then some k else lastV cs c k
def without {α : Type} (l : List α) : Option Nat → List α
  | none => l
  | some i => l.take i ++ l.drop (i + 1)
def dropV (cs : List (List Int)) (c : List Int) : List (List Int) := without cs (lastV cs c cs.length)

theorem lastV_lt {cs : List (List Int)} {c : List Int} : ∀ {k i : Nat}, lastV cs c k = some i → i < k
  | k + 1, i, h => by
    unfold lastV at h
    split at h
    · injection h with h; omega
    · have := lastV_lt h; omega

/-- An empty slice, laid anew. -/
theorem dest_empty {s : ASt} {ty : TypeId} : Dest (newObj s (mkRow ty 1 [])) (.slice (some (s.next, 0)) 0 (some 0)) 0 1 [] [] := by
  refine .inl ⟨_, rfl, rfl, rfl, fun e => (by cases e), fun i o e => ?_⟩
  injection e with e
  injection e with e1 e2
  subst e1; subst e2
  refine ⟨Nat.lt_succ_self _, ?_⟩
  obtain ⟨r, h1, h2, _⟩ := holds_mkRow ty 1 []
  exact loadN_holds (s := newObj s (mkRow ty 1 [])) (i := s.next) (by rw [heap_new, if_pos rfl, h1]) h2 0 [] (Nat.le_refl _) (fun j u hj => by simp at hj)

set_option maxRecDepth 8000 in
/-- A row without one: the two appends. -/
theorem without_step {E : Env} {s : ASt} {n : Nat} {us : List AV} {O : List Nat} {v : AV} (hd : Dest s v n 1 us O) (hus : us.length ≤ 1000000) (hcell : allCells us = true) {k : Nat} (hk : k < n) (v1 v2 v4 v5 : AV) {K : List AV → ASt → Prop}
    (hK : ∀ v' s' O', Dest s' v' (us.take k ++ us.drop (k + 1)).length 1 (us.take k ++ us.drop (k + 1)) O' → (∀ j ∈ O', s.next ≤ j) → Old s.next s s' → K [v, v1, v', iv (k : Int), v4, v5] s') :
    wpI E c57o4 K [] [v, v1, v2, iv (k : Int), v4, v5] s := by
  have hn : us.length = n := by have := hd.len; omega
  obtain ⟨ax, cx, q1, q2, q3⟩ := slice_hi (P := Try.prog) (t := 22) Try.underlying22 sz23 hd (Nat.le_of_lt hk)
  obtain ⟨ay, cy, p1, p2, p3⟩ := slice_lo (P := Try.prog) (t := 22) (k := k + 1) Try.underlying22 sz23 hd hk
  have hslot := hd.slot_lt
  have b0 := bld_zero (P := Try.prog) (t := 22) Try.underlying22 sz23 zr23 rfl
  have d0 := dest_empty (s := s) (ty := 23)
  generalize hs1 : newObj s (mkRow 23 1 []) = s1 at d0
  have n1 : s1.next = s.next + 1 := by rw [← hs1]; rfl
  have o1 : ∀ j, j < s.next → s1.heap.get j = s.heap.get j := fun j hj => by rw [← hs1, heap_new, if_neg (by omega)]
  have q4 := q3 s1 fun j hj => o1 j (hslot j hj)
  have p4 := (p3 s1 fun j hj => o1 j (hslot j hj)).1
  have hct : allCells (us.take k) = true := by
    have : us.take k ++ us.drop k = us := List.take_append_drop k us
    rw [← this] at hcell
    have : ∀ {a b : List AV}, allCells (a ++ b) = true → allCells a = true := by
      intro a b
      induction a with
      | nil => intro _; rfl
      | cons x a ih => intro h; simp only [List.cons_append, allCells, Bool.and_eq_true] at h ⊢; exact ⟨h.1, ih h.2⟩
    exact this hcell
  have hcd : allCells (us.drop (k + 1)) = true := by
    have : us.take (k + 1) ++ us.drop (k + 1) = us := List.take_append_drop (k + 1) us
    rw [← this] at hcell
    have : ∀ {a b : List AV}, allCells (a ++ b) = true → allCells b = true := by
      intro a b
      induction a with
      | nil => intro h; exact h
      | cons x a ih => intro h; simp only [List.cons_append, allCells, Bool.and_eq_true] at h; exact ih h.2
    exact this hcell
  obtain ⟨va, s3, Oa, a1, a2, a3, a4, a5, a6, a7⟩ := d0.append (P := Try.prog) (st := 22) (xt := 22) Try.underlying22 sz23 by23 (by decide) (strx 22 23 Try.underlying22) zero23 q4.2 (by simp; omega) hct (by omega) (by omega)
  have Oa_new : ∀ j ∈ Oa, s1.next ≤ j := fun j hj => (a6 j hj).elim (fun h => by cases h) id
  have o3 : ∀ j, j < s.next → s3.heap.get j = s.heap.get j := fun j hj => (a5 j (by omega) (by simp)).trans (o1 j hj)
  have p5 := p3 s3 fun j hj => o3 j (hslot j hj)
  obtain ⟨vc, s5, Oc, e1, e2, e3, e4, e5, e6, e7⟩ := a2.append (P := Try.prog) (st := 22) (xt := 22) Try.underlying22 sz23 by23 (by decide) (strx 22 23 Try.underlying22) zero23 p5.2 (by simp; omega) hcd (by omega) (by omega)
  have o5 : ∀ j, j < s.next → s5.heap.get j = s.heap.get j := fun j hj => (e5 j (by omega) (fun h => by have := Oa_new j h; omega)).trans (o3 j hj)
  have hlast : (0 + k + (n - (k + 1))) = (us.take k ++ us.drop (k + 1)).length := by simp; omega
  rw [hlast, List.nil_append] at e2
  have hmv : ∀ (m : Nat) (i : Nat), Made.val i (.slice m) = .slice (some (i, 0)) m (some m) := fun _ _ => rfl
  have hadd := bin_add Try.prog 3 (k : Int) 1 ⟨by omega, by omega⟩
  have hcast : ((k : Int) + 1) = ((k + 1 : Nat) : Int) := by omega
  simp only [c57o4, b0, hs1, hmv, q4.1, hadd, hcast, p4, a1, p5.1, e1, again_r, sameA_some, p1, wpC, wpI, wpS, wpD, wpV, wanted_none, wanted_some, vals, cev_const, cev_var, cev_loc, padV, okV_some, againP, true_and, and_true, upd_zero, upd_succ, nth_zero, nth_succ, wpG_true, wpG_false, condK_true, condK_false, seqK_normal, seqK_ret, seqK_exit, inBlock_normal, inBlock_ret, inBlock_exit, ends_ret, ends_normal, unmark_nil, results_nil, results_cons, one_one, one_zero, one_two, isB_undef, isB_tt, isB_ff, Bool.not_true, Bool.not_false, Option.bind_some, pick3, pickA, extractA, List.getElem?_cons_zero, List.getElem?_cons_succ, bin_lss, bin_gtr, bin_leq, bin_geq, bin_eql, bin_neq, un_not]
  exact hK vc s5 Oc e2 (fun j hj => (e6 j hj).elim (fun h => by have := Oa_new j h; omega) (fun h => by omega)) ⟨by omega, o5⟩

set_option maxRecDepth 8000 in
theorem drop_loop {E : Env} (hE : Good E) {s0 : ASt} {b : Nat} (hb : b ≤ s0.next) {us : List AV} {cs : List (List Int)} (hcs : FitsR cs) {c : List Int} (hc : I64s c) (hcl : c.length ≤ 1000) {v u : AV} {O : List Nat} (hd : Dest s0 v us.length 1 us O) (hr : RowCells b s0 us cs) (hu : SliceAt b s0 u (ivs c)) {Q : ARes → Prop} :
    ∀ (k : Nat) (s : ASt) (x2 x4 x5 : AV), k ≤ cs.length → Old s0.next s0 s → lastV cs c cs.length = lastV cs c k →
      (∀ e s' v' us' O' y3 y4 y5, Dest s' v' us'.length 1 us' O' → RowCells b s' us' (dropV cs c) → (∀ j ∈ O', j ∈ O ∨ s0.next ≤ j) → Old s0.next s0 s' → (e = .ret ∨ e = .exit 0 ∧ v' = v) → ∀ y2, (e = .ret → y2 = v') → Q ⟨e, [v, u, y2, y3, y4, y5], [], s'⟩) →
      WC E none (.loop c57l6) Q [v, u, x2, iv ((k : Int) - 1), x4, x5] [] s := by
  intro k
  induction k with
  | zero =>
    intro s x2 x4 x5 hk hold hl hq
    have hdr : dropV cs c = cs := by unfold dropV; rw [hl]; rfl
    refine WC.loop' ?_
    simp only [c57l6, c57o2, wpC, wpI, wpS, wpD, wpV, wanted_none, wanted_some, vals, cev_const, cev_var, cev_loc, padV, okV_some, againP, true_and, and_true, upd_zero, upd_succ, nth_zero, nth_succ, wpG_true, wpG_false, condK_true, condK_false, seqK_normal, seqK_ret, seqK_exit, inBlock_normal, inBlock_ret, inBlock_exit, ends_ret, ends_normal, unmark_nil, results_nil, results_cons, one_one, one_zero, one_two, isB_undef, isB_tt, isB_ff, Bool.not_true, Bool.not_false, Option.bind_some, pick3, pickA, extractA, List.getElem?_cons_zero, List.getElem?_cons_succ, bin_lss, bin_gtr, bin_leq, bin_geq, bin_eql, bin_neq, un_not]
    simp only [show ((0 : Nat) : Int) - 1 = -1 from rfl, show decide ((0 : Int) ≤ -1) = false from rfl, wpC, wpI, wpS, wpD, wpV, wanted_none, wanted_some, vals, cev_const, cev_var, cev_loc, padV, okV_some, againP, true_and, and_true, upd_zero, upd_succ, nth_zero, nth_succ, wpG_true, wpG_false, condK_true, condK_false, seqK_normal, seqK_ret, seqK_exit, inBlock_normal, inBlock_ret, inBlock_exit, ends_ret, ends_normal, unmark_nil, results_nil, results_cons, one_one, one_zero, one_two, isB_undef, isB_tt, isB_ff, Bool.not_true, Bool.not_false, Option.bind_some, pick3, pickA, extractA, List.getElem?_cons_zero, List.getElem?_cons_succ, bin_lss, bin_gtr, bin_leq, bin_geq, bin_eql, bin_neq, un_not]
    exact hq _ s v us O _ _ _ (hd.frame hold.1 fun j hj => hold.2 j (hd.slot_lt j hj)) (by rw [hdr]; exact hr.old (hold.mono hb)) (fun j hj => .inl hj) hold (.inr ⟨rfl, rfl⟩) _ (fun e => by cases e)
  | succ k ih =>
    intro s x2 x4 x5 hk hold hl hq
    have hlt : k < us.length := by rw [hr.1]; omega
    have hL : cs[k]? = some cs[k] := List.getElem?_eq_getElem hk
    obtain ⟨w, hw1, hw2⟩ := hr.2 k _ hL
    obtain ⟨hLi, hLl⟩ := hcs.2 cs[k] (List.getElem_mem _)
    have hds : Dest s v us.length 1 us O := hd.frame hold.1 fun j hj => hold.2 j (hd.slot_lt j hj)
    obtain ⟨a, cap, hve, hcells⟩ := hds.cells
    obtain ⟨i, o, hae, hi, hload⟩ := hcells k w hw1
    have e1 : indexAddrA Try.prog 22 v (iv (k : Int)) = some (.ptr (some (i, o + k * 1))) := by rw [hve, hae]; exact idx_slice Try.underlying22 sz23 hlt
    have e2 : loadV Try.prog s 23 (.ptr (some (i, o + k * 1))) = some w := load_one ag23 (by rw [Nat.mul_one]; exact hload)
    have hk1 : ((k + 1 : Nat) : Int) - 1 = (k : Int) := by omega
    have hge : decide ((0 : Int) ≤ (k : Int)) = true := decide_eq_true (by omega)
    have hcsl := hcs.1
    have e3 := bin_sub Try.prog 3 (k : Int) 1 ⟨by omega, by omega⟩
    refine WC.loop' ?_
    rw [hk1]
    simp only [c57l6, c57o2, c57o3, hge, e1, e2, wpC, wpI, wpS, wpD, wpV, wanted_none, wanted_some, vals, cev_const, cev_var, cev_loc, padV, okV_some, againP, true_and, and_true, upd_zero, upd_succ, nth_zero, nth_succ, wpG_true, wpG_false, condK_true, condK_false, seqK_normal, seqK_ret, seqK_exit, inBlock_normal, inBlock_ret, inBlock_exit, ends_ret, ends_normal, unmark_nil, results_nil, results_cons, one_one, one_zero, one_two, isB_undef, isB_tt, isB_ff, Bool.not_true, Bool.not_false, Option.bind_some, pick3, pickA, extractA, List.getElem?_cons_zero, List.getElem?_cons_succ, bin_lss, bin_gtr, bin_leq, bin_geq, bin_eql, bin_neq, un_not]
    refine (same_ok hE hLi hc hLl hcl (Nat.le_trans hb hold.1) (hw2.old hold hb) (hu.old hold hb)).mono ?_
    rintro _ s1 ⟨rfl, h1⟩
    have hold1 : Old s0.next s0 s1 := hold.trans (h1.mono hold.1)
    have hgd : cs.getD k [] = cs[k] := by simp [List.getD_eq_getElem?_getD, hL]
    by_cases h : cleanV [] cs[k] = cleanV [] c
    · have hlv : lastV cs c cs.length = some k := by rw [hl]; unfold lastV; rw [hgd, if_pos h]
      have hdr : dropV cs c = cs.take k ++ cs.drop (k + 1) := by unfold dropV; rw [hlv]; rfl
      simp only [h, decide_true, wpC, wpI, wpS, wpD, wpV, wanted_none, wanted_some, vals, cev_const, cev_var, cev_loc, padV, okV_some, againP, true_and, and_true, upd_zero, upd_succ, nth_zero, nth_succ, wpG_true, wpG_false, condK_true, condK_false, seqK_normal, seqK_ret, seqK_exit, inBlock_normal, inBlock_ret, inBlock_exit, ends_ret, ends_normal, unmark_nil, results_nil, results_cons, one_one, one_zero, one_two, isB_undef, isB_tt, isB_ff, Bool.not_true, Bool.not_false, Option.bind_some, pick3, pickA, extractA, List.getElem?_cons_zero, List.getElem?_cons_succ, bin_lss, bin_gtr, bin_leq, bin_geq, bin_eql, bin_neq, un_not]
      have hd1 : Dest s1 v us.length 1 us O := hd.frame hold1.1 fun j hj => hold1.2 j (hd.slot_lt j hj)
      refine without_step hd1 (by rw [hr.1]; omega) hr.cells hlt _ _ _ _ ?_
      intro v' s' O' g1 g2 g3
      have hold2 : Old s0.next s0 s' := hold1.trans (g3.mono hold1.1)
      have hr2 := hr.old (hold2.mono hb)
      refine hq _ s' v' _ O' _ _ _ g1 (by rw [hdr]; exact (hr2.take k).append (hr2.drop (k + 1))) (fun j hj => .inr (Nat.le_trans hold1.1 (g2 j hj))) hold2 (.inl rfl) _ (fun _ => rfl)
    · have hlv : lastV cs c cs.length = lastV cs c k := by
        rw [hl]
        show (if cleanV [] (cs.getD k []) = cleanV [] c then some k else lastV cs c k) = lastV cs c k
        rw [hgd, if_neg h]
      simp only [h, decide_false, c57o5, e3, wpC, wpI, wpS, wpD, wpV, wanted_none, wanted_some, vals, cev_const, cev_var, cev_loc, padV, okV_some, againP, true_and, and_true, upd_zero, upd_succ, nth_zero, nth_succ, wpG_true, wpG_false, condK_true, condK_false, seqK_normal, seqK_ret, seqK_exit, inBlock_normal, inBlock_ret, inBlock_exit, ends_ret, ends_normal, unmark_nil, results_nil, results_cons, one_one, one_zero, one_two, isB_undef, isB_tt, isB_ff, Bool.not_true, Bool.not_false, Option.bind_some, pick3, pickA, extractA, List.getElem?_cons_zero, List.getElem?_cons_succ, bin_lss, bin_gtr, bin_leq, bin_geq, bin_eql, bin_neq, un_not]
      exact ih s1 _ _ _ (by omega) hold1 hlv hq

/-- drop. -/
theorem drop_ok {E : Env} (hE : Good E) {s : ASt} {b : Nat} (hb : b ≤ s.next) {us : List AV} {cs : List (List Int)} (hcs : FitsR cs) {c : List Int} (hc : I64s c) (hcl : c.length ≤ 1000) {v u : AV} {O : List Nat} (hd : Dest s v us.length 1 us O) (hr : RowCells b s us cs) (hu : SliceAt b s u (ivs c)) :
    WF E 57 [v, u] (fun r s' => ∃ us' O', Dest s' r us'.length 1 us' O' ∧ RowCells b s' us' (dropV cs c) ∧ (∀ j ∈ O', j ∈ O ∨ s.next ≤ j) ∧ Old s.next s s') s := by
  have hcsl := hcs.1
  obtain ⟨a, cap, hve, hcells⟩ := hd.cells
  have hlen : lenA Try.prog s 22 v = some (iv (cs.length : Int)) := by rw [hve, hr.1]; exact len_slice Try.underlying22
  have e3 := bin_sub Try.prog 3 (cs.length : Int) 1 ⟨by omega, by omega⟩
  refine hE.go comp57 (by decide) rfl ?_
  simp only [c57, c57o0, c57o1, hlen, e3, wpC, wpI, wpS, wpD, wpV, wanted_none, wanted_some, vals, cev_const, cev_var, cev_loc, padV, okV_some, againP, true_and, and_true, upd_zero, upd_succ, nth_zero, nth_succ, wpG_true, wpG_false, condK_true, condK_false, seqK_normal, seqK_ret, seqK_exit, inBlock_normal, inBlock_ret, inBlock_exit, ends_ret, ends_normal, unmark_nil, results_nil, results_cons, one_one, one_zero, one_two, isB_undef, isB_tt, isB_ff, Bool.not_true, Bool.not_false, Option.bind_some, pick3, pickA, extractA, List.getElem?_cons_zero, List.getElem?_cons_succ, bin_lss, bin_gtr, bin_leq, bin_geq, bin_eql, bin_neq, un_not]
  refine drop_loop hE hb hcs hc hcl hd hr hu cs.length s _ _ _ (Nat.le_refl _) (Old.refl _ _) rfl ?_
  intro e s' v' us' O' y3 y4 y5 g1 g2 g3 g4 g5 y2 hy2
  rcases g5 with rfl | ⟨rfl, rfl⟩
  · have := hy2 rfl
    subst this
    simp only [wpC, wpI, wpS, wpD, wpV, wanted_none, wanted_some, vals, cev_const, cev_var, cev_loc, padV, okV_some, againP, true_and, and_true, upd_zero, upd_succ, nth_zero, nth_succ, wpG_true, wpG_false, condK_true, condK_false, seqK_normal, seqK_ret, seqK_exit, inBlock_normal, inBlock_ret, inBlock_exit, ends_ret, ends_normal, unmark_nil, results_nil, results_cons, one_one, one_zero, one_two, isB_undef, isB_tt, isB_ff, Bool.not_true, Bool.not_false, Option.bind_some, pick3, pickA, extractA, List.getElem?_cons_zero, List.getElem?_cons_succ, bin_lss, bin_gtr, bin_leq, bin_geq, bin_eql, bin_neq, un_not]
    exact ⟨us', O', g1, g2, g3, g4⟩
  · simp only [if_true, c57o7, wpC, wpI, wpS, wpD, wpV, wanted_none, wanted_some, vals, cev_const, cev_var, cev_loc, padV, okV_some, againP, true_and, and_true, upd_zero, upd_succ, nth_zero, nth_succ, wpG_true, wpG_false, condK_true, condK_false, seqK_normal, seqK_ret, seqK_exit, inBlock_normal, inBlock_ret, inBlock_exit, ends_ret, ends_normal, unmark_nil, results_nil, results_cons, one_one, one_zero, one_two, isB_undef, isB_tt, isB_ff, Bool.not_true, Bool.not_false, Option.bind_some, pick3, pickA, extractA, List.getElem?_cons_zero, List.getElem?_cons_succ, bin_lss, bin_gtr, bin_leq, bin_geq, bin_eql, bin_neq, un_not]
    exact ⟨us', O', g1, g2, g3, g4⟩

/-- What a slice brings that is appended. -/
theorem Dest.src {P : Program} {e : TypeId} {s : ASt} {v : AV} {n sz : Nat} {cs : List AV} {O : List Nat} (h : Dest s v n sz cs O) : srcCells P s e sz v = some (n, cs) := by
  rcases h with ⟨a, rfl, h2, h3, h4, h5⟩ | ⟨i, p, rfl, h6, h7⟩
  · cases a with
    | none =>
      have hn := h4 rfl
      subst hn
      have : cs = [] := by simp at h3; exact h3
      subst this
      rfl
    | some io =>
      obtain ⟨i, o⟩ := io
      obtain ⟨k1, k2⟩ := h5 i o rfl
      simp [srcCells, srcN_load k2]
  · rcases h6.ex with ⟨e', _⟩ | ⟨_, q1, q2, q3, r, q4, q5, q6, q7, q8, q9⟩
    · cases e'
    · have := loadN_holds q4 q5 0 cs (by omega) (fun j u hj => by simpa using hj)
      rw [h6.len] at this
      simp [srcCells, srcN_load this]

set_option maxRecDepth 8000 in
/-- all. -/
theorem all_ok {E : Env} (hE : Good E) {s : ASt} {us vs : List AV} {v u : AV} {O O2 : List Nat} (hd : Dest s v us.length 1 us O) (hd2 : Dest s u vs.length 1 vs O2) (hl : us.length ≤ 1000000) (hl2 : vs.length ≤ 1000000) (hc : allCells us = true) (hc2 : allCells vs = true) :
    WF E 58 [v, u] (fun r s' => ∃ O', Dest s' r (us ++ vs).length 1 (us ++ vs) O' ∧ (∀ j ∈ O', s.next ≤ j) ∧ Old s.next s s') s := by
  have b0 := bld_zero (P := Try.prog) (t := 22) Try.underlying22 sz23 zr23 rfl
  have d0 := dest_empty (s := s) (ty := 23)
  have f1 := hd.new (mkRow 23 1 [])
  have f2 := hd2.new (mkRow 23 1 [])
  generalize hs1 : newObj s (mkRow 23 1 []) = s1 at d0 f1 f2
  have n1 : s1.next = s.next + 1 := by rw [← hs1]; rfl
  have o1 : ∀ j, j < s.next → s1.heap.get j = s.heap.get j := fun j hj => by rw [← hs1, heap_new, if_neg (by omega)]
  obtain ⟨av, capv, hve, _⟩ := hd.cells
  obtain ⟨au, capu, hue, _⟩ := hd2.cells
  have sv := f1.src (P := Try.prog) (e := 23)
  rw [hve] at sv
  obtain ⟨va, s3, Oa, a1, a2, a3, a4, a5, a6, a7⟩ := d0.append (P := Try.prog) (st := 22) (xt := 22) Try.underlying22 sz23 by23 (by decide) (strx 22 23 Try.underlying22) zero23 sv (by omega) hc (by omega) (by omega)
  have f3 : Dest s3 u vs.length 1 vs O2 := f2.frame a3 fun j hj => a5 j (by have := hd2.slot_lt j hj; omega) (by simp)
  have Oa_new : ∀ j ∈ Oa, s1.next ≤ j := fun j hj => (a6 j hj).elim (fun h => by cases h) id
  have su := f3.src (P := Try.prog) (e := 23)
  rw [hue] at su
  obtain ⟨vc, s5, Oc, e1, e2, e3, e4, e5, e6, e7⟩ := a2.append (P := Try.prog) (st := 22) (xt := 22) Try.underlying22 sz23 by23 (by decide) (strx 22 23 Try.underlying22) zero23 su (by omega) hc2 (by omega) (by omega)
  have o5 : ∀ j, j < s.next → s5.heap.get j = s.heap.get j := fun j hj => (e5 j (by omega) (fun h => by have := Oa_new j h; omega)).trans ((a5 j (by omega) (by simp)).trans (o1 j hj))
  have hlast : 0 + us.length + vs.length = (us ++ vs).length := by simp
  rw [hlast, List.nil_append] at e2
  rw [← hve] at a1
  rw [← hue] at e1
  have hmv : ∀ (m : Nat) (i : Nat), Made.val i (.slice m) = .slice (some (i, 0)) m (some m) := fun _ _ => rfl
  refine hE.go comp58 (by decide) rfl ?_
  simp only [c58, c58o0, c58o1, b0, hs1, hmv, a1, e1, wpC, wpI, wpS, wpD, wpV, wanted_none, wanted_some, vals, cev_const, cev_var, cev_loc, padV, okV_some, againP, true_and, and_true, upd_zero, upd_succ, nth_zero, nth_succ, wpG_true, wpG_false, condK_true, condK_false, seqK_normal, seqK_ret, seqK_exit, inBlock_normal, inBlock_ret, inBlock_exit, ends_ret, ends_normal, unmark_nil, results_nil, results_cons, one_one, one_zero, one_two, isB_undef, isB_tt, isB_ff, Bool.not_true, Bool.not_false, Option.bind_some, pick3, pickA, extractA, List.getElem?_cons_zero, List.getElem?_cons_succ, bin_lss, bin_gtr, bin_leq, bin_geq, bin_eql, bin_neq, un_not]
  exact ⟨Oc, e2, fun j hj => (e6 j hj).elim (fun h => by have := Oa_new j h; omega) (fun h => by omega), by omega, o5⟩

/-! ### Rows: are they alike? -/
set_option maxRecDepth 8000 in
theorem rows_in {E : Env} (hE : Good E) {s : ASt} {b : Nat} {A B : List Int} (hl : A.length = B.length) (hA : A.length ≤ 1000000) {a1 a2 : Option (Nat × Nat)} {cap1 cap2 : Option Nat} (hc1 : CellsAt b s a1 (ivs A)) (hc2 : CellsAt b s a2 (ivs B)) {k0 : Nat} {v0 v1 p1 p2 : AV}
    (g1 : indexAddrA Try.prog 22 v0 (iv (k0 : Int)) = some p1) (g2 : loadV Try.prog s 23 p1 = some (.slice a1 A.length cap1)) (g3 : indexAddrA Try.prog 22 v1 (iv (k0 : Int)) = some p2) (g4 : loadV Try.prog s 23 p2 = some (.slice a2 B.length cap2)) (v5 v6 v7 : AV) {Q : ARes → Prop} :
    ∀ (l : List Int) (k : Nat) (x2 x8 x9 : AV), A.drop k = l → k ≤ A.length → A.take k = B.take k →
      (∀ (e : AExit) (y2 y4 y8 y9 : AV), (e = .ret ∧ A ≠ B ∧ y2 = .bool false ∨ e = .exit 2 ∧ A = B) → Q ⟨e, [v0, v1, y2, iv (k0 : Int), y4, v5, v6, v7, y8, y9], [], s⟩) →
      WC E none (.loop c26l12) Q [v0, v1, x2, iv (k0 : Int), iv (k : Int), v5, v6, v7, x8, x9] [] s := by
  intro l
  induction l with
  | nil =>
    intro k x2 x8 x9 hd hk hp hq
    have := drop_end hd hk
    subst this
    refine WC.loop' ?_
    simp only [c26l12, c26o8, g1, g2, len_slice Try.underlying23, Int.lt_irrefl, decide_false, wpC, wpI, wpS, wpD, wpV, wanted_none, wanted_some, vals, cev_const, cev_var, cev_loc, padV, okV_some, againP, true_and, and_true, upd_zero, upd_succ, nth_zero, nth_succ, wpG_true, wpG_false, condK_true, condK_false, seqK_normal, seqK_ret, seqK_exit, inBlock_normal, inBlock_ret, inBlock_exit, ends_ret, ends_normal, unmark_nil, results_nil, results_cons, one_one, one_zero, one_two, isB_undef, isB_tt, isB_ff, Bool.not_true, Bool.not_false, Option.bind_some, pick3, pickA, extractA, List.getElem?_cons_zero, List.getElem?_cons_succ, bin_lss, bin_gtr, bin_leq, bin_geq, bin_eql, bin_neq, un_not]
    exact hq _ _ _ _ _ (.inr ⟨rfl, list_ext_or hl hp rfl⟩)
  | cons x l ih =>
    intro k x2 x8 x9 hd hk hp hq
    obtain ⟨hlt, hx, hd'⟩ := drop_facts hd
    have hltB : k < B.length := by omega
    have hy : B[k]? = some B[k] := List.getElem?_eq_getElem hltB
    obtain ⟨i, o, rfl, hi, hload⟩ := hc1 k _ (get_ivs hx)
    obtain ⟨i2, o2, rfl, hi2, hload2⟩ := hc2 k _ (get_ivs hy)
    have e1 := idx_slice (cap := cap1) (i := i) (o := o) Try.underlying23 sz3 hlt
    have e2 : loadV Try.prog s 3 (.ptr (some (i, o + k * 1))) = some (iv x) := load_one ag3 (by rw [Nat.mul_one]; exact hload)
    have f1 := idx_slice (cap := cap2) (i := i2) (o := o2) Try.underlying23 sz3 hltB
    have f2 : loadV Try.prog s 3 (.ptr (some (i2, o2 + k * 1))) = some (iv B[k]) := load_one ag3 (by rw [Nat.mul_one]; exact hload2)
    have hkk : decide ((k : Int) < (A.length : Int)) = true := decide_eq_true (by omega)
    have e3 := bin_add Try.prog 3 (k : Int) 1 ⟨by omega, by omega⟩
    have hcast : ((k : Int) + 1) = ((k + 1 : Nat) : Int) := by omega
    refine WC.loop' ?_
    by_cases h : x = B[k]
    · have hne : decide (x ≠ B[k]) = false := decide_eq_false (fun q => q h)
      simp only [c26l12, c26o8, c26o9, g1, g2, g3, g4, len_slice Try.underlying23, hkk, e1, e2, f1, f2, hne, c26o11, e3, hcast, wpC, wpI, wpS, wpD, wpV, wanted_none, wanted_some, vals, cev_const, cev_var, cev_loc, padV, okV_some, againP, true_and, and_true, upd_zero, upd_succ, nth_zero, nth_succ, wpG_true, wpG_false, condK_true, condK_false, seqK_normal, seqK_ret, seqK_exit, inBlock_normal, inBlock_ret, inBlock_exit, ends_ret, ends_normal, unmark_nil, results_nil, results_cons, one_one, one_zero, one_two, isB_undef, isB_tt, isB_ff, Bool.not_true, Bool.not_false, Option.bind_some, pick3, pickA, extractA, List.getElem?_cons_zero, List.getElem?_cons_succ, bin_lss, bin_gtr, bin_leq, bin_geq, bin_eql, bin_neq, un_not]
      refine ih (k + 1) _ _ _ hd' hlt ?_ hq
      rw [List.take_succ_eq_append_getElem hlt, List.take_succ_eq_append_getElem hltB, hp]
      congr 2
      rw [← h]
      rw [List.getElem?_eq_getElem hlt] at hx
      injection hx
    · have hne : decide (x ≠ B[k]) = true := decide_eq_true h
      simp only [c26l12, c26o8, c26o9, g1, g2, g3, g4, len_slice Try.underlying23, hkk, e1, e2, f1, f2, hne, c26o10, wpC, wpI, wpS, wpD, wpV, wanted_none, wanted_some, vals, cev_const, cev_var, cev_loc, padV, okV_some, againP, true_and, and_true, upd_zero, upd_succ, nth_zero, nth_succ, wpG_true, wpG_false, condK_true, condK_false, seqK_normal, seqK_ret, seqK_exit, inBlock_normal, inBlock_ret, inBlock_exit, ends_ret, ends_normal, unmark_nil, results_nil, results_cons, one_one, one_zero, one_two, isB_undef, isB_tt, isB_ff, Bool.not_true, Bool.not_false, Option.bind_some, pick3, pickA, extractA, List.getElem?_cons_zero, List.getElem?_cons_succ, bin_lss, bin_gtr, bin_leq, bin_geq, bin_eql, bin_neq, un_not]
      refine hq _ _ _ _ _ (.inl ⟨rfl, fun q => ?_, rfl⟩)
      subst q
      rw [List.getElem?_eq_getElem hlt] at hx
      injection hx with hx
      exact h hx.symm

set_option maxRecDepth 8000 in
theorem rows_loop {E : Env} (hE : Good E) {s : ASt} {b : Nat} {A B : List (List Int)} (hl : A.length = B.length) (hA : A.length ≤ 1000000) (hAl : ∀ L ∈ A, L.length ≤ 1000000) {a1 a2 : Option (Nat × Nat)} {cap1 cap2 : Option Nat} (hc1 : RowsAt b s a1 A) (hc2 : RowsAt b s a2 B) (v5 : AV) {Q : ARes → Prop} :
    ∀ (l : List (List Int)) (k : Nat) (x2 x4 x6 x7 x8 x9 : AV), A.drop k = l → k ≤ A.length → A.take k = B.take k →
      (∀ (e : AExit) (y2 y3 y4 y6 y7 y8 y9 : AV), (e = .ret ∧ A ≠ B ∧ y2 = .bool false ∨ e = .exit 0 ∧ A = B) → Q ⟨e, [.slice a1 A.length cap1, .slice a2 B.length cap2, y2, y3, y4, v5, y6, y7, y8, y9], [], s⟩) →
      WC E none (.loop c26l14) Q [.slice a1 A.length cap1, .slice a2 B.length cap2, x2, iv (k : Int), x4, v5, x6, x7, x8, x9] [] s := by
  intro l
  induction l with
  | nil =>
    intro k x2 x4 x6 x7 x8 x9 hd hk hp hq
    have := drop_end hd hk
    subst this
    refine WC.loop' ?_
    simp only [c26l14, c26o4, len_slice Try.underlying22, Int.lt_irrefl, decide_false, wpC, wpI, wpS, wpD, wpV, wanted_none, wanted_some, vals, cev_const, cev_var, cev_loc, padV, okV_some, againP, true_and, and_true, upd_zero, upd_succ, nth_zero, nth_succ, wpG_true, wpG_false, condK_true, condK_false, seqK_normal, seqK_ret, seqK_exit, inBlock_normal, inBlock_ret, inBlock_exit, ends_ret, ends_normal, unmark_nil, results_nil, results_cons, one_one, one_zero, one_two, isB_undef, isB_tt, isB_ff, Bool.not_true, Bool.not_false, Option.bind_some, pick3, pickA, extractA, List.getElem?_cons_zero, List.getElem?_cons_succ, bin_lss, bin_gtr, bin_leq, bin_geq, bin_eql, bin_neq, un_not]
    refine hq _ _ _ _ _ _ _ _ (.inr ⟨rfl, ?_⟩)
    rw [List.take_length] at hp
    rw [hp, hl, List.take_length]
  | cons L l ih =>
    intro k x2 x4 x6 x7 x8 x9 hd hk hp hq
    obtain ⟨hlt, hx, hd'⟩ := drop_facts hd
    have hltB : k < B.length := by omega
    have hy : B[k]? = some B[k] := List.getElem?_eq_getElem hltB
    obtain ⟨i, o, u, rfl, hi, hload, c1, cp1, rfl, hu⟩ := hc1 k _ hx
    obtain ⟨i2, o2, u2, rfl, hi2, hload2, c2, cp2, rfl, hu2⟩ := hc2 k _ hy
    rw [List.length_map] at hload hload2
    have e1 := idx_slice (cap := cap1) (i := i) (o := o) Try.underlying22 sz23 hlt
    have e2 := load_one (P := Try.prog) (t := 23) (s := s) (i := i) (o := o + k * 1) ag23 (by rw [Nat.mul_one]; exact hload)
    have f1 := idx_slice (cap := cap2) (i := i2) (o := o2) Try.underlying22 sz23 hltB
    have f2 := load_one (P := Try.prog) (t := 23) (s := s) (i := i2) (o := o2 + k * 1) ag23 (by rw [Nat.mul_one]; exact hload2)
    have hkk : decide ((k : Int) < (A.length : Int)) = true := decide_eq_true (by omega)
    have e3 := bin_add Try.prog 3 (k : Int) 1 ⟨by omega, by omega⟩
    have hcast : ((k : Int) + 1) = ((k + 1 : Nat) : Int) := by omega
    have neq : L ≠ B[k] → A ≠ B := by
      intro h q
      subst q
      rw [List.getElem?_eq_getElem hlt] at hx
      injection hx with hx
      exact h hx.symm
    refine WC.loop' ?_
    by_cases hll : L.length = B[k].length
    · have hne : decide ((L.length : Int) ≠ (B[k].length : Int)) = false := decide_eq_false (fun q => q (by omega))
      simp only [c26l14, c26o4, c26o5, e1, e2, f1, f2, len_slice Try.underlying22, len_slice Try.underlying23, hkk, hne, c26o7, wpC, wpI, wpS, wpD, wpV, wanted_none, wanted_some, vals, cev_const, cev_var, cev_loc, padV, okV_some, againP, true_and, and_true, upd_zero, upd_succ, nth_zero, nth_succ, wpG_true, wpG_false, condK_true, condK_false, seqK_normal, seqK_ret, seqK_exit, inBlock_normal, inBlock_ret, inBlock_exit, ends_ret, ends_normal, unmark_nil, results_nil, results_cons, one_one, one_zero, one_two, isB_undef, isB_tt, isB_ff, Bool.not_true, Bool.not_false, Option.bind_some, pick3, pickA, extractA, List.getElem?_cons_zero, List.getElem?_cons_succ, bin_lss, bin_gtr, bin_leq, bin_geq, bin_eql, bin_neq, un_not]
      refine rows_in hE hll (hAl L (List.mem_of_getElem? hx)) hu hu2 e1 e2 f1 f2 _ _ _ L 0 _ _ _ rfl (Nat.zero_le _) rfl ?_
      rintro e y2 y4 y8 y9 (⟨rfl, h, rfl⟩ | ⟨rfl, h⟩)
      · simp only [wpC, wpI, wpS, wpD, wpV, wanted_none, wanted_some, vals, cev_const, cev_var, cev_loc, padV, okV_some, againP, true_and, and_true, upd_zero, upd_succ, nth_zero, nth_succ, wpG_true, wpG_false, condK_true, condK_false, seqK_normal, seqK_ret, seqK_exit, inBlock_normal, inBlock_ret, inBlock_exit, ends_ret, ends_normal, unmark_nil, results_nil, results_cons, one_one, one_zero, one_two, isB_undef, isB_tt, isB_ff, Bool.not_true, Bool.not_false, Option.bind_some, pick3, pickA, extractA, List.getElem?_cons_zero, List.getElem?_cons_succ, bin_lss, bin_gtr, bin_leq, bin_geq, bin_eql, bin_neq, un_not]
        exact hq _ _ _ _ _ _ _ _ (.inl ⟨rfl, neq h, rfl⟩)
      · simp only [if_true, c26o13, e3, hcast, wpC, wpI, wpS, wpD, wpV, wanted_none, wanted_some, vals, cev_const, cev_var, cev_loc, padV, okV_some, againP, true_and, and_true, upd_zero, upd_succ, nth_zero, nth_succ, wpG_true, wpG_false, condK_true, condK_false, seqK_normal, seqK_ret, seqK_exit, inBlock_normal, inBlock_ret, inBlock_exit, ends_ret, ends_normal, unmark_nil, results_nil, results_cons, one_one, one_zero, one_two, isB_undef, isB_tt, isB_ff, Bool.not_true, Bool.not_false, Option.bind_some, pick3, pickA, extractA, List.getElem?_cons_zero, List.getElem?_cons_succ, bin_lss, bin_gtr, bin_leq, bin_geq, bin_eql, bin_neq, un_not]
        refine ih (k + 1) _ _ _ _ _ _ hd' hlt ?_ hq
        rw [List.take_succ_eq_append_getElem hlt, List.take_succ_eq_append_getElem hltB, hp]
        congr 2
        rw [← h]
        rw [List.getElem?_eq_getElem hlt] at hx
        injection hx
    · have hne : decide ((L.length : Int) ≠ (B[k].length : Int)) = true := decide_eq_true (by omega)
      simp only [c26l14, c26o4, c26o5, e1, e2, f1, f2, len_slice Try.underlying22, len_slice Try.underlying23, hkk, hne, c26o6, wpC, wpI, wpS, wpD, wpV, wanted_none, wanted_some, vals, cev_const, cev_var, cev_loc, padV, okV_some, againP, true_and, and_true, upd_zero, upd_succ, nth_zero, nth_succ, wpG_true, wpG_false, condK_true, condK_false, seqK_normal, seqK_ret, seqK_exit, inBlock_normal, inBlock_ret, inBlock_exit, ends_ret, ends_normal, unmark_nil, results_nil, results_cons, one_one, one_zero, one_two, isB_undef, isB_tt, isB_ff, Bool.not_true, Bool.not_false, Option.bind_some, pick3, pickA, extractA, List.getElem?_cons_zero, List.getElem?_cons_succ, bin_lss, bin_gtr, bin_leq, bin_geq, bin_eql, bin_neq, un_not]
      exact hq _ _ _ _ _ _ _ _ (.inl ⟨rfl, neq (fun q => hll (by rw [q])), rfl⟩)

theorem rows_ok {E : Env} (hE : Good E) {s : ASt} {b : Nat} {A B : List (List Int)} (hA : A.length ≤ 1000000) (hAl : ∀ L ∈ A, L.length ≤ 1000000) (hB : B.length ≤ 1000000) {v u : AV} (hv : RowsOf b s v A) (hu : RowsOf b s u B) :
    WF E 26 [v, u] (fun r s' => r = .bool (decide (A = B)) ∧ s = s') s := by
  obtain ⟨a1, cap1, rfl, h1⟩ := hv
  obtain ⟨a2, cap2, rfl, h2⟩ := hu
  refine hE.go comp26 (by decide) rfl ?_
  by_cases hl : A.length = B.length
  · have hne : decide ((A.length : Int) ≠ (B.length : Int)) = false := decide_eq_false (fun q => q (by omega))
    simp only [c26, c26o0, c26o1, len_slice Try.underlying22, hne, c26o3, wpC, wpI, wpS, wpD, wpV, wanted_none, wanted_some, vals, cev_const, cev_var, cev_loc, padV, okV_some, againP, true_and, and_true, upd_zero, upd_succ, nth_zero, nth_succ, wpG_true, wpG_false, condK_true, condK_false, seqK_normal, seqK_ret, seqK_exit, inBlock_normal, inBlock_ret, inBlock_exit, ends_ret, ends_normal, unmark_nil, results_nil, results_cons, one_one, one_zero, one_two, isB_undef, isB_tt, isB_ff, Bool.not_true, Bool.not_false, Option.bind_some, pick3, pickA, extractA, List.getElem?_cons_zero, List.getElem?_cons_succ, bin_lss, bin_gtr, bin_leq, bin_geq, bin_eql, bin_neq, un_not]
    refine rows_loop hE hl hA hAl h1 h2 _ A 0 _ _ _ _ _ _ rfl (Nat.zero_le _) rfl ?_
    rintro e y2 y3 y4 y6 y7 y8 y9 (⟨rfl, h, rfl⟩ | ⟨rfl, h⟩)
    · simp only [wpC, wpI, wpS, wpD, wpV, wanted_none, wanted_some, vals, cev_const, cev_var, cev_loc, padV, okV_some, againP, true_and, and_true, upd_zero, upd_succ, nth_zero, nth_succ, wpG_true, wpG_false, condK_true, condK_false, seqK_normal, seqK_ret, seqK_exit, inBlock_normal, inBlock_ret, inBlock_exit, ends_ret, ends_normal, unmark_nil, results_nil, results_cons, one_one, one_zero, one_two, isB_undef, isB_tt, isB_ff, Bool.not_true, Bool.not_false, Option.bind_some, pick3, pickA, extractA, List.getElem?_cons_zero, List.getElem?_cons_succ, bin_lss, bin_gtr, bin_leq, bin_geq, bin_eql, bin_neq, un_not]
      simp [h]
    · simp only [if_true, c26o15, wpC, wpI, wpS, wpD, wpV, wanted_none, wanted_some, vals, cev_const, cev_var, cev_loc, padV, okV_some, againP, true_and, and_true, upd_zero, upd_succ, nth_zero, nth_succ, wpG_true, wpG_false, condK_true, condK_false, seqK_normal, seqK_ret, seqK_exit, inBlock_normal, inBlock_ret, inBlock_exit, ends_ret, ends_normal, unmark_nil, results_nil, results_cons, one_one, one_zero, one_two, isB_undef, isB_tt, isB_ff, Bool.not_true, Bool.not_false, Option.bind_some, pick3, pickA, extractA, List.getElem?_cons_zero, List.getElem?_cons_succ, bin_lss, bin_gtr, bin_leq, bin_geq, bin_eql, bin_neq, un_not]
      simp [h]
  · have hne : decide ((A.length : Int) ≠ (B.length : Int)) = true := decide_eq_true (by omega)
    simp only [c26, c26o0, c26o1, len_slice Try.underlying22, hne, c26o2, wpC, wpI, wpS, wpD, wpV, wanted_none, wanted_some, vals, cev_const, cev_var, cev_loc, padV, okV_some, againP, true_and, and_true, upd_zero, upd_succ, nth_zero, nth_succ, wpG_true, wpG_false, condK_true, condK_false, seqK_normal, seqK_ret, seqK_exit, inBlock_normal, inBlock_ret, inBlock_exit, ends_ret, ends_normal, unmark_nil, results_nil, results_cons, one_one, one_zero, one_two, isB_undef, isB_tt, isB_ff, Bool.not_true, Bool.not_false, Option.bind_some, pick3, pickA, extractA, List.getElem?_cons_zero, List.getElem?_cons_succ, bin_lss, bin_gtr, bin_leq, bin_geq, bin_eql, bin_neq, un_not]
    rw [decide_eq_false (fun q => hl (by rw [q]))]
end Go.Proofs.Ytilhhmkdcoajnaa.Am

/- What the reference's function Clauses of layer 20 computes; conditions: none but the reading of its argument. -/
set_option linter.unusedVariables false
set_option linter.unusedSimpArgs false
namespace Go.Proofs.Ytilhhmkdcoajnaa.Am
open Go Go.Proofs

theorem bin_rem {P : Program} {t : TypeId} {k : IntKind} {a b : Int} (ha : 0 ≤ a) (hb : 0 < b) : binA P .rem t (.int k a) (.int k b) = some (.int k (a % b)) := by
  have hne : b ≠ 0 := by omega
  have e1 : a.tmod b = a % b := Int.tmod_eq_emod_of_nonneg ha
  have hk : sameKind k k = true := by cases k <;> rfl
  show guardB (sameKind k k) ((runP P (Op.intDiv .rem k a b)).bind ofValue) = _
  rw [hk]
  unfold Op.intDiv
  rw [if_neg hne, e1]
  rfl

abbrev i8v (n : Int) : AV := .int .i8 n
def i8 (n : Int) : Prop := -128 ≤ n ∧ n ≤ 127
theorem conv_i8 {s : ASt} {n : Int} (h : i8 n) : convA Try.prog s 77 3 (i8v n) = some (iv n) := by
  obtain ⟨h1, h2⟩ := h
  simp [convA, Try.underlying77, Try.underlying3, wrap_i64 (n := n) ⟨by omega, by omega⟩]
theorem max_i64 (a b : Int) : minMax true (iv a) [iv b] = some (iv (max a b)) := by
  show guardB true (some (AV.int .i64 (bif ltI a b then b else a))) = _
  rw [ltI_eq]
  by_cases h : a < b
  · rw [decide_eq_true h]; simp only [cond_true, guardB]; rw [Int.max_eq_right (by omega)]
  · rw [decide_eq_false h]; simp only [cond_false, guardB, cond_true]; rw [Int.max_eq_left (by omega)]

/-- The literal of a drawn number. -/
def litV (x : Int) : Int := if x < 0 then -(1 + max x (-x) % 6) else 1 + max x (-x) % 6
def rowV (l : List Int) : List Int := (l.take 5).map litV
def clausesV (l : List (List Int)) : List (List Int) := (l.take 20).map rowV
theorem litV_small {x : Int} : -6 ≤ litV x ∧ litV x ≤ 6 ∧ litV x ≠ 0 := by
  have h1 := Int.emod_nonneg (max x (-x)) (show (6 : Int) ≠ 0 by decide)
  have h2 := Int.emod_lt_of_pos (max x (-x)) (show (0 : Int) < 6 by decide)
  unfold litV
  split <;> omega
theorem rowV_fits (l : List Int) : I64s (rowV l) ∧ (rowV l).length ≤ 5 := by
  refine ⟨fun x hx => ?_, by simp [rowV]; omega⟩
  obtain ⟨y, _, rfl⟩ := List.mem_map.1 hx
  have := litV_small (x := y)
  exact ⟨by omega, by omega⟩
theorem clausesV_fits (l : List (List Int)) : FitsR (clausesV l) ∧ (clausesV l).length ≤ 20 := by
  have : (clausesV l).length ≤ 20 := by simp [clausesV]; omega
  refine ⟨⟨by omega, fun L hL => ?_⟩, this⟩
  obtain ⟨y, _, rfl⟩ := List.mem_map.1 hL
  have := rowV_fits y
  exact ⟨this.1, by omega⟩

/-- Rows of small numbers. -/
abbrev i8vs (l : List Int) : List AV := l.map i8v
def I8s (l : List Int) : Prop := ∀ x ∈ l, i8 x
def Rows8At (b : Nat) (s : ASt) (a : Option (Nat × Nat)) (ls : List (List Int)) : Prop := ∀ k L, ls[k]? = some L → ∃ i o u, a = some (i, o) ∧ i < b ∧ load1 s i (o + k) = some u ∧ SliceAt b s u (i8vs L)
def Rows8Of (b : Nat) (s : ASt) (v : AV) (ls : List (List Int)) : Prop := ∃ a cap, v = .slice a ls.length cap ∧ Rows8At b s a ls
theorem get_i8vs {l : List Int} {k : Nat} {x : Int} (h : l[k]? = some x) : (i8vs l)[k]? = some (i8v x) := by rw [List.getElem?_map, h]; rfl

/-- Cells that are slices, apart from some objects. -/
def AwayOf (O : List Nat) (us : List AV) : Prop := ∀ u ∈ us, ∀ j, slot u = some j → j ∉ O
theorem SliceAt.keep {b : Nat} {s s' : ASt} {u : AV} {cs : List AV} (h : SliceAt b s u cs) (k : ∀ j, slot u = some j → s'.heap.get j = s.heap.get j) : SliceAt b s' u cs := by
  obtain ⟨a, cap, rfl, hc⟩ := h
  refine ⟨a, cap, rfl, fun x y hy => ?_⟩
  obtain ⟨i, o, rfl, h2, h3⟩ := hc x y hy
  exact ⟨i, o, rfl, h2, by rw [load1_eq (k i rfl)]; exact h3⟩
theorem RowCells.keep {b : Nat} {s s' : ASt} {us : List AV} {cs : List (List Int)} (h : RowCells b s us cs) (k : ∀ u ∈ us, ∀ j, slot u = some j → s'.heap.get j = s.heap.get j) : RowCells b s' us cs :=
  ⟨h.1, fun j L hj => let ⟨u, h1, h2⟩ := h.2 j L hj; ⟨u, h1, h2.keep (k u (List.mem_of_getElem? h1))⟩⟩

/-- A cell is appended. -/
theorem push_cell {st e : TypeId} {by_ : Nat} (ht : Try.prog.underlying st = some (.slice e)) (hs : sizeT Try.prog e = some 1) (hb : bytesT Try.prog e = some by_) (hby : by_ ≤ 100) (hx : isSliceOrStr Try.prog st = true) (hz : zeroOk Try.prog e 1 = true) {s : ASt} {v : AV} {n : Nat} {us : List AV} {O : List Nat} (hd : Dest s v n 1 us O) (hl : n ≤ 1000000000) {x : AV} (hc : x.isCell = true) :
    ∃ v' s' O', appendA Try.prog (newObj s (mkRow e 1 [x])) [st, st] [v, .slice (some (s.next, 0)) 1 (some 1)] = some (v', s') ∧ Dest s' v' (n + 1) 1 (us ++ [x]) O' ∧ s.next ≤ s'.next ∧
      (∀ j, j < s.next → j ∉ O → s'.heap.get j = s.heap.get j) ∧ (∀ j ∈ O', j ∈ O ∨ s.next < j) := by
  have c1 := src_one (P := Try.prog) (e := e) (s := newObj s (mkRow e 1 [x])) (n := 1) (cap := some 1) (sz := 1) e 1 (by rw [heap_new, if_pos rfl]) rfl
  have hmul : (n + 1) * by_ ≤ (n + 1) * 100 := Nat.mul_le_mul_left _ hby
  obtain ⟨v', s', O', h1, h2, h3, h4, h5, h6, h7⟩ := (hd.new (mkRow e 1 [x])).append (P := Try.prog) (st := st) (xt := st) ht hs hb (by decide) hx hz c1 rfl (by simp [allCells, hc]) (by omega) (by omega)
  have hn : (newObj s (mkRow e 1 [x])).next = s.next + 1 := rfl
  refine ⟨v', s', O', h1, h2, by omega, ?_, ?_⟩
  · intro j hj ho
    rw [h5 j (by omega) ho, heap_new, if_neg (by omega)]
  · intro j hj
    exact (h6 j hj).imp id (fun h => by omega)

theorem push_int' {s : ASt} {v : AV} {L : List Int} {O : List Nat} (hd : Dest s v L.length 1 (ivs L) O) (hl : L.length ≤ 1000000000) (x : Int) :
    ∃ v' s' O', appendA Try.prog (newObj s (mkRow 3 1 [iv x])) [23, 23] [v, .slice (some (s.next, 0)) 1 (some 1)] = some (v', s') ∧ Dest s' v' (L ++ [x]).length 1 (ivs (L ++ [x])) O' ∧ s.next ≤ s'.next ∧
      (∀ j, j < s.next → j ∉ O → s'.heap.get j = s.heap.get j) ∧ (∀ j ∈ O', j ∈ O ∨ s.next ≤ j) ∧ (∀ j, slot v' = some j → slot v = some j ∨ s.next ≤ j) := by
  have c1 := src_one (P := Try.prog) (e := 3) (s := newObj s (mkRow 3 1 [iv x])) (n := 1) (cap := some 1) (sz := 1) 3 1 (by rw [heap_new, if_pos rfl]) rfl
  obtain ⟨v', s', O', h1, h2, h3, h4, h5, h6, h7⟩ := (hd.new (mkRow 3 1 [iv x])).append (P := Try.prog) (st := 23) (xt := 23) Try.underlying23 sz3 by3 (by decide) (strx 23 3 Try.underlying23) zero3 c1 rfl rfl (by omega) (by omega)
  have hn : (newObj s (mkRow 3 1 [iv x])).next = s.next + 1 := rfl
  refine ⟨v', s', O', h1, ?_, by omega, ?_, ?_, ?_⟩
  · simpa using h2
  · intro j hj ho
    rw [h5 j (by omega) ho, heap_new, if_neg (by omega)]
  · intro j hj
    exact (h6 j hj).imp id (fun h => by omega)
  · intro j hj
    exact (h7 j hj).imp id (fun h => by omega)

set_option maxRecDepth 8000 in
theorem lits_loop {E : Env} (hE : Good E) {n1 : Nat} {s1 : ASt} (hn1 : n1 ≤ s1.next) {L : List Int} (hL : I8s L) (hLl : L.length < 9223372036854775808) {a : Option (Nat × Nat)} {cap : Option Nat} (hc : CellsAt n1 s1 a (i8vs L)) {v0 p : AV} {i4 : Nat}
    (g1 : indexAddrA Try.prog 30 v0 (iv (i4 : Int)) = some p) (g2 : ∀ s, Old n1 s1 s → loadV Try.prog s 76 p = some (.slice a L.length cap)) (v2 v3 v9 : AV) {Q : ARes → Prop} :
    ∀ (m k : Nat) (out : List Int) (O : List Nat) (v5 : AV) (s : ASt) (x7 x8 x10 x11 : AV), m = 5 - k → k ≤ L.length → k ≤ 5 → out = (L.take k).map litV → Dest s v5 out.length 1 (ivs out) O → ((∀ j ∈ O, n1 ≤ j) ∧ ∀ j, slot v5 = some j → n1 ≤ j) → Old n1 s1 s →
      (∀ s' v' O' y6 y7 y8 y10 y11, Dest s' v' (rowV L).length 1 (ivs (rowV L)) O' → ((∀ j ∈ O', n1 ≤ j) ∧ ∀ j, slot v' = some j → n1 ≤ j) → Old n1 s1 s' → Q ⟨.exit 2, [v0, iv 6, v2, v3, iv (i4 : Int), v', y6, y7, y8, v9, y10, y11], [], s'⟩) →
      WC E none (.loop c22l13) Q [v0, iv 6, v2, v3, iv (i4 : Int), v5, iv (k : Int), x7, x8, v9, x10, x11] [] s := by
  intro m
  induction m with
  | zero =>
    intro k out O v5 s x7 x8 x10 x11 hm hk hk5 ho hd hO hold hq
    have hke : k = 5 := by omega
    subst hke
    have : out = rowV L := ho
    subst this
    refine WC.loop' ?_
    by_cases hlt : (5 : Int) < (L.length : Int)
    · simp only [c22l13, c22o6, g1, g2 s hold, len_slice Try.underlying76, hlt, decide_true, show ((5 : Nat) : Int) = 5 from rfl, beq_self_eq_true, Int.lt_irrefl, decide_false, wpC, wpI, wpS, wpD, wpV, wanted_none, wanted_some, vals, cev_const, cev_var, cev_loc, padV, okV_some, againP, true_and, and_true, upd_zero, upd_succ, nth_zero, nth_succ, wpG_true, wpG_false, condK_true, condK_false, seqK_normal, seqK_ret, seqK_exit, inBlock_normal, inBlock_ret, inBlock_exit, ends_ret, ends_normal, unmark_nil, results_nil, results_cons, one_one, one_zero, one_two, isB_undef, isB_tt, isB_ff, Bool.not_true, Bool.not_false, Option.bind_some, pick3, pickA, extractA, List.getElem?_cons_zero, List.getElem?_cons_succ, bin_lss, bin_gtr, bin_leq, bin_geq, bin_eql, bin_neq, un_not]
      exact hq s v5 O _ _ _ _ _ hd hO hold
    · simp only [c22l13, c22o6, g1, g2 s hold, len_slice Try.underlying76, hlt, show ((5 : Nat) : Int) = 5 from rfl, decide_false, Bool.false_eq_true, Bool.false_beq, Bool.not_true, wpC, wpI, wpS, wpD, wpV, wanted_none, wanted_some, vals, cev_const, cev_var, cev_loc, padV, okV_some, againP, true_and, and_true, upd_zero, upd_succ, nth_zero, nth_succ, wpG_true, wpG_false, condK_true, condK_false, seqK_normal, seqK_ret, seqK_exit, inBlock_normal, inBlock_ret, inBlock_exit, ends_ret, ends_normal, unmark_nil, results_nil, results_cons, one_one, one_zero, one_two, isB_undef, isB_tt, isB_ff, Bool.not_true, Bool.not_false, Option.bind_some, pick3, pickA, extractA, List.getElem?_cons_zero, List.getElem?_cons_succ, bin_lss, bin_gtr, bin_leq, bin_geq, bin_eql, bin_neq, un_not]
      exact hq s v5 O _ _ _ _ _ hd hO hold
  | succ m ih =>
    intro k out O v5 s x7 x8 x10 x11 hm hk hk5 ho hd hO hold hq
    have hk4 : k < 5 := by omega
    refine WC.loop' ?_
    by_cases hlt : k < L.length
    · have hx : L[k]? = some L[k] := List.getElem?_eq_getElem hlt
      have hxi := hL L[k] (List.getElem_mem _)
      obtain ⟨i, o, rfl, hi, hload⟩ := hc k _ (get_i8vs hx)
      have e1 := idx_slice (cap := cap) (i := i) (o := o) Try.underlying76 sz77 hlt
      have ld : ∀ {s' : ASt}, Old n1 s1 s' → loadV Try.prog s' 77 (.ptr (some (i, o + k * 1))) = some (i8v L[k]) := fun h => load_one ag77 (by rw [Nat.mul_one, load1_eq (h.2 i hi)]; exact hload)
      have hkk : decide ((k : Int) < (L.length : Int)) = true := decide_eq_true (by omega)
      have hkk5 : decide ((k : Int) < 5) = true := decide_eq_true (by omega)
      have e3 := bin_add Try.prog 3 (k : Int) 1 ⟨by omega, by omega⟩
      have hcast : ((k : Int) + 1) = ((k + 1 : Nat) : Int) := by omega
      obtain ⟨hx1, hx2⟩ := hxi
      have hneg := un_neg Try.prog L[k] ⟨by omega, by omega⟩
      have hmx : (0 : Int) ≤ max L[k] (-L[k]) := by omega
      have hrem := bin_rem (P := Try.prog) (t := 3) (k := .i64) hmx (show (0 : Int) < 6 by decide)
      have h6 := Int.emod_lt_of_pos (max L[k] (-L[k])) (show (0 : Int) < 6 by decide)
      have h6' := Int.emod_nonneg (max L[k] (-L[k])) (show (6 : Int) ≠ 0 by decide)
      have hadd := bin_add Try.prog 3 1 (max L[k] (-L[k]) % 6) ⟨by omega, by omega⟩
      have hneg2 := un_neg Try.prog (1 + max L[k] (-L[k]) % 6) ⟨by omega, by omega⟩
      have hout' : out ++ [litV L[k]] = (L.take (k + 1)).map litV := by rw [ho, List.take_succ_eq_append_getElem hlt, List.map_append]; rfl
      have holen : out.length ≤ 5 := by rw [ho]; simp; omega
      have b1 : ∀ y : Int, sliceRowA Try.prog 23 1 (zipIdx [0] [iv y]) = some (mkRow 3 1 [iv y]) := fun y => bld_one Try.underlying23 sz3 zr3 rfl rfl
      have hmv : ∀ (m : Nat) (i : Nat), Made.val i (.slice m) = .slice (some (i, 0)) m (some m) := fun _ _ => rfl
      obtain ⟨v', s', O', p1, p2, p3, p4, p5, p6⟩ := push_int' hd (by omega) (litV L[k])
      have hold' : Old n1 s1 s' := hold.trans ⟨p3, fun j hj => p4 j (by have := hold.1; omega) (fun hm => by have := hO.1 j hm; omega)⟩
      have go : ∀ (w7 w8 w10 w11 : AV), WC E none (.loop c22l13) Q [v0, iv 6, v2, v3, iv (i4 : Int), v', iv ((k + 1 : Nat) : Int), w7, w8, v9, w10, w11] [] s' := fun w7 w8 w10 w11 =>
        ih (k + 1) (out ++ [litV L[k]]) O' v' s' _ _ _ _ (by omega) hlt (by omega) hout' p2 ⟨fun j hj => (p5 j hj).elim (hO.1 j) (fun h => by have := hold.1; omega), fun j hj => (p6 j hj).elim (hO.2 j) (fun h => by have := hold.1; omega)⟩ hold' hq
      by_cases hneg0 : L[k] < 0
      · have hlit : litV L[k] = -(1 + max L[k] (-L[k]) % 6) := by unfold litV; rw [if_pos hneg0]
        rw [hlit] at p1
        simp only [c22l13, c22o6, c22o7, c22o8, c22o9, c22o10, c22o11, c22o12, g1, g2 s hold, len_slice Try.underlying76, hkk, hkk5, beq_self_eq_true, e1, ld hold, conv_i8 ⟨hx1, hx2⟩, hneg, max_i64, hrem, hadd, hneg0, decide_true, hneg2, b1, hmv, p1, e3, hcast, wpC, wpI, wpS, wpD, wpV, wanted_none, wanted_some, vals, cev_const, cev_var, cev_loc, padV, okV_some, againP, true_and, and_true, upd_zero, upd_succ, nth_zero, nth_succ, wpG_true, wpG_false, condK_true, condK_false, seqK_normal, seqK_ret, seqK_exit, inBlock_normal, inBlock_ret, inBlock_exit, ends_ret, ends_normal, unmark_nil, results_nil, results_cons, one_one, one_zero, one_two, isB_undef, isB_tt, isB_ff, Bool.not_true, Bool.not_false, Option.bind_some, pick3, pickA, extractA, List.getElem?_cons_zero, List.getElem?_cons_succ, bin_lss, bin_gtr, bin_leq, bin_geq, bin_eql, bin_neq, un_not]
        exact go _ _ _ _
      · have hlit : litV L[k] = 1 + max L[k] (-L[k]) % 6 := by unfold litV; rw [if_neg hneg0]
        rw [hlit] at p1
        simp only [c22l13, c22o6, c22o7, c22o8, c22o9, c22o11, c22o12, g1, g2 s hold, len_slice Try.underlying76, hkk, hkk5, beq_self_eq_true, e1, ld hold, conv_i8 ⟨hx1, hx2⟩, hneg, max_i64, hrem, hadd, hneg0, decide_false, b1, hmv, p1, e3, hcast, wpC, wpI, wpS, wpD, wpV, wanted_none, wanted_some, vals, cev_const, cev_var, cev_loc, padV, okV_some, againP, true_and, and_true, upd_zero, upd_succ, nth_zero, nth_succ, wpG_true, wpG_false, condK_true, condK_false, seqK_normal, seqK_ret, seqK_exit, inBlock_normal, inBlock_ret, inBlock_exit, ends_ret, ends_normal, unmark_nil, results_nil, results_cons, one_one, one_zero, one_two, isB_undef, isB_tt, isB_ff, Bool.not_true, Bool.not_false, Option.bind_some, pick3, pickA, extractA, List.getElem?_cons_zero, List.getElem?_cons_succ, bin_lss, bin_gtr, bin_leq, bin_geq, bin_eql, bin_neq, un_not]
        exact go _ _ _ _
    · have hkl : k = L.length := by omega
      have hrow : out = rowV L := by rw [ho, hkl, List.take_length]; unfold rowV; rw [List.take_of_length_le (by omega)]
      subst hrow
      have hkk : decide ((k : Int) < (L.length : Int)) = false := decide_eq_false (by omega)
      simp only [c22l13, c22o6, g1, g2 s hold, len_slice Try.underlying76, hkk, Bool.false_beq, Bool.not_true, wpC, wpI, wpS, wpD, wpV, wanted_none, wanted_some, vals, cev_const, cev_var, cev_loc, padV, okV_some, againP, true_and, and_true, upd_zero, upd_succ, nth_zero, nth_succ, wpG_true, wpG_false, condK_true, condK_false, seqK_normal, seqK_ret, seqK_exit, inBlock_normal, inBlock_ret, inBlock_exit, ends_ret, ends_normal, unmark_nil, results_nil, results_cons, one_one, one_zero, one_two, isB_undef, isB_tt, isB_ff, Bool.not_true, Bool.not_false, Option.bind_some, pick3, pickA, extractA, List.getElem?_cons_zero, List.getElem?_cons_succ, bin_lss, bin_gtr, bin_leq, bin_geq, bin_eql, bin_neq, un_not]
      exact hq s v5 O _ _ _ _ _ hd hO hold
end Go.Proofs.Ytilhhmkdcoajnaa.Am

/- What the reference's function Clauses of layer 20 computes; conditions: none but the reading of its argument. -/
set_option linter.unusedVariables false
set_option linter.unusedSimpArgs false
namespace Go.Proofs.Ytilhhmkdcoajnaa.Am
open Go Go.Proofs

/-- Rows that are made: the outer slice, its cells, and what they hold; the inner slices lie apart from what an append changes, from lo on. -/
structure Made20 (lo : Nat) (s : ASt) (v : AV) (us : List AV) (cs : List (List Int)) (O : List Nat) : Prop where
  dest : Dest s v us.length 1 us O
  rows : RowCells s.next s us cs
  slots : ∀ u ∈ us, ∀ j, slot u = some j → lo ≤ j ∧ j < s.next ∧ j ∉ O
  own : ∀ j ∈ O, lo ≤ j

theorem Dest.isSlice {s : ASt} {v : AV} {n sz : Nat} {cs : List AV} {O : List Nat} (h : Dest s v n sz cs O) : v.isCell = true := by
  obtain ⟨a, cap, rfl, _⟩ := h.cells
  rfl
theorem slot_lt_of {b : Nat} {s : ASt} {u : AV} {cs : List AV} {O : List Nat} {n : Nat} (h : Dest s u n 1 cs O) : ∀ j, slot u = some j → j < s.next := h.slot_lt

set_option maxRecDepth 8000 in
theorem clauses_loop {E : Env} (hE : Good E) {s0 : ASt} {b : Nat} (hb : b ≤ s0.next) {ls : List (List Int)} (hls : ∀ L ∈ ls, I8s L ∧ L.length < 9223372036854775808) (hlen : ls.length < 9223372036854775808) {a : Option (Nat × Nat)} {cap : Option Nat} (hc : Rows8At b s0 a ls) (v2 : AV) {Q : ARes → Prop} :
    ∀ (m k : Nat) (us : List AV) (O : List Nat) (v3 : AV) (s : ASt) (x5 x6 x7 x8 x9 x10 x11 : AV), m = 20 - k → k ≤ ls.length → k ≤ 20 → Made20 s0.next s v3 us ((ls.take k).map rowV) O → Old s0.next s0 s →
      (∀ s' v' us' O' y4 y5 y6 y7 y8 y9 y10 y11, Made20 s0.next s' v' us' (clausesV ls) O' → Old s0.next s0 s' → Q ⟨.exit 0, [.slice a ls.length cap, iv 6, v2, v', y4, y5, y6, y7, y8, y9, y10, y11], [], s'⟩) →
      WC E none (.loop c22l16) Q [.slice a ls.length cap, iv 6, v2, v3, iv (k : Int), x5, x6, x7, x8, x9, x10, x11] [] s := by
  intro m
  induction m with
  | zero =>
    intro k us O v3 s x5 x6 x7 x8 x9 x10 x11 hm hk hk20 hmd hold hq
    have hke : k = 20 := by omega
    subst hke
    refine WC.loop' ?_
    by_cases hlt : (20 : Int) < (ls.length : Int)
    · simp only [c22l16, c22o3, len_slice Try.underlying30, hlt, decide_true, show ((20 : Nat) : Int) = 20 from rfl, beq_self_eq_true, Int.lt_irrefl, decide_false, wpC, wpI, wpS, wpD, wpV, wanted_none, wanted_some, vals, cev_const, cev_var, cev_loc, padV, okV_some, againP, true_and, and_true, upd_zero, upd_succ, nth_zero, nth_succ, wpG_true, wpG_false, condK_true, condK_false, seqK_normal, seqK_ret, seqK_exit, inBlock_normal, inBlock_ret, inBlock_exit, ends_ret, ends_normal, unmark_nil, results_nil, results_cons, one_one, one_zero, one_two, isB_undef, isB_tt, isB_ff, Bool.not_true, Bool.not_false, Option.bind_some, pick3, pickA, extractA, List.getElem?_cons_zero, List.getElem?_cons_succ, bin_lss, bin_gtr, bin_leq, bin_geq, bin_eql, bin_neq, un_not]
      exact hq s v3 us O _ _ _ _ _ _ _ _ hmd hold
    · simp only [c22l16, c22o3, len_slice Try.underlying30, hlt, show ((20 : Nat) : Int) = 20 from rfl, decide_false, Bool.false_beq, Bool.not_true, wpC, wpI, wpS, wpD, wpV, wanted_none, wanted_some, vals, cev_const, cev_var, cev_loc, padV, okV_some, againP, true_and, and_true, upd_zero, upd_succ, nth_zero, nth_succ, wpG_true, wpG_false, condK_true, condK_false, seqK_normal, seqK_ret, seqK_exit, inBlock_normal, inBlock_ret, inBlock_exit, ends_ret, ends_normal, unmark_nil, results_nil, results_cons, one_one, one_zero, one_two, isB_undef, isB_tt, isB_ff, Bool.not_true, Bool.not_false, Option.bind_some, pick3, pickA, extractA, List.getElem?_cons_zero, List.getElem?_cons_succ, bin_lss, bin_gtr, bin_leq, bin_geq, bin_eql, bin_neq, un_not]
      exact hq s v3 us O _ _ _ _ _ _ _ _ hmd hold
  | succ m ih =>
    intro k us O v3 s x5 x6 x7 x8 x9 x10 x11 hm hk hk20 hmd hold hq
    have hk4 : k < 20 := by omega
    refine WC.loop' ?_
    by_cases hlt : k < ls.length
    · have hx : ls[k]? = some ls[k] := List.getElem?_eq_getElem hlt
      obtain ⟨hL, hLl⟩ := hls ls[k] (List.getElem_mem _)
      obtain ⟨i, o, u, rfl, hi, hload, au, cu, rfl, hcu⟩ := hc k _ hx
      rw [List.length_map] at hload
      have e1 := idx_slice (cap := cap) (i := i) (o := o) Try.underlying30 sz76 hlt
      have hns : s0.next ≤ s.next := hold.1
      have ld : ∀ s', Old s.next s s' → loadV Try.prog s' 76 (.ptr (some (i, o + k * 1))) = some (.slice au ls[k].length cu) := fun s' h => load_one ag76 (by rw [Nat.mul_one, load1_eq ((hold.trans (h.mono hns)).2 i (by omega))]; exact hload)
      have hkk : decide ((k : Int) < (ls.length : Int)) = true := decide_eq_true (by omega)
      have hkk20 : decide ((k : Int) < 20) = true := decide_eq_true (by omega)
      have e3 := bin_add Try.prog 3 (k : Int) 1 ⟨by omega, by omega⟩
      have hcast : ((k : Int) + 1) = ((k + 1 : Nat) : Int) := by omega
      have hcu' : CellsAt s.next s au (i8vs ls[k]) := (hcu.old hold hb).mono (Nat.le_trans hb hns)
      simp only [c22l16, c22o3, c22o4, c22o5, len_slice Try.underlying30, hkk, hkk20, beq_self_eq_true, wpC, wpI, wpS, wpD, wpV, wanted_none, wanted_some, vals, cev_const, cev_var, cev_loc, padV, okV_some, againP, true_and, and_true, upd_zero, upd_succ, nth_zero, nth_succ, wpG_true, wpG_false, condK_true, condK_false, seqK_normal, seqK_ret, seqK_exit, inBlock_normal, inBlock_ret, inBlock_exit, ends_ret, ends_normal, unmark_nil, results_nil, results_cons, one_one, one_zero, one_two, isB_undef, isB_tt, isB_ff, Bool.not_true, Bool.not_false, Option.bind_some, pick3, pickA, extractA, List.getElem?_cons_zero, List.getElem?_cons_succ, bin_lss, bin_gtr, bin_leq, bin_geq, bin_eql, bin_neq, un_not]
      refine lits_loop hE (Nat.le_refl s.next) hL hLl hcu' e1 ld _ _ _ 5 0 [] [] _ s _ _ _ _ rfl (Nat.zero_le _) (by omega) rfl (Dest.nil s 1) ⟨(fun j hj => by cases hj), (fun j hj => by cases hj)⟩ (Old.refl _ _) ?_
      intro s1 v5 O5 y6 y7 y8 y10 y11 hd5 hO5 hold1
      have hmv : ∀ (m : Nat) (i : Nat), Made.val i (.slice m) = .slice (some (i, 0)) m (some m) := fun _ _ => rfl
      have hv5 : v5.cells = [v5] := by obtain ⟨a', c', rfl, _⟩ := hd5.cells; rfl
      have b1 := bld_one (P := Try.prog) (t := 22) (v := v5) Try.underlying22 sz23 zr23 rfl hv5
      have hslot := hmd.dest.slot_lt
      have hd3 : Dest s1 v3 us.length 1 us O := hmd.dest.frame hold1.1 fun j hj => hold1.2 j (hslot j hj)
      have husl : us.length = k := by have := hmd.rows.1; simp at this; omega
      obtain ⟨v', s2, O', p1, p2, p3, p4, p5⟩ := push_cell (st := 22) (e := 23) (by_ := 24) Try.underlying22 sz23 by23 (by decide) (strx 22 23 Try.underlying22) zero23 hd3 (by omega) hd5.isSlice
      simp only [if_true, c22o14, b1, hmv, p1, c22o15, e3, hcast, wpC, wpI, wpS, wpD, wpV, wanted_none, wanted_some, vals, cev_const, cev_var, cev_loc, padV, okV_some, againP, true_and, and_true, upd_zero, upd_succ, nth_zero, nth_succ, wpG_true, wpG_false, condK_true, condK_false, seqK_normal, seqK_ret, seqK_exit, inBlock_normal, inBlock_ret, inBlock_exit, ends_ret, ends_normal, unmark_nil, results_nil, results_cons, one_one, one_zero, one_two, isB_undef, isB_tt, isB_ff, Bool.not_true, Bool.not_false, Option.bind_some, pick3, pickA, extractA, List.getElem?_cons_zero, List.getElem?_cons_succ, bin_lss, bin_gtr, bin_leq, bin_geq, bin_eql, bin_neq, un_not]
      have hOlt : ∀ j ∈ O, j < s.next := hmd.dest.lt
      have hs12 : s1.next ≤ s2.next := p3
      have hold2 : Old s0.next s0 s2 := (hold.trans (hold1.mono hns)).trans ⟨p3, fun j hj => p4 j (by have := hold1.1; omega) (fun hm => by have := hmd.own j hm; omega)⟩
      have old_slot : ∀ u ∈ us, ∀ j, slot u = some j → s2.heap.get j = s.heap.get j := by
        intro u hu j hj
        obtain ⟨g1, g2, g3⟩ := hmd.slots u hu j hj
        rw [p4 j (by have := hold1.1; omega) g3]
        exact hold1.2 j g2
      have v5_slot : ∀ j, slot v5 = some j → s2.heap.get j = s1.heap.get j := by
        intro j hj
        have h1 := hO5.2 j hj
        exact p4 j (hd5.slot_lt j hj) (fun hm => by have := hOlt j hm; omega)
      refine ih (k + 1) (us ++ [v5]) O' v' s2 _ _ _ _ _ _ _ (by omega) hlt (by omega) ⟨?_, ?_, ?_, ?_⟩ hold2 hq
      · rw [List.length_append]; exact p2
      · rw [List.take_succ_eq_append_getElem hlt, List.map_append]
        refine ((hmd.rows.keep old_slot).mono (Nat.le_trans hold1.1 hs12)).append (RowCells.one ?_)
        exact ((hd5.slice).keep v5_slot).mono hs12
      · intro u hu j hj
        have hO'j : j < s1.next → j ∉ O → j ∉ O' := fun h1 h2 h3 => (p5 j h3).elim h2 (fun h => by omega)
        rcases List.mem_append.1 hu with hu | hu
        · obtain ⟨g1, g2, g3⟩ := hmd.slots u hu j hj
          exact ⟨g1, by have := hold1.1; omega, hO'j (by have := hold1.1; omega) g3⟩
        · have : u = v5 := by simpa using hu
          subst this
          have h1 := hO5.2 j hj
          have h2 := hd5.slot_lt j hj
          exact ⟨by omega, by omega, hO'j h2 (fun hm => by have := hOlt j hm; omega)⟩
      · intro j hj
        exact (p5 j hj).elim (hmd.own j) (fun h => by have := hold1.1; omega)
    · have hkl : k = ls.length := by omega
      have hcv : (ls.take k).map rowV = clausesV ls := by rw [hkl, List.take_length]; unfold clausesV; rw [List.take_of_length_le (by omega)]
      rw [hcv] at hmd
      have hkk : decide ((k : Int) < (ls.length : Int)) = false := decide_eq_false (by omega)
      simp only [c22l16, c22o3, len_slice Try.underlying30, hkk, Bool.false_beq, Bool.not_true, wpC, wpI, wpS, wpD, wpV, wanted_none, wanted_some, vals, cev_const, cev_var, cev_loc, padV, okV_some, againP, true_and, and_true, upd_zero, upd_succ, nth_zero, nth_succ, wpG_true, wpG_false, condK_true, condK_false, seqK_normal, seqK_ret, seqK_exit, inBlock_normal, inBlock_ret, inBlock_exit, ends_ret, ends_normal, unmark_nil, results_nil, results_cons, one_one, one_zero, one_two, isB_undef, isB_tt, isB_ff, Bool.not_true, Bool.not_false, Option.bind_some, pick3, pickA, extractA, List.getElem?_cons_zero, List.getElem?_cons_succ, bin_lss, bin_gtr, bin_leq, bin_geq, bin_eql, bin_neq, un_not]
      exact hq s v3 us O _ _ _ _ _ _ _ _ hmd hold

set_option maxRecDepth 8000 in
/-- Clauses. -/
theorem clauses_ok {E : Env} (hE : Good E) {s : ASt} {b : Nat} (hb : b ≤ s.next) {ls : List (List Int)} (hls : ∀ L ∈ ls, I8s L ∧ L.length < 9223372036854775808) (hlen : ls.length < 9223372036854775808) {v : AV} (hv : Rows8Of b s v ls) :
    WF E 22 [v, iv 6] (fun r s' => ∃ us O, Made20 s.next s' r us (clausesV ls) O ∧ Old s.next s s') s := by
  obtain ⟨a, cap, rfl, hc⟩ := hv
  refine hE.go comp22 (by decide) rfl ?_
  simp only [c22, c22o0, c22o1, c22o2, wpC, wpI, wpS, wpD, wpV, wanted_none, wanted_some, vals, cev_const, cev_var, cev_loc, padV, okV_some, againP, true_and, and_true, upd_zero, upd_succ, nth_zero, nth_succ, wpG_true, wpG_false, condK_true, condK_false, seqK_normal, seqK_ret, seqK_exit, inBlock_normal, inBlock_ret, inBlock_exit, ends_ret, ends_normal, unmark_nil, results_nil, results_cons, one_one, one_zero, one_two, isB_undef, isB_tt, isB_ff, Bool.not_true, Bool.not_false, Option.bind_some, pick3, pickA, extractA, List.getElem?_cons_zero, List.getElem?_cons_succ, bin_lss, bin_gtr, bin_leq, bin_geq, bin_eql, bin_neq, un_not]
  refine clauses_loop hE hb hls hlen hc _ 20 0 [] [] _ s _ _ _ _ _ _ _ rfl (Nat.zero_le _) (by omega) ⟨Dest.nil s 1, RowCells.nil _ _, (fun u hu => by cases hu), (fun j hj => by cases hj)⟩ (Old.refl _ _) ?_
  intro s' v' us' O' y4 y5 y6 y7 y8 y9 y10 y11 h1 h2
  simp only [c22o17, if_true, wpC, wpI, wpS, wpD, wpV, wanted_none, wanted_some, vals, cev_const, cev_var, cev_loc, padV, okV_some, againP, true_and, and_true, upd_zero, upd_succ, nth_zero, nth_succ, wpG_true, wpG_false, condK_true, condK_false, seqK_normal, seqK_ret, seqK_exit, inBlock_normal, inBlock_ret, inBlock_exit, ends_ret, ends_normal, unmark_nil, results_nil, results_cons, one_one, one_zero, one_two, isB_undef, isB_tt, isB_ff, Bool.not_true, Bool.not_false, Option.bind_some, pick3, pickA, extractA, List.getElem?_cons_zero, List.getElem?_cons_succ, bin_lss, bin_gtr, bin_leq, bin_geq, bin_eql, bin_neq, un_not]
  exact ⟨us', O', h1, h2⟩
end Go.Proofs.Ytilhhmkdcoajnaa.Am

/- Lines that are drawn, in memory: boxes of two cells, rows of lines; what the law's function lines computes; conditions: none but the reading of its argument. -/
set_option linter.unusedVariables false
set_option linter.unusedSimpArgs false
namespace Go.Proofs.Ytilhhmkdcoajnaa.Am
open Go Go.Proofs

theorem fa27_0 (j o : Nat) : fieldAddrA Try.prog 27 (.ptr (some (j, o))) 0 = some (.ptr (some (j, o))) := by
  simp [fieldAddrA, Try.underlying27, sz4, guardB]
  rfl
theorem fa27_1 (j o : Nat) : fieldAddrA Try.prog 27 (.ptr (some (j, o))) 1 = some (.ptr (some (j, o + 1))) := by
  simp [fieldAddrA, Try.underlying27, sz23, guardB]
  rfl
theorem fa79_0 (j o : Nat) : fieldAddrA Try.prog 79 (.ptr (some (j, o))) 0 = some (.ptr (some (j, o))) := by
  simp [fieldAddrA, Try.underlying79, sz4, guardB]
  rfl
theorem fa79_1 (j o : Nat) : fieldAddrA Try.prog 79 (.ptr (some (j, o))) 1 = some (.ptr (some (j, o + 1))) := by
  simp [fieldAddrA, Try.underlying79, sz5, guardB]
  rfl
theorem fa79_2 (j o : Nat) : fieldAddrA Try.prog 79 (.ptr (some (j, o))) 2 = some (.ptr (some (j, o + 2))) := by
  simp [fieldAddrA, Try.underlying79, sz76, guardB]
  rfl

/-- A variable of two cells. -/
def Box2 (s : ASt) (j : Nat) (c0 c1 : AV) : Prop := ∃ r, s.heap.get j = some (.row r) ∧ Holds r [c0, c1] ∧ r.mode = .own ∧ r.par = none
theorem Box2.keep {s s' : ASt} {j : Nat} {c0 c1 : AV} (h : Box2 s j c0 c1) (k : s'.heap.get j = s.heap.get j) : Box2 s' j c0 c1 := by
  obtain ⟨r, h1, h2⟩ := h
  exact ⟨r, by rw [k]; exact h1, h2⟩
theorem Box2.load0 {s : ASt} {j : Nat} {c0 c1 : AV} (h : Box2 s j c0 c1) : load1 s j 0 = some c0 := by
  obtain ⟨r, h1, h2, _⟩ := h
  exact load1_row h1 (by rw [h2.1]; simp) (h2.2 0 c0 rfl)
theorem Box2.load1 {s : ASt} {j : Nat} {c0 c1 : AV} (h : Box2 s j c0 c1) : load1 s j 1 = some c1 := by
  obtain ⟨r, h1, h2, _⟩ := h
  exact load1_row h1 (by rw [h2.1]; simp) (h2.2 1 c1 rfl)
theorem Box2.loads {s : ASt} {j : Nat} {c0 c1 : AV} (h : Box2 s j c0 c1) : loadV Try.prog s 27 (.ptr (some (j, 0))) = some (.agg [c0, c1]) := by
  obtain ⟨r, h1, h2, _⟩ := h
  have := loadN_holds h1 h2 0 [c0, c1] (Nat.le_refl _) (fun k u hk => by simpa using hk)
  have e : loadN s j 0 2 = some [c0, c1] := this
  simp [loadV, ag27, sz27, e]
theorem storeN_row {s : ASt} {i o : Nat} {r : ARow} {vs : List AV} (hg : s.heap.get i = some (.row r)) (hm : r.mode = .own) (hp : r.par = none) (hne : vs ≠ []) (ho : o + vs.length ≤ r.n) (hc : allCells vs = true) :
    storeN s i o vs = some (setObj s i (.row { r with c := r.c.fill o vs, par := none })) := by
  cases vs with
  | nil => exact absurd rfl hne
  | cons v vs =>
    have hb := ble_of ho
    simp only [storeN, rowAt, hg, Option.bind_some, hm, isOwn, hb, hc, Bool.and_self, guardB, cond_true, unshare, hp]
theorem Box2.store {s : ASt} {j : Nat} {c0 c1 d0 d1 : AV} (h : Box2 s j c0 c1) (h0 : d0.isCell = true) (h1 : d1.isCell = true) :
    ∃ s', storeV Try.prog s 27 (.ptr (some (j, 0))) (.agg [d0, d1]) = some s' ∧ Box2 s' j d0 d1 ∧ s'.next = s.next ∧ ∀ x, x ≠ j → s'.heap.get x = s.heap.get x := by
  obtain ⟨r, g1, g2, g3, g4⟩ := h
  refine ⟨setObj s j (.row { r with c := r.c.fill 0 [d0, d1], par := none }), ?_, ⟨{ r with c := r.c.fill 0 [d0, d1], par := none }, by rw [heap_set, if_pos rfl], ⟨g2.1, ?_⟩, g3, rfl⟩, rfl, fun x hx => by rw [heap_set, if_neg hx]⟩
  · simp [storeV, sz27, AV.cells, guardB, storeN_row (vs := [d0, d1]) (o := 0) g1 g3 g4 (by simp) (by rw [g2.1]; exact Nat.le_refl _) (by simp [allCells, h0, h1])]
  · intro k u hk
    have hlt : k < 2 := by
      rcases Nat.lt_or_ge k 2 with h' | h'
      · exact h'
      · rw [List.getElem?_eq_none (by simpa using h')] at hk; cases hk
    show (Tree.fill r.c 0 [d0, d1]).get k = some u
    rw [Tree.get_fill, if_pos ⟨Nat.zero_le _, by simpa using hlt⟩]
    simpa using hk
theorem Box2.store1 {s : ASt} {j : Nat} {c0 c1 d1 : AV} (h : Box2 s j c0 c1) (h1 : d1.isCell = true) (hc : d1.cells = [d1]) :
    ∃ s', storeV Try.prog s 23 (.ptr (some (j, 1))) d1 = some s' ∧ Box2 s' j c0 d1 ∧ s'.next = s.next ∧ ∀ x, x ≠ j → s'.heap.get x = s.heap.get x := by
  obtain ⟨r, g1, g2, g3, g4⟩ := h
  refine ⟨setObj s j (.row { r with c := r.c.fill 1 [d1], par := none }), ?_, ⟨{ r with c := r.c.fill 1 [d1], par := none }, by rw [heap_set, if_pos rfl], ⟨g2.1, ?_⟩, g3, rfl⟩, rfl, fun x hx => by rw [heap_set, if_neg hx]⟩
  · simp [storeV, sz23, hc, guardB, storeN_row (vs := [d1]) (o := 1) g1 g3 g4 (by simp) (by rw [g2.1]; exact Nat.le_refl _) (by simp [allCells, h1])]
  · intro k u hk
    have hlt : k < 2 := by
      rcases Nat.lt_or_ge k 2 with h' | h'
      · exact h'
      · rw [List.getElem?_eq_none (by simpa using h')] at hk; cases hk
    show (Tree.fill r.c 1 [d1]).get k = some u
    rw [Tree.get_fill]
    rcases (show k = 0 ∨ k = 1 by omega) with rfl | rfl
    · rw [if_neg (by omega)]
      simp at hk; subst hk
      exact g2.2 0 c0 rfl
    · rw [if_pos ⟨Nat.le_refl _, by simp⟩]
      simpa using hk

/-! ### Rows of lines -/
abbrev Trace20 := List (Bool × List Int)
/-- Cells of lines. -/
def LineCells (b : Nat) (s : ASt) (us : List AV) (T : Trace20) : Prop := us.length = T.length * 2 ∧ ∀ (k : Nat) (d : Bool) (L : List Int), T[k]? = some (d, L) → us[k * 2]? = some (.bool d) ∧ ∃ u : AV, us[k * 2 + 1]? = some u ∧ SliceAt b s u (ivs L)
theorem LineCells.mono {b b' : Nat} {s : ASt} {us : List AV} {T : Trace20} (h : LineCells b s us T) (k : b ≤ b') : LineCells b' s us T :=
  ⟨h.1, fun j d L hj => let ⟨h0, u, h1, h2⟩ := h.2 j d L hj; ⟨h0, u, h1, h2.mono k⟩⟩
theorem LineCells.keep {b : Nat} {s s' : ASt} {us : List AV} {T : Trace20} (h : LineCells b s us T) (k : ∀ u ∈ us, ∀ j, slot u = some j → s'.heap.get j = s.heap.get j) : LineCells b s' us T :=
  ⟨h.1, fun j d L hj => let ⟨h0, u, h1, h2⟩ := h.2 j d L hj; ⟨h0, u, h1, h2.keep (k u (List.mem_of_getElem? h1))⟩⟩
theorem LineCells.nil (b : Nat) (s : ASt) : LineCells b s [] [] := ⟨rfl, fun k d L h => by simp at h⟩
theorem LineCells.snoc {b : Nat} {s : ASt} {us : List AV} {T : Trace20} (h : LineCells b s us T) {d : Bool} {u : AV} {L : List Int} (hu : SliceAt b s u (ivs L)) : LineCells b s (us ++ [.bool d, u]) (T ++ [(d, L)]) := by
  refine ⟨by simp [h.1]; omega, fun k d' L' hk => ?_⟩
  rcases Nat.lt_or_ge k T.length with hlt | hge
  · rw [List.getElem?_append_left hlt] at hk
    obtain ⟨h0, u', h1, h2⟩ := h.2 k d' L' hk
    have hl := h.1
    exact ⟨by rw [List.getElem?_append_left (by omega)]; exact h0, u', by rw [List.getElem?_append_left (by omega)]; exact h1, h2⟩
  · rw [List.getElem?_append_right hge] at hk
    have hk0 : k = T.length := by
      rcases Nat.lt_or_ge (k - T.length) 1 with h' | h'
      · omega
      · rw [List.getElem?_eq_none (by simpa using h')] at hk; cases hk
    subst hk0
    rw [Nat.sub_self] at hk
    simp at hk
    obtain ⟨rfl, rfl⟩ := hk
    have hl := h.1
    refine ⟨?_, u, ?_, hu⟩
    · rw [List.getElem?_append_right (by omega), hl, Nat.sub_self]; rfl
    · rw [List.getElem?_append_right (by omega), hl, show T.length * 2 + 1 - T.length * 2 = 1 from by omega]; rfl

/-- Lines that are made. -/
structure MadeT (lo : Nat) (s : ASt) (v : AV) (us : List AV) (T : Trace20) (O : List Nat) : Prop where
  dest : Dest s v T.length 2 us O
  rows : LineCells s.next s us T
  slots : ∀ u ∈ us, ∀ j, slot u = some j → lo ≤ j ∧ j < s.next ∧ j ∉ O
  own : ∀ j ∈ O, lo ≤ j
theorem MadeT.line {lo : Nat} {s : ASt} {v : AV} {us : List AV} {T : Trace20} {O : List Nat} (h : MadeT lo s v us T O) {k : Nat} {d : Bool} {L : List Int} (hk : T[k]? = some (d, L)) :
    ∃ i o u cap, v = .slice (some (i, o)) T.length cap ∧ i < s.next ∧ load1 s i (o + k * 2) = some (.bool d) ∧ load1 s i (o + k * 2 + 1) = some u ∧ SliceAt s.next s u (ivs L) ∧ u ∈ us := by
  obtain ⟨a, cap, hv, hc⟩ := h.dest.cells
  obtain ⟨h0, u, h1, h2⟩ := h.rows.2 k d L hk
  obtain ⟨i, o, h3, h4, h5⟩ := hc _ _ h0
  obtain ⟨i2, o2, h6, h7, h8⟩ := hc _ _ h1
  rw [h3] at h6
  injection h6 with h6
  injection h6 with e1 e2
  subst e1; subst e2
  exact ⟨i, o, u, cap, by rw [hv, h3], h4, h5, by rw [show o + k * 2 + 1 = o + (k * 2 + 1) from by omega]; exact h8, h2, List.mem_of_getElem? h1⟩
end Go.Proofs.Ytilhhmkdcoajnaa.Am

/- What the law's function lines of layer 20 computes; conditions: none but the reading of its argument. -/
set_option linter.unusedVariables false
set_option linter.unusedSimpArgs false
namespace Go.Proofs.Ytilhhmkdcoajnaa.Am
open Go Go.Proofs

abbrev Step20 := Bool × Int × List Int
def u8 (n : Int) : Prop := 0 ≤ n ∧ n ≤ 255
def StepsAt (b : Nat) (s : ASt) (a : Option (Nat × Nat)) (ss : List Step20) : Prop := ∀ (k : Nat) (d : Bool) (w : Int) (L : List Int), ss[k]? = some (d, w, L) →
  ∃ i o u, a = some (i, o) ∧ i < b ∧ load1 s i (o + k * 3) = some (.bool d) ∧ load1 s i (o + k * 3 + 1) = some (.int .u8 w) ∧ load1 s i (o + k * 3 + 2) = some u ∧ SliceAt b s u (i8vs L)
def StepsOf (b : Nat) (s : ASt) (v : AV) (ss : List Step20) : Prop := ∃ a cap, v = .slice a ss.length cap ∧ StepsAt b s a ss

def again20 (out : Trace20) (d : Bool) (w : Int) : Bool := d && decide (0 < out.length) && decide (0 < w % 3)
def lineOf (out : Trace20) (d : Bool) (w : Int) (L : List Int) : Bool × List Int := if again20 out d w = true then (d, (out.getD (w % (out.length : Int)).toNat (d, [])).2) else (d, rowV L)
def linesV (out : Trace20) : List Step20 → Trace20
  | [] => out
  | (d, w, L) :: l => linesV (out ++ [lineOf out d w L]) l

theorem gtr_u8 (t : TypeId) (a b : Int) : binA Try.prog .gtr t (.int .u8 a) (.int .u8 b) = some (.bool (decide (b < a))) := by
  show some (AV.bool (ltI b a)) = _
  rw [ltI_eq]
theorem conv_u8 {s : ASt} {n : Int} (h : u8 n) : convA Try.prog s 5 3 (.int .u8 n) = some (iv n) := by
  obtain ⟨h1, h2⟩ := h
  simp [convA, Try.underlying5, Try.underlying3, wrap_i64 (n := n) ⟨by omega, by omega⟩]
theorem zero27 : zeroOk Try.prog 27 2 = true := by simp [zeroOk, zr27, AV.cells]
theorem bld_line {d : Bool} {u : AV} : sliceRowA Try.prog 33 1 (zipIdx [0] [.agg [.bool d, u]]) = some (mkRow 27 2 [.bool d, u]) := by
  simp [sliceRowA, Try.underlying33, sz27, guardB, zr27, zipIdx, fillA, rep, AV.cells]
  rfl
theorem bld_drop {d : Bool} : buildA Try.prog 27 (zipIdx [0] [.bool d]) = some (.agg [.bool d, .slice none 0 (some 0)]) := by
  simp [buildA, zr27, Try.underlying27, fieldSizes, sz4, sz23, zipIdx, fillA, AV.cells, guardB]
  rfl
theorem alloc27 : allocA Try.prog 27 = some (mkRow 27 0 [.bool false, .slice none 0 (some 0)], .ptr) := by simp [allocA, zr27, AV.cells]
theorem idx2 {P : Program} {t e : TypeId} {n : Nat} (ht : P.underlying t = some (.slice e)) (hs : sizeT P e = some n) {i o len k : Nat} {cap : Option Nat} (hk : k < len) :
    indexAddrA P t (.slice (some (i, o)) len cap) (iv (k : Int)) = some (.ptr (some (i, o + k * n))) := idx_slice ht hs hk

theorem SliceAt.isCell {b : Nat} {s : ASt} {u : AV} {cs : List AV} (h : SliceAt b s u cs) : u.isCell = true ∧ u.cells = [u] := by
  obtain ⟨a, cap, rfl, _⟩ := h
  exact ⟨rfl, rfl⟩
theorem SliceAt.slot_lt {b : Nat} {s : ASt} {u : AV} {cs : List AV} (h : SliceAt b s u cs) (hne : cs ≠ []) : ∀ j, slot u = some j → j < b := by
  obtain ⟨a, cap, rfl, hc⟩ := h
  intro j hj
  cases cs with
  | nil => exact absurd rfl hne
  | cons c cs =>
    obtain ⟨i, o, rfl, h2, _⟩ := hc 0 c rfl
    simp [slot] at hj; subst hj; exact h2

set_option maxRecDepth 8000 in
/-- A line is appended. -/
theorem push_line {lo : Nat} {s : ASt} {v : AV} {us : List AV} {T : Trace20} {O : List Nat} (hm : MadeT lo s v us T O) (hT : T.length ≤ 1000000) {d : Bool} {u : AV} {L : List Int} (hu : SliceAt s.next s u (ivs L)) (hslot : ∀ j, slot u = some j → lo ≤ j ∧ j < s.next ∧ j ∉ O) (hlo : lo ≤ s.next) :
    ∃ v' s' O', appendA Try.prog (newObj s (mkRow 27 2 [.bool d, u])) [33, 33] [v, .slice (some (s.next, 0)) 1 (some 1)] = some (v', s') ∧ MadeT lo s' v' (us ++ [.bool d, u]) (T ++ [(d, L)]) O' ∧ Old lo s s' := by
  have c1 := src_one (P := Try.prog) (e := 27) (s := newObj s (mkRow 27 2 [.bool d, u])) (n := 1) (cap := some 1) (sz := 2) 27 2 (by rw [heap_new, if_pos rfl]) rfl
  obtain ⟨v', s', O', h1, h2, h3, h4, h5, h6, h7⟩ := (hm.dest.new (mkRow 27 2 [.bool d, u])).append (P := Try.prog) (st := 33) (xt := 33) Try.underlying33 sz27 by27 (by decide) (strx 33 27 Try.underlying33) zero27 c1 rfl (by have := hu.isCell.1; simp only [allCells, this]; rfl) (by omega) (by omega)
  have hn : (newObj s (mkRow 27 2 [.bool d, u])).next = s.next + 1 := rfl
  have keep : ∀ j, j < s.next → j ∉ O → s'.heap.get j = s.heap.get j := fun j hj ho => by rw [h5 j (by omega) ho, heap_new, if_neg (by omega)]
  have hO' : ∀ j, j < s.next → j ∉ O → j ∉ O' := fun j h1 h2 h3 => (h6 j h3).elim h2 (fun h => by omega)
  refine ⟨v', s', O', h1, ⟨?_, ?_, ?_, ?_⟩, ⟨by omega, fun j hj => keep j (by omega) (fun h => by have := hm.own j h; omega)⟩⟩
  · rw [List.length_append]; exact h2
  · refine ((hm.rows.mono (show s.next ≤ s'.next by omega)).keep fun x hx j hj => ?_).snoc ?_
    · obtain ⟨g1, g2, g3⟩ := hm.slots x hx j hj; exact keep j g2 g3
    · exact (hu.keep fun j hj => keep j (hslot j hj).2.1 (hslot j hj).2.2).mono (by omega)
  · intro x hx j hj
    rcases List.mem_append.1 hx with hx | hx
    · obtain ⟨g1, g2, g3⟩ := hm.slots x hx j hj; exact ⟨g1, by omega, hO' j g2 g3⟩
    · rcases List.mem_cons.1 hx with rfl | hx
      · cases hj
      · have : x = u := by simpa using hx
        subst this
        obtain ⟨g1, g2, g3⟩ := hslot j hj; exact ⟨g1, by omega, hO' j g2 g3⟩
  · intro j hj
    exact (h6 j hj).elim (hm.own j) (fun h => by omega)

theorem MadeT.frame {lo : Nat} {s s' : ASt} {v : AV} {us : List AV} {T : Trace20} {O : List Nat} (h : MadeT lo s v us T O) (hn : s.next ≤ s'.next) (k : ∀ j, j < s.next → s'.heap.get j = s.heap.get j) : MadeT lo s' v us T O :=
  ⟨h.dest.frame hn fun j hj => k j (h.dest.slot_lt j hj), (h.rows.mono hn).keep fun u hu j hj => k j (h.slots u hu j hj).2.1, fun u hu j hj => let ⟨g1, g2, g3⟩ := h.slots u hu j hj; ⟨g1, by omega, g3⟩, h.own⟩

/-- The variable x of a round: its box, and where its slice lies. -/
structure XBox (lo : Nat) (s : ASt) (j : Nat) (O : List Nat) (d : Bool) (u : AV) (L : List Int) : Prop where
  box : Box2 s j (.bool d) u
  slice : SliceAt s.next s u (ivs L)
  slot : ∀ i, slot u = some i → lo ≤ i ∧ i < s.next ∧ i ∉ O
end Go.Proofs.Ytilhhmkdcoajnaa.Am
