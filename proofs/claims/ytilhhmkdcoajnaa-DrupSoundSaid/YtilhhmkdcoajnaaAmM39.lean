/- Rows that are written in place: loads, stores, a tail that is cleared, slices of them; conditions: none. -/
import Derived.Test.YtilhhmkdcoajnaaAmM38
set_option linter.unusedVariables false
set_option linter.unusedSimpArgs false
namespace Go.Proofs.Ytilhhmkdcoajnaa.Am
open Go Go.Proofs

/-- A row of one's own, with these cells. -/
def RowAt (s : ASt) (i : Nat) (cs : List AV) : Prop := ∃ r, s.heap.get i = some (.row r) ∧ Holds r cs ∧ r.mode = .own ∧ r.par = none ∧ r.sz = 1
theorem RowAt.keep {s s' : ASt} {i : Nat} {cs : List AV} (h : RowAt s i cs) (k : s'.heap.get i = s.heap.get i) : RowAt s' i cs := by
  obtain ⟨r, h1, h2⟩ := h
  exact ⟨r, k.trans h1, h2⟩
theorem lt_of_get {α : Type} {l : List α} {k : Nat} {u : α} (h : l[k]? = some u) : k < l.length := by
  rcases Nat.lt_or_ge k l.length with h' | h'
  · exact h'
  · rw [List.getElem?_eq_none h'] at h; cases h
theorem RowAt.load1 {s : ASt} {i k : Nat} {cs : List AV} {u : AV} (h : RowAt s i cs) (hk : cs[k]? = some u) : load1 s i k = some u := by
  obtain ⟨r, h1, h2, _⟩ := h
  exact load1_row h1 (by rw [h2.1]; exact lt_of_get hk) (h2.2 k u hk)
theorem RowAt.load {s : ASt} {i k : Nat} {cs : List AV} {u : AV} (h : RowAt s i cs) (hk : cs[k]? = some u) : loadV Try.prog s 3 (.ptr (some (i, 0 + k * 1))) = some u := by
  rw [Nat.zero_add, Nat.mul_one]; exact load_one ag3 (h.load1 hk)
theorem RowAt.fill {s : ASt} {i o : Nat} {cs vs : List AV} (h : RowAt s i cs) (hne : vs ≠ []) (ho : o + vs.length ≤ cs.length) (hc : allCells vs = true) :
    ∃ s', storeN s i o vs = some s' ∧ RowAt s' i (cs.take o ++ vs ++ cs.drop (o + vs.length)) ∧ s'.next = s.next ∧ ∀ x, x ≠ i → s'.heap.get x = s.heap.get x := by
  obtain ⟨r, h1, h2, h3, h4, h5⟩ := h
  refine ⟨_, storeN_row h1 h3 h4 hne (by rw [h2.1]; exact ho) hc, ⟨{ r with c := r.c.fill o vs, par := none }, by rw [heap_set, if_pos rfl], ⟨?_, ?_⟩, h3, rfl, h5⟩, rfl, fun x hx => by rw [heap_set, if_neg hx]⟩
  · show r.n = _
    rw [h2.1]; simp; omega
  · intro k u hk
    show (Tree.fill r.c o vs).get k = some u
    rw [Tree.get_fill]
    by_cases hin : o ≤ k ∧ k < o + vs.length
    · rw [if_pos hin]
      rw [List.append_assoc, List.getElem?_append_right (by simp; omega), List.getElem?_append_left (by simp; omega)] at hk
      have : (cs.take o).length = o := by simp; omega
      rw [this] at hk
      exact hk
    · rw [if_neg hin]
      refine h2.2 k u ?_
      rcases Nat.lt_or_ge k o with hlt | hge
      · rw [List.append_assoc, List.getElem?_append_left (by simp; omega), List.getElem?_take, if_pos hlt] at hk
        exact hk
      · rw [List.getElem?_append_right (by simp; omega), List.getElem?_drop] at hk
        have e : o + vs.length + (k - (cs.take o ++ vs).length) = k := by simp; omega
        rw [e] at hk
        exact hk
theorem RowAt.store {s : ASt} {i k : Nat} {A B : List AV} {w u : AV} (h : RowAt s i (A ++ w :: B)) (hk : A.length = k) (h1 : u.isCell = true) (h2 : u.cells = [u]) :
    ∃ s', storeV Try.prog s 3 (.ptr (some (i, 0 + k * 1))) u = some s' ∧ RowAt s' i (A ++ u :: B) ∧ s'.next = s.next ∧ ∀ x, x ≠ i → s'.heap.get x = s.heap.get x := by
  subst hk
  obtain ⟨s', g1, g2, g3, g4⟩ := h.fill (o := A.length) (vs := [u]) (by simp) (by simp) (by simp [allCells, h1])
  refine ⟨s', ?_, ?_, g3, g4⟩
  · simp [storeV, sz3, h2, guardB, g1]
  · have e : (A ++ w :: B).take A.length ++ [u] ++ (A ++ w :: B).drop (A.length + [u].length) = A ++ u :: B := by
      rw [List.take_left', List.drop_append]
      · simp
      · rfl
    rw [e] at g2
    exact g2
theorem RowAt.old {b : Nat} {s s' : ASt} {i : Nat} (h : b ≤ i) (hn : s'.next = s.next) (k : ∀ x, x ≠ i → s'.heap.get x = s.heap.get x) : Old b s s' := ⟨by omega, fun x hx => k x (by omega)⟩
theorem iv_cell (x : Int) : (iv x).isCell = true ∧ (iv x).cells = [iv x] := ⟨rfl, rfl⟩
theorem ivs_append (A B : List Int) : ivs (A ++ B) = ivs A ++ ivs B := by simp
theorem ivs_cons (x : Int) (B : List Int) : ivs (x :: B) = iv x :: ivs B := rfl
theorem ivs_len (A : List Int) : (ivs A).length = A.length := by simp
theorem get_mid {A B : List AV} {w : AV} {k : Nat} (hk : A.length = k) : (A ++ w :: B)[k]? = some w := by
  subst hk; simp
end Go.Proofs.Ytilhhmkdcoajnaa.Am

/- What the library's Sort computes of a short row of whole numbers; conditions: twelve at most. -/
set_option linter.unusedVariables false
set_option linter.unusedSimpArgs false
namespace Go.Proofs.Ytilhhmkdcoajnaa.Am
open Go Go.Proofs

theorem nan_ok {E : Env} (hE : Good E) {s : ASt} (x : Int) : WF E 134 [iv x] (fun r s' => r = .bool false ∧ s = s') s := by
  refine hE.go comp134 (by decide) rfl ?_
  simp only [c134, c134o0, c134o1, ne_eq, not_true, decide_false, wpC, wpI, wpS, wpD, wpV, wanted_none, wanted_some, vals, cev_const, cev_var, cev_loc, padV, okV_some, againP, true_and, and_true, upd_zero, upd_succ, nth_zero, nth_succ, wpG_true, wpG_false, condK_true, condK_false, seqK_normal, seqK_ret, seqK_exit, inBlock_normal, inBlock_ret, inBlock_exit, ends_ret, ends_normal, unmark_nil, results_nil, results_cons, one_one, one_zero, one_two, isB_undef, isB_tt, isB_ff, Bool.not_true, Bool.not_false, Option.bind_some, pick3, pickA, extractA, List.getElem?_cons_zero, List.getElem?_cons_succ, bin_lss, bin_gtr, bin_leq, bin_geq, bin_eql, bin_neq, un_not]
theorem less_ok {E : Env} (hE : Good E) {s : ASt} (x y : Int) : WF E 123 [iv x, iv y] (fun r s' => r = .bool (decide (x < y)) ∧ s = s') s := by
  refine hE.go comp123 (by decide) rfl ?_
  simp only [c123, c123o0, c123o1, wpC, wpI, wpS, wpD, wpV, wanted_none, wanted_some, vals, cev_const, cev_var, cev_loc, padV, okV_some, againP, true_and, and_true, upd_zero, upd_succ, nth_zero, nth_succ, wpG_true, wpG_false, condK_true, condK_false, seqK_normal, seqK_ret, seqK_exit, inBlock_normal, inBlock_ret, inBlock_exit, ends_ret, ends_normal, unmark_nil, results_nil, results_cons, one_one, one_zero, one_two, isB_undef, isB_tt, isB_ff, Bool.not_true, Bool.not_false, Option.bind_some, pick3, pickA, extractA, List.getElem?_cons_zero, List.getElem?_cons_succ, bin_lss, bin_gtr, bin_leq, bin_geq, bin_eql, bin_neq, un_not]
  refine (nan_ok hE x).mono ?_
  rintro _ _ ⟨rfl, rfl⟩
  simp only [wpC, wpI, wpS, wpD, wpV, wanted_none, wanted_some, vals, cev_const, cev_var, cev_loc, padV, okV_some, againP, true_and, and_true, upd_zero, upd_succ, nth_zero, nth_succ, wpG_true, wpG_false, condK_true, condK_false, seqK_normal, seqK_ret, seqK_exit, inBlock_normal, inBlock_ret, inBlock_exit, ends_ret, ends_normal, unmark_nil, results_nil, results_cons, one_one, one_zero, one_two, isB_undef, isB_tt, isB_ff, Bool.not_true, Bool.not_false, Option.bind_some, pick3, pickA, extractA, List.getElem?_cons_zero, List.getElem?_cons_succ, bin_lss, bin_gtr, bin_leq, bin_geq, bin_eql, bin_neq, un_not]
theorem geq_u64 (t : TypeId) (a b : Int) : binA Try.prog .geq t (.int .u64 a) (.int .u64 b) = some (.bool (decide (b ≤ a))) := by
  show some (AV.bool (!ltI a b)) = _
  rw [ltI_eq, ← decide_not]
  congr 3
  exact propext Int.not_lt
theorem in_u8 {n : Int} (h : u8 n) : inRange .u8 n = true := by
  obtain ⟨h1, h2⟩ := h
  cases n with
  | ofNat m =>
    have h3 : (m : Int) ≤ 255 := h2
    simp [inRange]; omega
  | negSucc m => omega
theorem in_u64 {n : Int} (h : u8 n) : inRange .u64 n = true := by
  obtain ⟨h1, h2⟩ := h
  cases n with
  | ofNat m =>
    have h3 : (m : Int) ≤ 255 := h2
    simp [inRange]; omega
  | negSucc m => omega
theorem tab_at {l : List Nat} {n m : Nat} (h : l[n]? = some m) : indexA Try.prog 9 (.str l) (.int .u8 (n : Int)) = some (.int .u8 (m : Int)) := by
  simp [indexA, idxOf, natOf_nat, Try.underlying9, h]
def tab64 : List Nat := [0, 1, 2, 2, 3, 3, 3, 3, 4, 4, 4, 4, 4, 4, 4, 4, 5, 5, 5, 5, 5, 5, 5, 5, 5, 5, 5, 5, 5, 5, 5, 5, 6, 6, 6, 6, 6, 6, 6, 6, 6, 6, 6, 6, 6, 6, 6, 6, 6, 6, 6, 6, 6, 6, 6, 6, 6, 6, 6, 6, 6, 6, 6, 6, 7, 7, 7, 7, 7, 7, 7, 7, 7, 7, 7, 7, 7, 7, 7, 7, 7, 7, 7, 7, 7, 7, 7, 7, 7, 7, 7, 7, 7, 7, 7, 7, 7, 7, 7, 7, 7, 7, 7, 7, 7, 7, 7, 7, 7, 7, 7, 7, 7, 7, 7, 7, 7, 7, 7, 7, 7, 7, 7, 7, 7, 7, 7, 7, 8, 8, 8, 8, 8, 8, 8, 8, 8, 8, 8, 8, 8, 8, 8, 8, 8, 8, 8, 8, 8, 8, 8, 8, 8, 8, 8, 8, 8, 8, 8, 8, 8, 8, 8, 8, 8, 8, 8, 8, 8, 8, 8, 8, 8, 8, 8, 8, 8, 8, 8, 8, 8, 8, 8, 8, 8, 8, 8, 8, 8, 8, 8, 8, 8, 8, 8, 8, 8, 8, 8, 8, 8, 8, 8, 8, 8, 8, 8, 8, 8, 8, 8, 8, 8, 8, 8, 8, 8, 8, 8, 8, 8, 8, 8, 8, 8, 8, 8, 8, 8, 8, 8, 8, 8, 8, 8, 8, 8, 8, 8, 8, 8, 8, 8, 8, 8, 8, 8, 8, 8, 8, 8, 8, 8, 8, 8, 8]
set_option maxRecDepth 20000 in
theorem len64_ok {E : Env} (hE : Good E) {s : ASt} (n : Nat) (hn : n ≤ 12) : WF E 127 [.int .u64 (n : Int)] (fun r s' => (∃ m : Int, r = iv m) ∧ s = s') s := by
  refine hE.go comp127 (by decide) rfl ?_
  have g1 : decide ((4294967296 : Int) ≤ (n : Int)) = false := decide_eq_false (by omega)
  have g2 : decide ((65536 : Int) ≤ (n : Int)) = false := decide_eq_false (by omega)
  have g3 : decide ((256 : Int) ≤ (n : Int)) = false := decide_eq_false (by omega)
  have g4 : convA Try.prog s 147 5 (.int .u64 (n : Int)) = some (.int .u8 (n : Int)) := by
    simp [convA, Try.underlying147, Try.underlying5, wrapA_of (in_u8 (n := n) ⟨by omega, by omega⟩)]
  have g5 : ∃ m : Nat, m ≤ 4 ∧ indexA Try.prog 9 (.str tab64) (.int .u8 (n : Int)) = some (.int .u8 (m : Int)) := by
    have : n = 0 ∨ n = 1 ∨ n = 2 ∨ n = 3 ∨ n = 4 ∨ n = 5 ∨ n = 6 ∨ n = 7 ∨ n = 8 ∨ n = 9 ∨ n = 10 ∨ n = 11 ∨ n = 12 := by omega
    rcases this with rfl | rfl | rfl | rfl | rfl | rfl | rfl | rfl | rfl | rfl | rfl | rfl | rfl <;> exact ⟨_, by decide, tab_at rfl⟩
  obtain ⟨m, hm, g5⟩ := g5
  have g6 : convA Try.prog s 5 3 (.int .u8 (m : Int)) = some (iv (m : Int)) := conv_u8 ⟨by omega, by omega⟩
  have g7 := bin_add Try.prog 3 0 (m : Int) ⟨by omega, by omega⟩
  unfold tab64 at g5
  simp only [c127, c127o0, c127o1, c127o4, c127o7, c127o10, geq_u64, g1, g2, g3, g4, g5, g6, g7, wpC, wpI, wpS, wpD, wpV, wanted_none, wanted_some, vals, cev_const, cev_var, cev_loc, padV, okV_some, againP, true_and, and_true, upd_zero, upd_succ, nth_zero, nth_succ, wpG_true, wpG_false, condK_true, condK_false, seqK_normal, seqK_ret, seqK_exit, inBlock_normal, inBlock_ret, inBlock_exit, ends_ret, ends_normal, unmark_nil, results_nil, results_cons, one_one, one_zero, one_two, isB_undef, isB_tt, isB_ff, Bool.not_true, Bool.not_false, Option.bind_some, pick3, pickA, extractA, List.getElem?_cons_zero, List.getElem?_cons_succ, bin_lss, bin_gtr, bin_leq, bin_geq, bin_eql, bin_neq, un_not]
  exact ⟨_, rfl⟩
theorem len_ok {E : Env} (hE : Good E) {s : ASt} (n : Nat) (hn : n ≤ 12) : WF E 109 [.int .u64 (n : Int)] (fun r s' => (∃ m : Int, r = iv m) ∧ s = s') s := by
  refine hE.go comp109 (by decide) rfl ?_
  simp only [c109, c109o0, c109o2, wpC, wpI, wpS, wpD, wpV, wanted_none, wanted_some, vals, cev_const, cev_var, cev_loc, padV, okV_some, againP, true_and, and_true, upd_zero, upd_succ, nth_zero, nth_succ, wpG_true, wpG_false, condK_true, condK_false, seqK_normal, seqK_ret, seqK_exit, inBlock_normal, inBlock_ret, inBlock_exit, ends_ret, ends_normal, unmark_nil, results_nil, results_cons, one_one, one_zero, one_two, isB_undef, isB_tt, isB_ff, Bool.not_true, Bool.not_false, Option.bind_some, pick3, pickA, extractA, List.getElem?_cons_zero, List.getElem?_cons_succ, bin_lss, bin_gtr, bin_leq, bin_geq, bin_eql, bin_neq, un_not]
  refine (len64_ok hE n hn).mono ?_
  rintro _ _ ⟨⟨m, rfl⟩, rfl⟩
  simp only [wpC, wpI, wpS, wpD, wpV, wanted_none, wanted_some, vals, cev_const, cev_var, cev_loc, padV, okV_some, againP, true_and, and_true, upd_zero, upd_succ, nth_zero, nth_succ, wpG_true, wpG_false, condK_true, condK_false, seqK_normal, seqK_ret, seqK_exit, inBlock_normal, inBlock_ret, inBlock_exit, ends_ret, ends_normal, unmark_nil, results_nil, results_cons, one_one, one_zero, one_two, isB_undef, isB_tt, isB_ff, Bool.not_true, Bool.not_false, Option.bind_some, pick3, pickA, extractA, List.getElem?_cons_zero, List.getElem?_cons_succ, bin_lss, bin_gtr, bin_leq, bin_geq, bin_eql, bin_neq, un_not]
  exact ⟨_, rfl⟩

/-! ### The insertion sort -/
/-- A number into a row that falls. -/
def down (x : Int) : List Int → List Int
  | [] => [x]
  | y :: q => if x < y then y :: down x q else x :: y :: q
def sortV (L : List Int) : List Int := (L.foldl (fun q x => down x q) []).reverse
theorem down_len (x : Int) : ∀ q, (down x q).length = q.length + 1
  | [] => rfl
  | y :: q => by
    unfold down
    split
    · simp [down_len x q]
    · simp

set_option maxRecDepth 8000 in
theorem sort_in {E : Env} (hE : Good E) {lo i n m : Nat} (hlo : lo ≤ i) (hn : n ≤ 1000) (x : Int) {Q : ARes → Prop} :
    ∀ (p T : List Int) (s : ASt) (x5 x6 : AV), p.length < n → n ≤ p.length + 1 + T.length → RowAt s i (ivs (p.reverse ++ x :: T)) →
      (∀ s' y4 y6, RowAt s' i (ivs ((down x p).reverse ++ T)) → s'.next = s.next → (∀ z, z ≠ i → s'.heap.get z = s.heap.get z) → Q ⟨.exit 2, [.slice (some (i, 0)) n none, iv 0, iv (n : Int), iv (m : Int), y4, x5, y6], [], s'⟩) →
      WC E none (.loop c117l6) Q [.slice (some (i, 0)) n none, iv 0, iv (n : Int), iv (m : Int), iv (p.length : Int), x5, x6] [] s := by
  intro p
  induction p with
  | nil =>
    intro T s x5 x6 h1 h2 hr hq
    refine WC.loop' ?_
    simp only [c117l6, c117o3, List.length_nil, show ((0 : Nat) : Int) = 0 from rfl, Int.lt_irrefl, decide_false, wpC, wpI, wpS, wpD, wpV, wanted_none, wanted_some, vals, cev_const, cev_var, cev_loc, padV, okV_some, againP, true_and, and_true, upd_zero, upd_succ, nth_zero, nth_succ, wpG_true, wpG_false, condK_true, condK_false, seqK_normal, seqK_ret, seqK_exit, inBlock_normal, inBlock_ret, inBlock_exit, ends_ret, ends_normal, unmark_nil, results_nil, results_cons, one_one, one_zero, one_two, isB_undef, isB_tt, isB_ff, Bool.not_true, Bool.not_false, Option.bind_some, pick3, pickA, extractA, List.getElem?_cons_zero, List.getElem?_cons_succ, bin_lss, bin_gtr, bin_leq, bin_geq, bin_eql, bin_neq, un_not]
    exact hq s _ _ hr rfl fun _ _ => rfl
  | cons y q ih =>
    intro T s x5 x6 h1 h2 hr hq
    have hj : (y :: q).length = q.length + 1 := rfl
    rw [hj] at h1 h2 ⊢
    have hcells : ivs ((y :: q).reverse ++ x :: T) = ivs q.reverse ++ iv y :: (iv x :: ivs T) := by simp
    have hcells2 : ivs ((y :: q).reverse ++ x :: T) = (ivs q.reverse ++ [iv y]) ++ iv x :: ivs T := by simp
    have hql : (ivs q.reverse).length = q.length := by simp
    have hql2 : (ivs q.reverse ++ [iv y]).length = q.length + 1 := by simp
    have hgt : decide ((0 : Int) < ((q.length + 1 : Nat) : Int)) = true := decide_eq_true (by omega)
    have a1 : indexAddrA Try.prog 23 (.slice (some (i, 0)) n none) (iv ((q.length + 1 : Nat) : Int)) = some (.ptr (some (i, 0 + (q.length + 1) * 1))) := idx_slice Try.underlying23 sz3 (by omega)
    have a0 : indexAddrA Try.prog 23 (.slice (some (i, 0)) n none) (iv ((q.length : Nat) : Int)) = some (.ptr (some (i, 0 + q.length * 1))) := idx_slice Try.underlying23 sz3 (by omega)
    have l1 : loadV Try.prog s 3 (.ptr (some (i, 0 + (q.length + 1) * 1))) = some (iv x) := hr.load (by rw [hcells2]; exact get_mid hql2)
    have l0 : loadV Try.prog s 3 (.ptr (some (i, 0 + q.length * 1))) = some (iv y) := hr.load (by rw [hcells]; exact get_mid hql)
    have hs := bin_sub Try.prog 3 ((q.length + 1 : Nat) : Int) 1 ⟨by omega, by omega⟩
    have hs1 : (((q.length + 1 : Nat) : Int) - 1) = ((q.length : Nat) : Int) := by omega
    rw [hs1] at hs
    refine WC.loop' ?_
    generalize hW : WC E none (CCode.loop c117l6) Q = W
    simp only [c117l6, c117o3, hgt, a1, l1, hs, a0, l0, wpC, wpI, wpS, wpD, wpV, wanted_none, wanted_some, vals, cev_const, cev_var, cev_loc, padV, okV_some, againP, true_and, and_true, upd_zero, upd_succ, nth_zero, nth_succ, wpG_true, wpG_false, condK_true, condK_false, seqK_normal, seqK_ret, seqK_exit, inBlock_normal, inBlock_ret, inBlock_exit, ends_ret, ends_normal, unmark_nil, results_nil, results_cons, one_one, one_zero, one_two, isB_undef, isB_tt, isB_ff, Bool.not_true, Bool.not_false, Option.bind_some, pick3, pickA, extractA, List.getElem?_cons_zero, List.getElem?_cons_succ, bin_lss, bin_gtr, bin_leq, bin_geq, bin_eql, bin_neq, un_not]
    refine (less_ok hE x y).mono ?_
    rintro _ _ ⟨rfl, rfl⟩
    by_cases h : x < y
    · rw [hcells2] at hr
      obtain ⟨s1, g1, g2, g3, g4⟩ := hr.store (k := q.length + 1) (u := iv y) hql2 rfl rfl
      have e1 : (ivs q.reverse ++ [iv y]) ++ iv y :: ivs T = ivs q.reverse ++ iv y :: (iv y :: ivs T) := by simp
      rw [e1] at g2
      obtain ⟨s2, k1, k2, k3, k4⟩ := g2.store (k := q.length) (u := iv x) hql rfl rfl
      simp only [h, decide_true, c117o4, c117o5, a1, l1, hs, a0, l0, on2, g1, k1, withV, wpC, wpI, wpS, wpD, wpV, wanted_none, wanted_some, vals, cev_const, cev_var, cev_loc, padV, okV_some, againP, true_and, and_true, upd_zero, upd_succ, nth_zero, nth_succ, wpG_true, wpG_false, condK_true, condK_false, seqK_normal, seqK_ret, seqK_exit, inBlock_normal, inBlock_ret, inBlock_exit, ends_ret, ends_normal, unmark_nil, results_nil, results_cons, one_one, one_zero, one_two, isB_undef, isB_tt, isB_ff, Bool.not_true, Bool.not_false, Option.bind_some, pick3, pickA, extractA, List.getElem?_cons_zero, List.getElem?_cons_succ, bin_lss, bin_gtr, bin_leq, bin_geq, bin_eql, bin_neq, un_not]
      rw [← hW]
      have e2 : down x (y :: q) = y :: down x q := by simp [down, h]
      refine ih (y :: T) s2 x5 _ (by omega) (by simp; omega) ?_ ?_
      · have e3 : ivs (q.reverse ++ x :: (y :: T)) = ivs q.reverse ++ iv x :: (iv y :: ivs T) := by simp
        rw [e3]; exact k2
      · intro s' y4 y6 f1 f2 f3
        refine hq s' y4 y6 ?_ (by omega) fun z hz => (f3 z hz).trans ((k4 z hz).trans (g4 z hz))
        rw [e2]
        have e4 : (y :: down x q).reverse ++ T = (down x q).reverse ++ (y :: T) := by simp
        rw [e4]; exact f1
    · have e2 : down x (y :: q) = x :: y :: q := by simp [down, h]
      simp only [h, decide_false, wpC, wpI, wpS, wpD, wpV, wanted_none, wanted_some, vals, cev_const, cev_var, cev_loc, padV, okV_some, againP, true_and, and_true, upd_zero, upd_succ, nth_zero, nth_succ, wpG_true, wpG_false, condK_true, condK_false, seqK_normal, seqK_ret, seqK_exit, inBlock_normal, inBlock_ret, inBlock_exit, ends_ret, ends_normal, unmark_nil, results_nil, results_cons, one_one, one_zero, one_two, isB_undef, isB_tt, isB_ff, Bool.not_true, Bool.not_false, Option.bind_some, pick3, pickA, extractA, List.getElem?_cons_zero, List.getElem?_cons_succ, bin_lss, bin_gtr, bin_leq, bin_geq, bin_eql, bin_neq, un_not]
      refine hq s _ _ ?_ rfl fun _ _ => rfl
      rw [e2]
      have e4 : (x :: y :: q).reverse ++ T = (y :: q).reverse ++ x :: T := by simp
      rw [e4]; exact hr
end Go.Proofs.Ytilhhmkdcoajnaa.Am

/- What the library's Sort computes of a short row of whole numbers (its outer loop, and all); conditions: twelve at most. -/
set_option linter.unusedVariables false
set_option linter.unusedSimpArgs false
namespace Go.Proofs.Ytilhhmkdcoajnaa.Am
open Go Go.Proofs

/-- A row of whole numbers that may be written; none, if it is empty. -/
def IntArr (lo : Nat) (s : ASt) (v : AV) (L : List Int) : Prop := (∃ a, v = .slice a 0 (some 0) ∧ L = []) ∨ ∃ i, v = .slice (some (i, 0)) L.length none ∧ lo ≤ i ∧ i < s.next ∧ RowAt s i (ivs L)
theorem IntArr.len {lo : Nat} {s : ASt} {v : AV} {L : List Int} (h : IntArr lo s v L) : lenA Try.prog s 23 v = some (iv (L.length : Int)) := by
  rcases h with ⟨a, rfl, rfl⟩ | ⟨i, rfl, _⟩
  · exact len_slice Try.underlying23
  · exact len_slice Try.underlying23

set_option maxRecDepth 8000 in
theorem sort_out {E : Env} (hE : Good E) {lo i n : Nat} (hlo : lo ≤ i) (hn : n ≤ 1000) {Q : ARes → Prop} :
    ∀ (R q : List Int) (s : ASt) (m : Nat) (x4 x5 x6 : AV), q.length = m → n = q.length + R.length → RowAt s i (ivs (q.reverse ++ R)) →
      (∀ s' y3 y4 y5 y6, RowAt s' i (ivs (R.foldl (fun q x => down x q) q).reverse) → s'.next = s.next → (∀ z, z ≠ i → s'.heap.get z = s.heap.get z) → Q ⟨.exit 0, [.slice (some (i, 0)) n none, iv 0, iv (n : Int), y3, y4, y5, y6], [], s'⟩) →
      WC E none (.loop c117l8) Q [.slice (some (i, 0)) n none, iv 0, iv (n : Int), iv (m : Int), x4, x5, x6] [] s := by
  intro R
  induction R with
  | nil =>
    intro q s m x4 x5 x6 hm hq hr hk
    subst hm
    have hlt : decide (((q.length : Nat) : Int) < (n : Int)) = false := decide_eq_false (by simp at hq; omega)
    refine WC.loop' ?_
    simp only [c117l8, c117o1, hlt, wpC, wpI, wpS, wpD, wpV, wanted_none, wanted_some, vals, cev_const, cev_var, cev_loc, padV, okV_some, againP, true_and, and_true, upd_zero, upd_succ, nth_zero, nth_succ, wpG_true, wpG_false, condK_true, condK_false, seqK_normal, seqK_ret, seqK_exit, inBlock_normal, inBlock_ret, inBlock_exit, ends_ret, ends_normal, unmark_nil, results_nil, results_cons, one_one, one_zero, one_two, isB_undef, isB_tt, isB_ff, Bool.not_true, Bool.not_false, Option.bind_some, pick3, pickA, extractA, List.getElem?_cons_zero, List.getElem?_cons_succ, bin_lss, bin_gtr, bin_leq, bin_geq, bin_eql, bin_neq, un_not]
    exact hk s _ _ _ _ (by simpa using hr) rfl fun _ _ => rfl
  | cons x T ih =>
    intro q s m x4 x5 x6 hm hq hr hk
    subst hm
    have hR : (x :: T).length = T.length + 1 := rfl
    rw [hR] at hq
    have hlt : decide (((q.length : Nat) : Int) < (n : Int)) = true := decide_eq_true (by omega)
    have e3 := bin_add Try.prog 3 ((q.length : Nat) : Int) 1 ⟨by omega, by omega⟩
    have hcast : (((q.length : Nat) : Int) + 1) = ((q.length + 1 : Nat) : Int) := by omega
    refine WC.loop' ?_
    generalize hW : WC E none (CCode.loop c117l8) Q = W
    simp only [c117l8, c117o1, c117o2, hlt, wpC, wpI, wpS, wpD, wpV, wanted_none, wanted_some, vals, cev_const, cev_var, cev_loc, padV, okV_some, againP, true_and, and_true, upd_zero, upd_succ, nth_zero, nth_succ, wpG_true, wpG_false, condK_true, condK_false, seqK_normal, seqK_ret, seqK_exit, inBlock_normal, inBlock_ret, inBlock_exit, ends_ret, ends_normal, unmark_nil, results_nil, results_cons, one_one, one_zero, one_two, isB_undef, isB_tt, isB_ff, Bool.not_true, Bool.not_false, Option.bind_some, pick3, pickA, extractA, List.getElem?_cons_zero, List.getElem?_cons_succ, bin_lss, bin_gtr, bin_leq, bin_geq, bin_eql, bin_neq, un_not]
    refine sort_in hE hlo hn x q T s _ _ (by omega) (by omega) hr ?_
    intro s' y4 y6 g1 g2 g3
    simp only [c117o7, e3, hcast, if_true, wpC, wpI, wpS, wpD, wpV, wanted_none, wanted_some, vals, cev_const, cev_var, cev_loc, padV, okV_some, againP, true_and, and_true, upd_zero, upd_succ, nth_zero, nth_succ, wpG_true, wpG_false, condK_true, condK_false, seqK_normal, seqK_ret, seqK_exit, inBlock_normal, inBlock_ret, inBlock_exit, ends_ret, ends_normal, unmark_nil, results_nil, results_cons, one_one, one_zero, one_two, isB_undef, isB_tt, isB_ff, Bool.not_true, Bool.not_false, Option.bind_some, pick3, pickA, extractA, List.getElem?_cons_zero, List.getElem?_cons_succ, bin_lss, bin_gtr, bin_leq, bin_geq, bin_eql, bin_neq, un_not]
    rw [← hW]
    refine ih (down x q) s' (q.length + 1) _ _ _ (down_len x q) (by rw [down_len]; omega) g1 ?_
    intro s2 y3 y4' y5 y6' h1 h2 h3
    exact hk s2 y3 y4' y5 y6' h1 (by omega) fun z hz => (h3 z hz).trans (g3 z hz)

theorem sort117 {E : Env} (hE : Good E) {lo : Nat} {s : ASt} {v : AV} {L : List Int} (h : IntArr lo s v L) (hL : L.length ≤ 12) :
    WF E 117 [v, iv 0, iv (L.length : Int)] (fun r s' => IntArr lo s' v (sortV L) ∧ Old lo s s' ∧ s'.next = s.next) s := by
  refine hE.go comp117 (by decide) rfl ?_
  have e3 := bin_add Try.prog 3 0 1 ⟨by omega, by omega⟩
  have e4 : (0 : Int) + 1 = 1 := rfl
  rcases h with ⟨a, rfl, rfl⟩ | ⟨i, rfl, h1, h2, h3⟩
  · simp only [c117, c117o0, e3, e4, List.length_nil, show ((0 : Nat) : Int) = 0 from rfl, wpC, wpI, wpS, wpD, wpV, wanted_none, wanted_some, vals, cev_const, cev_var, cev_loc, padV, okV_some, againP, true_and, and_true, upd_zero, upd_succ, nth_zero, nth_succ, wpG_true, wpG_false, condK_true, condK_false, seqK_normal, seqK_ret, seqK_exit, inBlock_normal, inBlock_ret, inBlock_exit, ends_ret, ends_normal, unmark_nil, results_nil, results_cons, one_one, one_zero, one_two, isB_undef, isB_tt, isB_ff, Bool.not_true, Bool.not_false, Option.bind_some, pick3, pickA, extractA, List.getElem?_cons_zero, List.getElem?_cons_succ, bin_lss, bin_gtr, bin_leq, bin_geq, bin_eql, bin_neq, un_not]
    refine WC.loop' ?_
    simp only [c117l8, c117o1, show decide ((1 : Int) < 0) = false from rfl, if_true, wpC, wpI, wpS, wpD, wpV, wanted_none, wanted_some, vals, cev_const, cev_var, cev_loc, padV, okV_some, againP, true_and, and_true, upd_zero, upd_succ, nth_zero, nth_succ, wpG_true, wpG_false, condK_true, condK_false, seqK_normal, seqK_ret, seqK_exit, inBlock_normal, inBlock_ret, inBlock_exit, ends_ret, ends_normal, unmark_nil, results_nil, results_cons, one_one, one_zero, one_two, isB_undef, isB_tt, isB_ff, Bool.not_true, Bool.not_false, Option.bind_some, pick3, pickA, extractA, List.getElem?_cons_zero, List.getElem?_cons_succ, bin_lss, bin_gtr, bin_leq, bin_geq, bin_eql, bin_neq, un_not]
    exact ⟨.inl ⟨a, rfl, rfl⟩, Old.refl _ _⟩
  · simp only [c117, c117o0, e3, e4, wpC, wpI, wpS, wpD, wpV, wanted_none, wanted_some, vals, cev_const, cev_var, cev_loc, padV, okV_some, againP, true_and, and_true, upd_zero, upd_succ, nth_zero, nth_succ, wpG_true, wpG_false, condK_true, condK_false, seqK_normal, seqK_ret, seqK_exit, inBlock_normal, inBlock_ret, inBlock_exit, ends_ret, ends_normal, unmark_nil, results_nil, results_cons, one_one, one_zero, one_two, isB_undef, isB_tt, isB_ff, Bool.not_true, Bool.not_false, Option.bind_some, pick3, pickA, extractA, List.getElem?_cons_zero, List.getElem?_cons_succ, bin_lss, bin_gtr, bin_leq, bin_geq, bin_eql, bin_neq, un_not]
    cases L with
    | nil =>
      refine WC.loop' ?_
      simp only [c117l8, c117o1, List.length_nil, show ((0 : Nat) : Int) = 0 from rfl, show decide ((1 : Int) < 0) = false from rfl, if_true, wpC, wpI, wpS, wpD, wpV, wanted_none, wanted_some, vals, cev_const, cev_var, cev_loc, padV, okV_some, againP, true_and, and_true, upd_zero, upd_succ, nth_zero, nth_succ, wpG_true, wpG_false, condK_true, condK_false, seqK_normal, seqK_ret, seqK_exit, inBlock_normal, inBlock_ret, inBlock_exit, ends_ret, ends_normal, unmark_nil, results_nil, results_cons, one_one, one_zero, one_two, isB_undef, isB_tt, isB_ff, Bool.not_true, Bool.not_false, Option.bind_some, pick3, pickA, extractA, List.getElem?_cons_zero, List.getElem?_cons_succ, bin_lss, bin_gtr, bin_leq, bin_geq, bin_eql, bin_neq, un_not]
      exact ⟨.inr ⟨i, rfl, h1, h2, h3⟩, Old.refl _ _⟩
    | cons x T =>
      refine sort_out hE h1 (n := (x :: T).length) (by omega) T [x] s 1 _ _ _ rfl (by simp; omega) h3 ?_
      intro s' y3 y4 y5 y6 g1 g2 g3
      simp only [if_true, wpC, wpI, wpS, wpD, wpV, wanted_none, wanted_some, vals, cev_const, cev_var, cev_loc, padV, okV_some, againP, true_and, and_true, upd_zero, upd_succ, nth_zero, nth_succ, wpG_true, wpG_false, condK_true, condK_false, seqK_normal, seqK_ret, seqK_exit, inBlock_normal, inBlock_ret, inBlock_exit, ends_ret, ends_normal, unmark_nil, results_nil, results_cons, one_one, one_zero, one_two, isB_undef, isB_tt, isB_ff, Bool.not_true, Bool.not_false, Option.bind_some, pick3, pickA, extractA, List.getElem?_cons_zero, List.getElem?_cons_succ, bin_lss, bin_gtr, bin_leq, bin_geq, bin_eql, bin_neq, un_not]
      have hl : (sortV (x :: T)).length = (x :: T).length := by
        have : ∀ (R q : List Int), (R.foldl (fun q x => down x q) q).length = q.length + R.length := by
          intro R
          induction R with
          | nil => intro q; rfl
          | cons y R ih => intro q; simp only [List.foldl_cons, ih, down_len, List.length_cons]; omega
        unfold sortV
        rw [List.length_reverse, this]; simp
      refine ⟨.inr ⟨i, by rw [hl], h1, by omega, g1⟩, ⟨by omega, fun z hz => g3 z (by omega)⟩, g2⟩

set_option maxRecDepth 8000 in
theorem sort108 {E : Env} (hE : Good E) {lo : Nat} {s : ASt} {v : AV} {L : List Int} (h : IntArr lo s v L) (hL : L.length ≤ 12) (m : Int) :
    WF E 108 [v, iv 0, iv (L.length : Int), iv m] (fun r s' => IntArr lo s' v (sortV L) ∧ Old lo s s' ∧ s'.next = s.next) s := by
  refine hE.go comp108 (by decide) rfl ?_
  have e3 := bin_sub Try.prog 3 (L.length : Int) 0 ⟨by omega, by omega⟩
  have e4 : (L.length : Int) - 0 = (L.length : Int) := by omega
  have e5 : decide ((L.length : Int) ≤ 12) = true := decide_eq_true (by omega)
  simp only [c108, c108o0, c108o1, wpC, wpI, wpS, wpD, wpV, wanted_none, wanted_some, vals, cev_const, cev_var, cev_loc, padV, okV_some, againP, true_and, and_true, upd_zero, upd_succ, nth_zero, nth_succ, wpG_true, wpG_false, condK_true, condK_false, seqK_normal, seqK_ret, seqK_exit, inBlock_normal, inBlock_ret, inBlock_exit, ends_ret, ends_normal, unmark_nil, results_nil, results_cons, one_one, one_zero, one_two, isB_undef, isB_tt, isB_ff, Bool.not_true, Bool.not_false, Option.bind_some, pick3, pickA, extractA, List.getElem?_cons_zero, List.getElem?_cons_succ, bin_lss, bin_gtr, bin_leq, bin_geq, bin_eql, bin_neq, un_not]
  refine WC.loop' ?_
  generalize WC E none (CCode.loop c108l31) _ = W
  simp only [c108l31, c108o2, c108o3, c108o4, e3, e4, e5, wpC, wpI, wpS, wpD, wpV, wanted_none, wanted_some, vals, cev_const, cev_var, cev_loc, padV, okV_some, againP, true_and, and_true, upd_zero, upd_succ, nth_zero, nth_succ, wpG_true, wpG_false, condK_true, condK_false, seqK_normal, seqK_ret, seqK_exit, inBlock_normal, inBlock_ret, inBlock_exit, ends_ret, ends_normal, unmark_nil, results_nil, results_cons, one_one, one_zero, one_two, isB_undef, isB_tt, isB_ff, Bool.not_true, Bool.not_false, Option.bind_some, pick3, pickA, extractA, List.getElem?_cons_zero, List.getElem?_cons_succ, bin_lss, bin_gtr, bin_leq, bin_geq, bin_eql, bin_neq, un_not]
  refine (sort117 hE h hL).mono ?_
  rintro r s' h'
  simp only [wpC, wpI, wpS, wpD, wpV, wanted_none, wanted_some, vals, cev_const, cev_var, cev_loc, padV, okV_some, againP, true_and, and_true, upd_zero, upd_succ, nth_zero, nth_succ, wpG_true, wpG_false, condK_true, condK_false, seqK_normal, seqK_ret, seqK_exit, inBlock_normal, inBlock_ret, inBlock_exit, ends_ret, ends_normal, unmark_nil, results_nil, results_cons, one_one, one_zero, one_two, isB_undef, isB_tt, isB_ff, Bool.not_true, Bool.not_false, Option.bind_some, pick3, pickA, extractA, List.getElem?_cons_zero, List.getElem?_cons_succ, bin_lss, bin_gtr, bin_leq, bin_geq, bin_eql, bin_neq, un_not]
  exact h'

theorem conv_u64 {s : ASt} {n : Nat} (h : n ≤ 12) : convA Try.prog s 3 133 (iv (n : Int)) = some (.int .u64 (n : Int)) := by
  simp [convA, Try.underlying3, Try.underlying133, wrapA_of (in_u64 (n := n) ⟨by omega, by omega⟩)]
/-- Sort. -/
theorem sort_ok {E : Env} (hE : Good E) {lo : Nat} {s : ASt} {v : AV} {L : List Int} (h : IntArr lo s v L) (hL : L.length ≤ 12) :
    WF E 87 [v] (fun r s' => IntArr lo s' v (sortV L) ∧ Old lo s s' ∧ s'.next = s.next) s := by
  refine hE.go comp87 (by decide) rfl ?_
  simp only [c87, c87o0, c87o1, h.len, conv_u64 hL, wpC, wpI, wpS, wpD, wpV, wanted_none, wanted_some, vals, cev_const, cev_var, cev_loc, padV, okV_some, againP, true_and, and_true, upd_zero, upd_succ, nth_zero, nth_succ, wpG_true, wpG_false, condK_true, condK_false, seqK_normal, seqK_ret, seqK_exit, inBlock_normal, inBlock_ret, inBlock_exit, ends_ret, ends_normal, unmark_nil, results_nil, results_cons, one_one, one_zero, one_two, isB_undef, isB_tt, isB_ff, Bool.not_true, Bool.not_false, Option.bind_some, pick3, pickA, extractA, List.getElem?_cons_zero, List.getElem?_cons_succ, bin_lss, bin_gtr, bin_leq, bin_geq, bin_eql, bin_neq, un_not]
  refine (len_ok hE L.length hL).mono ?_
  rintro _ _ ⟨⟨m, rfl⟩, rfl⟩
  simp only [wpC, wpI, wpS, wpD, wpV, wanted_none, wanted_some, vals, cev_const, cev_var, cev_loc, padV, okV_some, againP, true_and, and_true, upd_zero, upd_succ, nth_zero, nth_succ, wpG_true, wpG_false, condK_true, condK_false, seqK_normal, seqK_ret, seqK_exit, inBlock_normal, inBlock_ret, inBlock_exit, ends_ret, ends_normal, unmark_nil, results_nil, results_cons, one_one, one_zero, one_two, isB_undef, isB_tt, isB_ff, Bool.not_true, Bool.not_false, Option.bind_some, pick3, pickA, extractA, List.getElem?_cons_zero, List.getElem?_cons_succ, bin_lss, bin_gtr, bin_leq, bin_geq, bin_eql, bin_neq, un_not]
  refine (sort108 hE h hL m).mono ?_
  rintro r s' h'
  simp only [wpC, wpI, wpS, wpD, wpV, wanted_none, wanted_some, vals, cev_const, cev_var, cev_loc, padV, okV_some, againP, true_and, and_true, upd_zero, upd_succ, nth_zero, nth_succ, wpG_true, wpG_false, condK_true, condK_false, seqK_normal, seqK_ret, seqK_exit, inBlock_normal, inBlock_ret, inBlock_exit, ends_ret, ends_normal, unmark_nil, results_nil, results_cons, one_one, one_zero, one_two, isB_undef, isB_tt, isB_ff, Bool.not_true, Bool.not_false, Option.bind_some, pick3, pickA, extractA, List.getElem?_cons_zero, List.getElem?_cons_succ, bin_lss, bin_gtr, bin_leq, bin_geq, bin_eql, bin_neq, un_not]
  exact h'
end Go.Proofs.Ytilhhmkdcoajnaa.Am

/- What the library's Compact computes of a row of whole numbers; conditions: its length fits. -/
set_option linter.unusedVariables false
set_option linter.unusedSimpArgs false
namespace Go.Proofs.Ytilhhmkdcoajnaa.Am
open Go Go.Proofs

theorem RowAt.loadAt {s : ASt} {i k a : Nat} {cs : List AV} {u : AV} (h : RowAt s i cs) (hk : cs[k]? = some u) (ha : a = k) : loadV Try.prog s 3 (.ptr (some (i, a))) = some u := by
  subst ha; exact load_one ag3 (h.load1 hk)
theorem row_lo {s : ASt} {i n k : Nat} {cs : List AV} (h : RowAt s i cs) (hn : n ≤ cs.length) (hk : k ≤ n) : sliceOpnds Try.prog 23 true false false s [.slice (some (i, 0)) n none, iv (k : Int)] = some (.slice (some (i, 0 + k * 1)) (n - k) none) := by
  obtain ⟨r, h1, h2, h3, h4, h5⟩ := h
  have hb : boundA (iv (k : Int)) n = some k := by simp [boundA, idxOf, natOf_nat, guardB, ble_of hk]
  show sliceA Try.prog s 23 (.slice (some (i, 0)) n none) (some (iv (k : Int))) none none = _
  simp [sliceA, Try.underlying23, sz3, rowAt, h1, h5, guardB, hb, ble_of (Nat.zero_le r.n), show Nat.beq 1 0 = false from rfl]
theorem row_hi {s : ASt} {i n k : Nat} {cs : List AV} (h : RowAt s i cs) (hk : k ≤ cs.length) : sliceOpnds Try.prog 23 false true false s [.slice (some (i, 0)) n none, iv (k : Int)] = some (.slice (some (i, 0)) k none) := by
  obtain ⟨r, h1, h2, h3, h4, h5⟩ := h
  have hb : boundA (iv (k : Int)) r.n = some k := by simp [boundA, idxOf, natOf_nat, guardB, h2.1, ble_of hk]
  show sliceA Try.prog s 23 (.slice (some (i, 0)) n none) none (some (iv (k : Int))) none = _
  simp [sliceA, Try.underlying23, sz3, rowAt, h1, h5, guardB, hb, ble_of (Nat.zero_le r.n), show Nat.beq 1 0 = false from rfl]
theorem rep_zero (m : Nat) : rep (AV.cells (.int .i64 0)) m = ivs (List.replicate m 0) := by
  induction m with
  | zero => rfl
  | succ m ih => show iv 0 :: rep _ m = _; rw [ih]; rfl
theorem cells_ivs' (L : List Int) : allCells (ivs L) = true := cells_ivs L
theorem row_clear {s : ASt} {i m k : Nat} {A B : List AV} (h : RowAt s i (A ++ B)) (hA : A.length = k) (hB : B.length = m) :
    ∃ s' Z, clearA Try.prog s [23] [.slice (some (i, 0 + k * 1)) m none] = some (undefA, s') ∧ Z.length = m ∧ RowAt s' i (A ++ Z) ∧ s'.next = s.next ∧ ∀ x, x ≠ i → s'.heap.get x = s.heap.get x := by
  subst hA; subst hB
  cases B with
  | nil => exact ⟨s, [], by simp [clearA, Try.underlying23], rfl, h, rfl, fun _ _ => rfl⟩
  | cons b B =>
    obtain ⟨s', g1, g2, g3, g4⟩ := h.fill (o := A.length) (vs := ivs (List.replicate (B.length + 1) 0)) (by simp [List.replicate_succ]) (by simp) (cells_ivs _)
    refine ⟨s', ivs (List.replicate (B.length + 1) 0), ?_, by simp, ?_, g3, g4⟩
    · have hz : zeroT Try.prog 3 = some (.int .i64 0) := zr3
      simp only [clearA, Try.underlying23, List.length_cons, hz, Option.bind_some, rep_zero, Nat.zero_add, Nat.mul_one, g1]
    · have e : (A ++ b :: B).take A.length ++ ivs (List.replicate (B.length + 1) 0) ++ (A ++ b :: B).drop (A.length + (ivs (List.replicate (B.length + 1) 0)).length) = A ++ ivs (List.replicate (B.length + 1) 0) := by
        rw [List.take_left' rfl, List.drop_eq_nil_of_le (by simp)]; simp
      rw [e] at g2
      exact g2

/-- Without those that are as the one ahead. -/
def dd (p : Int) : List Int → List Int
  | [] => []
  | x :: r => if x = p then dd p r else x :: dd x r
def compV : List Int → List Int
  | [] => []
  | x :: r => x :: dd x r

set_option maxRecDepth 8000 in
theorem comp_in {E : Env} (hE : Good E) {lo i n k0 : Nat} (hlo : lo ≤ i) (hn : n ≤ 1000) (hk0 : 0 < k0) {Q : ARes → Prop} (x1 x5 x6 x7 : AV) :
    ∀ (S W G : List Int) (p : Int) (s : ASt) (k2 : Nat) (x8 x9 : AV), 0 < k2 → k0 + k2 = W.length + G.length + 1 → n = W.length + G.length + 1 + S.length → k0 ≤ n → RowAt s i (ivs (W ++ (G ++ p :: S))) →
      (∀ s' W' G' y4 y8 y9, W' = W ++ dd p S → W'.length + G'.length = n → RowAt s' i (ivs (W' ++ G')) → s'.next = s.next → (∀ z, z ≠ i → s'.heap.get z = s.heap.get z) → Q ⟨.exit 2, [.slice (some (i, 0)) n none, x1, iv (W'.length : Int), .slice (some (i, 0 + k0 * 1)) (n - k0) none, y4, x5, x6, x7, y8, y9], [], s'⟩) →
      WC E none (.loop c88l13) Q [.slice (some (i, 0)) n none, x1, iv (W.length : Int), .slice (some (i, 0 + k0 * 1)) (n - k0) none, iv (k2 : Int), x5, x6, x7, x8, x9] [] s := by
  intro S
  induction S with
  | nil =>
    intro W G p s k2 x8 x9 hk2 hk hnn hkn hr hq
    have hlt : decide (((k2 : Nat) : Int) < ((n - k0 : Nat) : Int)) = false := decide_eq_false (by simp at hnn; omega)
    refine WC.loop' ?_
    simp only [c88l13, c88o8, len_slice Try.underlying23, hlt, wpC, wpI, wpS, wpD, wpV, wanted_none, wanted_some, vals, cev_const, cev_var, cev_loc, padV, okV_some, againP, true_and, and_true, upd_zero, upd_succ, nth_zero, nth_succ, wpG_true, wpG_false, condK_true, condK_false, seqK_normal, seqK_ret, seqK_exit, inBlock_normal, inBlock_ret, inBlock_exit, ends_ret, ends_normal, unmark_nil, results_nil, results_cons, one_one, one_zero, one_two, isB_undef, isB_tt, isB_ff, Bool.not_true, Bool.not_false, Option.bind_some, pick3, pickA, extractA, List.getElem?_cons_zero, List.getElem?_cons_succ, bin_lss, bin_gtr, bin_leq, bin_geq, bin_eql, bin_neq, un_not]
    exact hq s W (G ++ [p]) _ _ _ (by simp [dd]) (by simp at hnn ⊢; omega) hr rfl fun _ _ => rfl
  | cons x T ih =>
    intro W G p s k2 x8 x9 hk2 hk hnn hkn hr hq
    have hS : (x :: T).length = T.length + 1 := rfl
    rw [hS] at hnn
    have hlt : decide (((k2 : Nat) : Int) < ((n - k0 : Nat) : Int)) = true := decide_eq_true (by omega)
    have a1 : indexAddrA Try.prog 23 (.slice (some (i, 0 + k0 * 1)) (n - k0) none) (iv (k2 : Int)) = some (.ptr (some (i, 0 + k0 * 1 + k2 * 1))) := idx_slice Try.underlying23 sz3 (by omega)
    have hs := bin_sub Try.prog 3 (k2 : Int) 1 ⟨by omega, by omega⟩
    have hs1 : ((k2 : Int) - 1) = ((k2 - 1 : Nat) : Int) := by omega
    rw [hs1] at hs
    have a0 : indexAddrA Try.prog 23 (.slice (some (i, 0 + k0 * 1)) (n - k0) none) (iv ((k2 - 1 : Nat) : Int)) = some (.ptr (some (i, 0 + k0 * 1 + (k2 - 1) * 1))) := idx_slice Try.underlying23 sz3 (by omega)
    have aw : indexAddrA Try.prog 23 (.slice (some (i, 0)) n none) (iv (W.length : Int)) = some (.ptr (some (i, 0 + W.length * 1))) := idx_slice Try.underlying23 sz3 (by omega)
    have c1 : ivs (W ++ (G ++ p :: x :: T)) = ivs (W ++ G ++ [p]) ++ iv x :: ivs T := by simp
    have c0 : ivs (W ++ (G ++ p :: x :: T)) = ivs (W ++ G) ++ iv p :: ivs (x :: T) := by simp
    have l1 : loadV Try.prog s 3 (.ptr (some (i, 0 + k0 * 1 + k2 * 1))) = some (iv x) := hr.loadAt (k := W.length + G.length + 1) (by rw [c1]; exact get_mid (by simp; omega)) (by omega)
    have l0 : loadV Try.prog s 3 (.ptr (some (i, 0 + k0 * 1 + (k2 - 1) * 1))) = some (iv p) := hr.loadAt (k := W.length + G.length) (by rw [c0]; exact get_mid (by simp)) (by omega)
    have e3 := bin_add Try.prog 3 (k2 : Int) 1 ⟨by omega, by omega⟩
    have e3' : ((k2 : Int) + 1) = ((k2 + 1 : Nat) : Int) := by omega
    have e4 := bin_add Try.prog 3 (W.length : Int) 1 ⟨by omega, by omega⟩
    have e4' : ((W.length : Int) + 1) = ((W.length + 1 : Nat) : Int) := by omega
    refine WC.loop' ?_
    generalize hW : WC E none (CCode.loop c88l13) Q = WW
    by_cases h : x = p
    · subst h
      simp only [c88l13, c88o8, c88o9, c88o12, len_slice Try.underlying23, hlt, a1, a0, l1, hs, l0, e3, e3', ne_eq, not_true, decide_false, wpC, wpI, wpS, wpD, wpV, wanted_none, wanted_some, vals, cev_const, cev_var, cev_loc, padV, okV_some, againP, true_and, and_true, upd_zero, upd_succ, nth_zero, nth_succ, wpG_true, wpG_false, condK_true, condK_false, seqK_normal, seqK_ret, seqK_exit, inBlock_normal, inBlock_ret, inBlock_exit, ends_ret, ends_normal, unmark_nil, results_nil, results_cons, one_one, one_zero, one_two, isB_undef, isB_tt, isB_ff, Bool.not_true, Bool.not_false, Option.bind_some, pick3, pickA, extractA, List.getElem?_cons_zero, List.getElem?_cons_succ, bin_lss, bin_gtr, bin_leq, bin_geq, bin_eql, bin_neq, un_not]
      rw [← hW]
      have hc : W ++ (G ++ x :: x :: T) = W ++ ((G ++ [x]) ++ x :: T) := by simp
      rw [hc] at hr
      refine ih W (G ++ [x]) x s (k2 + 1) _ _ (by omega) (by simp; omega) (by simp; omega) hkn hr ?_
      intro s' W' G' y4 y8 y9 f1 f2 f3 f4 f5
      exact hq s' W' G' y4 y8 y9 (by rw [f1]; simp [dd]) f2 f3 f4 f5
    · have hd : dd p (x :: T) = x :: dd x T := by simp [dd, h]
      obtain ⟨g0, tl, htl, hG⟩ : ∃ g0 tl, G ++ p :: x :: T = g0 :: tl ∧ ∃ G1, tl = G1 ++ x :: T ∧ G1.length = G.length := by
        cases G with
        | nil => exact ⟨p, x :: T, rfl, [], rfl, rfl⟩
        | cons g G => exact ⟨g, G ++ p :: x :: T, rfl, G ++ [p], by simp, by simp⟩
      obtain ⟨G1, rfl, hG1⟩ := hG
      have cw : ivs (W ++ (G ++ p :: x :: T)) = ivs W ++ iv g0 :: ivs (G1 ++ x :: T) := by rw [htl]; simp
      have hr2 := hr
      rw [cw] at hr2
      obtain ⟨s1, g1, g2, g3, g4⟩ := hr2.store (k := W.length) (u := iv x) (by simp) rfl rfl
      simp only [c88l13, c88o8, c88o9, c88o10, c88o11, c88o12, len_slice Try.underlying23, hlt, a1, a0, aw, l1, hs, l0, e3, e3', e4, e4', h, ne_eq, not_false_eq_true, decide_true, on2, g1, withV, wpC, wpI, wpS, wpD, wpV, wanted_none, wanted_some, vals, cev_const, cev_var, cev_loc, padV, okV_some, againP, true_and, and_true, upd_zero, upd_succ, nth_zero, nth_succ, wpG_true, wpG_false, condK_true, condK_false, seqK_normal, seqK_ret, seqK_exit, inBlock_normal, inBlock_ret, inBlock_exit, ends_ret, ends_normal, unmark_nil, results_nil, results_cons, one_one, one_zero, one_two, isB_undef, isB_tt, isB_ff, Bool.not_true, Bool.not_false, Option.bind_some, pick3, pickA, extractA, List.getElem?_cons_zero, List.getElem?_cons_succ, bin_lss, bin_gtr, bin_leq, bin_geq, bin_eql, bin_neq, un_not]
      rw [← hW]
      have hr3 : RowAt s1 i (ivs ((W ++ [x]) ++ (G1 ++ x :: T))) := by
        have : ivs ((W ++ [x]) ++ (G1 ++ x :: T)) = ivs W ++ iv x :: ivs (G1 ++ x :: T) := by simp
        rw [this]; exact g2
      have hwl : (W ++ [x]).length = W.length + 1 := by simp
      have := ih (W ++ [x]) G1 x s1 (k2 + 1) (.bool true) (.bool true) (by omega) (by rw [hwl]; omega) (by rw [hwl]; omega) hkn hr3 ?_
      · rw [hwl] at this
        exact this
      · intro s' W' G' y4 y8 y9 f1 f2 f3 f4 f5
        exact hq s' W' G' y4 y8 y9 (by rw [f1, hd]; simp) f2 f3 (by omega) fun z hz => (f5 z hz).trans (g4 z hz)

set_option maxRecDepth 8000 in
theorem comp_out {E : Env} (hE : Good E) {lo i n : Nat} (hlo : lo ≤ i) (hn : n ≤ 1000) {Q : ARes → Prop} (x1 x5 : AV) :
    ∀ (R A : List Int) (y : Int) (s : ASt) (x3 x4 x6 x7 x8 x9 : AV), n = A.length + 1 + R.length → RowAt s i (ivs (A ++ y :: R)) →
      (∀ e s' W' (G' : List AV) y1 y2 y3 y4 y6 y7 y8 y9, (e = .ret ∧ y1 = .slice (some (i, 0)) W'.length none ∨ e = .exit 0 ∧ y1 = x1 ∧ W'.length = n) → W' = A ++ y :: dd y R → RowAt s' i (ivs W' ++ G') → s'.next = s.next → (∀ z, z ≠ i → s'.heap.get z = s.heap.get z) →
        Q ⟨e, [.slice (some (i, 0)) n none, y1, y2, y3, y4, x5, y6, y7, y8, y9], [], s'⟩) →
      WC E none (.loop c88l17) Q [.slice (some (i, 0)) n none, x1, iv ((A.length + 1 : Nat) : Int), x3, x4, x5, x6, x7, x8, x9] [] s := by
  intro R
  induction R with
  | nil =>
    intro A y s x3 x4 x6 x7 x8 x9 hnn hr hq
    have hlt : decide (((A.length + 1 : Nat) : Int) < (n : Int)) = false := decide_eq_false (by simp at hnn; omega)
    refine WC.loop' ?_
    simp only [c88l17, c88o4, len_slice Try.underlying23, hlt, wpC, wpI, wpS, wpD, wpV, wanted_none, wanted_some, vals, cev_const, cev_var, cev_loc, padV, okV_some, againP, true_and, and_true, upd_zero, upd_succ, nth_zero, nth_succ, wpG_true, wpG_false, condK_true, condK_false, seqK_normal, seqK_ret, seqK_exit, inBlock_normal, inBlock_ret, inBlock_exit, ends_ret, ends_normal, unmark_nil, results_nil, results_cons, one_one, one_zero, one_two, isB_undef, isB_tt, isB_ff, Bool.not_true, Bool.not_false, Option.bind_some, pick3, pickA, extractA, List.getElem?_cons_zero, List.getElem?_cons_succ, bin_lss, bin_gtr, bin_leq, bin_geq, bin_eql, bin_neq, un_not]
    exact hq _ s (A ++ [y]) [] _ _ _ _ _ _ _ _ (.inr ⟨rfl, rfl, by simp at hnn ⊢; omega⟩) (by simp [dd]) (by simpa using hr) rfl fun _ _ => rfl
  | cons x T ih =>
    intro A y s x3 x4 x6 x7 x8 x9 hnn hr hq
    have hS : (x :: T).length = T.length + 1 := rfl
    rw [hS] at hnn
    have hlt : decide (((A.length + 1 : Nat) : Int) < (n : Int)) = true := decide_eq_true (by omega)
    have a1 : indexAddrA Try.prog 23 (.slice (some (i, 0)) n none) (iv ((A.length + 1 : Nat) : Int)) = some (.ptr (some (i, 0 + (A.length + 1) * 1))) := idx_slice Try.underlying23 sz3 (by omega)
    have hs := bin_sub Try.prog 3 ((A.length + 1 : Nat) : Int) 1 ⟨by omega, by omega⟩
    have hs1 : (((A.length + 1 : Nat) : Int) - 1) = ((A.length : Nat) : Int) := by omega
    rw [hs1] at hs
    have a0 : indexAddrA Try.prog 23 (.slice (some (i, 0)) n none) (iv ((A.length : Nat) : Int)) = some (.ptr (some (i, 0 + A.length * 1))) := idx_slice Try.underlying23 sz3 (by omega)
    have c1 : ivs (A ++ y :: x :: T) = ivs (A ++ [y]) ++ iv x :: ivs T := by simp
    have c0 : ivs (A ++ y :: x :: T) = ivs A ++ iv y :: ivs (x :: T) := by simp
    have l1 : loadV Try.prog s 3 (.ptr (some (i, 0 + (A.length + 1) * 1))) = some (iv x) := hr.loadAt (k := A.length + 1) (by rw [c1]; exact get_mid (by simp)) (by omega)
    have l0 : loadV Try.prog s 3 (.ptr (some (i, 0 + A.length * 1))) = some (iv y) := hr.loadAt (k := A.length) (by rw [c0]; exact get_mid (by simp)) (by omega)
    have e3 := bin_add Try.prog 3 ((A.length + 1 : Nat) : Int) 1 ⟨by omega, by omega⟩
    have e3' : (((A.length + 1 : Nat) : Int) + 1) = ((A.length + 2 : Nat) : Int) := by omega
    refine WC.loop' ?_
    generalize hW : WC E none (CCode.loop c88l17) Q = WW
    by_cases h : x = y
    · subst h
      have hlen : (ivs (A ++ x :: x :: T)).length = n := by simp; omega
      have s1 := row_lo (n := n) (k := A.length + 1) hr (by omega) (by omega)
      simp only [c88l17, c88o4, c88o5, c88o6, c88o7, len_slice Try.underlying23, hlt, a1, a0, l1, hs, l0, s1, decide_true, wpC, wpI, wpS, wpD, wpV, wanted_none, wanted_some, vals, cev_const, cev_var, cev_loc, padV, okV_some, againP, true_and, and_true, upd_zero, upd_succ, nth_zero, nth_succ, wpG_true, wpG_false, condK_true, condK_false, seqK_normal, seqK_ret, seqK_exit, inBlock_normal, inBlock_ret, inBlock_exit, ends_ret, ends_normal, unmark_nil, results_nil, results_cons, one_one, one_zero, one_two, isB_undef, isB_tt, isB_ff, Bool.not_true, Bool.not_false, Option.bind_some, pick3, pickA, extractA, List.getElem?_cons_zero, List.getElem?_cons_succ, bin_lss, bin_gtr, bin_leq, bin_geq, bin_eql, bin_neq, un_not]
      have hc : A ++ x :: x :: T = (A ++ [x]) ++ ([] ++ x :: T) := by simp
      rw [hc] at hr
      have hwl : (A ++ [x]).length = A.length + 1 := by simp
      have := comp_in hE (n := n) (k0 := A.length + 1) hlo hn (by omega) (Q := InBlock 2 (seqK (wpC E none (.seq (.ops c88o14) (.seq (.ops c88o15) .ret)) (InBlock 1 (seqK (wpC E none (.ops c88o16) (seqK WW Q)) (seqK WW Q)))) (InBlock 1 (seqK (wpC E none (.ops c88o16) (seqK WW Q)) (seqK WW Q))))) x1 x5 (.bool true) (.bool true) T (A ++ [x]) [] x s 1 x8 x9 (by omega) (by rw [hwl]; simp) (by rw [hwl]; simp; omega) (by omega) hr ?_
      · rw [hwl] at this
        simp only [wpC, wpI, wpS, wpD, wpV, wanted_none, wanted_some, vals, cev_const, cev_var, cev_loc, padV, okV_some, againP, true_and, and_true, upd_zero, upd_succ, nth_zero, nth_succ, wpG_true, wpG_false, condK_true, condK_false, seqK_normal, seqK_ret, seqK_exit, inBlock_normal, inBlock_ret, inBlock_exit, ends_ret, ends_normal, unmark_nil, results_nil, results_cons, one_one, one_zero, one_two, isB_undef, isB_tt, isB_ff, Bool.not_true, Bool.not_false, Option.bind_some, pick3, pickA, extractA, List.getElem?_cons_zero, List.getElem?_cons_succ, bin_lss, bin_gtr, bin_leq, bin_geq, bin_eql, bin_neq, un_not] at this
        exact this
      · intro s' W' G' y4 y8 y9 f1 f2 f3 f4 f5
        have hlen' : (ivs (W' ++ G')).length = n := by simp; omega
        have t1 := row_lo (n := n) (k := W'.length) f3 (by omega) (by omega)
        rw [ivs_append] at f3
        obtain ⟨s2, Z, g1, g2, g3, g4, g5⟩ := row_clear f3 (k := W'.length) (m := n - W'.length) (by simp) (by simp; omega)
        have t2 := row_hi (n := n) (k := W'.length) g3 (by simp)
        simp only [c88o14, c88o15, t1, g1, t2, if_true, wpC, wpI, wpS, wpD, wpV, wanted_none, wanted_some, vals, cev_const, cev_var, cev_loc, padV, okV_some, againP, true_and, and_true, upd_zero, upd_succ, nth_zero, nth_succ, wpG_true, wpG_false, condK_true, condK_false, seqK_normal, seqK_ret, seqK_exit, inBlock_normal, inBlock_ret, inBlock_exit, ends_ret, ends_normal, unmark_nil, results_nil, results_cons, one_one, one_zero, one_two, isB_undef, isB_tt, isB_ff, Bool.not_true, Bool.not_false, Option.bind_some, pick3, pickA, extractA, List.getElem?_cons_zero, List.getElem?_cons_succ, bin_lss, bin_gtr, bin_leq, bin_geq, bin_eql, bin_neq, un_not]
        have hd : dd x (x :: T) = dd x T := by simp [dd]
        exact hq _ s2 W' Z _ _ _ _ _ _ _ _ (.inl ⟨rfl, rfl⟩) (by rw [f1, hd]; simp) g3 (by omega) fun z hz => (g5 z hz).trans (f5 z hz)
    · simp only [c88l17, c88o4, c88o5, c88o16, len_slice Try.underlying23, hlt, a1, a0, l1, hs, l0, e3, e3', h, decide_false, wpC, wpI, wpS, wpD, wpV, wanted_none, wanted_some, vals, cev_const, cev_var, cev_loc, padV, okV_some, againP, true_and, and_true, upd_zero, upd_succ, nth_zero, nth_succ, wpG_true, wpG_false, condK_true, condK_false, seqK_normal, seqK_ret, seqK_exit, inBlock_normal, inBlock_ret, inBlock_exit, ends_ret, ends_normal, unmark_nil, results_nil, results_cons, one_one, one_zero, one_two, isB_undef, isB_tt, isB_ff, Bool.not_true, Bool.not_false, Option.bind_some, pick3, pickA, extractA, List.getElem?_cons_zero, List.getElem?_cons_succ, bin_lss, bin_gtr, bin_leq, bin_geq, bin_eql, bin_neq, un_not]
      rw [← hW]
      have hwl : (A ++ [y]).length = A.length + 1 := by simp
      have hc : A ++ y :: x :: T = (A ++ [y]) ++ x :: T := by simp
      rw [hc] at hr
      have := ih (A ++ [y]) x s x3 x4 (.bool true) (.bool false) x8 x9 (by rw [hwl]; omega) hr ?_
      · rw [hwl] at this
        exact this
      · intro e s' W' G' y1 y2 y3 y4 y6 y7 y8 y9 f1 f2 f3 f4 f5
        exact hq e s' W' G' y1 y2 y3 y4 y6 y7 y8 y9 f1 (by rw [f2]; simp [dd, h]) f3 f4 f5
/-- Compact. -/
theorem comp_ok {E : Env} (hE : Good E) {lo : Nat} {s : ASt} {v : AV} {L : List Int} (h : IntArr lo s v L) (hL : L.length ≤ 1000) :
    WF E 88 [v] (fun r s' => SliceAt s'.next s' r (ivs (compV L)) ∧ (∀ j, slot r = some j → lo ≤ j ∨ slot v = some j) ∧ Old lo s s' ∧ s'.next = s.next ∧ eqA r r = true) s := by
  refine hE.go comp88 (by decide) rfl ?_
  have fin : ∀ {s' : ASt} {i : Nat} {W : List Int} {G : List AV}, RowAt s' i (ivs W ++ G) → i < s'.next → SliceAt s'.next s' (.slice (some (i, 0)) W.length none) (ivs W) := by
    intro s' i W G hr hi
    refine ⟨some (i, 0), none, by simp, fun k u hk => ⟨i, 0, rfl, hi, ?_⟩⟩
    rw [Nat.zero_add]
    exact hr.load1 (by rw [List.getElem?_append_left (lt_of_get hk)]; exact hk)
  by_cases hlt : L.length < 2
  · have hd : decide ((L.length : Int) < 2) = true := decide_eq_true (by omega)
    have hc : compV L = L := by
      cases L with
      | nil => rfl
      | cons x r => cases r with
        | nil => rfl
        | cons y r => simp at hlt; omega
    simp only [c88, c88o0, c88o1, c88o2, h.len, hd, wpC, wpI, wpS, wpD, wpV, wanted_none, wanted_some, vals, cev_const, cev_var, cev_loc, padV, okV_some, againP, true_and, and_true, upd_zero, upd_succ, nth_zero, nth_succ, wpG_true, wpG_false, condK_true, condK_false, seqK_normal, seqK_ret, seqK_exit, inBlock_normal, inBlock_ret, inBlock_exit, ends_ret, ends_normal, unmark_nil, results_nil, results_cons, one_one, one_zero, one_two, isB_undef, isB_tt, isB_ff, Bool.not_true, Bool.not_false, Option.bind_some, pick3, pickA, extractA, List.getElem?_cons_zero, List.getElem?_cons_succ, bin_lss, bin_gtr, bin_leq, bin_geq, bin_eql, bin_neq, un_not]
    rw [hc]
    refine ⟨?_, fun j hj => .inr hj, Old.refl _ _, ?_⟩
    rotate_left
    · rcases h with ⟨a, rfl, rfl⟩ | ⟨i, rfl, h1, h2, h3⟩
      · exact eqA_slice fun _ => ⟨0, rfl⟩
      · exact eqA_slice fun e => by cases e
    rcases h with ⟨a, rfl, rfl⟩ | ⟨i, rfl, h1, h2, h3⟩
    · exact ⟨a, some 0, rfl, fun k u hk => by simp at hk⟩
    · exact fin (G := []) (by simpa using h3) h2
  · have hd : decide ((L.length : Int) < 2) = false := decide_eq_false (by omega)
    rcases h with ⟨a, rfl, rfl⟩ | ⟨i, rfl, h1, h2, h3⟩
    · simp at hlt
    cases L with
    | nil => simp at hlt
    | cons y R =>
      simp only [c88, c88o0, c88o1, c88o3, len_slice Try.underlying23, hd, wpC, wpI, wpS, wpD, wpV, wanted_none, wanted_some, vals, cev_const, cev_var, cev_loc, padV, okV_some, againP, true_and, and_true, upd_zero, upd_succ, nth_zero, nth_succ, wpG_true, wpG_false, condK_true, condK_false, seqK_normal, seqK_ret, seqK_exit, inBlock_normal, inBlock_ret, inBlock_exit, ends_ret, ends_normal, unmark_nil, results_nil, results_cons, one_one, one_zero, one_two, isB_undef, isB_tt, isB_ff, Bool.not_true, Bool.not_false, Option.bind_some, pick3, pickA, extractA, List.getElem?_cons_zero, List.getElem?_cons_succ, bin_lss, bin_gtr, bin_leq, bin_geq, bin_eql, bin_neq, un_not]
      refine comp_out hE (n := (y :: R).length) h1 hL (.slice none 0 (some 0)) _ R [] y s _ _ _ _ _ _ (by simp; omega) h3 ?_
      rintro e s' W' G' y1 y2 y3 y4 y6 y7 y8 y9 (⟨rfl, rfl⟩ | ⟨rfl, rfl, hl⟩) f2 f3 f4 f5
      · simp only [wpC, wpI, wpS, wpD, wpV, wanted_none, wanted_some, vals, cev_const, cev_var, cev_loc, padV, okV_some, againP, true_and, and_true, upd_zero, upd_succ, nth_zero, nth_succ, wpG_true, wpG_false, condK_true, condK_false, seqK_normal, seqK_ret, seqK_exit, inBlock_normal, inBlock_ret, inBlock_exit, ends_ret, ends_normal, unmark_nil, results_nil, results_cons, one_one, one_zero, one_two, isB_undef, isB_tt, isB_ff, Bool.not_true, Bool.not_false, Option.bind_some, pick3, pickA, extractA, List.getElem?_cons_zero, List.getElem?_cons_succ, bin_lss, bin_gtr, bin_leq, bin_geq, bin_eql, bin_neq, un_not]
        rw [show compV (y :: R) = W' from f2.symm]
        exact ⟨fin f3 (by omega), fun j hj => .inr hj, ⟨by omega, fun z hz => f5 z (by omega)⟩, f4, eqA_slice fun e => by cases e⟩
      · simp only [c88o18, if_true, wpC, wpI, wpS, wpD, wpV, wanted_none, wanted_some, vals, cev_const, cev_var, cev_loc, padV, okV_some, againP, true_and, and_true, upd_zero, upd_succ, nth_zero, nth_succ, wpG_true, wpG_false, condK_true, condK_false, seqK_normal, seqK_ret, seqK_exit, inBlock_normal, inBlock_ret, inBlock_exit, ends_ret, ends_normal, unmark_nil, results_nil, results_cons, one_one, one_zero, one_two, isB_undef, isB_tt, isB_ff, Bool.not_true, Bool.not_false, Option.bind_some, pick3, pickA, extractA, List.getElem?_cons_zero, List.getElem?_cons_succ, bin_lss, bin_gtr, bin_leq, bin_geq, bin_eql, bin_neq, un_not]
        rw [show compV (y :: R) = W' from f2.symm, ← hl]
        exact ⟨fin f3 (by omega), fun j hj => .inr hj, ⟨by omega, fun z hz => f5 z (by omega)⟩, f4, eqA_slice fun e => by cases e⟩
end Go.Proofs.Ytilhhmkdcoajnaa.Am

/- What the program's clean computes of a row of literals; conditions: twelve at most, each of which may hold. -/
set_option linter.unusedVariables false
set_option linter.unusedSimpArgs false
namespace Go.Proofs.Ytilhhmkdcoajnaa.Am
open Go Go.Proofs

theorem rowAt_of_load1 {s : ASt} {i o : Nat} {u : AV} (h : load1 s i o = some u) : ∃ r, rowAt s i = some r ∧ o < r.n ∧ r.c.get o = some u := by
  unfold load1 at h
  simp only [Option.bind_eq_some_iff] at h
  obtain ⟨r, h1, h2⟩ := h
  cases hb : Nat.blt o r.n with
  | true => rw [hb] at h2; exact ⟨r, h1, by simpa [Nat.blt_eq] using hb, h2⟩
  | false => rw [hb] at h2; cases h2
theorem CellsAt.loadN {b : Nat} {s : ASt} {i o : Nat} {cs : List AV} (h : CellsAt b s (some (i, o)) cs) (hne : cs ≠ []) : loadN s i o cs.length = some cs := by
  have hp : ∀ k u, cs[k]? = some u → load1 s i (o + k) = some u := by
    intro k u hk
    obtain ⟨i', o', e, _, h2⟩ := h k u hk
    injection e with e; injection e with e1 e2; subst e1; subst e2
    exact h2
  have hpos : 0 < cs.length := List.length_pos_iff.2 hne
  obtain ⟨r, h1, h2, _⟩ := rowAt_of_load1 (hp (cs.length - 1) cs[cs.length - 1] (List.getElem?_eq_getElem (by omega)))
  unfold Go.Proofs.Ytilhhmkdcoajnaa.Am.loadN
  rw [h1]
  have hb : Nat.ble (o + cs.length) r.n = true := ble_of (by omega)
  simp only [Option.bind_some, guardB, hb, cond_true]
  refine take_of _ _ fun j u hj => ?_
  obtain ⟨r', g1, _, g3⟩ := rowAt_of_load1 (hp j u hj)
  rw [h1] at g1; injection g1 with g1; subst g1
  exact g3
theorem SliceAt.src {b : Nat} {s : ASt} {a : Option (Nat × Nat)} {n : Nat} {cap : Option Nat} {cs : List AV} (h : CellsAt b s a cs) (hn : cs.length = n) (h0 : 0 < n) {e : TypeId} : srcCells Try.prog s e 1 (.slice a n cap) = some (n, cs) := by
  subst hn
  have hne : cs ≠ [] := List.length_pos_iff.1 h0
  cases a with
  | none =>
    obtain ⟨i, o, e, _⟩ := h 0 cs[0] (List.getElem?_eq_getElem h0)
    cases e
  | some io =>
    obtain ⟨i, o⟩ := io
    have := srcN_load (size := 1) (by rw [Nat.mul_one]; exact h.loadN hne)
    simp [srcCells, this]

theorem eq_nil23 {a : Option (Nat × Nat)} {n : Nat} {cap : Option Nat} : binA Try.prog .eql 23 (.slice a n cap) (.slice none 0 (some 0)) = some (.bool a.isNone) := by
  have h : isSliceT Try.prog 23 = true := by simp [isSliceT, Try.underlying23]
  cases a <;> simp [binA, eqV, guardB, h]

set_option maxRecDepth 8000 in
/-- Clone. -/
theorem clone_ok {E : Env} (hE : Good E) {b : Nat} {s : ASt} {v : AV} {L : List Int} (hb : b ≤ s.next) (h : SliceAt b s v (ivs L)) (hL : L.length ≤ 1000000) :
    WF E 60 [v] (fun r s' => IntArr s.next s' r L ∧ Old s.next s s') s := by
  obtain ⟨a, cap, rfl, hc⟩ := h
  rw [ivs_len] at *
  refine hE.go comp60 (by decide) rfl ?_
  cases ha : a with
  | none =>
    subst ha
    have hL0 : L = [] := by
      cases L with
      | nil => rfl
      | cons x L => obtain ⟨i, o, e, _⟩ := hc 0 (iv x) rfl; cases e
    subst hL0
    simp only [c60, c60o0, c60o1, c60o2, eq_nil23, Option.isNone_none, wpC, wpI, wpS, wpD, wpV, wanted_none, wanted_some, vals, cev_const, cev_var, cev_loc, padV, okV_some, againP, true_and, and_true, upd_zero, upd_succ, nth_zero, nth_succ, wpG_true, wpG_false, condK_true, condK_false, seqK_normal, seqK_ret, seqK_exit, inBlock_normal, inBlock_ret, inBlock_exit, ends_ret, ends_normal, unmark_nil, results_nil, results_cons, one_one, one_zero, one_two, isB_undef, isB_tt, isB_ff, Bool.not_true, Bool.not_false, Option.bind_some, pick3, pickA, extractA, List.getElem?_cons_zero, List.getElem?_cons_succ, bin_lss, bin_gtr, bin_leq, bin_geq, bin_eql, bin_neq, un_not]
    exact ⟨.inl ⟨none, rfl, rfl⟩, Old.refl _ _⟩
  | some io =>
    obtain ⟨i, o⟩ := io
    subst ha
    have b0 := bld_zero (P := Try.prog) (t := 23) Try.underlying23 sz3 zr3 rfl
    have hmv : ∀ (m : Nat) (i : Nat), Made.val i (.slice m) = .slice (some (i, 0)) m (some m) := fun _ _ => rfl
    generalize hs1 : newObj s (mkRow 3 1 []) = s1
    have n1 : s1.next = s.next + 1 := by rw [← hs1]; rfl
    have o1 : Old s.next s s1 := by rw [← hs1]; exact Old.new s _
    have hld : loadN s1 s.next 0 (0 * 1) = some [] := by
      obtain ⟨r, h1, h2, _⟩ := holds_mkRow 3 1 []
      exact loadN_holds (s := s1) (i := s.next) (by rw [← hs1, heap_new, if_pos rfl, h1]) h2 0 [] (Nat.le_refl _) (fun j u hj => by simp at hj)
    have hx : isSliceOrStr Try.prog 23 = true := strx 23 3 Try.underlying23
    cases hLc : L with
    | nil =>
      subst hLc
      have hsrc : srcCells Try.prog s1 3 1 (.slice (some (i, o)) 0 cap) = some (0, []) := rfl
      have happ : appendA Try.prog s1 [23, 23] [.slice (some (s.next, 0)) 0 (some 0), .slice (some (i, o)) 0 cap] = some (.slice (some (s.next, 0)) 0 (some 0), s1) := by
        rw [appendA_eq Try.underlying23 sz3 by3 (by decide) hx hsrc rfl (by omega) (by omega)]
        rfl
      simp only [c60, c60o0, c60o1, c60o3, eq_nil23, Option.isNone_some, List.length_nil, b0, hs1, hmv, happ, wpC, wpI, wpS, wpD, wpV, wanted_none, wanted_some, vals, cev_const, cev_var, cev_loc, padV, okV_some, againP, true_and, and_true, upd_zero, upd_succ, nth_zero, nth_succ, wpG_true, wpG_false, condK_true, condK_false, seqK_normal, seqK_ret, seqK_exit, inBlock_normal, inBlock_ret, inBlock_exit, ends_ret, ends_normal, unmark_nil, results_nil, results_cons, one_one, one_zero, one_two, isB_undef, isB_tt, isB_ff, Bool.not_true, Bool.not_false, Option.bind_some, pick3, pickA, extractA, List.getElem?_cons_zero, List.getElem?_cons_succ, bin_lss, bin_gtr, bin_leq, bin_geq, bin_eql, bin_neq, un_not]
      exact ⟨.inl ⟨_, rfl, rfl⟩, o1⟩
    | cons x T =>
      rw [← hLc]
      have hne : 0 < L.length := by rw [hLc]; simp
      have hc1 : CellsAt b s1 (some (i, o)) (ivs L) := hc.old o1 hb
      have hsrc := SliceAt.src (e := 3) (cap := cap) hc1 (ivs_len L) hne
      have happ : appendA Try.prog s1 [23, 23] [.slice (some (s.next, 0)) 0 (some 0), .slice (some (i, o)) L.length cap] = some (.slice (some (s1.next, 0)) L.length none, newObj s1 (grownRow 3 1 (Tree.fill .leaf 0 (ivs L)) (ivs L).length none)) := by
        rw [appendA_eq Try.underlying23 sz3 by3 (by decide) hx hsrc (cells_ivs L) (by omega) (by omega)]
        simp only [appTo, appExact, show Nat.ble (0 + L.length) 0 = false from ble_off (by omega), Nat.zero_add, show Nat.ble L.length 0 = false from ble_off (by omega), cond_false, hld, Option.bind_some, appFresh, guardB, zero3, cond_true, List.nil_append, Nat.zero_add]
      simp only [c60, c60o0, c60o1, c60o3, eq_nil23, Option.isNone_some, b0, hs1, hmv, happ, wpC, wpI, wpS, wpD, wpV, wanted_none, wanted_some, vals, cev_const, cev_var, cev_loc, padV, okV_some, againP, true_and, and_true, upd_zero, upd_succ, nth_zero, nth_succ, wpG_true, wpG_false, condK_true, condK_false, seqK_normal, seqK_ret, seqK_exit, inBlock_normal, inBlock_ret, inBlock_exit, ends_ret, ends_normal, unmark_nil, results_nil, results_cons, one_one, one_zero, one_two, isB_undef, isB_tt, isB_ff, Bool.not_true, Bool.not_false, Option.bind_some, pick3, pickA, extractA, List.getElem?_cons_zero, List.getElem?_cons_succ, bin_lss, bin_gtr, bin_leq, bin_geq, bin_eql, bin_neq, un_not]
      refine ⟨.inr ⟨s1.next, rfl, by omega, Nat.lt_succ_self _, _, by rw [heap_new, if_pos rfl]; rfl, ⟨rfl, ?_⟩, rfl, rfl, rfl⟩, o1.trans ((Old.new s1 _).mono (by omega))⟩
      intro k u hk
      have hlt := lt_of_get hk
      show (Tree.fill .leaf 0 (ivs L)).get k = some u
      rw [Tree.get_fill, if_pos ⟨Nat.zero_le _, by omega⟩]
      simpa using hk

theorem IntArr.slice {lo : Nat} {s : ASt} {v : AV} {L : List Int} (h : IntArr lo s v L) : SliceAt s.next s v (ivs L) := by
  rcases h with ⟨a, rfl, rfl⟩ | ⟨i, rfl, h1, h2, h3⟩
  · exact ⟨a, some 0, rfl, CellsAt.nil⟩
  · exact ⟨some (i, 0), none, by simp, fun k u hk => ⟨i, 0, rfl, h2, by rw [Nat.zero_add]; exact h3.load1 hk⟩⟩

/-- clean's function: is this literal none? -/
theorem none_ok {E : Env} (hE : Good E) {s : ASt} (x : Int) (hx : i64 x) (hn : nullV x = false) : WF E 86 [iv x] (fun r s' => r = .bool false ∧ s = s') s := by
  refine hE.go comp86 (by decide) rfl ?_
  have h0 : decide ((signV x).2 = 0) = false := by
    refine decide_eq_false ?_
    unfold nullV at hn
    have hn' := of_decide_eq_false hn
    unfold signV
    split
    · simp
    · split
      · simp
      · exact fun _ => hn' (by omega)
  simp only [c86, c86o0, c86o1, wpC, wpI, wpS, wpD, wpV, wanted_none, wanted_some, vals, cev_const, cev_var, cev_loc, padV, okV_some, againP, true_and, and_true, upd_zero, upd_succ, nth_zero, nth_succ, wpG_true, wpG_false, condK_true, condK_false, seqK_normal, seqK_ret, seqK_exit, inBlock_normal, inBlock_ret, inBlock_exit, ends_ret, ends_normal, unmark_nil, results_nil, results_cons, one_one, one_zero, one_two, isB_undef, isB_tt, isB_ff, Bool.not_true, Bool.not_false, Option.bind_some, pick3, pickA, extractA, List.getElem?_cons_zero, List.getElem?_cons_succ, bin_lss, bin_gtr, bin_leq, bin_geq, bin_eql, bin_neq, un_not]
  refine (sign_ok hE x s hx).mono ?_
  rintro _ _ ⟨rfl, rfl⟩
  simp only [c86o2, h0, wpC, wpI, wpS, wpD, wpV, wanted_none, wanted_some, vals, cev_const, cev_var, cev_loc, padV, okV_some, againP, true_and, and_true, upd_zero, upd_succ, nth_zero, nth_succ, wpG_true, wpG_false, condK_true, condK_false, seqK_normal, seqK_ret, seqK_exit, inBlock_normal, inBlock_ret, inBlock_exit, ends_ret, ends_normal, unmark_nil, results_nil, results_cons, one_one, one_zero, one_two, isB_undef, isB_tt, isB_ff, Bool.not_true, Bool.not_false, Option.bind_some, pick3, pickA, extractA, List.getElem?_cons_zero, List.getElem?_cons_succ, bin_lss, bin_gtr, bin_leq, bin_geq, bin_eql, bin_neq, un_not]

set_option maxRecDepth 8000 in
theorem index_loop {E : Env} (hE : Good E) {s : ASt} {b : Nat} {L : List Int} (hL : I64s L) (hnn : ∀ x ∈ L, nullV x = false) (hlen : L.length < 9223372036854775808) {a : Option (Nat × Nat)} {cap : Option Nat} (hc : CellsAt b s a (ivs L)) {Q : ARes → Prop} (x2 : AV) :
    ∀ (l : List Int) (k : Nat) (x3 x6 x7 : AV), L.drop k = l → k ≤ L.length →
      (∀ (y3 y5 y6 y7 : AV), Q ⟨.exit 0, [.slice a L.length cap, .func 86 [] [], x2, y3, iv (L.length : Int), y5, y6, y7], [], s⟩) →
      WC E none (.loop c94l7) Q [.slice a L.length cap, .func 86 [] [], x2, x3, iv (L.length : Int), iv (k : Int), x6, x7] [] s := by
  intro l
  induction l with
  | nil =>
    intro k x3 x6 x7 hd hk hq
    have := drop_end hd hk
    subst this
    refine WC.loop' ?_
    simp only [c94l7, c94o2, Int.lt_irrefl, decide_false, wpC, wpI, wpS, wpD, wpV, wanted_none, wanted_some, vals, cev_const, cev_var, cev_loc, padV, okV_some, againP, true_and, and_true, upd_zero, upd_succ, nth_zero, nth_succ, wpG_true, wpG_false, condK_true, condK_false, seqK_normal, seqK_ret, seqK_exit, inBlock_normal, inBlock_ret, inBlock_exit, ends_ret, ends_normal, unmark_nil, results_nil, results_cons, one_one, one_zero, one_two, isB_undef, isB_tt, isB_ff, Bool.not_true, Bool.not_false, Option.bind_some, pick3, pickA, extractA, List.getElem?_cons_zero, List.getElem?_cons_succ, bin_lss, bin_gtr, bin_leq, bin_geq, bin_eql, bin_neq, un_not]
    exact hq _ _ _ _
  | cons x l ih =>
    intro k x3 x6 x7 hd hk hq
    obtain ⟨hlt, hx, hd'⟩ := drop_facts hd
    obtain ⟨i, o, rfl, hi, hload⟩ := hc k _ (get_ivs hx)
    have hxm : x ∈ L := List.mem_of_getElem? hx
    have e1 := idx_slice (cap := cap) (i := i) (o := o) Try.underlying23 sz3 hlt
    have e2 : loadV Try.prog s 3 (.ptr (some (i, o + k * 1))) = some (iv x) := load_one ag3 (by rw [Nat.mul_one]; exact hload)
    have hkk : decide ((k : Int) < (L.length : Int)) = true := decide_eq_true (by omega)
    have e3 := bin_add Try.prog 3 (k : Int) 1 ⟨by omega, by omega⟩
    have e3' : ((k : Int) + 1) = ((k + 1 : Nat) : Int) := by omega
    refine WC.loop' ?_
    generalize hW : WC E none (CCode.loop c94l7) Q = WW
    simp only [c94l7, c94o2, c94o3, c94o4, hkk, e1, e2, List.nil_append, List.append_nil, wpC, wpI, wpS, wpD, wpV, wanted_none, wanted_some, vals, cev_const, cev_var, cev_loc, padV, okV_some, againP, true_and, and_true, upd_zero, upd_succ, nth_zero, nth_succ, wpG_true, wpG_false, condK_true, condK_false, seqK_normal, seqK_ret, seqK_exit, inBlock_normal, inBlock_ret, inBlock_exit, ends_ret, ends_normal, unmark_nil, results_nil, results_cons, one_one, one_zero, one_two, isB_undef, isB_tt, isB_ff, Bool.not_true, Bool.not_false, Option.bind_some, pick3, pickA, extractA, List.getElem?_cons_zero, List.getElem?_cons_succ, bin_lss, bin_gtr, bin_leq, bin_geq, bin_eql, bin_neq, un_not]
    refine (none_ok hE x (hL x hxm) (hnn x hxm)).mono ?_
    rintro _ _ ⟨rfl, rfl⟩
    simp only [c94o6, e3, e3', wpC, wpI, wpS, wpD, wpV, wanted_none, wanted_some, vals, cev_const, cev_var, cev_loc, padV, okV_some, againP, true_and, and_true, upd_zero, upd_succ, nth_zero, nth_succ, wpG_true, wpG_false, condK_true, condK_false, seqK_normal, seqK_ret, seqK_exit, inBlock_normal, inBlock_ret, inBlock_exit, ends_ret, ends_normal, unmark_nil, results_nil, results_cons, one_one, one_zero, one_two, isB_undef, isB_tt, isB_ff, Bool.not_true, Bool.not_false, Option.bind_some, pick3, pickA, extractA, List.getElem?_cons_zero, List.getElem?_cons_succ, bin_lss, bin_gtr, bin_leq, bin_geq, bin_eql, bin_neq, un_not]
    rw [← hW]
    exact ih (k + 1) _ _ _ hd' hlt hq

theorem index_ok {E : Env} (hE : Good E) {s : ASt} {b : Nat} {L : List Int} (hL : I64s L) (hnn : ∀ x ∈ L, nullV x = false) (hlen : L.length < 9223372036854775808) {v : AV} (hv : SliceAt b s v (ivs L)) :
    WF E 94 [v, .func 86 [] []] (fun r s' => r = iv (-1) ∧ s = s') s := by
  obtain ⟨a, cap, rfl, hc⟩ := hv
  rw [ivs_len]
  refine hE.go comp94 (by decide) rfl ?_
  simp only [c94, c94o0, c94o1, len_slice Try.underlying23, wpC, wpI, wpS, wpD, wpV, wanted_none, wanted_some, vals, cev_const, cev_var, cev_loc, padV, okV_some, againP, true_and, and_true, upd_zero, upd_succ, nth_zero, nth_succ, wpG_true, wpG_false, condK_true, condK_false, seqK_normal, seqK_ret, seqK_exit, inBlock_normal, inBlock_ret, inBlock_exit, ends_ret, ends_normal, unmark_nil, results_nil, results_cons, one_one, one_zero, one_two, isB_undef, isB_tt, isB_ff, Bool.not_true, Bool.not_false, Option.bind_some, pick3, pickA, extractA, List.getElem?_cons_zero, List.getElem?_cons_succ, bin_lss, bin_gtr, bin_leq, bin_geq, bin_eql, bin_neq, un_not]
  refine index_loop hE hL hnn hlen hc _ L 0 _ _ _ rfl (Nat.zero_le _) ?_
  intro y3 y5 y6 y7
  simp only [c94o8, if_true, wpC, wpI, wpS, wpD, wpV, wanted_none, wanted_some, vals, cev_const, cev_var, cev_loc, padV, okV_some, againP, true_and, and_true, upd_zero, upd_succ, nth_zero, nth_succ, wpG_true, wpG_false, condK_true, condK_false, seqK_normal, seqK_ret, seqK_exit, inBlock_normal, inBlock_ret, inBlock_exit, ends_ret, ends_normal, unmark_nil, results_nil, results_cons, one_one, one_zero, one_two, isB_undef, isB_tt, isB_ff, Bool.not_true, Bool.not_false, Option.bind_some, pick3, pickA, extractA, List.getElem?_cons_zero, List.getElem?_cons_succ, bin_lss, bin_gtr, bin_leq, bin_geq, bin_eql, bin_neq, un_not]

theorem delete_ok {E : Env} (hE : Good E) {s : ASt} {b : Nat} {L : List Int} (hL : I64s L) (hnn : ∀ x ∈ L, nullV x = false) (hlen : L.length < 9223372036854775808) {v : AV} (hv : SliceAt b s v (ivs L)) :
    WF E 85 [v, .func 86 [] []] (fun r s' => r = v ∧ s = s') s := by
  refine hE.go comp85 (by decide) rfl ?_
  simp only [c85, c85o0, c85o1, wpC, wpI, wpS, wpD, wpV, wanted_none, wanted_some, vals, cev_const, cev_var, cev_loc, padV, okV_some, againP, true_and, and_true, upd_zero, upd_succ, nth_zero, nth_succ, wpG_true, wpG_false, condK_true, condK_false, seqK_normal, seqK_ret, seqK_exit, inBlock_normal, inBlock_ret, inBlock_exit, ends_ret, ends_normal, unmark_nil, results_nil, results_cons, one_one, one_zero, one_two, isB_undef, isB_tt, isB_ff, Bool.not_true, Bool.not_false, Option.bind_some, pick3, pickA, extractA, List.getElem?_cons_zero, List.getElem?_cons_succ, bin_lss, bin_gtr, bin_leq, bin_geq, bin_eql, bin_neq, un_not]
  refine (index_ok hE hL hnn hlen hv).mono ?_
  rintro _ _ ⟨rfl, rfl⟩
  simp only [c85o2, c85o3, decide_true, wpC, wpI, wpS, wpD, wpV, wanted_none, wanted_some, vals, cev_const, cev_var, cev_loc, padV, okV_some, againP, true_and, and_true, upd_zero, upd_succ, nth_zero, nth_succ, wpG_true, wpG_false, condK_true, condK_false, seqK_normal, seqK_ret, seqK_exit, inBlock_normal, inBlock_ret, inBlock_exit, ends_ret, ends_normal, unmark_nil, results_nil, results_cons, one_one, one_zero, one_two, isB_undef, isB_tt, isB_ff, Bool.not_true, Bool.not_false, Option.bind_some, pick3, pickA, extractA, List.getElem?_cons_zero, List.getElem?_cons_succ, bin_lss, bin_gtr, bin_leq, bin_geq, bin_eql, bin_neq, un_not]

theorem sortV_len (L : List Int) : (sortV L).length = L.length := by
  have : ∀ (R q : List Int), (R.foldl (fun q x => down x q) q).length = q.length + R.length := by
    intro R
    induction R with
    | nil => intro q; rfl
    | cons y R ih => intro q; simp only [List.foldl_cons, ih, down_len, List.length_cons]; omega
  unfold sortV
  rw [List.length_reverse, this]; simp
/-- clean. -/
theorem clean_ok {E : Env} (hE : Good E) {s : ASt} {b : Nat} {L : List Int} (hL : I64s L) (hnn : ∀ x ∈ L, nullV x = false) (hlen : L.length ≤ 12) (hb : b ≤ s.next) {v : AV} (hv : SliceAt b s v (ivs L)) :
    WF E 56 [v] (fun r s' => SliceAt s'.next s' r (ivs (compV (sortV L))) ∧ Old s.next s s' ∧ eqA r r = true) s := by
  refine hE.go comp56 (by decide) rfl ?_
  simp only [c56, c56o0, c56o1, wpC, wpI, wpS, wpD, wpV, wanted_none, wanted_some, vals, cev_const, cev_var, cev_loc, padV, okV_some, againP, true_and, and_true, upd_zero, upd_succ, nth_zero, nth_succ, wpG_true, wpG_false, condK_true, condK_false, seqK_normal, seqK_ret, seqK_exit, inBlock_normal, inBlock_ret, inBlock_exit, ends_ret, ends_normal, unmark_nil, results_nil, results_cons, one_one, one_zero, one_two, isB_undef, isB_tt, isB_ff, Bool.not_true, Bool.not_false, Option.bind_some, pick3, pickA, extractA, List.getElem?_cons_zero, List.getElem?_cons_succ, bin_lss, bin_gtr, bin_leq, bin_geq, bin_eql, bin_neq, un_not]
  refine (clone_ok hE hb hv (by omega)).mono ?_
  rintro v1 s1 ⟨h1, h2⟩
  simp only [wpC, wpI, wpS, wpD, wpV, wanted_none, wanted_some, vals, cev_const, cev_var, cev_loc, padV, okV_some, againP, true_and, and_true, upd_zero, upd_succ, nth_zero, nth_succ, wpG_true, wpG_false, condK_true, condK_false, seqK_normal, seqK_ret, seqK_exit, inBlock_normal, inBlock_ret, inBlock_exit, ends_ret, ends_normal, unmark_nil, results_nil, results_cons, one_one, one_zero, one_two, isB_undef, isB_tt, isB_ff, Bool.not_true, Bool.not_false, Option.bind_some, pick3, pickA, extractA, List.getElem?_cons_zero, List.getElem?_cons_succ, bin_lss, bin_gtr, bin_leq, bin_geq, bin_eql, bin_neq, un_not]
  refine (delete_ok hE hL hnn (by omega) h1.slice).mono ?_
  rintro _ _ ⟨rfl, rfl⟩
  simp only [c56o2, wpC, wpI, wpS, wpD, wpV, wanted_none, wanted_some, vals, cev_const, cev_var, cev_loc, padV, okV_some, againP, true_and, and_true, upd_zero, upd_succ, nth_zero, nth_succ, wpG_true, wpG_false, condK_true, condK_false, seqK_normal, seqK_ret, seqK_exit, inBlock_normal, inBlock_ret, inBlock_exit, ends_ret, ends_normal, unmark_nil, results_nil, results_cons, one_one, one_zero, one_two, isB_undef, isB_tt, isB_ff, Bool.not_true, Bool.not_false, Option.bind_some, pick3, pickA, extractA, List.getElem?_cons_zero, List.getElem?_cons_succ, bin_lss, bin_gtr, bin_leq, bin_geq, bin_eql, bin_neq, un_not]
  refine (sort_ok hE h1 hlen).mono ?_
  rintro r2 s2 ⟨h3, h4, h5⟩
  simp only [c56o3, wpC, wpI, wpS, wpD, wpV, wanted_none, wanted_some, vals, cev_const, cev_var, cev_loc, padV, okV_some, againP, true_and, and_true, upd_zero, upd_succ, nth_zero, nth_succ, wpG_true, wpG_false, condK_true, condK_false, seqK_normal, seqK_ret, seqK_exit, inBlock_normal, inBlock_ret, inBlock_exit, ends_ret, ends_normal, unmark_nil, results_nil, results_cons, one_one, one_zero, one_two, isB_undef, isB_tt, isB_ff, Bool.not_true, Bool.not_false, Option.bind_some, pick3, pickA, extractA, List.getElem?_cons_zero, List.getElem?_cons_succ, bin_lss, bin_gtr, bin_leq, bin_geq, bin_eql, bin_neq, un_not]
  refine (comp_ok hE h3 ?_).mono ?_
  · rw [sortV_len]; omega
  rintro v3 s3 ⟨h6, h7, h8, h9, h10⟩
  simp only [wpC, wpI, wpS, wpD, wpV, wanted_none, wanted_some, vals, cev_const, cev_var, cev_loc, padV, okV_some, againP, true_and, and_true, upd_zero, upd_succ, nth_zero, nth_succ, wpG_true, wpG_false, condK_true, condK_false, seqK_normal, seqK_ret, seqK_exit, inBlock_normal, inBlock_ret, inBlock_exit, ends_ret, ends_normal, unmark_nil, results_nil, results_cons, one_one, one_zero, one_two, isB_undef, isB_tt, isB_ff, Bool.not_true, Bool.not_false, Option.bind_some, pick3, pickA, extractA, List.getElem?_cons_zero, List.getElem?_cons_succ, bin_lss, bin_gtr, bin_leq, bin_geq, bin_eql, bin_neq, un_not]
  exact ⟨h6, h2.trans (h4.trans h8), h10⟩
end Go.Proofs.Ytilhhmkdcoajnaa.Am

/- The program's clean and the reference's are one: both are the literals, rising, each once; conditions: none is null. -/
set_option linter.unusedVariables false
set_option linter.unusedSimpArgs false
namespace Go.Proofs.Ytilhhmkdcoajnaa.Am
open Go Go.Proofs

abbrev Rise (l : List Int) : Prop := l.Pairwise (· < ·)
def ins (x : Int) : List Int → List Int
  | [] => [x]
  | y :: l => if y < x then y :: ins x l else if y = x then y :: l else x :: y :: l
theorem insV_ins (x : Int) : ∀ L, insV x L = ins x L
  | [] => rfl
  | y :: l => by
    have ih := insV_ins x l
    unfold insV at ih ⊢
    unfold ins atV
    by_cases h : y < x
    · rw [if_pos h, if_pos h, List.getElem?_cons_succ, ← ih]
      split
      · rfl
      · rfl
    · rw [if_neg h, if_neg h]
      by_cases h2 : y = x
      · subst h2; simp
      · rw [if_neg (by simpa using h2), if_neg h2]; rfl
theorem ins_mem (x z : Int) : ∀ L, z ∈ ins x L ↔ z = x ∨ z ∈ L
  | [] => by simp [ins]
  | y :: l => by
    have ih := ins_mem x z l
    unfold ins
    split
    · simp only [List.mem_cons, ih]
      constructor
      · rintro (h | h | h)
        · exact .inr (.inl h)
        · exact .inl h
        · exact .inr (.inr h)
      · rintro (h | h | h)
        · exact .inr (.inl h)
        · exact .inl h
        · exact .inr (.inr h)
    · split
      · rename_i h2; subst h2; simp only [List.mem_cons]
        constructor
        · intro h; exact .inr h
        · rintro (h | h)
          · exact .inl h
          · exact h
      · simp only [List.mem_cons]
theorem ins_rise {x : Int} : ∀ {L}, Rise L → Rise (ins x L)
  | [], _ => by simp [ins]
  | y :: l, h => by
    obtain ⟨h1, h2⟩ := List.pairwise_cons.1 h
    unfold ins
    split
    · rename_i hlt
      refine List.pairwise_cons.2 ⟨fun z hz => ?_, ins_rise h2⟩
      rcases (ins_mem x z l).1 hz with rfl | hz
      · exact hlt
      · exact h1 z hz
    · split
      · exact h
      · rename_i hn1 hn2
        refine List.pairwise_cons.2 ⟨fun z hz => ?_, h⟩
        rcases List.mem_cons.1 hz with rfl | hz
        · omega
        · have := h1 z hz; omega
theorem cleanV_rise : ∀ (l : List Int) {out : List Int}, Rise out → Rise (cleanV out l)
  | [], _, h => h
  | x :: l, out, h => by
    unfold cleanV
    split
    · exact cleanV_rise l h
    · rw [insV_ins]; exact cleanV_rise l (ins_rise h)
theorem cleanV_mem' : ∀ (l : List Int) {out : List Int} (z : Int), z ∈ cleanV out l ↔ z ∈ out ∨ (z ∈ l ∧ nullV z = false)
  | [], out, z => by simp [cleanV]
  | x :: l, out, z => by
    unfold cleanV
    cases hx : nullV x with
    | true =>
      rw [if_pos rfl, cleanV_mem' l]
      constructor
      · rintro (h | ⟨h, k⟩)
        · exact .inl h
        · exact .inr ⟨List.mem_cons_of_mem _ h, k⟩
      · rintro (h | ⟨h, k⟩)
        · exact .inl h
        · rcases List.mem_cons.1 h with rfl | h
          · rw [hx] at k; cases k
          · exact .inr ⟨h, k⟩
    | false =>
      rw [if_neg (by simp), cleanV_mem' l, insV_ins, ins_mem]
      constructor
      · rintro ((rfl | h) | ⟨h, k⟩)
        · exact .inr ⟨List.mem_cons_self, hx⟩
        · exact .inl h
        · exact .inr ⟨List.mem_cons_of_mem _ h, k⟩
      · rintro (h | ⟨h, k⟩)
        · exact .inl (.inr h)
        · rcases List.mem_cons.1 h with rfl | h
          · exact .inl (.inl rfl)
          · exact .inr ⟨h, k⟩
theorem rise_eq : ∀ {A B : List Int}, Rise A → Rise B → (∀ z, z ∈ A ↔ z ∈ B) → A = B
  | [], [], _, _, _ => rfl
  | [], b :: B, _, _, h => by have := (h b).2 List.mem_cons_self; simp at this
  | a :: A, [], _, _, h => by have := (h a).1 List.mem_cons_self; simp at this
  | a :: A, b :: B, hA, hB, h => by
    obtain ⟨a1, a2⟩ := List.pairwise_cons.1 hA
    obtain ⟨b1, b2⟩ := List.pairwise_cons.1 hB
    have e : a = b := by
      rcases List.mem_cons.1 ((h a).1 List.mem_cons_self) with e | e
      · exact e
      · rcases List.mem_cons.1 ((h b).2 List.mem_cons_self) with e' | e'
        · exact e'.symm
        · have := b1 a e; have := a1 b e'; omega
    subst e
    rw [rise_eq a2 b2 fun z => ?_]
    constructor
    · intro hz
      rcases List.mem_cons.1 ((h z).1 (List.mem_cons_of_mem _ hz)) with e | e
      · subst e; have := a1 z hz; omega
      · exact e
    · intro hz
      rcases List.mem_cons.1 ((h z).2 (List.mem_cons_of_mem _ hz)) with e | e
      · subst e; have := b1 z hz; omega
      · exact e
abbrev Fall (l : List Int) : Prop := l.Pairwise (fun a b => b ≤ a)
theorem down_mem (x z : Int) : ∀ q, z ∈ down x q ↔ z = x ∨ z ∈ q
  | [] => by simp [down]
  | y :: q => by
    have ih := down_mem x z q
    unfold down
    split
    · simp only [List.mem_cons, ih]
      constructor
      · rintro (h | h | h)
        · exact .inr (.inl h)
        · exact .inl h
        · exact .inr (.inr h)
      · rintro (h | h | h)
        · exact .inr (.inl h)
        · exact .inl h
        · exact .inr (.inr h)
    · simp only [List.mem_cons]
theorem down_fall {x : Int} : ∀ {q}, Fall q → Fall (down x q)
  | [], _ => by simp [down]
  | y :: q, h => by
    obtain ⟨h1, h2⟩ := List.pairwise_cons.1 h
    unfold down
    split
    · rename_i hlt
      refine List.pairwise_cons.2 ⟨fun z hz => ?_, down_fall h2⟩
      rcases (down_mem x z q).1 hz with rfl | hz
      · omega
      · exact h1 z hz
    · rename_i hn
      refine List.pairwise_cons.2 ⟨fun z hz => ?_, h⟩
      rcases List.mem_cons.1 hz with rfl | hz
      · omega
      · have := h1 z hz; omega
theorem foldDown : ∀ (R : List Int) {q : List Int}, Fall q → Fall (R.foldl (fun q x => down x q) q) ∧ ∀ z, z ∈ R.foldl (fun q x => down x q) q ↔ z ∈ q ∨ z ∈ R
  | [], q, h => ⟨h, fun z => by simp⟩
  | x :: R, q, h => by
    obtain ⟨h1, h2⟩ := foldDown R (down_fall (x := x) h)
    refine ⟨h1, fun z => ?_⟩
    rw [List.foldl_cons, h2, down_mem, List.mem_cons]
    constructor
    · rintro ((h | h) | h)
      · exact .inr (.inl h)
      · exact .inl h
      · exact .inr (.inr h)
    · rintro (h | h | h)
      · exact .inl (.inr h)
      · exact .inl (.inl h)
      · exact .inr h
theorem dd_rise : ∀ (l : List Int) (p : Int), (p :: l).Pairwise (· ≤ ·) → Rise (p :: dd p l) ∧ ∀ z, z ∈ p :: dd p l ↔ z ∈ p :: l
  | [], p, _ => ⟨by simp [dd], fun z => by simp [dd]⟩
  | x :: l, p, h => by
    obtain ⟨h1, h2⟩ := List.pairwise_cons.1 h
    unfold dd
    split
    · rename_i e
      subst e
      obtain ⟨k1, k2⟩ := dd_rise l x h2
      refine ⟨k1, fun z => ?_⟩
      rw [k2, List.mem_cons, List.mem_cons, List.mem_cons]
      constructor
      · rintro (h | h)
        · exact .inl h
        · exact .inr (.inr h)
      · rintro (h | h | h)
        · exact .inl h
        · exact .inl h
        · exact .inr h
    · rename_i hne
      obtain ⟨k1, k2⟩ := dd_rise l x h2
      refine ⟨List.pairwise_cons.2 ⟨fun z hz => ?_, k1⟩, fun z => ?_⟩
      · have hpx := h1 x List.mem_cons_self
        rcases List.mem_cons.1 ((k2 z).1 hz) with rfl | hz'
        · omega
        · have := (List.pairwise_cons.1 h2).1 z hz'; omega
      · rw [List.mem_cons, k2, List.mem_cons (l := x :: l)]
theorem clean_eq {L : List Int} (hnn : ∀ x ∈ L, nullV x = false) : compV (sortV L) = cleanV [] L := by
  obtain ⟨h1, h2⟩ := foldDown L (q := []) .nil
  have hs : (sortV L).Pairwise (· ≤ ·) := by
    unfold sortV
    rw [List.pairwise_reverse]
    exact h1
  have hm : ∀ z, z ∈ sortV L ↔ z ∈ L := by
    intro z; unfold sortV; rw [List.mem_reverse, h2]; simp
  have hc : Rise (compV (sortV L)) ∧ ∀ z, z ∈ compV (sortV L) ↔ z ∈ sortV L := by
    cases hl : sortV L with
    | nil => exact ⟨by simp [compV], fun z => by simp [compV]⟩
    | cons p l => rw [hl] at hs; exact dd_rise l p hs
  refine rise_eq hc.1 (cleanV_rise L .nil) fun z => ?_
  rw [hc.2, hm, cleanV_mem']
  constructor
  · intro h; exact .inr ⟨h, hnn z h⟩
  · rintro (h | h)
    · cases h
    · exact h.1
end Go.Proofs.Ytilhhmkdcoajnaa.Am
