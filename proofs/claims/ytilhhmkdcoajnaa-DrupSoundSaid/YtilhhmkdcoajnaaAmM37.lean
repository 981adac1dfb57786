/- What the reference's function Follows of layer 20 computes; conditions: the numbers fit. -/
import Derived.Test.YtilhhmkdcoajnaaAmM36
import Derived.Test.YtilhhmkdcoajnaaAmDrup3
set_option linter.unusedVariables false
set_option linter.unusedSimpArgs false
namespace Go.Proofs.Ytilhhmkdcoajnaa.Am
open Go Go.Proofs

theorem Dest.slot_lt {s : ASt} {v : AV} {n sz : Nat} {cs : List AV} {O : List Nat} (hd : Dest s v n sz cs O) : ∀ j, slot v = some j → j < s.next := by
  intro j hj
  rcases hd with ⟨a, rfl, h2, h3, h4, h5⟩ | ⟨i, p, rfl, h2, h3⟩
  · cases a with
    | none => cases hj
    | some io => obtain ⟨i, o⟩ := io; simp [slot] at hj; subst hj; exact (h5 i o rfl).1
  · simp [slot] at hj; subst hj
    rcases h2.ex with ⟨e, _⟩ | ⟨_, _, k2, _⟩
    · cases e
    · exact k2
theorem Dest.new {s : ASt} {v : AV} {n sz : Nat} {cs : List AV} {O : List Nat} (hd : Dest s v n sz cs O) (o : AObj) : Dest (newObj s o) v n sz cs O :=
  hd.frame (Nat.le_succ _) fun j hj => by rw [heap_new, if_neg (by have := hd.slot_lt j hj; omega)]

/-- One number is appended. -/
theorem push_int {s : ASt} {v : AV} {L : List Int} {O : List Nat} (hd : Dest s v L.length 1 (ivs L) O) (hl : L.length ≤ 1000000000) (x : Int) :
    ∃ v' s' O', appendA Try.prog (newObj s (mkRow 3 1 [iv x])) [23, 23] [v, .slice (some (s.next, 0)) 1 (some 1)] = some (v', s') ∧ Dest s' v' (L ++ [x]).length 1 (ivs (L ++ [x])) O' ∧ s.next ≤ s'.next ∧
      (∀ j, j < s.next → j ∉ O → s'.heap.get j = s.heap.get j) ∧ (∀ j ∈ O', j ∈ O ∨ s.next ≤ j) := by
  have c1 := src_one (P := Try.prog) (e := 3) (s := newObj s (mkRow 3 1 [iv x])) (n := 1) (cap := some 1) (sz := 1) 3 1 (by rw [heap_new, if_pos rfl]) rfl
  obtain ⟨v', s', O', h1, h2, h3, h4, h5, h6, h7⟩ := (hd.new (mkRow 3 1 [iv x])).append (P := Try.prog) (st := 23) (xt := 23) Try.underlying23 sz3 by3 (by decide) (strx 23 3 Try.underlying23) zero3 c1 rfl rfl (by omega) (by omega)
  have hn : (newObj s (mkRow 3 1 [iv x])).next = s.next + 1 := rfl
  refine ⟨v', s', O', h1, ?_, by omega, ?_, ?_⟩
  · simpa using h2
  · intro j hj ho
    rw [h5 j (by omega) ho, heap_new, if_neg (by omega)]
  · intro j hj
    exact (h6 j hj).imp id (fun h => by omega)

/-! ### The literals that may hold -/
def openR (K : List Int) (l : List Int) : List Int := l.filter fun x => decide (-x ∉ K)
def holdsR (K : List Int) (l : List Int) : Bool := l.any fun x => decide (x ∈ K)

set_option maxRecDepth 8000 in
theorem open_loop {E : Env} (hE : Good E) {n1 : Nat} {s1 : ASt} (hn1 : n1 ≤ s1.next) {K : List Int} (hKl : K.length ≤ 1000000000) {v3 : AV} (hK : SliceAt n1 s1 v3 (ivs K)) {C : List Int} (hC : ∀ x ∈ C, i64 (-x)) (hCl : C.length ≤ 1000) {a : Option (Nat × Nat)} {cap : Option Nat} (hc : CellsAt n1 s1 a (ivs C)) (v0 v1 v2 v4 v5 v6 v7 : AV) {Q : ARes → Prop} :
    ∀ (l : List Int) (k : Nat) (opn : List Int) (O : List Nat) (holds : Bool) (v9 : AV) (s : ASt) (x12 x13 x14 x15 x16 x17 x18 x19 : AV), C.drop k = l → k ≤ C.length → opn.length ≤ k → Dest s v9 opn.length 1 (ivs opn) O → (∀ j ∈ O, n1 ≤ j) → Old n1 s1 s →
      (∀ s' v' O' y11 y12 y13 y14 y15 y16 y17 y18 y19, Dest s' v' (opn ++ openR K l).length 1 (ivs (opn ++ openR K l)) O' → (∀ j ∈ O', n1 ≤ j) → Old n1 s1 s' →
        Q ⟨.exit 6, [v0, v1, v2, v3, v4, v5, v6, v7, .slice a C.length cap, v', .bool (holds || holdsR K l), y11, y12, y13, y14, y15, y16, y17, y18, y19], [], s'⟩) →
      WC E none (.loop c29l24) Q [v0, v1, v2, v3, v4, v5, v6, v7, .slice a C.length cap, v9, .bool holds, iv (k : Int), x12, x13, x14, x15, x16, x17, x18, x19] [] s := by
  intro l
  induction l with
  | nil =>
    intro k opn O holds v9 s x12 x13 x14 x15 x16 x17 x18 x19 hdr hk hok hd hO hold hq
    have := drop_end hdr hk
    subst this
    have e : opn ++ openR K [] = opn := by simp [openR]
    have e2 : (holds || holdsR K []) = holds := by simp [holdsR]
    rw [e, e2] at hq
    refine WC.loop' ?_
    simp only [c29l24, c29o19, len_slice Try.underlying23, Int.lt_irrefl, decide_false, wpC, wpI, wpS, wpD, wpV, wanted_none, wanted_some, vals, cev_const, cev_var, cev_loc, padV, okV_some, againP, true_and, and_true, upd_zero, upd_succ, nth_zero, nth_succ, wpG_true, wpG_false, condK_true, condK_false, seqK_normal, seqK_ret, seqK_exit, inBlock_normal, inBlock_ret, inBlock_exit, ends_ret, ends_normal, unmark_nil, results_nil, results_cons, one_one, one_zero, one_two, isB_undef, isB_tt, isB_ff, Bool.not_true, Bool.not_false, Option.bind_some, pick3, pickA, extractA, List.getElem?_cons_zero, List.getElem?_cons_succ, bin_lss, bin_gtr, bin_leq, bin_geq, bin_eql, bin_neq, un_not]
    exact hq s v9 O _ _ _ _ _ _ _ _ _ hd hO hold
  | cons x l ih =>
    intro k opn O holds v9 s x12 x13 x14 x15 x16 x17 x18 x19 hdr hk hok hd hO hold hq
    obtain ⟨hlt, hx, hd'⟩ := drop_facts hdr
    have hxn := hC x (List.mem_of_getElem? hx)
    obtain ⟨i, o, rfl, hi, hload⟩ := hc k _ (get_ivs hx)
    have e1 := idx_slice (cap := cap) (i := i) (o := o) Try.underlying23 sz3 hlt
    have ld : ∀ {s' : ASt}, Old n1 s1 s' → loadV Try.prog s' 3 (.ptr (some (i, o + k * 1))) = some (iv x) := fun h => load_one ag3 (by rw [Nat.mul_one, load1_eq (h.2 i hi)]; exact hload)
    have hkk : decide ((k : Int) < (C.length : Int)) = true := decide_eq_true (by omega)
    have e3 := bin_add Try.prog 3 (k : Int) 1 ⟨by omega, by omega⟩
    have hcast : ((k : Int) + 1) = ((k + 1 : Nat) : Int) := by omega
    have hKs : SliceAt n1 s v3 (ivs K) := hK.old hold (Nat.le_refl _)
    have hh : (holds || holdsR K (x :: l)) = ((holds || decide (x ∈ K)) || holdsR K l) := by simp [holdsR, Bool.or_assoc]
    rw [hh] at hq
    -- behind 'holds'
    have rest : ∀ (holds' : Bool) (w12 w13 w14 w15 w16 w17 w18 w19 : AV), holds' = (holds || decide (x ∈ K)) →
        wpI E c29o21 (fun v s' => condK (cev [] v (.var 17)) (wpC E none (.ops c29o22) (InBlock 7 (seqK (wpC E none (.ops c29o23) (seqK (WC E none (.loop c29l24) Q) Q)) (seqK (WC E none (.loop c29l24) Q) Q)))) (wpC E none .skip (InBlock 7 (seqK (wpC E none (.ops c29o23) (seqK (WC E none (.loop c29l24) Q) Q)) (seqK (WC E none (.loop c29l24) Q) Q)))) v [] s') []
          [v0, v1, v2, v3, v4, v5, v6, v7, .slice (some (i, o)) C.length cap, v9, .bool holds', iv (k : Int), w12, w13, w14, w15, w16, w17, w18, w19] s := by
      intro holds' w12 w13 w14 w15 w16 w17 w18 w19 he
      subst he
      simp only [c29o21, e1, ld hold, un_neg _ x hxn, wpC, wpI, wpS, wpD, wpV, wanted_none, wanted_some, vals, cev_const, cev_var, cev_loc, padV, okV_some, againP, true_and, and_true, upd_zero, upd_succ, nth_zero, nth_succ, wpG_true, wpG_false, condK_true, condK_false, seqK_normal, seqK_ret, seqK_exit, inBlock_normal, inBlock_ret, inBlock_exit, ends_ret, ends_normal, unmark_nil, results_nil, results_cons, one_one, one_zero, one_two, isB_undef, isB_tt, isB_ff, Bool.not_true, Bool.not_false, Option.bind_some, pick3, pickA, extractA, List.getElem?_cons_zero, List.getElem?_cons_succ, bin_lss, bin_gtr, bin_leq, bin_geq, bin_eql, bin_neq, un_not]
      refine (in_ok hE (by omega) hKs (-x)).mono ?_
      rintro _ _ ⟨rfl, rfl⟩
      by_cases h : -x ∈ K
      · have ho : openR K (x :: l) = openR K l := by simp [openR, h]
        rw [ho] at hq
        simp only [h, decide_true, Bool.not_true, c29o23, e3, hcast, wpC, wpI, wpS, wpD, wpV, wanted_none, wanted_some, vals, cev_const, cev_var, cev_loc, padV, okV_some, againP, true_and, and_true, upd_zero, upd_succ, nth_zero, nth_succ, wpG_true, wpG_false, condK_true, condK_false, seqK_normal, seqK_ret, seqK_exit, inBlock_normal, inBlock_ret, inBlock_exit, ends_ret, ends_normal, unmark_nil, results_nil, results_cons, one_one, one_zero, one_two, isB_undef, isB_tt, isB_ff, Bool.not_true, Bool.not_false, Option.bind_some, pick3, pickA, extractA, List.getElem?_cons_zero, List.getElem?_cons_succ, bin_lss, bin_gtr, bin_leq, bin_geq, bin_eql, bin_neq, un_not]
        exact ih (k + 1) opn O _ v9 s _ _ _ _ _ _ _ _ hd' hlt (by omega) hd hO hold hq
      · have ho : openR K (x :: l) = x :: openR K l := by simp [openR, h]
        rw [ho] at hq
        have b1 := bld_one (P := Try.prog) (t := 23) (v := iv x) Try.underlying23 sz3 zr3 rfl rfl
        obtain ⟨v', s', O', p1, p2, p3, p4, p5⟩ := push_int hd (by omega) x
        have hmv : ∀ (m : Nat) (i : Nat), Made.val i (.slice m) = .slice (some (i, 0)) m (some m) := fun _ _ => rfl
        simp only [h, decide_false, Bool.not_false, c29o22, e1, ld hold, b1, hmv, p1, c29o23, e3, hcast, wpC, wpI, wpS, wpD, wpV, wanted_none, wanted_some, vals, cev_const, cev_var, cev_loc, padV, okV_some, againP, true_and, and_true, upd_zero, upd_succ, nth_zero, nth_succ, wpG_true, wpG_false, condK_true, condK_false, seqK_normal, seqK_ret, seqK_exit, inBlock_normal, inBlock_ret, inBlock_exit, ends_ret, ends_normal, unmark_nil, results_nil, results_cons, one_one, one_zero, one_two, isB_undef, isB_tt, isB_ff, Bool.not_true, Bool.not_false, Option.bind_some, pick3, pickA, extractA, List.getElem?_cons_zero, List.getElem?_cons_succ, bin_lss, bin_gtr, bin_leq, bin_geq, bin_eql, bin_neq, un_not]
        have hold' : Old n1 s1 s' := hold.trans ⟨p3, fun j hj => p4 j (by have := hold.1; omega) (fun hm => by have := hO j hm; omega)⟩
        have ha : opn ++ x :: openR K l = (opn ++ [x]) ++ openR K l := by simp
        rw [ha] at hq
        exact ih (k + 1) (opn ++ [x]) O' _ v' s' _ _ _ _ _ _ _ _ hd' hlt (by simp; omega) p2 (fun j hj => (p5 j hj).elim (hO j) (fun h => by have := hold.1; omega)) hold' hq
    refine WC.loop' ?_
    cases holds with
    | true =>
      simp only [c29l24, c29o19, c29o20, len_slice Try.underlying23, hkk, Bool.true_eq_false, beq_self_eq_true, wpC, wpI, wpS, wpD, wpV, wanted_none, wanted_some, vals, cev_const, cev_var, cev_loc, padV, okV_some, againP, true_and, and_true, upd_zero, upd_succ, nth_zero, nth_succ, wpG_true, wpG_false, condK_true, condK_false, seqK_normal, seqK_ret, seqK_exit, inBlock_normal, inBlock_ret, inBlock_exit, ends_ret, ends_normal, unmark_nil, results_nil, results_cons, one_one, one_zero, one_two, isB_undef, isB_tt, isB_ff, Bool.not_true, Bool.not_false, Option.bind_some, pick3, pickA, extractA, List.getElem?_cons_zero, List.getElem?_cons_succ, bin_lss, bin_gtr, bin_leq, bin_geq, bin_eql, bin_neq, un_not]
      have := rest true
      simp only [wpC, wpI, wpS, wpD, wpV, wanted_none, wanted_some, vals, cev_const, cev_var, cev_loc, padV, okV_some, againP, true_and, and_true, upd_zero, upd_succ, nth_zero, nth_succ, wpG_true, wpG_false, condK_true, condK_false, seqK_normal, seqK_ret, seqK_exit, inBlock_normal, inBlock_ret, inBlock_exit, ends_ret, ends_normal, unmark_nil, results_nil, results_cons, one_one, one_zero, one_two, isB_undef, isB_tt, isB_ff, Bool.not_true, Bool.not_false, Option.bind_some, pick3, pickA, extractA, List.getElem?_cons_zero, List.getElem?_cons_succ, bin_lss, bin_gtr, bin_leq, bin_geq, bin_eql, bin_neq, un_not] at this
      exact this _ _ _ _ _ _ _ _ (by simp)
    | false =>
      simp only [c29l24, c29o19, c29o20, len_slice Try.underlying23, hkk, beq_self_eq_true, e1, ld hold, wpC, wpI, wpS, wpD, wpV, wanted_none, wanted_some, vals, cev_const, cev_var, cev_loc, padV, okV_some, againP, true_and, and_true, upd_zero, upd_succ, nth_zero, nth_succ, wpG_true, wpG_false, condK_true, condK_false, seqK_normal, seqK_ret, seqK_exit, inBlock_normal, inBlock_ret, inBlock_exit, ends_ret, ends_normal, unmark_nil, results_nil, results_cons, one_one, one_zero, one_two, isB_undef, isB_tt, isB_ff, Bool.not_true, Bool.not_false, Option.bind_some, pick3, pickA, extractA, List.getElem?_cons_zero, List.getElem?_cons_succ, bin_lss, bin_gtr, bin_leq, bin_geq, bin_eql, bin_neq, un_not]
      refine (in_ok hE (by omega) hKs x).mono ?_
      rintro _ _ ⟨rfl, rfl⟩
      simp only [wpC, wpI, wpS, wpD, wpV, wanted_none, wanted_some, vals, cev_const, cev_var, cev_loc, padV, okV_some, againP, true_and, and_true, upd_zero, upd_succ, nth_zero, nth_succ, wpG_true, wpG_false, condK_true, condK_false, seqK_normal, seqK_ret, seqK_exit, inBlock_normal, inBlock_ret, inBlock_exit, ends_ret, ends_normal, unmark_nil, results_nil, results_cons, one_one, one_zero, one_two, isB_undef, isB_tt, isB_ff, Bool.not_true, Bool.not_false, Option.bind_some, pick3, pickA, extractA, List.getElem?_cons_zero, List.getElem?_cons_succ, bin_lss, bin_gtr, bin_leq, bin_geq, bin_eql, bin_neq, un_not]
      have := rest (decide (x ∈ K))
      simp only [wpC, wpI, wpS, wpD, wpV, wanted_none, wanted_some, vals, cev_const, cev_var, cev_loc, padV, okV_some, againP, true_and, and_true, upd_zero, upd_succ, nth_zero, nth_succ, wpG_true, wpG_false, condK_true, condK_false, seqK_normal, seqK_ret, seqK_exit, inBlock_normal, inBlock_ret, inBlock_exit, ends_ret, ends_normal, unmark_nil, results_nil, results_cons, one_one, one_zero, one_two, isB_undef, isB_tt, isB_ff, Bool.not_true, Bool.not_false, Option.bind_some, pick3, pickA, extractA, List.getElem?_cons_zero, List.getElem?_cons_succ, bin_lss, bin_gtr, bin_leq, bin_geq, bin_eql, bin_neq, un_not] at this
      exact this _ _ _ _ _ _ _ _ (by simp)
end Go.Proofs.Ytilhhmkdcoajnaa.Am

/- What the reference's function Follows of layer 20 computes: its loops; conditions: the numbers fit. -/
set_option linter.unusedVariables false
set_option linter.unusedSimpArgs false
namespace Go.Proofs.Ytilhhmkdcoajnaa.Am
open Go Go.Proofs

def passR (K : List Int) : List (List Int) → Bool → Option (List Int × Bool)
  | [], more => some (K, more)
  | c :: cs, more => match openR K (cleanV [] c) with
    | [] => none
    | [y] => bif holdsR K (cleanV [] c) then passR K cs more else passR (K ++ [y]) cs true
    | _ => passR K cs more
def loopR (cs : List (List Int)) : Nat → List Int → Option Bool
  | 0, _ => none
  | n + 1, K => match passR K cs false with
    | none => some true
    | some (K', true) => loopR cs n K'
    | some (_, false) => some false
/-- What is known at first, of a clean clause: none: it always holds. -/
def initR (C : List Int) (K : List Int) : List Int → Option (List Int)
  | [] => some K
  | x :: l => if -x ∈ C then none else initR C (K ++ [-x]) l
def followsR (n : Nat) (cs : List (List Int)) (c : List Int) : Option Bool := match initR (cleanV [] c) [] (cleanV [] c) with
  | none => some true
  | some K => loopR cs n K

theorem insV_mem {x y : Int} {L : List Int} (h : y ∈ insV x L) : y = x ∨ y ∈ L := by
  unfold insV at h
  split at h
  · exact .inr h
  · rcases List.mem_append.1 h with h | h
    · exact .inr (List.mem_of_mem_take h)
    · rcases List.mem_cons.1 h with h | h
      · exact .inl h
      · exact .inr (List.mem_of_mem_drop h)
theorem cleanV_mem : ∀ (l out : List Int) (y : Int), y ∈ cleanV out l → y ∈ out ∨ (y ∈ l ∧ nullV y = false)
  | [], out, y, h => .inl h
  | x :: l, out, y, h => by
    simp only [cleanV] at h
    rcases cleanV_mem l _ y h with h | ⟨h, h'⟩
    · cases hn : nullV x with
      | true => rw [hn] at h; exact .inl h
      | false =>
        rw [hn] at h
        rcases insV_mem h with rfl | h
        · exact .inr ⟨List.mem_cons_self, hn⟩
        · exact .inl h
    · exact .inr ⟨List.mem_cons_of_mem _ h, h'⟩
theorem clean_neg {c : List Int} (hc : I64s c) : ∀ x ∈ cleanV [] c, i64 (-x) := by
  intro x hx
  rcases cleanV_mem c [] x hx with h | ⟨h, h'⟩
  · cases h
  · obtain ⟨h1, h2⟩ := hc x h
    simp only [nullV, decide_eq_false_iff_not] at h'
    exact ⟨by omega, by omega⟩
def FitsR (cs : List (List Int)) : Prop := cs.length ≤ 1000 ∧ ∀ L ∈ cs, I64s L ∧ L.length ≤ 1000

/-- What is known, in memory. -/
structure KnownR (n0 : Nat) (s0 s : ASt) (v : AV) (K : List Int) : Prop where
  ex : ∃ O, Dest s v K.length 1 (ivs K) O ∧ ∀ j ∈ O, n0 ≤ j
  old : Old n0 s0 s
theorem KnownR.slice {n0 : Nat} {s0 s : ASt} {v : AV} {K : List Int} (h : KnownR n0 s0 s v K) : SliceAt s.next s v (ivs K) := by
  obtain ⟨O, h1, _⟩ := h.ex
  obtain ⟨a, cap, h2, h3⟩ := h1.cells
  exact ⟨a, cap, by rw [List.length_map]; exact h2, h3⟩
theorem KnownR.more {n0 : Nat} {s0 s s' : ASt} {v : AV} {K : List Int} (h : KnownR n0 s0 s v K) (hn : n0 ≤ s.next) (k : Old s.next s s') : KnownR n0 s0 s' v K := by
  obtain ⟨O, h1, h2⟩ := h.ex
  exact ⟨⟨O, h1.frame k.1 fun j hj => k.2 j (h1.slot_lt j hj), h2⟩, h.old.trans (k.mono hn)⟩

set_option maxRecDepth 8000 in
theorem passR_loop {E : Env} (hE : Good E) {n0 : Nat} {s0 : ASt} (hn0 : n0 ≤ s0.next) {cs : List (List Int)} (hcs : FitsR cs) {a : Option (Nat × Nat)} {cap : Option Nat} (hr : RowsAt n0 s0 a cs) (v1 v4 v5 : AV) {Q : ARes → Prop} :
    ∀ (l : List (List Int)) (k : Nat) (K : List Int) (more : Bool) (v3 : AV) (s : ASt) (x2 x8 x9 x10 x11 x12 x13 x14 x15 x16 x17 x18 x19 : AV), cs.drop k = l → k ≤ cs.length → K.length + l.length ≤ 1000000000 → KnownR n0 s0 s v3 K →
      (match passR K l more with
        | none => ∀ s' y3 y6 y7 y8 y9 y10 y11 y12 y13 y14 y15 y16 y17 y18 y19, Old n0 s0 s' → Q ⟨.ret, [.slice a cs.length cap, v1, .bool true, y3, v4, v5, y6, y7, y8, y9, y10, y11, y12, y13, y14, y15, y16, y17, y18, y19], [], s'⟩
        | some (K', more') => ∀ s' v3' y2 y7 y8 y9 y10 y11 y12 y13 y14 y15 y16 y17 y18 y19, KnownR n0 s0 s' v3' K' → Q ⟨.exit 4, [.slice a cs.length cap, v1, y2, v3', v4, v5, .bool more', y7, y8, y9, y10, y11, y12, y13, y14, y15, y16, y17, y18, y19], [], s'⟩) →
      WC E none (.loop c29l31) Q [.slice a cs.length cap, v1, x2, v3, v4, v5, .bool more, iv (k : Int), x8, x9, x10, x11, x12, x13, x14, x15, x16, x17, x18, x19] [] s := by
  intro l
  induction l with
  | nil =>
    intro k K more v3 s x2 x8 x9 x10 x11 x12 x13 x14 x15 x16 x17 x18 x19 hd hk hl hmem hq
    have := drop_end hd hk
    subst this
    refine WC.loop' ?_
    simp only [c29l31, c29o14, len_slice Try.underlying22, Int.lt_irrefl, decide_false, wpC, wpI, wpS, wpD, wpV, wanted_none, wanted_some, vals, cev_const, cev_var, cev_loc, padV, okV_some, againP, true_and, and_true, upd_zero, upd_succ, nth_zero, nth_succ, wpG_true, wpG_false, condK_true, condK_false, seqK_normal, seqK_ret, seqK_exit, inBlock_normal, inBlock_ret, inBlock_exit, ends_ret, ends_normal, unmark_nil, results_nil, results_cons, one_one, one_zero, one_two, isB_undef, isB_tt, isB_ff, Bool.not_true, Bool.not_false, Option.bind_some, pick3, pickA, extractA, List.getElem?_cons_zero, List.getElem?_cons_succ, bin_lss, bin_gtr, bin_leq, bin_geq, bin_eql, bin_neq, un_not]
    exact hq s v3 _ _ _ _ _ _ _ _ _ _ _ _ _ _ hmem
  | cons L l ih =>
    intro k K more v3 s x2 x8 x9 x10 x11 x12 x13 x14 x15 x16 x17 x18 x19 hd hk hl hmem hq
    obtain ⟨hlt, hx, hd'⟩ := drop_facts hd
    obtain ⟨p, o, u, rfl, hp, hload, hu⟩ := hr k L hx
    obtain ⟨hL, hLl⟩ := hcs.2 L (List.mem_of_getElem? hx)
    have hns : n0 ≤ s.next := Nat.le_trans hn0 hmem.old.1
    have e1 := idx_slice (cap := cap) (i := p) (o := o) Try.underlying22 sz23 hlt
    have e2 : loadV Try.prog s 23 (.ptr (some (p, o + k * 1))) = some u := load_one ag23 (by rw [Nat.mul_one, load1_eq (hmem.old.2 p hp)]; exact hload)
    have hkk : decide ((k : Int) < (cs.length : Int)) = true := decide_eq_true (by omega)
    have hcl := hcs.1
    have e3 := bin_add Try.prog 3 (k : Int) 1 ⟨by omega, by omega⟩
    have hcast : ((k : Int) + 1) = ((k + 1 : Nat) : Int) := by omega
    refine WC.loop' ?_
    simp only [c29l31, c29o14, c29o15, len_slice Try.underlying22, hkk, e1, e2, wpC, wpI, wpS, wpD, wpV, wanted_none, wanted_some, vals, cev_const, cev_var, cev_loc, padV, okV_some, againP, true_and, and_true, upd_zero, upd_succ, nth_zero, nth_succ, wpG_true, wpG_false, condK_true, condK_false, seqK_normal, seqK_ret, seqK_exit, inBlock_normal, inBlock_ret, inBlock_exit, ends_ret, ends_normal, unmark_nil, results_nil, results_cons, one_one, one_zero, one_two, isB_undef, isB_tt, isB_ff, Bool.not_true, Bool.not_false, Option.bind_some, pick3, pickA, extractA, List.getElem?_cons_zero, List.getElem?_cons_succ, bin_lss, bin_gtr, bin_leq, bin_geq, bin_eql, bin_neq, un_not]
    refine (rclean_ok hE hL hLl hns (hu.old hmem.old (Nat.le_refl _))).mono ?_
    rintro v8 s1 ⟨O8, hd8, hold1⟩
    have hmem1 := hmem.more hns hold1
    obtain ⟨a8, cap8, rfl, hc8⟩ := hd8.cells
    have hcl8 : (cleanV [] L).length ≤ 1000 := by have := cleanV_len L []; simp at this; omega
    simp only [c29o16, c29o17, c29o18, wpC, wpI, wpS, wpD, wpV, wanted_none, wanted_some, vals, cev_const, cev_var, cev_loc, padV, okV_some, againP, true_and, and_true, upd_zero, upd_succ, nth_zero, nth_succ, wpG_true, wpG_false, condK_true, condK_false, seqK_normal, seqK_ret, seqK_exit, inBlock_normal, inBlock_ret, inBlock_exit, ends_ret, ends_normal, unmark_nil, results_nil, results_cons, one_one, one_zero, one_two, isB_undef, isB_tt, isB_ff, Bool.not_true, Bool.not_false, Option.bind_some, pick3, pickA, extractA, List.getElem?_cons_zero, List.getElem?_cons_succ, bin_lss, bin_gtr, bin_leq, bin_geq, bin_eql, bin_neq, un_not]
    refine open_loop hE (Nat.le_refl s1.next) (by simp at hl; omega) hmem1.slice (clean_neg hL) hcl8 hc8 _ _ _ _ _ _ _ (cleanV [] L) 0 [] [] false _ s1 _ _ _ _ _ _ _ _ rfl (Nat.zero_le _) (Nat.le_refl _) (Dest.nil s1 1) (fun j hj => by cases hj) (Old.refl _ _) ?_
    intro s2 v9 O9 y11 y12 y13 y14 y15 y16 y17 y18 y19 hd9 hO9 hold2
    simp only [List.nil_append, Bool.false_or] at hd9 ⊢
    have hns1 : n0 ≤ s1.next := Nat.le_trans hns hold1.1
    have hmem2 := hmem1.more hns1 hold2
    have hns2 : n0 ≤ s2.next := Nat.le_trans hns1 hold2.1
    obtain ⟨a9, cap9, rfl, hc9⟩ := hd9.cells
    have hol : (openR K (cleanV [] L)).length ≤ 1000 := by have := List.length_filter_le (fun x => decide (-x ∉ K)) (cleanV [] L); unfold openR; omega
    simp only [if_true, c29o25, len_slice Try.underlying23, wpC, wpI, wpS, wpD, wpV, wanted_none, wanted_some, vals, cev_const, cev_var, cev_loc, padV, okV_some, againP, true_and, and_true, upd_zero, upd_succ, nth_zero, nth_succ, wpG_true, wpG_false, condK_true, condK_false, seqK_normal, seqK_ret, seqK_exit, inBlock_normal, inBlock_ret, inBlock_exit, ends_ret, ends_normal, unmark_nil, results_nil, results_cons, one_one, one_zero, one_two, isB_undef, isB_tt, isB_ff, Bool.not_true, Bool.not_false, Option.bind_some, pick3, pickA, extractA, List.getElem?_cons_zero, List.getElem?_cons_succ, bin_lss, bin_gtr, bin_leq, bin_geq, bin_eql, bin_neq, un_not]
    cases ho : openR K (cleanV [] L) with
    | nil =>
      have hpn : passR K (L :: l) more = none := by simp [passR, ho]
      rw [hpn] at hq
      simp only [List.length_nil, Int.natCast_zero, decide_true, c29o26, wpC, wpI, wpS, wpD, wpV, wanted_none, wanted_some, vals, cev_const, cev_var, cev_loc, padV, okV_some, againP, true_and, and_true, upd_zero, upd_succ, nth_zero, nth_succ, wpG_true, wpG_false, condK_true, condK_false, seqK_normal, seqK_ret, seqK_exit, inBlock_normal, inBlock_ret, inBlock_exit, ends_ret, ends_normal, unmark_nil, results_nil, results_cons, one_one, one_zero, one_two, isB_undef, isB_tt, isB_ff, Bool.not_true, Bool.not_false, Option.bind_some, pick3, pickA, extractA, List.getElem?_cons_zero, List.getElem?_cons_succ, bin_lss, bin_gtr, bin_leq, bin_geq, bin_eql, bin_neq, un_not]
      exact hq s2 _ _ _ _ _ _ _ _ _ _ _ _ _ _ _ hmem2.old
    | cons y l2 =>
      rw [ho] at hc9
      have hne : ¬ ((l2.length + 1 : Nat) : Int) = 0 := by omega
      have hne0 : decide ((1 : Int) = 0) = false := rfl
      have hne0' : decide (((0 + 1 : Nat) : Int) = 0) = false := rfl
      cases l2 with
      | nil =>
        cases hh : holdsR K (cleanV [] L) with
        | true =>
          have hpn : passR K (L :: l) more = passR K l more := by simp [passR, ho, hh]
          rw [hpn] at hq
          simp only [List.length_cons, List.length_nil, hne0, hne0', decide_false, c29o27, Bool.not_true, Bool.false_eq_true, beq_self_eq_true, c29o30, e3, hcast, wpC, wpI, wpS, wpD, wpV, wanted_none, wanted_some, vals, cev_const, cev_var, cev_loc, padV, okV_some, againP, true_and, and_true, upd_zero, upd_succ, nth_zero, nth_succ, wpG_true, wpG_false, condK_true, condK_false, seqK_normal, seqK_ret, seqK_exit, inBlock_normal, inBlock_ret, inBlock_exit, ends_ret, ends_normal, unmark_nil, results_nil, results_cons, one_one, one_zero, one_two, isB_undef, isB_tt, isB_ff, Bool.not_true, Bool.not_false, Option.bind_some, pick3, pickA, extractA, List.getElem?_cons_zero, List.getElem?_cons_succ, bin_lss, bin_gtr, bin_leq, bin_geq, bin_eql, bin_neq, un_not]
          exact ih (k + 1) K more v3 s2 _ _ _ _ _ _ _ _ _ _ _ _ _ hd' hlt (by simp at hl; omega) hmem2 hq
        | false =>
          have hpn : passR K (L :: l) more = passR (K ++ [y]) l true := by simp [passR, ho, hh]
          rw [hpn] at hq
          obtain ⟨j9, o9, rfl, hj9, hl9⟩ := hc9 0 (iv y) rfl
          have f1 := idx_slice (P := Try.prog) (t := 23) (cap := cap9) (i := j9) (o := o9) (len := 1) (k := 0) Try.underlying23 sz3 (by decide)
          have f2 : loadV Try.prog s2 3 (.ptr (some (j9, o9 + 0 * 1))) = some (iv y) := load_one ag3 (by simpa using hl9)
          have f1' : indexAddrA Try.prog 23 (.slice (some (j9, o9)) 1 cap9) (iv 0) = some (.ptr (some (j9, o9 + 0 * 1))) := f1
          have b1 := bld_one (P := Try.prog) (t := 23) (v := iv y) Try.underlying23 sz3 zr3 rfl rfl
          obtain ⟨O3, h31, h32⟩ := hmem2.ex
          obtain ⟨v3', s3, O3', p1, p2, p3, p4, p5⟩ := push_int h31 (by simp at hl; omega) y
          have hmv : ∀ (m : Nat) (i : Nat), Made.val i (.slice m) = .slice (some (i, 0)) m (some m) := fun _ _ => rfl
          have hlen1 : ((0 + 1 : Nat) : Int) = 1 := rfl
          simp only [List.length_cons, List.length_nil, hne0, hne0', decide_false, c29o27, Bool.not_false, beq_self_eq_true, len_slice Try.underlying23, hlen1, decide_true, c29o28, f1', f2, b1, hmv, p1, c29o29, c29o30, e3, hcast, wpC, wpI, wpS, wpD, wpV, wanted_none, wanted_some, vals, cev_const, cev_var, cev_loc, padV, okV_some, againP, true_and, and_true, upd_zero, upd_succ, nth_zero, nth_succ, wpG_true, wpG_false, condK_true, condK_false, seqK_normal, seqK_ret, seqK_exit, inBlock_normal, inBlock_ret, inBlock_exit, ends_ret, ends_normal, unmark_nil, results_nil, results_cons, one_one, one_zero, one_two, isB_undef, isB_tt, isB_ff, Bool.not_true, Bool.not_false, Option.bind_some, pick3, pickA, extractA, List.getElem?_cons_zero, List.getElem?_cons_succ, bin_lss, bin_gtr, bin_leq, bin_geq, bin_eql, bin_neq, un_not]
          refine ih (k + 1) (K ++ [y]) true v3' s3 _ _ _ _ _ _ _ _ _ _ _ _ _ hd' hlt (by simp at hl ⊢; omega) ⟨⟨O3', p2, fun j hj => (p5 j hj).elim (h32 j) (fun h => by omega)⟩, hmem2.old.trans ⟨p3, fun j hj => p4 j (by omega) (fun hm => by have := h32 j hm; omega)⟩⟩ hq
      | cons z l3 =>
        have hpn : passR K (L :: l) more = passR K l more := by simp [passR, ho]
        rw [hpn] at hq
        have hne1 : ¬ ((l3.length + 1 + 1 : Nat) : Int) = 1 := by omega
        have hne2 : ¬ ((l3.length + 1 + 1 : Nat) : Int) = 0 := by omega
        cases hh : holdsR K (cleanV [] L) with
        | true =>
          simp only [List.length_cons, hne2, decide_false, c29o27, Bool.not_true, Bool.false_beq, c29o30, e3, hcast, wpC, wpI, wpS, wpD, wpV, wanted_none, wanted_some, vals, cev_const, cev_var, cev_loc, padV, okV_some, againP, true_and, and_true, upd_zero, upd_succ, nth_zero, nth_succ, wpG_true, wpG_false, condK_true, condK_false, seqK_normal, seqK_ret, seqK_exit, inBlock_normal, inBlock_ret, inBlock_exit, ends_ret, ends_normal, unmark_nil, results_nil, results_cons, one_one, one_zero, one_two, isB_undef, isB_tt, isB_ff, Bool.not_true, Bool.not_false, Option.bind_some, pick3, pickA, extractA, List.getElem?_cons_zero, List.getElem?_cons_succ, bin_lss, bin_gtr, bin_leq, bin_geq, bin_eql, bin_neq, un_not]
          exact ih (k + 1) K more v3 s2 _ _ _ _ _ _ _ _ _ _ _ _ _ hd' hlt (by simp at hl; omega) hmem2 hq
        | false =>
          simp only [List.length_cons, hne2, hne1, decide_false, c29o27, Bool.not_false, beq_self_eq_true, len_slice Try.underlying23, c29o30, e3, hcast, wpC, wpI, wpS, wpD, wpV, wanted_none, wanted_some, vals, cev_const, cev_var, cev_loc, padV, okV_some, againP, true_and, and_true, upd_zero, upd_succ, nth_zero, nth_succ, wpG_true, wpG_false, condK_true, condK_false, seqK_normal, seqK_ret, seqK_exit, inBlock_normal, inBlock_ret, inBlock_exit, ends_ret, ends_normal, unmark_nil, results_nil, results_cons, one_one, one_zero, one_two, isB_undef, isB_tt, isB_ff, Bool.not_true, Bool.not_false, Option.bind_some, pick3, pickA, extractA, List.getElem?_cons_zero, List.getElem?_cons_succ, bin_lss, bin_gtr, bin_leq, bin_geq, bin_eql, bin_neq, un_not]
          exact ih (k + 1) K more v3 s2 _ _ _ _ _ _ _ _ _ _ _ _ _ hd' hlt (by simp at hl; omega) hmem2 hq
end Go.Proofs.Ytilhhmkdcoajnaa.Am

/- What the reference's function Follows of layer 20 computes; conditions: the numbers fit, and passes end. -/
set_option linter.unusedVariables false
set_option linter.unusedSimpArgs false
namespace Go.Proofs.Ytilhhmkdcoajnaa.Am
open Go Go.Proofs

theorem passR_len {cs : List (List Int)} : ∀ {l : List (List Int)} {K K' : List Int} {more more' : Bool}, passR K l more = some (K', more') → K'.length ≤ K.length + l.length := by
  intro l
  induction l with
  | nil => intro K K' more more' h; injection h with h; injection h with h1 h2; subst h1; simp
  | cons c l ih =>
    intro K K' more more' h
    unfold passR at h
    split at h
    · cases h
    · rename_i y hy
      cases hh : holdsR K (cleanV [] c) with
      | true => rw [hh] at h; have := ih h; simp; omega
      | false => rw [hh] at h; have := ih h; simp at this ⊢; omega
    · have := ih h; simp; omega

set_option maxRecDepth 8000 in
theorem moreR_loop {E : Env} (hE : Good E) {n0 : Nat} {s0 : ASt} (hn0 : n0 ≤ s0.next) {cs : List (List Int)} (hcs : FitsR cs) {a : Option (Nat × Nat)} {cap : Option Nat} (hr : RowsAt n0 s0 a cs) (v1 v4 v5 : AV) {Q : ARes → Prop} :
    ∀ (fuel : Nat) (K : List Int) (b : Bool) (v3 : AV) (s : ASt) (x2 x7 x8 x9 x10 x11 x12 x13 x14 x15 x16 x17 x18 x19 : AV), loopR cs fuel K = some b → K.length + fuel * cs.length ≤ 1000000000 → KnownR n0 s0 s v3 K →
      (∀ e s' y2 y3 y6 y7 y8 y9 y10 y11 y12 y13 y14 y15 y16 y17 y18 y19, Old n0 s0 s' → (e = .ret ∧ y2 = .bool true ∧ b = true ∨ e = .exit 2 ∧ b = false) → Q ⟨e, [.slice a cs.length cap, v1, y2, y3, v4, v5, y6, y7, y8, y9, y10, y11, y12, y13, y14, y15, y16, y17, y18, y19], [], s'⟩) →
      WC E none (.loop c29l32) Q [.slice a cs.length cap, v1, x2, v3, v4, v5, .bool true, x7, x8, x9, x10, x11, x12, x13, x14, x15, x16, x17, x18, x19] [] s := by
  intro fuel
  induction fuel with
  | zero => intro K b v3 s _ _ _ _ _ _ _ _ _ _ _ _ _ _ h; cases h
  | succ fuel ih =>
    intro K b v3 s x2 x7 x8 x9 x10 x11 x12 x13 x14 x15 x16 x17 x18 x19 hl hf hmem hq
    have hmul : (fuel + 1) * cs.length = fuel * cs.length + cs.length := Nat.succ_mul _ _
    refine WC.loop' ?_
    simp only [c29l32, c29o11, c29o12, c29o13, wpC, wpI, wpS, wpD, wpV, wanted_none, wanted_some, vals, cev_const, cev_var, cev_loc, padV, okV_some, againP, true_and, and_true, upd_zero, upd_succ, nth_zero, nth_succ, wpG_true, wpG_false, condK_true, condK_false, seqK_normal, seqK_ret, seqK_exit, inBlock_normal, inBlock_ret, inBlock_exit, ends_ret, ends_normal, unmark_nil, results_nil, results_cons, one_one, one_zero, one_two, isB_undef, isB_tt, isB_ff, Bool.not_true, Bool.not_false, Option.bind_some, pick3, pickA, extractA, List.getElem?_cons_zero, List.getElem?_cons_succ, bin_lss, bin_gtr, bin_leq, bin_geq, bin_eql, bin_neq, un_not]
    refine passR_loop hE hn0 hcs hr _ _ _ cs 0 K false v3 s _ _ _ _ _ _ _ _ _ _ _ _ _ rfl (Nat.zero_le _) (by omega) hmem ?_
    simp only [loopR] at hl
    split at hl
    · rename_i hp
      injection hl with hl
      subst hl
      rw [hp]
      intro s' y3 y6 y7 y8 y9 y10 y11 y12 y13 y14 y15 y16 y17 y18 y19 ho
      simp only [wpC, wpI, wpS, wpD, wpV, wanted_none, wanted_some, vals, cev_const, cev_var, cev_loc, padV, okV_some, againP, true_and, and_true, upd_zero, upd_succ, nth_zero, nth_succ, wpG_true, wpG_false, condK_true, condK_false, seqK_normal, seqK_ret, seqK_exit, inBlock_normal, inBlock_ret, inBlock_exit, ends_ret, ends_normal, unmark_nil, results_nil, results_cons, one_one, one_zero, one_two, isB_undef, isB_tt, isB_ff, Bool.not_true, Bool.not_false, Option.bind_some, pick3, pickA, extractA, List.getElem?_cons_zero, List.getElem?_cons_succ, bin_lss, bin_gtr, bin_leq, bin_geq, bin_eql, bin_neq, un_not]
      exact hq _ _ _ _ _ _ _ _ _ _ _ _ _ _ _ _ _ _ ho (.inl ⟨rfl, rfl, rfl⟩)
    · rename_i K' hp
      rw [hp]
      intro s' v3' y2 y7 y8 y9 y10 y11 y12 y13 y14 y15 y16 y17 y18 y19 ho
      simp only [if_true, wpC, wpI, wpS, wpD, wpV, wanted_none, wanted_some, vals, cev_const, cev_var, cev_loc, padV, okV_some, againP, true_and, and_true, upd_zero, upd_succ, nth_zero, nth_succ, wpG_true, wpG_false, condK_true, condK_false, seqK_normal, seqK_ret, seqK_exit, inBlock_normal, inBlock_ret, inBlock_exit, ends_ret, ends_normal, unmark_nil, results_nil, results_cons, one_one, one_zero, one_two, isB_undef, isB_tt, isB_ff, Bool.not_true, Bool.not_false, Option.bind_some, pick3, pickA, extractA, List.getElem?_cons_zero, List.getElem?_cons_succ, bin_lss, bin_gtr, bin_leq, bin_geq, bin_eql, bin_neq, un_not]
      have := passR_len (cs := cs) hp
      exact ih K' b v3' s' _ _ _ _ _ _ _ _ _ _ _ _ _ _ hl (by omega) ho hq
    · rename_i K' hp
      injection hl with hl
      subst hl
      rw [hp]
      intro s' v3' y2 y7 y8 y9 y10 y11 y12 y13 y14 y15 y16 y17 y18 y19 ho
      simp only [if_true, wpC, wpI, wpS, wpD, wpV, wanted_none, wanted_some, vals, cev_const, cev_var, cev_loc, padV, okV_some, againP, true_and, and_true, upd_zero, upd_succ, nth_zero, nth_succ, wpG_true, wpG_false, condK_true, condK_false, seqK_normal, seqK_ret, seqK_exit, inBlock_normal, inBlock_ret, inBlock_exit, ends_ret, ends_normal, unmark_nil, results_nil, results_cons, one_one, one_zero, one_two, isB_undef, isB_tt, isB_ff, Bool.not_true, Bool.not_false, Option.bind_some, pick3, pickA, extractA, List.getElem?_cons_zero, List.getElem?_cons_succ, bin_lss, bin_gtr, bin_leq, bin_geq, bin_eql, bin_neq, un_not]
      refine WC.loop' ?_
      simp only [c29l32, c29o11, wpC, wpI, wpS, wpD, wpV, wanted_none, wanted_some, vals, cev_const, cev_var, cev_loc, padV, okV_some, againP, true_and, and_true, upd_zero, upd_succ, nth_zero, nth_succ, wpG_true, wpG_false, condK_true, condK_false, seqK_normal, seqK_ret, seqK_exit, inBlock_normal, inBlock_ret, inBlock_exit, ends_ret, ends_normal, unmark_nil, results_nil, results_cons, one_one, one_zero, one_two, isB_undef, isB_tt, isB_ff, Bool.not_true, Bool.not_false, Option.bind_some, pick3, pickA, extractA, List.getElem?_cons_zero, List.getElem?_cons_succ, bin_lss, bin_gtr, bin_leq, bin_geq, bin_eql, bin_neq, un_not]
      exact hq _ _ _ _ _ _ _ _ _ _ _ _ _ _ _ _ _ _ ho.old (.inr ⟨rfl, rfl⟩)

set_option maxRecDepth 8000 in
theorem initR_loop {E : Env} (hE : Good E) {n0 : Nat} {s0 : ASt} (hn0 : n0 ≤ s0.next) {C : List Int} (hC : ∀ x ∈ C, i64 (-x)) (hCl : C.length ≤ 1000) {n1 : Nat} {s1 : ASt} {a : Option (Nat × Nat)} {cap : Option Nat} (hc : CellsAt n1 s1 a (ivs C)) (v0 v1 : AV) {Q : ARes → Prop} :
    ∀ (l : List Int) (k : Nat) (K : List Int) (v3 : AV) (s : ASt) (x2 x6 x7 x8 x9 x10 x11 x12 x13 x14 x15 x16 x17 x18 x19 : AV), C.drop k = l → k ≤ C.length → K.length ≤ k → KnownR n0 s0 s v3 K → (∃ O, Dest s v3 K.length 1 (ivs K) O ∧ (∀ j ∈ O, n0 ≤ j) ∧ ∀ j ∈ O, n1 ≤ j) → Old n1 s1 s → n1 ≤ s1.next →
      (match initR C K l with
        | none => ∀ s' y3 y5 y6 y7 y8 y9 y10 y11 y12 y13 y14 y15 y16 y17 y18 y19, Old n0 s0 s' → Q ⟨.ret, [v0, v1, .bool true, y3, .slice a C.length cap, y5, y6, y7, y8, y9, y10, y11, y12, y13, y14, y15, y16, y17, y18, y19], [], s'⟩
        | some K' => ∀ s' v3' y2 y5 y6 y7 y8 y9 y10 y11 y12 y13 y14 y15 y16 y17 y18 y19, KnownR n0 s0 s' v3' K' → K'.length ≤ C.length → Q ⟨.exit 0, [v0, v1, y2, v3', .slice a C.length cap, y5, y6, y7, y8, y9, y10, y11, y12, y13, y14, y15, y16, y17, y18, y19], [], s'⟩) →
      WC E none (.loop c29l9) Q [v0, v1, x2, v3, .slice a C.length cap, iv (k : Int), x6, x7, x8, x9, x10, x11, x12, x13, x14, x15, x16, x17, x18, x19] [] s := by
  intro l
  induction l with
  | nil =>
    intro k K v3 s x2 x6 x7 x8 x9 x10 x11 x12 x13 x14 x15 x16 x17 x18 x19 hd hk hKk hmem hex hold hn1 hq
    have := drop_end hd hk
    subst this
    refine WC.loop' ?_
    simp only [c29l9, c29o4, len_slice Try.underlying23, Int.lt_irrefl, decide_false, wpC, wpI, wpS, wpD, wpV, wanted_none, wanted_some, vals, cev_const, cev_var, cev_loc, padV, okV_some, againP, true_and, and_true, upd_zero, upd_succ, nth_zero, nth_succ, wpG_true, wpG_false, condK_true, condK_false, seqK_normal, seqK_ret, seqK_exit, inBlock_normal, inBlock_ret, inBlock_exit, ends_ret, ends_normal, unmark_nil, results_nil, results_cons, one_one, one_zero, one_two, isB_undef, isB_tt, isB_ff, Bool.not_true, Bool.not_false, Option.bind_some, pick3, pickA, extractA, List.getElem?_cons_zero, List.getElem?_cons_succ, bin_lss, bin_gtr, bin_leq, bin_geq, bin_eql, bin_neq, un_not]
    exact hq s v3 _ _ _ _ _ _ _ _ _ _ _ _ _ _ _ _ hmem hKk
  | cons x l ih =>
    intro k K v3 s x2 x6 x7 x8 x9 x10 x11 x12 x13 x14 x15 x16 x17 x18 x19 hd hk hKk hmem hex hold hn1 hq
    obtain ⟨hlt, hx, hd'⟩ := drop_facts hd
    have hxn := hC x (List.mem_of_getElem? hx)
    have hCs : SliceAt n1 s (.slice a C.length cap) (ivs C) := ⟨a, cap, by rw [List.length_map], hc.old hold (Nat.le_refl _)⟩
    obtain ⟨i, o, rfl, hi, hload⟩ := hc k _ (get_ivs hx)
    have e1 := idx_slice (cap := cap) (i := i) (o := o) Try.underlying23 sz3 hlt
    have e2 : loadV Try.prog s 3 (.ptr (some (i, o + k * 1))) = some (iv x) := load_one ag3 (by rw [Nat.mul_one, load1_eq (hold.2 i hi)]; exact hload)
    have hkk : decide ((k : Int) < (C.length : Int)) = true := decide_eq_true (by omega)
    have e3 := bin_add Try.prog 3 (k : Int) 1 ⟨by omega, by omega⟩
    have hcast : ((k : Int) + 1) = ((k + 1 : Nat) : Int) := by omega
    refine WC.loop' ?_
    simp only [c29l9, c29o4, c29o5, len_slice Try.underlying23, hkk, e1, e2, un_neg _ x hxn, wpC, wpI, wpS, wpD, wpV, wanted_none, wanted_some, vals, cev_const, cev_var, cev_loc, padV, okV_some, againP, true_and, and_true, upd_zero, upd_succ, nth_zero, nth_succ, wpG_true, wpG_false, condK_true, condK_false, seqK_normal, seqK_ret, seqK_exit, inBlock_normal, inBlock_ret, inBlock_exit, ends_ret, ends_normal, unmark_nil, results_nil, results_cons, one_one, one_zero, one_two, isB_undef, isB_tt, isB_ff, Bool.not_true, Bool.not_false, Option.bind_some, pick3, pickA, extractA, List.getElem?_cons_zero, List.getElem?_cons_succ, bin_lss, bin_gtr, bin_leq, bin_geq, bin_eql, bin_neq, un_not]
    refine (in_ok hE (by omega) hCs (-x)).mono ?_
    rintro _ _ ⟨rfl, rfl⟩
    by_cases h : -x ∈ C
    · have hp : initR C K (x :: l) = none := by simp [initR, h]
      rw [hp] at hq
      simp only [h, decide_true, c29o6, wpC, wpI, wpS, wpD, wpV, wanted_none, wanted_some, vals, cev_const, cev_var, cev_loc, padV, okV_some, againP, true_and, and_true, upd_zero, upd_succ, nth_zero, nth_succ, wpG_true, wpG_false, condK_true, condK_false, seqK_normal, seqK_ret, seqK_exit, inBlock_normal, inBlock_ret, inBlock_exit, ends_ret, ends_normal, unmark_nil, results_nil, results_cons, one_one, one_zero, one_two, isB_undef, isB_tt, isB_ff, Bool.not_true, Bool.not_false, Option.bind_some, pick3, pickA, extractA, List.getElem?_cons_zero, List.getElem?_cons_succ, bin_lss, bin_gtr, bin_leq, bin_geq, bin_eql, bin_neq, un_not]
      exact hq s _ _ _ _ _ _ _ _ _ _ _ _ _ _ _ _ hmem.old
    · have hp : initR C K (x :: l) = initR C (K ++ [-x]) l := by simp [initR, h]
      rw [hp] at hq
      obtain ⟨O3, h31, h32, h33⟩ := hex
      have b1 := bld_one (P := Try.prog) (t := 23) (v := iv (-x)) Try.underlying23 sz3 zr3 rfl rfl
      obtain ⟨v3', s3, O3', p1, p2, p3, p4, p5⟩ := push_int h31 (by omega) (-x)
      have hmv : ∀ (m : Nat) (i : Nat), Made.val i (.slice m) = .slice (some (i, 0)) m (some m) := fun _ _ => rfl
      have hns : n0 ≤ s.next := Nat.le_trans hn0 hmem.old.1
      have hns1 : n1 ≤ s.next := Nat.le_trans hn1 hold.1
      simp only [h, decide_false, c29o7, e1, e2, un_neg _ x hxn, b1, hmv, p1, c29o8, e3, hcast, wpC, wpI, wpS, wpD, wpV, wanted_none, wanted_some, vals, cev_const, cev_var, cev_loc, padV, okV_some, againP, true_and, and_true, upd_zero, upd_succ, nth_zero, nth_succ, wpG_true, wpG_false, condK_true, condK_false, seqK_normal, seqK_ret, seqK_exit, inBlock_normal, inBlock_ret, inBlock_exit, ends_ret, ends_normal, unmark_nil, results_nil, results_cons, one_one, one_zero, one_two, isB_undef, isB_tt, isB_ff, Bool.not_true, Bool.not_false, Option.bind_some, pick3, pickA, extractA, List.getElem?_cons_zero, List.getElem?_cons_succ, bin_lss, bin_gtr, bin_leq, bin_geq, bin_eql, bin_neq, un_not]
      have f0 : ∀ j ∈ O3', n0 ≤ j := fun j hj => (p5 j hj).elim (h32 j) (fun h => by omega)
      have f1 : ∀ j ∈ O3', n1 ≤ j := fun j hj => (p5 j hj).elim (h33 j) (fun h => by omega)
      exact ih (k + 1) (K ++ [-x]) v3' s3 _ _ _ _ _ _ _ _ _ _ _ _ _ _ _ hd' hlt (by simp; omega)
        ⟨⟨O3', p2, f0⟩, hmem.old.trans ⟨p3, fun j hj => p4 j (by omega) (fun hm => by have := h32 j hm; omega)⟩⟩ ⟨O3', p2, f0, f1⟩
        (hold.trans ⟨p3, fun j hj => p4 j (by omega) (fun hm => by have := h33 j hm; omega)⟩) hn1 hq

set_option maxRecDepth 8000 in
theorem rfollows_ok {E : Env} (hE : Good E) {s : ASt} {cs : List (List Int)} {c : List Int} (hcs : FitsR cs) (hc : I64s c) (hcl : c.length ≤ 1000) {n0 : Nat} (hn0 : n0 ≤ s.next) {v u : AV} (hr : RowsOf n0 s v cs) (hu : SliceAt n0 s u (ivs c)) {fuel : Nat} (hfu : fuel ≤ 100000) {b : Bool} (hf : followsR fuel cs c = some b) :
    WF E 29 [v, u] (fun r s' => r = .bool b ∧ Old s.next s s') s := by
  obtain ⟨a, cap, rfl, hr⟩ := hr
  refine hE.go comp29 (by decide) rfl ?_
  simp only [c29, c29o0, c29o1, c29o2, wpC, wpI, wpS, wpD, wpV, wanted_none, wanted_some, vals, cev_const, cev_var, cev_loc, padV, okV_some, againP, true_and, and_true, upd_zero, upd_succ, nth_zero, nth_succ, wpG_true, wpG_false, condK_true, condK_false, seqK_normal, seqK_ret, seqK_exit, inBlock_normal, inBlock_ret, inBlock_exit, ends_ret, ends_normal, unmark_nil, results_nil, results_cons, one_one, one_zero, one_two, isB_undef, isB_tt, isB_ff, Bool.not_true, Bool.not_false, Option.bind_some, pick3, pickA, extractA, List.getElem?_cons_zero, List.getElem?_cons_succ, bin_lss, bin_gtr, bin_leq, bin_geq, bin_eql, bin_neq, un_not]
  refine (rclean_ok hE hc hcl hn0 hu).mono ?_
  rintro v4 s1 ⟨O4, hd4, hold1⟩
  obtain ⟨a4, cap4, rfl, hc4⟩ := hd4.cells
  have hC := clean_neg hc
  have hCl : (cleanV [] c).length ≤ 1000 := by have := cleanV_len c []; simp at this; omega
  have hrs : RowsAt s.next s a cs := hr.mono hn0
  have hk0 : KnownR s.next s s1 (.slice none 0 (some 0)) [] := ⟨⟨[], Dest.nil s1 1, fun j hj => by cases hj⟩, hold1⟩
  simp only [c29o3, wpC, wpI, wpS, wpD, wpV, wanted_none, wanted_some, vals, cev_const, cev_var, cev_loc, padV, okV_some, againP, true_and, and_true, upd_zero, upd_succ, nth_zero, nth_succ, wpG_true, wpG_false, condK_true, condK_false, seqK_normal, seqK_ret, seqK_exit, inBlock_normal, inBlock_ret, inBlock_exit, ends_ret, ends_normal, unmark_nil, results_nil, results_cons, one_one, one_zero, one_two, isB_undef, isB_tt, isB_ff, Bool.not_true, Bool.not_false, Option.bind_some, pick3, pickA, extractA, List.getElem?_cons_zero, List.getElem?_cons_succ, bin_lss, bin_gtr, bin_leq, bin_geq, bin_eql, bin_neq, un_not]
  refine initR_loop hE (Nat.le_refl s.next) hC hCl hc4 _ _ (cleanV [] c) 0 [] _ s1 _ _ _ _ _ _ _ _ _ _ _ _ _ _ _ rfl (Nat.zero_le _) (Nat.le_refl _) hk0 ⟨[], Dest.nil s1 1, (fun j hj => by cases hj), (fun j hj => by cases hj)⟩ (Old.refl _ _) (Nat.le_refl _) ?_
  unfold followsR at hf
  cases hi : initR (cleanV [] c) [] (cleanV [] c) with
  | none =>
    rw [hi] at hf
    injection hf with hf
    subst hf
    intro s' y3 y5 y6 y7 y8 y9 y10 y11 y12 y13 y14 y15 y16 y17 y18 y19 ho
    simp only [wpC, wpI, wpS, wpD, wpV, wanted_none, wanted_some, vals, cev_const, cev_var, cev_loc, padV, okV_some, againP, true_and, and_true, upd_zero, upd_succ, nth_zero, nth_succ, wpG_true, wpG_false, condK_true, condK_false, seqK_normal, seqK_ret, seqK_exit, inBlock_normal, inBlock_ret, inBlock_exit, ends_ret, ends_normal, unmark_nil, results_nil, results_cons, one_one, one_zero, one_two, isB_undef, isB_tt, isB_ff, Bool.not_true, Bool.not_false, Option.bind_some, pick3, pickA, extractA, List.getElem?_cons_zero, List.getElem?_cons_succ, bin_lss, bin_gtr, bin_leq, bin_geq, bin_eql, bin_neq, un_not]
    exact ho
  | some K =>
    rw [hi] at hf
    have hf : loopR cs fuel K = some b := hf
    intro s' v3' y2 y5 y6 y7 y8 y9 y10 y11 y12 y13 y14 y15 y16 y17 y18 y19 hmem hKl
    simp only [if_true, c29o10, wpC, wpI, wpS, wpD, wpV, wanted_none, wanted_some, vals, cev_const, cev_var, cev_loc, padV, okV_some, againP, true_and, and_true, upd_zero, upd_succ, nth_zero, nth_succ, wpG_true, wpG_false, condK_true, condK_false, seqK_normal, seqK_ret, seqK_exit, inBlock_normal, inBlock_ret, inBlock_exit, ends_ret, ends_normal, unmark_nil, results_nil, results_cons, one_one, one_zero, one_two, isB_undef, isB_tt, isB_ff, Bool.not_true, Bool.not_false, Option.bind_some, pick3, pickA, extractA, List.getElem?_cons_zero, List.getElem?_cons_succ, bin_lss, bin_gtr, bin_leq, bin_geq, bin_eql, bin_neq, un_not]
    have hcs1 := hcs.1
    have hmul : fuel * cs.length ≤ 100000 * 1000 := Nat.mul_le_mul hfu hcs1
    refine moreR_loop hE (Nat.le_refl s.next) hcs hrs _ _ _ fuel K b v3' s' _ _ _ _ _ _ _ _ _ _ _ _ _ _ hf (by omega) hmem ?_
    intro e s4 y2 y3 y6 y7 y8 y9 y10 y11 y12 y13 y14 y15 y16 y17 y18 y19 ho4 he
    rcases he with ⟨rfl, rfl, rfl⟩ | ⟨rfl, rfl⟩
    · simp only [wpC, wpI, wpS, wpD, wpV, wanted_none, wanted_some, vals, cev_const, cev_var, cev_loc, padV, okV_some, againP, true_and, and_true, upd_zero, upd_succ, nth_zero, nth_succ, wpG_true, wpG_false, condK_true, condK_false, seqK_normal, seqK_ret, seqK_exit, inBlock_normal, inBlock_ret, inBlock_exit, ends_ret, ends_normal, unmark_nil, results_nil, results_cons, one_one, one_zero, one_two, isB_undef, isB_tt, isB_ff, Bool.not_true, Bool.not_false, Option.bind_some, pick3, pickA, extractA, List.getElem?_cons_zero, List.getElem?_cons_succ, bin_lss, bin_gtr, bin_leq, bin_geq, bin_eql, bin_neq, un_not]
      exact ho4
    · simp only [if_true, c29o33, wpC, wpI, wpS, wpD, wpV, wanted_none, wanted_some, vals, cev_const, cev_var, cev_loc, padV, okV_some, againP, true_and, and_true, upd_zero, upd_succ, nth_zero, nth_succ, wpG_true, wpG_false, condK_true, condK_false, seqK_normal, seqK_ret, seqK_exit, inBlock_normal, inBlock_ret, inBlock_exit, ends_ret, ends_normal, unmark_nil, results_nil, results_cons, one_one, one_zero, one_two, isB_undef, isB_tt, isB_ff, Bool.not_true, Bool.not_false, Option.bind_some, pick3, pickA, extractA, List.getElem?_cons_zero, List.getElem?_cons_succ, bin_lss, bin_gtr, bin_leq, bin_geq, bin_eql, bin_neq, un_not]
      exact ho4
end Go.Proofs.Ytilhhmkdcoajnaa.Am

/- What the reference's functions same, drop, all of layer 20 compute; conditions: the numbers fit. -/
set_option linter.unusedVariables false
set_option linter.unusedSimpArgs false
namespace Go.Proofs.Ytilhhmkdcoajnaa.Am
open Go Go.Proofs

theorem Dest.slice {s : ASt} {v : AV} {n : Nat} {cs : List AV} {O : List Nat} (hd : Dest s v n 1 cs O) : SliceAt s.next s v cs := by
  obtain ⟨a, cap, h1, h2⟩ := hd.cells
  have := hd.len
  exact ⟨a, cap, by rw [this, Nat.mul_one]; exact h1, h2⟩

/-! ### same -/
theorem list_ext_or {A B : List Int} (hl : A.length = B.length) {k : Nat} (hp : A.take k = B.take k) (hk : k = A.length) : A = B := by
  subst hk
  rw [List.take_length] at hp
  rw [hp, hl, List.take_length]

set_option maxRecDepth 8000 in
theorem same_loop {E : Env} (hE : Good E) {s : ASt} {b : Nat} {A B : List Int} (hl : A.length = B.length) (hA : A.length ≤ 1000000) {a1 a2 : Option (Nat × Nat)} {cap1 cap2 : Option Nat} (hc1 : CellsAt b s a1 (ivs A)) (hc2 : CellsAt b s a2 (ivs B)) (v0 v1 v6 : AV) {Q : ARes → Prop} :
    ∀ (l : List Int) (k : Nat) (x2 x7 x8 : AV), A.drop k = l → k ≤ A.length → A.take k = B.take k →
      (∀ (e : AExit) (y2 y3 y4 y5 y7 y8 : AV), (e = .ret ∧ A ≠ B ∧ y2 = .bool false ∨ e = .exit 0 ∧ A = B) → Q ⟨e, [v0, v1, y2, y3, y4, y5, v6, y7, y8], [], s⟩) →
      WC E none (.loop c89l9) Q [v0, v1, x2, .slice a1 A.length cap1, .slice a2 B.length cap2, iv (k : Int), v6, x7, x8] [] s := by
  intro l
  induction l with
  | nil =>
    intro k x2 x7 x8 hd hk hp hq
    have := drop_end hd hk
    subst this
    refine WC.loop' ?_
    simp only [c89l9, c89o5, len_slice Try.underlying23, Int.lt_irrefl, decide_false, wpC, wpI, wpS, wpD, wpV, wanted_none, wanted_some, vals, cev_const, cev_var, cev_loc, padV, okV_some, againP, true_and, and_true, upd_zero, upd_succ, nth_zero, nth_succ, wpG_true, wpG_false, condK_true, condK_false, seqK_normal, seqK_ret, seqK_exit, inBlock_normal, inBlock_ret, inBlock_exit, ends_ret, ends_normal, unmark_nil, results_nil, results_cons, one_one, one_zero, one_two, isB_undef, isB_tt, isB_ff, Bool.not_true, Bool.not_false, Option.bind_some, pick3, pickA, extractA, List.getElem?_cons_zero, List.getElem?_cons_succ, bin_lss, bin_gtr, bin_leq, bin_geq, bin_eql, bin_neq, un_not]
    exact hq _ _ _ _ _ _ _ (.inr ⟨rfl, list_ext_or hl hp rfl⟩)
  | cons x l ih =>
    intro k x2 x7 x8 hd hk hp hq
    obtain ⟨hlt, hx, hd'⟩ := drop_facts hd
    have hltB : k < B.length := by omega
    have hy : B[k]? = some B[k] := List.getElem?_eq_getElem hltB
    obtain ⟨i, o, rfl, hi, hload⟩ := hc1 k _ (get_ivs hx)
    obtain ⟨i2, o2, rfl, hi2, hload2⟩ := hc2 k _ (get_ivs hy)
    have e1 := idx_slice (cap := cap1) (i := i) (o := o) Try.underlying23 sz3 hlt
    have e2 : loadV Try.prog s 3 (.ptr (some (i, o + k * 1))) = some (iv x) := load_one ag3 (by rw [Nat.mul_one]; exact hload)
    have f1 := idx_slice (cap := cap2) (i := i2) (o := o2) Try.underlying23 sz3 hltB
    have f2 : loadV Try.prog s 3 (.ptr (some (i2, o2 + k * 1))) = some (iv B[k]) := load_one ag3 (by rw [Nat.mul_one]; exact hload2)
    have hkk : decide ((k : Int) < (A.length : Int)) = true := decide_eq_true (by omega)
    have e3 := bin_add Try.prog 3 (k : Int) 1 ⟨by omega, by omega⟩
    have hcast : ((k : Int) + 1) = ((k + 1 : Nat) : Int) := by omega
    refine WC.loop' ?_
    by_cases h : x = B[k]
    · have hne : decide (x ≠ B[k]) = false := decide_eq_false (fun q => q h)
      simp only [c89l9, c89o5, c89o6, len_slice Try.underlying23, hkk, e1, e2, f1, f2, hne, c89o8, e3, hcast, wpC, wpI, wpS, wpD, wpV, wanted_none, wanted_some, vals, cev_const, cev_var, cev_loc, padV, okV_some, againP, true_and, and_true, upd_zero, upd_succ, nth_zero, nth_succ, wpG_true, wpG_false, condK_true, condK_false, seqK_normal, seqK_ret, seqK_exit, inBlock_normal, inBlock_ret, inBlock_exit, ends_ret, ends_normal, unmark_nil, results_nil, results_cons, one_one, one_zero, one_two, isB_undef, isB_tt, isB_ff, Bool.not_true, Bool.not_false, Option.bind_some, pick3, pickA, extractA, List.getElem?_cons_zero, List.getElem?_cons_succ, bin_lss, bin_gtr, bin_leq, bin_geq, bin_eql, bin_neq, un_not]
      refine ih (k + 1) _ _ _ hd' hlt ?_ hq
      rw [List.take_succ_eq_append_getElem hlt, List.take_succ_eq_append_getElem hltB, hp]
      congr 2
      rw [← h]
      rw [List.getElem?_eq_getElem hlt] at hx
      injection hx
    · have hne : decide (x ≠ B[k]) = true := decide_eq_true h
      simp only [c89l9, c89o5, c89o6, len_slice Try.underlying23, hkk, e1, e2, f1, f2, hne, c89o7, wpC, wpI, wpS, wpD, wpV, wanted_none, wanted_some, vals, cev_const, cev_var, cev_loc, padV, okV_some, againP, true_and, and_true, upd_zero, upd_succ, nth_zero, nth_succ, wpG_true, wpG_false, condK_true, condK_false, seqK_normal, seqK_ret, seqK_exit, inBlock_normal, inBlock_ret, inBlock_exit, ends_ret, ends_normal, unmark_nil, results_nil, results_cons, one_one, one_zero, one_two, isB_undef, isB_tt, isB_ff, Bool.not_true, Bool.not_false, Option.bind_some, pick3, pickA, extractA, List.getElem?_cons_zero, List.getElem?_cons_succ, bin_lss, bin_gtr, bin_leq, bin_geq, bin_eql, bin_neq, un_not]
      refine hq _ _ _ _ _ _ _ (.inl ⟨rfl, fun q => ?_, rfl⟩)
      subst q
      rw [List.getElem?_eq_getElem hlt] at hx
      injection hx with hx
      exact h hx.symm

theorem same_ok {E : Env} (hE : Good E) {s : ASt} {b : Nat} {x y : List Int} (hx : I64s x) (hy : I64s y) (hxl : x.length ≤ 1000) (hyl : y.length ≤ 1000) {v u : AV} (hb : b ≤ s.next) (hv : SliceAt b s v (ivs x)) (hu : SliceAt b s u (ivs y)) :
    WF E 89 [v, u] (fun r s' => r = .bool (decide (cleanV [] x = cleanV [] y)) ∧ Old s.next s s') s := by
  refine hE.go comp89 (by decide) rfl ?_
  simp only [c89, c89o0, c89o1, wpC, wpI, wpS, wpD, wpV, wanted_none, wanted_some, vals, cev_const, cev_var, cev_loc, padV, okV_some, againP, true_and, and_true, upd_zero, upd_succ, nth_zero, nth_succ, wpG_true, wpG_false, condK_true, condK_false, seqK_normal, seqK_ret, seqK_exit, inBlock_normal, inBlock_ret, inBlock_exit, ends_ret, ends_normal, unmark_nil, results_nil, results_cons, one_one, one_zero, one_two, isB_undef, isB_tt, isB_ff, Bool.not_true, Bool.not_false, Option.bind_some, pick3, pickA, extractA, List.getElem?_cons_zero, List.getElem?_cons_succ, bin_lss, bin_gtr, bin_leq, bin_geq, bin_eql, bin_neq, un_not]
  refine (rclean_ok hE hx hxl hb hv).mono ?_
  rintro w1 s1 ⟨O1, d1, h1⟩
  simp only [wpC, wpI, wpS, wpD, wpV, wanted_none, wanted_some, vals, cev_const, cev_var, cev_loc, padV, okV_some, againP, true_and, and_true, upd_zero, upd_succ, nth_zero, nth_succ, wpG_true, wpG_false, condK_true, condK_false, seqK_normal, seqK_ret, seqK_exit, inBlock_normal, inBlock_ret, inBlock_exit, ends_ret, ends_normal, unmark_nil, results_nil, results_cons, one_one, one_zero, one_two, isB_undef, isB_tt, isB_ff, Bool.not_true, Bool.not_false, Option.bind_some, pick3, pickA, extractA, List.getElem?_cons_zero, List.getElem?_cons_succ, bin_lss, bin_gtr, bin_leq, bin_geq, bin_eql, bin_neq, un_not]
  refine (rclean_ok hE hy hyl (Nat.le_trans hb h1.1) (hu.old h1 hb)).mono ?_
  rintro w2 s2 ⟨O2, d2, h2⟩
  have d1' : Dest s2 w1 (cleanV [] x).length 1 (ivs (cleanV [] x)) O1 := d1.frame h2.1 fun j hj => h2.2 j (d1.slot_lt j hj)
  obtain ⟨a1, cap1, rfl, hc1⟩ := d1'.cells
  obtain ⟨a2, cap2, rfl, hc2⟩ := d2.cells
  have hold : Old s.next s s2 := h1.trans (h2.mono h1.1)
  have l1 : (cleanV [] x).length ≤ 1000 := by have := cleanV_len x []; simp at this; omega
  by_cases hl : (cleanV [] x).length = (cleanV [] y).length
  · have hne : decide (((cleanV [] x).length : Int) ≠ ((cleanV [] y).length : Int)) = false := decide_eq_false (fun q => q (by omega))
    simp only [c89o2, len_slice Try.underlying23, hne, c89o4, wpC, wpI, wpS, wpD, wpV, wanted_none, wanted_some, vals, cev_const, cev_var, cev_loc, padV, okV_some, againP, true_and, and_true, upd_zero, upd_succ, nth_zero, nth_succ, wpG_true, wpG_false, condK_true, condK_false, seqK_normal, seqK_ret, seqK_exit, inBlock_normal, inBlock_ret, inBlock_exit, ends_ret, ends_normal, unmark_nil, results_nil, results_cons, one_one, one_zero, one_two, isB_undef, isB_tt, isB_ff, Bool.not_true, Bool.not_false, Option.bind_some, pick3, pickA, extractA, List.getElem?_cons_zero, List.getElem?_cons_succ, bin_lss, bin_gtr, bin_leq, bin_geq, bin_eql, bin_neq, un_not]
    refine same_loop hE hl (by omega) hc1 hc2 _ _ _ (cleanV [] x) 0 _ _ _ rfl (Nat.zero_le _) rfl ?_
    rintro e y2 y3 y4 y5 y7 y8 (⟨rfl, h, rfl⟩ | ⟨rfl, h⟩)
    · simp only [wpC, wpI, wpS, wpD, wpV, wanted_none, wanted_some, vals, cev_const, cev_var, cev_loc, padV, okV_some, againP, true_and, and_true, upd_zero, upd_succ, nth_zero, nth_succ, wpG_true, wpG_false, condK_true, condK_false, seqK_normal, seqK_ret, seqK_exit, inBlock_normal, inBlock_ret, inBlock_exit, ends_ret, ends_normal, unmark_nil, results_nil, results_cons, one_one, one_zero, one_two, isB_undef, isB_tt, isB_ff, Bool.not_true, Bool.not_false, Option.bind_some, pick3, pickA, extractA, List.getElem?_cons_zero, List.getElem?_cons_succ, bin_lss, bin_gtr, bin_leq, bin_geq, bin_eql, bin_neq, un_not]
      exact ⟨by simp [h], hold⟩
    · simp only [if_true, c89o10, wpC, wpI, wpS, wpD, wpV, wanted_none, wanted_some, vals, cev_const, cev_var, cev_loc, padV, okV_some, againP, true_and, and_true, upd_zero, upd_succ, nth_zero, nth_succ, wpG_true, wpG_false, condK_true, condK_false, seqK_normal, seqK_ret, seqK_exit, inBlock_normal, inBlock_ret, inBlock_exit, ends_ret, ends_normal, unmark_nil, results_nil, results_cons, one_one, one_zero, one_two, isB_undef, isB_tt, isB_ff, Bool.not_true, Bool.not_false, Option.bind_some, pick3, pickA, extractA, List.getElem?_cons_zero, List.getElem?_cons_succ, bin_lss, bin_gtr, bin_leq, bin_geq, bin_eql, bin_neq, un_not]
      exact ⟨by simp [h], hold⟩
  · have hne : decide (((cleanV [] x).length : Int) ≠ ((cleanV [] y).length : Int)) = true := decide_eq_true (by omega)
    simp only [c89o2, len_slice Try.underlying23, hne, c89o3, wpC, wpI, wpS, wpD, wpV, wanted_none, wanted_some, vals, cev_const, cev_var, cev_loc, padV, okV_some, againP, true_and, and_true, upd_zero, upd_succ, nth_zero, nth_succ, wpG_true, wpG_false, condK_true, condK_false, seqK_normal, seqK_ret, seqK_exit, inBlock_normal, inBlock_ret, inBlock_exit, ends_ret, ends_normal, unmark_nil, results_nil, results_cons, one_one, one_zero, one_two, isB_undef, isB_tt, isB_ff, Bool.not_true, Bool.not_false, Option.bind_some, pick3, pickA, extractA, List.getElem?_cons_zero, List.getElem?_cons_succ, bin_lss, bin_gtr, bin_leq, bin_geq, bin_eql, bin_neq, un_not]
    refine ⟨?_, hold⟩
    rw [decide_eq_false (fun q => hl (by rw [q]))]

/-! ### Rows of slices -/
/-- Cells that are slices of numbers, which lie below b. -/
def RowCells (b : Nat) (s : ASt) (us : List AV) (cs : List (List Int)) : Prop := us.length = cs.length ∧ ∀ (k : Nat) (L : List Int), cs[k]? = some L → ∃ u : AV, us[k]? = some u ∧ SliceAt b s u (ivs L)
theorem RowCells.old {b : Nat} {s s' : ASt} {us : List AV} {cs : List (List Int)} (h : RowCells b s us cs) (k : Old b s s') : RowCells b s' us cs :=
  ⟨h.1, fun j L hj => let ⟨u, h1, h2⟩ := h.2 j L hj; ⟨u, h1, h2.old k (Nat.le_refl _)⟩⟩
theorem RowCells.mono {b b' : Nat} {s : ASt} {us : List AV} {cs : List (List Int)} (h : RowCells b s us cs) (k : b ≤ b') : RowCells b' s us cs :=
  ⟨h.1, fun j L hj => let ⟨u, h1, h2⟩ := h.2 j L hj; ⟨u, h1, h2.mono k⟩⟩
theorem RowCells.nil (b : Nat) (s : ASt) : RowCells b s [] [] := ⟨rfl, fun k L h => by simp at h⟩
theorem RowCells.append {b : Nat} {s : ASt} {us us' : List AV} {cs cs' : List (List Int)} (h : RowCells b s us cs) (h' : RowCells b s us' cs') : RowCells b s (us ++ us') (cs ++ cs') := by
  refine ⟨by simp [h.1, h'.1], fun k L hk => ?_⟩
  rcases Nat.lt_or_ge k cs.length with hlt | hge
  · rw [List.getElem?_append_left hlt] at hk
    obtain ⟨u, h1, h2⟩ := h.2 k L hk
    exact ⟨u, by rw [List.getElem?_append_left (by rw [h.1]; exact hlt)]; exact h1, h2⟩
  · rw [List.getElem?_append_right hge] at hk
    obtain ⟨u, h1, h2⟩ := h'.2 _ L hk
    exact ⟨u, by rw [List.getElem?_append_right (by rw [h.1]; exact hge), h.1]; exact h1, h2⟩
theorem RowCells.take {b : Nat} {s : ASt} {us : List AV} {cs : List (List Int)} (h : RowCells b s us cs) (n : Nat) : RowCells b s (us.take n) (cs.take n) := by
  refine ⟨by simp [h.1], fun k L hk => ?_⟩
  rcases Nat.lt_or_ge k n with hlt | hge
  · rw [List.getElem?_take_of_lt hlt] at hk
    obtain ⟨u, h1, h2⟩ := h.2 k L hk
    exact ⟨u, by rw [List.getElem?_take_of_lt hlt]; exact h1, h2⟩
  · rw [List.getElem?_eq_none (by simp; omega)] at hk; cases hk
theorem RowCells.drop {b : Nat} {s : ASt} {us : List AV} {cs : List (List Int)} (h : RowCells b s us cs) (n : Nat) : RowCells b s (us.drop n) (cs.drop n) := by
  refine ⟨by simp [h.1], fun k L hk => ?_⟩
  rw [List.getElem?_drop] at hk
  obtain ⟨u, h1, h2⟩ := h.2 _ L hk
  exact ⟨u, by rw [List.getElem?_drop]; exact h1, h2⟩
theorem RowCells.one {b : Nat} {s : ASt} {u : AV} {L : List Int} (h : SliceAt b s u (ivs L)) : RowCells b s [u] [L] := by
  refine ⟨rfl, fun k L' hk => ?_⟩
  cases k with
  | zero => simp at hk; subst hk; exact ⟨u, rfl, h⟩
  | succ k => simp at hk
/-- Every cell is a slice. -/
theorem RowCells.cells {b : Nat} {s : ASt} {us : List AV} {cs : List (List Int)} (h : RowCells b s us cs) : allCells us = true := by
  have : ∀ (l : List AV), (∀ u ∈ l, u.isCell = true) → allCells l = true := by
    intro l
    induction l with
    | nil => intro _; rfl
    | cons u l ih => intro hl; simp only [allCells, Bool.and_eq_true]; exact ⟨hl u List.mem_cons_self, ih fun x hx => hl x (List.mem_cons_of_mem _ hx)⟩
  refine this us fun u hu => ?_
  obtain ⟨k, hk⟩ := List.mem_iff_getElem?.1 hu
  have hlt : k < us.length := by
    rcases Nat.lt_or_ge k us.length with h' | h'
    · exact h'
    · rw [List.getElem?_eq_none h'] at hk; cases hk
  have hlt2 : k < cs.length := by rw [← h.1]; exact hlt
  obtain ⟨u', h1, a, cap, h2, _⟩ := h.2 k cs[k] (List.getElem?_eq_getElem hlt2)
  rw [hk] at h1
  injection h1 with h1
  subst h1; subst h2
  rfl
theorem RowCells.rows {b c : Nat} {s : ASt} {us : List AV} {cs : List (List Int)} (h : RowCells b s us cs) {a : Option (Nat × Nat)} (hc : CellsAt c s a us) (hbc : b ≤ c) : RowsAt c s a cs := by
  intro k L hk
  obtain ⟨u, h1, h2⟩ := h.2 k L hk
  obtain ⟨i, o, h3, h4, h5⟩ := hc k u h1
  exact ⟨i, o, u, h3, h4, h5, h2.mono hbc⟩
end Go.Proofs.Ytilhhmkdcoajnaa.Am

/- What the reference's functions drop and all of layer 20 compute; conditions: the numbers fit. -/
set_option linter.unusedVariables false
set_option linter.unusedSimpArgs false
namespace Go.Proofs.Ytilhhmkdcoajnaa.Am
open Go Go.Proofs

theorem zero23 : zeroOk Try.prog 23 1 = true := by simp [zeroOk, zr23, AV.cells]
/-- The last one of the same literals, of so many. -/
def lastV (cs : List (List Int)) (c : List Int) : Nat → Option Nat
  | 0 => none
  | k + 1 => if cleanV [] (cs.getD k []) = cleanV [] c then some k else lastV cs c k
def without {α : Type} (l : List α) : Option Nat → List α
  | none => l
  | some i => l.take i ++ l.drop (i + 1)
def dropV (cs : List (List Int)) (c : List Int) : List (List Int) := without cs (lastV cs c cs.length)

theorem lastV_lt {cs : List (List Int)} {c : List Int} : ∀ {k i : Nat}, lastV cs c k = some i → i < k
  | k + 1, i, h => by
    unfold lastV at h
    split at h
    · injection h with h; omega
    · have := lastV_lt h; omega

/-- An empty slice, laid anew. -/
theorem dest_empty {s : ASt} {ty : TypeId} : Dest (newObj s (mkRow ty 1 [])) (.slice (some (s.next, 0)) 0 (some 0)) 0 1 [] [] := by
  refine .inl ⟨_, rfl, rfl, rfl, fun e => (by cases e), fun i o e => ?_⟩
  injection e with e
  injection e with e1 e2
  subst e1; subst e2
  refine ⟨Nat.lt_succ_self _, ?_⟩
  obtain ⟨r, h1, h2, _⟩ := holds_mkRow ty 1 []
  exact loadN_holds (s := newObj s (mkRow ty 1 [])) (i := s.next) (by rw [heap_new, if_pos rfl, h1]) h2 0 [] (Nat.le_refl _) (fun j u hj => by simp at hj)

set_option maxRecDepth 8000 in
/-- A row without one: the two appends. -/
theorem without_step {E : Env} {s : ASt} {n : Nat} {us : List AV} {O : List Nat} {v : AV} (hd : Dest s v n 1 us O) (hus : us.length ≤ 1000000) (hcell : allCells us = true) {k : Nat} (hk : k < n) (v1 v2 v4 v5 : AV) {K : List AV → ASt → Prop}
    (hK : ∀ v' s' O', Dest s' v' (us.take k ++ us.drop (k + 1)).length 1 (us.take k ++ us.drop (k + 1)) O' → (∀ j ∈ O', s.next ≤ j) → Old s.next s s' → K [v, v1, v', iv (k : Int), v4, v5] s') :
    wpI E c57o4 K [] [v, v1, v2, iv (k : Int), v4, v5] s := by
  have hn : us.length = n := by have := hd.len; omega
  obtain ⟨ax, cx, q1, q2, q3⟩ := slice_hi (P := Try.prog) (t := 22) Try.underlying22 sz23 hd (Nat.le_of_lt hk)
  obtain ⟨ay, cy, p1, p2, p3⟩ := slice_lo (P := Try.prog) (t := 22) (k := k + 1) Try.underlying22 sz23 hd hk
  have hslot := hd.slot_lt
  have b0 := bld_zero (P := Try.prog) (t := 22) Try.underlying22 sz23 zr23 rfl
  have d0 := dest_empty (s := s) (ty := 23)
  generalize hs1 : newObj s (mkRow 23 1 []) = s1 at d0
  have n1 : s1.next = s.next + 1 := by rw [← hs1]; rfl
  have o1 : ∀ j, j < s.next → s1.heap.get j = s.heap.get j := fun j hj => by rw [← hs1, heap_new, if_neg (by omega)]
  have q4 := q3 s1 fun j hj => o1 j (hslot j hj)
  have p4 := (p3 s1 fun j hj => o1 j (hslot j hj)).1
  have hct : allCells (us.take k) = true := by
    have : us.take k ++ us.drop k = us := List.take_append_drop k us
    rw [← this] at hcell
    have : ∀ {a b : List AV}, allCells (a ++ b) = true → allCells a = true := by
      intro a b
      induction a with
      | nil => intro _; rfl
      | cons x a ih => intro h; simp only [List.cons_append, allCells, Bool.and_eq_true] at h ⊢; exact ⟨h.1, ih h.2⟩
    exact this hcell
  have hcd : allCells (us.drop (k + 1)) = true := by
    have : us.take (k + 1) ++ us.drop (k + 1) = us := List.take_append_drop (k + 1) us
    rw [← this] at hcell
    have : ∀ {a b : List AV}, allCells (a ++ b) = true → allCells b = true := by
      intro a b
      induction a with
      | nil => intro h; exact h
      | cons x a ih => intro h; simp only [List.cons_append, allCells, Bool.and_eq_true] at h; exact ih h.2
    exact this hcell
  obtain ⟨va, s3, Oa, a1, a2, a3, a4, a5, a6, a7⟩ := d0.append (P := Try.prog) (st := 22) (xt := 22) Try.underlying22 sz23 by23 (by decide) (strx 22 23 Try.underlying22) zero23 q4.2 (by simp; omega) hct (by omega) (by omega)
  have Oa_new : ∀ j ∈ Oa, s1.next ≤ j := fun j hj => (a6 j hj).elim (fun h => by cases h) id
  have o3 : ∀ j, j < s.next → s3.heap.get j = s.heap.get j := fun j hj => (a5 j (by omega) (by simp)).trans (o1 j hj)
  have p5 := p3 s3 fun j hj => o3 j (hslot j hj)
  obtain ⟨vc, s5, Oc, e1, e2, e3, e4, e5, e6, e7⟩ := a2.append (P := Try.prog) (st := 22) (xt := 22) Try.underlying22 sz23 by23 (by decide) (strx 22 23 Try.underlying22) zero23 p5.2 (by simp; omega) hcd (by omega) (by omega)
  have o5 : ∀ j, j < s.next → s5.heap.get j = s.heap.get j := fun j hj => (e5 j (by omega) (fun h => by have := Oa_new j h; omega)).trans (o3 j hj)
  have hlast : (0 + k + (n - (k + 1))) = (us.take k ++ us.drop (k + 1)).length := by simp; omega
  rw [hlast, List.nil_append] at e2
  have hmv : ∀ (m : Nat) (i : Nat), Made.val i (.slice m) = .slice (some (i, 0)) m (some m) := fun _ _ => rfl
  have hadd := bin_add Try.prog 3 (k : Int) 1 ⟨by omega, by omega⟩
  have hcast : ((k : Int) + 1) = ((k + 1 : Nat) : Int) := by omega
  simp only [c57o4, b0, hs1, hmv, q4.1, hadd, hcast, p4, a1, p5.1, e1, again_r, sameA_some, p1, wpC, wpI, wpS, wpD, wpV, wanted_none, wanted_some, vals, cev_const, cev_var, cev_loc, padV, okV_some, againP, true_and, and_true, upd_zero, upd_succ, nth_zero, nth_succ, wpG_true, wpG_false, condK_true, condK_false, seqK_normal, seqK_ret, seqK_exit, inBlock_normal, inBlock_ret, inBlock_exit, ends_ret, ends_normal, unmark_nil, results_nil, results_cons, one_one, one_zero, one_two, isB_undef, isB_tt, isB_ff, Bool.not_true, Bool.not_false, Option.bind_some, pick3, pickA, extractA, List.getElem?_cons_zero, List.getElem?_cons_succ, bin_lss, bin_gtr, bin_leq, bin_geq, bin_eql, bin_neq, un_not]
  exact hK vc s5 Oc e2 (fun j hj => (e6 j hj).elim (fun h => by have := Oa_new j h; omega) (fun h => by omega)) ⟨by omega, o5⟩

set_option maxRecDepth 8000 in
theorem drop_loop {E : Env} (hE : Good E) {s0 : ASt} {b : Nat} (hb : b ≤ s0.next) {us : List AV} {cs : List (List Int)} (hcs : FitsR cs) {c : List Int} (hc : I64s c) (hcl : c.length ≤ 1000) {v u : AV} {O : List Nat} (hd : Dest s0 v us.length 1 us O) (hr : RowCells b s0 us cs) (hu : SliceAt b s0 u (ivs c)) {Q : ARes → Prop} :
    ∀ (k : Nat) (s : ASt) (x2 x4 x5 : AV), k ≤ cs.length → Old s0.next s0 s → lastV cs c cs.length = lastV cs c k →
      (∀ e s' v' us' O' y3 y4 y5, Dest s' v' us'.length 1 us' O' → RowCells b s' us' (dropV cs c) → (∀ j ∈ O', j ∈ O ∨ s0.next ≤ j) → Old s0.next s0 s' → (e = .ret ∨ e = .exit 0 ∧ v' = v) → ∀ y2, (e = .ret → y2 = v') → Q ⟨e, [v, u, y2, y3, y4, y5], [], s'⟩) →
      WC E none (.loop c57l6) Q [v, u, x2, iv ((k : Int) - 1), x4, x5] [] s := by
  intro k
  induction k with
  | zero =>
    intro s x2 x4 x5 hk hold hl hq
    have hdr : dropV cs c = cs := by unfold dropV; rw [hl]; rfl
    refine WC.loop' ?_
    simp only [c57l6, c57o2, wpC, wpI, wpS, wpD, wpV, wanted_none, wanted_some, vals, cev_const, cev_var, cev_loc, padV, okV_some, againP, true_and, and_true, upd_zero, upd_succ, nth_zero, nth_succ, wpG_true, wpG_false, condK_true, condK_false, seqK_normal, seqK_ret, seqK_exit, inBlock_normal, inBlock_ret, inBlock_exit, ends_ret, ends_normal, unmark_nil, results_nil, results_cons, one_one, one_zero, one_two, isB_undef, isB_tt, isB_ff, Bool.not_true, Bool.not_false, Option.bind_some, pick3, pickA, extractA, List.getElem?_cons_zero, List.getElem?_cons_succ, bin_lss, bin_gtr, bin_leq, bin_geq, bin_eql, bin_neq, un_not]
    simp only [show ((0 : Nat) : Int) - 1 = -1 from rfl, show decide ((0 : Int) ≤ -1) = false from rfl, wpC, wpI, wpS, wpD, wpV, wanted_none, wanted_some, vals, cev_const, cev_var, cev_loc, padV, okV_some, againP, true_and, and_true, upd_zero, upd_succ, nth_zero, nth_succ, wpG_true, wpG_false, condK_true, condK_false, seqK_normal, seqK_ret, seqK_exit, inBlock_normal, inBlock_ret, inBlock_exit, ends_ret, ends_normal, unmark_nil, results_nil, results_cons, one_one, one_zero, one_two, isB_undef, isB_tt, isB_ff, Bool.not_true, Bool.not_false, Option.bind_some, pick3, pickA, extractA, List.getElem?_cons_zero, List.getElem?_cons_succ, bin_lss, bin_gtr, bin_leq, bin_geq, bin_eql, bin_neq, un_not]
    exact hq _ s v us O _ _ _ (hd.frame hold.1 fun j hj => hold.2 j (hd.slot_lt j hj)) (by rw [hdr]; exact hr.old (hold.mono hb)) (fun j hj => .inl hj) hold (.inr ⟨rfl, rfl⟩) _ (fun e => by cases e)
  | succ k ih =>
    intro s x2 x4 x5 hk hold hl hq
    have hlt : k < us.length := by rw [hr.1]; omega
    have hL : cs[k]? = some cs[k] := List.getElem?_eq_getElem hk
    obtain ⟨w, hw1, hw2⟩ := hr.2 k _ hL
    obtain ⟨hLi, hLl⟩ := hcs.2 cs[k] (List.getElem_mem _)
    have hds : Dest s v us.length 1 us O := hd.frame hold.1 fun j hj => hold.2 j (hd.slot_lt j hj)
    obtain ⟨a, cap, hve, hcells⟩ := hds.cells
    obtain ⟨i, o, hae, hi, hload⟩ := hcells k w hw1
    have e1 : indexAddrA Try.prog 22 v (iv (k : Int)) = some (.ptr (some (i, o + k * 1))) := by rw [hve, hae]; exact idx_slice Try.underlying22 sz23 hlt
    have e2 : loadV Try.prog s 23 (.ptr (some (i, o + k * 1))) = some w := load_one ag23 (by rw [Nat.mul_one]; exact hload)
    have hk1 : ((k + 1 : Nat) : Int) - 1 = (k : Int) := by omega
    have hge : decide ((0 : Int) ≤ (k : Int)) = true := decide_eq_true (by omega)
    have hcsl := hcs.1
    have e3 := bin_sub Try.prog 3 (k : Int) 1 ⟨by omega, by omega⟩
    refine WC.loop' ?_
    rw [hk1]
    simp only [c57l6, c57o2, c57o3, hge, e1, e2, wpC, wpI, wpS, wpD, wpV, wanted_none, wanted_some, vals, cev_const, cev_var, cev_loc, padV, okV_some, againP, true_and, and_true, upd_zero, upd_succ, nth_zero, nth_succ, wpG_true, wpG_false, condK_true, condK_false, seqK_normal, seqK_ret, seqK_exit, inBlock_normal, inBlock_ret, inBlock_exit, ends_ret, ends_normal, unmark_nil, results_nil, results_cons, one_one, one_zero, one_two, isB_undef, isB_tt, isB_ff, Bool.not_true, Bool.not_false, Option.bind_some, pick3, pickA, extractA, List.getElem?_cons_zero, List.getElem?_cons_succ, bin_lss, bin_gtr, bin_leq, bin_geq, bin_eql, bin_neq, un_not]
    refine (same_ok hE hLi hc hLl hcl (Nat.le_trans hb hold.1) (hw2.old hold hb) (hu.old hold hb)).mono ?_
    rintro _ s1 ⟨rfl, h1⟩
    have hold1 : Old s0.next s0 s1 := hold.trans (h1.mono hold.1)
    have hgd : cs.getD k [] = cs[k] := by simp [List.getD_eq_getElem?_getD, hL]
    by_cases h : cleanV [] cs[k] = cleanV [] c
    · have hlv : lastV cs c cs.length = some k := by rw [hl]; unfold lastV; rw [hgd, if_pos h]
      have hdr : dropV cs c = cs.take k ++ cs.drop (k + 1) := by unfold dropV; rw [hlv]; rfl
      simp only [h, decide_true, wpC, wpI, wpS, wpD, wpV, wanted_none, wanted_some, vals, cev_const, cev_var, cev_loc, padV, okV_some, againP, true_and, and_true, upd_zero, upd_succ, nth_zero, nth_succ, wpG_true, wpG_false, condK_true, condK_false, seqK_normal, seqK_ret, seqK_exit, inBlock_normal, inBlock_ret, inBlock_exit, ends_ret, ends_normal, unmark_nil, results_nil, results_cons, one_one, one_zero, one_two, isB_undef, isB_tt, isB_ff, Bool.not_true, Bool.not_false, Option.bind_some, pick3, pickA, extractA, List.getElem?_cons_zero, List.getElem?_cons_succ, bin_lss, bin_gtr, bin_leq, bin_geq, bin_eql, bin_neq, un_not]
      have hd1 : Dest s1 v us.length 1 us O := hd.frame hold1.1 fun j hj => hold1.2 j (hd.slot_lt j hj)
      refine without_step hd1 (by rw [hr.1]; omega) hr.cells hlt _ _ _ _ ?_
      intro v' s' O' g1 g2 g3
      have hold2 : Old s0.next s0 s' := hold1.trans (g3.mono hold1.1)
      have hr2 := hr.old (hold2.mono hb)
      refine hq _ s' v' _ O' _ _ _ g1 (by rw [hdr]; exact (hr2.take k).append (hr2.drop (k + 1))) (fun j hj => .inr (Nat.le_trans hold1.1 (g2 j hj))) hold2 (.inl rfl) _ (fun _ => rfl)
    · have hlv : lastV cs c cs.length = lastV cs c k := by
        rw [hl]
        show (if cleanV [] (cs.getD k []) = cleanV [] c then some k else lastV cs c k) = lastV cs c k
        rw [hgd, if_neg h]
      simp only [h, decide_false, c57o5, e3, wpC, wpI, wpS, wpD, wpV, wanted_none, wanted_some, vals, cev_const, cev_var, cev_loc, padV, okV_some, againP, true_and, and_true, upd_zero, upd_succ, nth_zero, nth_succ, wpG_true, wpG_false, condK_true, condK_false, seqK_normal, seqK_ret, seqK_exit, inBlock_normal, inBlock_ret, inBlock_exit, ends_ret, ends_normal, unmark_nil, results_nil, results_cons, one_one, one_zero, one_two, isB_undef, isB_tt, isB_ff, Bool.not_true, Bool.not_false, Option.bind_some, pick3, pickA, extractA, List.getElem?_cons_zero, List.getElem?_cons_succ, bin_lss, bin_gtr, bin_leq, bin_geq, bin_eql, bin_neq, un_not]
      exact ih s1 _ _ _ (by omega) hold1 hlv hq

/-- drop. -/
theorem drop_ok {E : Env} (hE : Good E) {s : ASt} {b : Nat} (hb : b ≤ s.next) {us : List AV} {cs : List (List Int)} (hcs : FitsR cs) {c : List Int} (hc : I64s c) (hcl : c.length ≤ 1000) {v u : AV} {O : List Nat} (hd : Dest s v us.length 1 us O) (hr : RowCells b s us cs) (hu : SliceAt b s u (ivs c)) :
    WF E 57 [v, u] (fun r s' => ∃ us' O', Dest s' r us'.length 1 us' O' ∧ RowCells b s' us' (dropV cs c) ∧ (∀ j ∈ O', j ∈ O ∨ s.next ≤ j) ∧ Old s.next s s') s := by
  have hcsl := hcs.1
  obtain ⟨a, cap, hve, hcells⟩ := hd.cells
  have hlen : lenA Try.prog s 22 v = some (iv (cs.length : Int)) := by rw [hve, hr.1]; exact len_slice Try.underlying22
  have e3 := bin_sub Try.prog 3 (cs.length : Int) 1 ⟨by omega, by omega⟩
  refine hE.go comp57 (by decide) rfl ?_
  simp only [c57, c57o0, c57o1, hlen, e3, wpC, wpI, wpS, wpD, wpV, wanted_none, wanted_some, vals, cev_const, cev_var, cev_loc, padV, okV_some, againP, true_and, and_true, upd_zero, upd_succ, nth_zero, nth_succ, wpG_true, wpG_false, condK_true, condK_false, seqK_normal, seqK_ret, seqK_exit, inBlock_normal, inBlock_ret, inBlock_exit, ends_ret, ends_normal, unmark_nil, results_nil, results_cons, one_one, one_zero, one_two, isB_undef, isB_tt, isB_ff, Bool.not_true, Bool.not_false, Option.bind_some, pick3, pickA, extractA, List.getElem?_cons_zero, List.getElem?_cons_succ, bin_lss, bin_gtr, bin_leq, bin_geq, bin_eql, bin_neq, un_not]
  refine drop_loop hE hb hcs hc hcl hd hr hu cs.length s _ _ _ (Nat.le_refl _) (Old.refl _ _) rfl ?_
  intro e s' v' us' O' y3 y4 y5 g1 g2 g3 g4 g5 y2 hy2
  rcases g5 with rfl | ⟨rfl, rfl⟩
  · have := hy2 rfl
    subst this
    simp only [wpC, wpI, wpS, wpD, wpV, wanted_none, wanted_some, vals, cev_const, cev_var, cev_loc, padV, okV_some, againP, true_and, and_true, upd_zero, upd_succ, nth_zero, nth_succ, wpG_true, wpG_false, condK_true, condK_false, seqK_normal, seqK_ret, seqK_exit, inBlock_normal, inBlock_ret, inBlock_exit, ends_ret, ends_normal, unmark_nil, results_nil, results_cons, one_one, one_zero, one_two, isB_undef, isB_tt, isB_ff, Bool.not_true, Bool.not_false, Option.bind_some, pick3, pickA, extractA, List.getElem?_cons_zero, List.getElem?_cons_succ, bin_lss, bin_gtr, bin_leq, bin_geq, bin_eql, bin_neq, un_not]
    exact ⟨us', O', g1, g2, g3, g4⟩
  · simp only [if_true, c57o7, wpC, wpI, wpS, wpD, wpV, wanted_none, wanted_some, vals, cev_const, cev_var, cev_loc, padV, okV_some, againP, true_and, and_true, upd_zero, upd_succ, nth_zero, nth_succ, wpG_true, wpG_false, condK_true, condK_false, seqK_normal, seqK_ret, seqK_exit, inBlock_normal, inBlock_ret, inBlock_exit, ends_ret, ends_normal, unmark_nil, results_nil, results_cons, one_one, one_zero, one_two, isB_undef, isB_tt, isB_ff, Bool.not_true, Bool.not_false, Option.bind_some, pick3, pickA, extractA, List.getElem?_cons_zero, List.getElem?_cons_succ, bin_lss, bin_gtr, bin_leq, bin_geq, bin_eql, bin_neq, un_not]
    exact ⟨us', O', g1, g2, g3, g4⟩

/-- What a slice brings that is appended. -/
theorem Dest.src {P : Program} {e : TypeId} {s : ASt} {v : AV} {n sz : Nat} {cs : List AV} {O : List Nat} (h : Dest s v n sz cs O) : srcCells P s e sz v = some (n, cs) := by
  rcases h with ⟨a, rfl, h2, h3, h4, h5⟩ | ⟨i, p, rfl, h6, h7⟩
  · cases a with
    | none =>
      have hn := h4 rfl
      subst hn
      have : cs = [] := by simp at h3; exact h3
      subst this
      rfl
    | some io =>
      obtain ⟨i, o⟩ := io
      obtain ⟨k1, k2⟩ := h5 i o rfl
      simp [srcCells, srcN_load k2]
  · rcases h6.ex with ⟨e', _⟩ | ⟨_, q1, q2, q3, r, q4, q5, q6, q7, q8, q9⟩
    · cases e'
    · have := loadN_holds q4 q5 0 cs (by omega) (fun j u hj => by simpa using hj)
      rw [h6.len] at this
      simp [srcCells, srcN_load this]

set_option maxRecDepth 8000 in
/-- all. -/
theorem all_ok {E : Env} (hE : Good E) {s : ASt} {us vs : List AV} {v u : AV} {O O2 : List Nat} (hd : Dest s v us.length 1 us O) (hd2 : Dest s u vs.length 1 vs O2) (hl : us.length ≤ 1000000) (hl2 : vs.length ≤ 1000000) (hc : allCells us = true) (hc2 : allCells vs = true) :
    WF E 58 [v, u] (fun r s' => ∃ O', Dest s' r (us ++ vs).length 1 (us ++ vs) O' ∧ (∀ j ∈ O', s.next ≤ j) ∧ Old s.next s s') s := by
  have b0 := bld_zero (P := Try.prog) (t := 22) Try.underlying22 sz23 zr23 rfl
  have d0 := dest_empty (s := s) (ty := 23)
  have f1 := hd.new (mkRow 23 1 [])
  have f2 := hd2.new (mkRow 23 1 [])
  generalize hs1 : newObj s (mkRow 23 1 []) = s1 at d0 f1 f2
  have n1 : s1.next = s.next + 1 := by rw [← hs1]; rfl
  have o1 : ∀ j, j < s.next → s1.heap.get j = s.heap.get j := fun j hj => by rw [← hs1, heap_new, if_neg (by omega)]
  obtain ⟨av, capv, hve, _⟩ := hd.cells
  obtain ⟨au, capu, hue, _⟩ := hd2.cells
  have sv := f1.src (P := Try.prog) (e := 23)
  rw [hve] at sv
  obtain ⟨va, s3, Oa, a1, a2, a3, a4, a5, a6, a7⟩ := d0.append (P := Try.prog) (st := 22) (xt := 22) Try.underlying22 sz23 by23 (by decide) (strx 22 23 Try.underlying22) zero23 sv (by omega) hc (by omega) (by omega)
  have f3 : Dest s3 u vs.length 1 vs O2 := f2.frame a3 fun j hj => a5 j (by have := hd2.slot_lt j hj; omega) (by simp)
  have Oa_new : ∀ j ∈ Oa, s1.next ≤ j := fun j hj => (a6 j hj).elim (fun h => by cases h) id
  have su := f3.src (P := Try.prog) (e := 23)
  rw [hue] at su
  obtain ⟨vc, s5, Oc, e1, e2, e3, e4, e5, e6, e7⟩ := a2.append (P := Try.prog) (st := 22) (xt := 22) Try.underlying22 sz23 by23 (by decide) (strx 22 23 Try.underlying22) zero23 su (by omega) hc2 (by omega) (by omega)
  have o5 : ∀ j, j < s.next → s5.heap.get j = s.heap.get j := fun j hj => (e5 j (by omega) (fun h => by have := Oa_new j h; omega)).trans ((a5 j (by omega) (by simp)).trans (o1 j hj))
  have hlast : 0 + us.length + vs.length = (us ++ vs).length := by simp
  rw [hlast, List.nil_append] at e2
  rw [← hve] at a1
  rw [← hue] at e1
  have hmv : ∀ (m : Nat) (i : Nat), Made.val i (.slice m) = .slice (some (i, 0)) m (some m) := fun _ _ => rfl
  refine hE.go comp58 (by decide) rfl ?_
  simp only [c58, c58o0, c58o1, b0, hs1, hmv, a1, e1, wpC, wpI, wpS, wpD, wpV, wanted_none, wanted_some, vals, cev_const, cev_var, cev_loc, padV, okV_some, againP, true_and, and_true, upd_zero, upd_succ, nth_zero, nth_succ, wpG_true, wpG_false, condK_true, condK_false, seqK_normal, seqK_ret, seqK_exit, inBlock_normal, inBlock_ret, inBlock_exit, ends_ret, ends_normal, unmark_nil, results_nil, results_cons, one_one, one_zero, one_two, isB_undef, isB_tt, isB_ff, Bool.not_true, Bool.not_false, Option.bind_some, pick3, pickA, extractA, List.getElem?_cons_zero, List.getElem?_cons_succ, bin_lss, bin_gtr, bin_leq, bin_geq, bin_eql, bin_neq, un_not]
  exact ⟨Oc, e2, fun j hj => (e6 j hj).elim (fun h => by have := Oa_new j h; omega) (fun h => by omega), by omega, o5⟩

/-! ### Rows: are they alike? -/
set_option maxRecDepth 8000 in
theorem rows_in {E : Env} (hE : Good E) {s : ASt} {b : Nat} {A B : List Int} (hl : A.length = B.length) (hA : A.length ≤ 1000000) {a1 a2 : Option (Nat × Nat)} {cap1 cap2 : Option Nat} (hc1 : CellsAt b s a1 (ivs A)) (hc2 : CellsAt b s a2 (ivs B)) {k0 : Nat} {v0 v1 p1 p2 : AV}
    (g1 : indexAddrA Try.prog 22 v0 (iv (k0 : Int)) = some p1) (g2 : loadV Try.prog s 23 p1 = some (.slice a1 A.length cap1)) (g3 : indexAddrA Try.prog 22 v1 (iv (k0 : Int)) = some p2) (g4 : loadV Try.prog s 23 p2 = some (.slice a2 B.length cap2)) (v5 v6 v7 : AV) {Q : ARes → Prop} :
    ∀ (l : List Int) (k : Nat) (x2 x8 x9 : AV), A.drop k = l → k ≤ A.length → A.take k = B.take k →
      (∀ (e : AExit) (y2 y4 y8 y9 : AV), (e = .ret ∧ A ≠ B ∧ y2 = .bool false ∨ e = .exit 2 ∧ A = B) → Q ⟨e, [v0, v1, y2, iv (k0 : Int), y4, v5, v6, v7, y8, y9], [], s⟩) →
      WC E none (.loop c26l12) Q [v0, v1, x2, iv (k0 : Int), iv (k : Int), v5, v6, v7, x8, x9] [] s := by
  intro l
  induction l with
  | nil =>
    intro k x2 x8 x9 hd hk hp hq
    have := drop_end hd hk
    subst this
    refine WC.loop' ?_
    simp only [c26l12, c26o8, g1, g2, len_slice Try.underlying23, Int.lt_irrefl, decide_false, wpC, wpI, wpS, wpD, wpV, wanted_none, wanted_some, vals, cev_const, cev_var, cev_loc, padV, okV_some, againP, true_and, and_true, upd_zero, upd_succ, nth_zero, nth_succ, wpG_true, wpG_false, condK_true, condK_false, seqK_normal, seqK_ret, seqK_exit, inBlock_normal, inBlock_ret, inBlock_exit, ends_ret, ends_normal, unmark_nil, results_nil, results_cons, one_one, one_zero, one_two, isB_undef, isB_tt, isB_ff, Bool.not_true, Bool.not_false, Option.bind_some, pick3, pickA, extractA, List.getElem?_cons_zero, List.getElem?_cons_succ, bin_lss, bin_gtr, bin_leq, bin_geq, bin_eql, bin_neq, un_not]
    exact hq _ _ _ _ _ (.inr ⟨rfl, list_ext_or hl hp rfl⟩)
  | cons x l ih =>
    intro k x2 x8 x9 hd hk hp hq
    obtain ⟨hlt, hx, hd'⟩ := drop_facts hd
    have hltB : k < B.length := by omega
    have hy : B[k]? = some B[k] := List.getElem?_eq_getElem hltB
    obtain ⟨i, o, rfl, hi, hload⟩ := hc1 k _ (get_ivs hx)
    obtain ⟨i2, o2, rfl, hi2, hload2⟩ := hc2 k _ (get_ivs hy)
    have e1 := idx_slice (cap := cap1) (i := i) (o := o) Try.underlying23 sz3 hlt
    have e2 : loadV Try.prog s 3 (.ptr (some (i, o + k * 1))) = some (iv x) := load_one ag3 (by rw [Nat.mul_one]; exact hload)
    have f1 := idx_slice (cap := cap2) (i := i2) (o := o2) Try.underlying23 sz3 hltB
    have f2 : loadV Try.prog s 3 (.ptr (some (i2, o2 + k * 1))) = some (iv B[k]) := load_one ag3 (by rw [Nat.mul_one]; exact hload2)
    have hkk : decide ((k : Int) < (A.length : Int)) = true := decide_eq_true (by omega)
    have e3 := bin_add Try.prog 3 (k : Int) 1 ⟨by omega, by omega⟩
    have hcast : ((k : Int) + 1) = ((k + 1 : Nat) : Int) := by omega
    refine WC.loop' ?_
    by_cases h : x = B[k]
    · have hne : decide (x ≠ B[k]) = false := decide_eq_false (fun q => q h)
      simp only [c26l12, c26o8, c26o9, g1, g2, g3, g4, len_slice Try.underlying23, hkk, e1, e2, f1, f2, hne, c26o11, e3, hcast, wpC, wpI, wpS, wpD, wpV, wanted_none, wanted_some, vals, cev_const, cev_var, cev_loc, padV, okV_some, againP, true_and, and_true, upd_zero, upd_succ, nth_zero, nth_succ, wpG_true, wpG_false, condK_true, condK_false, seqK_normal, seqK_ret, seqK_exit, inBlock_normal, inBlock_ret, inBlock_exit, ends_ret, ends_normal, unmark_nil, results_nil, results_cons, one_one, one_zero, one_two, isB_undef, isB_tt, isB_ff, Bool.not_true, Bool.not_false, Option.bind_some, pick3, pickA, extractA, List.getElem?_cons_zero, List.getElem?_cons_succ, bin_lss, bin_gtr, bin_leq, bin_geq, bin_eql, bin_neq, un_not]
      refine ih (k + 1) _ _ _ hd' hlt ?_ hq
      rw [List.take_succ_eq_append_getElem hlt, List.take_succ_eq_append_getElem hltB, hp]
      congr 2
      rw [← h]
      rw [List.getElem?_eq_getElem hlt] at hx
      injection hx
    · have hne : decide (x ≠ B[k]) = true := decide_eq_true h
      simp only [c26l12, c26o8, c26o9, g1, g2, g3, g4, len_slice Try.underlying23, hkk, e1, e2, f1, f2, hne, c26o10, wpC, wpI, wpS, wpD, wpV, wanted_none, wanted_some, vals, cev_const, cev_var, cev_loc, padV, okV_some, againP, true_and, and_true, upd_zero, upd_succ, nth_zero, nth_succ, wpG_true, wpG_false, condK_true, condK_false, seqK_normal, seqK_ret, seqK_exit, inBlock_normal, inBlock_ret, inBlock_exit, ends_ret, ends_normal, unmark_nil, results_nil, results_cons, one_one, one_zero, one_two, isB_undef, isB_tt, isB_ff, Bool.not_true, Bool.not_false, Option.bind_some, pick3, pickA, extractA, List.getElem?_cons_zero, List.getElem?_cons_succ, bin_lss, bin_gtr, bin_leq, bin_geq, bin_eql, bin_neq, un_not]
      refine hq _ _ _ _ _ (.inl ⟨rfl, fun q => ?_, rfl⟩)
      subst q
      rw [List.getElem?_eq_getElem hlt] at hx
      injection hx with hx
      exact h hx.symm

set_option maxRecDepth 8000 in
theorem rows_loop {E : Env} (hE : Good E) {s : ASt} {b : Nat} {A B : List (List Int)} (hl : A.length = B.length) (hA : A.length ≤ 1000000) (hAl : ∀ L ∈ A, L.length ≤ 1000000) {a1 a2 : Option (Nat × Nat)} {cap1 cap2 : Option Nat} (hc1 : RowsAt b s a1 A) (hc2 : RowsAt b s a2 B) (v5 : AV) {Q : ARes → Prop} :
    ∀ (l : List (List Int)) (k : Nat) (x2 x4 x6 x7 x8 x9 : AV), A.drop k = l → k ≤ A.length → A.take k = B.take k →
      (∀ (e : AExit) (y2 y3 y4 y6 y7 y8 y9 : AV), (e = .ret ∧ A ≠ B ∧ y2 = .bool false ∨ e = .exit 0 ∧ A = B) → Q ⟨e, [.slice a1 A.length cap1, .slice a2 B.length cap2, y2, y3, y4, v5, y6, y7, y8, y9], [], s⟩) →
      WC E none (.loop c26l14) Q [.slice a1 A.length cap1, .slice a2 B.length cap2, x2, iv (k : Int), x4, v5, x6, x7, x8, x9] [] s := by
  intro l
  induction l with
  | nil =>
    intro k x2 x4 x6 x7 x8 x9 hd hk hp hq
    have := drop_end hd hk
    subst this
    refine WC.loop' ?_
    simp only [c26l14, c26o4, len_slice Try.underlying22, Int.lt_irrefl, decide_false, wpC, wpI, wpS, wpD, wpV, wanted_none, wanted_some, vals, cev_const, cev_var, cev_loc, padV, okV_some, againP, true_and, and_true, upd_zero, upd_succ, nth_zero, nth_succ, wpG_true, wpG_false, condK_true, condK_false, seqK_normal, seqK_ret, seqK_exit, inBlock_normal, inBlock_ret, inBlock_exit, ends_ret, ends_normal, unmark_nil, results_nil, results_cons, one_one, one_zero, one_two, isB_undef, isB_tt, isB_ff, Bool.not_true, Bool.not_false, Option.bind_some, pick3, pickA, extractA, List.getElem?_cons_zero, List.getElem?_cons_succ, bin_lss, bin_gtr, bin_leq, bin_geq, bin_eql, bin_neq, un_not]
    refine hq _ _ _ _ _ _ _ _ (.inr ⟨rfl, ?_⟩)
    rw [List.take_length] at hp
    rw [hp, hl, List.take_length]
  | cons L l ih =>
    intro k x2 x4 x6 x7 x8 x9 hd hk hp hq
    obtain ⟨hlt, hx, hd'⟩ := drop_facts hd
    have hltB : k < B.length := by omega
    have hy : B[k]? = some B[k] := List.getElem?_eq_getElem hltB
    obtain ⟨i, o, u, rfl, hi, hload, c1, cp1, rfl, hu⟩ := hc1 k _ hx
    obtain ⟨i2, o2, u2, rfl, hi2, hload2, c2, cp2, rfl, hu2⟩ := hc2 k _ hy
    rw [List.length_map] at hload hload2
    have e1 := idx_slice (cap := cap1) (i := i) (o := o) Try.underlying22 sz23 hlt
    have e2 := load_one (P := Try.prog) (t := 23) (s := s) (i := i) (o := o + k * 1) ag23 (by rw [Nat.mul_one]; exact hload)
    have f1 := idx_slice (cap := cap2) (i := i2) (o := o2) Try.underlying22 sz23 hltB
    have f2 := load_one (P := Try.prog) (t := 23) (s := s) (i := i2) (o := o2 + k * 1) ag23 (by rw [Nat.mul_one]; exact hload2)
    have hkk : decide ((k : Int) < (A.length : Int)) = true := decide_eq_true (by omega)
    have e3 := bin_add Try.prog 3 (k : Int) 1 ⟨by omega, by omega⟩
    have hcast : ((k : Int) + 1) = ((k + 1 : Nat) : Int) := by omega
    have neq : L ≠ B[k] → A ≠ B := by
      intro h q
      subst q
      rw [List.getElem?_eq_getElem hlt] at hx
      injection hx with hx
      exact h hx.symm
    refine WC.loop' ?_
    by_cases hll : L.length = B[k].length
    · have hne : decide ((L.length : Int) ≠ (B[k].length : Int)) = false := decide_eq_false (fun q => q (by omega))
      simp only [c26l14, c26o4, c26o5, e1, e2, f1, f2, len_slice Try.underlying22, len_slice Try.underlying23, hkk, hne, c26o7, wpC, wpI, wpS, wpD, wpV, wanted_none, wanted_some, vals, cev_const, cev_var, cev_loc, padV, okV_some, againP, true_and, and_true, upd_zero, upd_succ, nth_zero, nth_succ, wpG_true, wpG_false, condK_true, condK_false, seqK_normal, seqK_ret, seqK_exit, inBlock_normal, inBlock_ret, inBlock_exit, ends_ret, ends_normal, unmark_nil, results_nil, results_cons, one_one, one_zero, one_two, isB_undef, isB_tt, isB_ff, Bool.not_true, Bool.not_false, Option.bind_some, pick3, pickA, extractA, List.getElem?_cons_zero, List.getElem?_cons_succ, bin_lss, bin_gtr, bin_leq, bin_geq, bin_eql, bin_neq, un_not]
      refine rows_in hE hll (hAl L (List.mem_of_getElem? hx)) hu hu2 e1 e2 f1 f2 _ _ _ L 0 _ _ _ rfl (Nat.zero_le _) rfl ?_
      rintro e y2 y4 y8 y9 (⟨rfl, h, rfl⟩ | ⟨rfl, h⟩)
      · simp only [wpC, wpI, wpS, wpD, wpV, wanted_none, wanted_some, vals, cev_const, cev_var, cev_loc, padV, okV_some, againP, true_and, and_true, upd_zero, upd_succ, nth_zero, nth_succ, wpG_true, wpG_false, condK_true, condK_false, seqK_normal, seqK_ret, seqK_exit, inBlock_normal, inBlock_ret, inBlock_exit, ends_ret, ends_normal, unmark_nil, results_nil, results_cons, one_one, one_zero, one_two, isB_undef, isB_tt, isB_ff, Bool.not_true, Bool.not_false, Option.bind_some, pick3, pickA, extractA, List.getElem?_cons_zero, List.getElem?_cons_succ, bin_lss, bin_gtr, bin_leq, bin_geq, bin_eql, bin_neq, un_not]
        exact hq _ _ _ _ _ _ _ _ (.inl ⟨rfl, neq h, rfl⟩)
      · simp only [if_true, c26o13, e3, hcast, wpC, wpI, wpS, wpD, wpV, wanted_none, wanted_some, vals, cev_const, cev_var, cev_loc, padV, okV_some, againP, true_and, and_true, upd_zero, upd_succ, nth_zero, nth_succ, wpG_true, wpG_false, condK_true, condK_false, seqK_normal, seqK_ret, seqK_exit, inBlock_normal, inBlock_ret, inBlock_exit, ends_ret, ends_normal, unmark_nil, results_nil, results_cons, one_one, one_zero, one_two, isB_undef, isB_tt, isB_ff, Bool.not_true, Bool.not_false, Option.bind_some, pick3, pickA, extractA, List.getElem?_cons_zero, List.getElem?_cons_succ, bin_lss, bin_gtr, bin_leq, bin_geq, bin_eql, bin_neq, un_not]
        refine ih (k + 1) _ _ _ _ _ _ hd' hlt ?_ hq
        rw [List.take_succ_eq_append_getElem hlt, List.take_succ_eq_append_getElem hltB, hp]
        congr 2
        rw [← h]
        rw [List.getElem?_eq_getElem hlt] at hx
        injection hx
    · have hne : decide ((L.length : Int) ≠ (B[k].length : Int)) = true := decide_eq_true (by omega)
      simp only [c26l14, c26o4, c26o5, e1, e2, f1, f2, len_slice Try.underlying22, len_slice Try.underlying23, hkk, hne, c26o6, wpC, wpI, wpS, wpD, wpV, wanted_none, wanted_some, vals, cev_const, cev_var, cev_loc, padV, okV_some, againP, true_and, and_true, upd_zero, upd_succ, nth_zero, nth_succ, wpG_true, wpG_false, condK_true, condK_false, seqK_normal, seqK_ret, seqK_exit, inBlock_normal, inBlock_ret, inBlock_exit, ends_ret, ends_normal, unmark_nil, results_nil, results_cons, one_one, one_zero, one_two, isB_undef, isB_tt, isB_ff, Bool.not_true, Bool.not_false, Option.bind_some, pick3, pickA, extractA, List.getElem?_cons_zero, List.getElem?_cons_succ, bin_lss, bin_gtr, bin_leq, bin_geq, bin_eql, bin_neq, un_not]
      exact hq _ _ _ _ _ _ _ _ (.inl ⟨rfl, neq (fun q => hll (by rw [q])), rfl⟩)

theorem rows_ok {E : Env} (hE : Good E) {s : ASt} {b : Nat} {A B : List (List Int)} (hA : A.length ≤ 1000000) (hAl : ∀ L ∈ A, L.length ≤ 1000000) (hB : B.length ≤ 1000000) {v u : AV} (hv : RowsOf b s v A) (hu : RowsOf b s u B) :
    WF E 26 [v, u] (fun r s' => r = .bool (decide (A = B)) ∧ s = s') s := by
  obtain ⟨a1, cap1, rfl, h1⟩ := hv
  obtain ⟨a2, cap2, rfl, h2⟩ := hu
  refine hE.go comp26 (by decide) rfl ?_
  by_cases hl : A.length = B.length
  · have hne : decide ((A.length : Int) ≠ (B.length : Int)) = false := decide_eq_false (fun q => q (by omega))
    simp only [c26, c26o0, c26o1, len_slice Try.underlying22, hne, c26o3, wpC, wpI, wpS, wpD, wpV, wanted_none, wanted_some, vals, cev_const, cev_var, cev_loc, padV, okV_some, againP, true_and, and_true, upd_zero, upd_succ, nth_zero, nth_succ, wpG_true, wpG_false, condK_true, condK_false, seqK_normal, seqK_ret, seqK_exit, inBlock_normal, inBlock_ret, inBlock_exit, ends_ret, ends_normal, unmark_nil, results_nil, results_cons, one_one, one_zero, one_two, isB_undef, isB_tt, isB_ff, Bool.not_true, Bool.not_false, Option.bind_some, pick3, pickA, extractA, List.getElem?_cons_zero, List.getElem?_cons_succ, bin_lss, bin_gtr, bin_leq, bin_geq, bin_eql, bin_neq, un_not]
    refine rows_loop hE hl hA hAl h1 h2 _ A 0 _ _ _ _ _ _ rfl (Nat.zero_le _) rfl ?_
    rintro e y2 y3 y4 y6 y7 y8 y9 (⟨rfl, h, rfl⟩ | ⟨rfl, h⟩)
    · simp only [wpC, wpI, wpS, wpD, wpV, wanted_none, wanted_some, vals, cev_const, cev_var, cev_loc, padV, okV_some, againP, true_and, and_true, upd_zero, upd_succ, nth_zero, nth_succ, wpG_true, wpG_false, condK_true, condK_false, seqK_normal, seqK_ret, seqK_exit, inBlock_normal, inBlock_ret, inBlock_exit, ends_ret, ends_normal, unmark_nil, results_nil, results_cons, one_one, one_zero, one_two, isB_undef, isB_tt, isB_ff, Bool.not_true, Bool.not_false, Option.bind_some, pick3, pickA, extractA, List.getElem?_cons_zero, List.getElem?_cons_succ, bin_lss, bin_gtr, bin_leq, bin_geq, bin_eql, bin_neq, un_not]
      simp [h]
    · simp only [if_true, c26o15, wpC, wpI, wpS, wpD, wpV, wanted_none, wanted_some, vals, cev_const, cev_var, cev_loc, padV, okV_some, againP, true_and, and_true, upd_zero, upd_succ, nth_zero, nth_succ, wpG_true, wpG_false, condK_true, condK_false, seqK_normal, seqK_ret, seqK_exit, inBlock_normal, inBlock_ret, inBlock_exit, ends_ret, ends_normal, unmark_nil, results_nil, results_cons, one_one, one_zero, one_two, isB_undef, isB_tt, isB_ff, Bool.not_true, Bool.not_false, Option.bind_some, pick3, pickA, extractA, List.getElem?_cons_zero, List.getElem?_cons_succ, bin_lss, bin_gtr, bin_leq, bin_geq, bin_eql, bin_neq, un_not]
      simp [h]
  · have hne : decide ((A.length : Int) ≠ (B.length : Int)) = true := decide_eq_true (by omega)
    simp only [c26, c26o0, c26o1, len_slice Try.underlying22, hne, c26o2, wpC, wpI, wpS, wpD, wpV, wanted_none, wanted_some, vals, cev_const, cev_var, cev_loc, padV, okV_some, againP, true_and, and_true, upd_zero, upd_succ, nth_zero, nth_succ, wpG_true, wpG_false, condK_true, condK_false, seqK_normal, seqK_ret, seqK_exit, inBlock_normal, inBlock_ret, inBlock_exit, ends_ret, ends_normal, unmark_nil, results_nil, results_cons, one_one, one_zero, one_two, isB_undef, isB_tt, isB_ff, Bool.not_true, Bool.not_false, Option.bind_some, pick3, pickA, extractA, List.getElem?_cons_zero, List.getElem?_cons_succ, bin_lss, bin_gtr, bin_leq, bin_geq, bin_eql, bin_neq, un_not]
    rw [decide_eq_false (fun q => hl (by rw [q]))]
end Go.Proofs.Ytilhhmkdcoajnaa.Am
