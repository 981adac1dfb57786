/- DrupSound, all of its run; conditions: the readings of the arguments. -/
import Derived.Test.YtilhhmkdcoajnaaAmM44
set_option linter.unusedVariables false
set_option linter.unusedSimpArgs false
set_option maxRecDepth 16000
namespace Go.Proofs.Ytilhhmkdcoajnaa.Am
open Go Go.Proofs

/-- The first lines of a trace. -/
theorem trace_hi {s : ASt} {b : Nat} {v : AV} {T : Trace20} {us : List AV} {O : List Nat} (hd : Dest s v T.length 2 us O) (ht : TraceAt b s v T) {k : Nat} (hk : k ≤ T.length) :
    ∃ w, sliceOpnds Try.prog 33 false true false s [v, iv (k : Int)] = some w ∧ TraceAt b s w (T.take k) := by
  have hb : boundA (iv (k : Int)) T.length = some k := by simp [boundA, idxOf, natOf_nat, guardB, ble_of hk]
  obtain ⟨a, cap, hv, hc⟩ := ht
  have main : ∃ cap', sliceOpnds Try.prog 33 false true false s [v, iv (k : Int)] = some (.slice a k cap') := by
    rcases hd with ⟨a', e, rfl, h3, h4, h5⟩ | ⟨i, p, e, h6, h7⟩
    · rw [hv] at e
      injection e with e1 e2 e3
      subst e1; subst e3
      rw [hv]
      refine ⟨some T.length, ?_⟩
      show sliceA Try.prog s 33 (.slice a T.length (some T.length)) none (some (iv (k : Int))) none = _
      cases a with
      | none => simp only [sliceA, Try.underlying33, sz27, Option.bind_some, hb, Nat.sub_zero]
      | some io =>
        obtain ⟨i, o⟩ := io
        simp only [sliceA, Try.underlying33, sz27, Option.bind_some, hb, Nat.sub_zero]
        cases hbb : Nat.beq T.length 0 <;> rfl
    · rw [hv] at e
      injection e with e1 e2 e3
      subst e1; subst e3
      rcases h6.ex with ⟨e', _⟩ | ⟨_, q1, q2, q3, r, q4, q5, q6, q7, q8, q9⟩
      · rw [hv] at e'; cases e'
      · have hrn : r.n = T.length * 2 := by rw [q5.1, h6.len]
        have hrow : rowAt s i = some r := by simp [rowAt, q4]
        rw [hv]
        refine ⟨none, ?_⟩
        show sliceA Try.prog s 33 (.slice (some (i, 0)) T.length none) none (some (iv (k : Int))) none = _
        have hfar : (r.n - 0) / 2 = T.length := by omega
        simp only [sliceA, Try.underlying33, sz27, Option.bind_some, hrow, ble_of (Nat.zero_le r.n), q8, guardB, beq_of rfl, Bool.and_self, Bool.true_and, hfar, hb]
        rw [show Nat.beq 2 0 = false from rfl]
        simp only [Bool.not_false, cond_true, Option.bind_some, hfar, hb, Nat.sub_zero, Nat.zero_mul, Nat.add_zero]
  obtain ⟨cap', hm⟩ := main
  refine ⟨_, hm, a, cap', by rw [List.length_take, Nat.min_eq_left hk], fun j d L hj => ?_⟩
  refine hc j d L ?_
  rw [List.getElem?_take] at hj
  split at hj
  · exact hj
  · cases hj

theorem PlainT.take {T : Trace20} (h : PlainT T) (n : Nat) : PlainT (T.take n) := ⟨by have := h.1; simp; omega, fun x hx => h.2 x (List.mem_of_mem_take hx)⟩
theorem six_len {cs : List (List Int)} (h : ∀ L ∈ cs, SixP L) : ∀ L ∈ cs, Six L ∧ L.length ≤ 1000000 := fun L hL => ⟨(h L hL).six, by have := (h L hL).2; omega⟩

/-- The loop over all lines. -/
theorem sound_loop {E : Env} (hE : Good E) {B : Nat} {cl tr : AV} {us : List AV} {cs : List (List Int)} {T : Trace20} (hcs6 : ∀ L ∈ cs, SixP L) (hcl : cs.length ≤ 20) (hT6 : ∀ x ∈ T, SixP x.2) (hP : PlainT T) (v0 v1 v2 v5 v6 v9 v10 v11 : AV) {Q : ARes → Prop} :
    ∀ (m k : Nat) (s : ASt) (x12 x13 : AV), k + m = T.length → Set20 B s cl tr us cs T →
      (∀ s' y8 y12 y13, Q ⟨.exit 0, [v0, v1, v2, cl, tr, v5, v6, iv (modelsV cs : Int), y8, v9, v10, v11, y12, y13], [], s'⟩) →
      WC E none (.loop c5l15) Q [v0, v1, v2, cl, tr, v5, v6, iv (modelsV cs : Int), iv (k : Int), v9, v10, v11, x12, x13] [] s := by
  have hP1 := hP.1
  intro m
  induction m with
  | zero =>
    intro k s x12 x13 hm h hq
    have hk : k = T.length := by omega
    subst hk
    have hln : lenA Try.prog s 33 tr = some (iv (T.length : Int)) := by obtain ⟨a, cap, rfl, _⟩ := h.tr; exact len_slice Try.underlying33
    refine WC.loop' ?_
    simp only [c5l15, c5o11, hln, Int.lt_irrefl, decide_false, wpC, wpI, wpS, wpD, wpV, wanted_none, wanted_some, vals, cev_const, cev_var, cev_loc, padV, okV_some, againP, true_and, and_true, upd_zero, upd_succ, nth_zero, nth_succ, wpG_true, wpG_false, condK_true, condK_false, seqK_normal, seqK_ret, seqK_exit, inBlock_normal, inBlock_ret, inBlock_exit, ends_ret, ends_normal, unmark_nil, results_nil, results_cons, one_one, one_zero, one_two, isB_undef, isB_tt, isB_ff, Bool.not_true, Bool.not_false, Option.bind_some, pick3, pickA, extractA, List.getElem?_cons_zero, List.getElem?_cons_succ, bin_lss, bin_gtr, bin_leq, bin_geq, bin_eql, bin_neq, un_not]
    exact hq s _ _ _
  | succ m ih =>
    intro k s x12 x13 hm h hq
    have hlt : k < T.length := by omega
    have hx : T[k]? = some T[k] := List.getElem?_eq_getElem hlt
    generalize hdl : T[k] = dl at hx
    obtain ⟨d, L⟩ := dl
    have hL6 : SixP L := hT6 _ (List.mem_of_getElem? hx)
    have hkk : decide ((k : Int) < (T.length : Int)) = true := decide_eq_true (by omega)
    have e3 := bin_add Try.prog 3 (k : Int) 1 ⟨by omega, by omega⟩
    have hcast : ((k : Int) + 1) = ((k + 1 : Nat) : Int) := by omega
    have hln : lenA Try.prog s 33 tr = some (iv (T.length : Int)) := by obtain ⟨a, cap, rfl, _⟩ := h.tr; exact len_slice Try.underlying33
    obtain ⟨a, cap, htv, hc⟩ := h.tr
    obtain ⟨i, o, u, ha, hi, _, hl2, hu⟩ := hc k d L hx
    have e1 : indexAddrA Try.prog 33 tr (iv (k : Int)) = some (.ptr (some (i, o + k * 2))) := by rw [htv, ha]; exact idx_slice Try.underlying33 sz27 hlt
    have e2 : ∀ s', Old B s s' → loadV Try.prog s' 23 (.ptr (some (i, o + k * 2 + 1))) = some u := fun s' h' => load_one ag23 (by rw [load1_eq (h'.2 i hi)]; exact hl2)
    have hi64 : ∀ M ∈ cs, I64s M := fun M hM => (hcs6 M hM).six.i64
    have hfits : Fits cs := ⟨by omega, fun M hM => ⟨hi64 M hM, by have := (hcs6 M hM).2; omega⟩⟩
    have e20 := e2 s (Old.refl _ _)
    refine WC.loop' ?_
    generalize hW : WC E none (CCode.loop c5l15) Q = W
    simp only [c5l15, c5o11, c5o12, hln, hkk, e1, fa27_1, e20, wpC, wpI, wpS, wpD, wpV, wanted_none, wanted_some, vals, cev_const, cev_var, cev_loc, padV, okV_some, againP, true_and, and_true, upd_zero, upd_succ, nth_zero, nth_succ, wpG_true, wpG_false, condK_true, condK_false, seqK_normal, seqK_ret, seqK_exit, inBlock_normal, inBlock_ret, inBlock_exit, ends_ret, ends_normal, unmark_nil, results_nil, results_cons, one_one, one_zero, one_two, isB_undef, isB_tt, isB_ff, Bool.not_true, Bool.not_false, Option.bind_some, pick3, pickA, extractA, List.getElem?_cons_zero, List.getElem?_cons_succ, bin_lss, bin_gtr, bin_leq, bin_geq, bin_eql, bin_neq, un_not]
    refine (follows_ok hE hfits hL6.plain.1 (by have := hL6.2; omega) h.rowsOf (hu.mono h.le) (fol_V hi64 hL6.plain.1)).mono ?_
    rintro _ s1 ⟨rfl, ho1⟩
    have h1 : Set20 B s1 cl tr us cs T := h.old (ho1.1.mono h.le)
    have hn1 := ho1.1.1
    have hBn := h.le
    cases hf : fol cs L with
    | false =>
      simp only [c5o14, e3, hcast, wpC, wpI, wpS, wpD, wpV, wanted_none, wanted_some, vals, cev_const, cev_var, cev_loc, padV, okV_some, againP, true_and, and_true, upd_zero, upd_succ, nth_zero, nth_succ, wpG_true, wpG_false, condK_true, condK_false, seqK_normal, seqK_ret, seqK_exit, inBlock_normal, inBlock_ret, inBlock_exit, ends_ret, ends_normal, unmark_nil, results_nil, results_cons, one_one, one_zero, one_two, isB_undef, isB_tt, isB_ff, Bool.not_true, Bool.not_false, Option.bind_some, pick3, pickA, extractA, List.getElem?_cons_zero, List.getElem?_cons_succ, bin_lss, bin_gtr, bin_leq, bin_geq, bin_eql, bin_neq, un_not]
      rw [← hW]
      exact ih (k + 1) s1 _ _ (by omega) h1 hq
    | true =>
      obtain ⟨a', f1, f2, f3⟩ := h1.learn.full
      have hlen := h1.learn.len s1
      have hul : us.length ≤ 20 := by rw [h1.rows.1]; exact hcl
      have b1 := bld_one (P := Try.prog) (t := 22) (v := u) Try.underlying22 sz23 zr23 rfl hu.isCell.2
      have hms : ∀ (m : Nat) (i : Nat), Made.val i (.slice m) = .slice (some (i, 0)) m (some m) := fun _ _ => rfl
      obtain ⟨v', s2, O', p1, p2, p3, p4, p5, p6⟩ := push_row f2 (by omega) hu.isCell.1
      have ho2 : Old s1.next s1 s2 := ⟨p3, fun x hx => p4 x hx (fun h => by cases h)⟩
      have h2 : Set20 B s2 cl tr us cs T := h1.old (ho2.mono (by omega))
      have hu2 : SliceAt B s2 u (ivs L) := hu.old ((ho1.1.mono h.le).trans (ho2.mono (by omega))) (Nat.le_refl _)
      have hrows : RowsOf s2.next s2 v' (cs ++ [L]) := by
        have hd : Dest s2 v' (us ++ [u]).length 1 (us ++ [u]) O' := by simpa using p2
        exact mkRows hd.slice (h2.rows.append (RowCells.one hu2)) h2.le
      have e21 := e2 s1 (ho1.1.mono h.le)
      have hm6 : ∀ M ∈ cs ++ [L], SixP M := fun M hM => by
        rcases List.mem_append.1 hM with h | h
        · exact hcs6 M h
        · rw [List.mem_singleton.1 h]; exact hL6
      have hmod : modelsV (cs ++ [L]) = modelsV cs := models_app fun b hb M hM => by
        rw [List.mem_singleton.1 hM]
        exact fol_sound (fun N hN => (hcs6 N hN).six) hL6.six hf hb
      simp only [hlen, f1, e1, fa27_1, e21, b1, hms, p1, wpC, wpI, wpS, wpD, wpV, wanted_none, wanted_some, vals, cev_const, cev_var, cev_loc, padV, okV_some, againP, true_and, and_true, upd_zero, upd_succ, nth_zero, nth_succ, wpG_true, wpG_false, condK_true, condK_false, seqK_normal, seqK_ret, seqK_exit, inBlock_normal, inBlock_ret, inBlock_exit, ends_ret, ends_normal, unmark_nil, results_nil, results_cons, one_one, one_zero, one_two, isB_undef, isB_tt, isB_ff, Bool.not_true, Bool.not_false, Option.bind_some, pick3, pickA, extractA, List.getElem?_cons_zero, List.getElem?_cons_succ, bin_lss, bin_gtr, bin_leq, bin_geq, bin_eql, bin_neq, un_not]
      refine (models_ok hE (six_len hm6) (by simp; omega) hrows).mono ?_
      rintro _ _ ⟨rfl, rfl⟩
      rw [hmod]
      have hne : decide ((modelsV cs : Int) ≠ (modelsV cs : Int)) = false := decide_eq_false (fun h => h rfl)
      simp only [hne, c5o14, e3, hcast, wpC, wpI, wpS, wpD, wpV, wanted_none, wanted_some, vals, cev_const, cev_var, cev_loc, padV, okV_some, againP, true_and, and_true, upd_zero, upd_succ, nth_zero, nth_succ, wpG_true, wpG_false, condK_true, condK_false, seqK_normal, seqK_ret, seqK_exit, inBlock_normal, inBlock_ret, inBlock_exit, ends_ret, ends_normal, unmark_nil, results_nil, results_cons, one_one, one_zero, one_two, isB_undef, isB_tt, isB_ff, Bool.not_true, Bool.not_false, Option.bind_some, pick3, pickA, extractA, List.getElem?_cons_zero, List.getElem?_cons_succ, bin_lss, bin_gtr, bin_leq, bin_geq, bin_eql, bin_neq, un_not]
      rw [← hW]
      exact ih (k + 1) s2 _ _ (by omega) h2 hq

theorem fol_lines {cs : List (List Int)} {T : Trace20} (hc : ∀ L ∈ cs, SixP L) (hT : ∀ x ∈ T, SixP x.2) (k : Nat) (L : List Int) (hk : T[k]? = some (false, L)) :
    followsV ((cs ++ learnT (T.take k)).flatten.length + 1) (cs ++ learnT (T.take k)) L = some (fol (cs ++ learnT (T.take k)) L) := by
  refine fol_V (fun M hM => ?_) (hT _ (List.mem_of_getElem? hk)).six.i64
  rcases List.mem_append.1 hM with h | h
  · exact (hc M h).six.i64
  · exact (learn_six (fun x hx => hT x (List.mem_of_mem_take hx)) M h).six.i64
theorem clean_nil {L : List Int} (h : SixP L) (h0 : (cleanV [] L).length = 0) : L = [] := by
  cases L with
  | nil => rfl
  | cons x L =>
    have hx := h.1 x List.mem_cons_self
    have : x ∈ cleanV [] (x :: L) := (clean_mem h.six.i64 x).2 ⟨List.mem_cons_self, hx.2.2, by omega, by omega⟩
    rw [List.length_eq_zero_iff.1 h0] at this
    cases this

/-- DrupSound. -/
theorem sound_ok {E : Env} (hE : Good E) (hW : ∀ s, E.nat 21 [] s = some (.bool true, s)) {b : Nat} {s : ASt} {v0 v1 : AV} {ls : List (List Int)} {ss : List Step20} (h : Args20 b s v0 v1 ls ss) :
    WF E 5 [v0, v1] (fun r _ => r = .bool true) s := by
  have hP := traceOf_plain ss
  have hT6 := traceOf_six ss
  have hTl := traceOf_len ss
  have hcf := clausesV_fits ls
  have hc6 : ∀ L ∈ clausesV ls, SixP L := sixP_clauses
  have hcS : ∀ L ∈ clausesV ls, Six L := fun L hL => (hc6 L hL).six
  refine hE.go comp5 (by decide) rfl ?_
  simp only [c5, c5o0, c5o1, wpC, wpI, wpS, wpD, wpV, wanted_none, wanted_some, vals, cev_const, cev_var, cev_loc, padV, okV_some, againP, true_and, and_true, upd_zero, upd_succ, nth_zero, nth_succ, wpG_true, wpG_false, condK_true, condK_false, seqK_normal, seqK_ret, seqK_exit, inBlock_normal, inBlock_ret, inBlock_exit, ends_ret, ends_normal, unmark_nil, results_nil, results_cons, one_one, one_zero, one_two, isB_undef, isB_tt, isB_ff, Bool.not_true, Bool.not_false, Option.bind_some, pick3, pickA, extractA, List.getElem?_cons_zero, List.getElem?_cons_succ, bin_lss, bin_gtr, bin_leq, bin_geq, bin_eql, bin_neq, un_not]
  refine WF.nat (hW s) ?_
  simp only [Bool.not_true, c5o3, wpC, wpI, wpS, wpD, wpV, wanted_none, wanted_some, vals, cev_const, cev_var, cev_loc, padV, okV_some, againP, true_and, and_true, upd_zero, upd_succ, nth_zero, nth_succ, wpG_true, wpG_false, condK_true, condK_false, seqK_normal, seqK_ret, seqK_exit, inBlock_normal, inBlock_ret, inBlock_exit, ends_ret, ends_normal, unmark_nil, results_nil, results_cons, one_one, one_zero, one_two, isB_undef, isB_tt, isB_ff, Bool.not_true, Bool.not_false, Option.bind_some, pick3, pickA, extractA, List.getElem?_cons_zero, List.getElem?_cons_succ, bin_lss, bin_gtr, bin_leq, bin_geq, bin_eql, bin_neq, un_not]
  refine (setup1 hE h).mono ?_
  rintro cl s1 ⟨us, hm1⟩
  simp only [wpC, wpI, wpS, wpD, wpV, wanted_none, wanted_some, vals, cev_const, cev_var, cev_loc, padV, okV_some, againP, true_and, and_true, upd_zero, upd_succ, nth_zero, nth_succ, wpG_true, wpG_false, condK_true, condK_false, seqK_normal, seqK_ret, seqK_exit, inBlock_normal, inBlock_ret, inBlock_exit, ends_ret, ends_normal, unmark_nil, results_nil, results_cons, one_one, one_zero, one_two, isB_undef, isB_tt, isB_ff, Bool.not_true, Bool.not_false, Option.bind_some, pick3, pickA, extractA, List.getElem?_cons_zero, List.getElem?_cons_succ, bin_lss, bin_gtr, bin_leq, bin_geq, bin_eql, bin_neq, un_not]
  refine (setup2 hE hm1).mono ?_
  rintro tr s2 ⟨hs2, ho2⟩
  generalize traceOf ss = T at hP hT6 hTl hs2
  generalize clausesV ls = cs at hcf hc6 hcS hs2
  simp only [c5o4, wpC, wpI, wpS, wpD, wpV, wanted_none, wanted_some, vals, cev_const, cev_var, cev_loc, padV, okV_some, againP, true_and, and_true, upd_zero, upd_succ, nth_zero, nth_succ, wpG_true, wpG_false, condK_true, condK_false, seqK_normal, seqK_ret, seqK_exit, inBlock_normal, inBlock_ret, inBlock_exit, ends_ret, ends_normal, unmark_nil, results_nil, results_cons, one_one, one_zero, one_two, isB_undef, isB_tt, isB_ff, Bool.not_true, Bool.not_false, Option.bind_some, pick3, pickA, extractA, List.getElem?_cons_zero, List.getElem?_cons_succ, bin_lss, bin_gtr, bin_leq, bin_geq, bin_eql, bin_neq, un_not]
  refine (check_ok hE (b := s2.next) (Nat.le_refl _) hs2.slice hs2.rows hcf.1 hs2.tr hP (fol := fol) fun k L hk => ⟨_, fol_lines hc6 hT6 k L hk⟩).mono ?_
  rintro _ s3 ⟨rfl, ho3⟩
  obtain ⟨n, r, hnr⟩ : ∃ n r, checkV fol cs T = (n, r) := ⟨_, _, rfl⟩
  rw [hnr]
  obtain ⟨_, hn, hfo, hr⟩ := check_to T 0 rfl (Nat.zero_le _) n r hnr
  have k3 := hs2.old ho3
  simp only [c5o5, wpC, wpI, wpS, wpD, wpV, wanted_none, wanted_some, vals, cev_const, cev_var, cev_loc, padV, okV_some, againP, true_and, and_true, upd_zero, upd_succ, nth_zero, nth_succ, wpG_true, wpG_false, condK_true, condK_false, seqK_normal, seqK_ret, seqK_exit, inBlock_normal, inBlock_ret, inBlock_exit, ends_ret, ends_normal, unmark_nil, results_nil, results_cons, one_one, one_zero, one_two, isB_undef, isB_tt, isB_ff, Bool.not_true, Bool.not_false, Option.bind_some, pick3, pickA, extractA, List.getElem?_cons_zero, List.getElem?_cons_succ, bin_lss, bin_gtr, bin_leq, bin_geq, bin_eql, bin_neq, un_not]
  refine (models_ok hE (six_len hc6) (by have := hcf.2; omega) k3.rowsOf).mono ?_
  rintro _ _ ⟨rfl, rfl⟩
  have hln : ∀ s, lenA Try.prog s 33 tr = some (iv (T.length : Int)) := fun s => by obtain ⟨a, cap, rfl, _⟩ := hs2.tr; exact len_slice Try.underlying33
  have hlearn : ∀ b, (∀ L ∈ cs, holdsV b L = true) → ∀ L ∈ learnT (T.take n), holdsV b L = true := fun b hb => learn_sound hcS hT6 hn (fun j L hj hx => hfo j L (Nat.zero_le _) hj hx) hb n (Nat.le_refl _)
  have c0 : decide ((n : Int) < 0) = false := decide_eq_false (by omega)
  have c1 : decide ((T.length : Int) < (n : Int)) = false := decide_eq_false (by omega)
  have hT6n : ∀ x ∈ T.take n, SixP x.2 := fun x hx => hT6 x (List.mem_of_mem_take hx)
  -- the rest
  have rest : ∀ (x10 : AV), wpC E none (.seq (.seq (.ops c5o8) (.cond (.var 11) (.seq (.ops c5o9) .ret) .skip)) (.seq (.seq (.ops c5o10) (.block 0 (.loop c5l15))) (.seq (.ops c5o16) .ret))) (Ends Try.prog [((.var 2), none)] fun r _ => r = .bool true)
      [v0, v1, .bool false, cl, tr, iv (n : Int), .bool r, iv (modelsV cs : Int), undefA, .bool false, x10, undefA, undefA, undefA] [] s3 := by
    intro x10
    obtain ⟨us', O', htd⟩ := k3.tdest
    obtain ⟨w, hw1, hw2⟩ := trace_hi htd k3.tr hn
    simp only [c5o8, hw1, wpC, wpI, wpS, wpD, wpV, wanted_none, wanted_some, vals, cev_const, cev_var, cev_loc, padV, okV_some, againP, true_and, and_true, upd_zero, upd_succ, nth_zero, nth_succ, wpG_true, wpG_false, condK_true, condK_false, seqK_normal, seqK_ret, seqK_exit, inBlock_normal, inBlock_ret, inBlock_exit, ends_ret, ends_normal, unmark_nil, results_nil, results_cons, one_one, one_zero, one_two, isB_undef, isB_tt, isB_ff, Bool.not_true, Bool.not_false, Option.bind_some, pick3, pickA, extractA, List.getElem?_cons_zero, List.getElem?_cons_succ, bin_lss, bin_gtr, bin_leq, bin_geq, bin_eql, bin_neq, un_not]
    refine (left_ok hE (b := s2.next) k3.le k3.slice k3.rows hcf.1 hw2 (hP.take n)).mono ?_
    rintro lf s4 ⟨⟨us4, O4, hl4, _⟩, ho4⟩
    have k4 := k3.old (ho4.mono k3.le)
    simp only [wpC, wpI, wpS, wpD, wpV, wanted_none, wanted_some, vals, cev_const, cev_var, cev_loc, padV, okV_some, againP, true_and, and_true, upd_zero, upd_succ, nth_zero, nth_succ, wpG_true, wpG_false, condK_true, condK_false, seqK_normal, seqK_ret, seqK_exit, inBlock_normal, inBlock_ret, inBlock_exit, ends_ret, ends_normal, unmark_nil, results_nil, results_cons, one_one, one_zero, one_two, isB_undef, isB_tt, isB_ff, Bool.not_true, Bool.not_false, Option.bind_some, pick3, pickA, extractA, List.getElem?_cons_zero, List.getElem?_cons_succ, bin_lss, bin_gtr, bin_leq, bin_geq, bin_eql, bin_neq, un_not]
    have hm6 : ∀ M ∈ cs ++ learnT (T.take n), SixP M := fun M hM => by
      rcases List.mem_append.1 hM with h | h
      · exact hc6 M h
      · exact learn_six hT6n M h
    have hlen : (cs ++ learnT (T.take n)).length ≤ 1000000 := by
      have h1 := learnT_len (T := T.take n)
      have h2 := hcf.2
      simp at h1 ⊢
      omega
    refine (models_ok hE (six_len hm6) hlen hl4.rowsOf).mono ?_
    rintro _ _ ⟨rfl, rfl⟩
    rw [models_app hlearn]
    have hne : decide ((modelsV cs : Int) ≠ (modelsV cs : Int)) = false := decide_eq_false (fun h => h rfl)
    simp only [hne, c5o10, wpC, wpI, wpS, wpD, wpV, wanted_none, wanted_some, vals, cev_const, cev_var, cev_loc, padV, okV_some, againP, true_and, and_true, upd_zero, upd_succ, nth_zero, nth_succ, wpG_true, wpG_false, condK_true, condK_false, seqK_normal, seqK_ret, seqK_exit, inBlock_normal, inBlock_ret, inBlock_exit, ends_ret, ends_normal, unmark_nil, results_nil, results_cons, one_one, one_zero, one_two, isB_undef, isB_tt, isB_ff, Bool.not_true, Bool.not_false, Option.bind_some, pick3, pickA, extractA, List.getElem?_cons_zero, List.getElem?_cons_succ, bin_lss, bin_gtr, bin_leq, bin_geq, bin_eql, bin_neq, un_not]
    refine sound_loop hE hc6 hcf.2 hT6 hP _ _ _ _ _ _ _ _ T.length 0 s4 _ _ (by omega) k4 ?_
    intro s' y8 y12 y13
    simp only [if_true, c5o16, wpC, wpI, wpS, wpD, wpV, wanted_none, wanted_some, vals, cev_const, cev_var, cev_loc, padV, okV_some, againP, true_and, and_true, upd_zero, upd_succ, nth_zero, nth_succ, wpG_true, wpG_false, condK_true, condK_false, seqK_normal, seqK_ret, seqK_exit, inBlock_normal, inBlock_ret, inBlock_exit, ends_ret, ends_normal, unmark_nil, results_nil, results_cons, one_one, one_zero, one_two, isB_undef, isB_tt, isB_ff, Bool.not_true, Bool.not_false, Option.bind_some, pick3, pickA, extractA, List.getElem?_cons_zero, List.getElem?_cons_succ, bin_lss, bin_gtr, bin_leq, bin_geq, bin_eql, bin_neq, un_not]
  cases r with
  | false =>
    simp only [c5o6, c0, c1, hln, wpC, wpI, wpS, wpD, wpV, wanted_none, wanted_some, vals, cev_const, cev_var, cev_loc, padV, okV_some, againP, true_and, and_true, upd_zero, upd_succ, nth_zero, nth_succ, wpG_true, wpG_false, condK_true, condK_false, seqK_normal, seqK_ret, seqK_exit, inBlock_normal, inBlock_ret, inBlock_exit, ends_ret, ends_normal, unmark_nil, results_nil, results_cons, one_one, one_zero, one_two, isB_undef, isB_tt, isB_ff, Bool.not_true, Bool.not_false, Option.bind_some, pick3, pickA, extractA, List.getElem?_cons_zero, List.getElem?_cons_succ, bin_lss, bin_gtr, bin_leq, bin_geq, bin_eql, bin_neq, un_not]
    have := rest (.bool false)
    simp only [wpC, wpI, wpS, wpD, wpV, wanted_none, wanted_some, vals, cev_const, cev_var, cev_loc, padV, okV_some, againP, true_and, and_true, upd_zero, upd_succ, nth_zero, nth_succ, wpG_true, wpG_false, condK_true, condK_false, seqK_normal, seqK_ret, seqK_exit, inBlock_normal, inBlock_ret, inBlock_exit, ends_ret, ends_normal, unmark_nil, results_nil, results_cons, one_one, one_zero, one_two, isB_undef, isB_tt, isB_ff, Bool.not_true, Bool.not_false, Option.bind_some, pick3, pickA, extractA, List.getElem?_cons_zero, List.getElem?_cons_succ, bin_lss, bin_gtr, bin_leq, bin_geq, bin_eql, bin_neq, un_not] at this
    exact this
  | true =>
    obtain ⟨L, hx, hf, hcl⟩ := hr rfl
    have hL6 : SixP L := hT6 _ (List.mem_of_getElem? hx)
    have hL0 := clean_nil hL6 hcl
    subst hL0
    have hlt : n < T.length := lt_of_get hx
    have hz : modelsV cs = 0 := models_zero fun b hb => by
      have := fol_sound (b := b) (fun M hM => by
        rcases List.mem_append.1 hM with h | h
        · exact hcS M h
        · exact (learn_six hT6n M h).six) hL6.six hf (fun M hM => by
        rcases List.mem_append.1 hM with h | h
        · exact hb M h
        · exact hlearn b hb M h)
      cases this
    obtain ⟨a, cap, htv, hc⟩ := k3.tr
    obtain ⟨i, o, u, ha, hi, _, hl2, hu⟩ := hc n false [] hx
    have e1 : indexAddrA Try.prog 33 tr (iv (n : Int)) = some (.ptr (some (i, o + n * 2))) := by rw [htv, ha]; exact idx_slice Try.underlying33 sz27 hlt
    have e2 : loadV Try.prog s3 23 (.ptr (some (i, o + n * 2 + 1))) = some u := load_one ag23 hl2
    have e3 : lenA Try.prog s3 23 u = some (iv 0) := by obtain ⟨ua, uc, rfl, _⟩ := hu; exact len_slice Try.underlying23
    have c2 : decide ((0 : Int) < (modelsV cs : Int)) = false := decide_eq_false (by omega)
    have c3 : decide ((n : Int) = (T.length : Int)) = false := decide_eq_false (by omega)
    have c4 : decide ((0 : Int) < 0) = false := rfl
    simp only [c5o6, c0, c1, c2, c3, c4, hln, e1, fa27_1, e2, e3, wpC, wpI, wpS, wpD, wpV, wanted_none, wanted_some, vals, cev_const, cev_var, cev_loc, padV, okV_some, againP, true_and, and_true, upd_zero, upd_succ, nth_zero, nth_succ, wpG_true, wpG_false, condK_true, condK_false, seqK_normal, seqK_ret, seqK_exit, inBlock_normal, inBlock_ret, inBlock_exit, ends_ret, ends_normal, unmark_nil, results_nil, results_cons, one_one, one_zero, one_two, isB_undef, isB_tt, isB_ff, Bool.not_true, Bool.not_false, Option.bind_some, pick3, pickA, extractA, List.getElem?_cons_zero, List.getElem?_cons_succ, bin_lss, bin_gtr, bin_leq, bin_geq, bin_eql, bin_neq, un_not]
    have := rest (.bool false)
    simp only [wpC, wpI, wpS, wpD, wpV, wanted_none, wanted_some, vals, cev_const, cev_var, cev_loc, padV, okV_some, againP, true_and, and_true, upd_zero, upd_succ, nth_zero, nth_succ, wpG_true, wpG_false, condK_true, condK_false, seqK_normal, seqK_ret, seqK_exit, inBlock_normal, inBlock_ret, inBlock_exit, ends_ret, ends_normal, unmark_nil, results_nil, results_cons, one_one, one_zero, one_two, isB_undef, isB_tt, isB_ff, Bool.not_true, Bool.not_false, Option.bind_some, pick3, pickA, extractA, List.getElem?_cons_zero, List.getElem?_cons_succ, bin_lss, bin_gtr, bin_leq, bin_geq, bin_eql, bin_neq, un_not] at this
    exact this
end Go.Proofs.Ytilhhmkdcoajnaa.Am

/- DrupSound, in the model; conditions: none. -/
set_option linter.unusedVariables false
set_option linter.unusedSimpArgs false
set_option maxRecDepth 16000
namespace Go.Proofs.Ytilhhmkdcoajnaa.Am
open Go Go.Proofs

theorem sound_true {H : Type} {enc : TypeId × Value → H} {W : World} {base : Nat} {v0 v1 : Value} (h0 : Value.okWide Try.prog W .any base 30 v0) (h1 : Value.okWide Try.prog W .any base 31 v1)
    {d0 d1 : DataW H} {p0 p1 : List MemPlace} (t0 : DataW.Trod enc Try.prog W 0 (fun _ => true) true 30 v0 d0 p0) (t1 : DataW.Trod enc Try.prog W 0 (fun _ => true) true 31 v1 d1 p1) :
    Calls Try.prog 5 #[v0, v1] W fun e W' => e = .returned (.bool true) ∧ Kept W W' := by
  obtain ⟨ρ, s, a0, a1, ls, ss, hd, r0, r1, hargs⟩ := enter_two h0 h1 t0 t1
  exact call_true hd (.cons (arg_rel Try.underlying30 h0 r0) (.cons (arg_rel Try.underlying31 h1 r1) .nil)) (sound_ok good_envW envW_works hargs)
end Go.Proofs.Ytilhhmkdcoajnaa.Am

/- DrupTells, its loops; conditions: the readings of the arguments. -/
set_option linter.unusedVariables false
set_option linter.unusedSimpArgs false
set_option maxRecDepth 16000
namespace Go.Proofs.Ytilhhmkdcoajnaa.Am
open Go Go.Proofs

theorem bin_neq_bool (a b : Bool) : binA Try.prog .neq 4 (.bool a) (.bool b) = some (.bool (a != b)) := by
  have h : isBoolT Try.prog 4 = true := by simp [isBoolT, Try.underlying4]
  simp only [binA, eqV, h, guardB, cond_true, Option.bind_some]
  rfl
theorem bne_self (a : Bool) : (a != a) = false := by cases a <;> rfl
theorem min_i64 (a b : Int) : minMax false (iv a) [iv b] = some (iv (min a b)) := by
  show guardB true (some (AV.int .i64 (bif ltI b a then b else a))) = _
  rw [ltI_eq]
  by_cases h : b < a
  · rw [decide_eq_true h]; simp only [cond_true, guardB]; rw [Int.min_eq_right (by omega)]
  · rw [decide_eq_false h]; simp only [cond_false, guardB, cond_true]; rw [Int.min_eq_left (by omega)]

/-- The two checks of every line agree. -/
theorem lines_same {E : Env} (hE : Good E) {B : Nat} {cl tr : AV} {us : List AV} {cs : List (List Int)} {T : Trace20} (hcs6 : ∀ L ∈ cs, SixP L) (hcl : cs.length ≤ 20) (hT6 : ∀ x ∈ T, SixP x.2) (hP : PlainT T) (v0 v1 v2 v3 v6 v7 v8 v9 v11 v12 v13 v14 v17 v18 v19 : AV) {Q : ARes → Prop} :
    ∀ (m k : Nat) (s : ASt) (x15 x16 : AV), k + m = T.length → Set20 B s cl tr us cs T →
      (∀ s' y10 y15 y16, Old B s s' → Q ⟨.exit 0, [v0, v1, v2, v3, cl, tr, v6, v7, v8, v9, y10, v11, v12, v13, v14, y15, y16, v17, v18, v19], [], s'⟩) →
      WC E none (.loop c4l11) Q [v0, v1, v2, v3, cl, tr, v6, v7, v8, v9, iv (k : Int), v11, v12, v13, v14, x15, x16, v17, v18, v19] [] s := by
  have hP1 := hP.1
  intro m
  induction m with
  | zero =>
    intro k s x15 x16 hm h hq
    have hk : k = T.length := by omega
    subst hk
    have hln : lenA Try.prog s 33 tr = some (iv (T.length : Int)) := by obtain ⟨a, cap, rfl, _⟩ := h.tr; exact len_slice Try.underlying33
    refine WC.loop' ?_
    simp only [c4l11, c4o7, hln, Int.lt_irrefl, decide_false, wpC, wpI, wpS, wpD, wpV, wanted_none, wanted_some, vals, cev_const, cev_var, cev_loc, padV, okV_some, againP, true_and, and_true, upd_zero, upd_succ, nth_zero, nth_succ, wpG_true, wpG_false, condK_true, condK_false, seqK_normal, seqK_ret, seqK_exit, inBlock_normal, inBlock_ret, inBlock_exit, ends_ret, ends_normal, unmark_nil, results_nil, results_cons, one_one, one_zero, one_two, isB_undef, isB_tt, isB_ff, Bool.not_true, Bool.not_false, Option.bind_some, pick3, pickA, extractA, List.getElem?_cons_zero, List.getElem?_cons_succ, bin_lss, bin_gtr, bin_leq, bin_geq, bin_eql, bin_neq, un_not]
    exact hq s _ _ _ (Old.refl _ _)
  | succ m ih =>
    intro k s x15 x16 hm h hq
    have hlt : k < T.length := by omega
    have hx : T[k]? = some T[k] := List.getElem?_eq_getElem hlt
    generalize hdl : T[k] = dl at hx
    obtain ⟨d, L⟩ := dl
    have hL6 : SixP L := hT6 _ (List.mem_of_getElem? hx)
    have hkk : decide ((k : Int) < (T.length : Int)) = true := decide_eq_true (by omega)
    have e3 := bin_add Try.prog 3 (k : Int) 1 ⟨by omega, by omega⟩
    have hcast : ((k : Int) + 1) = ((k + 1 : Nat) : Int) := by omega
    have hln : lenA Try.prog s 33 tr = some (iv (T.length : Int)) := by obtain ⟨a, cap, rfl, _⟩ := h.tr; exact len_slice Try.underlying33
    obtain ⟨a, cap, htv, hc⟩ := h.tr
    obtain ⟨i, o, u, ha, hi, _, hl2, hu⟩ := hc k d L hx
    have e1 : indexAddrA Try.prog 33 tr (iv (k : Int)) = some (.ptr (some (i, o + k * 2))) := by rw [htv, ha]; exact idx_slice Try.underlying33 sz27 hlt
    have e2 : ∀ s', Old B s s' → loadV Try.prog s' 23 (.ptr (some (i, o + k * 2 + 1))) = some u := fun s' h' => load_one ag23 (by rw [load1_eq (h'.2 i hi)]; exact hl2)
    have hi64 : ∀ M ∈ cs, I64s M := fun M hM => (hcs6 M hM).six.i64
    have hfits : Fits cs := ⟨by omega, fun M hM => ⟨hi64 M hM, by have := (hcs6 M hM).2; omega⟩⟩
    have hfitsR : FitsR cs := ⟨by omega, fun M hM => ⟨hi64 M hM, by have := (hcs6 M hM).2; omega⟩⟩
    have hfl := flatten_le (n := 5) fun M hM => (hcs6 M hM).2
    have e20 := e2 s (Old.refl _ _)
    have hBn := h.le
    refine WC.loop' ?_
    generalize hW : WC E none (CCode.loop c4l11) Q = W
    simp only [c4l11, c4o7, c4o8, hln, hkk, e1, fa27_1, e20, wpC, wpI, wpS, wpD, wpV, wanted_none, wanted_some, vals, cev_const, cev_var, cev_loc, padV, okV_some, againP, true_and, and_true, upd_zero, upd_succ, nth_zero, nth_succ, wpG_true, wpG_false, condK_true, condK_false, seqK_normal, seqK_ret, seqK_exit, inBlock_normal, inBlock_ret, inBlock_exit, ends_ret, ends_normal, unmark_nil, results_nil, results_cons, one_one, one_zero, one_two, isB_undef, isB_tt, isB_ff, Bool.not_true, Bool.not_false, Option.bind_some, pick3, pickA, extractA, List.getElem?_cons_zero, List.getElem?_cons_succ, bin_lss, bin_gtr, bin_leq, bin_geq, bin_eql, bin_neq, un_not]
    refine (follows_ok hE hfits hL6.plain.1 (by have := hL6.2; omega) h.rowsOf (hu.mono h.le) (fol_V hi64 hL6.plain.1)).mono ?_
    rintro _ s1 ⟨rfl, ho1⟩
    have h1 : Set20 B s1 cl tr us cs T := h.old (ho1.1.mono h.le)
    have hn1 := ho1.1.1
    have e21 := e2 s1 (ho1.1.mono h.le)
    have hu1 : SliceAt B s1 u (ivs L) := hu.old (ho1.1.mono h.le) (Nat.le_refl _)
    simp only [again_r1, sameA_some, e21, hu.self, wpC, wpI, wpS, wpD, wpV, wanted_none, wanted_some, vals, cev_const, cev_var, cev_loc, padV, okV_some, againP, true_and, and_true, upd_zero, upd_succ, nth_zero, nth_succ, wpG_true, wpG_false, condK_true, condK_false, seqK_normal, seqK_ret, seqK_exit, inBlock_normal, inBlock_ret, inBlock_exit, ends_ret, ends_normal, unmark_nil, results_nil, results_cons, one_one, one_zero, one_two, isB_undef, isB_tt, isB_ff, Bool.not_true, Bool.not_false, Option.bind_some, pick3, pickA, extractA, List.getElem?_cons_zero, List.getElem?_cons_succ, bin_lss, bin_gtr, bin_leq, bin_geq, bin_eql, bin_neq, un_not]
    refine (rfollows_ok hE hfitsR hL6.plain.1 (by have := hL6.2; omega) (n0 := s1.next) (Nat.le_refl _) h1.rowsOf (hu1.mono h1.le) (fuel := cs.flatten.length + 1) (by omega) (fol_R hi64 L)).mono ?_
    rintro _ s2 ⟨rfl, ho2⟩
    have h2 : Set20 B s2 cl tr us cs T := h1.old (ho2.mono (by omega))
    simp only [bin_neq_bool, bne_self, c4o10, e3, hcast, wpC, wpI, wpS, wpD, wpV, wanted_none, wanted_some, vals, cev_const, cev_var, cev_loc, padV, okV_some, againP, true_and, and_true, upd_zero, upd_succ, nth_zero, nth_succ, wpG_true, wpG_false, condK_true, condK_false, seqK_normal, seqK_ret, seqK_exit, inBlock_normal, inBlock_ret, inBlock_exit, ends_ret, ends_normal, unmark_nil, results_nil, results_cons, one_one, one_zero, one_two, isB_undef, isB_tt, isB_ff, Bool.not_true, Bool.not_false, Option.bind_some, pick3, pickA, extractA, List.getElem?_cons_zero, List.getElem?_cons_succ, bin_lss, bin_gtr, bin_leq, bin_geq, bin_eql, bin_neq, un_not]
    rw [← hW]
    exact ih (k + 1) s2 _ _ (by omega) h2 fun s' y10 y15 y16 q => hq s' y10 y15 y16 (((ho1.1.mono h.le).trans (ho2.mono (by omega))).trans q)

/-! ### Clauses as they come -/
/-- A row that may be cut. -/
def CutOk (b : Nat) (s : ASt) (u : AV) (L : List Int) : Prop := ∀ s', Old b s s' → ∀ k, k ≤ L.length → ∃ w, sliceOpnds Try.prog 23 false true false s' [u, iv (k : Int)] = some w ∧ SliceAt b s' w (ivs (L.take k))
def RawOf (b : Nat) (s : ASt) (v : AV) (rs : List (List Int)) : Prop := ∃ a cap, v = .slice a rs.length cap ∧ ∀ (k : Nat) (L : List Int), rs[k]? = some L → ∃ i o u, a = some (i, o) ∧ i < b ∧ load1 s i (o + k) = some u ∧ SliceAt b s u (ivs L) ∧ CutOk b s u L
theorem RawOf.old {b : Nat} {s s' : ASt} {v : AV} {rs : List (List Int)} (h : RawOf b s v rs) (k : Old b s s') : RawOf b s' v rs := by
  obtain ⟨a, cap, hv, hc⟩ := h
  refine ⟨a, cap, hv, fun j L hj => ?_⟩
  obtain ⟨i, o, u, h1, h2, h3, h4, h5⟩ := hc j L hj
  exact ⟨i, o, u, h1, h2, by rw [load1_eq (k.2 i h2)]; exact h3, h4.old k (Nat.le_refl _), fun s'' hs => h5 s'' (k.trans hs)⟩
def oddV (rs : List (List Int)) : List (List Int) := (rs.take 10).map fun L => L.take 6
theorem odd_fits {rs : List (List Int)} (h : ∀ L ∈ rs, I64s L) : (oddV rs).length ≤ 10 ∧ ∀ L ∈ oddV rs, I64s L ∧ L.length ≤ 6 := by
  refine ⟨by simp [oddV]; omega, fun L hL => ?_⟩
  obtain ⟨M, hM, rfl⟩ := List.mem_map.1 hL
  exact ⟨fun x hx => h M (List.mem_of_mem_take hM) x (List.mem_of_mem_take hx), by simp; omega⟩

theorem odd_loop {E : Env} (hE : Good E) {s0 : ASt} {b : Nat} (hb : b ≤ s0.next) {v2 : AV} {rs : List (List Int)} (hv : RawOf b s0 v2 rs) (hlen : rs.length < 9223372036854775808) (hll : ∀ L ∈ rs, L.length < 9223372036854775808) (v0 v1 v3 v4 v5 v6 v7 v8 v9 v10 v13 v14 v15 v16 v18 v19 : AV) {Q : ARes → Prop} :
    ∀ (m k : Nat) (s : ASt) (w : AV) (us : List AV) (O : List Nat) (x17 : AV), m = 10 - k → k ≤ 10 → k ≤ rs.length → Old s0.next s0 s → Dest s w us.length 1 us O → (∀ j ∈ O, s0.next ≤ j) → RowCells b s us ((rs.take k).map fun L => L.take 6) →
      (∀ s' w' us' O' y12 y17, Old s0.next s0 s' → Dest s' w' us'.length 1 us' O' → RowCells b s' us' (oddV rs) → Q ⟨.exit 2, [v0, v1, v2, v3, v4, v5, v6, v7, v8, v9, v10, w', y12, v13, v14, v15, v16, y17, v18, v19], [], s'⟩) →
      WC E none (.loop c4l17) Q [v0, v1, v2, v3, v4, v5, v6, v7, v8, v9, v10, w, iv (k : Int), v13, v14, v15, v16, x17, v18, v19] [] s := by
  have hln : ∀ s, lenA Try.prog s 22 v2 = some (iv (rs.length : Int)) := fun s => by obtain ⟨a, cap, rfl, _⟩ := hv; exact len_slice Try.underlying22
  intro m
  induction m with
  | zero =>
    intro k s w us O x17 hm hk hkr hold hd hO hr hq
    have hk10 : k = 10 := by omega
    subst hk10
    have e0 : decide (((10 : Nat) : Int) < (10 : Int)) = false := rfl
    refine WC.loop' ?_
    by_cases hlt : ((10 : Nat) : Int) < (rs.length : Int)
    · simp only [c4l17, c4o14, hln, hlt, e0, decide_true, beq_self_eq_true, Bool.true_beq, wpC, wpI, wpS, wpD, wpV, wanted_none, wanted_some, vals, cev_const, cev_var, cev_loc, padV, okV_some, againP, true_and, and_true, upd_zero, upd_succ, nth_zero, nth_succ, wpG_true, wpG_false, condK_true, condK_false, seqK_normal, seqK_ret, seqK_exit, inBlock_normal, inBlock_ret, inBlock_exit, ends_ret, ends_normal, unmark_nil, results_nil, results_cons, one_one, one_zero, one_two, isB_undef, isB_tt, isB_ff, Bool.not_true, Bool.not_false, Option.bind_some, pick3, pickA, extractA, List.getElem?_cons_zero, List.getElem?_cons_succ, bin_lss, bin_gtr, bin_leq, bin_geq, bin_eql, bin_neq, un_not]
      exact hq s w us O _ _ hold hd hr
    · simp only [c4l17, c4o14, hln, hlt, e0, decide_false, Bool.false_beq, Bool.not_true, wpC, wpI, wpS, wpD, wpV, wanted_none, wanted_some, vals, cev_const, cev_var, cev_loc, padV, okV_some, againP, true_and, and_true, upd_zero, upd_succ, nth_zero, nth_succ, wpG_true, wpG_false, condK_true, condK_false, seqK_normal, seqK_ret, seqK_exit, inBlock_normal, inBlock_ret, inBlock_exit, ends_ret, ends_normal, unmark_nil, results_nil, results_cons, one_one, one_zero, one_two, isB_undef, isB_tt, isB_ff, Bool.not_true, Bool.not_false, Option.bind_some, pick3, pickA, extractA, List.getElem?_cons_zero, List.getElem?_cons_succ, bin_lss, bin_gtr, bin_leq, bin_geq, bin_eql, bin_neq, un_not]
      exact hq s w us O _ _ hold hd hr
  | succ m ih =>
    intro k s w us O x17 hm hk hkr hold hd hO hr hq
    have hns := hold.1
    refine WC.loop' ?_
    by_cases hlt : k < rs.length
    · have hx : rs[k]? = some rs[k] := List.getElem?_eq_getElem hlt
      obtain ⟨a, cap, hve, hc⟩ := hv.old (hold.mono hb)
      obtain ⟨i, o, u, ha, hi, hl, hu, hcut⟩ := hc k _ hx
      have hLl := hll _ (List.getElem_mem hlt)
      generalize rs[k] = L at hx hu hcut hLl
      have e1 : indexAddrA Try.prog 22 v2 (iv (k : Int)) = some (.ptr (some (i, o + k * 1))) := by rw [hve, ha]; exact idx_slice Try.underlying22 sz23 hlt
      have e2 : loadV Try.prog s 23 (.ptr (some (i, o + k * 1))) = some u := load_one ag23 (by rw [Nat.mul_one]; exact hl)
      have e4 : lenA Try.prog s 23 u = some (iv (L.length : Int)) := by obtain ⟨ua, uc, rfl, _⟩ := hu; rw [len_slice Try.underlying23, ivs_len]
      have hmin : min (L.length : Int) 6 = ((min L.length 6 : Nat) : Int) := by omega
      obtain ⟨z, z1, z2⟩ := hcut s (Old.refl _ _) (min L.length 6) (Nat.min_le_left _ _)
      have hkk : decide ((k : Int) < (rs.length : Int)) = true := decide_eq_true (by omega)
      have hk10 : decide ((k : Int) < 10) = true := decide_eq_true (by omega)
      have e3 := bin_add Try.prog 3 (k : Int) 1 ⟨by omega, by omega⟩
      have hcast : ((k : Int) + 1) = ((k + 1 : Nat) : Int) := by omega
      have b1 := bld_one (P := Try.prog) (t := 22) (v := z) Try.underlying22 sz23 zr23 rfl z2.isCell.2
      have hms : ∀ (m : Nat) (i : Nat), Made.val i (.slice m) = .slice (some (i, 0)) m (some m) := fun _ _ => rfl
      have hul : us.length = k := by rw [hr.1]; simp; omega
      obtain ⟨v', s2, O', p1, p2, p3, p4, p5, p6⟩ := push_row hd (by omega) z2.isCell.1
      generalize hW : WC E none (CCode.loop c4l17) Q = W
      simp only [c4l17, c4o14, c4o15, hln, hkk, hk10, e1, e2, e4, min_i64, hmin, z1, b1, hms, p1, beq_self_eq_true, Bool.true_beq, c4o16, e3, hcast, wpC, wpI, wpS, wpD, wpV, wanted_none, wanted_some, vals, cev_const, cev_var, cev_loc, padV, okV_some, againP, true_and, and_true, upd_zero, upd_succ, nth_zero, nth_succ, wpG_true, wpG_false, condK_true, condK_false, seqK_normal, seqK_ret, seqK_exit, inBlock_normal, inBlock_ret, inBlock_exit, ends_ret, ends_normal, unmark_nil, results_nil, results_cons, one_one, one_zero, one_two, isB_undef, isB_tt, isB_ff, Bool.not_true, Bool.not_false, Option.bind_some, pick3, pickA, extractA, List.getElem?_cons_zero, List.getElem?_cons_succ, bin_lss, bin_gtr, bin_leq, bin_geq, bin_eql, bin_neq, un_not]
      rw [← hW]
      have ob : Old s0.next s0 s2 := hold.trans ⟨p3, fun x hx => p4 x (by omega) (fun h => by have := hO x h; omega)⟩
      have kb : Old b s s2 := ⟨p3, fun x hx => p4 x (by omega) (fun h => by have := hO x h; omega)⟩
      refine ih (k + 1) s2 v' (us ++ [z]) O' _ (by omega) (by omega) hlt ob (by simpa using p2) (fun j hj => (p5 j hj).elim (hO j) (fun h => by omega)) ?_ hq
      rw [List.take_succ_eq_append_getElem hlt, List.map_append]
      refine (hr.old kb).append ?_
      have hxe : rs[k] = L := by rw [List.getElem?_eq_getElem hlt] at hx; injection hx
      rw [hxe]
      have : L.take (min L.length 6) = L.take 6 := by
        rw [List.take_eq_take_iff]
        omega
      rw [this] at z2
      exact RowCells.one (z2.old kb (Nat.le_refl _))
    · have hkl : k = rs.length := by omega
      have hkk : decide ((k : Int) < (rs.length : Int)) = false := decide_eq_false (by omega)
      have hov : ((rs.take k).map fun L => L.take 6) = oddV rs := by
        unfold oddV
        rw [List.take_of_length_le (by omega), List.take_of_length_le (by omega)]
      rw [hov] at hr
      simp only [c4l17, c4o14, hln, hkk, Bool.false_beq, Bool.not_true, wpC, wpI, wpS, wpD, wpV, wanted_none, wanted_some, vals, cev_const, cev_var, cev_loc, padV, okV_some, againP, true_and, and_true, upd_zero, upd_succ, nth_zero, nth_succ, wpG_true, wpG_false, condK_true, condK_false, seqK_normal, seqK_ret, seqK_exit, inBlock_normal, inBlock_ret, inBlock_exit, ends_ret, ends_normal, unmark_nil, results_nil, results_cons, one_one, one_zero, one_two, isB_undef, isB_tt, isB_ff, Bool.not_true, Bool.not_false, Option.bind_some, pick3, pickA, extractA, List.getElem?_cons_zero, List.getElem?_cons_succ, bin_lss, bin_gtr, bin_leq, bin_geq, bin_eql, bin_neq, un_not]
      exact hq s w us O _ _ hold hd hr

/-- The rest of a row. -/
theorem dest_lo {s : ASt} {v : AV} {cs : List AV} {O : List Nat} (hd : Dest s v cs.length 1 cs O) {k : Nat} (hk : k < cs.length) :
    ∃ w, SliceAt s.next s w (cs.drop k) ∧ eqA w w = true ∧ ∀ s', (∀ j, slot v = some j → s'.heap.get j = s.heap.get j) → sliceOpnds Try.prog 22 true false false s' [v, iv (k : Int)] = some w := by
  have hb : boundA (iv (k : Int)) cs.length = some k := by simp [boundA, idxOf, natOf_nat, guardB, ble_of (show k ≤ cs.length by omega)]
  obtain ⟨a, cap, hv, hc⟩ := hd.cells
  have cells : ∀ (i o : Nat) (cap' : Option Nat), a = some (i, o) → SliceAt s.next s (.slice (some (i, o + k * 1)) (cs.length - k) cap') (cs.drop k) := by
    intro i o cap' ha
    refine ⟨_, _, by rw [List.length_drop], fun j u hj => ?_⟩
    rw [List.getElem?_drop] at hj
    obtain ⟨i', o', e, h1, h2⟩ := hc _ u hj
    rw [ha] at e
    injection e with e
    injection e with e1 e2
    subst e1; subst e2
    exact ⟨i, o + k * 1, rfl, h1, by rw [show o + k * 1 + j = o + (k + j) by omega]; exact h2⟩
  rcases hd with ⟨a', e, rfl, h3, h4, h5⟩ | ⟨i, p, e, h6, h7⟩
  · rw [hv] at e
    injection e with e1 e2 e3
    subst e1; subst e3
    cases a with
    | none => have := h4 rfl; omega
    | some io =>
      obtain ⟨i, o⟩ := io
      refine ⟨_, cells i o (some (cs.length - k)) rfl, eqA_self, fun s' _ => ?_⟩
      rw [hv]
      show sliceA Try.prog s' 22 (.slice (some (i, o)) cs.length (some cs.length)) (some (iv (k : Int))) none none = _
      have hz : Nat.beq cs.length k = false := beq_off (by omega)
      simp [sliceA, Try.underlying22, sz23, hb, guardB, hz]
  · rw [hv] at e
    injection e with e1 e2 e3
    subst e1; subst e3
    rcases h6.ex with ⟨e', _⟩ | ⟨_, q1, q2, q3, r, q4, q5, q6, q7, q8, q9⟩
    · rw [hv] at e'; cases e'
    · have hrn : r.n = cs.length := q5.1
      refine ⟨_, cells i 0 none rfl, eqA_self, fun s' hs' => ?_⟩
      have hg : s'.heap.get i = some (.row r) := by rw [hs' i (by rw [hv]; rfl)]; exact q4
      have hrow : rowAt s' i = some r := by simp [rowAt, hg]
      rw [hv]
      show sliceA Try.prog s' 22 (.slice (some (i, 0)) cs.length none) (some (iv (k : Int))) none none = _
      simp [sliceA, Try.underlying22, sz23, hrow, q8, guardB, hb, ble_of (Nat.zero_le r.n), show Nat.beq 1 0 = false from rfl]
end Go.Proofs.Ytilhhmkdcoajnaa.Am

/- DrupTells, all of its run; conditions: the readings of the arguments. -/
set_option linter.unusedVariables false
set_option linter.unusedSimpArgs false
set_option maxRecDepth 16000
namespace Go.Proofs.Ytilhhmkdcoajnaa.Am
open Go Go.Proofs

/-- Clauses as they come: both checks agree on what follows. -/
theorem raw_loop {E : Env} (hE : Good E) {b : Nat} {odd : List (List Int)} (hodd : odd.length ≤ 10 ∧ ∀ L ∈ odd, I64s L ∧ L.length ≤ 6) (v0 v1 v2 v3 v4 v5 v6 v7 v8 v9 v10 v12 v14 v15 v16 v17 : AV) {Q : ARes → Prop} :
    ∀ (m k : Nat) (s : ASt) (w : AV) (us : List AV) (O : List Nat) (x18 x19 : AV), k + m = odd.length → Dest s w us.length 1 us O → RowCells b s us odd → b ≤ s.next →
      (∀ s' y13 y18 y19, Q ⟨.exit 4, [v0, v1, v2, v3, v4, v5, v6, v7, v8, v9, v10, w, v12, y13, v14, v15, v16, v17, y18, y19], [], s'⟩) →
      WC E none (.loop c4l23) Q [v0, v1, v2, v3, v4, v5, v6, v7, v8, v9, v10, w, v12, iv (k : Int), v14, v15, v16, v17, x18, x19] [] s := by
  obtain ⟨ho1, ho2⟩ := hodd
  intro m
  induction m with
  | zero =>
    intro k s w us O x18 x19 hm hd hr hb hq
    have hln : lenA Try.prog s 22 w = some (iv (us.length : Int)) := by obtain ⟨a, cap, rfl, _⟩ := hd.cells; exact len_slice Try.underlying22
    have hk : k = us.length := by rw [hr.1]; omega
    subst hk
    refine WC.loop' ?_
    simp only [c4l23, c4o19, hln, Int.lt_irrefl, decide_false, wpC, wpI, wpS, wpD, wpV, wanted_none, wanted_some, vals, cev_const, cev_var, cev_loc, padV, okV_some, againP, true_and, and_true, upd_zero, upd_succ, nth_zero, nth_succ, wpG_true, wpG_false, condK_true, condK_false, seqK_normal, seqK_ret, seqK_exit, inBlock_normal, inBlock_ret, inBlock_exit, ends_ret, ends_normal, unmark_nil, results_nil, results_cons, one_one, one_zero, one_two, isB_undef, isB_tt, isB_ff, Bool.not_true, Bool.not_false, Option.bind_some, pick3, pickA, extractA, List.getElem?_cons_zero, List.getElem?_cons_succ, bin_lss, bin_gtr, bin_leq, bin_geq, bin_eql, bin_neq, un_not]
    exact hq s _ _ _
  | succ m ih =>
    intro k s w us O x18 x19 hm hd hr hb hq
    have hul := hr.1
    have hln : lenA Try.prog s 22 w = some (iv (us.length : Int)) := by obtain ⟨a, cap, rfl, _⟩ := hd.cells; exact len_slice Try.underlying22
    have hkk : decide ((k : Int) < (us.length : Int)) = true := decide_eq_true (by omega)
    have e3 := bin_add Try.prog 3 (k : Int) 1 ⟨by omega, by omega⟩
    have hcast : ((k : Int) + 1) = ((k + 1 : Nat) : Int) := by omega
    obtain ⟨z, z1, z2, z3⟩ := dest_lo hd (show k < us.length by omega)
    have z30 := z3 s (fun _ _ => rfl)
    have h0 : odd[0]? = some odd[0] := List.getElem?_eq_getElem (by omega)
    have hL0 := ho2 odd[0] (List.getElem_mem (by omega))
    obtain ⟨u, hu1, hu2⟩ := hr.2 0 _ h0
    generalize odd[0] = L at hL0 hu2
    obtain ⟨a, cap, hwe, hc⟩ := hd.cells
    obtain ⟨i, o, ha, hi, hl⟩ := hc 0 u hu1
    have e1 : indexAddrA Try.prog 22 w (iv 0) = some (.ptr (some (i, o + 0 * 1))) := by rw [hwe, ha]; exact idx_slice (k := 0) Try.underlying22 sz23 (by omega)
    have e2 : ∀ s', Old s.next s s' → loadV Try.prog s' 23 (.ptr (some (i, o + 0 * 1))) = some u := fun s' h => load_one ag23 (by rw [load1_eq (h.2 i hi), Nat.zero_mul]; exact hl)
    have e20 := e2 s (Old.refl _ _)
    have hi64 : ∀ M ∈ odd, I64s M := fun M hM => (ho2 M hM).1
    have hmd : ∀ M ∈ odd.drop k, M ∈ odd := fun M hM => List.mem_of_mem_drop hM
    have hi64d : ∀ M ∈ odd.drop k, I64s M := fun M hM => hi64 M (hmd M hM)
    have hfits : Fits odd := ⟨by omega, fun M hM => ⟨hi64 M hM, by have := (ho2 M hM).2; omega⟩⟩
    have hfitsR : FitsR odd := ⟨by omega, fun M hM => ⟨hi64 M hM, by have := (ho2 M hM).2; omega⟩⟩
    have hfitsd : Fits (odd.drop k) := ⟨by rw [List.length_drop]; omega, fun M hM => hfits.2 M (hmd M hM)⟩
    have hfitsdR : FitsR (odd.drop k) := ⟨by rw [List.length_drop]; omega, fun M hM => hfitsR.2 M (hmd M hM)⟩
    have hfl := flatten_le (n := 6) fun M hM => (ho2 M hM).2
    have hfld := flatten_le (cs := odd.drop k) (n := 6) fun M hM => (ho2 M (hmd M hM)).2
    rw [List.length_drop] at hfld
    have hslot := hd.slot_lt
    have hself := hu2.self
    refine WC.loop' ?_
    generalize hW : WC E none (CCode.loop c4l23) Q = W
    simp only [c4l23, c4o19, c4o20, hln, hkk, z30, e1, e20, wpC, wpI, wpS, wpD, wpV, wanted_none, wanted_some, vals, cev_const, cev_var, cev_loc, padV, okV_some, againP, true_and, and_true, upd_zero, upd_succ, nth_zero, nth_succ, wpG_true, wpG_false, condK_true, condK_false, seqK_normal, seqK_ret, seqK_exit, inBlock_normal, inBlock_ret, inBlock_exit, ends_ret, ends_normal, unmark_nil, results_nil, results_cons, one_one, one_zero, one_two, isB_undef, isB_tt, isB_ff, Bool.not_true, Bool.not_false, Option.bind_some, pick3, pickA, extractA, List.getElem?_cons_zero, List.getElem?_cons_succ, bin_lss, bin_gtr, bin_leq, bin_geq, bin_eql, bin_neq, un_not]
    refine (follows_ok hE hfitsd hL0.1 (by omega) (mkRows z1 (hr.drop k) hb) (hu2.mono hb) (fol_V hi64d hL0.1)).mono ?_
    rintro _ s1 ⟨rfl, hs1⟩
    have hs1 := hs1.1
    have n1 := hs1.1
    have z31 := z3 s1 (fun j hj => hs1.2 j (hslot j hj))
    have e21 := e2 s1 hs1
    have hd1 : Dest s1 w us.length 1 us O := hd.frame hs1.1 fun j hj => hs1.2 j (hslot j hj)
    have hr1 : RowCells b s1 us odd := hr.old (hs1.mono hb)
    have z11 : SliceAt s.next s1 z (us.drop k) := z1.old hs1 (Nat.le_refl _)
    have hu21 : SliceAt b s1 u (ivs L) := hu2.old (hs1.mono hb) (Nat.le_refl _)
    simp only [again_r1, again_r, sameA_some, e21, hself, z31, z2, wpC, wpI, wpS, wpD, wpV, wanted_none, wanted_some, vals, cev_const, cev_var, cev_loc, padV, okV_some, againP, true_and, and_true, upd_zero, upd_succ, nth_zero, nth_succ, wpG_true, wpG_false, condK_true, condK_false, seqK_normal, seqK_ret, seqK_exit, inBlock_normal, inBlock_ret, inBlock_exit, ends_ret, ends_normal, unmark_nil, results_nil, results_cons, one_one, one_zero, one_two, isB_undef, isB_tt, isB_ff, Bool.not_true, Bool.not_false, Option.bind_some, pick3, pickA, extractA, List.getElem?_cons_zero, List.getElem?_cons_succ, bin_lss, bin_gtr, bin_leq, bin_geq, bin_eql, bin_neq, un_not]
    refine (rfollows_ok hE hfitsdR hL0.1 (by omega) (n0 := s1.next) (Nat.le_refl _) (mkRows (z11.mono n1) (hr1.drop k) (by omega)) (hu21.mono (by omega)) (fuel := (odd.drop k).flatten.length + 1) (by omega) (fol_R hi64d L)).mono ?_
    rintro _ s2 ⟨rfl, hs2⟩
    have n2 := hs2.1
    have hd2 : Dest s2 w us.length 1 us O := hd1.frame hs2.1 fun j hj => hs2.2 j (hd1.slot_lt j hj)
    have hr2 : RowCells b s2 us odd := hr1.old (hs2.mono (by omega))
    have hnil : ∀ (b : Nat) (s : ASt), SliceAt b s (.slice none 0 (some 0)) (ivs []) := fun b s => ⟨none, some 0, rfl, CellsAt.nil⟩
    have hi0 : I64s ([] : List Int) := fun x hx => by cases hx
    simp only [bin_neq_bool, bne_self, wpC, wpI, wpS, wpD, wpV, wanted_none, wanted_some, vals, cev_const, cev_var, cev_loc, padV, okV_some, againP, true_and, and_true, upd_zero, upd_succ, nth_zero, nth_succ, wpG_true, wpG_false, condK_true, condK_false, seqK_normal, seqK_ret, seqK_exit, inBlock_normal, inBlock_ret, inBlock_exit, ends_ret, ends_normal, unmark_nil, results_nil, results_cons, one_one, one_zero, one_two, isB_undef, isB_tt, isB_ff, Bool.not_true, Bool.not_false, Option.bind_some, pick3, pickA, extractA, List.getElem?_cons_zero, List.getElem?_cons_succ, bin_lss, bin_gtr, bin_leq, bin_geq, bin_eql, bin_neq, un_not]
    refine (follows_ok hE hfits hi0 (by decide) (mkRows hd2.slice hr2 (by omega)) (hnil _ _) (fol_V hi64 hi0)).mono ?_
    rintro _ s3 ⟨rfl, hs3⟩
    have hs3 := hs3.1
    have n3 := hs3.1
    have hd3 : Dest s3 w us.length 1 us O := hd2.frame hs3.1 fun j hj => hs3.2 j (hd2.slot_lt j hj)
    have hr3 : RowCells b s3 us odd := hr2.old (hs3.mono (by omega))
    simp only [wpC, wpI, wpS, wpD, wpV, wanted_none, wanted_some, vals, cev_const, cev_var, cev_loc, padV, okV_some, againP, true_and, and_true, upd_zero, upd_succ, nth_zero, nth_succ, wpG_true, wpG_false, condK_true, condK_false, seqK_normal, seqK_ret, seqK_exit, inBlock_normal, inBlock_ret, inBlock_exit, ends_ret, ends_normal, unmark_nil, results_nil, results_cons, one_one, one_zero, one_two, isB_undef, isB_tt, isB_ff, Bool.not_true, Bool.not_false, Option.bind_some, pick3, pickA, extractA, List.getElem?_cons_zero, List.getElem?_cons_succ, bin_lss, bin_gtr, bin_leq, bin_geq, bin_eql, bin_neq, un_not]
    refine (rfollows_ok hE hfitsR hi0 (by decide) (n0 := s3.next) (Nat.le_refl _) (mkRows hd3.slice hr3 (by omega)) (hnil _ _) (fuel := odd.flatten.length + 1) (by omega) (fol_R hi64 [])).mono ?_
    rintro _ s4 ⟨rfl, hs4⟩
    have n4 := hs4.1
    have hd4 : Dest s4 w us.length 1 us O := hd3.frame hs4.1 fun j hj => hs4.2 j (hd3.slot_lt j hj)
    have hr4 : RowCells b s4 us odd := hr3.old (hs4.mono (by omega))
    simp only [bin_neq_bool, bne_self, c4o22, e3, hcast, wpC, wpI, wpS, wpD, wpV, wanted_none, wanted_some, vals, cev_const, cev_var, cev_loc, padV, okV_some, againP, true_and, and_true, upd_zero, upd_succ, nth_zero, nth_succ, wpG_true, wpG_false, condK_true, condK_false, seqK_normal, seqK_ret, seqK_exit, inBlock_normal, inBlock_ret, inBlock_exit, ends_ret, ends_normal, unmark_nil, results_nil, results_cons, one_one, one_zero, one_two, isB_undef, isB_tt, isB_ff, Bool.not_true, Bool.not_false, Option.bind_some, pick3, pickA, extractA, List.getElem?_cons_zero, List.getElem?_cons_succ, bin_lss, bin_gtr, bin_leq, bin_geq, bin_eql, bin_neq, un_not]
    rw [← hW]
    exact ih (k + 1) s4 w us O _ _ (by omega) hd4 hr4 (by omega) hq

/-- DrupTells. -/
theorem tells_ok {E : Env} (hE : Good E) (hW : ∀ s, E.nat 21 [] s = some (.bool true, s)) {b : Nat} {s : ASt} {v0 v1 v2 : AV} {ls rs : List (List Int)} {ss : List Step20} (h : Args20 b s v0 v1 ls ss)
    (hraw : RawOf b s v2 rs) (hrl : rs.length < 9223372036854775808) (hr : ∀ L ∈ rs, I64s L ∧ L.length < 9223372036854775808) : WF E 4 [v0, v1, v2] (fun r _ => r = .bool true) s := by
  have hP := traceOf_plain ss
  have hT6 := traceOf_six ss
  have hTl := traceOf_len ss
  have hcf := clausesV_fits ls
  have hc6 : ∀ L ∈ clausesV ls, SixP L := sixP_clauses
  refine hE.go comp4 (by decide) rfl ?_
  simp only [c4, c4o0, c4o1, wpC, wpI, wpS, wpD, wpV, wanted_none, wanted_some, vals, cev_const, cev_var, cev_loc, padV, okV_some, againP, true_and, and_true, upd_zero, upd_succ, nth_zero, nth_succ, wpG_true, wpG_false, condK_true, condK_false, seqK_normal, seqK_ret, seqK_exit, inBlock_normal, inBlock_ret, inBlock_exit, ends_ret, ends_normal, unmark_nil, results_nil, results_cons, one_one, one_zero, one_two, isB_undef, isB_tt, isB_ff, Bool.not_true, Bool.not_false, Option.bind_some, pick3, pickA, extractA, List.getElem?_cons_zero, List.getElem?_cons_succ, bin_lss, bin_gtr, bin_leq, bin_geq, bin_eql, bin_neq, un_not]
  refine (setup1 hE h).mono ?_
  rintro cl s1 ⟨us, hm1⟩
  simp only [wpC, wpI, wpS, wpD, wpV, wanted_none, wanted_some, vals, cev_const, cev_var, cev_loc, padV, okV_some, againP, true_and, and_true, upd_zero, upd_succ, nth_zero, nth_succ, wpG_true, wpG_false, condK_true, condK_false, seqK_normal, seqK_ret, seqK_exit, inBlock_normal, inBlock_ret, inBlock_exit, ends_ret, ends_normal, unmark_nil, results_nil, results_cons, one_one, one_zero, one_two, isB_undef, isB_tt, isB_ff, Bool.not_true, Bool.not_false, Option.bind_some, pick3, pickA, extractA, List.getElem?_cons_zero, List.getElem?_cons_succ, bin_lss, bin_gtr, bin_leq, bin_geq, bin_eql, bin_neq, un_not]
  refine (setup2 hE hm1).mono ?_
  rintro tr s2 ⟨hs2, ho2⟩
  generalize traceOf ss = T at hP hT6 hTl hs2
  generalize clausesV ls = cs at hcf hc6 hs2
  have hb2 : b ≤ s2.next := Nat.le_trans h.le ho2.1
  have raw2 := hraw.old (ho2.mono h.le)
  have hfl : ∀ k, (cs ++ learnT (T.take k)).flatten.length + 1 ≤ 100000 := fun k => by
    have h1 := flatten_le (cs := cs ++ learnT (T.take k)) (n := 5) fun M hM => by
      rcases List.mem_append.1 hM with h | h
      · exact (hc6 M h).2
      · exact (learn_six (fun x hx => hT6 x (List.mem_of_mem_take hx)) M h).2
    have h2 := (hP.learn k).2
    have h3 := hcf.2
    rw [List.length_append] at h1
    omega
  have hall : ∀ k, ∀ M ∈ cs ++ learnT (T.take k), I64s M := fun k M hM => by
    rcases List.mem_append.1 hM with h | h
    · exact (hc6 M h).six.i64
    · exact (learn_six (fun x hx => hT6 x (List.mem_of_mem_take hx)) M h).six.i64
  simp only [c4o2, wpC, wpI, wpS, wpD, wpV, wanted_none, wanted_some, vals, cev_const, cev_var, cev_loc, padV, okV_some, againP, true_and, and_true, upd_zero, upd_succ, nth_zero, nth_succ, wpG_true, wpG_false, condK_true, condK_false, seqK_normal, seqK_ret, seqK_exit, inBlock_normal, inBlock_ret, inBlock_exit, ends_ret, ends_normal, unmark_nil, results_nil, results_cons, one_one, one_zero, one_two, isB_undef, isB_tt, isB_ff, Bool.not_true, Bool.not_false, Option.bind_some, pick3, pickA, extractA, List.getElem?_cons_zero, List.getElem?_cons_succ, bin_lss, bin_gtr, bin_leq, bin_geq, bin_eql, bin_neq, un_not]
  refine (check_ok hE (b := s2.next) (Nat.le_refl _) hs2.slice hs2.rows hcf.1 hs2.tr hP (fol := fol) fun k L hk => ⟨_, fol_lines hc6 hT6 k L hk⟩).mono ?_
  rintro _ s3 ⟨rfl, ho3⟩
  have k3 := hs2.old ho3
  obtain ⟨n, r, hnr⟩ : ∃ n r, checkV fol cs T = (n, r) := ⟨_, _, rfl⟩
  obtain ⟨O3, hd3⟩ := k3.dest
  simp only [c4o3, wpC, wpI, wpS, wpD, wpV, wanted_none, wanted_some, vals, cev_const, cev_var, cev_loc, padV, okV_some, againP, true_and, and_true, upd_zero, upd_succ, nth_zero, nth_succ, wpG_true, wpG_false, condK_true, condK_false, seqK_normal, seqK_ret, seqK_exit, inBlock_normal, inBlock_ret, inBlock_exit, ends_ret, ends_normal, unmark_nil, results_nil, results_cons, one_one, one_zero, one_two, isB_undef, isB_tt, isB_ff, Bool.not_true, Bool.not_false, Option.bind_some, pick3, pickA, extractA, List.getElem?_cons_zero, List.getElem?_cons_succ, bin_lss, bin_gtr, bin_leq, bin_geq, bin_eql, bin_neq, un_not]
  refine (rcheck_ok hE (b := s2.next) k3.le hd3 k3.rows hcf.1 (by have := hcf.2; omega) k3.tr hP (fol := fol) fun k L hk => ⟨_, hfl k, fol_R (hall k) L⟩).mono ?_
  rintro _ s4 ⟨rfl, ho4⟩
  rw [hnr]
  have k4 := k3.old (ho4.mono k3.le)
  have c0 : decide ((n : Int) ≠ (n : Int)) = false := decide_eq_false (fun h => h rfl)
  simp only [c4o4, c0, bin_neq_bool, bne_self, wpC, wpI, wpS, wpD, wpV, wanted_none, wanted_some, vals, cev_const, cev_var, cev_loc, padV, okV_some, againP, true_and, and_true, upd_zero, upd_succ, nth_zero, nth_succ, wpG_true, wpG_false, condK_true, condK_false, seqK_normal, seqK_ret, seqK_exit, inBlock_normal, inBlock_ret, inBlock_exit, ends_ret, ends_normal, unmark_nil, results_nil, results_cons, one_one, one_zero, one_two, isB_undef, isB_tt, isB_ff, Bool.not_true, Bool.not_false, Option.bind_some, pick3, pickA, extractA, List.getElem?_cons_zero, List.getElem?_cons_succ, bin_lss, bin_gtr, bin_leq, bin_geq, bin_eql, bin_neq, un_not]
  refine (left_ok hE (b := s2.next) k4.le k4.slice k4.rows hcf.1 k4.tr hP).mono ?_
  rintro lf s5 ⟨⟨us5, O5, hl5, _⟩, ho5⟩
  have k5 := k4.old (ho5.mono k4.le)
  obtain ⟨O5', hd5⟩ := k5.dest
  simp only [wpC, wpI, wpS, wpD, wpV, wanted_none, wanted_some, vals, cev_const, cev_var, cev_loc, padV, okV_some, againP, true_and, and_true, upd_zero, upd_succ, nth_zero, nth_succ, wpG_true, wpG_false, condK_true, condK_false, seqK_normal, seqK_ret, seqK_exit, inBlock_normal, inBlock_ret, inBlock_exit, ends_ret, ends_normal, unmark_nil, results_nil, results_cons, one_one, one_zero, one_two, isB_undef, isB_tt, isB_ff, Bool.not_true, Bool.not_false, Option.bind_some, pick3, pickA, extractA, List.getElem?_cons_zero, List.getElem?_cons_succ, bin_lss, bin_gtr, bin_leq, bin_geq, bin_eql, bin_neq, un_not]
  refine (rleft_ok hE (b := s2.next) k5.le hd5 k5.rows (by have := hcf.2; omega) k5.tr hP).mono ?_
  rintro rl s6 ⟨hrl6, ho6⟩
  have k6 := k5.old (ho6.mono k5.le)
  have hl6 := hl5.frame ho6.1 (fun j hj => ho6.2 j (hl5.dest.slot_lt j hj)) fun j _ hj => ho6.2 j hj
  have hm6 : ∀ M ∈ cs ++ learnT T, SixP M := fun M hM => by
    rcases List.mem_append.1 hM with h | h
    · exact hc6 M h
    · exact learn_six hT6 M h
  have hlen : (cs ++ learnT T).length ≤ 1000000 := by
    have h1 := learnT_len (T := T)
    have h2 := hcf.2
    simp
    omega
  simp only [wpC, wpI, wpS, wpD, wpV, wanted_none, wanted_some, vals, cev_const, cev_var, cev_loc, padV, okV_some, againP, true_and, and_true, upd_zero, upd_succ, nth_zero, nth_succ, wpG_true, wpG_false, condK_true, condK_false, seqK_normal, seqK_ret, seqK_exit, inBlock_normal, inBlock_ret, inBlock_exit, ends_ret, ends_normal, unmark_nil, results_nil, results_cons, one_one, one_zero, one_two, isB_undef, isB_tt, isB_ff, Bool.not_true, Bool.not_false, Option.bind_some, pick3, pickA, extractA, List.getElem?_cons_zero, List.getElem?_cons_succ, bin_lss, bin_gtr, bin_leq, bin_geq, bin_eql, bin_neq, un_not]
  refine (rows_ok hE hlen (fun L hL => by have := (hm6 L hL).2; omega) hlen hl6.rowsOf hrl6).mono ?_
  rintro _ s7 ⟨rfl, rfl⟩
  simp only [decide_true, Bool.not_true, c4o6, wpC, wpI, wpS, wpD, wpV, wanted_none, wanted_some, vals, cev_const, cev_var, cev_loc, padV, okV_some, againP, true_and, and_true, upd_zero, upd_succ, nth_zero, nth_succ, wpG_true, wpG_false, condK_true, condK_false, seqK_normal, seqK_ret, seqK_exit, inBlock_normal, inBlock_ret, inBlock_exit, ends_ret, ends_normal, unmark_nil, results_nil, results_cons, one_one, one_zero, one_two, isB_undef, isB_tt, isB_ff, Bool.not_true, Bool.not_false, Option.bind_some, pick3, pickA, extractA, List.getElem?_cons_zero, List.getElem?_cons_succ, bin_lss, bin_gtr, bin_leq, bin_geq, bin_eql, bin_neq, un_not]
  refine lines_same hE hc6 hcf.2 hT6 hP _ _ _ _ _ _ _ _ _ _ _ _ _ _ _ T.length 0 s6 _ _ (by omega) k6 ?_
  intro s8 y10 y15 y16 ho8
  have h26 : Old s2.next s2 s6 := ho3.trans (((ho4.mono k3.le).trans (ho5.mono k4.le)).trans (ho6.mono k5.le))
  have h28 : Old s2.next s2 s8 := h26.trans ho8
  have raw8 := raw2.old (h28.mono hb2)
  have hb8 : b ≤ s8.next := Nat.le_trans hb2 h28.1
  simp only [if_true, c4o12, c4o13, wpC, wpI, wpS, wpD, wpV, wanted_none, wanted_some, vals, cev_const, cev_var, cev_loc, padV, okV_some, againP, true_and, and_true, upd_zero, upd_succ, nth_zero, nth_succ, wpG_true, wpG_false, condK_true, condK_false, seqK_normal, seqK_ret, seqK_exit, inBlock_normal, inBlock_ret, inBlock_exit, ends_ret, ends_normal, unmark_nil, results_nil, results_cons, one_one, one_zero, one_two, isB_undef, isB_tt, isB_ff, Bool.not_true, Bool.not_false, Option.bind_some, pick3, pickA, extractA, List.getElem?_cons_zero, List.getElem?_cons_succ, bin_lss, bin_gtr, bin_leq, bin_geq, bin_eql, bin_neq, un_not]
  refine odd_loop hE hb8 raw8 hrl (fun L hL => (hr L hL).2) _ _ _ _ _ _ _ _ _ _ _ _ _ _ _ _ 10 0 s8 (.slice none 0 (some 0)) [] [] _ rfl (by omega) (Nat.zero_le _) (Old.refl _ _) (Dest.nil s8 1) (fun j hj => by cases hj) (RowCells.nil _ _) ?_
  intro s9 w9 us9 O9 y12 y17 ho9 hd9 hr9
  have hb9 : b ≤ s9.next := Nat.le_trans hb8 ho9.1
  simp only [if_true, c4o18, wpC, wpI, wpS, wpD, wpV, wanted_none, wanted_some, vals, cev_const, cev_var, cev_loc, padV, okV_some, againP, true_and, and_true, upd_zero, upd_succ, nth_zero, nth_succ, wpG_true, wpG_false, condK_true, condK_false, seqK_normal, seqK_ret, seqK_exit, inBlock_normal, inBlock_ret, inBlock_exit, ends_ret, ends_normal, unmark_nil, results_nil, results_cons, one_one, one_zero, one_two, isB_undef, isB_tt, isB_ff, Bool.not_true, Bool.not_false, Option.bind_some, pick3, pickA, extractA, List.getElem?_cons_zero, List.getElem?_cons_succ, bin_lss, bin_gtr, bin_leq, bin_geq, bin_eql, bin_neq, un_not]
  refine raw_loop hE (odd_fits fun L hL => (hr L hL).1) _ _ _ _ _ _ _ _ _ _ _ _ _ _ _ _ (oddV rs).length 0 s9 w9 us9 O9 _ _ (by omega) hd9 hr9 hb9 ?_
  intro s10 y13 y18 y19
  simp only [if_true, c4o24, wpC, wpI, wpS, wpD, wpV, wanted_none, wanted_some, vals, cev_const, cev_var, cev_loc, padV, okV_some, againP, true_and, and_true, upd_zero, upd_succ, nth_zero, nth_succ, wpG_true, wpG_false, condK_true, condK_false, seqK_normal, seqK_ret, seqK_exit, inBlock_normal, inBlock_ret, inBlock_exit, ends_ret, ends_normal, unmark_nil, results_nil, results_cons, one_one, one_zero, one_two, isB_undef, isB_tt, isB_ff, Bool.not_true, Bool.not_false, Option.bind_some, pick3, pickA, extractA, List.getElem?_cons_zero, List.getElem?_cons_succ, bin_lss, bin_gtr, bin_leq, bin_geq, bin_eql, bin_neq, un_not]
  refine WF.nat (hW s10) ?_
  simp only [wpC, wpI, wpS, wpD, wpV, wanted_none, wanted_some, vals, cev_const, cev_var, cev_loc, padV, okV_some, againP, true_and, and_true, upd_zero, upd_succ, nth_zero, nth_succ, wpG_true, wpG_false, condK_true, condK_false, seqK_normal, seqK_ret, seqK_exit, inBlock_normal, inBlock_ret, inBlock_exit, ends_ret, ends_normal, unmark_nil, results_nil, results_cons, one_one, one_zero, one_two, isB_undef, isB_tt, isB_ff, Bool.not_true, Bool.not_false, Option.bind_some, pick3, pickA, extractA, List.getElem?_cons_zero, List.getElem?_cons_succ, bin_lss, bin_gtr, bin_leq, bin_geq, bin_eql, bin_neq, un_not]
end Go.Proofs.Ytilhhmkdcoajnaa.Am

/- DrupTells, in the model; conditions: none. -/
set_option linter.unusedVariables false
set_option linter.unusedSimpArgs false
set_option maxRecDepth 16000
namespace Go.Proofs.Ytilhhmkdcoajnaa.Am
open Go Go.Proofs

/-- A row of numbers at the door may be cut. -/
theorem cut_in {s : ASt} {u : AV} {L : List Int} (h : SliceIn (pNum iv i64) 1 s [u] L) : CutOk s.next s u L := by
  intro s' ho k hk
  have h' := SliceIn.old (pNum_old _ _) s s' _ _ h ho
  obtain ⟨a, cap, e, _, hcap, h2⟩ := h
  injection e with e
  subst e
  obtain ⟨u', e', hat, _, _⟩ := sliceIn_at h'
  injection e' with e'
  subst e'
  have cells : ∀ cap', SliceAt s.next s' (.slice a k cap') (ivs (L.take k)) := fun cap' => by
    refine ⟨a, cap', by rw [ivs_len, List.length_take, Nat.min_eq_left hk], fun j v hj => ?_⟩
    rw [List.getElem?_map] at hj
    cases hx : (L.take k)[j]? with
    | none => rw [hx] at hj; cases hj
    | some x =>
      rw [hx] at hj
      injection hj with hj
      subst hj
      have hxL : L[j]? = some x := by
        rw [List.getElem?_take] at hx
        split at hx
        · exact hx
        · cases hx
      obtain ⟨i, o, vs, g1, g2, g3, g4, g5, g6⟩ := h2 j x hxL
      subst g5
      exact ⟨i, o, g1, g2, by rw [load1_eq (ho.2 i g2)]; simpa using g4 0 (iv x) rfl⟩
  rcases hcap with ⟨c, rfl, hc, h0⟩ | ⟨hn, rfl, i, r, rfl, hi, hg, hsz⟩
  · have hb : boundA (iv (k : Int)) c = some k := by simp [boundA, idxOf, natOf_nat, guardB, ble_of (show k ≤ c by omega)]
    refine ⟨_, ?_, cells (some c)⟩
    show sliceA Try.prog s' 23 (.slice a L.length (some c)) none (some (iv (k : Int))) none = _
    cases a with
    | none => simp [sliceA, Try.underlying23, sz3, hb, guardB]
    | some io =>
      obtain ⟨i, o⟩ := io
      cases hz : Nat.beq c 0 <;> simp [sliceA, Try.underlying23, sz3, hb, guardB, hz]
  · have hk0 : k = 0 := by omega
    subst hk0
    have hb : ∀ m, boundA (iv ((0 : Nat) : Int)) m = some 0 := fun m => by simp [boundA, idxOf, natOf, guardB, ble_of (Nat.zero_le m)]
    refine ⟨_, ?_, cells none⟩
    show sliceA Try.prog s' 23 (.slice (some (i, 0)) L.length none) none (some (iv ((0 : Nat) : Int))) none = _
    have hrow : rowAt s' i = some r := by simp [rowAt, ho.2 i hi, hg]
    have hb' : boundA (.int .i64 0) r.n = some 0 := hb r.n
    simp [sliceA, Try.underlying23, sz3, hrow, hsz, guardB, hb', ble_of (Nat.zero_le r.n), show Nat.beq 1 0 = false from rfl]

theorem rawIn_at {s : ASt} {us : List AV} {rs : List (List Int)} (h : SliceIn (SliceIn (pNum iv i64) 1) 1 s us rs) : ∃ v, us = [v] ∧ RawOf s.next s v rs ∧ (∀ L ∈ rs, I64s L ∧ L.length < 9223372036854775808) ∧ rs.length < 9223372036854775808 := by
  obtain ⟨a, cap, e1, k1, k2, k3⟩ := rowsIn_at h
  obtain ⟨a', cap', e2, _, _, h2⟩ := h
  rw [e1] at e2
  injection e2 with e2
  injection e2 with e2 _ e3
  subst e2; subst e3
  refine ⟨_, e1, ⟨a, cap, rfl, fun k L hk => ?_⟩, k2, k3⟩
  obtain ⟨i, o, vs, g1, g2, g3, g4, g5⟩ := h2 k L hk
  obtain ⟨u, rfl, q1, _, _⟩ := sliceIn_at g5
  exact ⟨i, o, u, g1, g2, by simpa using g4 0 u rfl, q1, cut_in g5⟩

theorem enter_three {H : Type} {enc : TypeId × Value → H} {W : World} {base : Nat} {v0 v1 v2 : Value} (h0 : Value.okWide Try.prog W .any base 30 v0) (h1 : Value.okWide Try.prog W .any base 31 v1) (h2 : Value.okWide Try.prog W .any base 22 v2)
    {d0 d1 d2 : DataW H} {p0 p1 p2 : List MemPlace} (t0 : DataW.Trod enc Try.prog W 0 (fun _ => true) true 30 v0 d0 p0) (t1 : DataW.Trod enc Try.prog W 0 (fun _ => true) true 31 v1 d1 p1) (t2 : DataW.Trod enc Try.prog W 0 (fun _ => true) true 22 v2 d2 p2) :
    ∃ (ρ : Rho) (s : ASt) (a0 a1 a2 : AV) (ls : List (List Int)) (ss : List Step20) (rs : List (List Int)), Door Try.prog W ρ s ∧ VRels ρ [a0] v0.cells.toList ∧ VRels ρ [a1] v1.cells.toList ∧ VRels ρ [a2] v2.cells.toList ∧ Args20 s.next s a0 a1 ls ss ∧
      RawOf s.next s a2 rs ∧ (∀ L ∈ rs, I64s L ∧ L.length < 9223372036854775808) ∧ rs.length < 9223372036854775808 := by
  obtain ⟨n0, t0⟩ := t0
  obtain ⟨n1, t1⟩ := t1
  obtain ⟨n2, t2⟩ := t2
  obtain ⟨ρ1, s1, us1, ls, g1, g2, g3, g4, g5⟩ := enter_rows (q := i8) Try.underlying30 Try.underlying76 Try.underlying77 co76 co77 (fun n h => wf_i8 h) t0 (fun a ha => size_pos Try.underlying30 h0 a ha) (door0 Try.prog W)
  obtain ⟨ρ2, s2, us2, ss, k1, k2, k3, k4, k5⟩ := enter_steps t1 (fun a ha => size_pos Try.underlying31 h1 a ha) g1
  obtain ⟨ρ3, s3, us3, rs, j1, j2, j3, j4, j5⟩ := enter_rows (q := i64) Try.underlying22 Try.underlying23 Try.underlying3 co23 co3 (fun n h => wf_i64 h) t2 (fun a ha => size_pos Try.underlying22 h2 a ha) k1
  have g5 := SliceIn.old (SliceIn.old (pNum_old _ _)) s1 s3 _ _ g5 (k3.trans (j3.mono k3.1))
  have k5 := SliceIn.old pStep_old s2 s3 _ _ k5 j3
  obtain ⟨a, cap, rfl, q1, q2, q3⟩ := rowsIn_at g5
  obtain ⟨v, rfl, r1, r2, r3⟩ := stepsIn_at k5
  obtain ⟨z, rfl, w1, w2, w3⟩ := rawIn_at j5
  exact ⟨ρ3, s3, _, v, z, ls, ss, rs, j1, (g4.mono k2).mono j2, k4.mono j2, j4, ⟨Nat.le_refl _, q2, q3, r2, r3, ⟨a, cap, rfl, q1⟩, r1⟩, w1, w2, w3⟩

theorem tells_true {H : Type} {enc : TypeId × Value → H} {W : World} {base : Nat} {v0 v1 v2 : Value} (h0 : Value.okWide Try.prog W .any base 30 v0) (h1 : Value.okWide Try.prog W .any base 31 v1) (h2 : Value.okWide Try.prog W .any base 22 v2)
    {d0 d1 d2 : DataW H} {p0 p1 p2 : List MemPlace} (t0 : DataW.Trod enc Try.prog W 0 (fun _ => true) true 30 v0 d0 p0) (t1 : DataW.Trod enc Try.prog W 0 (fun _ => true) true 31 v1 d1 p1) (t2 : DataW.Trod enc Try.prog W 0 (fun _ => true) true 22 v2 d2 p2) :
    Calls Try.prog 4 #[v0, v1, v2] W fun e W' => e = .returned (.bool true) ∧ Kept W W' := by
  obtain ⟨ρ, s, a0, a1, a2, ls, ss, rs, hd, r0, r1, r2, hargs, k1, k2, k3⟩ := enter_three h0 h1 h2 t0 t1 t2
  exact call_true hd (.cons (arg_rel Try.underlying30 h0 r0) (.cons (arg_rel Try.underlying31 h1 r1) (.cons (arg_rel Try.underlying22 h2 r2) .nil))) (tells_ok good_envW envW_works hargs k1 k3 k2)
end Go.Proofs.Ytilhhmkdcoajnaa.Am
