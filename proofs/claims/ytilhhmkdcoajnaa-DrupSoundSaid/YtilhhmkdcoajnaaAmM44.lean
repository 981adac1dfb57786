/- The check whether a clause follows ends, and is sound; what a trace has learned, follows: plain facts on lists, no program; conditions: literals of six variables, for soundness. -/
import Derived.Test.YtilhhmkdcoajnaaAmM43
import Derived.Test.YtilhhmkdcoajnaaAmM36
import Derived.WideKeyArgs
set_option linter.unusedVariables false
set_option linter.unusedSimpArgs false
namespace Go.Proofs.Ytilhhmkdcoajnaa.Am
open Go Go.Proofs

/-! ### It ends -/
theorem filter_lt {α : Type} {p q : α → Bool} (h : ∀ x, p x = true → q x = true) {y : α} (hq : q y = true) (hp : p y = false) : ∀ {l : List α}, y ∈ l → (l.filter p).length < (l.filter q).length := by
  have le : ∀ l : List α, (l.filter p).length ≤ (l.filter q).length := by
    intro l
    induction l with
    | nil => exact Nat.le_refl _
    | cons x l ih =>
      cases hx : p x with
      | true => rw [List.filter_cons_of_pos hx, List.filter_cons_of_pos (h x hx)]; simp only [List.length_cons]; omega
      | false =>
        rw [List.filter_cons_of_neg (by simp [hx])]
        cases hx' : q x with
        | true => rw [List.filter_cons_of_pos hx']; simp only [List.length_cons]; omega
        | false => rw [List.filter_cons_of_neg (by simp [hx'])]; exact ih
  intro l
  induction l with
  | nil => intro hy; cases hy
  | cons x l ih =>
    intro hy
    rcases List.mem_cons.1 hy with rfl | hy
    · rw [List.filter_cons_of_neg (by simp [hp]), List.filter_cons_of_pos hq]
      have := le l
      simp only [List.length_cons]
      omega
    · have := ih hy
      cases hx : p x with
      | true => rw [List.filter_cons_of_pos hx, List.filter_cons_of_pos (h x hx)]; simp only [List.length_cons]; omega
      | false =>
        rw [List.filter_cons_of_neg (by simp [hx])]
        cases hx' : q x with
        | true => rw [List.filter_cons_of_pos hx']; simp only [List.length_cons]; omega
        | false => rw [List.filter_cons_of_neg (by simp [hx'])]; exact this

theorem pass_more : ∀ (cs : List (List Int)) (K K' : List Int) (more m : Bool), (∀ L ∈ cs, I64s L) → passR K cs more = some (K', m) →
    (∀ z ∈ K, z ∈ K') ∧ (m = true → more = true ∨ ∃ y ∈ cs.flatten, y ∉ K ∧ y ∈ K') := by
  intro cs
  induction cs with
  | nil =>
    intro K K' more m _ h
    simp only [passR] at h
    injection h with h
    injection h with h1 h2
    subst h1; subst h2
    exact ⟨fun z hz => hz, fun h => .inl h⟩
  | cons L cs ih =>
    intro K K' more m hcs h
    have hL := hcs L List.mem_cons_self
    have hcs' : ∀ L ∈ cs, I64s L := fun L hL => hcs L (List.mem_cons_of_mem _ hL)
    have keep : passR K cs more = some (K', m) → _ := fun h => by
      obtain ⟨g1, g2⟩ := ih K K' more m hcs' h
      exact (⟨g1, fun hm => (g2 hm).imp id fun ⟨y, q1, q2⟩ => ⟨y, by rw [List.flatten_cons]; exact List.mem_append_right _ q1, q2⟩⟩ : (∀ z ∈ K, z ∈ K') ∧ (m = true → more = true ∨ ∃ y ∈ (L :: cs).flatten, y ∉ K ∧ y ∈ K'))
    simp only [passR] at h
    split at h
    · cases h
    · rename_i y e
      cases hh : holdsR K (cleanV [] L) with
      | true => rw [hh] at h; exact keep h
      | false =>
        rw [hh] at h
        have h : passR (K ++ [y]) cs true = some (K', m) := h
        obtain ⟨g1, _⟩ := ih (K ++ [y]) K' true m hcs' h
        have hy : y ∈ openR K (cleanV [] L) := by rw [e]; exact List.mem_cons_self
        obtain ⟨k1, k2, _⟩ := (open_mem hL y).1 hy
        refine ⟨fun z hz => g1 z (List.mem_append_left _ hz), fun _ => .inr ⟨y, by rw [List.flatten_cons]; exact List.mem_append_left _ k1, fun hyK => ?_, g1 y (List.mem_append_right _ List.mem_cons_self)⟩⟩
        rw [(holds_iff hL).2 ⟨y, k1, k2, hyK⟩] at hh
        cases hh
    · exact keep h
theorem loop_ends {cs : List (List Int)} (hcs : ∀ L ∈ cs, I64s L) : ∀ (n : Nat) (K : List Int), (cs.flatten.filter fun x => decide (x ∉ K)).length < n → ∃ b, loopR cs n K = some b := by
  intro n
  induction n with
  | zero => intro K h; omega
  | succ n ih =>
    intro K h
    simp only [loopR]
    cases hp : passR K cs false with
    | none => exact ⟨true, rfl⟩
    | some p =>
      obtain ⟨K', m⟩ := p
      cases m with
      | false => exact ⟨false, rfl⟩
      | true =>
        obtain ⟨g1, g2⟩ := pass_more cs K K' false true hcs hp
        obtain ⟨y, k1, k2, k3⟩ := (g2 rfl).resolve_left (by decide)
        refine ih K' ?_
        have := filter_lt (p := fun x => decide (x ∉ K')) (q := fun x => decide (x ∉ K)) (y := y) (fun x hx => by
          rw [decide_eq_true_iff] at hx ⊢
          exact fun q => hx (g1 x q)) (by rw [decide_eq_true_iff]; exact k2) (by rw [decide_eq_false_iff_not]; exact fun q => q k3) k1
        omega
/-- Does a clause follow? -/
def fol (cs : List (List Int)) (c : List Int) : Bool := (followsR (cs.flatten.length + 1) cs c).getD false
theorem fol_R {cs : List (List Int)} (hcs : ∀ L ∈ cs, I64s L) (c : List Int) : followsR (cs.flatten.length + 1) cs c = some (fol cs c) := by
  unfold fol
  have : ∃ b, followsR (cs.flatten.length + 1) cs c = some b := by
    unfold followsR
    split
    · exact ⟨true, rfl⟩
    · exact loop_ends hcs _ _ (Nat.lt_succ_of_le (List.length_filter_le _ _))
  obtain ⟨b, hb⟩ := this
  rw [hb]; rfl
theorem fol_V {cs : List (List Int)} (hcs : ∀ L ∈ cs, I64s L) {c : List Int} (hc : I64s c) : followsV (cs.flatten.length + 1) cs c = some (fol cs c) := by
  rw [follows_same hcs hc]
  exact fol_R hcs c
theorem flatten_le {cs : List (List Int)} {n : Nat} (h : ∀ L ∈ cs, L.length ≤ n) : cs.flatten.length ≤ cs.length * n := by
  induction cs with
  | nil => simp
  | cons L cs ih =>
    have h1 := h L List.mem_cons_self
    have h2 := ih fun M hM => h M (List.mem_cons_of_mem _ hM)
    rw [List.flatten_cons, List.length_append, List.length_cons, Nat.add_mul, Nat.one_mul]
    omega

/-! ### It is sound -/
theorem litV6_neg {b : Nat} {x : Int} (h : x ≠ 0) : litV6 b (-x) = !litV6 b x := by
  unfold litV6
  by_cases hp : 0 < x
  · rw [if_neg (by omega), if_pos (by omega), if_pos hp, Int.neg_neg]
  · rw [if_pos (by omega), if_neg hp, if_pos (by omega), Bool.not_not]
theorem holdsV_iff {b : Nat} {c : List Int} : holdsV b c = true ↔ ∃ x ∈ c, litV6 b x = true := by
  unfold holdsV
  rw [List.any_eq_true]
theorem litV6_lit {b : Nat} {x : Int} (h : litV6 b x = true) : x ≠ 0 := by
  rintro rfl
  simp [litV6] at h

theorem Six.i64 {L : List Int} (h : Six L) : I64s L := fun x hx => by have := h x hx; exact ⟨by omega, by omega⟩
theorem Six.lit {L : List Int} (h : Six L) {x : Int} (hx : x ∈ L) (h0 : x ≠ 0) : Lit x := by have := h x hx; exact ⟨h0, by omega, by omega⟩

theorem pass_sound {b : Nat} : ∀ (cs : List (List Int)) (K : List Int) (more : Bool), (∀ L ∈ cs, Six L) → (∀ L ∈ cs, holdsV b L = true) → (∀ z ∈ K, litV6 b z = true) →
    ∃ K' m, passR K cs more = some (K', m) ∧ ∀ z ∈ K', litV6 b z = true := by
  intro cs
  induction cs with
  | nil => intro K more _ _ hK; exact ⟨K, more, rfl, hK⟩
  | cons L cs ih =>
    intro K more hcs hh hK
    have hL6 := hcs L List.mem_cons_self
    have hL := hL6.i64
    have hcs' : ∀ L ∈ cs, Six L := fun L hL => hcs L (List.mem_cons_of_mem _ hL)
    have hh' : ∀ L ∈ cs, holdsV b L = true := fun L hL => hh L (List.mem_cons_of_mem _ hL)
    obtain ⟨x, hx1, hx2⟩ := holdsV_iff.1 (hh L List.mem_cons_self)
    have hx0 := litV6_lit hx2
    have hxo : x ∈ openR K (cleanV [] L) := (open_mem hL x).2 ⟨hx1, hL6.lit hx1 hx0, fun q => by
      have := hK (-x) q
      rw [litV6_neg hx0, hx2] at this
      cases this⟩
    simp only [passR]
    split
    · rename_i e; rw [e] at hxo; cases hxo
    · rename_i y e
      cases hr : holdsR K (cleanV [] L) with
      | true => exact ih K more hcs' hh' hK
      | false =>
        refine ih (K ++ [y]) true hcs' hh' fun z hz => ?_
        rcases List.mem_append.1 hz with hz | hz
        · exact hK z hz
        · rw [List.mem_singleton.1 hz]
          rw [e] at hxo
          rw [← List.mem_singleton.1 hxo]
          exact hx2
    · exact ih K more hcs' hh' hK
theorem loop_sound {b : Nat} {cs : List (List Int)} (hcs : ∀ L ∈ cs, Six L) (hh : ∀ L ∈ cs, holdsV b L = true) : ∀ (n : Nat) (K : List Int), (∀ z ∈ K, litV6 b z = true) → loopR cs n K ≠ some true := by
  intro n
  induction n with
  | zero => intro K _ h; cases h
  | succ n ih =>
    intro K hK
    obtain ⟨K', m, g1, g2⟩ := pass_sound cs K false hcs hh hK
    simp only [loopR]
    rw [g1]
    cases m with
    | true => exact ih K' g2
    | false => intro h; cases h
/-- What follows, holds wherever all clauses do. -/
theorem fol_sound {cs : List (List Int)} (hcs : ∀ L ∈ cs, Six L) {c : List Int} (hc : Six c) (hf : fol cs c = true) {b : Nat} (hh : ∀ L ∈ cs, holdsV b L = true) : holdsV b c = true := by
  cases hb : holdsV b c with
  | true => rfl
  | false =>
    have hno : ∀ x ∈ c, litV6 b x = false := fun x hx => by
      cases hl : litV6 b x with
      | false => rfl
      | true => rw [holdsV_iff.2 ⟨x, hx, hl⟩] at hb; cases hb
    have hR := fol_R (fun L hL => (hcs L hL).i64) c
    rw [hf] at hR
    unfold followsR at hR
    rcases initR_spec (cleanV [] c) (cleanV [] c) [] with ⟨k1, x, k2, k3⟩ | ⟨k1, k2⟩
    · obtain ⟨q1, q2⟩ := (clean_mem hc.i64 x).1 k2
      obtain ⟨q3, q4⟩ := (clean_mem hc.i64 (-x)).1 k3
      have h1 := hno x q1
      have h2 := hno (-x) q3
      rw [litV6_neg q2.1, h1] at h2
      cases h2
    · rw [k2] at hR
      refine absurd hR (loop_sound hcs hh _ _ fun z hz => ?_)
      rw [List.nil_append, List.mem_map] at hz
      obtain ⟨x, hx, rfl⟩ := hz
      obtain ⟨q1, q2⟩ := (clean_mem hc.i64 x).1 hx
      rw [litV6_neg q2.1, hno x q1]
      rfl

/-! ### A trace that is checked -/
theorem check_to {f : List (List Int) → List Int → Bool} {cs : List (List Int)} {T : Trace20} : ∀ (t : Trace20) (k : Nat), T.drop k = t → k ≤ T.length → ∀ n r, checkAt f cs T t k = (n, r) →
    k ≤ n ∧ n ≤ T.length ∧ (∀ j L, k ≤ j → j < n → T[j]? = some (false, L) → f (cs ++ learnT (T.take j)) L = true) ∧ (r = true → ∃ L, T[n]? = some (false, L) ∧ f (cs ++ learnT (T.take n)) L = true ∧ (cleanV [] L).length = 0) := by
  intro t
  induction t with
  | nil =>
    intro k hd hk n r h
    have := drop_end hd hk
    simp only [checkAt] at h
    injection h with h1 h2
    subst h1; subst h2
    exact ⟨hk, Nat.le_refl _, fun j L h1 h2 _ => by omega, fun h => by cases h⟩
  | cons x t ih =>
    intro k hd hk n r h
    obtain ⟨d, L⟩ := x
    obtain ⟨hlt, hx, hd'⟩ := drop_facts hd
    cases d with
    | true =>
      obtain ⟨g1, g2, g3, g4⟩ := ih (k + 1) hd' hlt n r h
      refine ⟨by omega, g2, fun j M h1 h2 h3 => ?_, g4⟩
      by_cases e : j = k
      · subst e; rw [hx] at h3; cases h3
      · exact g3 j M (by omega) h2 h3
    | false =>
      simp only [checkAt] at h
      cases hf : f (cs ++ learnT (T.take k)) L with
      | false =>
        rw [hf] at h
        injection h with h1 h2
        subst h1; subst h2
        exact ⟨Nat.le_refl _, by omega, fun j M h1 h2 _ => by omega, fun h => by cases h⟩
      | true =>
        rw [hf] at h
        simp only at h
        by_cases hc : (cleanV [] L).length = 0
        · rw [if_pos hc] at h
          injection h with h1 h2
          subst h1; subst h2
          exact ⟨Nat.le_refl _, by omega, fun j M h1 h2 _ => by omega, fun _ => ⟨L, hx, hf, hc⟩⟩
        · rw [if_neg hc] at h
          obtain ⟨g1, g2, g3, g4⟩ := ih (k + 1) hd' hlt n r h
          refine ⟨by omega, g2, fun j M h1 h2 h3 => ?_, g4⟩
          by_cases e : j = k
          · subst e
            rw [hx] at h3
            injection h3 with h3
            injection h3 with _ h3
            subst h3
            exact hf
          · exact g3 j M (by omega) h2 h3
/-- All that is learned up to a line where a trace is checked, holds wherever the clauses do. -/
theorem learn_sound {cs : List (List Int)} {T : Trace20} (hcs : ∀ L ∈ cs, Six L) (hT : ∀ x ∈ T, SixP x.2) {n : Nat} (hn : n ≤ T.length) (hf : ∀ j L, j < n → T[j]? = some (false, L) → fol (cs ++ learnT (T.take j)) L = true) {b : Nat} (hh : ∀ L ∈ cs, holdsV b L = true) :
    ∀ k, k ≤ n → ∀ L ∈ learnT (T.take k), holdsV b L = true := by
  intro k
  induction k with
  | zero => intro _ L hL; simp [learnT] at hL
  | succ k ih =>
    intro hk L hL
    have hlt : k < T.length := by omega
    have hx : T[k]? = some T[k] := List.getElem?_eq_getElem hlt
    generalize hdl : T[k] = dl at hx
    obtain ⟨d, M⟩ := dl
    rw [learnT_succ hx] at hL
    have ih' := ih (by omega)
    unfold stepT at hL
    cases d with
    | true => exact ih' L (without_mem hL)
    | false =>
      rcases List.mem_append.1 hL with hL | hL
      · exact ih' L hL
      · rw [List.mem_singleton.1 hL]
        have hTk : ∀ x ∈ T.take k, SixP x.2 := fun x hx => hT x (List.mem_of_mem_take hx)
        refine fol_sound (fun N hN => ?_) (hT _ (List.mem_of_getElem? hx)).six (hf k M (by omega) hx) fun N hN => ?_
        · rcases List.mem_append.1 hN with h | h
          · exact hcs N h
          · exact (learn_six hTk N h).six
        · rcases List.mem_append.1 hN with h | h
          · exact hh N h
          · exact ih' N h
theorem models_eq {cs ds : List (List Int)} (h : ∀ b, (∀ L ∈ cs, holdsV b L = true) ↔ ∀ L ∈ ds, holdsV b L = true) : modelsV cs = modelsV ds := by
  unfold modelsV
  congr 1
  refine List.filter_congr fun b _ => ?_
  have := h b
  cases h1 : cs.all (holdsV b) with
  | true =>
    symm
    rw [List.all_eq_true] at h1 ⊢
    exact this.1 h1
  | false =>
    cases h2 : ds.all (holdsV b) with
    | false => rfl
    | true =>
      rw [List.all_eq_true] at h2
      rw [List.all_eq_true.2 (this.2 h2)] at h1
      cases h1
theorem models_app {cs ds : List (List Int)} (h : ∀ b, (∀ L ∈ cs, holdsV b L = true) → ∀ L ∈ ds, holdsV b L = true) : modelsV (cs ++ ds) = modelsV cs :=
  models_eq fun b => ⟨fun g L hL => g L (List.mem_append_left _ hL), fun g L hL => by
    rcases List.mem_append.1 hL with h' | h'
    · exact g L h'
    · exact h b g L h'⟩
theorem models_zero {cs : List (List Int)} (h : ∀ b, ¬ ∀ L ∈ cs, holdsV b L = true) : modelsV cs = 0 := by
  unfold modelsV
  rw [List.length_eq_zero_iff, List.filter_eq_nil_iff]
  intro b _ hb
  rw [List.all_eq_true] at hb
  exact h b hb
end Go.Proofs.Ytilhhmkdcoajnaa.Am

/- The arguments of the laws of layer 20, at the door; conditions: none. -/
set_option linter.unusedVariables false
set_option linter.unusedSimpArgs false
namespace Go.Proofs.Ytilhhmkdcoajnaa.Am
open Go Go.Proofs

theorem co3 : Try.prog.cellsOf 3 = 1 := by kernel_rfl
theorem co4 : Try.prog.cellsOf 4 = 1 := by kernel_rfl
theorem co5 : Try.prog.cellsOf 5 = 1 := by kernel_rfl
theorem co23 : Try.prog.cellsOf 23 = 1 := by kernel_rfl
theorem co76 : Try.prog.cellsOf 76 = 1 := by kernel_rfl
theorem co77 : Try.prog.cellsOf 77 = 1 := by kernel_rfl
theorem co79 : Try.prog.cellsOf 79 = 3 := by kernel_rfl

section
variable {H : Type} {enc : TypeId × Value → H} {w : World} {held : Bool}
theorem wf_i8 {n : Int} (h : (Lit.int .i8 n).wf = true) : i8 n := by
  simp only [Lit.wf, Bool.and_eq_true, decide_eq_true_eq] at h
  exact h
theorem wf_u8 {n : Int} (h : (Lit.int .u8 n).wf = true) : u8 n := by
  simp only [Lit.wf, Bool.and_eq_true, decide_eq_true_eq] at h
  exact h
theorem wf_i64 {n : Int} (h : (Lit.int .i64 n).wf = true) : i64 n := by
  simp only [Lit.wf, Bool.and_eq_true, decide_eq_true_eq] at h
  have h1 : -9223372036854775808 ≤ n := h.1
  have h2 : n ≤ 9223372036854775807 := h.2
  exact ⟨h1, by omega⟩

/-! ### Numbers -/
def pNum (f : Int → AV) (q : Int → Prop) (_ : ASt) (us : List AV) (x : Int) : Prop := us = [f x] ∧ q x
theorem pNum_old (f : Int → AV) (q : Int → Prop) (s s' : ASt) (us : List AV) (x : Int) (h : pNum f q s us x) (_ : Old s.next s s') : pNum f q s' us x := h
theorem enter_num {t : TypeId} {k : IntKind} (ht : Try.prog.underlying t = some (.int k)) {q : Int → Prop} (hq : ∀ n, (Lit.int k n).wf = true → q n) (n : Nat) (cs : List Value) (y : DataW H × List MemPlace)
    (h : DataW.trod enc Try.prog w 0 (fun _ => true) held n t cs = some y) (ρ : Rho) (s : ASt) (hd : Door Try.prog w ρ s) : Enter Try.prog w (pNum (fun n => .int k n) q) cs ρ s := by
  obtain ⟨m, rfl, _, h3⟩ := DataW.trod_int ht h
  exact ⟨ρ, s, [.int k m], m, hd, Rho.le_refl ρ, Old.refl _ _, .cons (.int k m) .nil, rfl, hq m h3⟩

theorem enter_nums {t e : TypeId} {k : IntKind} (ht : Try.prog.underlying t = some (.slice e)) (he : Try.prog.underlying e = some (.int k)) (hc : Try.prog.cellsOf e = 1) {q : Int → Prop} (hq : ∀ n, (Lit.int k n).wf = true → q n) {n : Nat} {cs : List Value} {y : DataW H × List MemPlace}
    (h : DataW.trod enc Try.prog w 0 (fun _ => true) held n t cs = some y) (hw : ∀ a, cs = [.slice (some a) 0 0] → 0 < w.heap.size) {ρ : Rho} {s : ASt} (hd : Door Try.prog w ρ s) : Enter Try.prog w (SliceIn (pNum (fun n => .int k n) q) 1) cs ρ s :=
  enter_slice (pNum_old _ _) ht hc (by decide) (fun _ n cs y h _ => enter_num he hq n cs y h) h hw hd
theorem sliceIn_at {f : Int → AV} {q : Int → Prop} {s : ASt} {us : List AV} {L : List Int} (h : SliceIn (pNum f q) 1 s us L) : ∃ u, us = [u] ∧ SliceAt s.next s u (L.map f) ∧ (∀ x ∈ L, q x) ∧ L.length < 9223372036854775808 := by
  obtain ⟨a, cap, rfl, hl, h2⟩ := h
  have hm : maxLen = 9223372036854775807 := rfl
  refine ⟨_, rfl, ⟨a, cap, by rw [List.length_map], fun k u hk => ?_⟩, fun x hx => ?_, by omega⟩
  · rw [List.getElem?_map] at hk
    cases hx : L[k]? with
    | none => rw [hx] at hk; cases hk
    | some x =>
      rw [hx] at hk
      injection hk with hk
      subst hk
      obtain ⟨i, o, vs, g1, g2, g3, g4, g5, g6⟩ := h2 k x hx
      subst g5
      exact ⟨i, o, g1, g2, by simpa using g4 0 (f x) rfl⟩
  · obtain ⟨k, hk⟩ := List.mem_iff_getElem?.1 hx
    obtain ⟨i, o, vs, g1, g2, g3, g4, g5, g6⟩ := h2 k x hk
    exact g6

set_option maxRecDepth 16000
/-- Rows of numbers. -/
theorem enter_rows {t e e' : TypeId} {k : IntKind} (ht : Try.prog.underlying t = some (.slice e)) (hte : Try.prog.underlying e = some (.slice e')) (he : Try.prog.underlying e' = some (.int k)) (hce : Try.prog.cellsOf e = 1) (hc : Try.prog.cellsOf e' = 1) {q : Int → Prop} (hq : ∀ n, (Lit.int k n).wf = true → q n) {n : Nat} {cs : List Value} {y : DataW H × List MemPlace}
    (h : DataW.trod enc Try.prog w 0 (fun _ => true) held n t cs = some y) (hw : ∀ a, cs = [.slice (some a) 0 0] → 0 < w.heap.size) {ρ : Rho} {s : ASt} (hd : Door Try.prog w ρ s) : Enter Try.prog w (SliceIn (SliceIn (pNum (fun n => .int k n) q) 1) 1) cs ρ s :=
  enter_slice (SliceIn.old (pNum_old _ _)) ht hce (by decide) (fun hw n cs y h _ ρ s hd => enter_nums hte he hc hq h (fun _ _ => hw) hd) h hw hd
theorem rowsIn_at {f : Int → AV} {q : Int → Prop} {s : ASt} {us : List AV} {ls : List (List Int)} (h : SliceIn (SliceIn (pNum f q) 1) 1 s us ls) :
    ∃ a cap, us = [.slice a ls.length cap] ∧ (∀ k L, ls[k]? = some L → ∃ i o u, a = some (i, o) ∧ i < s.next ∧ load1 s i (o + k) = some u ∧ SliceAt s.next s u (L.map f)) ∧ (∀ L ∈ ls, (∀ x ∈ L, q x) ∧ L.length < 9223372036854775808) ∧ ls.length < 9223372036854775808 := by
  obtain ⟨a, cap, rfl, hl, h2⟩ := h
  have hm : maxLen = 9223372036854775807 := rfl
  refine ⟨a, cap, rfl, fun k L hk => ?_, fun L hL => ?_, by omega⟩
  · obtain ⟨i, o, vs, g1, g2, g3, g4, g5⟩ := h2 k L hk
    obtain ⟨u, rfl, k2, k3, k4⟩ := sliceIn_at g5
    exact ⟨i, o, u, g1, g2, by simpa using g4 0 u rfl, k2⟩
  · obtain ⟨k, hk⟩ := List.mem_iff_getElem?.1 hL
    obtain ⟨i, o, vs, g1, g2, g3, g4, g5⟩ := h2 k L hk
    obtain ⟨u, _, _, k3, k4⟩ := sliceIn_at g5
    exact ⟨k3, k4⟩

/-! ### Steps -/
def pStep (s : ASt) (us : List AV) (x : Step20) : Prop := ∃ u, us = [.bool x.1, .int .u8 x.2.1, u] ∧ u8 x.2.1 ∧ SliceIn (pNum i8v i8) 1 s [u] x.2.2
theorem pStep_old (s s' : ASt) (us : List AV) (x : Step20) (h : pStep s us x) (k : Old s.next s s') : pStep s' us x := by
  obtain ⟨u, h1, h2, h3⟩ := h
  exact ⟨u, h1, h2, SliceIn.old (pNum_old _ _) s s' _ _ h3 k⟩
theorem enter_step (hw : 0 < w.heap.size) (n : Nat) (cs : List Value) (y : DataW H × List MemPlace) (h : DataW.trod enc Try.prog w 0 (fun _ => true) held n 79 cs = some y) (ρ : Rho) (s : ASt) (hd : Door Try.prog w ρ s) : Enter Try.prog w pStep cs ρ s := by
  obtain ⟨xs, m, rfl, _, h3, h4, h5⟩ := DataW.trod_struct Try.underlying79 h
  rw [co79] at h3
  have h4 : xs.length = 3 := h4
  match cs, h3 with
  | [c0, c1, c2], _ =>
    have e0 : DataW.trod enc Try.prog w 0 (fun _ => true) held m 4 (([c0, c1, c2].drop 0).take (Try.prog.cellsOf 4)) = xs[0]? := h5 0 _ rfl
    have e1 : DataW.trod enc Try.prog w 0 (fun _ => true) held m 5 (([c0, c1, c2].drop 1).take (Try.prog.cellsOf 5)) = xs[1]? := h5 1 _ rfl
    have e2 : DataW.trod enc Try.prog w 0 (fun _ => true) held m 76 (([c0, c1, c2].drop 2).take (Try.prog.cellsOf 76)) = xs[2]? := h5 2 _ rfl
    rw [co4] at e0
    rw [co5] at e1
    rw [co76] at e2
    rw [List.getElem?_eq_getElem (show 0 < xs.length by omega)] at e0
    rw [List.getElem?_eq_getElem (show 1 < xs.length by omega)] at e1
    rw [List.getElem?_eq_getElem (show 2 < xs.length by omega)] at e2
    obtain ⟨d, q0, _⟩ := DataW.trod_bool Try.underlying4 e0
    obtain ⟨wh, q1, _, q1'⟩ := DataW.trod_int Try.underlying5 e1
    injection q0 with q0
    injection q1 with q1
    subst q0; subst q1
    obtain ⟨ρ', s', us, L, g1, g2, g3, g4, g5⟩ := enter_nums (q := i8) Try.underlying76 Try.underlying77 co77 (fun n h => wf_i8 h) e2 (fun _ _ => hw) hd
    obtain ⟨u, rfl, _⟩ := sliceIn_at g5
    exact ⟨ρ', s', [.bool d, .int .u8 wh, u], (d, wh, L), g1, g2, g3, .cons (.bool d) (.cons (.int .u8 wh) g4), u, rfl, wf_u8 q1', g5⟩
theorem enter_steps {n : Nat} {cs : List Value} {y : DataW H × List MemPlace} (h : DataW.trod enc Try.prog w 0 (fun _ => true) held n 31 cs = some y) (hw : ∀ a, cs = [.slice (some a) 0 0] → 0 < w.heap.size) {ρ : Rho} {s : ASt} (hd : Door Try.prog w ρ s) : Enter Try.prog w (SliceIn pStep 3) cs ρ s :=
  enter_slice pStep_old Try.underlying31 co79 (by decide) (fun hw n cs y h _ => enter_step hw n cs y h) h hw hd
theorem stepsIn_at {s : ASt} {us : List AV} {ss : List Step20} (h : SliceIn pStep 3 s us ss) : ∃ v, us = [v] ∧ StepsOf s.next s v ss ∧ (∀ x ∈ ss, u8 x.2.1 ∧ I8s x.2.2 ∧ x.2.2.length < 9223372036854775808) ∧ ss.length < 9223372036854775808 := by
  obtain ⟨a, cap, rfl, hl, h2⟩ := h
  have hm : maxLen = 9223372036854775807 := rfl
  refine ⟨_, rfl, ⟨a, cap, rfl, fun k d wh L hk => ?_⟩, fun x hx => ?_, by omega⟩
  · obtain ⟨i, o, vs, g1, g2, g3, g4, u, g5, g6, g7⟩ := h2 k _ hk
    subst g5
    obtain ⟨u', e, k2, k3, k4⟩ := sliceIn_at g7
    injection e with e
    subst e
    exact ⟨i, o, u, g1, g2, g4 0 _ rfl, g4 1 _ rfl, g4 2 _ rfl, k2⟩
  · obtain ⟨k, hk⟩ := List.mem_iff_getElem?.1 hx
    obtain ⟨i, o, vs, g1, g2, g3, g4, u, g5, g6, g7⟩ := h2 k _ hk
    obtain ⟨u', e, k2, k3, k4⟩ := sliceIn_at g7
    exact ⟨g6, k3, k4⟩

/-! ### The arguments -/
theorem size_pos {t e : TypeId} (ht : Try.prog.underlying t = some (.slice e)) {W : World} {base : Nat} {v : Value} (h : Value.okWide Try.prog W .any base t v) (a : Addr) (ha : v.cells.toList = [.slice (some a) 0 0]) : 0 < W.heap.size := by
  have hv : v = .slice (some a) 0 0 := by
    cases v with
    | agg cs =>
      simp [Value.okWide, ht, Cell.okWide, Cell.ok] at h
    | _ =>
      simp [Value.cells] at ha
      try (obtain ⟨e1, e2, e3⟩ := ha; rw [e1, e2, e3])
  subst hv
  simp only [Value.okWide, ht, Cell.okWide, Cell.ok] at h
  obtain ⟨_, _, _, _, row, cells, hs, _⟩ := h
  unfold World.shape? at hs
  cases hb : W.heap[a.block]? with
  | none => rw [hb] at hs; cases hs
  | some o =>
    rcases Nat.lt_or_ge a.block W.heap.size with h' | h'
    · omega
    · rw [Array.getElem?_eq_none h'] at hb; cases hb
theorem enter_two {W : World} {base : Nat} {v0 v1 : Value} (h0 : Value.okWide Try.prog W .any base 30 v0) (h1 : Value.okWide Try.prog W .any base 31 v1)
    {d0 d1 : DataW H} {p0 p1 : List MemPlace} (t0 : DataW.Trod enc Try.prog W 0 (fun _ => true) true 30 v0 d0 p0) (t1 : DataW.Trod enc Try.prog W 0 (fun _ => true) true 31 v1 d1 p1) :
    ∃ (ρ : Rho) (s : ASt) (a0 a1 : AV) (ls : List (List Int)) (ss : List Step20), Door Try.prog W ρ s ∧ VRels ρ [a0] v0.cells.toList ∧ VRels ρ [a1] v1.cells.toList ∧ Args20 s.next s a0 a1 ls ss := by
  obtain ⟨n0, t0⟩ := t0
  obtain ⟨n1, t1⟩ := t1
  obtain ⟨ρ1, s1, us1, ls, g1, g2, g3, g4, g5⟩ := enter_rows (q := i8) Try.underlying30 Try.underlying76 Try.underlying77 co76 co77 (fun n h => wf_i8 h) t0 (fun a ha => size_pos Try.underlying30 h0 a ha) (door0 Try.prog W)
  obtain ⟨ρ2, s2, us2, ss, k1, k2, k3, k4, k5⟩ := enter_steps t1 (fun a ha => size_pos Try.underlying31 h1 a ha) g1
  have g5 := SliceIn.old (SliceIn.old (pNum_old _ _)) s1 s2 _ _ g5 k3
  obtain ⟨a, cap, rfl, q1, q2, q3⟩ := rowsIn_at g5
  obtain ⟨v, rfl, r1, r2, r3⟩ := stepsIn_at k5
  exact ⟨ρ2, s2, _, v, ls, ss, k1, g4.mono k2, k4, Nat.le_refl _, q2, q3, r2, r3, ⟨a, cap, rfl, q1⟩, r1⟩
end
end Go.Proofs.Ytilhhmkdcoajnaa.Am

/- A law that the abstract machine is shown to run to 'true' from the memory at the door, in the model; conditions: none. -/
set_option linter.unusedVariables false
set_option linter.unusedSimpArgs false
set_option maxRecDepth 16000
namespace Go.Proofs.Ytilhhmkdcoajnaa.Am
open Go Go.Proofs

theorem call_true {W : World} {ρ : Rho} {s : ASt} {f : FuncId} {xs : List AV} {args : Array Value} (hd : Door Try.prog W ρ s) (ha : VRels ρ xs args.toList) (h : WF envW f xs (fun r _ => r = .bool true) s) :
    Calls Try.prog f args W fun e W' => e = .returned (.bool true) ∧ Kept W W' := by
  obtain ⟨n, p, h1, h2⟩ := h
  have := ((sim orders20 (noCount_of noCount20) rfl natW_ok n).call ρ s W f xs p.1 p.2 args h1 hd.inv hd.fresh ha).2
  refine callsIn_wide.1 (CallsIn.mono this ?_)
  intro e w' he
  cases e with
  | panicked c => exact he.elim
  | outgrown => exact he.elim
  | returned v' =>
    obtain ⟨ρ', k1, k2, k3⟩ := he
    rw [h2] at k1
    cases k1
    exact ⟨rfl, kept_of k3 hd.notOwned⟩

theorem arg_rel {t e : TypeId} (ht : Try.prog.underlying t = some (.slice e)) {W : World} {base : Nat} {v : Value} (h : Value.okWide Try.prog W .any base t v) {ρ : Rho} {a : AV} (hr : VRels ρ [a] v.cells.toList) : VRel ρ a v := by
  have hv : v.cells.toList = [v] := by
    cases v with
    | agg cs => simp [Value.okWide, ht, Cell.okWide, Cell.ok] at h
    | _ => rfl
  rw [hv] at hr
  cases hr with
  | cons h _ => exact h

theorem reads_again {H : Type} {enc : TypeId × Value → H} {P : Program} {t : TypeId} (hl : laidOutB P = true) (hr : P.readableRec t = true) (hrow : t < P.types.size) {W W' : World} {v : Value} {d : DataW H} {ps : List MemPlace} {sp : Nat → Bool}
    (h : DataW.Trod enc P W 0 (fun _ => true) true t v d ps) (hk : Kept W W') (hlt : ∀ x ∈ ps, x.block < W.heap.size) (hs : ∀ x ∈ ps, sp x.block = true) : DataW.Trod enc P W' 0 sp true t v d ps :=
  WideElems.Trod_stays hl hr hrow h (fun x hx => by
    have := hlt x hx
    cases x with
    | cell b o => exact World.cell?_of_block (w := W) (hk.heap b this)
    | map b => exact hk.heap b this) hs

theorem shares_true {H : Type} {enc : TypeId × Value → H} {W : World} {base : Nat} {v0 v1 : Value} (h0 : Value.okWide Try.prog W .any base 30 v0) (h1 : Value.okWide Try.prog W .any base 31 v1)
    {d0 d1 : DataW H} {p0 p1 : List MemPlace} (t0 : DataW.Trod enc Try.prog W 0 (fun _ => true) true 30 v0 d0 p0) (t1 : DataW.Trod enc Try.prog W 0 (fun _ => true) true 31 v1 d1 p1) :
    Calls Try.prog 6 #[v0, v1] W fun e W' => e = .returned (.bool true) ∧ Kept W W' := by
  obtain ⟨ρ, s, a0, a1, ls, ss, hd, r0, r1, hargs⟩ := enter_two h0 h1 t0 t1
  refine call_true hd (.cons (arg_rel Try.underlying30 h0 r0) (.cons (arg_rel Try.underlying31 h1 r1) .nil)) ?_
  refine shares_ok good_envW envW_works hargs (fol := fol) fun k L hk => ⟨_, fol_V (fun M hM => ?_) ((traceOf_six ss _ (List.mem_of_getElem? hk)).six.i64)⟩
  rcases List.mem_append.1 hM with h | h
  · exact (sixP_clauses M h).six.i64
  · exact (learn_six (fun x hx => traceOf_six ss x (List.mem_of_mem_take hx)) M h).six.i64
end Go.Proofs.Ytilhhmkdcoajnaa.Am

/- DrupSound, all of its run; conditions: the readings of the arguments. -/
set_option linter.unusedVariables false
set_option linter.unusedSimpArgs false
set_option maxRecDepth 16000
namespace Go.Proofs.Ytilhhmkdcoajnaa.Am
open Go Go.Proofs

/-- The first lines of a trace. -/
theorem trace_hi {s : ASt} {b : Nat} {v : AV} {T : Trace20} {us : List AV} {O : List Nat} (hd : Dest s v T.length 2 us O) (ht : TraceAt b s v T) {k : Nat} (hk : k ≤ T.length) :
    ∃ w, sliceOpnds Try.prog 33 false true false s [v, iv (k : Int)] = some w ∧ TraceAt b s w (T.take k) := by
  have hb : boundA (iv (k : Int)) T.length = some k := by simp [boundA, idxOf, natOf_nat, guardB, ble_of hk]
  obtain ⟨a, cap, hv, hc⟩ := ht
  have main : ∃ cap', sliceOpnds Try.prog 33 false true false s [v, iv (k : Int)] = some (.slice a k cap') := by
    rcases hd with ⟨a', e, rfl, h3, h4, h5⟩ | ⟨i, p, e, h6, h7⟩
    · rw [hv] at e
      injection e with e1 e2 e3
      subst e1; subst e3
      rw [hv]
      refine ⟨some T.length, ?_⟩
      show sliceA Try.prog s 33 (.slice a T.length (some T.length)) none (some (iv (k : Int))) none = _
      cases a with
      | none => simp only [sliceA, Try.underlying33, sz27, Option.bind_some, hb, Nat.sub_zero]
      | some io =>
        obtain ⟨i, o⟩ := io
        simp only [sliceA, Try.underlying33, sz27, Option.bind_some, hb, Nat.sub_zero]
        cases hbb : Nat.beq T.length 0 <;> rfl
    · rw [hv] at e
      injection e with e1 e2 e3
      subst e1; subst e3
      rcases h6.ex with ⟨e', _⟩ | ⟨_, q1, q2, q3, r, q4, q5, q6, q7, q8, q9⟩
      · rw [hv] at e'; cases e'
      · have hrn : r.n = T.length * 2 := by rw [q5.1, h6.len]
        have hrow : rowAt s i = some r := by simp [rowAt, q4]
        rw [hv]
        refine ⟨none, ?_⟩
        show sliceA Try.prog s 33 (.slice (some (i, 0)) T.length none) none (some (iv (k : Int))) none = _
        have hfar : (r.n - 0) / 2 = T.length := by omega
        simp only [sliceA, Try.underlying33, sz27, Option.bind_some, hrow, ble_of (Nat.zero_le r.n), q8, guardB, beq_of rfl, Bool.and_self, Bool.true_and, hfar, hb]
        rw [show Nat.beq 2 0 = false from rfl]
        simp only [Bool.not_false, cond_true, Option.bind_some, hfar, hb, Nat.sub_zero, Nat.zero_mul, Nat.add_zero]
  obtain ⟨cap', hm⟩ := main
  refine ⟨_, hm, a, cap', by rw [List.length_take, Nat.min_eq_left hk], fun j d L hj => ?_⟩
  refine hc j d L ?_
  rw [List.getElem?_take] at hj
  split at hj
  · exact hj
  · cases hj

theorem PlainT.take {T : Trace20} (h : PlainT T) (n : Nat) : PlainT (T.take n) := ⟨by have := h.1; simp; omega, fun x hx => h.2 x (List.mem_of_mem_take hx)⟩
theorem six_len {cs : List (List Int)} (h : ∀ L ∈ cs, SixP L) : ∀ L ∈ cs, Six L ∧ L.length ≤ 1000000 := fun L hL => ⟨(h L hL).six, by have := (h L hL).2; omega⟩

/-- The loop over all lines. -/
theorem sound_loop {E : Env} (hE : Good E) {B : Nat} {cl tr : AV} {us : List AV} {cs : List (List Int)} {T : Trace20} (hcs6 : ∀ L ∈ cs, SixP L) (hcl : cs.length ≤ 20) (hT6 : ∀ x ∈ T, SixP x.2) (hP : PlainT T) (v0 v1 v2 v5 v6 v9 v10 v11 : AV) {Q : ARes → Prop} :
    ∀ (m k : Nat) (s : ASt) (x12 x13 : AV), k + m = T.length → Set20 B s cl tr us cs T →
      (∀ s' y8 y12 y13, Q ⟨.exit 0, [v0, v1, v2, cl, tr, v5, v6, iv (modelsV cs : Int), y8, v9, v10, v11, y12, y13], [], s'⟩) →
      WC E none (.loop c5l15) Q [v0, v1, v2, cl, tr, v5, v6, iv (modelsV cs : Int), iv (k : Int), v9, v10, v11, x12, x13] [] s := by
  have hP1 := hP.1
  intro m
  induction m with
  | zero =>
    intro k s x12 x13 hm h hq
    have hk : k = T.length := by omega
    subst hk
    have hln : lenA Try.prog s 33 tr = some (iv (T.length : Int)) := by obtain ⟨a, cap, rfl, _⟩ := h.tr; exact len_slice Try.underlying33
    refine WC.loop' ?_
    simp only [c5l15, c5o11, hln, Int.lt_irrefl, decide_false, wpC, wpI, wpS, wpD, wpV, wanted_none, wanted_some, vals, cev_const, cev_var, cev_loc, padV, okV_some, againP, true_and, and_true, upd_zero, upd_succ, nth_zero, nth_succ, wpG_true, wpG_false, condK_true, condK_false, seqK_normal, seqK_ret, seqK_exit, inBlock_normal, inBlock_ret, inBlock_exit, ends_ret, ends_normal, unmark_nil, results_nil, results_cons, one_one, one_zero, one_two, isB_undef, isB_tt, isB_ff, Bool.not_true, Bool.not_false, Option.bind_some, pick3, pickA, extractA, List.getElem?_cons_zero, List.getElem?_cons_succ, bin_lss, bin_gtr, bin_leq, bin_geq, bin_eql, bin_neq, un_not]
    exact hq s _ _ _
  | succ m ih =>
    intro k s x12 x13 hm h hq
    have hlt : k < T.length := by omega
    have hx : T[k]? = some T[k] := List.getElem?_eq_getElem hlt
    generalize hdl : T[k] = dl at hx
    obtain ⟨d, L⟩ := dl
    have hL6 : SixP L := hT6 _ (List.mem_of_getElem? hx)
    have hkk : decide ((k : Int) < (T.length : Int)) = true := decide_eq_true (by omega)
    have e3 := bin_add Try.prog 3 (k : Int) 1 ⟨by omega, by omega⟩
    have hcast : ((k : Int) + 1) = ((k + 1 : Nat) : Int) := by omega
    have hln : lenA Try.prog s 33 tr = some (iv (T.length : Int)) := by obtain ⟨a, cap, rfl, _⟩ := h.tr; exact len_slice Try.underlying33
    obtain ⟨a, cap, htv, hc⟩ := h.tr
    obtain ⟨i, o, u, ha, hi, _, hl2, hu⟩ := hc k d L hx
    have e1 : indexAddrA Try.prog 33 tr (iv (k : Int)) = some (.ptr (some (i, o + k * 2))) := by rw [htv, ha]; exact idx_slice Try.underlying33 sz27 hlt
    have e2 : ∀ s', Old B s s' → loadV Try.prog s' 23 (.ptr (some (i, o + k * 2 + 1))) = some u := fun s' h' => load_one ag23 (by rw [load1_eq (h'.2 i hi)]; exact hl2)
    have hi64 : ∀ M ∈ cs, I64s M := fun M hM => (hcs6 M hM).six.i64
    have hfits : Fits cs := ⟨by omega, fun M hM => ⟨hi64 M hM, by have := (hcs6 M hM).2; omega⟩⟩
    have e20 := e2 s (Old.refl _ _)
    refine WC.loop' ?_
    generalize hW : WC E none (CCode.loop c5l15) Q = W
    simp only [c5l15, c5o11, c5o12, hln, hkk, e1, fa27_1, e20, wpC, wpI, wpS, wpD, wpV, wanted_none, wanted_some, vals, cev_const, cev_var, cev_loc, padV, okV_some, againP, true_and, and_true, upd_zero, upd_succ, nth_zero, nth_succ, wpG_true, wpG_false, condK_true, condK_false, seqK_normal, seqK_ret, seqK_exit, inBlock_normal, inBlock_ret, inBlock_exit, ends_ret, ends_normal, unmark_nil, results_nil, results_cons, one_one, one_zero, one_two, isB_undef, isB_tt, isB_ff, Bool.not_true, Bool.not_false, Option.bind_some, pick3, pickA, extractA, List.getElem?_cons_zero, List.getElem?_cons_succ, bin_lss, bin_gtr, bin_leq, bin_geq, bin_eql, bin_neq, un_not]
    refine (follows_ok hE hfits hL6.plain.1 (by have := hL6.2; omega) h.rowsOf (hu.mono h.le) (fol_V hi64 hL6.plain.1)).mono ?_
    rintro _ s1 ⟨rfl, ho1⟩
    have h1 : Set20 B s1 cl tr us cs T := h.old (ho1.1.mono h.le)
    have hn1 := ho1.1.1
    have hBn := h.le
    cases hf : fol cs L with
    | false =>
      simp only [c5o14, e3, hcast, wpC, wpI, wpS, wpD, wpV, wanted_none, wanted_some, vals, cev_const, cev_var, cev_loc, padV, okV_some, againP, true_and, and_true, upd_zero, upd_succ, nth_zero, nth_succ, wpG_true, wpG_false, condK_true, condK_false, seqK_normal, seqK_ret, seqK_exit, inBlock_normal, inBlock_ret, inBlock_exit, ends_ret, ends_normal, unmark_nil, results_nil, results_cons, one_one, one_zero, one_two, isB_undef, isB_tt, isB_ff, Bool.not_true, Bool.not_false, Option.bind_some, pick3, pickA, extractA, List.getElem?_cons_zero, List.getElem?_cons_succ, bin_lss, bin_gtr, bin_leq, bin_geq, bin_eql, bin_neq, un_not]
      rw [← hW]
      exact ih (k + 1) s1 _ _ (by omega) h1 hq
    | true =>
      obtain ⟨a', f1, f2, f3⟩ := h1.learn.full
      have hlen := h1.learn.len s1
      have hul : us.length ≤ 20 := by rw [h1.rows.1]; exact hcl
      have b1 := bld_one (P := Try.prog) (t := 22) (v := u) Try.underlying22 sz23 zr23 rfl hu.isCell.2
      have hms : ∀ (m : Nat) (i : Nat), Made.val i (.slice m) = .slice (some (i, 0)) m (some m) := fun _ _ => rfl
      obtain ⟨v', s2, O', p1, p2, p3, p4, p5, p6⟩ := push_row f2 (by omega) hu.isCell.1
      have ho2 : Old s1.next s1 s2 := ⟨p3, fun x hx => p4 x hx (fun h => by cases h)⟩
      have h2 : Set20 B s2 cl tr us cs T := h1.old (ho2.mono (by omega))
      have hu2 : SliceAt B s2 u (ivs L) := hu.old ((ho1.1.mono h.le).trans (ho2.mono (by omega))) (Nat.le_refl _)
      have hrows : RowsOf s2.next s2 v' (cs ++ [L]) := by
        have hd : Dest s2 v' (us ++ [u]).length 1 (us ++ [u]) O' := by simpa using p2
        exact mkRows hd.slice (h2.rows.append (RowCells.one hu2)) h2.le
      have e21 := e2 s1 (ho1.1.mono h.le)
      have hm6 : ∀ M ∈ cs ++ [L], SixP M := fun M hM => by
        rcases List.mem_append.1 hM with h | h
        · exact hcs6 M h
        · rw [List.mem_singleton.1 h]; exact hL6
      have hmod : modelsV (cs ++ [L]) = modelsV cs := models_app fun b hb M hM => by
        rw [List.mem_singleton.1 hM]
        exact fol_sound (fun N hN => (hcs6 N hN).six) hL6.six hf hb
      simp only [hlen, f1, e1, fa27_1, e21, b1, hms, p1, wpC, wpI, wpS, wpD, wpV, wanted_none, wanted_some, vals, cev_const, cev_var, cev_loc, padV, okV_some, againP, true_and, and_true, upd_zero, upd_succ, nth_zero, nth_succ, wpG_true, wpG_false, condK_true, condK_false, seqK_normal, seqK_ret, seqK_exit, inBlock_normal, inBlock_ret, inBlock_exit, ends_ret, ends_normal, unmark_nil, results_nil, results_cons, one_one, one_zero, one_two, isB_undef, isB_tt, isB_ff, Bool.not_true, Bool.not_false, Option.bind_some, pick3, pickA, extractA, List.getElem?_cons_zero, List.getElem?_cons_succ, bin_lss, bin_gtr, bin_leq, bin_geq, bin_eql, bin_neq, un_not]
      refine (models_ok hE (six_len hm6) (by simp; omega) hrows).mono ?_
      rintro _ _ ⟨rfl, rfl⟩
      rw [hmod]
      have hne : decide ((modelsV cs : Int) ≠ (modelsV cs : Int)) = false := decide_eq_false (fun h => h rfl)
      simp only [hne, c5o14, e3, hcast, wpC, wpI, wpS, wpD, wpV, wanted_none, wanted_some, vals, cev_const, cev_var, cev_loc, padV, okV_some, againP, true_and, and_true, upd_zero, upd_succ, nth_zero, nth_succ, wpG_true, wpG_false, condK_true, condK_false, seqK_normal, seqK_ret, seqK_exit, inBlock_normal, inBlock_ret, inBlock_exit, ends_ret, ends_normal, unmark_nil, results_nil, results_cons, one_one, one_zero, one_two, isB_undef, isB_tt, isB_ff, Bool.not_true, Bool.not_false, Option.bind_some, pick3, pickA, extractA, List.getElem?_cons_zero, List.getElem?_cons_succ, bin_lss, bin_gtr, bin_leq, bin_geq, bin_eql, bin_neq, un_not]
      rw [← hW]
      exact ih (k + 1) s2 _ _ (by omega) h2 hq

theorem fol_lines {cs : List (List Int)} {T : Trace20} (hc : ∀ L ∈ cs, SixP L) (hT : ∀ x ∈ T, SixP x.2) (k : Nat) (L : List Int) (hk : T[k]? = some (false, L)) :
    followsV ((cs ++ learnT (T.take k)).flatten.length + 1) (cs ++ learnT (T.take k)) L = some (fol (cs ++ learnT (T.take k)) L) := by
  refine fol_V (fun M hM => ?_) (hT _ (List.mem_of_getElem? hk)).six.i64
  rcases List.mem_append.1 hM with h | h
  · exact (hc M h).six.i64
  · exact (learn_six (fun x hx => hT x (List.mem_of_mem_take hx)) M h).six.i64
theorem clean_nil {L : List Int} (h : SixP L) (h0 : (cleanV [] L).length = 0) : L = [] := by
  cases L with
  | nil => rfl
  | cons x L =>
    have hx := h.1 x List.mem_cons_self
    have : x ∈ cleanV [] (x :: L) := (clean_mem h.six.i64 x).2 ⟨List.mem_cons_self, hx.2.2, by omega, by omega⟩
    rw [List.length_eq_zero_iff.1 h0] at this
    cases this

/-- DrupSound. -/
theorem sound_ok {E : Env} (hE : Good E) (hW : ∀ s, E.nat 21 [] s = some (.bool true, s)) {b : Nat} {s : ASt} {v0 v1 : AV} {ls : List (List Int)} {ss : List Step20} (h : Args20 b s v0 v1 ls ss) :
    WF E 5 [v0, v1] (fun r _ => r = .bool true) s := by
  have hP := traceOf_plain ss
  have hT6 := traceOf_six ss
  have hTl := traceOf_len ss
  have hcf := clausesV_fits ls
  have hc6 : ∀ L ∈ clausesV ls, SixP L := sixP_clauses
  have hcS : ∀ L ∈ clausesV ls, Six L := fun L hL => (hc6 L hL).six
  refine hE.go comp5 (by decide) rfl ?_
  simp only [c5, c5o0, c5o1, wpC, wpI, wpS, wpD, wpV, wanted_none, wanted_some, vals, cev_const, cev_var, cev_loc, padV, okV_some, againP, true_and, and_true, upd_zero, upd_succ, nth_zero, nth_succ, wpG_true, wpG_false, condK_true, condK_false, seqK_normal, seqK_ret, seqK_exit, inBlock_normal, inBlock_ret, inBlock_exit, ends_ret, ends_normal, unmark_nil, results_nil, results_cons, one_one, one_zero, one_two, isB_undef, isB_tt, isB_ff, Bool.not_true, Bool.not_false, Option.bind_some, pick3, pickA, extractA, List.getElem?_cons_zero, List.getElem?_cons_succ, bin_lss, bin_gtr, bin_leq, bin_geq, bin_eql, bin_neq, un_not]
  refine WF.nat (hW s) ?_
  simp only [Bool.not_true, c5o3, wpC, wpI, wpS, wpD, wpV, wanted_none, wanted_some, vals, cev_const, cev_var, cev_loc, padV, okV_some, againP, true_and, and_true, upd_zero, upd_succ, nth_zero, nth_succ, wpG_true, wpG_false, condK_true, condK_false, seqK_normal, seqK_ret, seqK_exit, inBlock_normal, inBlock_ret, inBlock_exit, ends_ret, ends_normal, unmark_nil, results_nil, results_cons, one_one, one_zero, one_two, isB_undef, isB_tt, isB_ff, Bool.not_true, Bool.not_false, Option.bind_some, pick3, pickA, extractA, List.getElem?_cons_zero, List.getElem?_cons_succ, bin_lss, bin_gtr, bin_leq, bin_geq, bin_eql, bin_neq, un_not]
  refine (setup1 hE h).mono ?_
  rintro cl s1 ⟨us, hm1⟩
  simp only [wpC, wpI, wpS, wpD, wpV, wanted_none, wanted_some, vals, cev_const, cev_var, cev_loc, padV, okV_some, againP, true_and, and_true, upd_zero, upd_succ, nth_zero, nth_succ, wpG_true, wpG_false, condK_true, condK_false, seqK_normal, seqK_ret, seqK_exit, inBlock_normal, inBlock_ret, inBlock_exit, ends_ret, ends_normal, unmark_nil, results_nil, results_cons, one_one, one_zero, one_two, isB_undef, isB_tt, isB_ff, Bool.not_true, Bool.not_false, Option.bind_some, pick3, pickA, extractA, List.getElem?_cons_zero, List.getElem?_cons_succ, bin_lss, bin_gtr, bin_leq, bin_geq, bin_eql, bin_neq, un_not]
  refine (setup2 hE hm1).mono ?_
  rintro tr s2 ⟨hs2, ho2⟩
  generalize traceOf ss = T at hP hT6 hTl hs2
  generalize clausesV ls = cs at hcf hc6 hcS hs2
  simp only [c5o4, wpC, wpI, wpS, wpD, wpV, wanted_none, wanted_some, vals, cev_const, cev_var, cev_loc, padV, okV_some, againP, true_and, and_true, upd_zero, upd_succ, nth_zero, nth_succ, wpG_true, wpG_false, condK_true, condK_false, seqK_normal, seqK_ret, seqK_exit, inBlock_normal, inBlock_ret, inBlock_exit, ends_ret, ends_normal, unmark_nil, results_nil, results_cons, one_one, one_zero, one_two, isB_undef, isB_tt, isB_ff, Bool.not_true, Bool.not_false, Option.bind_some, pick3, pickA, extractA, List.getElem?_cons_zero, List.getElem?_cons_succ, bin_lss, bin_gtr, bin_leq, bin_geq, bin_eql, bin_neq, un_not]
  refine (check_ok hE (b := s2.next) (Nat.le_refl _) hs2.slice hs2.rows hcf.1 hs2.tr hP (fol := fol) fun k L hk => ⟨_, fol_lines hc6 hT6 k L hk⟩).mono ?_
  rintro _ s3 ⟨rfl, ho3⟩
  obtain ⟨n, r, hnr⟩ : ∃ n r, checkV fol cs T = (n, r) := ⟨_, _, rfl⟩
  rw [hnr]
  obtain ⟨_, hn, hfo, hr⟩ := check_to T 0 rfl (Nat.zero_le _) n r hnr
  have k3 := hs2.old ho3
  simp only [c5o5, wpC, wpI, wpS, wpD, wpV, wanted_none, wanted_some, vals, cev_const, cev_var, cev_loc, padV, okV_some, againP, true_and, and_true, upd_zero, upd_succ, nth_zero, nth_succ, wpG_true, wpG_false, condK_true, condK_false, seqK_normal, seqK_ret, seqK_exit, inBlock_normal, inBlock_ret, inBlock_exit, ends_ret, ends_normal, unmark_nil, results_nil, results_cons, one_one, one_zero, one_two, isB_undef, isB_tt, isB_ff, Bool.not_true, Bool.not_false, Option.bind_some, pick3, pickA, extractA, List.getElem?_cons_zero, List.getElem?_cons_succ, bin_lss, bin_gtr, bin_leq, bin_geq, bin_eql, bin_neq, un_not]
  refine (models_ok hE (six_len hc6) (by have := hcf.2; omega) k3.rowsOf).mono ?_
  rintro _ _ ⟨rfl, rfl⟩
  have hln : ∀ s, lenA Try.prog s 33 tr = some (iv (T.length : Int)) := fun s => by obtain ⟨a, cap, rfl, _⟩ := hs2.tr; exact len_slice Try.underlying33
  have hlearn : ∀ b, (∀ L ∈ cs, holdsV b L = true) → ∀ L ∈ learnT (T.take n), holdsV b L = true := fun b hb => learn_sound hcS hT6 hn (fun j L hj hx => hfo j L (Nat.zero_le _) hj hx) hb n (Nat.le_refl _)
  have c0 : decide ((n : Int) < 0) = false := decide_eq_false (by omega)
  have c1 : decide ((T.length : Int) < (n : Int)) = false := decide_eq_false (by omega)
  have hT6n : ∀ x ∈ T.take n, SixP x.2 := fun x hx => hT6 x (List.mem_of_mem_take hx)
  -- the rest
  have rest : ∀ (x10 : AV), wpC E none (.seq (.seq (.ops c5o8) (.cond (.var 11) (.seq (.ops c5o9) .ret) .skip)) (.seq (.seq (.ops c5o10) (.block 0 (.loop c5l15))) (.seq (.ops c5o16) .ret))) (Ends Try.prog [((.var 2), none)] fun r _ => r = .bool true)
      [v0, v1, .bool false, cl, tr, iv (n : Int), .bool r, iv (modelsV cs : Int), undefA, .bool false, x10, undefA, undefA, undefA] [] s3 := by
    intro x10
    obtain ⟨us', O', htd⟩ := k3.tdest
    obtain ⟨w, hw1, hw2⟩ := trace_hi htd k3.tr hn
    simp only [c5o8, hw1, wpC, wpI, wpS, wpD, wpV, wanted_none, wanted_some, vals, cev_const, cev_var, cev_loc, padV, okV_some, againP, true_and, and_true, upd_zero, upd_succ, nth_zero, nth_succ, wpG_true, wpG_false, condK_true, condK_false, seqK_normal, seqK_ret, seqK_exit, inBlock_normal, inBlock_ret, inBlock_exit, ends_ret, ends_normal, unmark_nil, results_nil, results_cons, one_one, one_zero, one_two, isB_undef, isB_tt, isB_ff, Bool.not_true, Bool.not_false, Option.bind_some, pick3, pickA, extractA, List.getElem?_cons_zero, List.getElem?_cons_succ, bin_lss, bin_gtr, bin_leq, bin_geq, bin_eql, bin_neq, un_not]
    refine (left_ok hE (b := s2.next) k3.le k3.slice k3.rows hcf.1 hw2 (hP.take n)).mono ?_
    rintro lf s4 ⟨⟨us4, O4, hl4, _⟩, ho4⟩
    have k4 := k3.old (ho4.mono k3.le)
    simp only [wpC, wpI, wpS, wpD, wpV, wanted_none, wanted_some, vals, cev_const, cev_var, cev_loc, padV, okV_some, againP, true_and, and_true, upd_zero, upd_succ, nth_zero, nth_succ, wpG_true, wpG_false, condK_true, condK_false, seqK_normal, seqK_ret, seqK_exit, inBlock_normal, inBlock_ret, inBlock_exit, ends_ret, ends_normal, unmark_nil, results_nil, results_cons, one_one, one_zero, one_two, isB_undef, isB_tt, isB_ff, Bool.not_true, Bool.not_false, Option.bind_some, pick3, pickA, extractA, List.getElem?_cons_zero, List.getElem?_cons_succ, bin_lss, bin_gtr, bin_leq, bin_geq, bin_eql, bin_neq, un_not]
    have hm6 : ∀ M ∈ cs ++ learnT (T.take n), SixP M := fun M hM => by
      rcases List.mem_append.1 hM with h | h
      · exact hc6 M h
      · exact learn_six hT6n M h
    have hlen : (cs ++ learnT (T.take n)).length ≤ 1000000 := by
      have h1 := learnT_len (T := T.take n)
      have h2 := hcf.2
      simp at h1 ⊢
      omega
    refine (models_ok hE (six_len hm6) hlen hl4.rowsOf).mono ?_
    rintro _ _ ⟨rfl, rfl⟩
    rw [models_app hlearn]
    have hne : decide ((modelsV cs : Int) ≠ (modelsV cs : Int)) = false := decide_eq_false (fun h => h rfl)
    simp only [hne, c5o10, wpC, wpI, wpS, wpD, wpV, wanted_none, wanted_some, vals, cev_const, cev_var, cev_loc, padV, okV_some, againP, true_and, and_true, upd_zero, upd_succ, nth_zero, nth_succ, wpG_true, wpG_false, condK_true, condK_false, seqK_normal, seqK_ret, seqK_exit, inBlock_normal, inBlock_ret, inBlock_exit, ends_ret, ends_normal, unmark_nil, results_nil, results_cons, one_one, one_zero, one_two, isB_undef, isB_tt, isB_ff, Bool.not_true, Bool.not_false, Option.bind_some, pick3, pickA, extractA, List.getElem?_cons_zero, List.getElem?_cons_succ, bin_lss, bin_gtr, bin_leq, bin_geq, bin_eql, bin_neq, un_not]
    refine sound_loop hE hc6 hcf.2 hT6 hP _ _ _ _ _ _ _ _ T.length 0 s4 _ _ (by omega) k4 ?_
    intro s' y8 y12 y13
    simp only [if_true, c5o16, wpC, wpI, wpS, wpD, wpV, wanted_none, wanted_some, vals, cev_const, cev_var, cev_loc, padV, okV_some, againP, true_and, and_true, upd_zero, upd_succ, nth_zero, nth_succ, wpG_true, wpG_false, condK_true, condK_false, seqK_normal, seqK_ret, seqK_exit, inBlock_normal, inBlock_ret, inBlock_exit, ends_ret, ends_normal, unmark_nil, results_nil, results_cons, one_one, one_zero, one_two, isB_undef, isB_tt, isB_ff, Bool.not_true, Bool.not_false, Option.bind_some, pick3, pickA, extractA, List.getElem?_cons_zero, List.getElem?_cons_succ, bin_lss, bin_gtr, bin_leq, bin_geq, bin_eql, bin_neq, un_not]
  cases r with
  | false =>
    simp only [c5o6, c0, c1, hln, wpC, wpI, wpS, wpD, wpV, wanted_none, wanted_some, vals, cev_const, cev_var, cev_loc, padV, okV_some, againP, true_and, and_true, upd_zero, upd_succ, nth_zero, nth_succ, wpG_true, wpG_false, condK_true, condK_false, seqK_normal, seqK_ret, seqK_exit, inBlock_normal, inBlock_ret, inBlock_exit, ends_ret, ends_normal, unmark_nil, results_nil, results_cons, one_one, one_zero, one_two, isB_undef, isB_tt, isB_ff, Bool.not_true, Bool.not_false, Option.bind_some, pick3, pickA, extractA, List.getElem?_cons_zero, List.getElem?_cons_succ, bin_lss, bin_gtr, bin_leq, bin_geq, bin_eql, bin_neq, un_not]
    have := rest (.bool false)
    simp only [wpC, wpI, wpS, wpD, wpV, wanted_none, wanted_some, vals, cev_const, cev_var, cev_loc, padV, okV_some, againP, true_and, and_true, upd_zero, upd_succ, nth_zero, nth_succ, wpG_true, wpG_false, condK_true, condK_false, seqK_normal, seqK_ret, seqK_exit, inBlock_normal, inBlock_ret, inBlock_exit, ends_ret, ends_normal, unmark_nil, results_nil, results_cons, one_one, one_zero, one_two, isB_undef, isB_tt, isB_ff, Bool.not_true, Bool.not_false, Option.bind_some, pick3, pickA, extractA, List.getElem?_cons_zero, List.getElem?_cons_succ, bin_lss, bin_gtr, bin_leq, bin_geq, bin_eql, bin_neq, un_not] at this
    exact this
  | true =>
    obtain ⟨L, hx, hf, hcl⟩ := hr rfl
    have hL6 : SixP L := hT6 _ (List.mem_of_getElem? hx)
    have hL0 := clean_nil hL6 hcl
    subst hL0
    have hlt : n < T.length := lt_of_get hx
    have hz : modelsV cs = 0 := models_zero fun b hb => by
      have := fol_sound (b := b) (fun M hM => by
        rcases List.mem_append.1 hM with h | h
        · exact hcS M h
        · exact (learn_six hT6n M h).six) hL6.six hf (fun M hM => by
        rcases List.mem_append.1 hM with h | h
        · exact hb M h
        · exact hlearn b hb M h)
      cases this
    obtain ⟨a, cap, htv, hc⟩ := k3.tr
    obtain ⟨i, o, u, ha, hi, _, hl2, hu⟩ := hc n false [] hx
    have e1 : indexAddrA Try.prog 33 tr (iv (n : Int)) = some (.ptr (some (i, o + n * 2))) := by rw [htv, ha]; exact idx_slice Try.underlying33 sz27 hlt
    have e2 : loadV Try.prog s3 23 (.ptr (some (i, o + n * 2 + 1))) = some u := load_one ag23 hl2
    have e3 : lenA Try.prog s3 23 u = some (iv 0) := by obtain ⟨ua, uc, rfl, _⟩ := hu; exact len_slice Try.underlying23
    have c2 : decide ((0 : Int) < (modelsV cs : Int)) = false := decide_eq_false (by omega)
    have c3 : decide ((n : Int) = (T.length : Int)) = false := decide_eq_false (by omega)
    have c4 : decide ((0 : Int) < 0) = false := rfl
    simp only [c5o6, c0, c1, c2, c3, c4, hln, e1, fa27_1, e2, e3, wpC, wpI, wpS, wpD, wpV, wanted_none, wanted_some, vals, cev_const, cev_var, cev_loc, padV, okV_some, againP, true_and, and_true, upd_zero, upd_succ, nth_zero, nth_succ, wpG_true, wpG_false, condK_true, condK_false, seqK_normal, seqK_ret, seqK_exit, inBlock_normal, inBlock_ret, inBlock_exit, ends_ret, ends_normal, unmark_nil, results_nil, results_cons, one_one, one_zero, one_two, isB_undef, isB_tt, isB_ff, Bool.not_true, Bool.not_false, Option.bind_some, pick3, pickA, extractA, List.getElem?_cons_zero, List.getElem?_cons_succ, bin_lss, bin_gtr, bin_leq, bin_geq, bin_eql, bin_neq, un_not]
    have := rest (.bool false)
    simp only [wpC, wpI, wpS, wpD, wpV, wanted_none, wanted_some, vals, cev_const, cev_var, cev_loc, padV, okV_some, againP, true_and, and_true, upd_zero, upd_succ, nth_zero, nth_succ, wpG_true, wpG_false, condK_true, condK_false, seqK_normal, seqK_ret, seqK_exit, inBlock_normal, inBlock_ret, inBlock_exit, ends_ret, ends_normal, unmark_nil, results_nil, results_cons, one_one, one_zero, one_two, isB_undef, isB_tt, isB_ff, Bool.not_true, Bool.not_false, Option.bind_some, pick3, pickA, extractA, List.getElem?_cons_zero, List.getElem?_cons_succ, bin_lss, bin_gtr, bin_leq, bin_geq, bin_eql, bin_neq, un_not] at this
    exact this
end Go.Proofs.Ytilhhmkdcoajnaa.Am

/- DrupSound, in the model; conditions: none. -/
set_option linter.unusedVariables false
set_option linter.unusedSimpArgs false
set_option maxRecDepth 16000
namespace Go.Proofs.Ytilhhmkdcoajnaa.Am
open Go Go.Proofs

theorem sound_true {H : Type} {enc : TypeId × Value → H} {W : World} {base : Nat} {v0 v1 : Value} (h0 : Value.okWide Try.prog W .any base 30 v0) (h1 : Value.okWide Try.prog W .any base 31 v1)
    {d0 d1 : DataW H} {p0 p1 : List MemPlace} (t0 : DataW.Trod enc Try.prog W 0 (fun _ => true) true 30 v0 d0 p0) (t1 : DataW.Trod enc Try.prog W 0 (fun _ => true) true 31 v1 d1 p1) :
    Calls Try.prog 5 #[v0, v1] W fun e W' => e = .returned (.bool true) ∧ Kept W W' := by
  obtain ⟨ρ, s, a0, a1, ls, ss, hd, r0, r1, hargs⟩ := enter_two h0 h1 t0 t1
  exact call_true hd (.cons (arg_rel Try.underlying30 h0 r0) (.cons (arg_rel Try.underlying31 h1 r1) .nil)) (sound_ok good_envW envW_works hargs)
end Go.Proofs.Ytilhhmkdcoajnaa.Am
