/- The two checks whether a clause follows agree, end, and are sound: plain facts on lists, no program; conditions: the numbers fit. -/
import Derived.Test.YtilhhmkdcoajnaaAmM43
import Derived.Test.YtilhhmkdcoajnaaAmM36
import Derived.WideKeyArgs
set_option linter.unusedVariables false
set_option linter.unusedSimpArgs false
namespace Go.Proofs.Ytilhhmkdcoajnaa.Am
open Go Go.Proofs

def Lit (x : Int) : Prop := x ≠ 0 ∧ -9223372036854775808 < x ∧ x < 9223372036854775808
theorem Lit.neg {x : Int} (h : Lit x) : Lit (-x) := by obtain ⟨h1, h2, h3⟩ := h; exact ⟨by omega, by omega, by omega⟩
theorem lit_iff {x : Int} (h : i64 x) : nullV x = false ↔ Lit x := by
  obtain ⟨h1, h2⟩ := h
  unfold nullV Lit
  rw [decide_eq_false_iff_not]
  omega
theorem look_put (M : KMap) (k v j : Int) : look (putM M k v) j = if j = k then v else look M j := by
  induction M with
  | nil => simp only [putM, look]; by_cases h : k = j <;> by_cases h' : j = k <;> simp_all
  | cons p M ih =>
    obtain ⟨a, b⟩ := p
    simp only [putM]
    by_cases h : a = k
    · rw [if_pos h]
      simp only [look]
      by_cases h2 : a = j <;> by_cases h3 : j = k <;> simp_all
    · rw [if_neg h]
      simp only [look]
      by_cases h2 : a = j
      · rw [if_pos h2, if_pos h2, if_neg (by omega)]
      · rw [if_neg h2, if_neg h2, ih]
theorem signV_lit {x : Int} (h : Lit x) : (0 < x ∧ signV x = (x, 1)) ∨ (x < 0 ∧ signV x = (-x, -1)) := by
  obtain ⟨h1, h2, h3⟩ := h
  unfold signV
  by_cases hp : 0 < x
  · rw [if_pos hp]; exact .inl ⟨hp, rfl⟩
  · rw [if_neg hp, if_pos ⟨by omega, by omega⟩]; exact .inr ⟨by omega, rfl⟩
theorem ofV_null {M : KMap} {x : Int} (h : nullV x = true) : ofV M x = -1 := by
  unfold nullV at h
  rw [decide_eq_true_iff] at h
  have : signV x = (0, 0) := by
    unfold signV
    rcases h with rfl | rfl
    · rfl
    · rfl
  unfold ofV
  rw [this]; rfl
theorem ofV_lit {M : KMap} {x : Int} (h : Lit x) : ofV M x = if 0 < x then look M x else -look M (-x) := by
  unfold ofV
  rcases signV_lit h with ⟨h1, h2⟩ | ⟨h1, h2⟩
  · rw [h2, if_pos h1]; simp
  · rw [h2, if_neg (show ¬ 0 < x by omega)]; simp
theorem of_put {M : KMap} {x y : Int} (hx : Lit x) (hy : Lit y) : ofV (litPut M y) x = if x = y then 1 else if x = -y then -1 else ofV M x := by
  rw [ofV_lit hx, ofV_lit hx]
  unfold litPut
  have hx0 := hx.1
  have hy0 := hy.1
  rcases signV_lit hy with ⟨h1, h2⟩ | ⟨h1, h2⟩
  · rw [h2]
    simp only [look_put]
    by_cases hp : 0 < x
    · rw [if_pos hp, if_pos hp]
      by_cases he : x = y
      · rw [if_pos he, if_pos he]
      · rw [if_neg he, if_neg he, if_neg (by omega)]
    · rw [if_neg hp, if_neg hp, if_neg (show ¬ x = y by omega)]
      by_cases he : x = -y
      · rw [if_pos (show -x = y by omega), if_pos he]
      · rw [if_neg (show ¬ -x = y by omega), if_neg he]
  · rw [h2]
    simp only [look_put]
    by_cases hp : 0 < x
    · rw [if_pos hp, if_pos hp, if_neg (show ¬ x = y by omega)]
    · rw [if_neg hp, if_neg hp]
      by_cases he : x = y
      · rw [if_pos (show -x = -y by omega), if_pos he]; rfl
      · rw [if_neg (show ¬ -x = -y by omega), if_neg he, if_neg (show ¬ x = -y by omega)]

/-- The map and the list know the same. -/
structure RelK (M : KMap) (K : List Int) : Prop where
  pos : ∀ x, Lit x → (ofV M x = 1 ↔ x ∈ K)
  neg : ∀ x, Lit x → (ofV M x = -1 ↔ -x ∈ K)
  tri : ∀ x, Lit x → ofV M x = 1 ∨ ofV M x = 0 ∨ ofV M x = -1
  lits : ∀ x ∈ K, Lit x
theorem RelK.nil : RelK [] [] := by
  have : ∀ x, Lit x → ofV [] x = 0 := fun x hx => by rw [ofV_lit hx]; simp [look]
  exact ⟨fun x hx => by rw [this x hx]; simp, fun x hx => by rw [this x hx]; simp, fun x hx => .inr (.inl (this x hx)), fun x hx => by cases hx⟩
theorem RelK.con {M : KMap} {K : List Int} (h : RelK M K) {x : Int} (hx : x ∈ K) : -x ∉ K := fun hn => by
  have h1 := (h.pos x (h.lits x hx)).2 hx
  have h2 := (h.neg x (h.lits x hx)).2 hn
  omega
theorem RelK.put {M : KMap} {K : List Int} (h : RelK M K) {y : Int} (hy : Lit y) (hn : -y ∉ K) : RelK (litPut M y) (K ++ [y]) := by
  have hy0 := hy.1
  refine ⟨fun x hx => ?_, fun x hx => ?_, fun x hx => ?_, fun x hx => ?_⟩
  · rw [of_put hx hy, List.mem_append, List.mem_singleton]
    by_cases h1 : x = y
    · simp [h1]
    · rw [if_neg h1]
      by_cases h2 : x = -y
      · rw [if_pos h2]
        subst h2
        simp [hn, h1]
      · rw [if_neg h2, h.pos x hx]
        simp [h1]
  · rw [of_put hx hy, List.mem_append, List.mem_singleton]
    by_cases h1 : x = y
    · rw [if_pos h1]
      subst h1
      simp [hn]
      omega
    · rw [if_neg h1]
      by_cases h2 : x = -y
      · rw [if_pos h2]
        subst h2
        simp
      · rw [if_neg h2, h.neg x hx]
        have : ¬ -x = y := by omega
        simp [this]
  · rw [of_put hx hy]
    split
    · exact .inl rfl
    · split
      · exact .inr (.inr rfl)
      · exact h.tri x hx
  · rcases List.mem_append.1 hx with hx | hx
    · exact h.lits x hx
    · rw [List.mem_singleton.1 hx]; exact hy
theorem RelK.same {M : KMap} {K K' : List Int} (h : RelK M K) (he : ∀ z, z ∈ K' ↔ z ∈ K) : RelK M K' :=
  ⟨fun x hx => by rw [he]; exact h.pos x hx, fun x hx => by rw [he]; exact h.neg x hx, h.tri, fun x hx => h.lits x ((he x).1 hx)⟩

/-- May hold yet. -/
def Opn (K : List Int) (x : Int) : Prop := Lit x ∧ -x ∉ K ∧ x ∉ K

def UnitOk (M : KMap) (K L : List Int) (lit left : Int) : Prop :=
  ((unitV M L lit left).2 = 2 ∧ ((∃ x ∈ L, Lit x ∧ x ∈ K) ∨ ∃ x ∈ L, Opn K x ∧ ∃ y, (y ∈ L ∧ Opn K y ∨ left = 1 ∧ y = lit) ∧ x ≠ y)) ∨
  (unitV M L lit left = (lit, left) ∧ ∀ x ∈ L, Lit x → -x ∈ K ∨ (left = 1 ∧ x = lit)) ∨
  (left = 0 ∧ ∃ y, unitV M L lit left = (y, 1) ∧ y ∈ L ∧ Opn K y ∧ ∀ x ∈ L, Lit x → -x ∈ K ∨ x = y)
theorem unit_spec {M : KMap} {K : List Int} (h : RelK M K) : ∀ (L : List Int) (lit left : Int), I64s L → (left = 0 ∨ left = 1) → (left = 1 → Opn K lit) → UnitOk M K L lit left := by
  intro L
  induction L with
  | nil => intro lit left _ _ _; exact .inr (.inl ⟨rfl, fun x hx => by cases hx⟩)
  | cons x l ih =>
    intro lit left hL hl hop
    have hLl : I64s l := fun z hz => hL z (List.mem_cons_of_mem _ hz)
    have hxi := hL x List.mem_cons_self
    have skip : ofV M x < 0 ∨ (left = 1 ∧ x = lit) → ¬ 0 < ofV M x → (Lit x → -x ∈ K ∨ (left = 1 ∧ x = lit)) → UnitOk M K (x :: l) lit left := fun h1 h2 h3 => by
      have hu : unitV M (x :: l) lit left = unitV M l lit left := by simp only [unitV]; rw [if_neg h2, if_pos h1]
      unfold UnitOk
      rw [hu]
      rcases ih lit left hLl hl hop with ⟨g1, g2⟩ | ⟨g1, g2⟩ | ⟨g1, y, g2, g3, g4, g5⟩
      · refine .inl ⟨g1, ?_⟩
        rcases g2 with ⟨z, k1, k2⟩ | ⟨z, k1, k2, y, k3, k4⟩
        · exact .inl ⟨z, List.mem_cons_of_mem _ k1, k2⟩
        · exact .inr ⟨z, List.mem_cons_of_mem _ k1, k2, y, k3.imp (fun q => ⟨List.mem_cons_of_mem _ q.1, q.2⟩) id, k4⟩
      · refine .inr (.inl ⟨g1, fun z hz => ?_⟩)
        rcases List.mem_cons.1 hz with rfl | hz
        · exact h3
        · exact g2 z hz
      · refine .inr (.inr ⟨g1, y, g2, List.mem_cons_of_mem _ g3, g4, fun z hz hzl => ?_⟩)
        rcases List.mem_cons.1 hz with rfl | hz
        · rcases h3 hzl with q | q
          · exact .inl q
          · omega
        · exact g5 z hz hzl
    cases hnull : nullV x with
    | true =>
      have ho := ofV_null (M := M) hnull
      exact skip (.inl (by omega)) (by omega) (fun hx => by rw [(lit_iff hxi).2 hx] at hnull; cases hnull)
    | false =>
      have hx : Lit x := (lit_iff hxi).1 hnull
      rcases h.tri x hx with ho | ho | ho
      · refine .inl ⟨?_, .inl ⟨x, List.mem_cons_self, hx, (h.pos x hx).1 ho⟩⟩
        simp only [unitV]; rw [if_pos (by omega)]
      · have hox : Opn K x := ⟨hx, fun q => by have := (h.neg x hx).2 q; omega, fun q => by have := (h.pos x hx).2 q; omega⟩
        rcases hl with rfl | rfl
        · have hu : unitV M (x :: l) lit 0 = unitV M l x 1 := by simp only [unitV]; rw [if_neg (by omega), if_neg (by omega), if_neg (by omega)]; rfl
          unfold UnitOk
          rw [hu]
          rcases ih x 1 hLl (.inr rfl) (fun _ => hox) with ⟨g1, g2⟩ | ⟨g1, g2⟩ | ⟨g1, _⟩
          · refine .inl ⟨g1, ?_⟩
            rcases g2 with ⟨z, k1, k2⟩ | ⟨z, k1, k2, y, k3, k4⟩
            · exact .inl ⟨z, List.mem_cons_of_mem _ k1, k2⟩
            · refine .inr ⟨z, List.mem_cons_of_mem _ k1, k2, y, .inl ?_, k4⟩
              rcases k3 with q | ⟨_, rfl⟩
              · exact ⟨List.mem_cons_of_mem _ q.1, q.2⟩
              · exact ⟨List.mem_cons_self, hox⟩
          · refine .inr (.inr ⟨rfl, x, g1, List.mem_cons_self, hox, fun z hz hzl => ?_⟩)
            rcases List.mem_cons.1 hz with rfl | hz
            · exact .inr rfl
            · exact (g2 z hz hzl).imp id (fun q => q.2)
          · omega
        · by_cases he : x = lit
          · exact skip (.inr ⟨rfl, he⟩) (by omega) (fun _ => .inr ⟨rfl, he⟩)
          · refine .inl ⟨?_, .inr ⟨x, List.mem_cons_self, hox, lit, .inr ⟨rfl, rfl⟩, he⟩⟩
            simp only [unitV]; rw [if_neg (by omega), if_neg (by omega), if_pos (by omega)]
      · exact skip (.inl (by omega)) (by omega) (fun _ => .inl ((h.neg x hx).1 ho))

theorem clean_mem {L : List Int} (hL : I64s L) (z : Int) : z ∈ cleanV [] L ↔ z ∈ L ∧ Lit z := by
  rw [cleanV_mem']
  constructor
  · rintro (h | ⟨h1, h2⟩)
    · cases h
    · exact ⟨h1, (lit_iff (hL z h1)).1 h2⟩
  · rintro ⟨h1, h2⟩
    exact .inr ⟨h1, (lit_iff (hL z h1)).2 h2⟩
theorem open_mem {K L : List Int} (hL : I64s L) (z : Int) : z ∈ openR K (cleanV [] L) ↔ z ∈ L ∧ Lit z ∧ -z ∉ K := by
  unfold openR
  rw [List.mem_filter, clean_mem hL, decide_eq_true_iff, and_assoc]
theorem holds_iff {K L : List Int} (hL : I64s L) : holdsR K (cleanV [] L) = true ↔ ∃ x ∈ L, Lit x ∧ x ∈ K := by
  unfold holdsR
  rw [List.any_eq_true]
  constructor
  · rintro ⟨x, h1, h2⟩
    obtain ⟨h3, h4⟩ := (clean_mem hL x).1 h1
    exact ⟨x, h3, h4, by simpa using h2⟩
  · rintro ⟨x, h1, h2, h3⟩
    exact ⟨x, (clean_mem hL x).2 ⟨h1, h2⟩, by simpa using h3⟩
theorem rise_one {l : List Int} {y : Int} (hr : l.Pairwise (· < ·)) (hy : y ∈ l) (ha : ∀ z ∈ l, z = y) : l = [y] := by
  cases l with
  | nil => cases hy
  | cons a l =>
    have ha0 := ha a List.mem_cons_self
    subst ha0
    cases l with
    | nil => rfl
    | cons b l =>
      have hb := ha b (List.mem_cons_of_mem _ List.mem_cons_self)
      have := (List.pairwise_cons.1 hr).1 b List.mem_cons_self
      omega

theorem pass_same : ∀ (cs : List (List Int)) (M : KMap) (K : List Int) (more : Bool), RelK M K → (∀ L ∈ cs, I64s L) →
    (passV M cs more = none ∧ passR K cs more = none) ∨ ∃ M' K' m, passV M cs more = some (M', m) ∧ passR K cs more = some (K', m) ∧ RelK M' K' := by
  intro cs
  induction cs with
  | nil => intro M K more h _; exact .inr ⟨M, K, more, rfl, rfl, h⟩
  | cons L cs ih =>
    intro M K more h hcs
    have hL := hcs L List.mem_cons_self
    have hcs' : ∀ L ∈ cs, I64s L := fun L hL => hcs L (List.mem_cons_of_mem _ hL)
    rcases unit_spec h L 0 0 hL (.inl rfl) (fun e => by omega) with ⟨g1, g2⟩ | ⟨g1, g2⟩ | ⟨_, y, g1, g2, g3, g4⟩
    · have hv : passV M (L :: cs) more = passV M cs more := by simp only [passV]; rw [if_neg (by omega), if_neg (by omega)]
      have hr : passR K (L :: cs) more = passR K cs more := by
        simp only [passR]
        rcases g2 with ⟨x, k1, k2, k3⟩ | ⟨x, k1, k2, y, k3, k4⟩
        · have hh := (holds_iff (K := K) hL).2 ⟨x, k1, k2, k3⟩
          have hx : x ∈ openR K (cleanV [] L) := (open_mem hL x).2 ⟨k1, k2, h.con k3⟩
          split
          · rename_i e; rw [e] at hx; cases hx
          · rw [hh]; rfl
          · rfl
        · have hx : x ∈ openR K (cleanV [] L) := (open_mem hL x).2 ⟨k1, k2.1, k2.2.1⟩
          have hy : y ∈ openR K (cleanV [] L) := by
            rcases k3 with ⟨q1, q2⟩ | ⟨q, _⟩
            · exact (open_mem hL y).2 ⟨q1, q2.1, q2.2.1⟩
            · omega
          split
          · rename_i e; rw [e] at hx; cases hx
          · rename_i z e
            rw [e] at hx hy
            exact absurd ((List.mem_singleton.1 hx).trans (List.mem_singleton.1 hy).symm) k4
          · rfl
      rw [hv, hr]
      exact ih M K more h hcs'
    · refine .inl ⟨by simp only [passV]; rw [if_pos (by rw [g1])], ?_⟩
      have : openR K (cleanV [] L) = [] := by
        rw [List.eq_nil_iff_forall_not_mem]
        intro z hz
        obtain ⟨q1, q2, q3⟩ := (open_mem hL z).1 hz
        rcases g2 z q1 q2 with q | ⟨q, _⟩
        · exact q3 q
        · omega
      simp only [passR]
      rw [this]
    · have hv : passV M (L :: cs) more = passV (litPut M y) cs true := by simp only [passV]; rw [g1, if_neg (show ¬ ((1 : Int) = 0) by decide), if_pos rfl]
      have hop : openR K (cleanV [] L) = [y] := by
        refine rise_one ((cleanV_rise L List.Pairwise.nil).filter _) ((open_mem hL y).2 ⟨g2, g3.1, g3.2.1⟩) fun z hz => ?_
        obtain ⟨q1, q2, q3⟩ := (open_mem hL z).1 hz
        exact (g4 z q1 q2).resolve_left q3
      have hh : holdsR K (cleanV [] L) = false := by
        cases hb : holdsR K (cleanV [] L) with
        | false => rfl
        | true =>
          obtain ⟨x, k1, k2, k3⟩ := (holds_iff hL).1 hb
          rcases g4 x k1 k2 with q | q
          · exact absurd q (h.con k3)
          · subst q; exact absurd k3 g3.2.2
      have hr : passR K (L :: cs) more = passR (K ++ [y]) cs true := by simp only [passR]; rw [hop, hh]; rfl
      rw [hv, hr]
      exact ih _ _ true (h.put g3.1 g3.2.1) hcs'
theorem loop_same {cs : List (List Int)} (hcs : ∀ L ∈ cs, I64s L) : ∀ (n : Nat) (M : KMap) (K : List Int), RelK M K → loopV cs n M = loopR cs n K := by
  intro n
  induction n with
  | zero => intro M K _; rfl
  | succ n ih =>
    intro M K h
    simp only [loopV, loopR]
    rcases pass_same cs M K false h hcs with ⟨g1, g2⟩ | ⟨M', K', m, g1, g2, g3⟩
    · rw [g1, g2]
    · rw [g1, g2]
      cases m with
      | true => exact ih M' K' g3
      | false => rfl

theorem initV_spec : ∀ (c : List Int) (M : KMap) (K : List Int), RelK M K → I64s c →
    (initV M c = none ∧ ∃ x ∈ c, Lit x ∧ (x ∈ K ∨ -x ∈ c)) ∨ ∃ M' K', initV M c = some M' ∧ RelK M' K' ∧ ∀ z, z ∈ K' ↔ z ∈ K ∨ (Lit z ∧ -z ∈ c) := by
  intro c
  induction c with
  | nil => intro M K h _; exact .inr ⟨M, K, rfl, h, fun z => by simp⟩
  | cons x l ih =>
    intro M K h hc
    have hcl : I64s l := fun z hz => hc z (List.mem_cons_of_mem _ hz)
    have hxi := hc x List.mem_cons_self
    cases hnull : nullV x with
    | true =>
      have hs : (signV x).2 = 0 := by
        unfold nullV at hnull
        rw [decide_eq_true_iff] at hnull
        unfold signV
        rcases hnull with rfl | rfl <;> rfl
      have hi : initV M (x :: l) = initV M l := by simp only [initV]; rw [if_pos hs]
      have hnl : ¬ Lit x := fun q => by rw [(lit_iff hxi).2 q] at hnull; cases hnull
      rw [hi]
      rcases ih M K h hcl with ⟨g1, z, g2, g3, g4⟩ | ⟨M', K', g1, g2, g3⟩
      · exact .inl ⟨g1, z, List.mem_cons_of_mem _ g2, g3, g4.imp id (List.mem_cons_of_mem _)⟩
      · refine .inr ⟨M', K', g1, g2, fun z => ?_⟩
        rw [g3 z]
        constructor
        · exact fun q => q.imp id fun q => ⟨q.1, List.mem_cons_of_mem _ q.2⟩
        · rintro (q | ⟨q1, q2⟩)
          · exact .inl q
          · rcases List.mem_cons.1 q2 with q2 | q2
            · exact absurd (by rw [← q2]; exact q1.neg) hnl
            · exact .inr ⟨q1, q2⟩
    | false =>
      have hx : Lit x := (lit_iff hxi).1 hnull
      have hs : ¬ (signV x).2 = 0 := by rcases signV_lit hx with ⟨_, e⟩ | ⟨_, e⟩ <;> rw [e] <;> simp
      by_cases hp : 0 < ofV M x
      · refine .inl ⟨by simp only [initV]; rw [if_neg hs, if_pos hp], x, List.mem_cons_self, hx, .inl ?_⟩
        refine (h.pos x hx).1 ?_
        rcases h.tri x hx with q | q | q <;> omega
      · have hi : initV M (x :: l) = initV (litPut M (-x)) l := by simp only [initV]; rw [if_neg hs, if_neg hp]
        have hxk : x ∉ K := fun q => by have := (h.pos x hx).2 q; omega
        rw [hi]
        rcases ih (litPut M (-x)) (K ++ [-x]) (h.put hx.neg (by rw [Int.neg_neg]; exact hxk)) hcl with ⟨g1, z, g2, g3, g4⟩ | ⟨M', K', g1, g2, g3⟩
        · refine .inl ⟨g1, z, List.mem_cons_of_mem _ g2, g3, ?_⟩
          rcases g4 with q | q
          · rcases List.mem_append.1 q with q | q
            · exact .inl q
            · rw [List.mem_singleton.1 q, Int.neg_neg]; exact .inr List.mem_cons_self
          · exact .inr (List.mem_cons_of_mem _ q)
        · refine .inr ⟨M', K', g1, g2, fun z => ?_⟩
          rw [g3 z, List.mem_append, List.mem_singleton, List.mem_cons]
          constructor
          · rintro ((q | q) | ⟨q1, q2⟩)
            · exact .inl q
            · subst q; exact .inr ⟨hx.neg, .inl (by omega)⟩
            · exact .inr ⟨q1, .inr q2⟩
          · rintro (q | ⟨q1, q2 | q2⟩)
            · exact .inl (.inl q)
            · exact .inl (.inr (by omega))
            · exact .inr ⟨q1, q2⟩
theorem initR_spec (C : List Int) : ∀ (l K : List Int), (initR C K l = none ∧ ∃ x ∈ l, -x ∈ C) ∨ ((∀ x ∈ l, -x ∉ C) ∧ initR C K l = some (K ++ l.map (fun x => -x))) := by
  intro l
  induction l with
  | nil => intro K; exact .inr ⟨fun x hx => (by cases hx), by simp [initR]⟩
  | cons x l ih =>
    intro K
    by_cases h : -x ∈ C
    · exact .inl ⟨by simp [initR, h], x, List.mem_cons_self, h⟩
    · have hi : initR C K (x :: l) = initR C (K ++ [-x]) l := by simp [initR, h]
      rw [hi]
      rcases ih (K ++ [-x]) with ⟨g1, z, g2, g3⟩ | ⟨g1, g2⟩
      · exact .inl ⟨g1, z, List.mem_cons_of_mem _ g2, g3⟩
      · refine .inr ⟨fun z hz => ?_, by rw [g2]; simp⟩
        rcases List.mem_cons.1 hz with rfl | hz
        · exact h
        · exact g1 z hz
/-- Both checks, of the same fuel, answer alike. -/
theorem follows_same {cs : List (List Int)} (hcs : ∀ L ∈ cs, I64s L) {c : List Int} (hc : I64s c) (n : Nat) : followsV n cs c = followsR n cs c := by
  unfold followsV followsR
  rcases initV_spec c [] [] RelK.nil hc with ⟨g1, x, g2, g3, g4⟩ | ⟨M', K', g1, g2, g3⟩
  · rw [g1]
    have hx : -x ∈ c := g4.resolve_left (fun q => by cases q)
    rcases initR_spec (cleanV [] c) (cleanV [] c) [] with ⟨k1, _⟩ | ⟨k1, _⟩
    · rw [k1]
    · exact absurd ((clean_mem hc (-x)).2 ⟨hx, g3.neg⟩) (k1 x ((clean_mem hc x).2 ⟨g2, g3⟩))
  · rw [g1]
    rcases initR_spec (cleanV [] c) (cleanV [] c) [] with ⟨k1, x, k2, k3⟩ | ⟨k1, k2⟩
    · obtain ⟨q1, q2⟩ := (clean_mem hc x).1 k2
      obtain ⟨q3, q4⟩ := (clean_mem hc (-x)).1 k3
      have p1 : -x ∈ K' := (g3 (-x)).2 (.inr ⟨q4, by rw [Int.neg_neg]; exact q1⟩)
      have p2 : x ∈ K' := (g3 x).2 (.inr ⟨q2, q3⟩)
      exact absurd p1 (g2.con p2)
    · rw [k2]
      refine loop_same hcs n M' _ (g2.same fun z => ?_)
      rw [g3 z, List.nil_append, List.mem_map]
      constructor
      · rintro ⟨x, hx, rfl⟩
        obtain ⟨q1, q2⟩ := (clean_mem hc x).1 hx
        exact .inr ⟨q2.neg, by rw [Int.neg_neg]; exact q1⟩
      · rintro (q | ⟨q1, q2⟩)
        · cases q
        · exact ⟨-z, (clean_mem hc (-z)).2 ⟨q2, q1.neg⟩, Int.neg_neg z⟩
end Go.Proofs.Ytilhhmkdcoajnaa.Am

/- The check whether a clause follows ends, and is sound; what a trace has learned, follows: plain facts on lists, no program; conditions: literals of six variables, for soundness. -/
set_option linter.unusedVariables false
set_option linter.unusedSimpArgs false
namespace Go.Proofs.Ytilhhmkdcoajnaa.Am
open Go Go.Proofs

/-! ### It ends -/
theorem filter_lt {α : Type} {p q : α → Bool} (h : ∀ x, p x = true → q x = true) {y : α} (hq : q y = true) (hp : p y = false) : ∀ {l : List α}, y ∈ l → (l.filter p).length < (l.filter q).length := by
  have le : ∀ l : List α, (l.filter p).length ≤ (l.filter q).length := by
    intro l
    induction l with
    | nil => exact Nat.le_refl _
    | cons x l ih =>
      cases hx : p x with
      | true => rw [List.filter_cons_of_pos hx, List.filter_cons_of_pos (h x hx)]; simp only [List.length_cons]; omega
      | false =>
        rw [List.filter_cons_of_neg (by simp [hx])]
        cases hx' : q x with
        | true => rw [List.filter_cons_of_pos hx']; simp only [List.length_cons]; omega
        | false => rw [List.filter_cons_of_neg (by simp [hx'])]; exact ih
  intro l
  induction l with
  | nil => intro hy; cases hy
  | cons x l ih =>
    intro hy
    rcases List.mem_cons.1 hy with rfl | hy
    · rw [List.filter_cons_of_neg (by simp [hp]), List.filter_cons_of_pos hq]
      have := le l
      simp only [List.length_cons]
      omega
    · have := ih hy
      cases hx : p x with
      | true => rw [List.filter_cons_of_pos hx, List.filter_cons_of_pos (h x hx)]; simp only [List.length_cons]; omega
      | false =>
        rw [List.filter_cons_of_neg (by simp [hx])]
        cases hx' : q x with
        | true => rw [List.filter_cons_of_pos hx']; simp only [List.length_cons]; omega
        | false => rw [List.filter_cons_of_neg (by simp [hx'])]; exact this

theorem pass_more : ∀ (cs : List (List Int)) (K K' : List Int) (more m : Bool), (∀ L ∈ cs, I64s L) → passR K cs more = some (K', m) →
    (∀ z ∈ K, z ∈ K') ∧ (m = true → more = true ∨ ∃ y ∈ cs.flatten, y ∉ K ∧ y ∈ K') := by
  intro cs
  induction cs with
  | nil =>
    intro K K' more m _ h
    simp only [passR] at h
    injection h with h
    injection h with h1 h2
    subst h1; subst h2
    exact ⟨fun z hz => hz, fun h => .inl h⟩
  | cons L cs ih =>
    intro K K' more m hcs h
    have hL := hcs L List.mem_cons_self
    have hcs' : ∀ L ∈ cs, I64s L := fun L hL => hcs L (List.mem_cons_of_mem _ hL)
    have keep : passR K cs more = some (K', m) → _ := fun h => by
      obtain ⟨g1, g2⟩ := ih K K' more m hcs' h
      exact (⟨g1, fun hm => (g2 hm).imp id fun ⟨y, q1, q2⟩ => ⟨y, by rw [List.flatten_cons]; exact List.mem_append_right _ q1, q2⟩⟩ : (∀ z ∈ K, z ∈ K') ∧ (m = true → more = true ∨ ∃ y ∈ (L :: cs).flatten, y ∉ K ∧ y ∈ K'))
    simp only [passR] at h
    split at h
    · cases h
    · rename_i y e
      cases hh : holdsR K (cleanV [] L) with
      | true => rw [hh] at h; exact keep h
      | false =>
        rw [hh] at h
        have h : passR (K ++ [y]) cs true = some (K', m) := h
        obtain ⟨g1, _⟩ := ih (K ++ [y]) K' true m hcs' h
        have hy : y ∈ openR K (cleanV [] L) := by rw [e]; exact List.mem_cons_self
        obtain ⟨k1, k2, _⟩ := (open_mem hL y).1 hy
        refine ⟨fun z hz => g1 z (List.mem_append_left _ hz), fun _ => .inr ⟨y, by rw [List.flatten_cons]; exact List.mem_append_left _ k1, fun hyK => ?_, g1 y (List.mem_append_right _ List.mem_cons_self)⟩⟩
        rw [(holds_iff hL).2 ⟨y, k1, k2, hyK⟩] at hh
        cases hh
    · exact keep h
theorem loop_ends {cs : List (List Int)} (hcs : ∀ L ∈ cs, I64s L) : ∀ (n : Nat) (K : List Int), (cs.flatten.filter fun x => decide (x ∉ K)).length < n → ∃ b, loopR cs n K = some b := by
  intro n
  induction n with
  | zero => intro K h; omega
  | succ n ih =>
    intro K h
    simp only [loopR]
    cases hp : passR K cs false with
    | none => exact ⟨true, rfl⟩
    | some p =>
      obtain ⟨K', m⟩ := p
      cases m with
      | false => exact ⟨false, rfl⟩
      | true =>
        obtain ⟨g1, g2⟩ := pass_more cs K K' false true hcs hp
        obtain ⟨y, k1, k2, k3⟩ := (g2 rfl).resolve_left (by decide)
        refine ih K' ?_
        have := filter_lt (p := fun x => decide (x ∉ K')) (q := fun x => decide (x ∉ K)) (y := y) (fun x hx => by
          rw [decide_eq_true_iff] at hx ⊢
          exact fun q => hx (g1 x q)) (by rw [decide_eq_true_iff]; exact k2) (by rw [decide_eq_false_iff_not]; exact fun q => q k3) k1
        omega
/-- Does a clause follow? -/
def fol (cs : List (List Int)) (c : List Int) : Bool := (followsR (cs.flatten.length + 1) cs c).getD false
theorem fol_R {cs : List (List Int)} (hcs : ∀ L ∈ cs, I64s L) (c : List Int) : followsR (cs.flatten.length + 1) cs c = some (fol cs c) := by
  unfold fol
  have : ∃ b, followsR (cs.flatten.length + 1) cs c = some b := by
    unfold followsR
    split
    · exact ⟨true, rfl⟩
    · exact loop_ends hcs _ _ (Nat.lt_succ_of_le (List.length_filter_le _ _))
  obtain ⟨b, hb⟩ := this
  rw [hb]; rfl
theorem fol_V {cs : List (List Int)} (hcs : ∀ L ∈ cs, I64s L) {c : List Int} (hc : I64s c) : followsV (cs.flatten.length + 1) cs c = some (fol cs c) := by
  rw [follows_same hcs hc]
  exact fol_R hcs c
theorem flatten_le {cs : List (List Int)} {n : Nat} (h : ∀ L ∈ cs, L.length ≤ n) : cs.flatten.length ≤ cs.length * n := by
  induction cs with
  | nil => simp
  | cons L cs ih =>
    have h1 := h L List.mem_cons_self
    have h2 := ih fun M hM => h M (List.mem_cons_of_mem _ hM)
    rw [List.flatten_cons, List.length_append, List.length_cons, Nat.add_mul, Nat.one_mul]
    omega

/-! ### It is sound -/
theorem litV6_neg {b : Nat} {x : Int} (h : x ≠ 0) : litV6 b (-x) = !litV6 b x := by
  unfold litV6
  by_cases hp : 0 < x
  · rw [if_neg (by omega), if_pos (by omega), if_pos hp, Int.neg_neg]
  · rw [if_pos (by omega), if_neg hp, if_pos (by omega), Bool.not_not]
theorem holdsV_iff {b : Nat} {c : List Int} : holdsV b c = true ↔ ∃ x ∈ c, litV6 b x = true := by
  unfold holdsV
  rw [List.any_eq_true]
theorem litV6_lit {b : Nat} {x : Int} (h : litV6 b x = true) : x ≠ 0 := by
  rintro rfl
  simp [litV6] at h

theorem Six.i64 {L : List Int} (h : Six L) : I64s L := fun x hx => by have := h x hx; exact ⟨by omega, by omega⟩
theorem Six.lit {L : List Int} (h : Six L) {x : Int} (hx : x ∈ L) (h0 : x ≠ 0) : Lit x := by have := h x hx; exact ⟨h0, by omega, by omega⟩

theorem pass_sound {b : Nat} : ∀ (cs : List (List Int)) (K : List Int) (more : Bool), (∀ L ∈ cs, Six L) → (∀ L ∈ cs, holdsV b L = true) → (∀ z ∈ K, litV6 b z = true) →
    ∃ K' m, passR K cs more = some (K', m) ∧ ∀ z ∈ K', litV6 b z = true := by
  intro cs
  induction cs with
  | nil => intro K more _ _ hK; exact ⟨K, more, rfl, hK⟩
  | cons L cs ih =>
    intro K more hcs hh hK
    have hL6 := hcs L List.mem_cons_self
    have hL := hL6.i64
    have hcs' : ∀ L ∈ cs, Six L := fun L hL => hcs L (List.mem_cons_of_mem _ hL)
    have hh' : ∀ L ∈ cs, holdsV b L = true := fun L hL => hh L (List.mem_cons_of_mem _ hL)
    obtain ⟨x, hx1, hx2⟩ := holdsV_iff.1 (hh L List.mem_cons_self)
    have hx0 := litV6_lit hx2
    have hxo : x ∈ openR K (cleanV [] L) := (open_mem hL x).2 ⟨hx1, hL6.lit hx1 hx0, fun q => by
      have := hK (-x) q
      rw [litV6_neg hx0, hx2] at this
      cases this⟩
    simp only [passR]
    split
    · rename_i e; rw [e] at hxo; cases hxo
    · rename_i y e
      cases hr : holdsR K (cleanV [] L) with
      | true => exact ih K more hcs' hh' hK
      | false =>
        refine ih (K ++ [y]) true hcs' hh' fun z hz => ?_
        rcases List.mem_append.1 hz with hz | hz
        · exact hK z hz
        · rw [List.mem_singleton.1 hz]
          rw [e] at hxo
          rw [← List.mem_singleton.1 hxo]
          exact hx2
    · exact ih K more hcs' hh' hK
theorem loop_sound {b : Nat} {cs : List (List Int)} (hcs : ∀ L ∈ cs, Six L) (hh : ∀ L ∈ cs, holdsV b L = true) : ∀ (n : Nat) (K : List Int), (∀ z ∈ K, litV6 b z = true) → loopR cs n K ≠ some true := by
  intro n
  induction n with
  | zero => intro K _ h; cases h
  | succ n ih =>
    intro K hK
    obtain ⟨K', m, g1, g2⟩ := pass_sound cs K false hcs hh hK
    simp only [loopR]
    rw [g1]
    cases m with
    | true => exact ih K' g2
    | false => intro h; cases h
/-- What follows, holds wherever all clauses do. -/
theorem fol_sound {cs : List (List Int)} (hcs : ∀ L ∈ cs, Six L) {c : List Int} (hc : Six c) (hf : fol cs c = true) {b : Nat} (hh : ∀ L ∈ cs, holdsV b L = true) : holdsV b c = true := by
  cases hb : holdsV b c with
  | true => rfl
  | false =>
    have hno : ∀ x ∈ c, litV6 b x = false := fun x hx => by
      cases hl : litV6 b x with
      | false => rfl
      | true => rw [holdsV_iff.2 ⟨x, hx, hl⟩] at hb; cases hb
    have hR := fol_R (fun L hL => (hcs L hL).i64) c
    rw [hf] at hR
    unfold followsR at hR
    rcases initR_spec (cleanV [] c) (cleanV [] c) [] with ⟨k1, x, k2, k3⟩ | ⟨k1, k2⟩
    · obtain ⟨q1, q2⟩ := (clean_mem hc.i64 x).1 k2
      obtain ⟨q3, q4⟩ := (clean_mem hc.i64 (-x)).1 k3
      have h1 := hno x q1
      have h2 := hno (-x) q3
      rw [litV6_neg q2.1, h1] at h2
      cases h2
    · rw [k2] at hR
      refine absurd hR (loop_sound hcs hh _ _ fun z hz => ?_)
      rw [List.nil_append, List.mem_map] at hz
      obtain ⟨x, hx, rfl⟩ := hz
      obtain ⟨q1, q2⟩ := (clean_mem hc.i64 x).1 hx
      rw [litV6_neg q2.1, hno x q1]
      rfl

/-! ### A trace that is checked -/
theorem check_to {f : List (List Int) → List Int → Bool} {cs : List (List Int)} {T : Trace20} : ∀ (t : Trace20) (k : Nat), T.drop k = t → k ≤ T.length → ∀ n r, checkAt f cs T t k = (n, r) →
    k ≤ n ∧ n ≤ T.length ∧ (∀ j L, k ≤ j → j < n → T[j]? = some (false, L) → f (cs ++ learnT (T.take j)) L = true) ∧ (r = true → ∃ L, T[n]? = some (false, L) ∧ f (cs ++ learnT (T.take n)) L = true ∧ (cleanV [] L).length = 0) := by
  intro t
  induction t with
  | nil =>
    intro k hd hk n r h
    have := drop_end hd hk
    simp only [checkAt] at h
    injection h with h1 h2
    subst h1; subst h2
    exact ⟨hk, Nat.le_refl _, fun j L h1 h2 _ => by omega, fun h => by cases h⟩
  | cons x t ih =>
    intro k hd hk n r h
    obtain ⟨d, L⟩ := x
    obtain ⟨hlt, hx, hd'⟩ := drop_facts hd
    cases d with
    | true =>
      obtain ⟨g1, g2, g3, g4⟩ := ih (k + 1) hd' hlt n r h
      refine ⟨by omega, g2, fun j M h1 h2 h3 => ?_, g4⟩
      by_cases e : j = k
      · subst e; rw [hx] at h3; cases h3
      · exact g3 j M (by omega) h2 h3
    | false =>
      simp only [checkAt] at h
      cases hf : f (cs ++ learnT (T.take k)) L with
      | false =>
        rw [hf] at h
        injection h with h1 h2
        subst h1; subst h2
        exact ⟨Nat.le_refl _, by omega, fun j M h1 h2 _ => by omega, fun h => by cases h⟩
      | true =>
        rw [hf] at h
        simp only at h
        by_cases hc : (cleanV [] L).length = 0
        · rw [if_pos hc] at h
          injection h with h1 h2
          subst h1; subst h2
          exact ⟨Nat.le_refl _, by omega, fun j M h1 h2 _ => by omega, fun _ => ⟨L, hx, hf, hc⟩⟩
        · rw [if_neg hc] at h
          obtain ⟨g1, g2, g3, g4⟩ := ih (k + 1) hd' hlt n r h
          refine ⟨by omega, g2, fun j M h1 h2 h3 => ?_, g4⟩
          by_cases e : j = k
          · subst e
            rw [hx] at h3
            injection h3 with h3
            injection h3 with _ h3
            subst h3
            exact hf
          · exact g3 j M (by omega) h2 h3
/-- All that is learned up to a line where a trace is checked, holds wherever the clauses do. -/
theorem learn_sound {cs : List (List Int)} {T : Trace20} (hcs : ∀ L ∈ cs, Six L) (hT : ∀ x ∈ T, SixP x.2) {n : Nat} (hn : n ≤ T.length) (hf : ∀ j L, j < n → T[j]? = some (false, L) → fol (cs ++ learnT (T.take j)) L = true) {b : Nat} (hh : ∀ L ∈ cs, holdsV b L = true) :
    ∀ k, k ≤ n → ∀ L ∈ learnT (T.take k), holdsV b L = true := by
  intro k
  induction k with
  | zero => intro _ L hL; simp [learnT] at hL
  | succ k ih =>
    intro hk L hL
    have hlt : k < T.length := by omega
    have hx : T[k]? = some T[k] := List.getElem?_eq_getElem hlt
    generalize hdl : T[k] = dl at hx
    obtain ⟨d, M⟩ := dl
    rw [learnT_succ hx] at hL
    have ih' := ih (by omega)
    unfold stepT at hL
    cases d with
    | true => exact ih' L (without_mem hL)
    | false =>
      rcases List.mem_append.1 hL with hL | hL
      · exact ih' L hL
      · rw [List.mem_singleton.1 hL]
        have hTk : ∀ x ∈ T.take k, SixP x.2 := fun x hx => hT x (List.mem_of_mem_take hx)
        refine fol_sound (fun N hN => ?_) (hT _ (List.mem_of_getElem? hx)).six (hf k M (by omega) hx) fun N hN => ?_
        · rcases List.mem_append.1 hN with h | h
          · exact hcs N h
          · exact (learn_six hTk N h).six
        · rcases List.mem_append.1 hN with h | h
          · exact hh N h
          · exact ih' N h
theorem models_eq {cs ds : List (List Int)} (h : ∀ b, (∀ L ∈ cs, holdsV b L = true) ↔ ∀ L ∈ ds, holdsV b L = true) : modelsV cs = modelsV ds := by
  unfold modelsV
  congr 1
  refine List.filter_congr fun b _ => ?_
  have := h b
  cases h1 : cs.all (holdsV b) with
  | true =>
    symm
    rw [List.all_eq_true] at h1 ⊢
    exact this.1 h1
  | false =>
    cases h2 : ds.all (holdsV b) with
    | false => rfl
    | true =>
      rw [List.all_eq_true] at h2
      rw [List.all_eq_true.2 (this.2 h2)] at h1
      cases h1
theorem models_app {cs ds : List (List Int)} (h : ∀ b, (∀ L ∈ cs, holdsV b L = true) → ∀ L ∈ ds, holdsV b L = true) : modelsV (cs ++ ds) = modelsV cs :=
  models_eq fun b => ⟨fun g L hL => g L (List.mem_append_left _ hL), fun g L hL => by
    rcases List.mem_append.1 hL with h' | h'
    · exact g L h'
    · exact h b g L h'⟩
theorem models_zero {cs : List (List Int)} (h : ∀ b, ¬ ∀ L ∈ cs, holdsV b L = true) : modelsV cs = 0 := by
  unfold modelsV
  rw [List.length_eq_zero_iff, List.filter_eq_nil_iff]
  intro b _ hb
  rw [List.all_eq_true] at hb
  exact h b hb
end Go.Proofs.Ytilhhmkdcoajnaa.Am

/- The arguments of the laws of layer 20, at the door; conditions: none. -/
set_option linter.unusedVariables false
set_option linter.unusedSimpArgs false
namespace Go.Proofs.Ytilhhmkdcoajnaa.Am
open Go Go.Proofs

theorem co3 : Try.prog.cellsOf 3 = 1 := by kernel_rfl
theorem co4 : Try.prog.cellsOf 4 = 1 := by kernel_rfl
theorem co5 : Try.prog.cellsOf 5 = 1 := by kernel_rfl
theorem co23 : Try.prog.cellsOf 23 = 1 := by kernel_rfl
theorem co76 : Try.prog.cellsOf 76 = 1 := by kernel_rfl
theorem co77 : Try.prog.cellsOf 77 = 1 := by kernel_rfl
theorem co79 : Try.prog.cellsOf 79 = 3 := by kernel_rfl

section
variable {H : Type} {enc : TypeId × Value → H} {w : World} {held : Bool}
theorem wf_i8 {n : Int} (h : (Lit.int .i8 n).wf = true) : i8 n := by
  simp only [Lit.wf, Bool.and_eq_true, decide_eq_true_eq] at h
  exact h
theorem wf_u8 {n : Int} (h : (Lit.int .u8 n).wf = true) : u8 n := by
  simp only [Lit.wf, Bool.and_eq_true, decide_eq_true_eq] at h
  exact h
theorem wf_i64 {n : Int} (h : (Lit.int .i64 n).wf = true) : i64 n := by
  simp only [Lit.wf, Bool.and_eq_true, decide_eq_true_eq] at h
  have h1 : -9223372036854775808 ≤ n := h.1
  have h2 : n ≤ 9223372036854775807 := h.2
  exact ⟨h1, by omega⟩

/-! ### Numbers -/
def pNum (f : Int → AV) (q : Int → Prop) (_ : ASt) (us : List AV) (x : Int) : Prop := us = [f x] ∧ q x
theorem pNum_old (f : Int → AV) (q : Int → Prop) (s s' : ASt) (us : List AV) (x : Int) (h : pNum f q s us x) (_ : Old s.next s s') : pNum f q s' us x := h
theorem enter_num {t : TypeId} {k : IntKind} (ht : Try.prog.underlying t = some (.int k)) {q : Int → Prop} (hq : ∀ n, (Lit.int k n).wf = true → q n) (n : Nat) (cs : List Value) (y : DataW H × List MemPlace)
    (h : DataW.trod enc Try.prog w 0 (fun _ => true) held n t cs = some y) (ρ : Rho) (s : ASt) (hd : Door Try.prog w ρ s) : Enter Try.prog w (pNum (fun n => .int k n) q) cs ρ s := by
  obtain ⟨m, rfl, _, h3⟩ := DataW.trod_int ht h
  exact ⟨ρ, s, [.int k m], m, hd, Rho.le_refl ρ, Old.refl _ _, .cons (.int k m) .nil, rfl, hq m h3⟩

theorem enter_nums {t e : TypeId} {k : IntKind} (ht : Try.prog.underlying t = some (.slice e)) (he : Try.prog.underlying e = some (.int k)) (hc : Try.prog.cellsOf e = 1) {q : Int → Prop} (hq : ∀ n, (Lit.int k n).wf = true → q n) {n : Nat} {cs : List Value} {y : DataW H × List MemPlace}
    (h : DataW.trod enc Try.prog w 0 (fun _ => true) held n t cs = some y) (hw : ∀ a, cs = [.slice (some a) 0 0] → 0 < w.heap.size) {ρ : Rho} {s : ASt} (hd : Door Try.prog w ρ s) : Enter Try.prog w (SliceIn (pNum (fun n => .int k n) q) 1) cs ρ s :=
  enter_slice (pNum_old _ _) ht hc (by decide) (fun _ n cs y h _ => enter_num he hq n cs y h) h hw hd
theorem sliceIn_at {f : Int → AV} {q : Int → Prop} {s : ASt} {us : List AV} {L : List Int} (h : SliceIn (pNum f q) 1 s us L) : ∃ u, us = [u] ∧ SliceAt s.next s u (L.map f) ∧ (∀ x ∈ L, q x) ∧ L.length < 9223372036854775808 := by
  obtain ⟨a, cap, rfl, hl, hcap, h2⟩ := h
  have hm : maxLen = 9223372036854775807 := rfl
  refine ⟨_, rfl, ⟨a, cap, by rw [List.length_map], fun k u hk => ?_⟩, fun x hx => ?_, by omega⟩
  · rw [List.getElem?_map] at hk
    cases hx : L[k]? with
    | none => rw [hx] at hk; cases hk
    | some x =>
      rw [hx] at hk
      injection hk with hk
      subst hk
      obtain ⟨i, o, vs, g1, g2, g3, g4, g5, g6⟩ := h2 k x hx
      subst g5
      exact ⟨i, o, g1, g2, by simpa using g4 0 (f x) rfl⟩
  · obtain ⟨k, hk⟩ := List.mem_iff_getElem?.1 hx
    obtain ⟨i, o, vs, g1, g2, g3, g4, g5, g6⟩ := h2 k x hk
    exact g6

set_option maxRecDepth 16000
/-- Rows of numbers. -/
theorem enter_rows {t e e' : TypeId} {k : IntKind} (ht : Try.prog.underlying t = some (.slice e)) (hte : Try.prog.underlying e = some (.slice e')) (he : Try.prog.underlying e' = some (.int k)) (hce : Try.prog.cellsOf e = 1) (hc : Try.prog.cellsOf e' = 1) {q : Int → Prop} (hq : ∀ n, (Lit.int k n).wf = true → q n) {n : Nat} {cs : List Value} {y : DataW H × List MemPlace}
    (h : DataW.trod enc Try.prog w 0 (fun _ => true) held n t cs = some y) (hw : ∀ a, cs = [.slice (some a) 0 0] → 0 < w.heap.size) {ρ : Rho} {s : ASt} (hd : Door Try.prog w ρ s) : Enter Try.prog w (SliceIn (SliceIn (pNum (fun n => .int k n) q) 1) 1) cs ρ s :=
  enter_slice (SliceIn.old (pNum_old _ _)) ht hce (by decide) (fun hw n cs y h _ ρ s hd => enter_nums hte he hc hq h (fun _ _ => hw) hd) h hw hd
theorem rowsIn_at {f : Int → AV} {q : Int → Prop} {s : ASt} {us : List AV} {ls : List (List Int)} (h : SliceIn (SliceIn (pNum f q) 1) 1 s us ls) :
    ∃ a cap, us = [.slice a ls.length cap] ∧ (∀ k L, ls[k]? = some L → ∃ i o u, a = some (i, o) ∧ i < s.next ∧ load1 s i (o + k) = some u ∧ SliceAt s.next s u (L.map f)) ∧ (∀ L ∈ ls, (∀ x ∈ L, q x) ∧ L.length < 9223372036854775808) ∧ ls.length < 9223372036854775808 := by
  obtain ⟨a, cap, rfl, hl, hcap, h2⟩ := h
  have hm : maxLen = 9223372036854775807 := rfl
  refine ⟨a, cap, rfl, fun k L hk => ?_, fun L hL => ?_, by omega⟩
  · obtain ⟨i, o, vs, g1, g2, g3, g4, g5⟩ := h2 k L hk
    obtain ⟨u, rfl, k2, k3, k4⟩ := sliceIn_at g5
    exact ⟨i, o, u, g1, g2, by simpa using g4 0 u rfl, k2⟩
  · obtain ⟨k, hk⟩ := List.mem_iff_getElem?.1 hL
    obtain ⟨i, o, vs, g1, g2, g3, g4, g5⟩ := h2 k L hk
    obtain ⟨u, _, _, k3, k4⟩ := sliceIn_at g5
    exact ⟨k3, k4⟩

/-! ### Steps -/
def pStep (s : ASt) (us : List AV) (x : Step20) : Prop := ∃ u, us = [.bool x.1, .int .u8 x.2.1, u] ∧ u8 x.2.1 ∧ SliceIn (pNum i8v i8) 1 s [u] x.2.2
theorem pStep_old (s s' : ASt) (us : List AV) (x : Step20) (h : pStep s us x) (k : Old s.next s s') : pStep s' us x := by
  obtain ⟨u, h1, h2, h3⟩ := h
  exact ⟨u, h1, h2, SliceIn.old (pNum_old _ _) s s' _ _ h3 k⟩
theorem enter_step (hw : 0 < w.heap.size) (n : Nat) (cs : List Value) (y : DataW H × List MemPlace) (h : DataW.trod enc Try.prog w 0 (fun _ => true) held n 79 cs = some y) (ρ : Rho) (s : ASt) (hd : Door Try.prog w ρ s) : Enter Try.prog w pStep cs ρ s := by
  obtain ⟨xs, m, rfl, _, h3, h4, h5⟩ := DataW.trod_struct Try.underlying79 h
  rw [co79] at h3
  have h4 : xs.length = 3 := h4
  match cs, h3 with
  | [c0, c1, c2], _ =>
    have e0 : DataW.trod enc Try.prog w 0 (fun _ => true) held m 4 (([c0, c1, c2].drop 0).take (Try.prog.cellsOf 4)) = xs[0]? := h5 0 _ rfl
    have e1 : DataW.trod enc Try.prog w 0 (fun _ => true) held m 5 (([c0, c1, c2].drop 1).take (Try.prog.cellsOf 5)) = xs[1]? := h5 1 _ rfl
    have e2 : DataW.trod enc Try.prog w 0 (fun _ => true) held m 76 (([c0, c1, c2].drop 2).take (Try.prog.cellsOf 76)) = xs[2]? := h5 2 _ rfl
    rw [co4] at e0
    rw [co5] at e1
    rw [co76] at e2
    rw [List.getElem?_eq_getElem (show 0 < xs.length by omega)] at e0
    rw [List.getElem?_eq_getElem (show 1 < xs.length by omega)] at e1
    rw [List.getElem?_eq_getElem (show 2 < xs.length by omega)] at e2
    obtain ⟨d, q0, _⟩ := DataW.trod_bool Try.underlying4 e0
    obtain ⟨wh, q1, _, q1'⟩ := DataW.trod_int Try.underlying5 e1
    injection q0 with q0
    injection q1 with q1
    subst q0; subst q1
    obtain ⟨ρ', s', us, L, g1, g2, g3, g4, g5⟩ := enter_nums (q := i8) Try.underlying76 Try.underlying77 co77 (fun n h => wf_i8 h) e2 (fun _ _ => hw) hd
    obtain ⟨u, rfl, _⟩ := sliceIn_at g5
    exact ⟨ρ', s', [.bool d, .int .u8 wh, u], (d, wh, L), g1, g2, g3, .cons (.bool d) (.cons (.int .u8 wh) g4), u, rfl, wf_u8 q1', g5⟩
theorem enter_steps {n : Nat} {cs : List Value} {y : DataW H × List MemPlace} (h : DataW.trod enc Try.prog w 0 (fun _ => true) held n 31 cs = some y) (hw : ∀ a, cs = [.slice (some a) 0 0] → 0 < w.heap.size) {ρ : Rho} {s : ASt} (hd : Door Try.prog w ρ s) : Enter Try.prog w (SliceIn pStep 3) cs ρ s :=
  enter_slice pStep_old Try.underlying31 co79 (by decide) (fun hw n cs y h _ => enter_step hw n cs y h) h hw hd
theorem stepsIn_at {s : ASt} {us : List AV} {ss : List Step20} (h : SliceIn pStep 3 s us ss) : ∃ v, us = [v] ∧ StepsOf s.next s v ss ∧ (∀ x ∈ ss, u8 x.2.1 ∧ I8s x.2.2 ∧ x.2.2.length < 9223372036854775808) ∧ ss.length < 9223372036854775808 := by
  obtain ⟨a, cap, rfl, hl, hcap, h2⟩ := h
  have hm : maxLen = 9223372036854775807 := rfl
  refine ⟨_, rfl, ⟨a, cap, rfl, fun k d wh L hk => ?_⟩, fun x hx => ?_, by omega⟩
  · obtain ⟨i, o, vs, g1, g2, g3, g4, u, g5, g6, g7⟩ := h2 k _ hk
    subst g5
    obtain ⟨u', e, k2, k3, k4⟩ := sliceIn_at g7
    injection e with e
    subst e
    exact ⟨i, o, u, g1, g2, g4 0 _ rfl, g4 1 _ rfl, g4 2 _ rfl, k2⟩
  · obtain ⟨k, hk⟩ := List.mem_iff_getElem?.1 hx
    obtain ⟨i, o, vs, g1, g2, g3, g4, u, g5, g6, g7⟩ := h2 k _ hk
    obtain ⟨u', e, k2, k3, k4⟩ := sliceIn_at g7
    exact ⟨g6, k3, k4⟩

/-! ### The arguments -/
theorem size_pos {t e : TypeId} (ht : Try.prog.underlying t = some (.slice e)) {W : World} {base : Nat} {v : Value} (h : Value.okWide Try.prog W .any base t v) (a : Addr) (ha : v.cells.toList = [.slice (some a) 0 0]) : 0 < W.heap.size := by
  have hv : v = .slice (some a) 0 0 := by
    cases v with
    | agg cs =>
      simp [Value.okWide, ht, Cell.okWide, Cell.ok] at h
    | _ =>
      simp [Value.cells] at ha
      try (obtain ⟨e1, e2, e3⟩ := ha; rw [e1, e2, e3])
  subst hv
  simp only [Value.okWide, ht, Cell.okWide, Cell.ok] at h
  obtain ⟨_, _, _, _, row, cells, hs, _⟩ := h
  unfold World.shape? at hs
  cases hb : W.heap[a.block]? with
  | none => rw [hb] at hs; cases hs
  | some o =>
    rcases Nat.lt_or_ge a.block W.heap.size with h' | h'
    · omega
    · rw [Array.getElem?_eq_none h'] at hb; cases hb
theorem enter_two {W : World} {base : Nat} {v0 v1 : Value} (h0 : Value.okWide Try.prog W .any base 30 v0) (h1 : Value.okWide Try.prog W .any base 31 v1)
    {d0 d1 : DataW H} {p0 p1 : List MemPlace} (t0 : DataW.Trod enc Try.prog W 0 (fun _ => true) true 30 v0 d0 p0) (t1 : DataW.Trod enc Try.prog W 0 (fun _ => true) true 31 v1 d1 p1) :
    ∃ (ρ : Rho) (s : ASt) (a0 a1 : AV) (ls : List (List Int)) (ss : List Step20), Door Try.prog W ρ s ∧ VRels ρ [a0] v0.cells.toList ∧ VRels ρ [a1] v1.cells.toList ∧ Args20 s.next s a0 a1 ls ss := by
  obtain ⟨n0, t0⟩ := t0
  obtain ⟨n1, t1⟩ := t1
  obtain ⟨ρ1, s1, us1, ls, g1, g2, g3, g4, g5⟩ := enter_rows (q := i8) Try.underlying30 Try.underlying76 Try.underlying77 co76 co77 (fun n h => wf_i8 h) t0 (fun a ha => size_pos Try.underlying30 h0 a ha) (door0 Try.prog W)
  obtain ⟨ρ2, s2, us2, ss, k1, k2, k3, k4, k5⟩ := enter_steps t1 (fun a ha => size_pos Try.underlying31 h1 a ha) g1
  have g5 := SliceIn.old (SliceIn.old (pNum_old _ _)) s1 s2 _ _ g5 k3
  obtain ⟨a, cap, rfl, q1, q2, q3⟩ := rowsIn_at g5
  obtain ⟨v, rfl, r1, r2, r3⟩ := stepsIn_at k5
  exact ⟨ρ2, s2, _, v, ls, ss, k1, g4.mono k2, k4, Nat.le_refl _, q2, q3, r2, r3, ⟨a, cap, rfl, q1⟩, r1⟩
end
end Go.Proofs.Ytilhhmkdcoajnaa.Am

/- A law that the abstract machine is shown to run to 'true' from the memory at the door, in the model; conditions: none. -/
set_option linter.unusedVariables false
set_option linter.unusedSimpArgs false
set_option maxRecDepth 16000
namespace Go.Proofs.Ytilhhmkdcoajnaa.Am
open Go Go.Proofs

theorem call_true {W : World} {ρ : Rho} {s : ASt} {f : FuncId} {xs : List AV} {args : Array Value} (hd : Door Try.prog W ρ s) (ha : VRels ρ xs args.toList) (h : WF envW f xs (fun r _ => r = .bool true) s) :
    Calls Try.prog f args W fun e W' => e = .returned (.bool true) ∧ Kept W W' := by
  obtain ⟨n, p, h1, h2⟩ := h
  have := ((sim orders20 (noCount_of noCount20) rfl natW_ok n).call ρ s W f xs p.1 p.2 args h1 hd.inv hd.fresh ha).2
  refine callsIn_wide.1 (CallsIn.mono this ?_)
  intro e w' he
  cases e with
  | panicked c => exact he.elim
  | outgrown => exact he.elim
  | returned v' =>
    obtain ⟨ρ', k1, k2, k3⟩ := he
    rw [h2] at k1
    cases k1
    exact ⟨rfl, kept_of k3 hd.notOwned⟩

theorem arg_rel {t e : TypeId} (ht : Try.prog.underlying t = some (.slice e)) {W : World} {base : Nat} {v : Value} (h : Value.okWide Try.prog W .any base t v) {ρ : Rho} {a : AV} (hr : VRels ρ [a] v.cells.toList) : VRel ρ a v := by
  have hv : v.cells.toList = [v] := by
    cases v with
    | agg cs => simp [Value.okWide, ht, Cell.okWide, Cell.ok] at h
    | _ => rfl
  rw [hv] at hr
  cases hr with
  | cons h _ => exact h

theorem reads_again {H : Type} {enc : TypeId × Value → H} {P : Program} {t : TypeId} (hl : laidOutB P = true) (hr : P.readableRec t = true) (hrow : t < P.types.size) {W W' : World} {v : Value} {d : DataW H} {ps : List MemPlace} {sp : Nat → Bool}
    (h : DataW.Trod enc P W 0 (fun _ => true) true t v d ps) (hk : Kept W W') (hlt : ∀ x ∈ ps, x.block < W.heap.size) (hs : ∀ x ∈ ps, sp x.block = true) : DataW.Trod enc P W' 0 sp true t v d ps :=
  WideElems.Trod_stays hl hr hrow h (fun x hx => by
    have := hlt x hx
    cases x with
    | cell b o => exact World.cell?_of_block (w := W) (hk.heap b this)
    | map b => exact hk.heap b this) hs

theorem shares_true {H : Type} {enc : TypeId × Value → H} {W : World} {base : Nat} {v0 v1 : Value} (h0 : Value.okWide Try.prog W .any base 30 v0) (h1 : Value.okWide Try.prog W .any base 31 v1)
    {d0 d1 : DataW H} {p0 p1 : List MemPlace} (t0 : DataW.Trod enc Try.prog W 0 (fun _ => true) true 30 v0 d0 p0) (t1 : DataW.Trod enc Try.prog W 0 (fun _ => true) true 31 v1 d1 p1) :
    Calls Try.prog 6 #[v0, v1] W fun e W' => e = .returned (.bool true) ∧ Kept W W' := by
  obtain ⟨ρ, s, a0, a1, ls, ss, hd, r0, r1, hargs⟩ := enter_two h0 h1 t0 t1
  refine call_true hd (.cons (arg_rel Try.underlying30 h0 r0) (.cons (arg_rel Try.underlying31 h1 r1) .nil)) ?_
  refine shares_ok good_envW envW_works hargs (fol := fol) fun k L hk => ⟨_, fol_V (fun M hM => ?_) ((traceOf_six ss _ (List.mem_of_getElem? hk)).six.i64)⟩
  rcases List.mem_append.1 hM with h | h
  · exact (sixP_clauses M h).six.i64
  · exact (learn_six (fun x hx => traceOf_six ss x (List.mem_of_mem_take hx)) M h).six.i64
end Go.Proofs.Ytilhhmkdcoajnaa.Am
