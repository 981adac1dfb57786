/- Code by symbolic execution: what must hold ahead of it, by its text; conditions: none. -/
import Derived.Test.YtilhhmkdcoajnaaAmLog
set_option linter.unusedVariables false
set_option linter.unusedSimpArgs false
namespace Go.Proofs.Ytilhhmkdcoajnaa.Am
open Go

def okV {α : Type} (x : Option α) (K : α → Prop) : Prop := match x with
  | some v => K v
  | none => False
theorem okV_some {α : Type} (v : α) (K : α → Prop) : okV (some v) K = K v := rfl
theorem okV_of {α : Type} {x : Option α} {v : α} {K : α → Prop} (h : x = some v) (k : K v) : okV x K := by rw [h]; exact k

section
variable (E : Env)
def wpV (f : AV) (as : List AV) (K : AV → ASt → Prop) (s : ASt) : Prop := match f with
  | .func f first cap => WF E f (first ++ (as ++ cap)) K s
  | .yield l => WR E l as K s
  | _ => False
/-- An operation. -/
def wpS (sh : Sh) (xs : List AV) (K : AV → ASt → Prop) (s : ASt) : Prop := match sh with
  | .p1 f => match xs with
    | a :: _ => okV (f a) (fun v => K v s)
    | [] => False
  | .p2 f => match xs with
    | a :: b :: _ => okV (f a b) (fun v => K v s)
    | _ => False
  | .p f => okV (f xs) (fun v => K v s)
  | .r1 f => match xs with
    | a :: _ => okV (f s a) (fun v => K v s)
    | [] => False
  | .r f => okV (f s xs) (fun v => K v s)
  | .mk f => okV (f xs) (fun p => K (p.2.val s.next) (newObj s p.1))
  | .e f => okV (f s xs) (fun p => K p.1 p.2)
  | .call f => WF E f xs K s
  | .callv => match xs with
    | f :: as => wpV E f as K s
    | [] => False
noncomputable def vals (loc var : List AV) : List CX → List AV
  | [] => []
  | x :: l => cev loc var x :: vals loc var l
def againP (s : ASt) (loc var : List AV) : List CRd → Prop
  | [] => True
  | r :: l => again1 s loc var r = true ∧ againP s loc var l
def wpD (ag : List CRd) (d : CDst) (loc var : List AV) (k : List AV → List AV → ASt → Prop) (v : AV) (s : ASt) : Prop := match d with
  | .push => againP s (v :: loc) var ag ∧ k (v :: loc) var s
  | .set j => againP s loc (upd v var j) ag ∧ k loc (upd v var j) s
def condK (v : AV) (x y : List AV → List Nat → ASt → Prop) (var : List AV) (marks : List Nat) (s : ASt) : Prop := match v with
  | .bool true => x var marks s
  | .bool false => y var marks s
  | _ => False
def seqK (k : List AV → List Nat → ASt → Prop) (Q : ARes → Prop) (r : ARes) : Prop := match r.exit with
  | .normal => k r.var r.marks r.st
  | _ => Q r
/-- An operation that is done just if a guard says so. -/
def wpG (b : Bool) (sh : Sh) (xs : List AV) (ag : List CRd) (d : CDst) (loc var : List AV) (k : List AV → List AV → ASt → Prop) (s : ASt) : Prop := match b with
  | true => wpS E sh xs (wpD ag d loc var k) s
  | false => wpD [] d loc var k undefA s
/-- Operations, one behind the other. -/
def wpI : List CItem → (List AV → ASt → Prop) → List AV → List AV → ASt → Prop
  | [], K, _, var, s => K var s
  | it :: l, K, loc, var, s => wpG E (wantedA loc var it.guard) it.sh (vals loc var it.xs) it.again it.dst loc var (wpI l K) s
/-- Code; at a loop, and at a range over a function, the run itself. -/
def wpC (rnd : Option Nat) : CCode → (ARes → Prop) → List AV → List Nat → ASt → Prop
  | .skip, Q, var, marks, s => Q ⟨.normal, var, marks, s⟩
  | .ret, Q, var, marks, s => Q ⟨.ret, var, marks, s⟩
  | .exit id, Q, var, marks, s => Q ⟨.exit id, var, marks, s⟩
  | .never, _, _, _, _ => False
  | .ops l, Q, var, marks, s => wpI E l (fun v s' => Q ⟨.normal, v, marks, s'⟩) [] var s
  | .seq a b, Q, var, marks, s => wpC rnd a (seqK (wpC rnd b Q) Q) var marks s
  | .cond x a b, Q, var, marks, s => condK (cev [] var x) (wpC rnd a Q) (wpC rnd b Q) var marks s
  | .block id c, Q, var, marks, s => wpC rnd c (InBlock id Q) var marks s
  | .loop c, Q, var, marks, s => WC E rnd (.loop c) Q var marks s
  | .rangeFunc fn f ps a b, Q, var, marks, s => WC E rnd (.rangeFunc fn f ps a b) Q var marks s
end

section
variable {E : Env} {rnd : Option Nat} {Q Q' : ARes → Prop} {var loc : List AV} {marks : List Nat} {s : ASt} {K K' : AV → ASt → Prop} {KI : List AV → ASt → Prop}

theorem vals_eq : ∀ (l : List CX), vals loc var l = cevs loc var l
  | [] => rfl
  | x :: l => by show cev loc var x :: vals loc var l = cev loc var x :: cevs loc var l; rw [vals_eq l]
theorem again_of : ∀ {l : List CRd}, againP s loc var l → againA s loc var l = true
  | [], _ => rfl
  | r :: l, h => by show (again1 s loc var r && againA s loc var l) = true; rw [h.1, again_of h.2]; rfl

theorem okV_ex {α : Type} {x : Option α} {K : α → Prop} (h : okV x K) : ∃ v, x = some v ∧ K v := by
  cases x with
  | none => exact h.elim
  | some v => exact ⟨v, rfl, h⟩

theorem wpV_run {f : AV} {as : List AV} (h : wpV E f as K s) : ∃ n p, callV (runA E n) f as s = some p ∧ K p.1 p.2 := by
  cases f with
  | func f first cap => obtain ⟨n, p, h1, h2⟩ := h; exact ⟨n, p, h1, h2⟩
  | yield l => obtain ⟨n, p, h1, h2⟩ := h; exact ⟨n, p, h1, h2⟩
  | _ => exact h.elim

theorem wpS_run {sh : Sh} {xs : List CX} (h : wpS E sh (vals loc var xs) K s) : ∃ n p, shA (runA E n) sh xs loc var s = some p ∧ K p.1 p.2 := by
  rw [vals_eq] at h
  cases sh with
  | p1 f =>
    cases xs with
    | nil => exact h.elim
    | cons x l =>
      obtain ⟨v, h1, h2⟩ := okV_ex h
      exact ⟨0, (v, s), by show withS s (f (cev loc var x)) = _; rw [h1]; rfl, h2⟩
  | p2 f =>
    cases xs with
    | nil => exact h.elim
    | cons x l =>
      cases l with
      | nil => exact h.elim
      | cons y l =>
        obtain ⟨v, h1, h2⟩ := okV_ex h
        exact ⟨0, (v, s), by show withS s (f (cev loc var x) (cev loc var y)) = _; rw [h1]; rfl, h2⟩
  | p f =>
    obtain ⟨v, h1, h2⟩ := okV_ex h
    exact ⟨0, (v, s), by show withS s (f (cevs loc var xs)) = _; rw [h1]; rfl, h2⟩
  | r1 f =>
    cases xs with
    | nil => exact h.elim
    | cons x l =>
      obtain ⟨v, h1, h2⟩ := okV_ex h
      exact ⟨0, (v, s), by show withS s (f s (cev loc var x)) = _; rw [h1]; rfl, h2⟩
  | r f =>
    obtain ⟨v, h1, h2⟩ := okV_ex h
    exact ⟨0, (v, s), by show withS s (f s (cevs loc var xs)) = _; rw [h1]; rfl, h2⟩
  | mk f =>
    obtain ⟨v, h1, h2⟩ := okV_ex h
    exact ⟨0, (v.2.val s.next, newObj s v.1), by show madeA s (f (cevs loc var xs)) = _; rw [h1]; rfl, h2⟩
  | e f =>
    obtain ⟨v, h1, h2⟩ := okV_ex h
    exact ⟨0, v, h1, h2⟩
  | call f => obtain ⟨n, p, h1, h2⟩ := h; exact ⟨n, p, h1, h2⟩
  | callv =>
    cases xs with
    | nil => exact h.elim
    | cons x l => exact wpV_run h

theorem wpI_run : ∀ {l : List CItem} {loc var : List AV} {s : ASt}, wpI E l KI loc var s → WI E l KI loc var s := by
  intro l
  induction l with
  | nil => intro loc var s h; exact WI.nil h
  | cons it l ih =>
    intro loc var s h
    have dst : ∀ {ag : List CRd} {v : AV} {s : ASt}, wpD ag it.dst loc var (wpI E l KI) v s → Dst E ag it.dst l KI loc var v s := by
      intro ag v s h
      unfold wpD at h
      unfold Dst
      cases hd : it.dst with
      | push => rw [hd] at h; exact ⟨again_of h.1, ih h.2⟩
      | set j => rw [hd] at h; exact ⟨again_of h.1, ih h.2⟩
    unfold wpI at h
    cases hw : wantedA loc var it.guard with
    | true =>
      rw [hw] at h
      have h : wpS E it.sh (vals loc var it.xs) (wpD it.again it.dst loc var (wpI E l KI)) s := h
      obtain ⟨n, p, h1, h2⟩ := wpS_run h
      exact WI.item hw h1 (dst h2)
    | false =>
      rw [hw] at h
      have h : wpD [] it.dst loc var (wpI E l KI) undefA s := h
      exact WI.off hw (dst h)

theorem wpC_run : ∀ {c : CCode} {Q : ARes → Prop} {var : List AV} {marks : List Nat} {s : ASt}, wpC E rnd c Q var marks s → WC E rnd c Q var marks s := by
  intro c
  induction c with
  | skip => intro Q var marks s h; exact WC.skip h
  | ret => intro Q var marks s h; exact WC.ret h
  | exit id => intro Q var marks s h; exact WC.exit h
  | never => intro Q var marks s h; exact h.elim
  | ops l => intro Q var marks s h; exact WC.ops (wpI_run h)
  | seq a b iha ihb =>
    intro Q var marks s h
    refine WC.seq ((iha h).mono ?_)
    intro r hr
    unfold seqK at hr
    unfold Then
    cases he : r.exit with
    | normal => rw [he] at hr; exact ihb hr
    | exit id => rw [he] at hr; exact hr
    | ret => rw [he] at hr; exact hr
  | cond x a b iha ihb =>
    intro Q var marks s h
    unfold wpC condK at h
    split at h <;> first | exact h.elim | skip
    · rename_i ht; exact WC.cond ht (iha h)
    · rename_i ht; exact WC.cond ht (ihb h)
  | block id c ih => intro Q var marks s h; exact WC.block (ih h)
  | loop c _ => intro Q var marks s h; exact h
  | rangeFunc fn f ps a b => intro Q var marks s h; exact h

theorem WC.loop' {c : CCode} (h : wpC E rnd c (seqK (WC E rnd (.loop c) Q) Q) var marks s) : WC E rnd (.loop c) Q var marks s := by
  refine WC.loop ((wpC_run h).mono ?_)
  intro r hr
  unfold seqK at hr
  unfold Then
  cases he : r.exit with
  | normal => rw [he] at hr; exact hr
  | exit id => rw [he] at hr; exact hr
  | ret => rw [he] at hr; exact hr
theorem WF.body' {f : FuncId} {as : List AV} {cf : CFunc} (hn : E.nat f as s = none) (hf : compFunc E.P f = some cf) (ha : as.length = cf.na) (h : wpC E none cf.body (Ends E.P cf.results K) (padV as cf.nv) [] s) : WF E f as K s := WF.body hn hf ha (wpC_run h)
end

/-! ### Rules for simp -/
theorem nth_zero (a : AV) (l : List AV) : nth (a :: l) 0 = a := rfl
theorem nth_succ (a : AV) (l : List AV) (n : Nat) : nth (a :: l) (n + 1) = nth l n := rfl
theorem upd_zero (v a : AV) (l : List AV) : upd v (a :: l) 0 = v :: l := rfl
theorem upd_succ (v a : AV) (l : List AV) (n : Nat) : upd v (a :: l) (n + 1) = a :: upd v l n := rfl
theorem cev_loc (loc var : List AV) (i : Nat) : cev loc var (.loc i) = nth loc i := rfl
theorem cev_var (loc var : List AV) (i : Nat) : cev loc var (.var i) = nth var i := rfl
theorem cev_const (loc var : List AV) (v : AV) : cev loc var (.const v) = v := rfl
theorem wanted_none (loc var : List AV) : wantedA loc var none = true := rfl
theorem wanted_some (loc var : List AV) (x : CX) (b : Bool) : wantedA loc var (some (x, b)) = isB b (cev loc var x) := rfl
theorem wpG_true (E : Env) (sh : Sh) (xs : List AV) (ag : List CRd) (d : CDst) (loc var : List AV) (k : List AV → List AV → ASt → Prop) (s : ASt) : wpG E true sh xs ag d loc var k s = wpS E sh xs (wpD ag d loc var k) s := rfl
theorem wpG_false (E : Env) (sh : Sh) (xs : List AV) (ag : List CRd) (d : CDst) (loc var : List AV) (k : List AV → List AV → ASt → Prop) (s : ASt) : wpG E false sh xs ag d loc var k s = wpD [] d loc var k undefA s := rfl
theorem condK_true (x y : List AV → List Nat → ASt → Prop) (var : List AV) (m : List Nat) (s : ASt) : condK (.bool true) x y var m s = x var m s := rfl
theorem condK_false (x y : List AV → List Nat → ASt → Prop) (var : List AV) (m : List Nat) (s : ASt) : condK (.bool false) x y var m s = y var m s := rfl
theorem seqK_normal (k : List AV → List Nat → ASt → Prop) (Q : ARes → Prop) (v : List AV) (m : List Nat) (s : ASt) : seqK k Q ⟨.normal, v, m, s⟩ = k v m s := rfl
theorem seqK_ret (k : List AV → List Nat → ASt → Prop) (Q : ARes → Prop) (v : List AV) (m : List Nat) (s : ASt) : seqK k Q ⟨.ret, v, m, s⟩ = Q ⟨.ret, v, m, s⟩ := rfl
theorem seqK_exit (k : List AV → List Nat → ASt → Prop) (Q : ARes → Prop) (id : Nat) (v : List AV) (m : List Nat) (s : ASt) : seqK k Q ⟨.exit id, v, m, s⟩ = Q ⟨.exit id, v, m, s⟩ := rfl
theorem inBlock_normal (id : Nat) (Q : ARes → Prop) (v : List AV) (m : List Nat) (s : ASt) : InBlock id Q ⟨.normal, v, m, s⟩ = Q ⟨.normal, v, m, s⟩ := rfl
theorem inBlock_ret (id : Nat) (Q : ARes → Prop) (v : List AV) (m : List Nat) (s : ASt) : InBlock id Q ⟨.ret, v, m, s⟩ = Q ⟨.ret, v, m, s⟩ := rfl
theorem inBlock_exit (id id' : Nat) (Q : ARes → Prop) (v : List AV) (m : List Nat) (s : ASt) : InBlock id Q ⟨.exit id', v, m, s⟩ = if id' = id then Q ⟨.normal, v, m, s⟩ else Q ⟨.exit id', v, m, s⟩ := by
  unfold InBlock
  by_cases h : id' = id
  · subst h; simp
  · have : Nat.beq id' id = false := by
      cases hb : Nat.beq id' id with
      | true => exact absurd (Nat.eq_of_beq_eq_true hb) h
      | false => rfl
    simp [h, this]
theorem ends_ret (P : Program) (rs : List (CX × Option TypeId)) (K : AV → ASt → Prop) (v : List AV) (m : List Nat) (s : ASt) : Ends P rs K ⟨.ret, v, m, s⟩ = okV (unmark s m) (fun s' => okV (resultsA P s' v rs) (fun l => K (oneOrTuple l) s')) := by
  unfold Ends
  apply propext
  constructor
  · rintro ⟨_, s', h1, l, h2, h3⟩
    have h1 : unmark s m = some s' := h1
    have h2 : resultsA P s' v rs = some l := h2
    rw [h1, okV_some, h2, okV_some]; exact h3
  · intro h
    obtain ⟨s', h1, h⟩ := okV_ex h
    obtain ⟨l, h2, h3⟩ := okV_ex h
    exact ⟨rfl, s', h1, l, h2, h3⟩
theorem ends_normal (P : Program) (rs : List (CX × Option TypeId)) (K : AV → ASt → Prop) (v : List AV) (m : List Nat) (s : ASt) : Ends P rs K ⟨.normal, v, m, s⟩ = okV (unmark s m) (fun s' => okV (resultsA P s' v rs) (fun l => K (oneOrTuple l) s')) := by
  rw [← ends_ret]; rfl
theorem unmark_nil (s : ASt) : unmark s [] = some s := rfl
theorem results_nil (P : Program) (s : ASt) (v : List AV) : resultsA P s v [] = some [] := rfl
theorem results_cons (P : Program) (s : ASt) (v : List AV) (x : CX) (l : List (CX × Option TypeId)) : resultsA P s v ((x, none) :: l) = (resultsA P s v l).bind fun r => some (cev [] v x :: r) := rfl
theorem one_one (v : AV) : oneOrTuple [v] = v := rfl
theorem one_zero : oneOrTuple [] = .tuple [] := rfl
theorem one_two (v w : AV) (l : List AV) : oneOrTuple (v :: w :: l) = .tuple (v :: w :: l) := rfl
theorem isB_undef (w : Bool) : isB w undefA = false := rfl
theorem isB_tt (b : Bool) : isB true (.bool b) = b := by cases b <;> rfl
theorem isB_ff (b : Bool) : isB false (.bool b) = !b := by cases b <;> rfl
theorem isB_bool (w b : Bool) : isB w (.bool b) = (b == w) := rfl
end Go.Proofs.Ytilhhmkdcoajnaa.Am

