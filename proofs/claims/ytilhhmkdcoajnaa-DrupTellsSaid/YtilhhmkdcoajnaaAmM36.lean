/- The chapter's examples of layer 20, a closed run, are answered at once where the abstract machine calls for them; conditions: none. -/
import Derived.Test.YtilhhmkdcoajnaaAmKnown
import Derived.KernelRfl
import Derived.Test.YtilhhmkdcoajnaaAmEnd
import Derived.Test.YtilhhmkdcoajnaaAmData
import Derived.Test.YtilhhmkdcoajnaaAmGrow
import Derived.ChangeArms
import Derived.DataReads
import Derived.DataElems
import Derived.Test.YtilhhmkdcoajnaaAmDrup1
set_option linter.unusedVariables false
set_option linter.unusedSimpArgs false
namespace Go.Proofs.Ytilhhmkdcoajnaa.Am
open Go Go.Proofs

theorem orders20 : Try.prog.follows .mixedOrders = true := by kernel_rfl
theorem noCount20 : noCountB Try.prog = true := by kernel_rfl
theorem works_ran : isTrueA ((runA envF 100000).call 21 [] st0) = true := by kernel_rfl

/-- As 'closed_trueF', with the tape. -/
theorem closed_trueT {n : Nat} {f : FuncId} (h : isTrueA ((runA envF n).call f [] st0) = true) (w : World) :
    (∃ fn c, Try.prog.funcs[f]? = some fn ∧ fn.body = some c) ∧ CallsIn Fence.wide 0 Try.prog f #[] w fun e w' => e = .returned (.bool true) ∧ Kept w w' ∧ w'.tape = w.tape := by
  cases hr : (runA envF n).call f [] st0 with
  | none => rw [hr] at h; cases h
  | some p =>
    obtain ⟨v, s1⟩ := p
    rw [hr] at h
    cases v with
    | bool b =>
      have hb : b = true := h
      subst hb
      have := (sim orders20 (noCount_of noCount20) rfl (natF_ok orders20 (noCount_of noCount20)) n).call rho0 st0 w f [] _ _ #[] hr (inv0 _ w) fresh0 .nil
      refine ⟨this.1, CallsIn.mono this.2 ?_⟩
      intro e w' he
      cases e with
      | panicked c => exact he.elim
      | outgrown => exact he.elim
      | returned v' =>
        obtain ⟨ρ', h1, h2, h3⟩ := he
        cases h1
        exact ⟨rfl, kept_of h3 notOwned0, h3.tape⟩
    | _ => cases h

def natW : NatF := fun f xs s => bif Nat.beq f 21 then (match xs with
  | [] => some (.bool true, s)
  | _ => none) else none
theorem natW_ok : CallOk Try.prog natW := by
  intro ρ s w f xs v s1 xs' h hi hf ha
  unfold natW at h
  cases hb : Nat.beq f 21 with
  | false => rw [hb] at h; cases h
  | true =>
    rw [hb] at h
    have := Nat.eq_of_beq_eq_true hb
    subst this
    simp only [cond_true] at h
    split at h
    · injection h with h
      injection h with h1 h2
      subst h1; subst h2
      have hx : xs' = #[] := by
        have hl := ha.length
        exact Array.eq_empty_of_size_eq_zero (by simpa using hl.symm)
      subst hx
      obtain ⟨g1, g2⟩ := closed_trueT works_ran w
      refine ⟨g1, CallsIn.mono g2 fun e w' he => ?_⟩
      obtain ⟨rfl, hk, ht⟩ := he
      refine ⟨ρ, .bool true, ⟨fun i o rb hi' hr => (hi.obj i o rb hi' hr).mono (Rho.le_refl ρ) (hk.heap rb.b (hi.lt i rb hr)), fun i rb hr => Nat.lt_of_lt_of_le (hi.lt i rb hr) hk.size, hi.sep⟩,
        ⟨Rho.le_refl ρ, fun _ h _ => h, Nat.le_refl _, hk.size, hk.os, ht, hk.output, fun b hb _ => hk.heap b hb, fun b hb => .inl hb, fun _ _ _ => rfl⟩⟩
    · cases h
noncomputable def envW : Env := ⟨Try.prog, natW⟩
theorem envW_works (s : ASt) : envW.nat 21 [] s = some (.bool true, s) := rfl
theorem good_envW : Good envW := by
  refine ⟨rfl, fun f xs s hf => ?_⟩
  show natW f xs s = none
  unfold natW
  have : Nat.beq f 21 = false := by
    cases hb : Nat.beq f 21 with
    | true => exact absurd (Nat.eq_of_beq_eq_true hb) hf
    | false => rfl
  rw [this]; rfl
end Go.Proofs.Ytilhhmkdcoajnaa.Am

/- From what a call's arguments read as, to the abstract memory in which its run begins: slices, of whatever; conditions: none. -/
set_option linter.unusedVariables false
set_option linter.unusedSimpArgs false
namespace Go.Proofs.Ytilhhmkdcoajnaa.Am
open Go

/-! ### Slices, opened -/
theorem mapM_get {α β : Type} {f : α → Option β} : ∀ {l : List α} {r : List β}, l.mapM f = some r → r.length = l.length ∧ ∀ (k : Nat) (a : α), l[k]? = some a → f a = r[k]?
  | [], r, h => by
    simp at h
    subst h
    exact ⟨rfl, fun k a hk => by simp at hk⟩
  | x :: l, r, h => by
    rw [List.mapM_cons] at h
    simp only [bind, pure, Option.bind_eq_some_iff] at h
    obtain ⟨y, h1, r', h2, h3⟩ := h
    injection h3 with h3
    subst h3
    obtain ⟨g1, g2⟩ := mapM_get h2
    refine ⟨by simp [g1], fun k a hk => ?_⟩
    cases k with
    | zero => simp at hk; subst hk; simpa using h1
    | succ k => simpa using g2 k a (by simpa using hk)
theorem cells_get {w : World} {a : Addr} {n : Nat} {cs : List Value} (h : w.cells? 0 a n = some cs) : cs.length = n ∧ ∀ j, j < n → w.cell? (a.add j) = cs[j]? := by
  unfold World.cells? at h
  rw [if_pos (Nat.zero_le _)] at h
  obtain ⟨g1, g2⟩ := mapM_get h
  exact ⟨by simpa using g1, fun j hj => g2 j j (by simp [hj])⟩
theorem cell_lt {w : World} {a : Addr} {v : Value} (h : w.cell? a = some v) : a.block < w.heap.size := by
  unfold World.cell? at h
  cases hb : w.heap[a.block]? with
  | none => rw [hb] at h; cases h
  | some o =>
    rcases Nat.lt_or_ge a.block w.heap.size with h' | h'
    · exact h'
    · rw [Array.getElem?_eq_none h'] at hb; cases hb
theorem add_lit (b off n : Nat) : (⟨b, off, none⟩ : Addr).add n = ⟨b, off + n, none⟩ := by
  unfold Addr.add
  split
  · rename_i h; subst h; rfl
  · rfl

section
variable {H : Type} {enc : TypeId × Value → H} {P : Program} {w : World} {held : Bool}
theorem slice_open {t e : TypeId} {sz : Nat} (ht : P.underlying t = some (.slice e)) (hsz : P.cellsOf e = sz) (h0 : 0 < sz) {fuel : Nat} {cs : List Value} {x : DataW H × List MemPlace} (h : DataW.trod enc P w 0 (fun _ => true) held fuel t cs = some x) :
    cs = [.slice none 0 0] ∨ (∃ a, cs = [.slice (some a) 0 0]) ∨
    ∃ (b off len cap n : Nat), cs = [.slice (some ⟨b, off, none⟩) len cap] ∧ len ≤ cap ∧ cap ≤ maxLen ∧ b < w.heap.size ∧
      ∀ i, i < len → ∃ cs' y, DataW.trod enc P w 0 (fun _ => true) held n e cs' = some y ∧ cs'.length = sz ∧ ∀ j, j < sz → w.cell? ⟨b, off + i * sz + j, none⟩ = cs'[j]? := by
  rcases DataW.trod_slice ht h with ⟨h1, _⟩ | ⟨a, len, cap, elems, rest, n, h1, h2, h3, h4, h5, h6, h7, h8, h9, _⟩
  · exact .inl h1
  · rw [hsz] at h8 h9
    obtain ⟨h9, h10⟩ := h9 rfl
    rcases Nat.eq_zero_or_pos cap with rfl | hcap
    · have : len = 0 := by omega
      subst this
      exact .inr (.inl ⟨a, h2⟩)
    · -- the first cell is there
      have first : ∃ v, w.cell? a = some v := by
        rcases Nat.eq_zero_or_pos len with hl | hl
        · subst hl
          have := h10 0 (by omega)
          have hlt : 0 < rest.length := by omega
          rw [List.getElem?_eq_getElem hlt] at this
          simp only [Option.bind_eq_some_iff] at this
          obtain ⟨cs', g1, _⟩ := this
          obtain ⟨g2, g3⟩ := cells_get g1
          have g4 := g3 0 h0
          rw [List.getElem?_eq_getElem (show 0 < cs'.length by omega)] at g4
          exact ⟨_, by simpa [Addr.add] using g4⟩
        · have := h8 0 hl
          rw [List.getElem?_eq_getElem (show 0 < elems.length by omega)] at this
          simp only [Option.bind_eq_some_iff] at this
          obtain ⟨cs', g1, _⟩ := this
          obtain ⟨g2, g3⟩ := cells_get g1
          have g4 := g3 0 h0
          rw [List.getElem?_eq_getElem (show 0 < cs'.length by omega)] at g4
          exact ⟨_, by simpa [Addr.add] using g4⟩
      obtain ⟨v, hv⟩ := first
      have hspot := World.cell?_spot hv
      have hlt := cell_lt hv
      obtain ⟨b, off, spot⟩ := a
      have hspot : spot = none := hspot
      subst hspot
      refine .inr (.inr ⟨b, off, len, cap, n, h2, h5, h6, hlt, fun i hi => ?_⟩)
      have := h8 i hi
      rw [List.getElem?_eq_getElem (show i < elems.length by omega)] at this
      simp only [Option.bind_eq_some_iff] at this
      obtain ⟨cs', g1, g2⟩ := this
      obtain ⟨g3, g4⟩ := cells_get g1
      refine ⟨cs', _, g2, g3, fun j hj => ?_⟩
      have := g4 j hj
      rw [add_lit, add_lit] at this
      exact this

/-! ### The memory at the door -/
structure Door (P : Program) (w : World) (ρ : Rho) (s : ASt) : Prop where
  inv : Inv P ρ s w
  fresh : FreshH ρ s
  ro : ∀ i o, s.heap.get i = some o → wr o = false
theorem door0 (P : Program) (w : World) : Door P w rho0 st0 := ⟨inv0 P w, fresh0, fun i o h => by cases h⟩
theorem Door.notOwned {ρ : Rho} {s : ASt} (h : Door P w ρ s) (b : Nat) : ¬ Owned ρ s b := fun ⟨i, o, rb, h1, h2, _⟩ => by rw [h.ro i o h1] at h2; cases h2

def roRow (e : TypeId) (sz : Nat) (cs : List AV) : AObj := .row { elem := e, sz, n := cs.length, c := Tree.fill .leaf 0 cs, spare := false, mode := .ro, par := none, bytes := false }
theorem ro_get {cs : List AV} {k : Nat} {u : AV} (h : cs[k]? = some u) : (Tree.fill .leaf 0 cs).get k = some u := by
  have hlt : k < cs.length := by
    rcases Nat.lt_or_ge k cs.length with h' | h'
    · exact h'
    · rw [List.getElem?_eq_none h'] at h; cases h
  rw [Tree.get_fill, if_pos ⟨Nat.zero_le _, by omega⟩]
  simpa using h
/-- A row that is only read. -/
theorem Door.row {ρ : Rho} {s : ASt} (h : Door P w ρ s) (e : TypeId) (sz b off : Nat) (cs : List AV) (hb : b < w.heap.size) (hc : ∀ k u, cs[k]? = some u → ∃ v, w.cell? ⟨b, off + k, none⟩ = some v ∧ VRel ρ u v) :
    ∃ ρ', Door P w ρ' (newObj s (roRow e sz cs)) ∧ ρ.le ρ' ∧ ρ' s.next = some ⟨b, off, cs.length, sz⟩ := by
  have hf := h.fresh s.next (Nat.le_refl _)
  have hle := setRho_le (rb := ⟨b, off, cs.length, sz⟩) hf.1
  refine ⟨setRho ρ s.next ⟨b, off, cs.length, sz⟩, ⟨⟨?_, ?_, ?_⟩, ?_, ?_⟩, hle, setRho_same _ _⟩
  · intro i o rb hi hr
    rw [heap_new] at hi
    by_cases e' : i = s.next
    · subst e'
      rw [if_pos rfl] at hi
      injection hi with hi
      subst hi
      rw [setRho_same] at hr
      injection hr with hr
      subst hr
      refine ⟨fun k v hk hv => ?_, Nat.le_refl _, rfl, fun _ => rfl, fun hm => absurd rfl hm, fun p hp => by cases hp⟩
      have hk : k < cs.length := hk
      have hv : (Tree.fill .leaf 0 cs).get k = some v := hv
      have hu : cs[k]? = some cs[k] := List.getElem?_eq_getElem hk
      rw [ro_get hu] at hv
      injection hv with hv
      subst hv
      obtain ⟨v', h1, h2⟩ := hc k _ hu
      exact ⟨v', h1, h2.mono hle⟩
    · rw [if_neg e'] at hi
      rw [setRho_other _ e'] at hr
      exact (h.inv.obj i o rb hi hr).mono hle rfl
  · intro i rb hr
    by_cases e' : i = s.next
    · subst e'
      rw [setRho_same] at hr
      injection hr with hr
      subst hr
      exact hb
    · rw [setRho_other _ e'] at hr
      exact h.inv.lt i rb hr
  · intro i j oi oj ri rj _ _ hj _ _ _ hw
    rw [heap_new] at hj
    by_cases e' : j = s.next
    · rw [if_pos e'] at hj
      injection hj with hj
      subst hj
      cases hw
    · rw [if_neg e'] at hj
      rw [h.ro j oj hj] at hw
      cases hw
  · intro i hi
    have hi : s.next + 1 ≤ i := hi
    refine ⟨?_, ?_⟩
    · rw [setRho_other _ (by omega)]; exact (h.fresh i (by omega)).1
    · rw [heap_new, if_neg (by omega)]; exact (h.fresh i (by omega)).2
  · intro i o hi
    rw [heap_new] at hi
    by_cases e' : i = s.next
    · rw [if_pos e'] at hi
      injection hi with hi
      subst hi
      rfl
    · rw [if_neg e'] at hi
      exact h.ro i o hi

/-- How elements come in: with what they are. -/
def Enter (P : Program) (w : World) {α : Type} (p : ASt → List AV → α → Prop) (cs : List Value) (ρ : Rho) (s : ASt) : Prop :=
  ∃ ρ' s' us x, Door P w ρ' s' ∧ ρ.le ρ' ∧ Old s.next s s' ∧ VRels ρ' us cs ∧ p s' us x

theorem enter_list {α : Type} {p : ASt → List AV → α → Prop} (hp : ∀ s s' us x, p s us x → Old s.next s s' → p s' us x) {sz b off len : Nat}
    (hel : ∀ i, i < len → ∃ cs' : List Value, cs'.length = sz ∧ (∀ j, j < sz → w.cell? ⟨b, off + i * sz + j, none⟩ = cs'[j]?) ∧ ∀ ρ s, Door P w ρ s → Enter P w p cs' ρ s) :
    ∀ (m : Nat), m ≤ len → ∀ ρ s, Door P w ρ s → ∃ (ρ' : Rho) (s' : ASt) (us : List AV) (xs : List α), Door P w ρ' s' ∧ ρ.le ρ' ∧ Old s.next s s' ∧ us.length = m * sz ∧ xs.length = m ∧
      (∀ k u, us[k]? = some u → ∃ v, w.cell? ⟨b, off + k, none⟩ = some v ∧ VRel ρ' u v) ∧ ∀ (k : Nat) (x : α), xs[k]? = some x → p s' ((us.drop (k * sz)).take sz) x := by
  intro m
  induction m with
  | zero => intro _ ρ s h; exact ⟨ρ, s, [], [], h, Rho.le_refl ρ, Old.refl _ _, by simp, rfl, fun k u hk => by simp at hk, fun k x hk => by simp at hk⟩
  | succ m ih =>
    intro hm ρ s h
    obtain ⟨ρ1, s1, us, xs, g1, g2, g3, g4, g5, g6, g7⟩ := ih (by omega) ρ s h
    obtain ⟨cs', k1, k2, k3⟩ := hel m (by omega)
    obtain ⟨ρ2, s2, vs, y, q1, q2, q3, q4, q5⟩ := k3 ρ1 s1 g1
    have hvl : vs.length = sz := by rw [q4.length, k1]
    refine ⟨ρ2, s2, us ++ vs, xs ++ [y], q1, Rho.le_trans g2 q2, g3.trans (q3.mono g3.1), by rw [List.length_append, g4, hvl, Nat.add_mul, Nat.one_mul], by simp [g5], fun k u hk => ?_, fun k x hk => ?_⟩
    · rcases Nat.lt_or_ge k us.length with hlt | hge
      · rw [List.getElem?_append_left hlt] at hk
        obtain ⟨v, e1, e2⟩ := g6 k u hk
        exact ⟨v, e1, e2.mono q2⟩
      · rw [List.getElem?_append_right hge] at hk
        have hj : k - us.length < sz := by
          rcases Nat.lt_or_ge (k - us.length) vs.length with h' | h'
          · omega
          · rw [List.getElem?_eq_none h'] at hk; cases hk
        obtain ⟨v, e1, e2⟩ := q4.get hk
        refine ⟨v, ?_, e2⟩
        have := k2 (k - us.length) hj
        rw [e1] at this
        rw [show off + k = off + m * sz + (k - us.length) by omega]
        exact this
    · rcases Nat.lt_or_ge k m with hlt | hge
      · rw [List.getElem?_append_left (by omega)] at hk
        have := hp s1 s2 _ _ (g7 k x hk) q3
        have hks : (k + 1) * sz ≤ m * sz := Nat.mul_le_mul_right _ hlt
        rw [Nat.add_mul, Nat.one_mul] at hks
        rw [List.drop_append_of_le_length (by omega), List.take_append_of_le_length (by rw [List.length_drop]; omega)]
        exact this
      · rw [List.getElem?_append_right (by omega)] at hk
        have hk0 : k = m := by
          rcases Nat.lt_or_ge (k - xs.length) 1 with h' | h'
          · omega
          · rw [List.getElem?_eq_none (by simpa using h')] at hk; cases hk
        subst hk0
        have hxy : y = x := by simpa [g5] using hk
        subst hxy
        rw [← g4, List.drop_left' rfl, List.take_of_length_le (by omega)]
        exact q5

/-- How far a slice reaches. -/
def CapIn (s : ASt) (a : Option (Nat × Nat)) (cap : Option Nat) (n sz : Nat) : Prop := (∃ c, cap = some c ∧ n ≤ c ∧ (a = none → c = 0)) ∨ (n = 0 ∧ cap = none ∧ ∃ i r, a = some (i, 0) ∧ i < s.next ∧ s.heap.get i = some (.row r) ∧ r.sz = sz)
theorem CapIn.old {s s' : ASt} {a : Option (Nat × Nat)} {cap : Option Nat} {n sz : Nat} (h : CapIn s a cap n sz) (k : Old s.next s s') : CapIn s' a cap n sz := by
  rcases h with h | ⟨h1, h2, i, r, h3, h4, h5, h6⟩
  · exact .inl h
  · exact .inr ⟨h1, h2, i, r, h3, Nat.lt_of_lt_of_le h4 k.1, by rw [k.2 i h4]; exact h5, h6⟩
/-- A slice of such. -/
def SliceIn {α : Type} (p : ASt → List AV → α → Prop) (sz : Nat) (s : ASt) (us : List AV) (xs : List α) : Prop :=
  ∃ a cap, us = [.slice a xs.length cap] ∧ xs.length ≤ maxLen ∧ CapIn s a cap xs.length sz ∧ ∀ (k : Nat) (x : α), xs[k]? = some x → ∃ i o vs, a = some (i, o) ∧ i < s.next ∧ vs.length = sz ∧ (∀ j u, vs[j]? = some u → load1 s i (o + k * sz + j) = some u) ∧ p s vs x
theorem SliceIn.old {α : Type} {p : ASt → List AV → α → Prop} (hp : ∀ s s' us x, p s us x → Old s.next s s' → p s' us x) {sz : Nat} (s s' : ASt) (us : List AV) (xs : List α) (h : SliceIn p sz s us xs) (k : Old s.next s s') : SliceIn p sz s' us xs := by
  obtain ⟨a, cap, h1, hl, hcap, h2⟩ := h
  refine ⟨a, cap, h1, hl, hcap.old k, fun j x hj => ?_⟩
  obtain ⟨i, o, vs, g1, g2, g3, g4, g5⟩ := h2 j x hj
  exact ⟨i, o, vs, g1, Nat.lt_of_lt_of_le g2 k.1, g3, fun j u hu => by rw [load1_eq (k.2 i g2)]; exact g4 j u hu, hp s s' _ _ g5 k⟩

theorem enter_slice {α : Type} {p : ASt → List AV → α → Prop} (hp : ∀ s s' us x, p s us x → Old s.next s s' → p s' us x) {t e : TypeId} {sz : Nat} (ht : P.underlying t = some (.slice e)) (hsz : P.cellsOf e = sz) (h0 : 0 < sz)
    (hel : 0 < w.heap.size → ∀ (n : Nat) (cs : List Value) (y : DataW H × List MemPlace), DataW.trod enc P w 0 (fun _ => true) held n e cs = some y → cs.length = sz → ∀ ρ s, Door P w ρ s → Enter P w p cs ρ s)
    {fuel : Nat} {cs : List Value} {x : DataW H × List MemPlace} (h : DataW.trod enc P w 0 (fun _ => true) held fuel t cs = some x) (hw : ∀ a, cs = [.slice (some a) 0 0] → 0 < w.heap.size) {ρ : Rho} {s : ASt} (hd : Door P w ρ s) : Enter P w (SliceIn p sz) cs ρ s := by
  rcases slice_open ht hsz h0 h with rfl | ⟨a, rfl⟩ | ⟨b, off, len, cap, n, rfl, h1, h2, h3, h4⟩
  · exact ⟨ρ, s, [.slice none 0 (some 0)], [], hd, Rho.le_refl ρ, Old.refl _ _, .cons .sliceNil .nil, none, some 0, rfl, Nat.zero_le _, .inl ⟨0, rfl, Nat.le_refl _, fun _ => rfl⟩, fun k x hk => by simp at hk⟩
  · obtain ⟨ρ', g1, g2, g3⟩ := hd.row e sz 0 0 [] (hw a rfl) (fun k u hk => by simp at hk)
    exact ⟨ρ', _, [.slice (some (s.next, 0)) 0 none], [], g1, g2, Old.new s _, .cons (.sliceEnd g3 h0 (Nat.le_refl _) (by show 0 < 0 + sz; omega)) .nil, _, _, rfl, Nat.zero_le _, .inr ⟨rfl, rfl, s.next, { elem := e, sz, n := 0, c := Tree.fill .leaf 0 [], spare := false, mode := .ro, par := none, bytes := false }, rfl, Nat.lt_succ_self _, by rw [heap_new, if_pos rfl]; rfl, rfl⟩, fun k x hk => by simp at hk⟩
  · obtain ⟨ρ1, s1, us, xs, g1, g2, g3, g4, g5, g6, g7⟩ := enter_list (w := w) (P := P) hp (sz := sz) (b := b) (off := off) (len := len) (fun i hi => by
      obtain ⟨cs', y, q1, q2, q3⟩ := h4 i hi
      exact ⟨cs', q2, q3, fun ρ s hd => hel (by omega) n cs' y q1 q2 ρ s hd⟩) len (Nat.le_refl _) ρ s hd
    obtain ⟨ρ2, k1, k2, k3⟩ := g1.row e sz b off us h3 g6
    have o2 : Old s1.next s1 (newObj s1 (roRow e sz us)) := Old.new s1 _
    refine ⟨ρ2, _, [.slice (some (s1.next, 0)) xs.length (some cap)], xs, k1, Rho.le_trans g2 k2, g3.trans (o2.mono g3.1), ?_, some (s1.next, 0), some cap, rfl, by omega, .inl ⟨cap, rfl, by omega, fun h => by cases h⟩, fun k x hk => ?_⟩
    · rw [g5]
      exact .cons (.slice k3 h1) .nil
    · have hkl : k < len := by
        rcases Nat.lt_or_ge k xs.length with h' | h'
        · omega
        · rw [List.getElem?_eq_none h'] at hk; cases hk
      have hks : (k + 1) * sz ≤ len * sz := Nat.mul_le_mul_right _ hkl
      rw [Nat.add_mul, Nat.one_mul] at hks
      refine ⟨s1.next, 0, (us.drop (k * sz)).take sz, rfl, Nat.lt_succ_self _, by rw [List.length_take, List.length_drop]; omega, fun j u hj => ?_, hp s1 _ _ _ (g7 k x hk) o2⟩
      rw [List.getElem?_take] at hj
      split at hj
      · rename_i hjs
        rw [List.getElem?_drop] at hj
        rw [Nat.zero_add]
        exact load1_row (r := { elem := e, sz, n := us.length, c := Tree.fill .leaf 0 us, spare := false, mode := .ro, par := none, bytes := false }) (by rw [heap_new, if_pos rfl]; rfl) (by show k * sz + j < us.length; omega) (ro_get hj)
      · cases hj
end
end Go.Proofs.Ytilhhmkdcoajnaa.Am

/- Slices that are appended to, whatever they are; slices of slices; conditions: none. -/
set_option linter.unusedVariables false
set_option linter.unusedSimpArgs false
namespace Go.Proofs.Ytilhhmkdcoajnaa.Am
open Go

/-- A slice of n elements that may be appended to: nil, or as long as its capacity, or made by appends; O: the objects that an append to it changes. -/
def Dest (s : ASt) (v : AV) (n sz : Nat) (cs : List AV) (O : List Nat) : Prop :=
  (∃ a, v = .slice a n (some n) ∧ O = [] ∧ cs.length = n * sz ∧ (a = none → n = 0) ∧ ∀ i o, a = some (i, o) → i < s.next ∧ loadN s i o (n * sz) = some cs) ∨
  (∃ i p, v = .slice (some (i, 0)) n none ∧ Grow 0 s.next s v n sz cs i p ∧ O = i :: p.toList)

theorem Dest.nil (s : ASt) (sz : Nat) : Dest s (.slice none 0 (some 0)) 0 sz [] [] := .inl ⟨none, rfl, rfl, by simp, fun _ => rfl, fun i o h => by cases h⟩
theorem Dest.len {s : ASt} {v : AV} {n sz : Nat} {cs : List AV} {O : List Nat} (h : Dest s v n sz cs O) : cs.length = n * sz := by
  rcases h with ⟨a, h1, h2, h3, h4⟩ | ⟨i, p, h1, h2, h3⟩
  · exact h3
  · exact h2.len
theorem loadN_eq {s s' : ASt} {i o n : Nat} (h : s'.heap.get i = s.heap.get i) : loadN s' i o n = loadN s i o n := by unfold loadN rowAt; rw [h]
theorem Dest.lt {s : ASt} {v : AV} {n sz : Nat} {cs : List AV} {O : List Nat} (h : Dest s v n sz cs O) : ∀ j ∈ O, j < s.next := by
  rcases h with ⟨a, h1, h2, h3, h4⟩ | ⟨i, p, h1, h2, h3⟩
  · subst h2; intro j hj; cases hj
  · subst h3
    intro j hj
    rcases h2.ex with ⟨e, _⟩ | ⟨_, _, k2, k3, _⟩
    · rw [h1] at e; cases e
    · rcases List.mem_cons.1 hj with rfl | hj
      · exact k2
      · cases p with
        | none => cases hj
        | some q =>
          have : j = q := by simpa using hj
          rw [this]
          exact (k3 q rfl).2.1
/-- The object where it lies. -/
def slot : AV → Option Nat
  | .slice (some (i, _)) _ _ => some i
  | _ => none
theorem Dest.frame {s s' : ASt} {v : AV} {n sz : Nat} {cs : List AV} {O : List Nat} (h : Dest s v n sz cs O) (hn : s.next ≤ s'.next) (hf : ∀ j, slot v = some j → s'.heap.get j = s.heap.get j) : Dest s' v n sz cs O := by
  rcases h with ⟨a, rfl, h2, h3, h4, h5⟩ | ⟨i, p, rfl, h2, h3⟩
  · refine .inl ⟨a, rfl, h2, h3, h4, fun i o e => ?_⟩
    obtain ⟨k1, k2⟩ := h5 i o e
    subst e
    exact ⟨by omega, by rw [loadN_eq (hf i rfl)]; exact k2⟩
  · exact .inr ⟨i, p, rfl, (h2.mono hn).frame fun _ _ => hf i rfl, h3⟩
/-- Its cells. -/
theorem Dest.cells {s : ASt} {v : AV} {n sz : Nat} {cs : List AV} {O : List Nat} (h : Dest s v n sz cs O) : ∃ a cap, v = .slice a n cap ∧ CellsAt s.next s a cs := by
  rcases h with ⟨a, rfl, h2, h3, h4, h5⟩ | ⟨i, p, rfl, h2, h3⟩
  · refine ⟨a, _, rfl, fun k u hk => ?_⟩
    have hlt : k < cs.length := by
      rcases Nat.lt_or_ge k cs.length with h | h
      · exact h
      · rw [List.getElem?_eq_none h] at hk; cases hk
    cases a with
    | none => rw [h4 rfl] at h3; simp at h3; subst h3; simp at hlt
    | some io =>
      obtain ⟨i, o⟩ := io
      obtain ⟨k1, k2⟩ := h5 i o rfl
      refine ⟨i, o, rfl, k1, ?_⟩
      unfold loadN at k2
      simp only [Option.bind_eq_some_iff] at k2
      obtain ⟨r, g1, g2⟩ := k2
      have g3 : Nat.ble (o + n * sz) r.n = true ∧ r.c.take o (n * sz) = some cs := by
        cases hb : Nat.ble (o + n * sz) r.n with
        | true => rw [hb] at g2; exact ⟨rfl, g2⟩
        | false => rw [hb] at g2; cases g2
      have g4 : o + n * sz ≤ r.n := by simpa [Nat.ble_eq] using g3.1
      have g5 := Tree.take_get g3.2 k (by omega)
      rw [hk] at g5
      have g6 : s.heap.get i = some (.row r) := by
        unfold rowAt at g1
        split at g1
        · injection g1 with g1; subst g1; assumption
        · cases g1
      exact load1_row g6 (by omega) g5
  · obtain ⟨a, cap, e, hc⟩ := h2.cells
    exact ⟨a, cap, e, hc⟩

/-- An append. -/
theorem Dest.append {P : Program} {st xt e : TypeId} {sz by_ : Nat} (ht : P.underlying st = some (.slice e)) (hs : sizeT P e = some sz) (hb : bytesT P e = some by_) (h0 : 0 < sz) (hx : isSliceOrStr P xt = true) (hz : zeroOk P e sz = true) {s : ASt} {v : AV} {n : Nat} {cs : List AV} {O : List Nat} (h : Dest s v n sz cs O)
    {ax : Option (Nat × Nat)} {m : Nat} {cx : Option Nat} {add : List AV} (hsrc : srcCells P s e sz (.slice ax m cx) = some (m, add)) (ha : add.length = m * sz) (hc : allCells add = true) (h1 : (n + m) * by_ ≤ 1099511627776) (h2 : n + m ≤ 1099511627776) :
    ∃ v' s' O', appendA P s [st, xt] [v, .slice ax m cx] = some (v', s') ∧ Dest s' v' (n + m) sz (cs ++ add) O' ∧ s.next ≤ s'.next ∧ s'.next ≤ s.next + 1 ∧ (∀ j, j < s.next → j ∉ O → s'.heap.get j = s.heap.get j) ∧ (∀ j ∈ O', j ∈ O ∨ s.next ≤ j) ∧ (∀ j, slot v' = some j → slot v = some j ∨ s.next ≤ j) := by
  have hlen := h.len
  rcases Nat.eq_zero_or_pos m with rfl | hm
  · -- nothing is appended
    have hadd : add = [] := by simp at ha; exact ha
    subst hadd
    rw [List.append_nil, Nat.add_zero]
    rcases h with ⟨a, rfl, rfl, h3, h4, h5⟩ | ⟨i, p, rfl, h6, h7⟩
    · refine ⟨.slice a n (some n), s, [], ?_, .inl ⟨a, rfl, rfl, h3, h4, h5⟩, Nat.le_refl _, Nat.le_succ _, fun _ _ _ => rfl, fun j hj => (by cases hj), fun j hj => .inl hj⟩
      rw [appendA_eq ht hs hb h0 hx hsrc hc h1 h2]
      cases a with
      | none => rw [h4 rfl]; rfl
      | some io =>
        obtain ⟨i, o⟩ := io
        simp only [appTo, appExact, Nat.add_zero, ble_of (Nat.le_refl n), cond_true, storeN, Option.bind_some]
    · refine ⟨.slice (some (i, 0)) n none, s, O, ?_, .inr ⟨i, p, rfl, h6, h7⟩, Nat.le_refl _, Nat.le_succ _, fun _ _ _ => rfl, fun j hj => .inl hj, fun j hj => .inl hj⟩
      rw [appendA_eq ht hs hb h0 hx hsrc hc h1 h2]
      rcases h6.ex with ⟨e', _⟩ | ⟨_, k1, k2, k3, r, k4, k5, k6, k7, k8, k9⟩
      · cases e'
      · have hrow : rowAt s i = some r := by simp [rowAt, k4]
        have hrn : r.n = n * sz := by rw [k5.1, h6.len]
        simp only [appTo, hrow, Option.bind_some, appOpen, k8, beq_of rfl, guardB, cond_true, Nat.add_zero, Nat.zero_add]
        rw [show Nat.ble (n * sz) r.n = true from ble_of (by omega)]
        simp only [cond_true, storeN, Option.bind_some]
  · rcases h with ⟨a, rfl, rfl, h3, h4, h5⟩ | ⟨i, p, rfl, h6, h7⟩
    · -- a new array
      refine ⟨.slice (some (s.next, 0)) (n + m) none, newObj s (grownRow e sz (Tree.fill .leaf 0 (cs ++ add)) (cs ++ add).length none), [s.next], ?_, ?_, Nat.le_succ _, Nat.le_refl _, fun j hj _ => by rw [heap_new, if_neg (by omega)], fun j hj => by simp at hj; right; omega, fun j hj => by simp [slot] at hj; right; omega⟩
      · rw [appendA_eq ht hs hb h0 hx hsrc hc h1 h2]
        cases a with
        | none =>
          have hn0 := h4 rfl
          subst hn0
          have : cs = [] := by simp at h3; exact h3
          subst this
          simp only [appTo, beq_off (show m ≠ 0 by omega), cond_false, appFresh, guardB, hz, cond_true, List.nil_append, Nat.zero_add]
        | some io =>
          obtain ⟨i, o⟩ := io
          obtain ⟨k1, k2⟩ := h5 i o rfl
          simp only [appTo, appExact, ble_off (show n < n + m by omega), cond_false, k2, Option.bind_some, appFresh, guardB, hz, cond_true]
      · refine .inr ⟨s.next, none, rfl, ⟨by rw [List.length_append, h3, ha, Nat.add_mul], .inr ⟨rfl, Nat.zero_le _, Nat.lt_succ_self _, fun q hq => (by cases hq), _, by rw [heap_new, if_pos rfl]; rfl, ⟨rfl, ?_⟩, rfl, rfl, rfl, rfl⟩⟩, rfl⟩
        intro k u hk
        have hlt : k < (cs ++ add).length := by
          rcases Nat.lt_or_ge k (cs ++ add).length with h' | h'
          · exact h'
          · rw [List.getElem?_eq_none h'] at hk; cases hk
        show (Tree.fill .leaf 0 (cs ++ add)).get k = some u
        rw [Tree.get_fill, if_pos ⟨Nat.zero_le _, by omega⟩]
        simpa using hk
    · obtain ⟨a, cap, v', s', e1, e2, i', p', g1, g2, g3, g4, g5, g6, _⟩ := h6.appTo (Nat.le_refl _) (Nat.zero_le _) hz h0 ha hm
      injection e1 with e1 e3 e4
      subst e1; subst e4
      have hv' : v' = .slice (some (i', 0)) (n + m) none := by
        rcases g1.ex with ⟨_, e⟩ | ⟨e, _⟩
        · omega
        · exact e
      refine ⟨v', s', i' :: p'.toList, ?_, .inr ⟨i', p', hv', g1, rfl⟩, g2.1, by omega, ?_, ?_, ?_⟩
      · rw [appendA_eq ht hs hb h0 hx hsrc hc h1 h2]
        exact e2
      · intro j hj hO
        subst h7
        refine g2.2 j hj (fun e => hO (by simp [e])) (fun e => hO (by simp [e]))
      · intro j hj
        subst h7
        rcases List.mem_cons.1 hj with rfl | hj
        · right; omega
        · rcases g5 with rfl | rfl
          · cases hj
          · simp at hj; left; simp [hj]
      · intro j hj
        rw [hv'] at hj
        simp [slot] at hj
        right; omega

/-- One element, laid as a slice of its own: what is appended. -/
theorem src_one {P : Program} {e : TypeId} {s : ASt} {i : Nat} {cs : List AV} {n : Nat} {cap : Option Nat} {sz : Nat} (ty : TypeId) (z : Nat) (hg : s.heap.get i = some (mkRow ty z cs)) (hl : cs.length = n * sz) : srcCells P s e sz (.slice (some (i, 0)) n cap) = some (n, cs) := by
  obtain ⟨r, h1, h2, _⟩ := holds_mkRow ty z cs
  rw [h1] at hg
  have := loadN_holds hg h2 0 cs (by omega) (fun j u hj => by simpa using hj)
  rw [hl] at this
  simp [srcCells, srcN_load this]
end Go.Proofs.Ytilhhmkdcoajnaa.Am

/- What the reference's functions in and clean of layer 20 compute; conditions: the numbers fit. -/
set_option linter.unusedVariables false
set_option linter.unusedSimpArgs false
namespace Go.Proofs.Ytilhhmkdcoajnaa.Am
open Go Go.Proofs

theorem drop_facts {α : Type} {L l : List α} {k : Nat} {x : α} (h : L.drop k = x :: l) : k < L.length ∧ L[k]? = some x ∧ L.drop (k + 1) = l := by
  refine ⟨?_, ?_, ?_⟩
  · have := congrArg List.length h
    simp at this; omega
  · have := congrArg (fun l => l[0]?) h
    simpa using this
  · rw [← List.drop_drop, h]; rfl
theorem drop_end {α : Type} {L : List α} {k : Nat} (h : L.drop k = []) (hk : k ≤ L.length) : k = L.length := by
  have := congrArg List.length h
  simp at this; omega

/-! ### in -/
set_option maxRecDepth 4000 in
theorem in_loop {E : Env} (hE : Good E) {s : ASt} {b : Nat} {L : List Int} (hlen : L.length < 9223372036854775808) {a : Option (Nat × Nat)} {cap : Option Nat} (hc : CellsAt b s a (ivs L)) (n : Int) {Q : ARes → Prop} :
    ∀ (l : List Int) (k : Nat) (x2 x4 x5 : AV), L.drop k = l → k ≤ L.length →
      (∀ (e : AExit) (y2 y3 y4 y5 : AV), (e = .ret ∧ n ∈ l ∧ y2 = .bool true ∨ e = .exit 0 ∧ n ∉ l) → Q ⟨e, [.slice a L.length cap, iv n, y2, y3, y4, y5], [], s⟩) →
      WC E none (.loop c61l6) Q [.slice a L.length cap, iv n, x2, iv (k : Int), x4, x5] [] s := by
  intro l
  induction l with
  | nil =>
    intro k x2 x4 x5 hd hk hq
    have := drop_end hd hk
    subst this
    refine WC.loop' ?_
    simp only [c61l6, c61o2, len_slice Try.underlying23, Int.lt_irrefl, decide_false, wpC, wpI, wpS, wpD, wpV, wanted_none, wanted_some, vals, cev_const, cev_var, cev_loc, padV, okV_some, againP, true_and, and_true, upd_zero, upd_succ, nth_zero, nth_succ, wpG_true, wpG_false, condK_true, condK_false, seqK_normal, seqK_ret, seqK_exit, inBlock_normal, inBlock_ret, inBlock_exit, ends_ret, ends_normal, unmark_nil, results_nil, results_cons, one_one, one_zero, one_two, isB_undef, isB_tt, isB_ff, Bool.not_true, Bool.not_false, Option.bind_some, pick3, pickA, extractA, List.getElem?_cons_zero, List.getElem?_cons_succ, bin_lss, bin_gtr, bin_leq, bin_geq, bin_eql, bin_neq, un_not]
    exact hq _ _ _ _ _ (.inr ⟨rfl, by simp⟩)
  | cons x l ih =>
    intro k x2 x4 x5 hd hk hq
    obtain ⟨hlt, hx, hd'⟩ := drop_facts hd
    obtain ⟨i, o, rfl, hi, hload⟩ := hc k _ (get_ivs hx)
    have e1 := idx_slice (cap := cap) (i := i) (o := o) Try.underlying23 sz3 hlt
    have e2 : loadV Try.prog s 3 (.ptr (some (i, o + k * 1))) = some (iv x) := load_one ag3 (by rw [Nat.mul_one]; exact hload)
    have hkk : decide ((k : Int) < (L.length : Int)) = true := decide_eq_true (by omega)
    have e3 := bin_add Try.prog 3 (k : Int) 1 ⟨by omega, by omega⟩
    refine WC.loop' ?_
    by_cases h : x = n
    · simp only [c61l6, c61o2, c61o3, c61o4, len_slice Try.underlying23, hkk, e1, e2, h, decide_true, wpC, wpI, wpS, wpD, wpV, wanted_none, wanted_some, vals, cev_const, cev_var, cev_loc, padV, okV_some, againP, true_and, and_true, upd_zero, upd_succ, nth_zero, nth_succ, wpG_true, wpG_false, condK_true, condK_false, seqK_normal, seqK_ret, seqK_exit, inBlock_normal, inBlock_ret, inBlock_exit, ends_ret, ends_normal, unmark_nil, results_nil, results_cons, one_one, one_zero, one_two, isB_undef, isB_tt, isB_ff, Bool.not_true, Bool.not_false, Option.bind_some, pick3, pickA, extractA, List.getElem?_cons_zero, List.getElem?_cons_succ, bin_lss, bin_gtr, bin_leq, bin_geq, bin_eql, bin_neq, un_not]
      exact hq _ _ _ _ _ (.inl ⟨rfl, by simp [h], rfl⟩)
    · simp only [c61l6, c61o2, c61o3, c61o5, len_slice Try.underlying23, hkk, e1, e2, h, decide_false, e3, wpC, wpI, wpS, wpD, wpV, wanted_none, wanted_some, vals, cev_const, cev_var, cev_loc, padV, okV_some, againP, true_and, and_true, upd_zero, upd_succ, nth_zero, nth_succ, wpG_true, wpG_false, condK_true, condK_false, seqK_normal, seqK_ret, seqK_exit, inBlock_normal, inBlock_ret, inBlock_exit, ends_ret, ends_normal, unmark_nil, results_nil, results_cons, one_one, one_zero, one_two, isB_undef, isB_tt, isB_ff, Bool.not_true, Bool.not_false, Option.bind_some, pick3, pickA, extractA, List.getElem?_cons_zero, List.getElem?_cons_succ, bin_lss, bin_gtr, bin_leq, bin_geq, bin_eql, bin_neq, un_not]
      rw [show ((k : Int) + 1) = ((k + 1 : Nat) : Int) from by omega]
      refine ih (k + 1) _ _ _ hd' hlt ?_
      intro e y2 y3 y4 y5 he
      refine hq e y2 y3 y4 y5 ?_
      rcases he with ⟨h1, h2, h3⟩ | ⟨h1, h2⟩
      · exact .inl ⟨h1, List.mem_cons_of_mem _ h2, h3⟩
      · refine .inr ⟨h1, fun hm => ?_⟩
        rcases List.mem_cons.1 hm with h4 | h4
        · exact h h4.symm
        · exact h2 h4
theorem in_ok {E : Env} (hE : Good E) {s : ASt} {b : Nat} {L : List Int} (hlen : L.length < 9223372036854775808) {v : AV} (hv : SliceAt b s v (ivs L)) (n : Int) :
    WF E 61 [v, iv n] (fun v s' => v = .bool (decide (n ∈ L)) ∧ s = s') s := by
  obtain ⟨a, cap, rfl, hc⟩ := hv
  rw [List.length_map]
  refine hE.go comp61 (by decide) rfl ?_
  simp only [c61, c61o0, c61o1, wpC, wpI, wpS, wpD, wpV, wanted_none, wanted_some, vals, cev_const, cev_var, cev_loc, padV, okV_some, againP, true_and, and_true, upd_zero, upd_succ, nth_zero, nth_succ, wpG_true, wpG_false, condK_true, condK_false, seqK_normal, seqK_ret, seqK_exit, inBlock_normal, inBlock_ret, inBlock_exit, ends_ret, ends_normal, unmark_nil, results_nil, results_cons, one_one, one_zero, one_two, isB_undef, isB_tt, isB_ff, Bool.not_true, Bool.not_false, Option.bind_some, pick3, pickA, extractA, List.getElem?_cons_zero, List.getElem?_cons_succ, bin_lss, bin_gtr, bin_leq, bin_geq, bin_eql, bin_neq, un_not]
  refine in_loop hE hlen hc n L 0 _ _ _ rfl (Nat.zero_le _) ?_
  rintro e y2 y3 y4 y5 (⟨rfl, h, rfl⟩ | ⟨rfl, h⟩)
  · simp only [h, decide_true, wpC, wpI, wpS, wpD, wpV, wanted_none, wanted_some, vals, cev_const, cev_var, cev_loc, padV, okV_some, againP, true_and, and_true, upd_zero, upd_succ, nth_zero, nth_succ, wpG_true, wpG_false, condK_true, condK_false, seqK_normal, seqK_ret, seqK_exit, inBlock_normal, inBlock_ret, inBlock_exit, ends_ret, ends_normal, unmark_nil, results_nil, results_cons, one_one, one_zero, one_two, isB_undef, isB_tt, isB_ff, Bool.not_true, Bool.not_false, Option.bind_some, pick3, pickA, extractA, List.getElem?_cons_zero, List.getElem?_cons_succ, bin_lss, bin_gtr, bin_leq, bin_geq, bin_eql, bin_neq, un_not]
  · simp only [c61o7, h, decide_false, if_true, wpC, wpI, wpS, wpD, wpV, wanted_none, wanted_some, vals, cev_const, cev_var, cev_loc, padV, okV_some, againP, true_and, and_true, upd_zero, upd_succ, nth_zero, nth_succ, wpG_true, wpG_false, condK_true, condK_false, seqK_normal, seqK_ret, seqK_exit, inBlock_normal, inBlock_ret, inBlock_exit, ends_ret, ends_normal, unmark_nil, results_nil, results_cons, one_one, one_zero, one_two, isB_undef, isB_tt, isB_ff, Bool.not_true, Bool.not_false, Option.bind_some, pick3, pickA, extractA, List.getElem?_cons_zero, List.getElem?_cons_succ, bin_lss, bin_gtr, bin_leq, bin_geq, bin_eql, bin_neq, un_not]

/-! ### clean -/
/-- How far a number goes in. -/
def atV (x : Int) : List Int → Nat
  | [] => 0
  | y :: l => if y < x then atV x l + 1 else 0
def insV (x : Int) (L : List Int) : List Int := if L[atV x L]? = some x then L else L.take (atV x L) ++ (x :: L.drop (atV x L))
def nullV (x : Int) : Bool := decide (x = 0 ∨ x = -9223372036854775808)
def cleanV (out : List Int) : List Int → List Int
  | [] => out
  | x :: l => cleanV (if nullV x then out else insV x out) l

theorem atV_le (x : Int) (L : List Int) : atV x L ≤ L.length := by
  induction L with
  | nil => exact Nat.le_refl 0
  | cons y l ih => simp only [atV]; split <;> simp; omega
theorem insV_len (x : Int) (L : List Int) : (insV x L).length ≤ L.length + 1 := by
  unfold insV
  split
  · omega
  · have := atV_le x L
    simp; omega
theorem insV_i64 {x : Int} {L : List Int} (hx : i64 x) (hL : I64s L) : I64s (insV x L) := by
  unfold insV
  split
  · exact hL
  · intro y hy
    rcases List.mem_append.1 hy with h | h
    · exact hL y (List.mem_of_mem_take h)
    · rcases List.mem_cons.1 h with rfl | h
      · exact hx
      · exact hL y (List.mem_of_mem_drop h)

theorem eqA_slice {ax : Option (Nat × Nat)} {n : Nat} {cx : Option Nat} (h : ax = none → ∃ c, cx = some c) : eqA (.slice ax n cx) (.slice ax n cx) = true := by
  cases ax with
  | none => obtain ⟨c, rfl⟩ := h rfl; simp [eqA]
  | some io => obtain ⟨i, o⟩ := io; cases cx <;> simp [eqA]
theorem again_r (s : ASt) (loc var : List AV) (f : ASt → List AV → Option AV) (xs : List CX) (a : CX) : again1 s loc var ⟨none, .r f, xs, a⟩ = sameA (f s (vals loc var xs)) (cev loc var a) := by
  simp [again1, vals_eq, readA, wantedA]
theorem sameA_some (u v : AV) : sameA (some u) v = eqA u v := rfl

/-- Slices of a slice that grows. -/
theorem slice_hi {P : Program} {t e : TypeId} (ht : P.underlying t = some (.slice e)) (hs : sizeT P e = some 1) {s : ASt} {v : AV} {n k : Nat} {cs : List AV} {O : List Nat} (h : Dest s v n 1 cs O) (hk : k ≤ n) :
    ∃ ax cx, eqA (.slice ax k cx) (.slice ax k cx) = true ∧ sliceOpnds P t false true false s [v, iv (k : Int)] = some (.slice ax k cx) ∧ (∀ s', (∀ j, slot v = some j → s'.heap.get j = s.heap.get j) → sliceOpnds P t false true false s' [v, iv (k : Int)] = some (.slice ax k cx) ∧ srcCells P s' e 1 (.slice ax k cx) = some (k, cs.take k)) := by
  have hb : boundA (iv (k : Int)) n = some k := by simp [boundA, idxOf, natOf_nat, guardB, ble_of hk]
  have main : ∃ ax cx, (ax = none → ∃ c, cx = some c) ∧ ∀ s', (∀ j, slot v = some j → s'.heap.get j = s.heap.get j) → sliceOpnds P t false true false s' [v, iv (k : Int)] = some (.slice ax k cx) ∧ srcCells P s' e 1 (.slice ax k cx) = some (k, cs.take k) := by
    rcases h with ⟨a, rfl, rfl, h3, h4, h5⟩ | ⟨i, p, rfl, h6, h7⟩
    · cases a with
      | none =>
        have hn := h4 rfl
        subst hn
        have hk0 : k = 0 := by omega
        subst hk0
        have : cs = [] := by simp at h3; exact h3
        subst this
        refine ⟨none, some 0, (fun _ => ⟨0, rfl⟩), fun s' _ => ⟨?_, rfl⟩⟩
        show sliceA P s' t (.slice none 0 (some 0)) none (some (iv ((0 : Nat) : Int))) none = _
        simp only [sliceA, ht, hs, Option.bind_some, hb]
      | some io =>
        obtain ⟨i, o⟩ := io
        obtain ⟨k1, k2⟩ := h5 i o rfl
        refine ⟨some (i, o), some n, (fun e => by cases e), fun s' hs' => ⟨?_, ?_⟩⟩
        · show sliceA P s' t (.slice (some (i, o)) n (some n)) none (some (iv (k : Int))) none = _
          simp only [sliceA, ht, hs, Option.bind_some, hb, Nat.sub_zero]
          cases hbb : Nat.beq n 0 <;> rfl
        · have k2' : loadN s' i o (n * 1) = some cs := by rw [loadN_eq (hs' i rfl)]; exact k2
          have : loadN s' i o (k * 1) = some (cs.take k) := by
            unfold loadN at k2' ⊢
            simp only [Option.bind_eq_some_iff] at k2' ⊢
            obtain ⟨r, g1, g2⟩ := k2'
            refine ⟨r, g1, ?_⟩
            have g3 : Nat.ble (o + n * 1) r.n = true ∧ r.c.take o (n * 1) = some cs := by
              cases hb : Nat.ble (o + n * 1) r.n with
              | true => rw [hb] at g2; exact ⟨rfl, g2⟩
              | false => rw [hb] at g2; cases g2
            have g4 : o + n * 1 ≤ r.n := by simpa [Nat.ble_eq] using g3.1
            rw [ble_of (show o + k * 1 ≤ r.n by omega)]
            have hl : (cs.take k).length = k * 1 := by simp; omega
            rw [← hl]
            refine take_of _ _ fun j u hj => ?_
            have hjk : j < k := by
              rcases Nat.lt_or_ge j k with h' | h'
              · exact h'
              · rw [List.getElem?_eq_none (by simp; omega)] at hj; cases hj
            rw [List.getElem?_take_of_lt hjk] at hj
            exact (Tree.take_get g3.2 j (by omega)).trans hj
          simp [srcCells, srcN_load this]
    · rcases h6.ex with ⟨e', _⟩ | ⟨_, q1, q2, q3, r, q4, q5, q6, q7, q8, q9⟩
      · cases e'
      · have hrn : r.n = n * 1 := by rw [q5.1, h6.len]
        refine ⟨some (i, 0), none, (fun e => by cases e), fun s' hs' => ?_⟩
        have hg : s'.heap.get i = some (.row r) := by rw [hs' i rfl]; exact q4
        have hrow : rowAt s' i = some r := by simp [rowAt, hg]
        refine ⟨?_, ?_⟩
        · show sliceA P s' t (.slice (some (i, 0)) n none) none (some (iv (k : Int))) none = _
          have hfar : (r.n - 0) / 1 = n := by omega
          simp only [sliceA, ht, hs, Option.bind_some, hrow, ble_of (Nat.zero_le r.n), q8, guardB, beq_of rfl, Bool.and_self, Bool.true_and, hfar, hb]
          rw [show Nat.beq 1 0 = false from rfl]
          simp only [Bool.not_false, cond_true, Option.bind_some, hfar, hb, Nat.sub_zero, Nat.zero_mul, Nat.add_zero]
        · have hl : (cs.take k).length = k * 1 := by have := h6.len; simp; omega
          have := loadN_holds hg q5 0 (cs.take k) (by simp; omega) (fun j u hj => by
            have hjk : j < k := by
              rcases Nat.lt_or_ge j k with h' | h'
              · exact h'
              · rw [List.getElem?_eq_none (by simp; omega)] at hj; cases hj
            rw [List.getElem?_take_of_lt hjk] at hj
            simpa using hj)
          rw [hl] at this
          simp [srcCells, srcN_load this]
  obtain ⟨ax, cx, hne, hm⟩ := main
  exact ⟨ax, cx, eqA_slice hne, (hm s fun _ _ => rfl).1, hm⟩
theorem slice_lo {P : Program} {t e : TypeId} (ht : P.underlying t = some (.slice e)) (hs : sizeT P e = some 1) {s : ASt} {v : AV} {n k : Nat} {cs : List AV} {O : List Nat} (h : Dest s v n 1 cs O) (hk : k ≤ n) :
    ∃ ax cx, eqA (.slice ax (n - k) cx) (.slice ax (n - k) cx) = true ∧ sliceOpnds P t true false false s [v, iv (k : Int)] = some (.slice ax (n - k) cx) ∧ (∀ s', (∀ j, slot v = some j → s'.heap.get j = s.heap.get j) → sliceOpnds P t true false false s' [v, iv (k : Int)] = some (.slice ax (n - k) cx) ∧ srcCells P s' e 1 (.slice ax (n - k) cx) = some (n - k, cs.drop k)) := by
  have hb : boundA (iv (k : Int)) n = some k := by simp [boundA, idxOf, natOf_nat, guardB, ble_of hk]
  have main : ∃ ax cx, (ax = none → ∃ c, cx = some c) ∧ ∀ s', (∀ j, slot v = some j → s'.heap.get j = s.heap.get j) → sliceOpnds P t true false false s' [v, iv (k : Int)] = some (.slice ax (n - k) cx) ∧ srcCells P s' e 1 (.slice ax (n - k) cx) = some (n - k, cs.drop k) := by
    rcases h with ⟨a, rfl, rfl, h3, h4, h5⟩ | ⟨i, p, rfl, h6, h7⟩
    · cases a with
      | none =>
        have hn := h4 rfl
        subst hn
        have hk0 : k = 0 := by omega
        subst hk0
        have : cs = [] := by simp at h3; exact h3
        subst this
        refine ⟨none, some 0, (fun _ => ⟨0, rfl⟩), fun s' _ => ⟨?_, rfl⟩⟩
        show sliceA P s' t (.slice none 0 (some 0)) (some (iv ((0 : Nat) : Int))) none none = _
        simp only [sliceA, ht, hs, Option.bind_some, hb]
      | some io =>
        obtain ⟨i, o⟩ := io
        obtain ⟨k1, k2⟩ := h5 i o rfl
        refine ⟨bif Nat.beq n k then some (i, o) else some (i, o + k * 1), some (n - k), (fun _ => ⟨_, rfl⟩), fun s' hs' => ⟨?_, ?_⟩⟩
        · show sliceA P s' t (.slice (some (i, o)) n (some n)) (some (iv (k : Int))) none none = _
          simp only [sliceA, ht, hs, Option.bind_some, hb]
        · have k2' : loadN s' i o (n * 1) = some cs := by rw [loadN_eq (hs' i rfl)]; exact k2
          have gen : ∀ q, (q = o + k ∨ n - k = 0 ∧ q ≤ o + n) → loadN s' i q (n - k) = some (cs.drop k) := by
            intro q hq
            unfold loadN at k2' ⊢
            simp only [Option.bind_eq_some_iff] at k2' ⊢
            obtain ⟨r, g1, g2⟩ := k2'
            refine ⟨r, g1, ?_⟩
            have g3 : Nat.ble (o + n * 1) r.n = true ∧ r.c.take o (n * 1) = some cs := by
              cases hb : Nat.ble (o + n * 1) r.n with
              | true => rw [hb] at g2; exact ⟨rfl, g2⟩
              | false => rw [hb] at g2; cases g2
            have g4 : o + n * 1 ≤ r.n := by simpa [Nat.ble_eq] using g3.1
            rw [ble_of (show q + (n - k) ≤ r.n by omega)]
            have hl : (cs.drop k).length = n - k := by simp; omega
            rw [← hl]
            refine take_of _ _ fun j u hj => ?_
            have hjk : j < n - k := by
              rcases Nat.lt_or_ge j (n - k) with h' | h'
              · exact h'
              · rw [List.getElem?_eq_none (by omega)] at hj; cases hj
            rw [List.getElem?_drop] at hj
            have := (Tree.take_get g3.2 (k + j) (by omega)).trans hj
            have hqo : q + j = o + (k + j) := by omega
            rw [hqo]
            exact this
          cases hbb : Nat.beq n k with
          | true =>
            have := Nat.eq_of_beq_eq_true hbb
            simp only [cond_true, srcCells]
            rw [srcN_load (size := 1) (by rw [Nat.mul_one]; exact gen o (.inr ⟨by omega, by omega⟩))]
            rfl
          | false =>
            simp only [cond_false, srcCells, Nat.mul_one]
            rw [srcN_load (size := 1) (by rw [Nat.mul_one]; exact gen (o + k) (.inl rfl))]
            rfl
    · rcases h6.ex with ⟨e', _⟩ | ⟨_, q1, q2, q3, r, q4, q5, q6, q7, q8, q9⟩
      · cases e'
      · have hrn : r.n = n * 1 := by rw [q5.1, h6.len]
        refine ⟨some (i, 0 + k * 1), none, (fun e => by cases e), fun s' hs' => ?_⟩
        have hg : s'.heap.get i = some (.row r) := by rw [hs' i rfl]; exact q4
        have hrow : rowAt s' i = some r := by simp [rowAt, hg]
        refine ⟨?_, ?_⟩
        · show sliceA P s' t (.slice (some (i, 0)) n none) (some (iv (k : Int))) none none = _
          have hfar : (r.n - 0) / 1 = n := by omega
          simp only [sliceA, ht, hs, Option.bind_some, hrow, ble_of (Nat.zero_le r.n), q8, guardB, beq_of rfl, Bool.and_self, Bool.true_and, hfar, hb]
          rw [show Nat.beq 1 0 = false from rfl]
          simp only [Bool.not_false, cond_true, Option.bind_some, hfar, hb]
        · have hl : (cs.drop k).length = n - k := by have := h6.len; simp; omega
          have := loadN_holds hg q5 (0 + k * 1) (cs.drop k) (by have := h6.len; simp; omega) (fun j u hj => by
            rw [List.getElem?_drop] at hj
            rw [← hj]; congr 1; omega)
          rw [hl] at this
          simp only [srcCells]
          rw [srcN_load (size := 1) (by rw [Nat.mul_one (n - k)]; exact this)]
          rfl
  obtain ⟨ax, cx, hne, hm⟩ := main
  exact ⟨ax, cx, eqA_slice hne, (hm s fun _ _ => rfl).1, hm⟩

/-! ### clean: its loops -/
def FitsL (L : List Int) : Prop := I64s L ∧ L.length ≤ 1000

theorem bld_one {P : Program} {t e : TypeId} (ht : P.underlying t = some (.slice e)) (hs : sizeT P e = some 1) {z v : AV} (hz : zeroT P e = some z) (hzc : z.cells.length = 1) (hv : v.cells = [v]) :
    sliceRowA P t 1 (zipIdx [0] [v]) = some (mkRow e 1 [v]) := by
  have hzl : (rep z.cells 1).length = 1 := by simp [rep, hzc]
  have : ∃ c, rep z.cells 1 = [c] := List.length_eq_one_iff.1 hzl
  obtain ⟨c, hc⟩ := this
  simp [sliceRowA, ht, hs, guardB, hz, hzc, zipIdx, fillA, hv, hc]
  rfl
theorem bld_zero {P : Program} {t e : TypeId} (ht : P.underlying t = some (.slice e)) (hs : sizeT P e = some 1) {z : AV} (hz : zeroT P e = some z) (hzc : z.cells.length = 1) :
    sliceRowA P t 0 (zipIdx [] []) = some (mkRow e 1 []) := by
  simp [sliceRowA, ht, hs, guardB, hz, hzc, zipIdx, fillA, rep]
  rfl

set_option maxRecDepth 8000 in
theorem clean_at {E : Env} (hE : Good E) {s : ASt} {out : List Int} {O : List Nat} (ho : out.length ≤ 1000) {v2 : AV} (hd : Dest s v2 out.length 1 (ivs out) O) (x : Int) (v0 v1 v3 v6 v7 v9 : AV) {Q : ARes → Prop} :
    ∀ (l : List Int) (k : Nat) (x8 : AV), out.drop k = l → k ≤ out.length → (∀ y8, Q ⟨.exit 2, [v0, v1, v2, v3, iv x, iv ((k + atV x l : Nat) : Int), v6, v7, y8, v9], [], s⟩) →
      WC E none (.loop c59l9) Q [v0, v1, v2, v3, iv x, iv (k : Int), v6, v7, x8, v9] [] s := by
  obtain ⟨a, cap, rfl, hc⟩ := hd.cells
  intro l
  induction l with
  | nil =>
    intro k x8 hdr hk hq
    have := drop_end hdr hk
    subst this
    refine WC.loop' ?_
    simp only [c59l9, c59o7, len_slice Try.underlying23, Int.lt_irrefl, decide_false, Bool.false_eq_true, beq_false, Bool.not_false, Bool.not_true, wpC, wpI, wpS, wpD, wpV, wanted_none, wanted_some, vals, cev_const, cev_var, cev_loc, padV, okV_some, againP, true_and, and_true, upd_zero, upd_succ, nth_zero, nth_succ, wpG_true, wpG_false, condK_true, condK_false, seqK_normal, seqK_ret, seqK_exit, inBlock_normal, inBlock_ret, inBlock_exit, ends_ret, ends_normal, unmark_nil, results_nil, results_cons, one_one, one_zero, one_two, isB_undef, isB_tt, isB_ff, Bool.not_true, Bool.not_false, Option.bind_some, pick3, pickA, extractA, List.getElem?_cons_zero, List.getElem?_cons_succ, bin_lss, bin_gtr, bin_leq, bin_geq, bin_eql, bin_neq, un_not]
    exact hq _
  | cons y l ih =>
    intro k x8 hdr hk hq
    obtain ⟨hlt, hy, hd'⟩ := drop_facts hdr
    obtain ⟨i, o, rfl, hi, hload⟩ := hc k _ (get_ivs hy)
    have e1 := idx_slice (cap := cap) (i := i) (o := o) Try.underlying23 sz3 hlt
    have e2 : loadV Try.prog s 3 (.ptr (some (i, o + k * 1))) = some (iv y) := load_one ag3 (by rw [Nat.mul_one]; exact hload)
    have hkk : decide ((k : Int) < (out.length : Int)) = true := decide_eq_true (by omega)
    have e3 := bin_add Try.prog 3 (k : Int) 1 ⟨by omega, by omega⟩
    refine WC.loop' ?_
    by_cases h : y < x
    · simp only [c59l9, c59o7, c59o8, len_slice Try.underlying23, hkk, e1, e2, e3, h, decide_true, beq_self_eq_true, wpC, wpI, wpS, wpD, wpV, wanted_none, wanted_some, vals, cev_const, cev_var, cev_loc, padV, okV_some, againP, true_and, and_true, upd_zero, upd_succ, nth_zero, nth_succ, wpG_true, wpG_false, condK_true, condK_false, seqK_normal, seqK_ret, seqK_exit, inBlock_normal, inBlock_ret, inBlock_exit, ends_ret, ends_normal, unmark_nil, results_nil, results_cons, one_one, one_zero, one_two, isB_undef, isB_tt, isB_ff, Bool.not_true, Bool.not_false, Option.bind_some, pick3, pickA, extractA, List.getElem?_cons_zero, List.getElem?_cons_succ, bin_lss, bin_gtr, bin_leq, bin_geq, bin_eql, bin_neq, un_not]
      rw [show ((k : Int) + 1) = ((k + 1 : Nat) : Int) from by omega]
      refine ih (k + 1) _ hd' hlt fun y8 => ?_
      have : k + 1 + atV x l = k + atV x (y :: l) := by simp only [atV, if_pos h]; omega
      rw [this]
      exact hq y8
    · simp only [c59l9, c59o7, len_slice Try.underlying23, hkk, e1, e2, h, decide_false, beq_self_eq_true, wpC, wpI, wpS, wpD, wpV, wanted_none, wanted_some, vals, cev_const, cev_var, cev_loc, padV, okV_some, againP, true_and, and_true, upd_zero, upd_succ, nth_zero, nth_succ, wpG_true, wpG_false, condK_true, condK_false, seqK_normal, seqK_ret, seqK_exit, inBlock_normal, inBlock_ret, inBlock_exit, ends_ret, ends_normal, unmark_nil, results_nil, results_cons, one_one, one_zero, one_two, isB_undef, isB_tt, isB_ff, Bool.not_true, Bool.not_false, Option.bind_some, pick3, pickA, extractA, List.getElem?_cons_zero, List.getElem?_cons_succ, bin_lss, bin_gtr, bin_leq, bin_geq, bin_eql, bin_neq, un_not]
      have : k + atV x (y :: l) = k := by simp only [atV, if_neg h]; omega
      rw [this] at hq
      exact hq _

theorem zero3 : zeroOk Try.prog 3 1 = true := by simp [zeroOk, zr3, AV.cells]
theorem strx (t : TypeId) (e : TypeId) (h : Try.prog.underlying t = some (.slice e)) : isSliceOrStr Try.prog t = true := by simp [isSliceOrStr, h]
theorem cells_ivs (L : List Int) : allCells (ivs L) = true := by
  induction L with
  | nil => rfl
  | cons x l ih => simpa [allCells, AV.isCell] using ih

set_option maxRecDepth 8000 in
/-- A number is put in. -/
theorem ins_step {E : Env} {s : ASt} {out : List Int} {O : List Nat} (ho : out.length ≤ 1000) {v2 : AV} (hd : Dest s v2 out.length 1 (ivs out) O) (x : Int) {k : Nat} (hk : k ≤ out.length) (v0 v1 v3 v6 v7 v8 v9 : AV) {K : List AV → ASt → Prop}
    (hK : ∀ v' s' O', Dest s' v' (out.length + 1) 1 (ivs (out.take k ++ (x :: out.drop k))) O' → Old s.next s s' → K [v0, v1, v', v3, iv x, iv (k : Int), v6, v7, v8, v9] s') :
    wpI E c59o11 K [] [v0, v1, v2, v3, iv x, iv (k : Int), v6, v7, v8, v9] s := by
  obtain ⟨ax, cx, q1, q2, q3⟩ := slice_hi (P := Try.prog) (t := 23) Try.underlying23 sz3 hd hk
  obtain ⟨ay, cy, p1, p2, p3⟩ := slice_lo (P := Try.prog) (t := 23) Try.underlying23 sz3 hd hk
  have hslot : ∀ j, slot v2 = some j → j < s.next := by
    intro j hj
    rcases hd with ⟨a, rfl, h2, h3, h4, h5⟩ | ⟨i, p, rfl, h2, h3⟩
    · cases a with
      | none => cases hj
      | some io => obtain ⟨i, o⟩ := io; simp [slot] at hj; subst hj; exact (h5 i o rfl).1
    · simp [slot] at hj; subst hj
      rcases h2.ex with ⟨e, _⟩ | ⟨_, _, k2, _⟩
      · cases e
      · exact k2
  have b0 := bld_zero (P := Try.prog) (t := 23) Try.underlying23 sz3 zr3 rfl
  have b1 := bld_one (P := Try.prog) (t := 23) (v := iv x) Try.underlying23 sz3 zr3 rfl rfl
  generalize hs1 : newObj s (mkRow 3 1 []) = s1
  generalize hs2 : newObj s1 (mkRow 3 1 [iv x]) = s2
  have n1 : s1.next = s.next + 1 := by rw [← hs1]; rfl
  have n2 : s2.next = s.next + 2 := by rw [← hs2]; show s1.next + 1 = _; omega
  have g1 : ∀ j, s1.heap.get j = if j = s.next then some (mkRow 3 1 []) else s.heap.get j := fun j => by rw [← hs1, heap_new]
  have g2 : ∀ j, s2.heap.get j = if j = s.next + 1 then some (mkRow 3 1 [iv x]) else s1.heap.get j := fun j => by rw [← hs2, heap_new, n1]
  have o2 : ∀ j, j < s.next → s2.heap.get j = s.heap.get j := fun j hj => by rw [g2, if_neg (by omega), g1, if_neg (by omega)]
  have q4 := (q3 s1 fun j hj => by rw [g1, if_neg (by have := hslot j hj; omega)]).1
  have p4 := (p3 s2 fun j hj => o2 j (hslot j hj)).1
  have q5 := (q3 s2 fun j hj => o2 j (hslot j hj)).2
  -- the first append
  have d0 : Dest s2 (.slice (some (s.next, 0)) 0 (some 0)) 0 1 [] [] := by
    refine .inl ⟨_, rfl, rfl, rfl, fun e => (by cases e), fun i o e => ?_⟩
    injection e with e
    injection e with e1 e2
    subst e1; subst e2
    refine ⟨by omega, ?_⟩
    obtain ⟨r, h1, h2, _⟩ := holds_mkRow 3 1 []
    exact loadN_holds (s := s2) (i := s.next) (by rw [g2, if_neg (by omega), g1, if_pos rfl, h1]) h2 0 [] (Nat.le_refl _) (fun j u hj => by simp at hj)
  have ivlen : (ivs out).length = out.length := List.length_map _
  obtain ⟨va, s3, Oa, a1, a2, a3, a4, a5, a6, a7⟩ := d0.append (P := Try.prog) (st := 23) (xt := 23) Try.underlying23 sz3 by3 (by decide) (strx 23 3 Try.underlying23) zero3 q5 (by simp; omega) (by rw [← List.map_take]; exact cells_ivs _) (by omega) (by omega)
  -- the second
  have g3 : s3.heap.get (s.next + 1) = some (mkRow 3 1 [iv x]) := by
    rw [a5 (s.next + 1) (by omega) (by simp), g2, if_pos rfl]
  have c1 := src_one (P := Try.prog) (e := 3) (s := s3) (n := 1) (cap := some 1) (sz := 1) 3 1 g3 rfl
  obtain ⟨vb, s4, Ob, b2, b3, b4, b5, b6, b7, b8⟩ := a2.append (P := Try.prog) (st := 23) (xt := 23) Try.underlying23 sz3 by3 (by decide) (strx 23 3 Try.underlying23) zero3 c1 rfl rfl (by omega) (by omega)
  have Oa_new : ∀ j ∈ Oa, s2.next ≤ j := fun j hj => (a6 j hj).elim (fun h => by cases h) id
  have o3 : ∀ j, j < s.next → s3.heap.get j = s.heap.get j := fun j hj => (a5 j (by omega) (by simp)).trans (o2 j hj)
  have o4 : ∀ j, j < s.next → s4.heap.get j = s.heap.get j := fun j hj => (b6 j (by omega) (fun h => by have := Oa_new j h; omega)).trans (o3 j hj)
  have p5 := (p3 s3 fun j hj => o3 j (hslot j hj)).1
  have p6 := p3 s4 fun j hj => o4 j (hslot j hj)
  -- the third
  obtain ⟨vc, s5, Oc, e1, e2, e3, e4, e5, e6, e7⟩ := b3.append (P := Try.prog) (st := 23) (xt := 23) Try.underlying23 sz3 by3 (by decide) (strx 23 3 Try.underlying23) zero3 p6.2 (by simp) (by rw [← List.map_drop]; exact cells_ivs _) (by omega) (by omega)
  have Ob_new : ∀ j ∈ Ob, s2.next ≤ j := fun j hj => (b7 j hj).elim (fun h => Oa_new j h) (fun h => by omega)
  have o5 : ∀ j, j < s.next → s5.heap.get j = s.heap.get j := fun j hj => (e5 j (by omega) (fun h => by have := Ob_new j h; omega)).trans (o4 j hj)
  have hlast : (0 + k + 1 + (out.length - k)) = out.length + 1 := by omega
  have hcs : ([] ++ (ivs out).take k) ++ [iv x] ++ (ivs out).drop k = ivs (out.take k ++ (x :: out.drop k)) := by
    simp [List.map_take, List.map_drop]
  rw [hlast, hcs] at e2
  have hs1n : newObj s (mkRow 3 1 []) = s1 := hs1
  have hmv : ∀ (m : Nat) (i : Nat), Made.val i (.slice m) = .slice (some (i, 0)) m (some m) := fun _ _ => rfl
  simp only [c59o11, b0, b1, hs1, hs2, hmv, n1, q4, p4, a1, b2, e1, p5, p6.1, again_r, sameA_some, p1, wpC, wpI, wpS, wpD, wpV, wanted_none, wanted_some, vals, cev_const, cev_var, cev_loc, padV, okV_some, againP, true_and, and_true, upd_zero, upd_succ, nth_zero, nth_succ, wpG_true, wpG_false, condK_true, condK_false, seqK_normal, seqK_ret, seqK_exit, inBlock_normal, inBlock_ret, inBlock_exit, ends_ret, ends_normal, unmark_nil, results_nil, results_cons, one_one, one_zero, one_two, isB_undef, isB_tt, isB_ff, Bool.not_true, Bool.not_false, Option.bind_some, pick3, pickA, extractA, List.getElem?_cons_zero, List.getElem?_cons_succ, bin_lss, bin_gtr, bin_leq, bin_geq, bin_eql, bin_neq, un_not]
  exact hK vc s5 Oc e2 ⟨by omega, o5⟩
end Go.Proofs.Ytilhhmkdcoajnaa.Am
