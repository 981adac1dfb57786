/- Calls of Follows are answered by its contract, where the abstract machine runs a closed law; conditions: none. -/
import Derived.Test.YtilhhmkdcoajnaaAmDrup3
import Derived.Test.YtilhhmkdcoajnaaAmEnd
set_option linter.unusedVariables false
set_option linter.unusedSimpArgs false
namespace Go.Proofs.Ytilhhmkdcoajnaa.Am
open Go Go.Proofs

/-! ### Data are read -/
def intsOf : List AV → Option (List Int)
  | [] => some []
  | .int .i64 n :: l => guardB (inRange .i64 n) ((intsOf l).bind fun r => some (n :: r))
  | _ => none
def readInts (s : ASt) : AV → Option (List Int)
  | .slice none n _ => guardB (Nat.beq n 0) (some [])
  | .slice (some (i, o)) n _ => guardB (Nat.blt i s.next && Nat.ble n 1000) ((loadN s i o n).bind intsOf)
  | _ => none
def rowsOf (s : ASt) : List AV → Option (List (List Int))
  | [] => some []
  | v :: l => (readInts s v).bind fun L => (rowsOf s l).bind fun r => some (L :: r)
def readRows (s : ASt) : AV → Option (List (List Int))
  | .slice none n _ => guardB (Nat.beq n 0) (some [])
  | .slice (some (i, o)) n _ => guardB (Nat.blt i s.next && Nat.ble n 1000) ((loadN s i o n).bind (rowsOf s))
  | _ => none

theorem i64_inRange {n : Int} (h : inRange .i64 n = true) : i64 n := by
  cases n with
  | ofNat m =>
    simp only [inRange, Nat.ble_eq] at h
    have e : Int.ofNat m = (m : Int) := rfl
    rw [e]
    exact ⟨by omega, by omega⟩
  | negSucc m => simp only [inRange, Nat.ble_eq] at h; exact ⟨by omega, by omega⟩
theorem intsOf_ok : ∀ {l : List AV} {L : List Int}, intsOf l = some L → l = ivs L ∧ I64s L
  | [], L, h => by injection h with h; subst h; exact ⟨rfl, (fun x hx => by cases hx)⟩
  | v :: l, L, h => by
    unfold intsOf at h
    split at h
    · rename_i e; cases e
    · rename_i n l' e
      injection e with e1 e2
      subst e1; subst e2
      obtain ⟨h1, h2⟩ := guardB_some h
      simp only [Option.bind_eq_some_iff] at h2
      obtain ⟨r, h3, h4⟩ := h2
      injection h4 with h4
      subst h4
      obtain ⟨g1, g2⟩ := intsOf_ok h3
      refine ⟨by rw [g1]; rfl, fun x hx => ?_⟩
      rcases List.mem_cons.1 hx with rfl | hx
      · exact i64_inRange h1
      · exact g2 x hx
    · cases h
theorem loadN_one {s : ASt} {i o n : Nat} {l : List AV} (h : loadN s i o n = some l) : l.length = n ∧ ∀ k u, l[k]? = some u → load1 s i (o + k) = some u := by
  unfold loadN at h
  simp only [Option.bind_eq_some_iff] at h
  obtain ⟨r, h1, h2⟩ := h
  obtain ⟨h3, h4⟩ := guardB_some h2
  have hl := Tree.take_length h4
  refine ⟨hl, fun k u hk => ?_⟩
  have hlt : k < n := by
    rcases Nat.lt_or_ge k n with h' | h'
    · exact h'
    · rw [List.getElem?_eq_none (by omega)] at hk; cases hk
  have h3 : o + n ≤ r.n := by simpa [Nat.ble_eq] using h3
  exact load1_row (by unfold rowAt at h1; split at h1; · injection h1 with h1; subst h1; assumption
                      · cases h1) (by omega) ((Tree.take_get h4 k hlt).trans hk)
theorem readInts_ok {s : ASt} {v : AV} {L : List Int} (h : readInts s v = some L) : SliceAt s.next s v (ivs L) ∧ I64s L ∧ L.length ≤ 1000 := by
  unfold readInts at h
  split at h
  · obtain ⟨h1, h2⟩ := guardB_some h
    injection h2 with h2
    subst h2
    have := Nat.eq_of_beq_eq_true h1
    subst this
    exact ⟨⟨_, _, rfl, CellsAt.nil⟩, (fun x hx => by cases hx), by decide⟩
  · rename_i i o n c
    obtain ⟨h1, h2⟩ := guardB_some h
    simp only [Bool.and_eq_true] at h1
    simp only [Option.bind_eq_some_iff] at h2
    obtain ⟨l, h3, h4⟩ := h2
    obtain ⟨g1, g2⟩ := intsOf_ok h4
    obtain ⟨g3, g4⟩ := loadN_one h3
    subst g1
    have hn : L.length = n := by rw [← g3]; simp
    refine ⟨⟨some (i, o), c, by rw [g3], fun k u hk => ⟨i, o, rfl, by simpa [Nat.blt_eq] using h1.1, g4 k u hk⟩⟩, g2, ?_⟩
    rw [hn]
    simpa [Nat.ble_eq] using h1.2
  · cases h
theorem rowsOf_ok {s : ASt} : ∀ {l : List AV} {cs : List (List Int)}, rowsOf s l = some cs → l.length = cs.length ∧ (∀ (k : Nat) (L : List Int), cs[k]? = some L → ∃ u : AV, l[k]? = some u ∧ readInts s u = some L)
  | [], cs, h => by injection h with h; subst h; exact ⟨rfl, fun k L hk => by simp at hk⟩
  | v :: l, cs, h => by
    simp only [rowsOf, Option.bind_eq_some_iff] at h
    obtain ⟨L, h1, r, h2, h3⟩ := h
    injection h3 with h3
    subst h3
    obtain ⟨g1, g2⟩ := rowsOf_ok h2
    refine ⟨by simp [g1], fun k L' hk => ?_⟩
    cases k with
    | zero => simp at hk; subst hk; exact ⟨v, rfl, h1⟩
    | succ k => simpa using g2 k L' (by simpa using hk)
theorem fits_rows {s : ASt} {l : List AV} {cs : List (List Int)} (h : rowsOf s l = some cs) (hl : l.length ≤ 1000) : Fits cs := by
  obtain ⟨g1, g2⟩ := rowsOf_ok h
  refine ⟨by omega, fun L hL => ?_⟩
  obtain ⟨k, hk⟩ := List.mem_iff_getElem?.1 hL
  obtain ⟨u, _, h2⟩ := g2 k L hk
  have := readInts_ok h2
  exact ⟨this.2.1, by have := this.2.2; omega⟩
theorem readRows_ok {s : ASt} {v : AV} {cs : List (List Int)} (h : readRows s v = some cs) : RowsOf s.next s v cs ∧ Fits cs := by
  unfold readRows at h
  split at h
  · obtain ⟨h1, h2⟩ := guardB_some h
    injection h2 with h2
    subst h2
    have := Nat.eq_of_beq_eq_true h1
    subst this
    exact ⟨⟨_, _, rfl, (fun k L hk => by simp at hk)⟩, ⟨by decide, (fun L hL => by cases hL)⟩⟩
  · rename_i i o n c
    obtain ⟨h1, h2⟩ := guardB_some h
    simp only [Bool.and_eq_true] at h1
    simp only [Option.bind_eq_some_iff] at h2
    obtain ⟨l, h3, h4⟩ := h2
    obtain ⟨g3, g4⟩ := loadN_one h3
    obtain ⟨g1, g2⟩ := rowsOf_ok h4
    refine ⟨⟨some (i, o), c, by rw [← g3, g1], fun k L hk => ?_⟩, fits_rows h4 (by rw [g3]; simpa [Nat.ble_eq] using h1.2)⟩
    obtain ⟨u, k1, k2⟩ := g2 k L hk
    exact ⟨i, o, u, rfl, by simpa [Nat.blt_eq] using h1.1, g4 k u k1, (readInts_ok k2).1⟩
  · cases h

/-! ### What a call leaves that only makes new objects -/
theorem EndRel.forget {P : Program} {ρ : Rho} {s s1 : ASt} {w w' : World} {v : AV} {e : Ending} {m : Nat} (h : EndRel P ρ s w v s1 e w') (ho : Old s.next s s1) (hm : s1.next ≤ m) (hf : FreshH ρ s) : EndRel P ρ s w v ⟨m, s.heap⟩ e w' := by
  cases e with
  | panicked c => exact h
  | outgrown => exact h
  | returned v' =>
    obtain ⟨ρ', h1, h2, h3⟩ := h
    have sub : ∀ i o, s.heap.get i = some o → s1.heap.get i = some o := by
      intro i o hi
      have : i < s.next := by
        rcases Nat.lt_or_ge i s.next with h' | h'
        · exact h'
        · rw [(hf i h').2] at hi; cases hi
      rw [ho.2 i this]; exact hi
    have hn := ho.1
    refine ⟨ρ', h1, ⟨fun i o rb hi hr => h2.obj i o rb (sub i o hi) hr, h2.lt, fun i j oi oj ri rj hne hi hj => h2.sep i j oi oj ri rj hne (sub i oi hi) (sub j oj hj)⟩,
      ⟨h3.le, fun i hi hr => h3.fresh i hi (hr.imp id fun (h' : m ≤ i) => by omega), Nat.le_trans hn hm, h3.size, h3.os, h3.tape, h3.output, h3.keep, ?_, fun _ _ _ => rfl⟩⟩
    rintro b ⟨i, o, rb, k1, k2, k3, k4⟩
    exact h3.own b ⟨i, o, rb, sub i o k1, k2, k3, k4⟩

def natF : NatF := fun f xs s => bif Nat.beq f 17 then (match xs with
  | [v, u] => (readRows s v).bind fun cs => (readInts s u).bind fun c => (followsV 100 cs c).bind fun b => some (.bool b, ⟨s.next + 2, s.heap⟩)
  | _ => none) else none

theorem good_env : Good (env Try.prog) := ⟨rfl, fun _ _ _ _ => rfl⟩
theorem natF_ok (hm : Try.prog.follows .mixedOrders = true) (hng : NoCount Try.prog) : CallOk Try.prog natF := by
  intro ρ s w f xs v s1 xs' h hi hf ha
  unfold natF at h
  cases hb : Nat.beq f 17 with
  | false => rw [hb] at h; cases h
  | true =>
    rw [hb] at h
    have := Nat.eq_of_beq_eq_true hb
    subst this
    simp only [cond_true] at h
    split at h
    · rename_i v0 u0
      simp only [Option.bind_eq_some_iff] at h
      obtain ⟨cs, h1, c, h2, b, h3, h4⟩ := h
      injection h4 with h4
      injection h4 with h4 h5
      subst h4; subst h5
      obtain ⟨g1, g2⟩ := readRows_ok h1
      obtain ⟨g3, g4, g5⟩ := readInts_ok h2
      obtain ⟨n, p, k1, k2, k3⟩ := follows_ok good_env g2 g4 (by omega) g1 g3 h3
      have := (sim hm hng rfl (noNat_ok Try.prog) n).call ρ s w 17 _ p.1 p.2 xs' k1 hi hf ha
      refine ⟨this.1, CallsIn.mono this.2 fun e w' he => ?_⟩
      rw [k2] at he
      exact he.forget k3.1 (by rw [k3.2]; exact Nat.le_refl _) hf
    · cases h

noncomputable def envF : Env := ⟨Try.prog, natF⟩
/-- A closed call that the abstract machine says is true, Follows told. -/
theorem closed_trueF (hm : Try.prog.follows .mixedOrders = true) (hng : noCountB Try.prog = true) {n : Nat} {f : FuncId} (h : isTrueA ((runA envF n).call f [] st0) = true) (w : World) :
    Calls Try.prog f #[] w fun e w' => e = .returned (.bool true) ∧ Kept w w' := by
  cases hr : (runA envF n).call f [] st0 with
  | none => rw [hr] at h; cases h
  | some p =>
    obtain ⟨v, s1⟩ := p
    rw [hr] at h
    cases v with
    | bool b =>
      have hb : b = true := h
      subst hb
      have := ((sim hm (noCount_of hng) rfl (natF_ok hm (noCount_of hng)) n).call rho0 st0 w f [] _ _ #[] hr (inv0 _ w) fresh0 .nil).2
      refine callsIn_wide.1 (CallsIn.mono this ?_)
      intro e w' he
      cases e with
      | panicked c => exact he.elim
      | outgrown => exact he.elim
      | returned v' =>
        obtain ⟨ρ', h1, h2, h3⟩ := he
        cases h1
        exact ⟨rfl, kept_of h3 notOwned0⟩
    | _ => cases h
end Go.Proofs.Ytilhhmkdcoajnaa.Am

