/- Loops over functions: rules; and the code of the functions of layer 20 that have one, printed by a program of ours (dev/Print.lean) and checked by the kernel; conditions: none. -/
import Derived.Test.YtilhhmkdcoajnaaAmM39
set_option linter.unusedVariables false
set_option linter.unusedSimpArgs false
namespace Go.Proofs.Ytilhhmkdcoajnaa.Am
open Go Go.Proofs

/-- Behind a loop over a function: how its code goes on. -/
def PendK (Q : ARes → Prop) (var : List AV) (marks : List Nat) (s : ASt) (pd : Option Code) : Prop := match pd with
  | none => Q ⟨.normal, var, marks, s⟩
  | some .ret => Q ⟨.ret, var, marks, s⟩
  | some (.exit id) => Q ⟨.exit id, var, marks, s⟩
  | some _ => False
theorem pend_run {Q : ARes → Prop} {var : List AV} {marks : List Nat} {s : ASt} {pd : Option Code} (h : PendK Q var marks s pd) : ∃ r, cPending var marks s pd = some r ∧ Q r := by
  unfold PendK at h
  unfold cPending
  split at h
  · exact ⟨_, rfl, h⟩
  · exact ⟨_, rfl, h⟩
  · exact ⟨_, rfl, h⟩
  · exact h.elim

/-- A loop over a function, ahead of it. -/
def loopObj (fn : FuncId) (var : List AV) (ps : Array Tmp) (a b : Code) (dfr : Nat) : ALoop := { state := .ready, pending := none, fn, var, params := ps, assign := a, body := b, dfr }
theorem WC.range {E : Env} {Q : ARes → Prop} {var : List AV} {marks : List Nat} {s : ASt} {fn : FuncId} {f : CX} {ps : Array Tmp} {a b : Code} {g : FuncId} {first cap : List AV} (hf : cev [] var f = .func g first cap)
    (h : WF E g (first ++ ([.yield (s.next + 1)] ++ cap)) (fun _ s' => ∃ r, loopAt s' (s.next + 1) = some r ∧ isBusy r.state = false ∧ PendK Q var (s.next :: marks) (setObj s' (s.next + 1) (.loop { r with state := .exhausted })) r.pending)
      (newObj (newObj s .mark) (.loop (loopObj fn var ps a b s.next)))) : WC E none (.rangeFunc fn f ps a b) Q var marks s := by
  obtain ⟨n, p, h1, r, h2, h3, h4⟩ := h
  obtain ⟨res, h5, h6⟩ := pend_run h4
  refine ⟨n + 1, res, ?_, h6⟩
  show stepC (runA E n) none (.rangeFunc fn f ps a b) var marks s = some res
  simp only [stepC, cRange, cRange2, cRangeEnd, hf, callV]
  have e : (newObj s .mark).next = s.next + 1 := rfl
  rw [e]
  have h1' := h1
  unfold loopObj at h1'
  rw [h1']
  simp only [Option.bind_some, h2, h3, cond_false, h5]

/-- A round. -/
theorem WR.round {E : Env} {K : AV → ASt → Prop} {l : Nat} {xs : List AV} {s : ASt} {r : ALoop} {var : List AV} {ca cb : CCode} (h1 : loopAt s l = some r) (h2 : zipParams (varsIn E.P r.fn) r.var r.params.toList xs = some var)
    (h3 : compIn E.P r.fn r.assign = some ca) (h4 : compIn E.P r.fn r.body = some cb)
    (h : WC E (some l) ca (fun q => q.exit = .normal ∧ ∃ r', loopAt q.st l = some r' ∧ isReady r'.state = true ∧
      WC E (some l) cb (fun q2 => ∃ r'', loopAt q2.st l = some r'' ∧ K (.bool (exitCode q2.exit).isNone) (setObj q2.st l (.loop { r'' with state := stateOf (exitCode q2.exit), pending := exitCode q2.exit }))) q.var q.marks (setObj q.st l (.loop { r' with state := .busy }))) var [] s) : WR E l xs K s := by
  obtain ⟨n, q, g1, g2, r', g3, g4, m, q2, g5, r'', g6, g7⟩ := h
  refine ⟨max n m + 1, (_, _), ?_, g7⟩
  show stepR E (runA E (max n m)) l xs s = _
  simp only [stepR, h1, Option.bind_some, h2, h3, h4, roundBody, (runA_le E (Nat.le_max_left n m)).code g1, g2, isNormal, cond_true, g3, g4, roundEnd, (runA_le E (Nat.le_max_right n m)).code g5, g6]
  rfl

/-- The first loop over a function in some code. -/
noncomputable def codeRange : Code → Option (Code × Code)
  | .seq x y => match codeRange x with
    | some p => some p
    | none => codeRange y
  | .cond _ x y => match codeRange x with
    | some p => some p
    | none => codeRange y
  | .block _ c => codeRange c
  | .loop c => codeRange c
  | .scope c => codeRange c
  | .rangeFunc _ _ a b => some (a, b)
  | _ => none
noncomputable def rangeOf (f : FuncId) : Code × Code := (((Try.prog.funcs[f]?).bind fun fn => fn.body.bind codeRange)).getD (.skip, .skip)

/-! litmus/drup.dropped -/
/- kept: [0, 1, 2, 4, 5, 6, 7, 11, 12, 13, 17], params 2 -/
noncomputable def c83o0 : List CItem := [
  ⟨none, .mk (fun l => match l with | [v] => boxA 22 v | _ => none), [(.var 0)], (.set 2), []⟩,
  ⟨none, .mk (fun l => match l with | [] => allocA Try.prog 22 | _ => none), [], (.set 3), []⟩]
noncomputable def c83o1 : List CItem := [
  ⟨none, .call 56, [(.var 1)], .push, []⟩,
  ⟨none, .mk (fun l => match l with | [] => allocA Try.prog 23 | _ => none), [], (.set 4), []⟩,
  ⟨none, .e (fun s => on2 (fun a x => withV (storeV Try.prog s 23 a x))), [(.var 4), (.loc 0)], .push, []⟩]
noncomputable def c83o2 : List CItem := [
  ⟨none, .r1 (fun s a => loadV Try.prog s 22 a), [(.var 2)], .push, []⟩,
  ⟨none, .call 104, [(.loc 0)], (.set 7), []⟩]
noncomputable def c83o3 : List CItem := [
  ⟨none, .p1 some, [(.var 8)], (.set 5), []⟩]
noncomputable def c83o4 : List CItem := [
  ⟨none, .p1 some, [(.var 9)], (.set 6), []⟩]
noncomputable def c83o5 : List CItem := [
  ⟨none, .r1 (fun s a => loadV Try.prog s 23 a), [(.var 4)], .push, []⟩,
  ⟨none, .call 56, [(.var 6)], .push, [⟨none, .r1 (fun s a => loadV Try.prog s 23 a), [(.var 4)], (.loc 1)⟩]⟩,
  ⟨none, .call 105, [(.loc 0), (.loc 1)], (.set 10), []⟩]
noncomputable def c83o6 : List CItem := [
  ⟨none, .r1 (fun s a => loadV Try.prog s 22 a), [(.var 2)], .push, []⟩,
  ⟨none, .call 107, [(.loc 0)], .push, []⟩,
  ⟨none, .p2 (binA Try.prog .add 3), [(.var 5), (.const (.int .i64 (1)))], .push, []⟩,
  ⟨none, .call 106, [(.loc 1), (.var 5), (.loc 0)], .push, []⟩,
  ⟨none, .e (fun s => on2 (fun a x => withV (storeV Try.prog s 22 a x))), [(.var 3), (.loc 0)], .push, []⟩]
noncomputable def c83a : CCode := (.seq (.ops c83o3) (.ops c83o4))
noncomputable def c83b : CCode := (.block 1 (.seq (.ops c83o5) (.cond (.var 10)
  (.seq (.ops c83o6) .ret)
  .skip)))
/-- The loop's code, as the program has it. -/
noncomputable def a83 : Code := (rangeOf 83).1
noncomputable def b83 : Code := (rangeOf 83).2
noncomputable def c83o8 : List CItem := [
  ⟨none, .r1 (fun s a => loadV Try.prog s 22 a), [(.var 2)], .push, []⟩,
  ⟨none, .e (fun s => on2 (fun a x => withV (storeV Try.prog s 22 a x))), [(.var 3), (.loc 0)], .push, []⟩]
noncomputable def c83 : CFunc := ⟨2, 11, (.seq (.ops c83o0) (.seq (.ops c83o1) (.seq (.seq (.ops c83o2) (.block 0 (.rangeFunc 83 (.var 7) #[12, 13] a83 b83))) (.seq (.ops c83o8) .ret)))), [((.var 3), some 22)]⟩

theorem comp83 : compFunc Try.prog 83 = some c83 := by kernel_rfl
theorem vars83 : varsIn Try.prog 83 = [0, 1, 2, 4, 5, 6, 7, 11, 12, 13, 17] := by kernel_rfl
theorem ca83 : compIn Try.prog 83 a83 = some c83a := by kernel_rfl
theorem cb83 : compIn Try.prog 83 b83 = some c83b := by kernel_rfl

/-! litmus/drup.Check -/
/- kept: [0, 1, 2, 3, 4, 5, 6, 7, 9, 10, 11, 22, 33, 42], params 2 -/
noncomputable def c24o0 : List CItem := [
  ⟨none, .mk (fun l => match l with | [v] => boxA 22 v | _ => none), [(.var 0)], (.set 2), []⟩,
  ⟨none, .mk (fun l => match l with | [v] => boxA 33 v | _ => none), [(.var 1)], (.set 3), []⟩,
  ⟨none, .mk (fun l => match l with | [] => allocA Try.prog 3 | _ => none), [], (.set 4), []⟩,
  ⟨none, .mk (fun l => match l with | [] => allocA Try.prog 4 | _ => none), [], (.set 5), []⟩]
noncomputable def c24o1 : List CItem := [
  ⟨none, .r1 (fun s a => loadV Try.prog s 33 a), [(.var 3)], .push, []⟩,
  ⟨none, .call 54, [(.loc 0)], (.set 8), []⟩]
noncomputable def c24o2 : List CItem := [
  ⟨none, .p1 some, [(.var 9)], (.set 6), []⟩]
noncomputable def c24o3 : List CItem := [
  ⟨none, .p1 some, [(.var 10)], (.set 7), []⟩]
noncomputable def c24o4 : List CItem := [
  ⟨none, .r1 (fun s a => loadV Try.prog s 33 a), [(.var 3)], .push, []⟩,
  ⟨none, .r (fun s l => match l with | [x] => lenA Try.prog s 33 x | _ => none), [(.loc 0)], .push, []⟩,
  ⟨none, .p2 (binA Try.prog .eql 3), [(.var 6), (.loc 0)], .push, []⟩,
  ⟨(some ((.loc 0), false)), .r1 (fun s a => loadV Try.prog s 33 a), [(.var 3)], .push, []⟩,
  ⟨(some ((.loc 1), false)), .p1 some, [(.var 6)], .push, []⟩,
  ⟨(some ((.loc 2), false)), .p2 (indexAddrA Try.prog 33), [(.loc 1), (.loc 0)], .push, []⟩,
  ⟨(some ((.loc 3), false)), .p1 (fun x => fieldAddrA Try.prog 27 x 0), [(.loc 0)], .push, []⟩,
  ⟨(some ((.loc 4), false)), .r1 (fun s a => loadV Try.prog s 4 a), [(.loc 0)], .push, []⟩,
  ⟨none, .p pick3, [(.loc 5), (.const (.bool true)), (.loc 0)], (.set 11), []⟩]
noncomputable def c24o5 : List CItem := [
  ⟨none, .r1 (fun s a => loadV Try.prog s 22 a), [(.var 2)], .push, []⟩,
  ⟨none, .mk (fun l => (sliceRowA Try.prog 110 2 (zipIdx [0, 1] l)).bind fun r => some (r, .slice 2)), [(.loc 0), (.var 7)], .push, []⟩,
  ⟨none, .r1 (fun s a => loadV Try.prog s 33 a), [(.var 3)], .push, []⟩,
  ⟨none, .p2 (indexAddrA Try.prog 33), [(.loc 0), (.var 6)], .push, []⟩,
  ⟨none, .p1 (fun x => fieldAddrA Try.prog 27 x 1), [(.loc 0)], .push, []⟩,
  ⟨none, .r1 (fun s a => loadV Try.prog s 23 a), [(.loc 0)], .push, []⟩,
  ⟨none, .call 55, [(.loc 4)], .push, [⟨none, .r1 (fun s a => loadV Try.prog s 23 a), [(.loc 2)], (.loc 1)⟩, ⟨none, .r1 (fun s a => loadV Try.prog s 33 a), [(.var 3)], (.loc 4)⟩]⟩,
  ⟨none, .call 17, [(.loc 0), (.loc 1)], .push, []⟩,
  ⟨none, .p1 (unA Try.prog Go.UnOp.not), [(.loc 0)], (.set 12), []⟩]
noncomputable def c24o6 : List CItem := [
  ⟨none, .e (fun s => on2 (fun a x => withV (storeV Try.prog s 3 a x))), [(.var 4), (.var 6)], .push, []⟩,
  ⟨none, .e (fun s => on2 (fun a x => withV (storeV Try.prog s 4 a x))), [(.var 5), (.const (.bool false))], .push, []⟩]
noncomputable def c24o7 : List CItem := [
  ⟨none, .r1 (fun s a => loadV Try.prog s 33 a), [(.var 3)], .push, []⟩,
  ⟨none, .p2 (indexAddrA Try.prog 33), [(.loc 0), (.var 6)], .push, []⟩,
  ⟨none, .p1 (fun x => fieldAddrA Try.prog 27 x 1), [(.loc 0)], .push, []⟩,
  ⟨none, .r1 (fun s a => loadV Try.prog s 23 a), [(.loc 0)], .push, []⟩,
  ⟨none, .call 56, [(.loc 0)], .push, []⟩,
  ⟨none, .r (fun s l => match l with | [x] => lenA Try.prog s 23 x | _ => none), [(.loc 0)], .push, []⟩,
  ⟨none, .p2 (binA Try.prog .eql 3), [(.loc 0), (.const (.int .i64 (0)))], (.set 13), []⟩]
noncomputable def c24o8 : List CItem := [
  ⟨none, .e (fun s => on2 (fun a x => withV (storeV Try.prog s 3 a x))), [(.var 4), (.var 6)], .push, []⟩,
  ⟨none, .e (fun s => on2 (fun a x => withV (storeV Try.prog s 4 a x))), [(.var 5), (.const (.bool true))], .push, []⟩]
noncomputable def c24a : CCode := (.seq (.ops c24o2) (.ops c24o3))
noncomputable def c24b : CCode := (.block 1 (.seq (.seq (.ops c24o4) (.cond (.var 11)
  (.exit 1)
  .skip)) (.seq (.seq (.ops c24o5) (.cond (.var 12)
  (.seq (.ops c24o6) .ret)
  .skip)) (.seq (.ops c24o7) (.cond (.var 13)
  (.seq (.ops c24o8) .ret)
  .skip)))))
/-- The loop's code, as the program has it. -/
noncomputable def a24 : Code := (rangeOf 24).1
noncomputable def b24 : Code := (rangeOf 24).2
noncomputable def c24o10 : List CItem := [
  ⟨none, .r1 (fun s a => loadV Try.prog s 33 a), [(.var 3)], .push, []⟩,
  ⟨none, .r (fun s l => match l with | [x] => lenA Try.prog s 33 x | _ => none), [(.loc 0)], .push, []⟩,
  ⟨none, .e (fun s => on2 (fun a x => withV (storeV Try.prog s 3 a x))), [(.var 4), (.loc 0)], .push, []⟩,
  ⟨none, .e (fun s => on2 (fun a x => withV (storeV Try.prog s 4 a x))), [(.var 5), (.const (.bool false))], .push, []⟩]
noncomputable def c24 : CFunc := ⟨2, 14, (.seq (.ops c24o0) (.seq (.seq (.ops c24o1) (.block 0 (.rangeFunc 24 (.var 8) #[10, 11] a24 b24))) (.seq (.ops c24o10) .ret))), [((.var 4), some 3), ((.var 5), some 4)]⟩

theorem comp24 : compFunc Try.prog 24 = some c24 := by kernel_rfl
theorem vars24 : varsIn Try.prog 24 = [0, 1, 2, 3, 4, 5, 6, 7, 9, 10, 11, 22, 33, 42] := by kernel_rfl
theorem ca24 : compIn Try.prog 24 a24 = some c24a := by kernel_rfl
theorem cb24 : compIn Try.prog 24 b24 = some c24b := by kernel_rfl

/-! litmus/drup.Left -/
/- kept: [0, 1, 2, 3, 4, 5, 6, 7, 9, 11, 12, 13, 17, 21, 22, 23, 24], params 2 -/
noncomputable def c27o0 : List CItem := [
  ⟨none, .mk (fun l => match l with | [v] => boxA 22 v | _ => none), [(.var 0)], (.set 2), []⟩,
  ⟨none, .mk (fun l => match l with | [v] => boxA 33 v | _ => none), [(.var 1)], (.set 3), []⟩,
  ⟨none, .p1 some, [(.const (.slice none 0 (some 0)))], (.set 4), []⟩]
noncomputable def c27o1 : List CItem := [
  ⟨none, .mk (fun l => match l with | [] => allocA Try.prog 22 | _ => none), [], (.set 5), []⟩]
noncomputable def c27o2 : List CItem := [
  ⟨none, .r1 (fun s a => loadV Try.prog s 33 a), [(.var 3)], .push, []⟩,
  ⟨none, .call 54, [(.loc 0)], (.set 9), []⟩]
noncomputable def c27o3 : List CItem := [
  ⟨none, .p1 some, [(.var 10)], (.set 6), []⟩]
noncomputable def c27o4 : List CItem := [
  ⟨none, .p1 some, [(.var 11)], (.set 7), []⟩]
noncomputable def c27o5 : List CItem := [
  ⟨none, .r1 (fun s a => loadV Try.prog s 33 a), [(.var 3)], .push, []⟩,
  ⟨none, .r (fun s l => match l with | [x] => lenA Try.prog s 33 x | _ => none), [(.loc 0)], .push, []⟩,
  ⟨none, .p2 (binA Try.prog .lss 3), [(.var 6), (.loc 0)], (.set 12), []⟩]
noncomputable def c27o6 : List CItem := [
  ⟨none, .r1 (fun s a => loadV Try.prog s 22 a), [(.var 2)], .push, []⟩,
  ⟨none, .mk (fun l => (sliceRowA Try.prog 110 2 (zipIdx [0, 1] l)).bind fun r => some (r, .slice 2)), [(.loc 0), (.var 7)], .push, []⟩,
  ⟨none, .call 55, [(.loc 0)], (.set 13), []⟩,
  ⟨none, .r (fun s l => match l with | [x] => lenA Try.prog s 22 x | _ => none), [(.var 13)], (.set 14), []⟩,
  ⟨none, .p1 some, [(.const (.int .i64 (0)))], (.set 15), []⟩]
noncomputable def c27o7 : List CItem := [
  ⟨none, .p2 (binA Try.prog .lss 3), [(.var 15), (.var 14)], (.set 16), []⟩]
noncomputable def c27o8 : List CItem := [
  ⟨none, .p2 (indexAddrA Try.prog 22), [(.var 13), (.var 15)], .push, []⟩,
  ⟨none, .r1 (fun s a => loadV Try.prog s 23 a), [(.loc 0)], .push, []⟩,
  ⟨none, .p1 some, [(.loc 0)], (.set 8), []⟩]
noncomputable def c27o9 : List CItem := [
  ⟨none, .r1 (fun s a => loadV Try.prog s 22 a), [(.var 5)], .push, []⟩,
  ⟨none, .call 60, [(.var 8)], .push, [⟨none, .r1 (fun s a => loadV Try.prog s 22 a), [(.var 5)], (.loc 1)⟩]⟩,
  ⟨none, .mk (fun l => (sliceRowA Try.prog 22 1 (zipIdx [0] l)).bind fun r => some (r, .slice 1)), [(.loc 0)], .push, []⟩,
  ⟨none, .e (fun s l => appendA Try.prog s [22, 22] l), [(.loc 2), (.loc 0)], .push, []⟩,
  ⟨none, .e (fun s => on2 (fun a x => withV (storeV Try.prog s 22 a x))), [(.var 5), (.loc 0)], .push, []⟩]
noncomputable def c27o10 : List CItem := [
  ⟨none, .p2 (binA Try.prog .add 3), [(.var 15), (.const (.int .i64 (1)))], .push, []⟩,
  ⟨none, .p1 some, [(.loc 0)], (.set 15), []⟩]
noncomputable def c27l11 : CCode := (.seq (.ops c27o7) (.seq (.cond (.var 16)
  .skip
  (.exit 2)) (.seq (.block 3 (.seq (.ops c27o8) (.ops c27o9))) (.ops c27o10))))
noncomputable def c27a : CCode := (.seq (.ops c27o3) (.ops c27o4))
noncomputable def c27b : CCode := (.block 1 (.seq (.seq (.ops c27o5) (.cond (.var 12)
  (.exit 1)
  .skip)) (.seq (.ops c27o6) (.block 2 (.loop c27l11)))))
/-- The loop's code, as the program has it. -/
noncomputable def a27 : Code := (rangeOf 27).1
noncomputable def b27 : Code := (rangeOf 27).2
noncomputable def c27o13 : List CItem := [
  ⟨none, .r1 (fun s a => loadV Try.prog s 22 a), [(.var 5)], .push, []⟩,
  ⟨none, .p1 some, [(.loc 0)], (.set 4), []⟩]
noncomputable def c27 : CFunc := ⟨2, 17, (.seq (.ops c27o0) (.seq (.ops c27o1) (.seq (.seq (.ops c27o2) (.block 0 (.rangeFunc 27 (.var 9) #[12, 13] a27 b27))) (.seq (.ops c27o13) .ret)))), [((.var 4), none)]⟩

theorem comp27 : compFunc Try.prog 27 = some c27 := by kernel_rfl
theorem vars27 : varsIn Try.prog 27 = [0, 1, 2, 3, 4, 5, 6, 7, 9, 11, 12, 13, 17, 21, 22, 23, 24] := by kernel_rfl
theorem ca27 : compIn Try.prog 27 a27 = some c27a := by kernel_rfl
theorem cb27 : compIn Try.prog 27 b27 = some c27b := by kernel_rfl

end Go.Proofs.Ytilhhmkdcoajnaa.Am

/- Boxes; the library's Clone and Delete of rows of rows; conditions: sizes fit. -/
set_option linter.unusedVariables false
set_option linter.unusedSimpArgs false
namespace Go.Proofs.Ytilhhmkdcoajnaa.Am
open Go Go.Proofs

/-- An object of one cell. -/
def Box1 (s : ASt) (j : Nat) (c : AV) : Prop := ∃ r, s.heap.get j = some (.row r) ∧ Holds r [c] ∧ r.mode = .own ∧ r.par = none
theorem Box1.keep {s s' : ASt} {j : Nat} {c : AV} (h : Box1 s j c) (k : s'.heap.get j = s.heap.get j) : Box1 s' j c := by
  obtain ⟨r, h1, h2⟩ := h
  exact ⟨r, k.trans h1, h2⟩
theorem Box1.load {s : ASt} {j : Nat} {c : AV} (h : Box1 s j c) {t : TypeId} (ht : aggT Try.prog t = some false) : loadV Try.prog s t (.ptr (some (j, 0))) = some c := by
  obtain ⟨r, h1, h2, _⟩ := h
  exact load_one ht (load1_row h1 (by rw [h2.1]; simp) (h2.2 0 c rfl))
theorem Box1.store {s : ASt} {j : Nat} {c d : AV} (h : Box1 s j c) {t : TypeId} (ht : sizeT Try.prog t = some 1) (h1 : d.isCell = true) (h2 : d.cells = [d]) :
    ∃ s', storeV Try.prog s t (.ptr (some (j, 0))) d = some s' ∧ Box1 s' j d ∧ s'.next = s.next ∧ ∀ x, x ≠ j → s'.heap.get x = s.heap.get x := by
  obtain ⟨r, g1, g2, g3, g4⟩ := h
  refine ⟨setObj s j (.row { r with c := r.c.fill 0 [d], par := none }), ?_, ⟨{ r with c := r.c.fill 0 [d], par := none }, by rw [heap_set, if_pos rfl], ⟨g2.1, ?_⟩, g3, rfl⟩, rfl, fun x hx => by rw [heap_set, if_neg hx]⟩
  · simp [storeV, ht, h2, guardB, storeN_row (vs := [d]) (o := 0) g1 g3 g4 (by simp) (by rw [g2.1]; simp) (by simp [allCells, h1])]
  · intro k u hk
    have := lt_of_get hk
    show (Tree.fill r.c 0 [d]).get k = some u
    rw [Tree.get_fill, if_pos ⟨Nat.zero_le _, by simpa using this⟩]
    simpa using hk
theorem Box1.new {s : ASt} {t : TypeId} {c : AV} : Box1 (newObj s (mkRow t 0 [c])) s.next c := by
  obtain ⟨r, h1, h2, _, _, h5, h6⟩ := holds_mkRow t 0 [c]
  exact ⟨r, by rw [heap_new, if_pos rfl, h1], h2, h5, h6⟩
theorem unmark_one {s : ASt} {i : Nat} (h : s.heap.get i = some .mark) : unmark s [i] = some (delObj s i) := by simp [unmark, h]

/-! ### Rows of one-cell elements, open at their end -/
section
theorem open_lo {t e : TypeId} (ht : Try.prog.underlying t = some (.slice e)) (hs : sizeT Try.prog e = some 1) {s : ASt} {i n k : Nat} {cs : List AV} (h : RowAt s i cs) (hk : k ≤ n) : sliceOpnds Try.prog t true false false s [.slice (some (i, 0)) n none, iv (k : Int)] = some (.slice (some (i, 0 + k * 1)) (n - k) none) := by
  obtain ⟨r, h1, h2, h3, h4, h5⟩ := h
  have hb : boundA (iv (k : Int)) n = some k := by simp [boundA, idxOf, natOf_nat, guardB, ble_of hk]
  show sliceA Try.prog s t (.slice (some (i, 0)) n none) (some (iv (k : Int))) none none = _
  simp [sliceA, ht, hs, rowAt, h1, h5, guardB, hb, ble_of (Nat.zero_le r.n), show Nat.beq 1 0 = false from rfl]
theorem open_hi {t e : TypeId} (ht : Try.prog.underlying t = some (.slice e)) (hs : sizeT Try.prog e = some 1) {s : ASt} {i n k : Nat} {cs : List AV} (h : RowAt s i cs) (hk : k ≤ cs.length) : sliceOpnds Try.prog t false true false s [.slice (some (i, 0)) n none, iv (k : Int)] = some (.slice (some (i, 0)) k none) := by
  obtain ⟨r, h1, h2, h3, h4, h5⟩ := h
  have hb : boundA (iv (k : Int)) r.n = some k := by simp [boundA, idxOf, natOf_nat, guardB, h2.1, ble_of hk]
  show sliceA Try.prog s t (.slice (some (i, 0)) n none) none (some (iv (k : Int))) none = _
  simp [sliceA, ht, hs, rowAt, h1, h5, guardB, hb, ble_of (Nat.zero_le r.n), show Nat.beq 1 0 = false from rfl]
theorem open_both {t e : TypeId} (ht : Try.prog.underlying t = some (.slice e)) (hs : sizeT Try.prog e = some 1) {s : ASt} {i n k m : Nat} {cs : List AV} (h : RowAt s i cs) (hk : k ≤ m) (hm : m ≤ cs.length) : sliceOpnds Try.prog t true true false s [.slice (some (i, 0)) n none, iv (k : Int), iv (m : Int)] = some (.slice (some (i, 0 + k * 1)) (m - k) none) := by
  obtain ⟨r, h1, h2, h3, h4, h5⟩ := h
  have hb : boundA (iv (m : Int)) r.n = some m := by simp [boundA, idxOf, natOf_nat, guardB, h2.1, ble_of hm]
  have hb2 : boundA (iv (k : Int)) m = some k := by simp [boundA, idxOf, natOf_nat, guardB, ble_of hk]
  show sliceA Try.prog s t (.slice (some (i, 0)) n none) (some (iv (k : Int))) (some (iv (m : Int))) none = _
  simp [sliceA, ht, hs, rowAt, h1, h5, guardB, hb, hb2, ble_of (Nat.zero_le r.n), show Nat.beq 1 0 = false from rfl]
theorem open_all {t e : TypeId} (ht : Try.prog.underlying t = some (.slice e)) (hs : sizeT Try.prog e = some 1) {s : ASt} {i n k m : Nat} {cs : List AV} (h : RowAt s i cs) (hk : k ≤ m) (hm : m ≤ n) (hn : n ≤ cs.length) (h0 : 0 < n) : ∃ w, sliceOpnds Try.prog t true true true s [.slice (some (i, 0)) n none, iv (k : Int), iv (m : Int), iv (n : Int)] = some w := by
  obtain ⟨r, h1, h2, h3, h4, h5⟩ := h
  have hb0 : boundA (iv (n : Int)) r.n = some n := by simp [boundA, idxOf, natOf_nat, guardB, h2.1, ble_of hn]
  have hb : boundA (iv (m : Int)) n = some m := by simp [boundA, idxOf, natOf_nat, guardB, ble_of hm]
  have hb2 : boundA (iv (k : Int)) m = some k := by simp [boundA, idxOf, natOf_nat, guardB, ble_of hk]
  show ∃ w, sliceA Try.prog s t (.slice (some (i, 0)) n none) (some (iv (k : Int))) (some (iv (m : Int))) (some (iv (n : Int))) = some w
  simp [sliceA, ht, hs, rowAt, h1, h5, guardB, hb0, hb, hb2, ble_of (Nat.zero_le r.n), show Nat.beq 1 0 = false from rfl, show Nat.blt 0 r.n = true from blt_of (by rw [h2.1]; omega)]
theorem open_clear {t e : TypeId} (ht : Try.prog.underlying t = some (.slice e)) {z : AV} (hz : zeroT Try.prog e = some z) (hzc : z.cells = [z]) (hz1 : z.isCell = true) {s : ASt} {i k : Nat} {A : List AV} {b : AV} (h : RowAt s i (A ++ [b])) (hA : A.length = k) :
    ∃ s', clearA Try.prog s [t] [.slice (some (i, 0 + k * 1)) 1 none] = some (undefA, s') ∧ RowAt s' i (A ++ [z]) ∧ s'.next = s.next ∧ ∀ x, x ≠ i → s'.heap.get x = s.heap.get x := by
  subst hA
  obtain ⟨s', g1, g2, g3, g4⟩ := h.fill (o := A.length) (vs := [z]) (by simp) (by simp) (by simp [allCells, hz1])
  refine ⟨s', ?_, ?_, g3, g4⟩
  · simp [clearA, ht, hz, hzc, rep, g1]
  · have e' : (A ++ [b]).take A.length ++ [z] ++ (A ++ [b]).drop (A.length + [z].length) = A ++ [z] := by
      rw [List.take_left' rfl, List.drop_eq_nil_of_le (by simp)]; simp
    rw [e'] at g2
    exact g2
end

/-- A row of slices that may be written; none, if it is empty. -/
def ArrOf (lo : Nat) (s : ASt) (v : AV) (us : List AV) : Prop := (∃ a, v = .slice a 0 (some 0) ∧ us = []) ∨ ∃ i, v = .slice (some (i, 0)) us.length none ∧ lo ≤ i ∧ i < s.next ∧ RowAt s i us
theorem eq_nil22 {a : Option (Nat × Nat)} {n : Nat} {cap : Option Nat} : binA Try.prog .eql 22 (.slice a n cap) (.slice none 0 (some 0)) = some (.bool a.isNone) := by
  have h : isSliceT Try.prog 22 = true := by simp [isSliceT, Try.underlying22]
  cases a <;> simp [binA, eqV, guardB, h]

set_option maxRecDepth 8000 in
/-- Clone, of a row of rows. -/
theorem clone22_ok {E : Env} (hE : Good E) {b : Nat} {s : ASt} {v : AV} {us : List AV} (hb : b ≤ s.next) (h : SliceAt b s v us) (hcell : allCells us = true) (hL : us.length ≤ 1000000) :
    WF E 107 [v] (fun r s' => ArrOf s.next s' r us ∧ Old s.next s s') s := by
  obtain ⟨a, cap, rfl, hc⟩ := h
  refine hE.go comp107 (by decide) rfl ?_
  cases ha : a with
  | none =>
    subst ha
    have hL0 : us = [] := by
      cases us with
      | nil => rfl
      | cons x L => obtain ⟨i, o, e, _⟩ := hc 0 x rfl; cases e
    subst hL0
    simp only [c107, c107o0, c107o1, c107o2, eq_nil22, Option.isNone_none, wpC, wpI, wpS, wpD, wpV, wanted_none, wanted_some, vals, cev_const, cev_var, cev_loc, padV, okV_some, againP, true_and, and_true, upd_zero, upd_succ, nth_zero, nth_succ, wpG_true, wpG_false, condK_true, condK_false, seqK_normal, seqK_ret, seqK_exit, inBlock_normal, inBlock_ret, inBlock_exit, ends_ret, ends_normal, unmark_nil, results_nil, results_cons, one_one, one_zero, one_two, isB_undef, isB_tt, isB_ff, Bool.not_true, Bool.not_false, Option.bind_some, pick3, pickA, extractA, List.getElem?_cons_zero, List.getElem?_cons_succ, bin_lss, bin_gtr, bin_leq, bin_geq, bin_eql, bin_neq, un_not]
    exact ⟨.inl ⟨none, rfl, rfl⟩, Old.refl _ _⟩
  | some io =>
    obtain ⟨i, o⟩ := io
    subst ha
    have b0 := bld_zero (P := Try.prog) (t := 22) Try.underlying22 sz23 zr23 rfl
    have hmv : ∀ (m : Nat) (i : Nat), Made.val i (.slice m) = .slice (some (i, 0)) m (some m) := fun _ _ => rfl
    generalize hs1 : newObj s (mkRow 23 1 []) = s1
    have n1 : s1.next = s.next + 1 := by rw [← hs1]; rfl
    have o1 : Old s.next s s1 := by rw [← hs1]; exact Old.new s _
    have hld : loadN s1 s.next 0 (0 * 1) = some [] := by
      obtain ⟨r, h1, h2, _⟩ := holds_mkRow 23 1 []
      exact loadN_holds (s := s1) (i := s.next) (by rw [← hs1, heap_new, if_pos rfl, h1]) h2 0 [] (Nat.le_refl _) (fun j u hj => by simp at hj)
    have hx : isSliceOrStr Try.prog 22 = true := strx 22 23 Try.underlying22
    cases hLc : us with
    | nil =>
      subst hLc
      have hsrc : srcCells Try.prog s1 23 1 (.slice (some (i, o)) 0 cap) = some (0, []) := rfl
      have happ : appendA Try.prog s1 [22, 22] [.slice (some (s.next, 0)) 0 (some 0), .slice (some (i, o)) 0 cap] = some (.slice (some (s.next, 0)) 0 (some 0), s1) := by
        rw [appendA_eq Try.underlying22 sz23 by23 (by decide) hx hsrc rfl (by omega) (by omega)]
        rfl
      simp only [c107, c107o0, c107o1, c107o3, eq_nil22, Option.isNone_some, List.length_nil, b0, hs1, hmv, happ, wpC, wpI, wpS, wpD, wpV, wanted_none, wanted_some, vals, cev_const, cev_var, cev_loc, padV, okV_some, againP, true_and, and_true, upd_zero, upd_succ, nth_zero, nth_succ, wpG_true, wpG_false, condK_true, condK_false, seqK_normal, seqK_ret, seqK_exit, inBlock_normal, inBlock_ret, inBlock_exit, ends_ret, ends_normal, unmark_nil, results_nil, results_cons, one_one, one_zero, one_two, isB_undef, isB_tt, isB_ff, Bool.not_true, Bool.not_false, Option.bind_some, pick3, pickA, extractA, List.getElem?_cons_zero, List.getElem?_cons_succ, bin_lss, bin_gtr, bin_leq, bin_geq, bin_eql, bin_neq, un_not]
      exact ⟨.inl ⟨_, rfl, rfl⟩, o1⟩
    | cons x T =>
      rw [← hLc]
      have hne : 0 < us.length := by rw [hLc]; simp
      have hc1 : CellsAt b s1 (some (i, o)) us := hc.old o1 hb
      have hsrc := SliceAt.src (e := 23) (cap := cap) hc1 rfl hne
      have happ : appendA Try.prog s1 [22, 22] [.slice (some (s.next, 0)) 0 (some 0), .slice (some (i, o)) us.length cap] = some (.slice (some (s1.next, 0)) us.length none, newObj s1 (grownRow 23 1 (Tree.fill .leaf 0 us) us.length none)) := by
        rw [appendA_eq Try.underlying22 sz23 by23 (by decide) hx hsrc hcell (by omega) (by omega)]
        simp only [appTo, appExact, Nat.zero_add, show Nat.ble us.length 0 = false from ble_off (by omega), cond_false, hld, Option.bind_some, appFresh, guardB, zero23, cond_true, List.nil_append, Nat.zero_add]
      simp only [c107, c107o0, c107o1, c107o3, eq_nil22, Option.isNone_some, b0, hs1, hmv, happ, wpC, wpI, wpS, wpD, wpV, wanted_none, wanted_some, vals, cev_const, cev_var, cev_loc, padV, okV_some, againP, true_and, and_true, upd_zero, upd_succ, nth_zero, nth_succ, wpG_true, wpG_false, condK_true, condK_false, seqK_normal, seqK_ret, seqK_exit, inBlock_normal, inBlock_ret, inBlock_exit, ends_ret, ends_normal, unmark_nil, results_nil, results_cons, one_one, one_zero, one_two, isB_undef, isB_tt, isB_ff, Bool.not_true, Bool.not_false, Option.bind_some, pick3, pickA, extractA, List.getElem?_cons_zero, List.getElem?_cons_succ, bin_lss, bin_gtr, bin_leq, bin_geq, bin_eql, bin_neq, un_not]
      refine ⟨.inr ⟨s1.next, rfl, by omega, Nat.lt_succ_self _, _, by rw [heap_new, if_pos rfl]; rfl, ⟨rfl, ?_⟩, rfl, rfl, rfl⟩, o1.trans ((Old.new s1 _).mono (by omega))⟩
      intro k u hk
      have hlt := lt_of_get hk
      show (Tree.fill .leaf 0 us).get k = some u
      rw [Tree.get_fill, if_pos ⟨Nat.zero_le _, by omega⟩]
      simpa using hk

set_option maxRecDepth 8000 in
/-- Delete, of one element of a row of rows. -/
theorem delete22_ok {E : Env} (hE : Good E) {s : ASt} {i k : Nat} {us : List AV} (hr : RowAt s i us) (hk : k < us.length) (hcell : allCells us = true) (hL : us.length ≤ 1000000) :
    WF E 106 [.slice (some (i, 0)) us.length none, iv (k : Int), iv ((k + 1 : Nat) : Int)] (fun r s' => ∃ Z, Z ≠ [] ∧ r = .slice (some (i, 0)) (us.take k ++ us.drop (k + 1)).length none ∧ RowAt s' i ((us.take k ++ us.drop (k + 1)) ++ Z) ∧ s'.next = s.next ∧ ∀ x, x ≠ i → s'.heap.get x = s.heap.get x) s := by
  refine hE.go comp106 (by decide) rfl ?_
  have hn' : (us.take k ++ us.drop (k + 1)).length = us.length - 1 := by simp; omega
  obtain ⟨w, hw⟩ := open_all Try.underlying22 sz23 (n := us.length) (k := k) (m := k + 1) hr (by omega) (by omega) (Nat.le_refl _) (by omega)
  have h1 := open_hi Try.underlying22 sz23 (n := us.length) (k := k) hr (by omega)
  have h2 := open_lo Try.underlying22 sz23 (n := us.length) (k := k + 1) hr (by omega)
  have hne : decide ((k : Int) = ((k + 1 : Nat) : Int)) = false := decide_eq_false (by omega)
  have hsp : us = us.take k ++ us[k] :: us.drop (k + 1) := by rw [List.getElem_cons_drop, List.take_append_drop]
  have happ : ∃ s1 b, appendA Try.prog s [22, 22] [.slice (some (i, 0)) k none, .slice (some (i, 0 + (k + 1) * 1)) (us.length - (k + 1)) none] = some (.slice (some (i, 0)) (us.length - 1) none, s1) ∧ RowAt s1 i ((us.take k ++ us.drop (k + 1)) ++ [b]) ∧ s1.next = s.next ∧ ∀ x, x ≠ i → s1.heap.get x = s.heap.get x := by
    have hx : isSliceOrStr Try.prog 22 = true := strx 22 23 Try.underlying22
    have hdl : (us.drop (k + 1)).length = us.length - (k + 1) := by simp
    have hcd : allCells (us.drop (k + 1)) = true := by
      have : ∀ {a b : List AV}, allCells (a ++ b) = true → allCells b = true := by
        intro a b
        induction a with
        | nil => intro h; exact h
        | cons x a ih => intro h; simp only [List.cons_append, allCells, Bool.and_eq_true] at h; exact ih h.2
      exact this (a := us.take (k + 1)) (by rw [List.take_append_drop]; exact hcell)
    obtain ⟨r, q1, q2, q3, q4, q5⟩ := hr
    have hrow : rowAt s i = some r := by simp [rowAt, q1]
    have hr : RowAt s i us := ⟨r, q1, q2, q3, q4, q5⟩
    have hsrc : srcCells Try.prog s 23 1 (.slice (some (i, 0 + (k + 1) * 1)) (us.length - (k + 1)) none) = some (us.length - (k + 1), us.drop (k + 1)) := by
      have := loadN_holds q1 q2 (0 + (k + 1) * 1) (us.drop (k + 1)) (by simp; omega) (fun j u hj => by
        rw [List.getElem?_drop] at hj
        rw [← hj]; congr 1; omega)
      rw [hdl] at this
      simp only [srcCells]
      rw [srcN_load (size := 1) (by rw [Nat.mul_one (us.length - (k + 1))]; exact this)]
      rfl
    rw [appendA_eq Try.underlying22 sz23 by23 (by decide) hx hsrc hcd (by omega) (by omega)]
    have hfit : Nat.ble (0 + (k + (us.length - (k + 1))) * 1) r.n = true := ble_of (by rw [q2.1]; omega)
    have hlen : k + (us.length - (k + 1)) = us.length - 1 := by omega
    simp only [appTo, hrow, Option.bind_some, appOpen, q5, beq_of rfl, guardB, cond_true, hfit]
    rw [hlen]
    cases hd : us.drop (k + 1) with
    | nil =>
      refine ⟨s, us[k], rfl, ?_, rfl, fun _ _ => rfl⟩
      rw [List.append_nil]
      rw [hd] at hsp
      rw [← hsp]
      exact hr
    | cons y T =>
      rw [← hd]
      have hlast : us.drop (us.length - 1) = [us[us.length - 1]] := by
        rw [List.drop_eq_getElem_cons (by omega), List.drop_eq_nil_of_le (by omega)]
      obtain ⟨s1, g1, g2, g3, g4⟩ := hr.fill (o := 0 + k * 1) (vs := us.drop (k + 1)) (by rw [hd]; simp) (by rw [hdl]; omega) hcd
      refine ⟨s1, us[us.length - 1], by rw [g1]; rfl, ?_, g3, g4⟩
      have e1 : 0 + k * 1 = k := by omega
      have e2 : k + (us.length - (k + 1)) = us.length - 1 := by omega
      rw [e1, hdl, e2, hlast] at g2
      exact g2
  obtain ⟨s1, b, g1, g2, g3, g4⟩ := happ
  have h3 := open_both Try.underlying22 sz23 (n := us.length - 1) (k := us.length - 1) (m := us.length) g2 (by omega) (by simp; omega)
  obtain ⟨s2, k1, k2, k3, k4⟩ := open_clear Try.underlying22 zr23 rfl rfl (k := us.length - 1) g2 hn'
  have hone : us.length - (us.length - 1) = 1 := by omega
  rw [hone] at h3
  simp only [c106, c106o0, c106o1, c106o2, c106o4, c106o5, c106o6, c106o7, len_slice Try.underlying22, hw, h1, h2, hne, g1, h3, k1, again_r, sameA_some, wpC, wpI, wpS, wpD, wpV, wanted_none, wanted_some, vals, cev_const, cev_var, cev_loc, padV, okV_some, againP, true_and, and_true, upd_zero, upd_succ, nth_zero, nth_succ, wpG_true, wpG_false, condK_true, condK_false, seqK_normal, seqK_ret, seqK_exit, inBlock_normal, inBlock_ret, inBlock_exit, ends_ret, ends_normal, unmark_nil, results_nil, results_cons, one_one, one_zero, one_two, isB_undef, isB_tt, isB_ff, Bool.not_true, Bool.not_false, Option.bind_some, pick3, pickA, extractA, List.getElem?_cons_zero, List.getElem?_cons_succ, bin_lss, bin_gtr, bin_leq, bin_geq, bin_eql, bin_neq, un_not]
  refine ⟨_, (fun h => by cases h), by rw [hn'], k2, by omega, fun x hx => (k4 x hx).trans (g4 x hx)⟩
end Go.Proofs.Ytilhhmkdcoajnaa.Am

/- What the library's Equal computes of two rows of whole numbers; conditions: lengths fit. -/
set_option linter.unusedVariables false
set_option linter.unusedSimpArgs false
namespace Go.Proofs.Ytilhhmkdcoajnaa.Am
open Go Go.Proofs

set_option maxRecDepth 8000 in
theorem equal_loop {E : Env} (hE : Good E) {s : ASt} {b : Nat} {A B : List Int} (hl : A.length = B.length) (hA : A.length ≤ 1000000) {a1 a2 : Option (Nat × Nat)} {cap1 cap2 : Option Nat} (hc1 : CellsAt b s a1 (ivs A)) (hc2 : CellsAt b s a2 (ivs B)) {Q : ARes → Prop} (x4 : AV) :
    ∀ (l m : List Int) (k : Nat) (x3 x7 x8 : AV), A.drop k = l → B.drop k = m → k ≤ A.length →
      (∀ (e : AExit) (y2 y3 y6 y7 y8 : AV), (e = .ret ∧ l ≠ m ∧ y2 = .bool false ∨ e = .exit 0 ∧ l = m) → Q ⟨e, [.slice a1 A.length cap1, .slice a2 A.length cap2, y2, y3, x4, iv (A.length : Int), y6, y7, y8], [], s⟩) →
      WC E none (.loop c105l9) Q [.slice a1 A.length cap1, .slice a2 A.length cap2, .bool false, x3, x4, iv (A.length : Int), iv (k : Int), x7, x8] [] s := by
  intro l
  induction l with
  | nil =>
    intro m k x3 x7 x8 hd hd2 hk hq
    have := drop_end hd hk
    subst this
    have hm : m = [] := by rw [← hd2, hl]; simp
    refine WC.loop' ?_
    simp only [c105l9, c105o4, Int.lt_irrefl, decide_false, wpC, wpI, wpS, wpD, wpV, wanted_none, wanted_some, vals, cev_const, cev_var, cev_loc, padV, okV_some, againP, true_and, and_true, upd_zero, upd_succ, nth_zero, nth_succ, wpG_true, wpG_false, condK_true, condK_false, seqK_normal, seqK_ret, seqK_exit, inBlock_normal, inBlock_ret, inBlock_exit, ends_ret, ends_normal, unmark_nil, results_nil, results_cons, one_one, one_zero, one_two, isB_undef, isB_tt, isB_ff, Bool.not_true, Bool.not_false, Option.bind_some, pick3, pickA, extractA, List.getElem?_cons_zero, List.getElem?_cons_succ, bin_lss, bin_gtr, bin_leq, bin_geq, bin_eql, bin_neq, un_not]
    exact hq _ _ _ _ _ _ (.inr ⟨rfl, hm.symm⟩)
  | cons x l ih =>
    intro m k x3 x7 x8 hd hd2 hk hq
    obtain ⟨hlt, hx, hd'⟩ := drop_facts hd
    obtain ⟨y, hy⟩ : ∃ y, B[k]? = some y := ⟨B[k]'(by omega), List.getElem?_eq_getElem (by omega)⟩
    have hm : m = y :: B.drop (k + 1) := by
      rw [← hd2, List.drop_eq_getElem_cons (by omega)]
      rw [List.getElem?_eq_getElem (by omega)] at hy
      injection hy with hy
      rw [hy]
    subst hm
    obtain ⟨i, o, rfl, hi, hload⟩ := hc1 k _ (get_ivs hx)
    obtain ⟨i', o', rfl, hi', hload'⟩ := hc2 k _ (get_ivs hy)
    have e1 := idx_slice (cap := cap1) (i := i) (o := o) Try.underlying23 sz3 hlt
    have e2 : loadV Try.prog s 3 (.ptr (some (i, o + k * 1))) = some (iv x) := load_one ag3 (by rw [Nat.mul_one]; exact hload)
    have e1' := idx_slice (cap := cap2) (i := i') (o := o') Try.underlying23 sz3 hlt
    have e2' : loadV Try.prog s 3 (.ptr (some (i', o' + k * 1))) = some (iv y) := load_one ag3 (by rw [Nat.mul_one]; exact hload')
    have hkk : decide ((k : Int) < (A.length : Int)) = true := decide_eq_true (by omega)
    have e3 := bin_add Try.prog 3 (k : Int) 1 ⟨by omega, by omega⟩
    have e3' : ((k : Int) + 1) = ((k + 1 : Nat) : Int) := by omega
    refine WC.loop' ?_
    generalize hW : WC E none (CCode.loop c105l9) Q = WW
    by_cases h : x = y
    · subst h
      simp only [c105l9, c105o4, c105o5, c105o6, c105o8, hkk, e1, e2, e1', e2', e3, e3', ne_eq, not_true, decide_false, wpC, wpI, wpS, wpD, wpV, wanted_none, wanted_some, vals, cev_const, cev_var, cev_loc, padV, okV_some, againP, true_and, and_true, upd_zero, upd_succ, nth_zero, nth_succ, wpG_true, wpG_false, condK_true, condK_false, seqK_normal, seqK_ret, seqK_exit, inBlock_normal, inBlock_ret, inBlock_exit, ends_ret, ends_normal, unmark_nil, results_nil, results_cons, one_one, one_zero, one_two, isB_undef, isB_tt, isB_ff, Bool.not_true, Bool.not_false, Option.bind_some, pick3, pickA, extractA, List.getElem?_cons_zero, List.getElem?_cons_succ, bin_lss, bin_gtr, bin_leq, bin_geq, bin_eql, bin_neq, un_not]
      rw [← hW]
      refine ih (B.drop (k + 1)) (k + 1) _ _ _ hd' rfl hlt ?_
      intro e y2 y3 y6 y7 y8 he
      refine hq e y2 y3 y6 y7 y8 ?_
      rcases he with ⟨h1, h2, h3⟩ | ⟨h1, h2⟩
      · exact .inl ⟨h1, fun e => h2 (by injection e), h3⟩
      · exact .inr ⟨h1, by rw [h2]⟩
    · simp only [c105l9, c105o4, c105o5, c105o6, c105o7, hkk, e1, e2, e1', e2', h, ne_eq, not_false_eq_true, decide_true, wpC, wpI, wpS, wpD, wpV, wanted_none, wanted_some, vals, cev_const, cev_var, cev_loc, padV, okV_some, againP, true_and, and_true, upd_zero, upd_succ, nth_zero, nth_succ, wpG_true, wpG_false, condK_true, condK_false, seqK_normal, seqK_ret, seqK_exit, inBlock_normal, inBlock_ret, inBlock_exit, ends_ret, ends_normal, unmark_nil, results_nil, results_cons, one_one, one_zero, one_two, isB_undef, isB_tt, isB_ff, Bool.not_true, Bool.not_false, Option.bind_some, pick3, pickA, extractA, List.getElem?_cons_zero, List.getElem?_cons_succ, bin_lss, bin_gtr, bin_leq, bin_geq, bin_eql, bin_neq, un_not]
      exact hq _ _ _ _ _ _ (.inl ⟨rfl, fun e => h (by injection e), rfl⟩)
/-- Equal. -/
theorem equal_ok {E : Env} (hE : Good E) {s : ASt} {b : Nat} {A B : List Int} (hA : A.length ≤ 1000000) {v u : AV} (hv : SliceAt b s v (ivs A)) (hu : SliceAt b s u (ivs B)) :
    WF E 105 [v, u] (fun r s' => r = .bool (decide (A = B)) ∧ s = s') s := by
  obtain ⟨a1, cap1, rfl, hc1⟩ := hv
  obtain ⟨a2, cap2, rfl, hc2⟩ := hu
  rw [ivs_len, ivs_len]
  refine hE.go comp105 (by decide) rfl ?_
  by_cases hl : A.length = B.length
  · have hd : decide (¬ ((A.length : Int) = (B.length : Int))) = false := decide_eq_false (by omega)
    simp only [c105, c105o0, c105o1, c105o3, len_slice Try.underlying23, ne_eq, hd, wpC, wpI, wpS, wpD, wpV, wanted_none, wanted_some, vals, cev_const, cev_var, cev_loc, padV, okV_some, againP, true_and, and_true, upd_zero, upd_succ, nth_zero, nth_succ, wpG_true, wpG_false, condK_true, condK_false, seqK_normal, seqK_ret, seqK_exit, inBlock_normal, inBlock_ret, inBlock_exit, ends_ret, ends_normal, unmark_nil, results_nil, results_cons, one_one, one_zero, one_two, isB_undef, isB_tt, isB_ff, Bool.not_true, Bool.not_false, Option.bind_some, pick3, pickA, extractA, List.getElem?_cons_zero, List.getElem?_cons_succ, bin_lss, bin_gtr, bin_leq, bin_geq, bin_eql, bin_neq, un_not]
    rw [← hl]
    refine equal_loop hE hl hA hc1 hc2 _ A B 0 _ _ _ rfl rfl (Nat.zero_le _) ?_
    rintro e y2 y3 y6 y7 y8 (⟨rfl, h, rfl⟩ | ⟨rfl, h⟩)
    · simp only [h, decide_false, wpC, wpI, wpS, wpD, wpV, wanted_none, wanted_some, vals, cev_const, cev_var, cev_loc, padV, okV_some, againP, true_and, and_true, upd_zero, upd_succ, nth_zero, nth_succ, wpG_true, wpG_false, condK_true, condK_false, seqK_normal, seqK_ret, seqK_exit, inBlock_normal, inBlock_ret, inBlock_exit, ends_ret, ends_normal, unmark_nil, results_nil, results_cons, one_one, one_zero, one_two, isB_undef, isB_tt, isB_ff, Bool.not_true, Bool.not_false, Option.bind_some, pick3, pickA, extractA, List.getElem?_cons_zero, List.getElem?_cons_succ, bin_lss, bin_gtr, bin_leq, bin_geq, bin_eql, bin_neq, un_not]
    · simp only [c105o10, h, decide_true, if_true, wpC, wpI, wpS, wpD, wpV, wanted_none, wanted_some, vals, cev_const, cev_var, cev_loc, padV, okV_some, againP, true_and, and_true, upd_zero, upd_succ, nth_zero, nth_succ, wpG_true, wpG_false, condK_true, condK_false, seqK_normal, seqK_ret, seqK_exit, inBlock_normal, inBlock_ret, inBlock_exit, ends_ret, ends_normal, unmark_nil, results_nil, results_cons, one_one, one_zero, one_two, isB_undef, isB_tt, isB_ff, Bool.not_true, Bool.not_false, Option.bind_some, pick3, pickA, extractA, List.getElem?_cons_zero, List.getElem?_cons_succ, bin_lss, bin_gtr, bin_leq, bin_geq, bin_eql, bin_neq, un_not]
  · have hd : decide (¬ ((A.length : Int) = (B.length : Int))) = true := decide_eq_true (by omega)
    have hne : A ≠ B := fun e => hl (by rw [e])
    simp only [c105, c105o0, c105o1, c105o2, len_slice Try.underlying23, ne_eq, hd, hne, decide_false, wpC, wpI, wpS, wpD, wpV, wanted_none, wanted_some, vals, cev_const, cev_var, cev_loc, padV, okV_some, againP, true_and, and_true, upd_zero, upd_succ, nth_zero, nth_succ, wpG_true, wpG_false, condK_true, condK_false, seqK_normal, seqK_ret, seqK_exit, inBlock_normal, inBlock_ret, inBlock_exit, ends_ret, ends_normal, unmark_nil, results_nil, results_cons, one_one, one_zero, one_two, isB_undef, isB_tt, isB_ff, Bool.not_true, Bool.not_false, Option.bind_some, pick3, pickA, extractA, List.getElem?_cons_zero, List.getElem?_cons_succ, bin_lss, bin_gtr, bin_leq, bin_geq, bin_eql, bin_neq, un_not]
end Go.Proofs.Ytilhhmkdcoajnaa.Am

/- What the program's dropped computes: a row of clauses without the last one of the same literals; conditions: short clauses, none null. -/
set_option linter.unusedVariables false
set_option linter.unusedSimpArgs false
namespace Go.Proofs.Ytilhhmkdcoajnaa.Am
open Go Go.Proofs

/-- Clauses of twelve literals at most, each of which may hold. -/
def Plain (L : List Int) : Prop := I64s L ∧ (∀ x ∈ L, nullV x = false) ∧ L.length ≤ 12
theorem loopAt_eq {s s' : ASt} {l : Nat} (h : s'.heap.get l = s.heap.get l) : loopAt s' l = loopAt s l := by unfold loopAt; rw [h]
theorem loopAt_set (s : ASt) (l : Nat) (r : ALoop) : loopAt (setObj s l (.loop r)) l = some r := by unfold loopAt; rw [heap_set, if_pos rfl]
theorem CellsAt.keep {b : Nat} {s s' : ASt} {i o : Nat} {cs : List AV} (h : CellsAt b s (some (i, o)) cs) (k : s'.heap.get i = s.heap.get i) : CellsAt b s' (some (i, o)) cs := fun j u hj => by
  obtain ⟨i', o', e, h1, h2⟩ := h j u hj
  injection e with e; injection e with e1 e2; subst e1; subst e2
  exact ⟨i, o, rfl, h1, by rw [load1_eq k]; exact h2⟩

theorem again_r1 (s : ASt) (loc var : List AV) (f : ASt → AV → Option AV) (x a : CX) : again1 s loc var ⟨none, .r1 f, [x], a⟩ = sameA (f s (cev loc var x)) (cev loc var a) := rfl
/-- 83's slots while its loop runs. -/
noncomputable def vars83s (v u : AV) (n0 q : Nat) (x5 x6 x8 x9 x10 : AV) : List AV := [v, u, .ptr (some (n0, 0)), .ptr (some (n0 + 1, 0)), .ptr (some (q, 0)), x5, x6, .func 116 [] [.ptr (some (q + 1, 0))], x8, x9, x10]
noncomputable def loop83 (v u : AV) (n0 q : Nat) (x5 x6 x8 x9 x10 : AV) : ALoop := loopObj 83 (vars83s v u n0 q x5 x6 x8 x9 x10) #[12, 13] a83 b83 (q + 2)

set_option maxRecDepth 16000 in
theorem drop_round {E : Env} (hE : Good E) {s0 s8 : ASt} {n0 q b : Nat} {v u w d : AV} {us : List AV} {cs : List (List Int)} {c : List Int} {x5 x6 x8 x9 x10 : AV} (hn0 : s0.next = n0) (hq : n0 + 2 ≤ q) (hb : b ≤ n0)
    (hv : SliceAt n0 s0 v us) (hr : RowCells b s0 us cs) (hcs : ∀ L ∈ cs, Plain L) (hlen : us.length ≤ 1000) (h8 : Old n0 s0 s8)
    (hbx : Box1 s8 n0 v) (hrb : Box1 s8 (n0 + 1) d) (hwb : Box1 s8 q w) (hw : SliceAt q s8 w (ivs (cleanV [] c))) (heq : eqA w w = true) (hmk : s8.heap.get (q + 2) = some .mark)
    {k : Nat} {s : ASt} {K : AV → ASt → Prop} (hold : Old (q + 3) s8 s) (hlp : loopAt s (q + 3) = some (loop83 v u n0 q x5 x6 x8 x9 x10)) (hnx : q + 3 < s.next) {uk : AV} {L : List Int} (huk : us[k]? = some uk) (hLk : cs[k]? = some L)
    (hmiss : cleanV [] L ≠ cleanV [] c → ∀ s', Old (q + 3) s8 s' → loopAt s' (q + 3) = some (loop83 v u n0 q x5 x6 x8 x9 x10) → q + 3 < s'.next → K (.bool true) s')
    (hhit : cleanV [] L = cleanV [] c → ∀ s' i Z, Z ≠ [] → Old n0 s0 s' → Box1 s' (n0 + 1) (.slice (some (i, 0)) (us.take k ++ us.drop (k + 1)).length none) → q + 3 < i → i < s'.next → RowAt s' i ((us.take k ++ us.drop (k + 1)) ++ Z) → s'.heap.get (q + 2) = some .mark →
      loopAt s' (q + 3) = some { loop83 v u n0 q x5 x6 x8 x9 x10 with state := .done, pending := some .ret } → K (.bool false) s') :
    WR E (q + 3) [iv (k : Int), uk] K s := by
  have hk : k < us.length := lt_of_get huk
  have hz : zipParams (varsIn E.P 83) (vars83s v u n0 q x5 x6 x8 x9 x10) [12, 13] [iv (k : Int), uk] = some (vars83s v u n0 q x5 x6 (iv (k : Int)) uk x10) := by
    rw [hE.P, vars83]; rfl
  refine WR.round hlp hz (by rw [hE.P]; exact ca83) (by rw [hE.P]; exact cb83) ?_
  refine wpC_run ?_
  simp only [c83a, c83o3, c83o4, vars83s, wpC, wpI, wpS, wpD, wpV, wanted_none, wanted_some, vals, cev_const, cev_var, cev_loc, padV, okV_some, againP, true_and, and_true, upd_zero, upd_succ, nth_zero, nth_succ, wpG_true, wpG_false, condK_true, condK_false, seqK_normal, seqK_ret, seqK_exit, inBlock_normal, inBlock_ret, inBlock_exit, ends_ret, ends_normal, unmark_nil, results_nil, results_cons, one_one, one_zero, one_two, isB_undef, isB_tt, isB_ff, Bool.not_true, Bool.not_false, Option.bind_some, pick3, pickA, extractA, List.getElem?_cons_zero, List.getElem?_cons_succ, bin_lss, bin_gtr, bin_leq, bin_geq, bin_eql, bin_neq, un_not]
  refine ⟨_, hlp, rfl, wpC_run ?_⟩
  have hLp : Plain L := hcs L (List.mem_of_getElem? hLk)
  obtain ⟨uk', huk', hLs⟩ := hr.2 k L hLk
  rw [huk] at huk'
  injection huk' with huk'
  subst huk'
  -- busy
  generalize hs1 : setObj s (q + 3) _ = s1
  have n1 : s1.next = s.next := by rw [← hs1]; rfl
  have l1 : loopAt s1 (q + 3) = some { loop83 v u n0 q x5 x6 x8 x9 x10 with state := .busy } := by rw [← hs1, loopAt_set]
  have o1 : ∀ x, x ≠ q + 3 → s1.heap.get x = s.heap.get x := fun x hx => by rw [← hs1, heap_set, if_neg hx]
  have hold1 : Old (q + 3) s8 s1 := hold.trans ⟨by omega, fun x hx => o1 x (by omega)⟩
  have h81 : Old n0 s0 s1 := h8.trans (hold1.mono (by omega))
  have hnx0 := hold.1
  have w1 : Box1 s1 q w := hwb.keep (hold1.2 q (by omega))
  have ld := w1.load ag23
  simp only [c83b, c83o5, ld, wpC, wpI, wpS, wpD, wpV, wanted_none, wanted_some, vals, cev_const, cev_var, cev_loc, padV, okV_some, againP, true_and, and_true, upd_zero, upd_succ, nth_zero, nth_succ, wpG_true, wpG_false, condK_true, condK_false, seqK_normal, seqK_ret, seqK_exit, inBlock_normal, inBlock_ret, inBlock_exit, ends_ret, ends_normal, unmark_nil, results_nil, results_cons, one_one, one_zero, one_two, isB_undef, isB_tt, isB_ff, Bool.not_true, Bool.not_false, Option.bind_some, pick3, pickA, extractA, List.getElem?_cons_zero, List.getElem?_cons_succ, bin_lss, bin_gtr, bin_leq, bin_geq, bin_eql, bin_neq, un_not]
  refine (clean_ok hE hLp.1 hLp.2.1 hLp.2.2 (b := b) (by omega) (hLs.old h81 hb)).mono ?_
  rintro v2 s2 ⟨hv2, ho2, _⟩
  rw [clean_eq hLp.2.1] at hv2
  have hold2 : Old (q + 3) s8 s2 := hold1.trans (ho2.mono (by omega))
  have l2 : loopAt s2 (q + 3) = some { loop83 v u n0 q x5 x6 x8 x9 x10 with state := .busy } := by rw [loopAt_eq (ho2.2 _ (by omega))]; exact l1
  have ld2 := (hwb.keep (hold2.2 q (by omega))).load ag23
  have hws : SliceAt q s2 w (ivs (cleanV [] c)) := hw.old (hold2.mono (by omega)) (Nat.le_refl _)
  simp only [again_r1, sameA_some, ld2, heq, wpC, wpI, wpS, wpD, wpV, wanted_none, wanted_some, vals, cev_const, cev_var, cev_loc, padV, okV_some, againP, true_and, and_true, upd_zero, upd_succ, nth_zero, nth_succ, wpG_true, wpG_false, condK_true, condK_false, seqK_normal, seqK_ret, seqK_exit, inBlock_normal, inBlock_ret, inBlock_exit, ends_ret, ends_normal, unmark_nil, results_nil, results_cons, one_one, one_zero, one_two, isB_undef, isB_tt, isB_ff, Bool.not_true, Bool.not_false, Option.bind_some, pick3, pickA, extractA, List.getElem?_cons_zero, List.getElem?_cons_succ, bin_lss, bin_gtr, bin_leq, bin_geq, bin_eql, bin_neq, un_not]
  refine (equal_ok hE ?_ hv2 (hws.mono (by have := ho2.1; omega))).mono ?_
  · have := cleanV_len L []
    have := hLp.2.2
    simp at *; omega
  rintro _ _ ⟨rfl, rfl⟩
  by_cases h : cleanV [] L = cleanV [] c
  · have hk1 := bin_add Try.prog 3 (k : Int) 1 ⟨by omega, by omega⟩
    have hk1' : ((k : Int) + 1) = ((k + 1 : Nat) : Int) := by omega
    have ldx := (hbx.keep (hold2.2 n0 (by omega))).load ag22
    simp only [h, decide_true, c83o6, ldx, wpC, wpI, wpS, wpD, wpV, wanted_none, wanted_some, vals, cev_const, cev_var, cev_loc, padV, okV_some, againP, true_and, and_true, upd_zero, upd_succ, nth_zero, nth_succ, wpG_true, wpG_false, condK_true, condK_false, seqK_normal, seqK_ret, seqK_exit, inBlock_normal, inBlock_ret, inBlock_exit, ends_ret, ends_normal, unmark_nil, results_nil, results_cons, one_one, one_zero, one_two, isB_undef, isB_tt, isB_ff, Bool.not_true, Bool.not_false, Option.bind_some, pick3, pickA, extractA, List.getElem?_cons_zero, List.getElem?_cons_succ, bin_lss, bin_gtr, bin_leq, bin_geq, bin_eql, bin_neq, un_not]
    have h82 : Old n0 s0 s2 := h8.trans (hold2.mono (by omega))
    refine (clone22_ok hE (b := n0) (by have := ho2.1; omega) (hv.old h82 (Nat.le_refl _)) hr.cells (by omega)).mono ?_
    rintro v3 s3 ⟨hv3, ho3⟩
    have hold3 : Old (q + 3) s8 s3 := hold2.trans (ho3.mono (by have := hold2.1; have := ho2.1; omega))
    have l3 : loopAt s3 (q + 3) = some { loop83 v u n0 q x5 x6 x8 x9 x10 with state := .busy } := by rw [loopAt_eq (ho3.2 _ (by have := ho2.1; omega))]; exact l2
    rcases hv3 with ⟨a, rfl, e⟩ | ⟨i, rfl, hi1, hi2, hi3⟩
    · subst e; simp at hk
    simp only [hk1, hk1', wpC, wpI, wpS, wpD, wpV, wanted_none, wanted_some, vals, cev_const, cev_var, cev_loc, padV, okV_some, againP, true_and, and_true, upd_zero, upd_succ, nth_zero, nth_succ, wpG_true, wpG_false, condK_true, condK_false, seqK_normal, seqK_ret, seqK_exit, inBlock_normal, inBlock_ret, inBlock_exit, ends_ret, ends_normal, unmark_nil, results_nil, results_cons, one_one, one_zero, one_two, isB_undef, isB_tt, isB_ff, Bool.not_true, Bool.not_false, Option.bind_some, pick3, pickA, extractA, List.getElem?_cons_zero, List.getElem?_cons_succ, bin_lss, bin_gtr, bin_leq, bin_geq, bin_eql, bin_neq, un_not]
    refine (delete22_ok hE hi3 hk hr.cells (by omega)).mono ?_
    rintro _ s4 ⟨Z, hZ, rfl, hz4, n4, o4⟩
    have hin : q + 3 < i := by have := ho2.1; omega
    obtain ⟨s5, g1, g2, g3, g4⟩ := (hrb.keep ((o4 (n0 + 1) (by omega)).trans (hold3.2 (n0 + 1) (by omega)))).store (d := .slice (some (i, 0)) (us.take k ++ us.drop (k + 1)).length none) sz22 rfl rfl
    simp only [on2, g1, withV, wpC, wpI, wpS, wpD, wpV, wanted_none, wanted_some, vals, cev_const, cev_var, cev_loc, padV, okV_some, againP, true_and, and_true, upd_zero, upd_succ, nth_zero, nth_succ, wpG_true, wpG_false, condK_true, condK_false, seqK_normal, seqK_ret, seqK_exit, inBlock_normal, inBlock_ret, inBlock_exit, ends_ret, ends_normal, unmark_nil, results_nil, results_cons, one_one, one_zero, one_two, isB_undef, isB_tt, isB_ff, Bool.not_true, Bool.not_false, Option.bind_some, pick3, pickA, extractA, List.getElem?_cons_zero, List.getElem?_cons_succ, bin_lss, bin_gtr, bin_leq, bin_geq, bin_eql, bin_neq, un_not]
    have l5 : loopAt s5 (q + 3) = some { loop83 v u n0 q x5 x6 x8 x9 x10 with state := .busy } := by rw [loopAt_eq ((g4 _ (by omega)).trans (o4 _ (by omega)))]; exact l3
    refine ⟨_, l5, ?_⟩
    refine hhit h _ i Z hZ ?_ ?_ hin ?_ ?_ ?_ ?_
    · refine (h8.trans ((hold3.mono (by omega)))).trans ⟨by show s3.next ≤ s5.next; omega, fun x hx => ?_⟩
      rw [heap_set, if_neg (by omega), g4 x (by omega), o4 x (by omega)]
    · exact g2.keep (by rw [heap_set, if_neg (by omega)])
    · show i < s5.next; omega
    · exact (hz4.keep (g4 i (by omega))).keep (by rw [heap_set, if_neg (by omega)])
    · rw [heap_set, if_neg (by omega), g4 _ (by omega), o4 _ (by omega), hold3.2 _ (by omega)]; exact hmk
    · rw [loopAt_set]; rfl
  · simp only [h, decide_false, wpC, wpI, wpS, wpD, wpV, wanted_none, wanted_some, vals, cev_const, cev_var, cev_loc, padV, okV_some, againP, true_and, and_true, upd_zero, upd_succ, nth_zero, nth_succ, wpG_true, wpG_false, condK_true, condK_false, seqK_normal, seqK_ret, seqK_exit, inBlock_normal, inBlock_ret, inBlock_exit, ends_ret, ends_normal, unmark_nil, results_nil, results_cons, one_one, one_zero, one_two, isB_undef, isB_tt, isB_ff, Bool.not_true, Bool.not_false, Option.bind_some, pick3, pickA, extractA, List.getElem?_cons_zero, List.getElem?_cons_succ, bin_lss, bin_gtr, bin_leq, bin_geq, bin_eql, bin_neq, un_not]
    refine ⟨_, l2, ?_⟩
    refine hmiss h _ ?_ ?_ ?_
    · exact hold2.trans ⟨Nat.le_refl _, fun x hx => by rw [heap_set, if_neg (by omega)]⟩
    · rw [loopAt_set]; rfl
    · show q + 3 < s2.next
      have := ho2.1; omega
end Go.Proofs.Ytilhhmkdcoajnaa.Am

/- What the program's dropped computes (its loop, and all); conditions: short clauses, none null. -/
set_option linter.unusedVariables false
set_option linter.unusedSimpArgs false
namespace Go.Proofs.Ytilhhmkdcoajnaa.Am
open Go Go.Proofs

set_option maxRecDepth 16000 in
theorem back_loop {E : Env} (hE : Good E) {s0 s8 : ASt} {n0 q b : Nat} {v u w d : AV} {us : List AV} {cs : List (List Int)} {c : List Int} {x5 x6 x8 x9 x10 : AV} (hn0 : s0.next = n0) (hq : n0 + 2 ≤ q) (hb : b ≤ n0)
    (hv : SliceAt n0 s0 v us) (hr : RowCells b s0 us cs) (hcs : ∀ L ∈ cs, Plain L) (hlen : us.length ≤ 1000) (h8 : Old n0 s0 s8)
    (hbx : Box1 s8 n0 v) (hrb : Box1 s8 (n0 + 1) d) (hwb : Box1 s8 q w) (hw : SliceAt q s8 w (ivs (cleanV [] c))) (heq : eqA w w = true) (hmk : s8.heap.get (q + 2) = some .mark) (hbb : Box1 s8 (q + 1) v) {Q : ARes → Prop} :
    ∀ (k : Nat) (s : ASt) (x3 x4 : AV), k ≤ cs.length → Old (q + 3) s8 s → loopAt s (q + 3) = some (loop83 v u n0 q x5 x6 x8 x9 x10) → q + 3 < s.next → lastV cs c cs.length = lastV cs c k →
      (lastV cs c cs.length = none → ∀ s' y2 y3 y4, Old (q + 3) s8 s' → loopAt s' (q + 3) = some (loop83 v u n0 q x5 x6 x8 x9 x10) → q + 3 < s'.next → Q ⟨.exit 0, [.yield (q + 3), .ptr (some (q + 1, 0)), y2, y3, y4], [], s'⟩) →
      (∀ k, k < us.length → lastV cs c cs.length = some k → ∀ s' i Z y2 y3 y4, Z ≠ [] → Old n0 s0 s' → Box1 s' (n0 + 1) (.slice (some (i, 0)) (us.take k ++ us.drop (k + 1)).length none) → q + 3 < i → i < s'.next → RowAt s' i ((us.take k ++ us.drop (k + 1)) ++ Z) → s'.heap.get (q + 2) = some .mark →
        loopAt s' (q + 3) = some { loop83 v u n0 q x5 x6 x8 x9 x10 with state := .done, pending := some .ret } → Q ⟨.ret, [.yield (q + 3), .ptr (some (q + 1, 0)), y2, y3, y4], [], s'⟩) →
      WC E none (.loop c116l4) Q [.yield (q + 3), .ptr (some (q + 1, 0)), iv ((k : Int) - 1), x3, x4] [] s := by
  intro k
  induction k with
  | zero =>
    intro s x3 x4 hk hold hlp hnx hl hend hhit
    refine WC.loop' ?_
    simp only [c116l4, c116o1, show ((0 : Nat) : Int) - 1 = -1 from rfl, show decide ((0 : Int) ≤ -1) = false from rfl, wpC, wpI, wpS, wpD, wpV, wanted_none, wanted_some, vals, cev_const, cev_var, cev_loc, padV, okV_some, againP, true_and, and_true, upd_zero, upd_succ, nth_zero, nth_succ, wpG_true, wpG_false, condK_true, condK_false, seqK_normal, seqK_ret, seqK_exit, inBlock_normal, inBlock_ret, inBlock_exit, ends_ret, ends_normal, unmark_nil, results_nil, results_cons, one_one, one_zero, one_two, isB_undef, isB_tt, isB_ff, Bool.not_true, Bool.not_false, Option.bind_some, pick3, pickA, extractA, List.getElem?_cons_zero, List.getElem?_cons_succ, bin_lss, bin_gtr, bin_leq, bin_geq, bin_eql, bin_neq, un_not]
    exact hend hl s _ _ _ hold hlp hnx
  | succ k ih =>
    intro s x3 x4 hk hold hlp hnx hl hend hhit
    have hL : cs[k]? = some cs[k] := List.getElem?_eq_getElem hk
    obtain ⟨uk, huk, hus⟩ := hr.2 k _ hL
    have hkl : k < us.length := lt_of_get huk
    have hgd : cs.getD k [] = cs[k] := by simp [List.getD_eq_getElem?_getD, hL]
    have hk1 : ((k + 1 : Nat) : Int) - 1 = (k : Int) := by omega
    have hge : decide ((0 : Int) ≤ (k : Int)) = true := decide_eq_true (by omega)
    have e3 := bin_sub Try.prog 3 (k : Int) 1 ⟨by omega, by omega⟩
    have ld := (hbb.keep (hold.2 (q + 1) (by omega))).load ag22
    obtain ⟨a, cap, hve, hcells⟩ := hv
    have hcells' : CellsAt n0 s a us := hcells.old (h8.trans (hold.mono (by omega))) (Nat.le_refl _)
    obtain ⟨i, o, hae, hi, hload⟩ := hcells' k uk huk
    have e1 : indexAddrA Try.prog 22 v (iv (k : Int)) = some (.ptr (some (i, o + k * 1))) := by rw [hve, hae]; exact idx_slice Try.underlying22 sz23 hkl
    have e2 : loadV Try.prog s 23 (.ptr (some (i, o + k * 1))) = some uk := load_one ag23 (by rw [Nat.mul_one]; exact hload)
    refine WC.loop' ?_
    generalize hW : WC E none (CCode.loop c116l4) Q = WW
    rw [hk1]
    simp only [c116l4, c116o1, c116o2, hge, ld, e1, e2, wpC, wpI, wpS, wpD, wpV, wanted_none, wanted_some, vals, cev_const, cev_var, cev_loc, padV, okV_some, againP, true_and, and_true, upd_zero, upd_succ, nth_zero, nth_succ, wpG_true, wpG_false, condK_true, condK_false, seqK_normal, seqK_ret, seqK_exit, inBlock_normal, inBlock_ret, inBlock_exit, ends_ret, ends_normal, unmark_nil, results_nil, results_cons, one_one, one_zero, one_two, isB_undef, isB_tt, isB_ff, Bool.not_true, Bool.not_false, Option.bind_some, pick3, pickA, extractA, List.getElem?_cons_zero, List.getElem?_cons_succ, bin_lss, bin_gtr, bin_leq, bin_geq, bin_eql, bin_neq, un_not]
    refine drop_round hE hn0 hq hb ⟨a, cap, hve, hcells⟩ hr hcs hlen h8 hbx hrb hwb hw heq hmk hold hlp hnx huk hL ?_ ?_
    · intro hne s' g1 g2 g3
      simp only [c116o3, e3, wpC, wpI, wpS, wpD, wpV, wanted_none, wanted_some, vals, cev_const, cev_var, cev_loc, padV, okV_some, againP, true_and, and_true, upd_zero, upd_succ, nth_zero, nth_succ, wpG_true, wpG_false, condK_true, condK_false, seqK_normal, seqK_ret, seqK_exit, inBlock_normal, inBlock_ret, inBlock_exit, ends_ret, ends_normal, unmark_nil, results_nil, results_cons, one_one, one_zero, one_two, isB_undef, isB_tt, isB_ff, Bool.not_true, Bool.not_false, Option.bind_some, pick3, pickA, extractA, List.getElem?_cons_zero, List.getElem?_cons_succ, bin_lss, bin_gtr, bin_leq, bin_geq, bin_eql, bin_neq, un_not]
      rw [← hW]
      refine ih s' _ _ (by omega) g1 g2 g3 ?_ hend hhit
      rw [hl]
      show (if cleanV [] (cs.getD k []) = cleanV [] c then some k else lastV cs c k) = lastV cs c k
      rw [hgd, if_neg hne]
    · intro he s' i Z g0 g1 g2 g3 g4 g5 g6 g7
      simp only [wpC, wpI, wpS, wpD, wpV, wanted_none, wanted_some, vals, cev_const, cev_var, cev_loc, padV, okV_some, againP, true_and, and_true, upd_zero, upd_succ, nth_zero, nth_succ, wpG_true, wpG_false, condK_true, condK_false, seqK_normal, seqK_ret, seqK_exit, inBlock_normal, inBlock_ret, inBlock_exit, ends_ret, ends_normal, unmark_nil, results_nil, results_cons, one_one, one_zero, one_two, isB_undef, isB_tt, isB_ff, Bool.not_true, Bool.not_false, Option.bind_some, pick3, pickA, extractA, List.getElem?_cons_zero, List.getElem?_cons_succ, bin_lss, bin_gtr, bin_leq, bin_geq, bin_eql, bin_neq, un_not]
      refine hhit k hkl ?_ s' i Z _ _ _ g0 g1 g2 g3 g4 g5 g6 g7
      rw [hl]
      show (if cleanV [] (cs.getD k []) = cleanV [] c then some k else lastV cs c k) = some k
      rw [hgd, if_pos he]

theorem back_ok {E : Env} (hE : Good E) {s : ASt} {v : AV} (hv : v.cells = [v]) : WF E 104 [v] (fun r s' => r = .func 116 [] [.ptr (some (s.next, 0))] ∧ s' = newObj s (mkRow 22 0 [v])) s := by
  refine hE.go comp104 (by decide) rfl ?_
  have hptr : ∀ i, Made.val i .ptr = .ptr (some (i, 0)) := fun _ => rfl
  have hbox : boxA 22 v = some (mkRow 22 0 [v], .ptr) := by simp [boxA, hv]
  simp only [c104, c104o0, c104o1, hbox, hptr, List.take_zero, List.drop_zero, wpC, wpI, wpS, wpD, wpV, wanted_none, wanted_some, vals, cev_const, cev_var, cev_loc, padV, okV_some, againP, true_and, and_true, upd_zero, upd_succ, nth_zero, nth_succ, wpG_true, wpG_false, condK_true, condK_false, seqK_normal, seqK_ret, seqK_exit, inBlock_normal, inBlock_ret, inBlock_exit, ends_ret, ends_normal, unmark_nil, results_nil, results_cons, one_one, one_zero, one_two, isB_undef, isB_tt, isB_ff, Bool.not_true, Bool.not_false, Option.bind_some, pick3, pickA, extractA, List.getElem?_cons_zero, List.getElem?_cons_succ, bin_lss, bin_gtr, bin_leq, bin_geq, bin_eql, bin_neq, un_not]

theorem results_load (P : Program) (s : ASt) (v : List AV) (x : CX) (t : TypeId) (l : List (CX × Option TypeId)) : resultsA P s v ((x, some t) :: l) = (loadV P s t (cev [] v x)).bind fun u => (resultsA P s v l).bind fun r => some (u :: r) := rfl
theorem alloc22 : allocA Try.prog 22 = some (mkRow 22 0 [.slice none 0 (some 0)], .ptr) := by simp [allocA, zr22, AV.cells]
theorem alloc23 : allocA Try.prog 23 = some (mkRow 23 0 [.slice none 0 (some 0)], .ptr) := by simp [allocA, zr23, AV.cells]

set_option maxRecDepth 16000 in
/-- dropped. -/
theorem dropped_ok {E : Env} (hE : Good E) {s : ASt} {b : Nat} {v u : AV} {us : List AV} {cs : List (List Int)} {c : List Int} (hb : b ≤ s.next) (hv : SliceAt s.next s v us) (hr : RowCells b s us cs) (hcs : ∀ L ∈ cs, Plain L) (hlen : us.length ≤ 1000) (hc : Plain c) (hu : SliceAt b s u (ivs c)) :
    WF E 83 [v, u] (fun r s' => ∃ us', RowCells b s' us' (dropV cs c) ∧ (r = v ∧ us' = us ∨ ∃ i Z, r = .slice (some (i, 0)) us'.length none ∧ RowAt s' i (us' ++ Z) ∧ Z ≠ [] ∧ s.next ≤ i ∧ i < s'.next) ∧ Old s.next s s') s := by
  have hvc := hv.isCell
  have hptr : ∀ i, Made.val i .ptr = .ptr (some (i, 0)) := fun _ => rfl
  have hbox : boxA 22 v = some (mkRow 22 0 [v], .ptr) := by simp [boxA, hvc.2]
  refine hE.go comp83 (by decide) rfl ?_
  generalize hn0 : s.next = n0 at hv
  generalize hs1 : newObj s (mkRow 22 0 [v]) = s1
  have n1 : s1.next = n0 + 1 := by rw [← hs1, ← hn0]; rfl
  have o1 : Old n0 s s1 := by rw [← hs1, ← hn0]; exact Old.new s _
  have b1 : Box1 s1 n0 v := by rw [← hs1, ← hn0]; exact Box1.new
  generalize hs2 : newObj s1 (mkRow 22 0 [.slice none 0 (some 0)]) = s2
  have n2 : s2.next = n0 + 2 := by rw [← hs2]; show s1.next + 1 = _; omega
  have o2 : Old (n0 + 1) s1 s2 := by rw [← hs2, ← n1]; exact Old.new s1 _
  have b2 : Box1 s2 (n0 + 1) (.slice none 0 (some 0)) := by rw [← hs2, ← n1]; exact Box1.new
  simp only [c83, c83o0, c83o1, hbox, hn0, hs1, hptr, alloc22, hs2, n1, wpC, wpI, wpS, wpD, wpV, wanted_none, wanted_some, vals, cev_const, cev_var, cev_loc, padV, okV_some, againP, true_and, and_true, upd_zero, upd_succ, nth_zero, nth_succ, wpG_true, wpG_false, condK_true, condK_false, seqK_normal, seqK_ret, seqK_exit, inBlock_normal, inBlock_ret, inBlock_exit, ends_ret, ends_normal, unmark_nil, results_nil, results_cons, one_one, one_zero, one_two, isB_undef, isB_tt, isB_ff, Bool.not_true, Bool.not_false, Option.bind_some, pick3, pickA, extractA, List.getElem?_cons_zero, List.getElem?_cons_succ, bin_lss, bin_gtr, bin_leq, bin_geq, bin_eql, bin_neq, un_not]
  refine (clean_ok hE hc.1 hc.2.1 hc.2.2 (b := b) (by omega) (hu.old (o1.trans (o2.mono (by omega))) (by omega))).mono ?_
  rintro w s3 ⟨hw, o3, heq⟩
  rw [clean_eq hc.2.1] at hw
  have n3 : n0 + 2 ≤ s3.next := by have := o3.1; omega
  generalize hq : s3.next = q at n3 hw
  generalize hs4 : newObj s3 (mkRow 23 0 [.slice none 0 (some 0)]) = s4
  have n4 : s4.next = q + 1 := by rw [← hs4, ← hq]; rfl
  have o4 : Old q s3 s4 := by rw [← hs4, ← hq]; exact Old.new s3 _
  have b4 : Box1 s4 q (.slice none 0 (some 0)) := by rw [← hs4, ← hq]; exact Box1.new
  obtain ⟨s5, g1, g2, g3, g4⟩ := b4.store (d := w) sz23 hw.isCell.1 hw.isCell.2
  have o5 : Old q s3 s5 := o4.trans ⟨by omega, fun x hx => g4 x (by omega)⟩
  have b1' : Box1 s5 n0 v := ((b1.keep (o2.2 n0 (by omega))).keep (o3.2 n0 (by omega))).keep (o5.2 n0 (by omega))
  have b2' : Box1 s5 (n0 + 1) (.slice none 0 (some 0)) := (b2.keep (o3.2 _ (by omega))).keep (o5.2 _ (by omega))
  simp only [c83o2, alloc23, hq, hs4, on2, g1, withV, b1'.load ag22, hptr, wpC, wpI, wpS, wpD, wpV, wanted_none, wanted_some, vals, cev_const, cev_var, cev_loc, padV, okV_some, againP, true_and, and_true, upd_zero, upd_succ, nth_zero, nth_succ, wpG_true, wpG_false, condK_true, condK_false, seqK_normal, seqK_ret, seqK_exit, inBlock_normal, inBlock_ret, inBlock_exit, ends_ret, ends_normal, unmark_nil, results_nil, results_cons, one_one, one_zero, one_two, isB_undef, isB_tt, isB_ff, Bool.not_true, Bool.not_false, Option.bind_some, pick3, pickA, extractA, List.getElem?_cons_zero, List.getElem?_cons_succ, bin_lss, bin_gtr, bin_leq, bin_geq, bin_eql, bin_neq, un_not]
  refine (back_ok hE hvc.2).mono ?_
  rintro _ _ ⟨rfl, rfl⟩
  rw [show s5.next = q + 1 by omega]
  simp only [wpC, wpI, wpS, wpD, wpV, wanted_none, wanted_some, vals, cev_const, cev_var, cev_loc, padV, okV_some, againP, true_and, and_true, upd_zero, upd_succ, nth_zero, nth_succ, wpG_true, wpG_false, condK_true, condK_false, seqK_normal, seqK_ret, seqK_exit, inBlock_normal, inBlock_ret, inBlock_exit, ends_ret, ends_normal, unmark_nil, results_nil, results_cons, one_one, one_zero, one_two, isB_undef, isB_tt, isB_ff, Bool.not_true, Bool.not_false, Option.bind_some, pick3, pickA, extractA, List.getElem?_cons_zero, List.getElem?_cons_succ, bin_lss, bin_gtr, bin_leq, bin_geq, bin_eql, bin_neq, un_not]
  generalize hs6 : newObj s5 (mkRow 22 0 [v]) = s6
  have n6 : s6.next = q + 2 := by rw [← hs6]; show s5.next + 1 = _; omega
  have o6 : Old (q + 1) s5 s6 := by rw [← hs6, show q + 1 = s5.next by omega]; exact Old.new s5 _
  have b6 : Box1 s6 (q + 1) v := by rw [← hs6, show q + 1 = s5.next by omega]; exact Box1.new
  refine WC.range rfl ?_
  rw [n6]
  generalize hs7 : newObj s6 .mark = s7
  have n7 : s7.next = q + 3 := by rw [← hs7]; show s6.next + 1 = _; omega
  have o7 : Old (q + 2) s6 s7 := by rw [← hs7, ← n6]; exact Old.new s6 _
  have m7 : s7.heap.get (q + 2) = some .mark := by rw [← hs7, heap_new, if_pos n6.symm]
  generalize hs8 : newObj s7 _ = s8
  have n8 : s8.next = q + 4 := by rw [← hs8]; show s7.next + 1 = _; omega
  have o8 : Old (q + 3) s7 s8 := by rw [← hs8, ← n7]; exact Old.new s7 _
  have l8 : loopAt s8 (q + 3) = some (loop83 v u n0 q undefA undefA undefA undefA undefA) := by
    unfold loopAt; rw [← hs8, heap_new, if_pos n7.symm]; rfl
  have o58 : Old (q + 1) s5 s8 := o6.trans ((o7.mono (by omega)).trans (o8.mono (by omega)))
  have h8 : Old n0 s s8 := (o1.trans (o2.mono (by omega))).trans ((o3.mono (by omega)).trans ((o5.mono (by omega)).trans (o58.mono (by omega))))
  have hbx := b1'.keep (o58.2 n0 (by omega))
  have hrb := b2'.keep (o58.2 (n0 + 1) (by omega))
  have hwb := g2.keep (o58.2 q (by omega))
  have hbb := (b6.keep (o7.2 (q + 1) (by omega))).keep (o8.2 (q + 1) (by omega))
  have hmk : s8.heap.get (q + 2) = some .mark := by rw [o8.2 _ (by omega)]; exact m7
  have hw8 : SliceAt q s8 w (ivs (cleanV [] c)) := hw.old (o5.trans (o58.mono (by omega))) (Nat.le_refl _)
  have hlv : lenA Try.prog s8 22 v = some (iv (us.length : Int)) := by obtain ⟨a, cap, rfl, _⟩ := hv; exact len_slice Try.underlying22
  have hsub := bin_sub Try.prog 3 (us.length : Int) 1 ⟨by omega, by omega⟩
  have huc : us.length = cs.length := hr.1
  refine hE.go comp116 (by decide) rfl ?_
  simp only [c116, c116o0, List.nil_append, List.cons_append, hbb.load ag22, hlv, hsub, wpC, wpI, wpS, wpD, wpV, wanted_none, wanted_some, vals, cev_const, cev_var, cev_loc, padV, okV_some, againP, true_and, and_true, upd_zero, upd_succ, nth_zero, nth_succ, wpG_true, wpG_false, condK_true, condK_false, seqK_normal, seqK_ret, seqK_exit, inBlock_normal, inBlock_ret, inBlock_exit, ends_ret, ends_normal, unmark_nil, results_nil, results_cons, one_one, one_zero, one_two, isB_undef, isB_tt, isB_ff, Bool.not_true, Bool.not_false, Option.bind_some, pick3, pickA, extractA, List.getElem?_cons_zero, List.getElem?_cons_succ, bin_lss, bin_gtr, bin_leq, bin_geq, bin_eql, bin_neq, un_not]
  rw [huc]
  refine back_loop hE hn0 n3 (by omega) hv hr hcs hlen h8 hbx hrb hwb hw8 heq hmk hbb cs.length s8 _ _ (Nat.le_refl _) (Old.refl _ _) l8 (by omega) rfl ?_ ?_
  · intro hnone s' y2 y3 y4 h1 h2 h3
    have hdr : dropV cs c = cs := by unfold dropV; rw [hnone]; rfl
    simp only [if_true, wpC, wpI, wpS, wpD, wpV, wanted_none, wanted_some, vals, cev_const, cev_var, cev_loc, padV, okV_some, againP, true_and, and_true, upd_zero, upd_succ, nth_zero, nth_succ, wpG_true, wpG_false, condK_true, condK_false, seqK_normal, seqK_ret, seqK_exit, inBlock_normal, inBlock_ret, inBlock_exit, ends_ret, ends_normal, unmark_nil, results_nil, results_cons, one_one, one_zero, one_two, isB_undef, isB_tt, isB_ff, Bool.not_true, Bool.not_false, Option.bind_some, pick3, pickA, extractA, List.getElem?_cons_zero, List.getElem?_cons_succ, bin_lss, bin_gtr, bin_leq, bin_geq, bin_eql, bin_neq, un_not]
    refine ⟨_, h2, rfl, ?_⟩
    generalize hs9 : setObj s' (q + 3) _ = s9
    have n9 : s9.next = s'.next := by rw [← hs9]; rfl
    have o9 : Old (q + 3) s8 s9 := h1.trans ⟨by omega, fun x hx => by rw [← hs9, heap_set, if_neg (by omega)]⟩
    obtain ⟨t1, k1, k2, k3, k4⟩ := (hrb.keep (o9.2 (n0 + 1) (by omega))).store (d := v) sz22 hvc.1 hvc.2
    have mk1 : t1.heap.get (q + 2) = some .mark := by rw [k4 _ (by omega), o9.2 _ (by omega)]; exact hmk
    show PendK _ _ _ _ none
    simp only [PendK, c83o8, (hbx.keep (o9.2 n0 (by omega))).load ag22, on2, k1, withV, unmark_one mk1, wpC, wpI, wpS, wpD, wpV, wanted_none, wanted_some, vals, cev_const, cev_var, cev_loc, padV, okV_some, againP, true_and, and_true, upd_zero, upd_succ, nth_zero, nth_succ, wpG_true, wpG_false, condK_true, condK_false, seqK_normal, seqK_ret, seqK_exit, inBlock_normal, inBlock_ret, inBlock_exit, ends_ret, ends_normal, unmark_nil, results_nil, results_cons, one_one, one_zero, one_two, isB_undef, isB_tt, isB_ff, Bool.not_true, Bool.not_false, Option.bind_some, pick3, pickA, extractA, List.getElem?_cons_zero, List.getElem?_cons_succ, bin_lss, bin_gtr, bin_leq, bin_geq, bin_eql, bin_neq, un_not]
    have k2' : Box1 (delObj t1 (q + 2)) (n0 + 1) v := k2.keep (by rw [heap_del, if_neg (by omega)])
    simp only [results_load, k2'.load ag22, wpC, wpI, wpS, wpD, wpV, wanted_none, wanted_some, vals, cev_const, cev_var, cev_loc, padV, okV_some, againP, true_and, and_true, upd_zero, upd_succ, nth_zero, nth_succ, wpG_true, wpG_false, condK_true, condK_false, seqK_normal, seqK_ret, seqK_exit, inBlock_normal, inBlock_ret, inBlock_exit, ends_ret, ends_normal, unmark_nil, results_nil, results_cons, one_one, one_zero, one_two, isB_undef, isB_tt, isB_ff, Bool.not_true, Bool.not_false, Option.bind_some, pick3, pickA, extractA, List.getElem?_cons_zero, List.getElem?_cons_succ, bin_lss, bin_gtr, bin_leq, bin_geq, bin_eql, bin_neq, un_not]
    have hfin : Old n0 s (delObj t1 (q + 2)) := h8.trans ((o9.mono (by omega)).trans ⟨by show s9.next ≤ t1.next; omega, fun x hx => by rw [heap_del, if_neg (by omega), k4 x (by omega)]⟩)
    exact ⟨us, by rw [hdr]; exact hr.old (hfin.mono (by omega)), .inl (by simp), hfin⟩
  · intro k hk hsome s' i Z y2 y3 y4 hZ h1 h2 h3 h4 h5 h6 h7
    have hdr : dropV cs c = cs.take k ++ cs.drop (k + 1) := by unfold dropV; rw [hsome]; rfl
    simp only [wpC, wpI, wpS, wpD, wpV, wanted_none, wanted_some, vals, cev_const, cev_var, cev_loc, padV, okV_some, againP, true_and, and_true, upd_zero, upd_succ, nth_zero, nth_succ, wpG_true, wpG_false, condK_true, condK_false, seqK_normal, seqK_ret, seqK_exit, inBlock_normal, inBlock_ret, inBlock_exit, ends_ret, ends_normal, unmark_nil, results_nil, results_cons, one_one, one_zero, one_two, isB_undef, isB_tt, isB_ff, Bool.not_true, Bool.not_false, Option.bind_some, pick3, pickA, extractA, List.getElem?_cons_zero, List.getElem?_cons_succ, bin_lss, bin_gtr, bin_leq, bin_geq, bin_eql, bin_neq, un_not]
    refine ⟨_, h7, rfl, ?_⟩
    generalize hs9 : setObj s' (q + 3) _ = s9
    have n9 : s9.next = s'.next := by rw [← hs9]; rfl
    have e9 : ∀ x, x ≠ q + 3 → s9.heap.get x = s'.heap.get x := fun x hx => by rw [← hs9, heap_set, if_neg hx]
    have mk1 : s9.heap.get (q + 2) = some .mark := by rw [e9 _ (by omega)]; exact h6
    show PendK _ _ _ _ (some .ret)
    simp only [PendK, unmark_one mk1, wpC, wpI, wpS, wpD, wpV, wanted_none, wanted_some, vals, cev_const, cev_var, cev_loc, padV, okV_some, againP, true_and, and_true, upd_zero, upd_succ, nth_zero, nth_succ, wpG_true, wpG_false, condK_true, condK_false, seqK_normal, seqK_ret, seqK_exit, inBlock_normal, inBlock_ret, inBlock_exit, ends_ret, ends_normal, unmark_nil, results_nil, results_cons, one_one, one_zero, one_two, isB_undef, isB_tt, isB_ff, Bool.not_true, Bool.not_false, Option.bind_some, pick3, pickA, extractA, List.getElem?_cons_zero, List.getElem?_cons_succ, bin_lss, bin_gtr, bin_leq, bin_geq, bin_eql, bin_neq, un_not]
    have k2' : Box1 (delObj s9 (q + 2)) (n0 + 1) _ := (h2.keep (e9 _ (by omega))).keep (by rw [heap_del, if_neg (by omega)])
    simp only [results_load, k2'.load ag22, wpC, wpI, wpS, wpD, wpV, wanted_none, wanted_some, vals, cev_const, cev_var, cev_loc, padV, okV_some, againP, true_and, and_true, upd_zero, upd_succ, nth_zero, nth_succ, wpG_true, wpG_false, condK_true, condK_false, seqK_normal, seqK_ret, seqK_exit, inBlock_normal, inBlock_ret, inBlock_exit, ends_ret, ends_normal, unmark_nil, results_nil, results_cons, one_one, one_zero, one_two, isB_undef, isB_tt, isB_ff, Bool.not_true, Bool.not_false, Option.bind_some, pick3, pickA, extractA, List.getElem?_cons_zero, List.getElem?_cons_succ, bin_lss, bin_gtr, bin_leq, bin_geq, bin_eql, bin_neq, un_not]
    have hfin : Old n0 s (delObj s9 (q + 2)) := h1.trans ⟨by show s'.next ≤ s9.next; omega, fun x hx => by rw [heap_del, if_neg (by omega), e9 x (by omega)]⟩
    have hr9 : RowAt (delObj s9 (q + 2)) i ((us.take k ++ us.drop (k + 1)) ++ Z) := (h5.keep (e9 i (by omega))).keep (by rw [heap_del, if_neg (by omega)])
    refine ⟨us.take k ++ us.drop (k + 1), ?_, .inr ⟨i, Z, rfl, hr9, hZ, by omega, by show i < s9.next; omega⟩, hfin⟩
    rw [hdr]
    have := hr.old (hfin.mono (show b ≤ n0 by omega))
    exact (this.take k).append (this.drop (k + 1))
end Go.Proofs.Ytilhhmkdcoajnaa.Am
