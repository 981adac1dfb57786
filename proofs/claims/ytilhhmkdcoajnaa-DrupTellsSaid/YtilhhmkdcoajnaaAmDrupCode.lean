/- The compiled code of the functions of layer 20, printed by a program of ours (dev/Print.lean) and checked by the kernel; conditions: none. -/
import Derived.Test.YtilhhmkdcoajnaaRows
import Derived.Test.YtilhhmkdcoajnaaAmGrow
set_option linter.unusedVariables false
set_option linter.unusedSimpArgs false
namespace Go.Proofs.Ytilhhmkdcoajnaa.Am
open Go Go.Proofs

theorem sz3 : sizeT Try.prog 3 = some 1 := by kernel_rfl
theorem by3 : bytesT Try.prog 3 = some 8 := by kernel_rfl
theorem ag3 : aggT Try.prog 3 = some false := by kernel_rfl
theorem zr3 : zeroT Try.prog 3 = some (.int .i64 (0)) := by kernel_rfl
theorem sz4 : sizeT Try.prog 4 = some 1 := by kernel_rfl
theorem by4 : bytesT Try.prog 4 = some 1 := by kernel_rfl
theorem ag4 : aggT Try.prog 4 = some false := by kernel_rfl
theorem zr4 : zeroT Try.prog 4 = some (.bool false) := by kernel_rfl
theorem sz5 : sizeT Try.prog 5 = some 1 := by kernel_rfl
theorem by5 : bytesT Try.prog 5 = some 1 := by kernel_rfl
theorem ag5 : aggT Try.prog 5 = some false := by kernel_rfl
theorem zr5 : zeroT Try.prog 5 = some (.int .u8 (0)) := by kernel_rfl
theorem sz22 : sizeT Try.prog 22 = some 1 := by kernel_rfl
theorem by22 : bytesT Try.prog 22 = some 24 := by kernel_rfl
theorem ag22 : aggT Try.prog 22 = some false := by kernel_rfl
theorem zr22 : zeroT Try.prog 22 = some (.slice none 0 (some 0)) := by kernel_rfl
theorem sz23 : sizeT Try.prog 23 = some 1 := by kernel_rfl
theorem by23 : bytesT Try.prog 23 = some 24 := by kernel_rfl
theorem ag23 : aggT Try.prog 23 = some false := by kernel_rfl
theorem zr23 : zeroT Try.prog 23 = some (.slice none 0 (some 0)) := by kernel_rfl
theorem sz27 : sizeT Try.prog 27 = some 2 := by kernel_rfl
theorem by27 : bytesT Try.prog 27 = some 32 := by kernel_rfl
theorem ag27 : aggT Try.prog 27 = some true := by kernel_rfl
theorem zr27 : zeroT Try.prog 27 = some (.agg [(.bool false), (.slice none 0 (some 0))]) := by kernel_rfl
theorem sz30 : sizeT Try.prog 30 = some 1 := by kernel_rfl
theorem by30 : bytesT Try.prog 30 = some 24 := by kernel_rfl
theorem ag30 : aggT Try.prog 30 = some false := by kernel_rfl
theorem zr30 : zeroT Try.prog 30 = some (.slice none 0 (some 0)) := by kernel_rfl
theorem sz31 : sizeT Try.prog 31 = some 1 := by kernel_rfl
theorem by31 : bytesT Try.prog 31 = some 24 := by kernel_rfl
theorem ag31 : aggT Try.prog 31 = some false := by kernel_rfl
theorem zr31 : zeroT Try.prog 31 = some (.slice none 0 (some 0)) := by kernel_rfl
theorem sz33 : sizeT Try.prog 33 = some 1 := by kernel_rfl
theorem by33 : bytesT Try.prog 33 = some 24 := by kernel_rfl
theorem ag33 : aggT Try.prog 33 = some false := by kernel_rfl
theorem zr33 : zeroT Try.prog 33 = some (.slice none 0 (some 0)) := by kernel_rfl
theorem sz69 : sizeT Try.prog 69 = some 1 := by kernel_rfl
theorem by69 : bytesT Try.prog 69 = some 8 := by kernel_rfl
theorem ag69 : aggT Try.prog 69 = some false := by kernel_rfl
theorem zr69 : zeroT Try.prog 69 = some (.map none) := by kernel_rfl
theorem sz76 : sizeT Try.prog 76 = some 1 := by kernel_rfl
theorem by76 : bytesT Try.prog 76 = some 24 := by kernel_rfl
theorem ag76 : aggT Try.prog 76 = some false := by kernel_rfl
theorem zr76 : zeroT Try.prog 76 = some (.slice none 0 (some 0)) := by kernel_rfl
theorem sz77 : sizeT Try.prog 77 = some 1 := by kernel_rfl
theorem by77 : bytesT Try.prog 77 = some 1 := by kernel_rfl
theorem ag77 : aggT Try.prog 77 = some false := by kernel_rfl
theorem zr77 : zeroT Try.prog 77 = some (.int .i8 (0)) := by kernel_rfl
theorem sz79 : sizeT Try.prog 79 = some 3 := by kernel_rfl
theorem by79 : bytesT Try.prog 79 = some 32 := by kernel_rfl
theorem ag79 : aggT Try.prog 79 = some true := by kernel_rfl
theorem zr79 : zeroT Try.prog 79 = some (.agg [(.bool false), (.int .u8 (0)), (.slice none 0 (some 0))]) := by kernel_rfl
theorem sz110 : sizeT Try.prog 110 = some 1 := by kernel_rfl
theorem by110 : bytesT Try.prog 110 = some 24 := by kernel_rfl
theorem ag110 : aggT Try.prog 110 = some false := by kernel_rfl
theorem zr110 : zeroT Try.prog 110 = some (.slice none 0 (some 0)) := by kernel_rfl
theorem sz133 : sizeT Try.prog 133 = some 1 := by kernel_rfl
theorem by133 : bytesT Try.prog 133 = some 8 := by kernel_rfl
theorem ag133 : aggT Try.prog 133 = some false := by kernel_rfl
theorem zr133 : zeroT Try.prog 133 = some (.int .u64 (0)) := by kernel_rfl
theorem sz138 : sizeT Try.prog 138 = some 1 := by kernel_rfl
theorem by138 : bytesT Try.prog 138 = some 8 := by kernel_rfl
theorem ag138 : aggT Try.prog 138 = some false := by kernel_rfl
theorem zr138 : zeroT Try.prog 138 = some (.int .i64 (0)) := by kernel_rfl
/-! litmus/drup.sign -/
/- kept: [0, 2, 3, 4, 8], params 1 -/
noncomputable def c48o0 : List CItem := [
  ⟨none, .p1 some, [(.const (.int .i64 (0)))], (.set 1), []⟩,
  ⟨none, .p1 some, [(.const (.int .i64 (0)))], (.set 2), []⟩]
noncomputable def c48o1 : List CItem := [
  ⟨none, .p2 (binA Try.prog .gtr 3), [(.var 0), (.const (.int .i64 (0)))], .push, []⟩,
  ⟨none, .p1 some, [(.loc 0)], (.set 3), []⟩]
noncomputable def c48o2 : List CItem := [
  ⟨none, .p1 some, [(.var 0)], (.set 1), []⟩,
  ⟨none, .p1 some, [(.const (.int .i64 (1)))], (.set 2), []⟩]
noncomputable def c48o3 : List CItem := [
  ⟨none, .p2 (binA Try.prog .lss 3), [(.var 0), (.const (.int .i64 (0)))], .push, []⟩,
  ⟨(some ((.loc 0), true)), .p1 some, [(.var 0)], .push, []⟩,
  ⟨(some ((.loc 1), true)), .p1 (unA Try.prog Go.UnOp.neg), [(.loc 0)], .push, []⟩,
  ⟨(some ((.loc 2), true)), .p2 (binA Try.prog .gtr 3), [(.loc 0), (.const (.int .i64 (0)))], .push, []⟩,
  ⟨none, .p pick3, [(.loc 3), (.loc 0), (.const (.bool false))], .push, []⟩,
  ⟨none, .p1 some, [(.loc 0)], (.set 4), []⟩]
noncomputable def c48o4 : List CItem := [
  ⟨none, .p1 (unA Try.prog Go.UnOp.neg), [(.var 0)], .push, []⟩,
  ⟨none, .p1 some, [(.loc 0)], (.set 1), []⟩,
  ⟨none, .p1 some, [(.const (.int .i64 (-1)))], (.set 2), []⟩]
noncomputable def c48o5 : List CItem := [
  ⟨none, .p1 some, [(.const (.int .i64 (0)))], (.set 1), []⟩,
  ⟨none, .p1 some, [(.const (.int .i64 (0)))], (.set 2), []⟩]
noncomputable def c48 : CFunc := ⟨1, 5, (.seq (.ops c48o0) (.seq (.block 0 (.seq (.ops c48o1) (.cond (.var 3)
  (.seq (.ops c48o2) .ret)
  (.seq (.ops c48o3) (.cond (.var 4)
  (.seq (.ops c48o4) .ret)
  .skip))))) (.seq (.ops c48o5) .ret))), [((.var 1), none), ((.var 2), none)]⟩

/-! (litmus/drup.values).of -/
/- kept: [0, 1, 4, 5, 6, 13], params 2 -/
noncomputable def c49o0 : List CItem := [
  ⟨none, .p1 some, [(.const (.int .i64 (0)))], (.set 2), []⟩]
noncomputable def c49o1 : List CItem := [
  ⟨none, .call 48, [(.var 1)], .push, []⟩,
  ⟨none, .p1 (fun x => extractA x 0), [(.loc 0)], .push, []⟩,
  ⟨none, .p1 (fun x => extractA x 1), [(.loc 1)], .push, []⟩,
  ⟨none, .p1 some, [(.loc 1)], (.set 3), []⟩,
  ⟨none, .p1 some, [(.loc 0)], (.set 4), []⟩]
noncomputable def c49o2 : List CItem := [
  ⟨none, .p2 (binA Try.prog .eql 3), [(.var 4), (.const (.int .i64 (0)))], (.set 5), []⟩]
noncomputable def c49o3 : List CItem := [
  ⟨none, .p1 some, [(.const (.int .i64 (-1)))], (.set 2), []⟩]
noncomputable def c49o4 : List CItem := [
  ⟨none, .r (fun s => on2 (fun m k => lookupA Try.prog s 69 m k false)), [(.var 0), (.var 3)], .push, []⟩,
  ⟨none, .p2 (binA Try.prog .mul 3), [(.loc 0), (.var 4)], .push, []⟩,
  ⟨none, .p1 some, [(.loc 0)], (.set 2), []⟩]
noncomputable def c49 : CFunc := ⟨2, 6, (.seq (.ops c49o0) (.seq (.ops c49o1) (.seq (.seq (.ops c49o2) (.cond (.var 5)
  (.seq (.ops c49o3) .ret)
  .skip)) (.seq (.ops c49o4) .ret)))), [((.var 2), none)]⟩

/-! (litmus/drup.values).set -/
/- kept: [0, 1, 4, 5], params 2 -/
noncomputable def c50o0 : List CItem := [
  ⟨none, .call 48, [(.var 1)], .push, []⟩,
  ⟨none, .p1 (fun x => extractA x 0), [(.loc 0)], .push, []⟩,
  ⟨none, .p1 (fun x => extractA x 1), [(.loc 1)], .push, []⟩,
  ⟨none, .p1 some, [(.loc 1)], (.set 2), []⟩,
  ⟨none, .p1 some, [(.loc 0)], (.set 3), []⟩]
noncomputable def c50o1 : List CItem := [
  ⟨none, .e (fun s => on3 (fun m k x => withV (updateA Try.prog s 69 m k x))), [(.var 0), (.var 2), (.var 3)], .push, []⟩]
noncomputable def c50 : CFunc := ⟨2, 4, (.seq (.ops c50o0) (.ops c50o1)), []⟩

/-! (litmus/drup.values).unit -/
/- kept: [0, 1, 4, 5, 7, 8, 9, 10, 11, 12, 18, 21, 36], params 2 -/
noncomputable def c52o0 : List CItem := [
  ⟨none, .p1 some, [(.const (.int .i64 (0)))], (.set 2), []⟩,
  ⟨none, .p1 some, [(.const (.int .i64 (0)))], (.set 3), []⟩]
noncomputable def c52o1 : List CItem := [
  ⟨none, .p1 some, [(.var 1)], (.set 6), []⟩,
  ⟨none, .r (fun s l => match l with | [x] => lenA Try.prog s 23 x | _ => none), [(.var 6)], (.set 7), []⟩,
  ⟨none, .p1 some, [(.const (.int .i64 (0)))], (.set 8), []⟩]
noncomputable def c52o2 : List CItem := [
  ⟨none, .p2 (binA Try.prog .lss 3), [(.var 8), (.var 7)], (.set 9), []⟩]
noncomputable def c52o3 : List CItem := [
  ⟨none, .p2 (indexAddrA Try.prog 23), [(.var 6), (.var 8)], .push, []⟩,
  ⟨none, .r1 (fun s a => loadV Try.prog s 3 a), [(.loc 0)], .push, []⟩,
  ⟨none, .p1 some, [(.loc 0)], (.set 4), []⟩]
noncomputable def c52o4 : List CItem := [
  ⟨none, .call 49, [(.var 0), (.var 4)], .push, []⟩,
  ⟨none, .p1 some, [(.loc 0)], (.set 5), []⟩]
noncomputable def c52o5 : List CItem := [
  ⟨none, .p2 (binA Try.prog .gtr 3), [(.var 5), (.const (.int .i64 (0)))], .push, []⟩,
  ⟨none, .p1 some, [(.loc 0)], (.set 10), []⟩]
noncomputable def c52o6 : List CItem := [
  ⟨none, .p1 some, [(.const (.int .i64 (0)))], (.set 2), []⟩,
  ⟨none, .p1 some, [(.const (.int .i64 (2)))], (.set 3), []⟩]
noncomputable def c52o7 : List CItem := [
  ⟨none, .p2 (binA Try.prog .lss 3), [(.var 5), (.const (.int .i64 (0)))], .push, []⟩,
  ⟨(some ((.loc 0), false)), .p1 some, [(.var 3)], .push, []⟩,
  ⟨(some ((.loc 1), false)), .p2 (binA Try.prog .eql 3), [(.loc 0), (.const (.int .i64 (1)))], .push, []⟩,
  ⟨(some ((.loc 2), false)), .p1 some, [(.loc 0)], .push, []⟩,
  ⟨(some ((.loc 0), true)), .p1 some, [(.var 4)], .push, []⟩,
  ⟨(some ((.loc 1), true)), .p1 some, [(.var 2)], .push, []⟩,
  ⟨(some ((.loc 2), true)), .p2 (binA Try.prog .eql 3), [(.loc 1), (.loc 0)], .push, []⟩,
  ⟨(some ((.loc 6), false)), .p pick3, [(.loc 3), (.loc 0), (.const (.bool false))], .push, []⟩,
  ⟨none, .p pick3, [(.loc 7), (.const (.bool true)), (.loc 0)], .push, []⟩,
  ⟨none, .p1 some, [(.loc 0)], (.set 11), []⟩]
noncomputable def c52o8 : List CItem := [
  ⟨none, .p1 some, [(.var 3)], .push, []⟩,
  ⟨none, .p2 (binA Try.prog .add 3), [(.loc 0), (.const (.int .i64 (1)))], .push, []⟩,
  ⟨none, .p1 some, [(.loc 0)], (.set 3), []⟩]
noncomputable def c52o9 : List CItem := [
  ⟨none, .p2 (binA Try.prog .gtr 3), [(.var 3), (.const (.int .i64 (1)))], (.set 12), []⟩]
noncomputable def c52o10 : List CItem := [
  ⟨none, .p1 some, [(.const (.int .i64 (0)))], (.set 2), []⟩,
  ⟨none, .p1 some, [(.const (.int .i64 (2)))], (.set 3), []⟩]
noncomputable def c52o11 : List CItem := [
  ⟨none, .p1 some, [(.var 4)], (.set 2), []⟩]
noncomputable def c52o12 : List CItem := [
  ⟨none, .p2 (binA Try.prog .add 3), [(.var 8), (.const (.int .i64 (1)))], .push, []⟩,
  ⟨none, .p1 some, [(.loc 0)], (.set 8), []⟩]
noncomputable def c52l13 : CCode := (.seq (.ops c52o2) (.seq (.cond (.var 9)
  .skip
  (.exit 0)) (.seq (.block 1 (.seq (.ops c52o3) (.seq (.seq (.ops c52o4) (.block 2 (.seq (.ops c52o5) (.cond (.var 10)
  (.seq (.ops c52o6) .ret)
  (.seq (.ops c52o7) (.cond (.var 11)
  (.exit 1)
  .skip)))))) (.seq (.seq (.ops c52o8) (.seq (.ops c52o9) (.cond (.var 12)
  (.seq (.ops c52o10) .ret)
  .skip))) (.ops c52o11))))) (.ops c52o12))))
noncomputable def c52o14 : List CItem := [
  ⟨none, .p1 some, [(.var 2)], .push, []⟩,
  ⟨none, .p1 some, [(.var 3)], .push, []⟩,
  ⟨none, .p1 some, [(.loc 1)], (.set 2), []⟩,
  ⟨none, .p1 some, [(.loc 0)], (.set 3), []⟩]
noncomputable def c52 : CFunc := ⟨2, 13, (.seq (.ops c52o0) (.seq (.seq (.ops c52o1) (.block 0 (.loop c52l13))) (.seq (.ops c52o14) .ret))), [((.var 2), none), ((.var 3), none)]⟩

/-! litmus/drup.Follows$1 -/
/- kept: [0, 1, 3, 4, 5, 6, 14], params 2 -/
noncomputable def c51o0 : List CItem := [
  ⟨none, .p1 some, [(.const (.bool false))], (.set 2), []⟩,
  ⟨none, .p1 some, [(.const (.bool false))], (.set 3), []⟩]
noncomputable def c51o1 : List CItem := [
  ⟨none, .r1 (fun s a => loadV Try.prog s 69 a), [(.var 1)], .push, []⟩,
  ⟨none, .call 52, [(.loc 0), (.var 0)], .push, []⟩,
  ⟨none, .p1 (fun x => extractA x 0), [(.loc 0)], .push, []⟩,
  ⟨none, .p1 (fun x => extractA x 1), [(.loc 1)], .push, []⟩,
  ⟨none, .p1 some, [(.loc 1)], (.set 4), []⟩,
  ⟨none, .p1 some, [(.loc 0)], (.set 5), []⟩]
noncomputable def c51o2 : List CItem := [
  ⟨none, .p2 (binA Try.prog .eql 3), [(.var 5), (.const (.int .i64 (1)))], (.set 6), []⟩]
noncomputable def c51o3 : List CItem := [
  ⟨none, .r1 (fun s a => loadV Try.prog s 69 a), [(.var 1)], .push, []⟩,
  ⟨none, .call 50, [(.loc 0), (.var 4)], .push, []⟩]
noncomputable def c51o4 : List CItem := [
  ⟨none, .p2 (binA Try.prog .eql 3), [(.var 5), (.const (.int .i64 (1)))], .push, []⟩,
  ⟨none, .p2 (binA Try.prog .eql 3), [(.var 5), (.const (.int .i64 (0)))], .push, []⟩,
  ⟨none, .p1 some, [(.loc 1)], (.set 2), []⟩,
  ⟨none, .p1 some, [(.loc 0)], (.set 3), []⟩]
noncomputable def c51 : CFunc := ⟨2, 7, (.seq (.ops c51o0) (.seq (.ops c51o1) (.seq (.seq (.ops c51o2) (.cond (.var 6)
  (.ops c51o3)
  .skip)) (.seq (.ops c51o4) .ret)))), [((.var 2), none), ((.var 3), none)]⟩

/-! litmus/drup.Follows -/
/- kept: [0, 1, 4, 5, 7, 9, 10, 11, 13, 14, 15, 17, 18, 19, 20, 29, 33, 40, 41, 42, 43, 44, 53, 55], params 2 -/
noncomputable def c17o0 : List CItem := [
  ⟨none, .p1 some, [(.const (.bool false))], (.set 2), []⟩]
noncomputable def c17o1 : List CItem := [
  ⟨none, .mk (fun l => match l with | [] => some (.map [] 0, .map) | _ => none), [], .push, []⟩,
  ⟨none, .mk (fun l => match l with | [] => allocA Try.prog 69 | _ => none), [], (.set 3), []⟩,
  ⟨none, .e (fun s => on2 (fun a x => withV (storeV Try.prog s 69 a x))), [(.var 3), (.loc 0)], .push, []⟩]
noncomputable def c17o2 : List CItem := [
  ⟨none, .p1 some, [(.var 1)], (.set 11), []⟩,
  ⟨none, .r (fun s l => match l with | [x] => lenA Try.prog s 23 x | _ => none), [(.var 11)], (.set 12), []⟩,
  ⟨none, .p1 some, [(.const (.int .i64 (0)))], (.set 13), []⟩]
noncomputable def c17o3 : List CItem := [
  ⟨none, .p2 (binA Try.prog .lss 3), [(.var 13), (.var 12)], (.set 14), []⟩]
noncomputable def c17o4 : List CItem := [
  ⟨none, .p2 (indexAddrA Try.prog 23), [(.var 11), (.var 13)], .push, []⟩,
  ⟨none, .r1 (fun s a => loadV Try.prog s 3 a), [(.loc 0)], .push, []⟩,
  ⟨none, .p1 some, [(.loc 0)], (.set 4), []⟩]
noncomputable def c17o5 : List CItem := [
  ⟨none, .call 48, [(.var 4)], .push, []⟩,
  ⟨none, .p1 (fun x => extractA x 0), [(.loc 0)], .push, []⟩,
  ⟨none, .p1 (fun x => extractA x 1), [(.loc 1)], .push, []⟩,
  ⟨none, .p1 some, [(.loc 1)], .push, []⟩,
  ⟨none, .p1 some, [(.loc 1)], (.set 5), []⟩]
noncomputable def c17o6 : List CItem := [
  ⟨none, .p2 (binA Try.prog .eql 3), [(.var 5), (.const (.int .i64 (0)))], (.set 15), []⟩]
noncomputable def c17o7 : List CItem := [
  ⟨none, .r1 (fun s a => loadV Try.prog s 69 a), [(.var 3)], .push, []⟩,
  ⟨none, .call 49, [(.loc 0), (.var 4)], .push, []⟩,
  ⟨none, .p2 (binA Try.prog .gtr 3), [(.loc 0), (.const (.int .i64 (0)))], (.set 16), []⟩]
noncomputable def c17o8 : List CItem := [
  ⟨none, .p1 some, [(.const (.bool true))], (.set 2), []⟩]
noncomputable def c17o9 : List CItem := [
  ⟨none, .r1 (fun s a => loadV Try.prog s 69 a), [(.var 3)], .push, []⟩,
  ⟨none, .p1 (unA Try.prog Go.UnOp.neg), [(.var 4)], .push, []⟩,
  ⟨none, .call 50, [(.loc 1), (.loc 0)], .push, []⟩]
noncomputable def c17o10 : List CItem := [
  ⟨none, .p2 (binA Try.prog .add 3), [(.var 13), (.const (.int .i64 (1)))], .push, []⟩,
  ⟨none, .p1 some, [(.loc 0)], (.set 13), []⟩]
noncomputable def c17l11 : CCode := (.seq (.ops c17o3) (.seq (.cond (.var 14)
  .skip
  (.exit 0)) (.seq (.block 1 (.seq (.ops c17o4) (.seq (.seq (.ops c17o5) (.seq (.ops c17o6) (.cond (.var 15)
  (.exit 1)
  .skip))) (.seq (.seq (.ops c17o7) (.cond (.var 16)
  (.seq (.ops c17o8) .ret)
  .skip)) (.ops c17o9))))) (.ops c17o10))))
noncomputable def c17o12 : List CItem := [
  ⟨none, .p (fun l => some (.func 51 (l.take 0) (l.drop 0))), [(.var 3)], .push, []⟩,
  ⟨none, .p1 some, [(.loc 0)], (.set 6), []⟩]
noncomputable def c17o13 : List CItem := [
  ⟨none, .p1 some, [(.const (.bool true))], (.set 7), []⟩]
noncomputable def c17o14 : List CItem := [
  ⟨none, .p1 some, [(.var 7)], (.set 17), []⟩]
noncomputable def c17o15 : List CItem := [
  ⟨none, .p1 some, [(.const (.bool false))], (.set 7), []⟩]
noncomputable def c17o16 : List CItem := [
  ⟨none, .p1 some, [(.var 0)], (.set 18), []⟩,
  ⟨none, .r (fun s l => match l with | [x] => lenA Try.prog s 22 x | _ => none), [(.var 18)], (.set 19), []⟩,
  ⟨none, .p1 some, [(.const (.int .i64 (0)))], (.set 20), []⟩]
noncomputable def c17o17 : List CItem := [
  ⟨none, .p2 (binA Try.prog .lss 3), [(.var 20), (.var 19)], (.set 21), []⟩]
noncomputable def c17o18 : List CItem := [
  ⟨none, .p2 (indexAddrA Try.prog 22), [(.var 18), (.var 20)], .push, []⟩,
  ⟨none, .r1 (fun s a => loadV Try.prog s 23 a), [(.loc 0)], .push, []⟩,
  ⟨none, .p1 some, [(.loc 0)], (.set 8), []⟩]
noncomputable def c17o19 : List CItem := [
  ⟨none, .callv, [(.var 6), (.var 8)], .push, []⟩,
  ⟨none, .p1 (fun x => extractA x 0), [(.loc 0)], .push, []⟩,
  ⟨none, .p1 (fun x => extractA x 1), [(.loc 1)], .push, []⟩,
  ⟨none, .p1 some, [(.loc 1)], (.set 9), []⟩,
  ⟨none, .p1 some, [(.loc 0)], (.set 10), []⟩]
noncomputable def c17o20 : List CItem := [
  ⟨none, .p1 some, [(.var 10)], (.set 22), []⟩]
noncomputable def c17o21 : List CItem := [
  ⟨none, .p1 some, [(.const (.bool true))], (.set 2), []⟩]
noncomputable def c17o22 : List CItem := [
  ⟨none, .p1 (unA Try.prog Go.UnOp.not), [(.var 9)], (.set 23), []⟩]
noncomputable def c17o23 : List CItem := [
  ⟨none, .p1 some, [(.const (.bool true))], (.set 7), []⟩]
noncomputable def c17o24 : List CItem := [
  ⟨none, .p2 (binA Try.prog .add 3), [(.var 20), (.const (.int .i64 (1)))], .push, []⟩,
  ⟨none, .p1 some, [(.loc 0)], (.set 20), []⟩]
noncomputable def c17l25 : CCode := (.seq (.ops c17o17) (.seq (.cond (.var 21)
  .skip
  (.exit 4)) (.seq (.block 5 (.seq (.ops c17o18) (.seq (.ops c17o19) (.seq (.seq (.ops c17o20) (.cond (.var 22)
  (.seq (.ops c17o21) .ret)
  .skip)) (.seq (.seq (.ops c17o22) (.cond (.var 23)
  (.exit 5)
  .skip)) (.ops c17o23)))))) (.ops c17o24))))
noncomputable def c17l26 : CCode := (.seq (.seq (.ops c17o14) (.cond (.var 17)
  .skip
  (.exit 2))) (.block 3 (.seq (.ops c17o15) (.seq .skip (.seq (.ops c17o16) (.block 4 (.loop c17l25)))))))
noncomputable def c17o27 : List CItem := [
  ⟨none, .p1 some, [(.const (.bool false))], (.set 2), []⟩]
noncomputable def c17 : CFunc := ⟨2, 24, (.seq (.ops c17o0) (.seq (.ops c17o1) (.seq (.seq (.ops c17o2) (.block 0 (.loop c17l11))) (.seq (.ops c17o12) (.seq (.seq (.ops c17o13) (.block 2 (.loop c17l26))) (.seq (.ops c17o27) .ret)))))), [((.var 2), none)]⟩

/-! litmus/litmusref20.in -/
/- kept: [0, 1, 4, 5, 9, 17], params 2 -/
noncomputable def c61o0 : List CItem := [
  ⟨none, .p1 some, [(.const (.bool false))], (.set 2), []⟩]
noncomputable def c61o1 : List CItem := [
  ⟨none, .p1 some, [(.const (.int .i64 (0)))], (.set 3), []⟩]
noncomputable def c61o2 : List CItem := [
  ⟨none, .r (fun s l => match l with | [x] => lenA Try.prog s 23 x | _ => none), [(.var 0)], .push, []⟩,
  ⟨none, .p2 (binA Try.prog .lss 3), [(.var 3), (.loc 0)], (.set 4), []⟩]
noncomputable def c61o3 : List CItem := [
  ⟨none, .p2 (indexAddrA Try.prog 23), [(.var 0), (.var 3)], .push, []⟩,
  ⟨none, .r1 (fun s a => loadV Try.prog s 3 a), [(.loc 0)], .push, []⟩,
  ⟨none, .p2 (binA Try.prog .eql 3), [(.loc 0), (.var 1)], (.set 5), []⟩]
noncomputable def c61o4 : List CItem := [
  ⟨none, .p1 some, [(.const (.bool true))], (.set 2), []⟩]
noncomputable def c61o5 : List CItem := [
  ⟨none, .p1 some, [(.var 3)], .push, []⟩,
  ⟨none, .p2 (binA Try.prog .add 3), [(.loc 0), (.const (.int .i64 (1)))], .push, []⟩,
  ⟨none, .p1 some, [(.loc 0)], (.set 3), []⟩]
noncomputable def c61l6 : CCode := (.seq (.seq (.ops c61o2) (.cond (.var 4)
  .skip
  (.exit 0))) (.seq (.block 1 (.seq (.ops c61o3) (.cond (.var 5)
  (.seq (.ops c61o4) .ret)
  .skip))) (.ops c61o5)))
noncomputable def c61o7 : List CItem := [
  ⟨none, .p1 some, [(.const (.bool false))], (.set 2), []⟩]
noncomputable def c61 : CFunc := ⟨2, 6, (.seq (.ops c61o0) (.seq (.seq (.ops c61o1) (.block 0 (.loop c61l6))) (.seq (.ops c61o7) .ret))), [((.var 2), none)]⟩

/-! litmus/litmusref20.clean -/
/- kept: [0, 2, 3, 4, 5, 6, 10, 24, 36, 50], params 1 -/
noncomputable def c59o0 : List CItem := [
  ⟨none, .p1 some, [(.const (.slice none 0 (some 0)))], (.set 1), []⟩]
noncomputable def c59o1 : List CItem := [
  ⟨none, .p1 some, [(.const (.slice none 0 (some 0)))], (.set 2), []⟩]
noncomputable def c59o2 : List CItem := [
  ⟨none, .p1 some, [(.const (.int .i64 (0)))], (.set 3), []⟩]
noncomputable def c59o3 : List CItem := [
  ⟨none, .r (fun s l => match l with | [x] => lenA Try.prog s 23 x | _ => none), [(.var 0)], .push, []⟩,
  ⟨none, .p2 (binA Try.prog .lss 3), [(.var 3), (.loc 0)], (.set 6), []⟩]
noncomputable def c59o4 : List CItem := [
  ⟨none, .p2 (indexAddrA Try.prog 23), [(.var 0), (.var 3)], .push, []⟩,
  ⟨none, .r1 (fun s a => loadV Try.prog s 3 a), [(.loc 0)], .push, []⟩,
  ⟨none, .p1 some, [(.loc 0)], (.set 4), []⟩]
noncomputable def c59o5 : List CItem := [
  ⟨none, .p2 (binA Try.prog .eql 3), [(.var 4), (.const (.int .i64 (0)))], .push, []⟩,
  ⟨(some ((.loc 0), false)), .p1 some, [(.var 4)], .push, []⟩,
  ⟨(some ((.loc 1), false)), .p1 some, [(.var 4)], .push, []⟩,
  ⟨(some ((.loc 2), false)), .p1 (unA Try.prog Go.UnOp.neg), [(.loc 0)], .push, []⟩,
  ⟨(some ((.loc 3), false)), .p2 (binA Try.prog .eql 3), [(.loc 2), (.loc 0)], .push, []⟩,
  ⟨none, .p pick3, [(.loc 4), (.const (.bool true)), (.loc 0)], (.set 7), []⟩]
noncomputable def c59o6 : List CItem := [
  ⟨none, .p1 some, [(.const (.int .i64 (0)))], (.set 5), []⟩]
noncomputable def c59o7 : List CItem := [
  ⟨none, .r (fun s l => match l with | [x] => lenA Try.prog s 23 x | _ => none), [(.var 2)], .push, []⟩,
  ⟨none, .p2 (binA Try.prog .lss 3), [(.var 5), (.loc 0)], .push, []⟩,
  ⟨(some ((.loc 0), true)), .p1 some, [(.var 2)], .push, []⟩,
  ⟨(some ((.loc 1), true)), .p1 some, [(.var 5)], .push, []⟩,
  ⟨(some ((.loc 2), true)), .p2 (indexAddrA Try.prog 23), [(.loc 1), (.loc 0)], .push, []⟩,
  ⟨(some ((.loc 3), true)), .r1 (fun s a => loadV Try.prog s 3 a), [(.loc 0)], .push, []⟩,
  ⟨(some ((.loc 4), true)), .p1 some, [(.var 4)], .push, []⟩,
  ⟨(some ((.loc 5), true)), .p2 (binA Try.prog .lss 3), [(.loc 1), (.loc 0)], .push, []⟩,
  ⟨none, .p pick3, [(.loc 6), (.loc 0), (.const (.bool false))], (.set 8), []⟩]
noncomputable def c59o8 : List CItem := [
  ⟨none, .p1 some, [(.var 5)], .push, []⟩,
  ⟨none, .p2 (binA Try.prog .add 3), [(.loc 0), (.const (.int .i64 (1)))], .push, []⟩,
  ⟨none, .p1 some, [(.loc 0)], (.set 5), []⟩]
noncomputable def c59l9 : CCode := (.seq (.seq (.ops c59o7) (.cond (.var 8)
  .skip
  (.exit 2))) (.block 3 (.ops c59o8)))
noncomputable def c59o10 : List CItem := [
  ⟨none, .r (fun s l => match l with | [x] => lenA Try.prog s 23 x | _ => none), [(.var 2)], .push, []⟩,
  ⟨none, .p2 (binA Try.prog .eql 3), [(.var 5), (.loc 0)], .push, []⟩,
  ⟨(some ((.loc 0), false)), .p1 some, [(.var 2)], .push, []⟩,
  ⟨(some ((.loc 1), false)), .p1 some, [(.var 5)], .push, []⟩,
  ⟨(some ((.loc 2), false)), .p2 (indexAddrA Try.prog 23), [(.loc 1), (.loc 0)], .push, []⟩,
  ⟨(some ((.loc 3), false)), .r1 (fun s a => loadV Try.prog s 3 a), [(.loc 0)], .push, []⟩,
  ⟨(some ((.loc 4), false)), .p1 some, [(.var 4)], .push, []⟩,
  ⟨(some ((.loc 5), false)), .p2 (binA Try.prog .neq 3), [(.loc 1), (.loc 0)], .push, []⟩,
  ⟨none, .p pick3, [(.loc 6), (.const (.bool true)), (.loc 0)], (.set 9), []⟩]
noncomputable def c59o11 : List CItem := [
  ⟨none, .mk (fun l => (sliceRowA Try.prog 23 0 (zipIdx [] l)).bind fun r => some (r, .slice 0)), [], .push, []⟩,
  ⟨none, .p1 some, [(.var 2)], .push, []⟩,
  ⟨none, .r (sliceOpnds Try.prog 23 false true false), [(.loc 0), (.var 5)], .push, []⟩,
  ⟨none, .mk (fun l => (sliceRowA Try.prog 23 1 (zipIdx [0] l)).bind fun r => some (r, .slice 1)), [(.var 4)], .push, []⟩,
  ⟨none, .p1 some, [(.var 2)], .push, []⟩,
  ⟨none, .r (sliceOpnds Try.prog 23 true false false), [(.loc 0), (.var 5)], .push, []⟩,
  ⟨none, .e (fun s l => appendA Try.prog s [23, 23] l), [(.loc 5), (.loc 3)], .push, [⟨none, .r (sliceOpnds Try.prog 23 true false false), [(.loc 2), (.var 5)], (.loc 1)⟩]⟩,
  ⟨none, .e (fun s l => appendA Try.prog s [23, 23] l), [(.loc 0), (.loc 3)], .push, [⟨none, .r (sliceOpnds Try.prog 23 true false false), [(.loc 3), (.var 5)], (.loc 2)⟩]⟩,
  ⟨none, .e (fun s l => appendA Try.prog s [23, 23] l), [(.loc 0), (.loc 2)], .push, []⟩,
  ⟨none, .p1 some, [(.loc 0)], (.set 2), []⟩]
noncomputable def c59o12 : List CItem := [
  ⟨none, .p1 some, [(.var 3)], .push, []⟩,
  ⟨none, .p2 (binA Try.prog .add 3), [(.loc 0), (.const (.int .i64 (1)))], .push, []⟩,
  ⟨none, .p1 some, [(.loc 0)], (.set 3), []⟩]
noncomputable def c59l13 : CCode := (.seq (.seq (.ops c59o3) (.cond (.var 6)
  .skip
  (.exit 0))) (.seq (.block 1 (.seq (.ops c59o4) (.seq (.seq (.ops c59o5) (.cond (.var 7)
  (.exit 1)
  .skip)) (.seq (.ops c59o6) (.seq (.block 2 (.loop c59l9)) (.seq (.ops c59o10) (.cond (.var 9)
  (.ops c59o11)
  .skip))))))) (.ops c59o12)))
noncomputable def c59o14 : List CItem := [
  ⟨none, .p1 some, [(.var 2)], (.set 1), []⟩]
noncomputable def c59 : CFunc := ⟨1, 10, (.seq (.ops c59o0) (.seq (.ops c59o1) (.seq (.seq (.ops c59o2) (.block 0 (.loop c59l13))) (.seq (.ops c59o14) .ret)))), [((.var 1), none)]⟩

/-! litmus/litmusref20.Follows -/
/- kept: [0, 1, 4, 5, 6, 7, 8, 9, 10, 11, 12, 13, 19, 28, 37, 41, 52, 71, 81, 88], params 2 -/
noncomputable def c29o0 : List CItem := [
  ⟨none, .p1 some, [(.const (.bool false))], (.set 2), []⟩]
noncomputable def c29o1 : List CItem := [
  ⟨none, .p1 some, [(.const (.slice none 0 (some 0)))], (.set 3), []⟩]
noncomputable def c29o2 : List CItem := [
  ⟨none, .call 59, [(.var 1)], .push, []⟩,
  ⟨none, .p1 some, [(.loc 0)], (.set 4), []⟩]
noncomputable def c29o3 : List CItem := [
  ⟨none, .p1 some, [(.const (.int .i64 (0)))], (.set 5), []⟩]
noncomputable def c29o4 : List CItem := [
  ⟨none, .r (fun s l => match l with | [x] => lenA Try.prog s 23 x | _ => none), [(.var 4)], .push, []⟩,
  ⟨none, .p2 (binA Try.prog .lss 3), [(.var 5), (.loc 0)], (.set 12), []⟩]
noncomputable def c29o5 : List CItem := [
  ⟨none, .p2 (indexAddrA Try.prog 23), [(.var 4), (.var 5)], .push, []⟩,
  ⟨none, .r1 (fun s a => loadV Try.prog s 3 a), [(.loc 0)], .push, []⟩,
  ⟨none, .p1 (unA Try.prog Go.UnOp.neg), [(.loc 0)], .push, []⟩,
  ⟨none, .call 61, [(.var 4), (.loc 0)], (.set 13), []⟩]
noncomputable def c29o6 : List CItem := [
  ⟨none, .p1 some, [(.const (.bool true))], (.set 2), []⟩]
noncomputable def c29o7 : List CItem := [
  ⟨none, .p1 some, [(.var 3)], .push, []⟩,
  ⟨none, .p2 (indexAddrA Try.prog 23), [(.var 4), (.var 5)], .push, []⟩,
  ⟨none, .r1 (fun s a => loadV Try.prog s 3 a), [(.loc 0)], .push, []⟩,
  ⟨none, .p1 (unA Try.prog Go.UnOp.neg), [(.loc 0)], .push, []⟩,
  ⟨none, .mk (fun l => (sliceRowA Try.prog 23 1 (zipIdx [0] l)).bind fun r => some (r, .slice 1)), [(.loc 0)], .push, []⟩,
  ⟨none, .e (fun s l => appendA Try.prog s [23, 23] l), [(.loc 4), (.loc 0)], .push, []⟩,
  ⟨none, .p1 some, [(.loc 0)], (.set 3), []⟩]
noncomputable def c29o8 : List CItem := [
  ⟨none, .p1 some, [(.var 5)], .push, []⟩,
  ⟨none, .p2 (binA Try.prog .add 3), [(.loc 0), (.const (.int .i64 (1)))], .push, []⟩,
  ⟨none, .p1 some, [(.loc 0)], (.set 5), []⟩]
noncomputable def c29l9 : CCode := (.seq (.seq (.ops c29o4) (.cond (.var 12)
  .skip
  (.exit 0))) (.seq (.block 1 (.seq (.seq (.ops c29o5) (.cond (.var 13)
  (.seq (.ops c29o6) .ret)
  .skip)) (.ops c29o7))) (.ops c29o8)))
noncomputable def c29o10 : List CItem := [
  ⟨none, .p1 some, [(.const (.bool true))], (.set 6), []⟩]
noncomputable def c29o11 : List CItem := [
  ⟨none, .p1 some, [(.var 6)], (.set 14), []⟩]
noncomputable def c29o12 : List CItem := [
  ⟨none, .p1 some, [(.const (.bool false))], (.set 6), []⟩]
noncomputable def c29o13 : List CItem := [
  ⟨none, .p1 some, [(.const (.int .i64 (0)))], (.set 7), []⟩]
noncomputable def c29o14 : List CItem := [
  ⟨none, .r (fun s l => match l with | [x] => lenA Try.prog s 22 x | _ => none), [(.var 0)], .push, []⟩,
  ⟨none, .p2 (binA Try.prog .lss 3), [(.var 7), (.loc 0)], (.set 15), []⟩]
noncomputable def c29o15 : List CItem := [
  ⟨none, .p2 (indexAddrA Try.prog 22), [(.var 0), (.var 7)], .push, []⟩,
  ⟨none, .r1 (fun s a => loadV Try.prog s 23 a), [(.loc 0)], .push, []⟩,
  ⟨none, .call 59, [(.loc 0)], .push, []⟩,
  ⟨none, .p1 some, [(.loc 0)], (.set 8), []⟩]
noncomputable def c29o16 : List CItem := [
  ⟨none, .p1 some, [(.const (.slice none 0 (some 0)))], (.set 9), []⟩]
noncomputable def c29o17 : List CItem := [
  ⟨none, .p1 some, [(.const (.bool false))], (.set 10), []⟩]
noncomputable def c29o18 : List CItem := [
  ⟨none, .p1 some, [(.const (.int .i64 (0)))], (.set 11), []⟩]
noncomputable def c29o19 : List CItem := [
  ⟨none, .r (fun s l => match l with | [x] => lenA Try.prog s 23 x | _ => none), [(.var 8)], .push, []⟩,
  ⟨none, .p2 (binA Try.prog .lss 3), [(.var 11), (.loc 0)], (.set 16), []⟩]
noncomputable def c29o20 : List CItem := [
  ⟨none, .p1 some, [(.var 10)], .push, []⟩,
  ⟨(some ((.loc 0), false)), .p1 some, [(.var 3)], .push, []⟩,
  ⟨(some ((.loc 1), false)), .p1 some, [(.var 8)], .push, []⟩,
  ⟨(some ((.loc 2), false)), .p1 some, [(.var 11)], .push, []⟩,
  ⟨(some ((.loc 3), false)), .p2 (indexAddrA Try.prog 23), [(.loc 1), (.loc 0)], .push, []⟩,
  ⟨(some ((.loc 4), false)), .r1 (fun s a => loadV Try.prog s 3 a), [(.loc 0)], .push, []⟩,
  ⟨(some ((.loc 5), false)), .call 61, [(.loc 4), (.loc 0)], .push, []⟩,
  ⟨none, .p pick3, [(.loc 6), (.const (.bool true)), (.loc 0)], .push, []⟩,
  ⟨none, .p1 some, [(.loc 0)], (.set 10), []⟩]
noncomputable def c29o21 : List CItem := [
  ⟨none, .p2 (indexAddrA Try.prog 23), [(.var 8), (.var 11)], .push, []⟩,
  ⟨none, .r1 (fun s a => loadV Try.prog s 3 a), [(.loc 0)], .push, []⟩,
  ⟨none, .p1 (unA Try.prog Go.UnOp.neg), [(.loc 0)], .push, []⟩,
  ⟨none, .call 61, [(.var 3), (.loc 0)], .push, []⟩,
  ⟨none, .p1 (unA Try.prog Go.UnOp.not), [(.loc 0)], (.set 17), []⟩]
noncomputable def c29o22 : List CItem := [
  ⟨none, .p1 some, [(.var 9)], .push, []⟩,
  ⟨none, .p2 (indexAddrA Try.prog 23), [(.var 8), (.var 11)], .push, []⟩,
  ⟨none, .r1 (fun s a => loadV Try.prog s 3 a), [(.loc 0)], .push, []⟩,
  ⟨none, .mk (fun l => (sliceRowA Try.prog 23 1 (zipIdx [0] l)).bind fun r => some (r, .slice 1)), [(.loc 0)], .push, []⟩,
  ⟨none, .e (fun s l => appendA Try.prog s [23, 23] l), [(.loc 3), (.loc 0)], .push, []⟩,
  ⟨none, .p1 some, [(.loc 0)], (.set 9), []⟩]
noncomputable def c29o23 : List CItem := [
  ⟨none, .p1 some, [(.var 11)], .push, []⟩,
  ⟨none, .p2 (binA Try.prog .add 3), [(.loc 0), (.const (.int .i64 (1)))], .push, []⟩,
  ⟨none, .p1 some, [(.loc 0)], (.set 11), []⟩]
noncomputable def c29l24 : CCode := (.seq (.seq (.ops c29o19) (.cond (.var 16)
  .skip
  (.exit 6))) (.seq (.block 7 (.seq (.ops c29o20) (.seq (.ops c29o21) (.cond (.var 17)
  (.ops c29o22)
  .skip)))) (.ops c29o23)))
noncomputable def c29o25 : List CItem := [
  ⟨none, .r (fun s l => match l with | [x] => lenA Try.prog s 23 x | _ => none), [(.var 9)], .push, []⟩,
  ⟨none, .p2 (binA Try.prog .eql 3), [(.loc 0), (.const (.int .i64 (0)))], (.set 18), []⟩]
noncomputable def c29o26 : List CItem := [
  ⟨none, .p1 some, [(.const (.bool true))], (.set 2), []⟩]
noncomputable def c29o27 : List CItem := [
  ⟨none, .p1 (unA Try.prog Go.UnOp.not), [(.var 10)], .push, []⟩,
  ⟨(some ((.loc 0), true)), .p1 some, [(.var 9)], .push, []⟩,
  ⟨(some ((.loc 1), true)), .r (fun s l => match l with | [x] => lenA Try.prog s 23 x | _ => none), [(.loc 0)], .push, []⟩,
  ⟨(some ((.loc 2), true)), .p2 (binA Try.prog .eql 3), [(.loc 0), (.const (.int .i64 (1)))], .push, []⟩,
  ⟨none, .p pick3, [(.loc 3), (.loc 0), (.const (.bool false))], (.set 19), []⟩]
noncomputable def c29o28 : List CItem := [
  ⟨none, .p1 some, [(.var 3)], .push, []⟩,
  ⟨none, .p2 (indexAddrA Try.prog 23), [(.var 9), (.const (.int .i64 (0)))], .push, []⟩,
  ⟨none, .r1 (fun s a => loadV Try.prog s 3 a), [(.loc 0)], .push, []⟩,
  ⟨none, .mk (fun l => (sliceRowA Try.prog 23 1 (zipIdx [0] l)).bind fun r => some (r, .slice 1)), [(.loc 0)], .push, []⟩,
  ⟨none, .e (fun s l => appendA Try.prog s [23, 23] l), [(.loc 3), (.loc 0)], .push, []⟩,
  ⟨none, .p1 some, [(.loc 0)], (.set 3), []⟩]
noncomputable def c29o29 : List CItem := [
  ⟨none, .p1 some, [(.const (.bool true))], (.set 6), []⟩]
noncomputable def c29o30 : List CItem := [
  ⟨none, .p1 some, [(.var 7)], .push, []⟩,
  ⟨none, .p2 (binA Try.prog .add 3), [(.loc 0), (.const (.int .i64 (1)))], .push, []⟩,
  ⟨none, .p1 some, [(.loc 0)], (.set 7), []⟩]
noncomputable def c29l31 : CCode := (.seq (.seq (.ops c29o14) (.cond (.var 15)
  .skip
  (.exit 4))) (.seq (.block 5 (.seq (.ops c29o15) (.seq (.ops c29o16) (.seq (.ops c29o17) (.seq (.seq (.ops c29o18) (.block 6 (.loop c29l24))) (.seq (.seq (.ops c29o25) (.cond (.var 18)
  (.seq (.ops c29o26) .ret)
  .skip)) (.seq (.ops c29o27) (.cond (.var 19)
  (.seq (.ops c29o28) (.ops c29o29))
  .skip)))))))) (.ops c29o30)))
noncomputable def c29l32 : CCode := (.seq (.seq (.ops c29o11) (.cond (.var 14)
  .skip
  (.exit 2))) (.block 3 (.seq (.ops c29o12) (.seq (.ops c29o13) (.block 4 (.loop c29l31))))))
noncomputable def c29o33 : List CItem := [
  ⟨none, .p1 some, [(.const (.bool false))], (.set 2), []⟩]
noncomputable def c29 : CFunc := ⟨2, 20, (.seq (.ops c29o0) (.seq (.ops c29o1) (.seq (.ops c29o2) (.seq (.seq (.ops c29o3) (.block 0 (.loop c29l9))) (.seq (.seq (.ops c29o10) (.block 2 (.loop c29l32))) (.seq (.ops c29o33) .ret)))))), [((.var 2), none)]⟩

/-! litmus/litmusref20.same -/
/- kept: [0, 1, 4, 5, 6, 7, 16, 20, 31], params 2 -/
noncomputable def c89o0 : List CItem := [
  ⟨none, .p1 some, [(.const (.bool false))], (.set 2), []⟩]
noncomputable def c89o1 : List CItem := [
  ⟨none, .call 59, [(.var 0)], .push, []⟩,
  ⟨none, .call 59, [(.var 1)], .push, []⟩,
  ⟨none, .p1 some, [(.loc 1)], (.set 3), []⟩,
  ⟨none, .p1 some, [(.loc 0)], (.set 4), []⟩]
noncomputable def c89o2 : List CItem := [
  ⟨none, .r (fun s l => match l with | [x] => lenA Try.prog s 23 x | _ => none), [(.var 3)], .push, []⟩,
  ⟨none, .r (fun s l => match l with | [x] => lenA Try.prog s 23 x | _ => none), [(.var 4)], .push, []⟩,
  ⟨none, .p2 (binA Try.prog .neq 3), [(.loc 1), (.loc 0)], (.set 6), []⟩]
noncomputable def c89o3 : List CItem := [
  ⟨none, .p1 some, [(.const (.bool false))], (.set 2), []⟩]
noncomputable def c89o4 : List CItem := [
  ⟨none, .p1 some, [(.const (.int .i64 (0)))], (.set 5), []⟩]
noncomputable def c89o5 : List CItem := [
  ⟨none, .r (fun s l => match l with | [x] => lenA Try.prog s 23 x | _ => none), [(.var 3)], .push, []⟩,
  ⟨none, .p2 (binA Try.prog .lss 3), [(.var 5), (.loc 0)], (.set 7), []⟩]
noncomputable def c89o6 : List CItem := [
  ⟨none, .p2 (indexAddrA Try.prog 23), [(.var 3), (.var 5)], .push, []⟩,
  ⟨none, .r1 (fun s a => loadV Try.prog s 3 a), [(.loc 0)], .push, []⟩,
  ⟨none, .p2 (indexAddrA Try.prog 23), [(.var 4), (.var 5)], .push, []⟩,
  ⟨none, .r1 (fun s a => loadV Try.prog s 3 a), [(.loc 0)], .push, []⟩,
  ⟨none, .p2 (binA Try.prog .neq 3), [(.loc 2), (.loc 0)], (.set 8), []⟩]
noncomputable def c89o7 : List CItem := [
  ⟨none, .p1 some, [(.const (.bool false))], (.set 2), []⟩]
noncomputable def c89o8 : List CItem := [
  ⟨none, .p1 some, [(.var 5)], .push, []⟩,
  ⟨none, .p2 (binA Try.prog .add 3), [(.loc 0), (.const (.int .i64 (1)))], .push, []⟩,
  ⟨none, .p1 some, [(.loc 0)], (.set 5), []⟩]
noncomputable def c89l9 : CCode := (.seq (.seq (.ops c89o5) (.cond (.var 7)
  .skip
  (.exit 0))) (.seq (.block 1 (.seq (.ops c89o6) (.cond (.var 8)
  (.seq (.ops c89o7) .ret)
  .skip))) (.ops c89o8)))
noncomputable def c89o10 : List CItem := [
  ⟨none, .p1 some, [(.const (.bool true))], (.set 2), []⟩]
noncomputable def c89 : CFunc := ⟨2, 9, (.seq (.ops c89o0) (.seq (.ops c89o1) (.seq (.seq (.ops c89o2) (.cond (.var 6)
  (.seq (.ops c89o3) .ret)
  .skip)) (.seq (.seq (.ops c89o4) (.block 0 (.loop c89l9))) (.seq (.ops c89o10) .ret))))), [((.var 2), none)]⟩

/-! litmus/litmusref20.drop -/
/- kept: [0, 1, 4, 5, 10, 18], params 2 -/
noncomputable def c57o0 : List CItem := [
  ⟨none, .p1 some, [(.const (.slice none 0 (some 0)))], (.set 2), []⟩]
noncomputable def c57o1 : List CItem := [
  ⟨none, .r (fun s l => match l with | [x] => lenA Try.prog s 22 x | _ => none), [(.var 0)], .push, []⟩,
  ⟨none, .p2 (binA Try.prog .sub 3), [(.loc 0), (.const (.int .i64 (1)))], .push, []⟩,
  ⟨none, .p1 some, [(.loc 0)], (.set 3), []⟩]
noncomputable def c57o2 : List CItem := [
  ⟨none, .p2 (binA Try.prog .geq 3), [(.var 3), (.const (.int .i64 (0)))], (.set 4), []⟩]
noncomputable def c57o3 : List CItem := [
  ⟨none, .p2 (indexAddrA Try.prog 22), [(.var 0), (.var 3)], .push, []⟩,
  ⟨none, .r1 (fun s a => loadV Try.prog s 23 a), [(.loc 0)], .push, []⟩,
  ⟨none, .call 89, [(.loc 0), (.var 1)], (.set 5), []⟩]
noncomputable def c57o4 : List CItem := [
  ⟨none, .mk (fun l => (sliceRowA Try.prog 22 0 (zipIdx [] l)).bind fun r => some (r, .slice 0)), [], .push, []⟩,
  ⟨none, .r (sliceOpnds Try.prog 22 false true false), [(.var 0), (.var 3)], .push, []⟩,
  ⟨none, .p2 (binA Try.prog .add 3), [(.var 3), (.const (.int .i64 (1)))], .push, []⟩,
  ⟨none, .r (sliceOpnds Try.prog 22 true false false), [(.var 0), (.loc 0)], .push, []⟩,
  ⟨none, .e (fun s l => appendA Try.prog s [22, 22] l), [(.loc 3), (.loc 2)], .push, [⟨none, .r (sliceOpnds Try.prog 22 true false false), [(.var 0), (.loc 2)], (.loc 1)⟩]⟩,
  ⟨none, .e (fun s l => appendA Try.prog s [22, 22] l), [(.loc 0), (.loc 1)], .push, []⟩,
  ⟨none, .p1 some, [(.loc 0)], (.set 2), []⟩]
noncomputable def c57o5 : List CItem := [
  ⟨none, .p1 some, [(.var 3)], .push, []⟩,
  ⟨none, .p2 (binA Try.prog .sub 3), [(.loc 0), (.const (.int .i64 (1)))], .push, []⟩,
  ⟨none, .p1 some, [(.loc 0)], (.set 3), []⟩]
noncomputable def c57l6 : CCode := (.seq (.seq (.ops c57o2) (.cond (.var 4)
  .skip
  (.exit 0))) (.seq (.block 1 (.seq (.ops c57o3) (.cond (.var 5)
  (.seq (.ops c57o4) .ret)
  .skip))) (.ops c57o5)))
noncomputable def c57o7 : List CItem := [
  ⟨none, .p1 some, [(.var 0)], (.set 2), []⟩]
noncomputable def c57 : CFunc := ⟨2, 6, (.seq (.ops c57o0) (.seq (.seq (.ops c57o1) (.block 0 (.loop c57l6))) (.seq (.ops c57o7) .ret))), [((.var 2), none)]⟩

/-! litmus/litmusref20.all -/
/- kept: [0, 1, 4], params 2 -/
noncomputable def c58o0 : List CItem := [
  ⟨none, .p1 some, [(.const (.slice none 0 (some 0)))], (.set 2), []⟩]
noncomputable def c58o1 : List CItem := [
  ⟨none, .mk (fun l => (sliceRowA Try.prog 22 0 (zipIdx [] l)).bind fun r => some (r, .slice 0)), [], .push, []⟩,
  ⟨none, .e (fun s l => appendA Try.prog s [22, 22] l), [(.loc 0), (.var 0)], .push, []⟩,
  ⟨none, .e (fun s l => appendA Try.prog s [22, 22] l), [(.loc 0), (.var 1)], .push, []⟩,
  ⟨none, .p1 some, [(.loc 0)], (.set 2), []⟩]
noncomputable def c58 : CFunc := ⟨2, 3, (.seq (.ops c58o0) (.seq (.ops c58o1) .ret)), [((.var 2), none)]⟩

/-! litmus/litmusref20.Check -/
/- kept: [0, 1, 4, 5, 6, 7, 8, 12, 20, 31, 37], params 2 -/
noncomputable def c25o0 : List CItem := [
  ⟨none, .p1 some, [(.const (.int .i64 (0)))], (.set 2), []⟩,
  ⟨none, .p1 some, [(.const (.bool false))], (.set 3), []⟩]
noncomputable def c25o1 : List CItem := [
  ⟨none, .p1 some, [(.const (.slice none 0 (some 0)))], (.set 4), []⟩]
noncomputable def c25o2 : List CItem := [
  ⟨none, .p1 some, [(.const (.int .i64 (0)))], (.set 5), []⟩]
noncomputable def c25o3 : List CItem := [
  ⟨none, .r (fun s l => match l with | [x] => lenA Try.prog s 33 x | _ => none), [(.var 1)], .push, []⟩,
  ⟨none, .p2 (binA Try.prog .lss 3), [(.var 5), (.loc 0)], (.set 7), []⟩]
noncomputable def c25o4 : List CItem := [
  ⟨none, .p2 (indexAddrA Try.prog 33), [(.var 1), (.var 5)], .push, []⟩,
  ⟨none, .r1 (fun s a => loadV Try.prog s 27 a), [(.loc 0)], .push, []⟩,
  ⟨none, .mk (fun l => match l with | [] => allocA Try.prog 27 | _ => none), [], (.set 6), []⟩,
  ⟨none, .e (fun s => on2 (fun a x => withV (storeV Try.prog s 27 a x))), [(.var 6), (.loc 0)], .push, []⟩]
noncomputable def c25o5 : List CItem := [
  ⟨none, .p1 (fun x => fieldAddrA Try.prog 27 x 0), [(.var 6)], .push, []⟩,
  ⟨none, .r1 (fun s a => loadV Try.prog s 4 a), [(.loc 0)], (.set 8), []⟩]
noncomputable def c25o6 : List CItem := [
  ⟨none, .p1 some, [(.var 4)], .push, []⟩,
  ⟨none, .p1 (fun x => fieldAddrA Try.prog 27 x 1), [(.var 6)], .push, []⟩,
  ⟨none, .r1 (fun s a => loadV Try.prog s 23 a), [(.loc 0)], .push, []⟩,
  ⟨none, .call 57, [(.loc 2), (.loc 0)], .push, []⟩,
  ⟨none, .p1 some, [(.loc 0)], (.set 4), []⟩]
noncomputable def c25o7 : List CItem := [
  ⟨none, .p1 (fun x => fieldAddrA Try.prog 27 x 1), [(.var 6)], .push, []⟩,
  ⟨none, .r1 (fun s a => loadV Try.prog s 23 a), [(.loc 0)], .push, []⟩,
  ⟨none, .call 58, [(.var 0), (.var 4)], .push, [⟨none, .r1 (fun s a => loadV Try.prog s 23 a), [(.loc 2)], (.loc 1)⟩]⟩,
  ⟨none, .call 29, [(.loc 0), (.loc 1)], .push, []⟩,
  ⟨none, .p1 (unA Try.prog Go.UnOp.not), [(.loc 0)], (.set 9), []⟩]
noncomputable def c25o8 : List CItem := [
  ⟨none, .p1 some, [(.var 5)], (.set 2), []⟩,
  ⟨none, .p1 some, [(.const (.bool false))], (.set 3), []⟩]
noncomputable def c25o9 : List CItem := [
  ⟨none, .p1 (fun x => fieldAddrA Try.prog 27 x 1), [(.var 6)], .push, []⟩,
  ⟨none, .r1 (fun s a => loadV Try.prog s 23 a), [(.loc 0)], .push, []⟩,
  ⟨none, .call 59, [(.loc 0)], .push, []⟩,
  ⟨none, .r (fun s l => match l with | [x] => lenA Try.prog s 23 x | _ => none), [(.loc 0)], .push, []⟩,
  ⟨none, .p2 (binA Try.prog .eql 3), [(.loc 0), (.const (.int .i64 (0)))], (.set 10), []⟩]
noncomputable def c25o10 : List CItem := [
  ⟨none, .p1 some, [(.var 5)], (.set 2), []⟩,
  ⟨none, .p1 some, [(.const (.bool true))], (.set 3), []⟩]
noncomputable def c25o11 : List CItem := [
  ⟨none, .p1 some, [(.var 4)], .push, []⟩,
  ⟨none, .p1 (fun x => fieldAddrA Try.prog 27 x 1), [(.var 6)], .push, []⟩,
  ⟨none, .r1 (fun s a => loadV Try.prog s 23 a), [(.loc 0)], .push, []⟩,
  ⟨none, .mk (fun l => (sliceRowA Try.prog 22 1 (zipIdx [0] l)).bind fun r => some (r, .slice 1)), [(.loc 0)], .push, []⟩,
  ⟨none, .e (fun s l => appendA Try.prog s [22, 22] l), [(.loc 3), (.loc 0)], .push, []⟩,
  ⟨none, .p1 some, [(.loc 0)], (.set 4), []⟩]
noncomputable def c25o12 : List CItem := [
  ⟨none, .p1 some, [(.var 5)], .push, []⟩,
  ⟨none, .p2 (binA Try.prog .add 3), [(.loc 0), (.const (.int .i64 (1)))], .push, []⟩,
  ⟨none, .p1 some, [(.loc 0)], (.set 5), []⟩]
noncomputable def c25l13 : CCode := (.seq (.seq (.ops c25o3) (.cond (.var 7)
  .skip
  (.exit 0))) (.seq (.block 1 (.seq (.ops c25o4) (.seq (.seq (.ops c25o5) (.cond (.var 8)
  (.seq (.ops c25o6) (.exit 1))
  .skip)) (.seq (.seq (.ops c25o7) (.cond (.var 9)
  (.seq (.ops c25o8) .ret)
  .skip)) (.seq (.seq (.ops c25o9) (.cond (.var 10)
  (.seq (.ops c25o10) .ret)
  .skip)) (.ops c25o11)))))) (.ops c25o12)))
noncomputable def c25o14 : List CItem := [
  ⟨none, .r (fun s l => match l with | [x] => lenA Try.prog s 33 x | _ => none), [(.var 1)], .push, []⟩,
  ⟨none, .p1 some, [(.loc 0)], (.set 2), []⟩,
  ⟨none, .p1 some, [(.const (.bool false))], (.set 3), []⟩]
noncomputable def c25 : CFunc := ⟨2, 11, (.seq (.ops c25o0) (.seq (.ops c25o1) (.seq (.seq (.ops c25o2) (.block 0 (.loop c25l13))) (.seq (.ops c25o14) .ret)))), [((.var 2), none), ((.var 3), none)]⟩

/-! litmus/litmusref20.Left -/
/- kept: [0, 1, 4, 5, 6, 10, 17], params 2 -/
noncomputable def c28o0 : List CItem := [
  ⟨none, .p1 some, [(.const (.slice none 0 (some 0)))], (.set 2), []⟩]
noncomputable def c28o1 : List CItem := [
  ⟨none, .p1 some, [(.const (.slice none 0 (some 0)))], (.set 3), []⟩]
noncomputable def c28o2 : List CItem := [
  ⟨none, .p1 some, [(.const (.int .i64 (0)))], (.set 4), []⟩]
noncomputable def c28o3 : List CItem := [
  ⟨none, .r (fun s l => match l with | [x] => lenA Try.prog s 33 x | _ => none), [(.var 1)], .push, []⟩,
  ⟨none, .p2 (binA Try.prog .lss 3), [(.var 4), (.loc 0)], (.set 5), []⟩]
noncomputable def c28o4 : List CItem := [
  ⟨none, .p2 (indexAddrA Try.prog 33), [(.var 1), (.var 4)], .push, []⟩,
  ⟨none, .p1 (fun x => fieldAddrA Try.prog 27 x 0), [(.loc 0)], .push, []⟩,
  ⟨none, .r1 (fun s a => loadV Try.prog s 4 a), [(.loc 0)], (.set 6), []⟩]
noncomputable def c28o5 : List CItem := [
  ⟨none, .p1 some, [(.var 3)], .push, []⟩,
  ⟨none, .p2 (indexAddrA Try.prog 33), [(.var 1), (.var 4)], .push, []⟩,
  ⟨none, .p1 (fun x => fieldAddrA Try.prog 27 x 1), [(.loc 0)], .push, []⟩,
  ⟨none, .r1 (fun s a => loadV Try.prog s 23 a), [(.loc 0)], .push, []⟩,
  ⟨none, .call 57, [(.loc 3), (.loc 0)], .push, []⟩,
  ⟨none, .p1 some, [(.loc 0)], (.set 3), []⟩]
noncomputable def c28o6 : List CItem := [
  ⟨none, .mk (fun l => (sliceRowA Try.prog 22 0 (zipIdx [] l)).bind fun r => some (r, .slice 0)), [], .push, []⟩,
  ⟨none, .p1 some, [(.var 3)], .push, []⟩,
  ⟨none, .p2 (indexAddrA Try.prog 33), [(.var 1), (.var 4)], .push, []⟩,
  ⟨none, .p1 (fun x => fieldAddrA Try.prog 27 x 1), [(.loc 0)], .push, []⟩,
  ⟨none, .r1 (fun s a => loadV Try.prog s 23 a), [(.loc 0)], .push, []⟩,
  ⟨none, .mk (fun l => (sliceRowA Try.prog 22 1 (zipIdx [0] l)).bind fun r => some (r, .slice 1)), [(.loc 0)], .push, []⟩,
  ⟨none, .e (fun s l => appendA Try.prog s [22, 22] l), [(.loc 5), (.loc 4)], .push, [⟨none, .r1 (fun s a => loadV Try.prog s 23 a), [(.loc 3)], (.loc 2)⟩]⟩,
  ⟨none, .e (fun s l => appendA Try.prog s [22, 22] l), [(.loc 0), (.loc 1)], .push, []⟩,
  ⟨none, .p1 some, [(.loc 0)], (.set 3), []⟩]
noncomputable def c28o7 : List CItem := [
  ⟨none, .p1 some, [(.var 4)], .push, []⟩,
  ⟨none, .p2 (binA Try.prog .add 3), [(.loc 0), (.const (.int .i64 (1)))], .push, []⟩,
  ⟨none, .p1 some, [(.loc 0)], (.set 4), []⟩]
noncomputable def c28l8 : CCode := (.seq (.seq (.ops c28o3) (.cond (.var 5)
  .skip
  (.exit 0))) (.seq (.block 1 (.seq (.ops c28o4) (.cond (.var 6)
  (.ops c28o5)
  (.ops c28o6)))) (.ops c28o7)))
noncomputable def c28o9 : List CItem := [
  ⟨none, .call 58, [(.var 0), (.var 3)], .push, []⟩,
  ⟨none, .p1 some, [(.loc 0)], (.set 2), []⟩]
noncomputable def c28 : CFunc := ⟨2, 7, (.seq (.ops c28o0) (.seq (.ops c28o1) (.seq (.seq (.ops c28o2) (.block 0 (.loop c28l8))) (.seq (.ops c28o9) .ret)))), [((.var 2), none)]⟩

/-! litmus/litmusref20.Rows -/
/- kept: [0, 1, 4, 5, 6, 11, 15, 28, 35, 52], params 2 -/
noncomputable def c26o0 : List CItem := [
  ⟨none, .p1 some, [(.const (.bool false))], (.set 2), []⟩]
noncomputable def c26o1 : List CItem := [
  ⟨none, .r (fun s l => match l with | [x] => lenA Try.prog s 22 x | _ => none), [(.var 0)], .push, []⟩,
  ⟨none, .r (fun s l => match l with | [x] => lenA Try.prog s 22 x | _ => none), [(.var 1)], .push, []⟩,
  ⟨none, .p2 (binA Try.prog .neq 3), [(.loc 1), (.loc 0)], (.set 5), []⟩]
noncomputable def c26o2 : List CItem := [
  ⟨none, .p1 some, [(.const (.bool false))], (.set 2), []⟩]
noncomputable def c26o3 : List CItem := [
  ⟨none, .p1 some, [(.const (.int .i64 (0)))], (.set 3), []⟩]
noncomputable def c26o4 : List CItem := [
  ⟨none, .r (fun s l => match l with | [x] => lenA Try.prog s 22 x | _ => none), [(.var 0)], .push, []⟩,
  ⟨none, .p2 (binA Try.prog .lss 3), [(.var 3), (.loc 0)], (.set 6), []⟩]
noncomputable def c26o5 : List CItem := [
  ⟨none, .p2 (indexAddrA Try.prog 22), [(.var 0), (.var 3)], .push, []⟩,
  ⟨none, .r1 (fun s a => loadV Try.prog s 23 a), [(.loc 0)], .push, []⟩,
  ⟨none, .r (fun s l => match l with | [x] => lenA Try.prog s 23 x | _ => none), [(.loc 0)], .push, []⟩,
  ⟨none, .p2 (indexAddrA Try.prog 22), [(.var 1), (.var 3)], .push, []⟩,
  ⟨none, .r1 (fun s a => loadV Try.prog s 23 a), [(.loc 0)], .push, []⟩,
  ⟨none, .r (fun s l => match l with | [x] => lenA Try.prog s 23 x | _ => none), [(.loc 0)], .push, []⟩,
  ⟨none, .p2 (binA Try.prog .neq 3), [(.loc 3), (.loc 0)], (.set 7), []⟩]
noncomputable def c26o6 : List CItem := [
  ⟨none, .p1 some, [(.const (.bool false))], (.set 2), []⟩]
noncomputable def c26o7 : List CItem := [
  ⟨none, .p1 some, [(.const (.int .i64 (0)))], (.set 4), []⟩]
noncomputable def c26o8 : List CItem := [
  ⟨none, .p2 (indexAddrA Try.prog 22), [(.var 0), (.var 3)], .push, []⟩,
  ⟨none, .r1 (fun s a => loadV Try.prog s 23 a), [(.loc 0)], .push, []⟩,
  ⟨none, .r (fun s l => match l with | [x] => lenA Try.prog s 23 x | _ => none), [(.loc 0)], .push, []⟩,
  ⟨none, .p2 (binA Try.prog .lss 3), [(.var 4), (.loc 0)], (.set 8), []⟩]
noncomputable def c26o9 : List CItem := [
  ⟨none, .p2 (indexAddrA Try.prog 22), [(.var 0), (.var 3)], .push, []⟩,
  ⟨none, .r1 (fun s a => loadV Try.prog s 23 a), [(.loc 0)], .push, []⟩,
  ⟨none, .p2 (indexAddrA Try.prog 23), [(.loc 0), (.var 4)], .push, []⟩,
  ⟨none, .r1 (fun s a => loadV Try.prog s 3 a), [(.loc 0)], .push, []⟩,
  ⟨none, .p2 (indexAddrA Try.prog 22), [(.var 1), (.var 3)], .push, []⟩,
  ⟨none, .r1 (fun s a => loadV Try.prog s 23 a), [(.loc 0)], .push, []⟩,
  ⟨none, .p2 (indexAddrA Try.prog 23), [(.loc 0), (.var 4)], .push, []⟩,
  ⟨none, .r1 (fun s a => loadV Try.prog s 3 a), [(.loc 0)], .push, []⟩,
  ⟨none, .p2 (binA Try.prog .neq 3), [(.loc 4), (.loc 0)], (.set 9), []⟩]
noncomputable def c26o10 : List CItem := [
  ⟨none, .p1 some, [(.const (.bool false))], (.set 2), []⟩]
noncomputable def c26o11 : List CItem := [
  ⟨none, .p1 some, [(.var 4)], .push, []⟩,
  ⟨none, .p2 (binA Try.prog .add 3), [(.loc 0), (.const (.int .i64 (1)))], .push, []⟩,
  ⟨none, .p1 some, [(.loc 0)], (.set 4), []⟩]
noncomputable def c26l12 : CCode := (.seq (.seq (.ops c26o8) (.cond (.var 8)
  .skip
  (.exit 2))) (.seq (.block 3 (.seq (.ops c26o9) (.cond (.var 9)
  (.seq (.ops c26o10) .ret)
  .skip))) (.ops c26o11)))
noncomputable def c26o13 : List CItem := [
  ⟨none, .p1 some, [(.var 3)], .push, []⟩,
  ⟨none, .p2 (binA Try.prog .add 3), [(.loc 0), (.const (.int .i64 (1)))], .push, []⟩,
  ⟨none, .p1 some, [(.loc 0)], (.set 3), []⟩]
noncomputable def c26l14 : CCode := (.seq (.seq (.ops c26o4) (.cond (.var 6)
  .skip
  (.exit 0))) (.seq (.block 1 (.seq (.seq (.ops c26o5) (.cond (.var 7)
  (.seq (.ops c26o6) .ret)
  .skip)) (.seq (.ops c26o7) (.block 2 (.loop c26l12))))) (.ops c26o13)))
noncomputable def c26o15 : List CItem := [
  ⟨none, .p1 some, [(.const (.bool true))], (.set 2), []⟩]
noncomputable def c26 : CFunc := ⟨2, 10, (.seq (.ops c26o0) (.seq (.seq (.ops c26o1) (.cond (.var 5)
  (.seq (.ops c26o2) .ret)
  .skip)) (.seq (.seq (.ops c26o3) (.block 0 (.loop c26l14))) (.seq (.ops c26o15) .ret)))), [((.var 2), none)]⟩

/-! litmus/litmusref20.Clauses -/
/- kept: [0, 1, 4, 5, 6, 7, 8, 9, 10, 18, 31, 50], params 2 -/
noncomputable def c22o0 : List CItem := [
  ⟨none, .p1 some, [(.const (.slice none 0 (some 0)))], (.set 2), []⟩]
noncomputable def c22o1 : List CItem := [
  ⟨none, .p1 some, [(.const (.slice none 0 (some 0)))], (.set 3), []⟩]
noncomputable def c22o2 : List CItem := [
  ⟨none, .p1 some, [(.const (.int .i64 (0)))], (.set 4), []⟩]
noncomputable def c22o3 : List CItem := [
  ⟨none, .r (fun s l => match l with | [x] => lenA Try.prog s 30 x | _ => none), [(.var 0)], .push, []⟩,
  ⟨none, .p2 (binA Try.prog .lss 3), [(.var 4), (.loc 0)], .push, []⟩,
  ⟨(some ((.loc 0), true)), .p1 some, [(.var 4)], .push, []⟩,
  ⟨(some ((.loc 1), true)), .p2 (binA Try.prog .lss 3), [(.loc 0), (.const (.int .i64 (20)))], .push, []⟩,
  ⟨none, .p pick3, [(.loc 2), (.loc 0), (.const (.bool false))], (.set 9), []⟩]
noncomputable def c22o4 : List CItem := [
  ⟨none, .p1 some, [(.const (.slice none 0 (some 0)))], (.set 5), []⟩]
noncomputable def c22o5 : List CItem := [
  ⟨none, .p1 some, [(.const (.int .i64 (0)))], (.set 6), []⟩]
noncomputable def c22o6 : List CItem := [
  ⟨none, .p2 (indexAddrA Try.prog 30), [(.var 0), (.var 4)], .push, []⟩,
  ⟨none, .r1 (fun s a => loadV Try.prog s 76 a), [(.loc 0)], .push, []⟩,
  ⟨none, .r (fun s l => match l with | [x] => lenA Try.prog s 76 x | _ => none), [(.loc 0)], .push, []⟩,
  ⟨none, .p2 (binA Try.prog .lss 3), [(.var 6), (.loc 0)], .push, []⟩,
  ⟨(some ((.loc 0), true)), .p1 some, [(.var 6)], .push, []⟩,
  ⟨(some ((.loc 1), true)), .p2 (binA Try.prog .lss 3), [(.loc 0), (.const (.int .i64 (5)))], .push, []⟩,
  ⟨none, .p pick3, [(.loc 2), (.loc 0), (.const (.bool false))], (.set 10), []⟩]
noncomputable def c22o7 : List CItem := [
  ⟨none, .p2 (indexAddrA Try.prog 30), [(.var 0), (.var 4)], .push, []⟩,
  ⟨none, .r1 (fun s a => loadV Try.prog s 76 a), [(.loc 0)], .push, []⟩,
  ⟨none, .p2 (indexAddrA Try.prog 76), [(.loc 0), (.var 6)], .push, []⟩,
  ⟨none, .r1 (fun s a => loadV Try.prog s 77 a), [(.loc 0)], .push, []⟩,
  ⟨none, .r1 (fun s x => convA Try.prog s 77 3 x), [(.loc 0)], .push, []⟩,
  ⟨none, .p1 some, [(.loc 0)], (.set 7), []⟩]
noncomputable def c22o8 : List CItem := [
  ⟨none, .p1 (unA Try.prog Go.UnOp.neg), [(.var 7)], .push, []⟩,
  ⟨none, .p (fun l => match l with | v :: l => minMax true v l | [] => none), [(.var 7), (.loc 0)], .push, []⟩,
  ⟨none, .p2 (binA Try.prog .rem 3), [(.loc 0), (.var 1)], .push, []⟩,
  ⟨none, .p2 (binA Try.prog .add 3), [(.const (.int .i64 (1))), (.loc 0)], .push, []⟩,
  ⟨none, .p1 some, [(.loc 0)], (.set 8), []⟩]
noncomputable def c22o9 : List CItem := [
  ⟨none, .p2 (binA Try.prog .lss 3), [(.var 7), (.const (.int .i64 (0)))], (.set 11), []⟩]
noncomputable def c22o10 : List CItem := [
  ⟨none, .p1 some, [(.var 8)], .push, []⟩,
  ⟨none, .p1 (unA Try.prog Go.UnOp.neg), [(.loc 0)], .push, []⟩,
  ⟨none, .p1 some, [(.loc 0)], (.set 8), []⟩]
noncomputable def c22o11 : List CItem := [
  ⟨none, .p1 some, [(.var 5)], .push, []⟩,
  ⟨none, .mk (fun l => (sliceRowA Try.prog 23 1 (zipIdx [0] l)).bind fun r => some (r, .slice 1)), [(.var 8)], .push, []⟩,
  ⟨none, .e (fun s l => appendA Try.prog s [23, 23] l), [(.loc 1), (.loc 0)], .push, []⟩,
  ⟨none, .p1 some, [(.loc 0)], (.set 5), []⟩]
noncomputable def c22o12 : List CItem := [
  ⟨none, .p1 some, [(.var 6)], .push, []⟩,
  ⟨none, .p2 (binA Try.prog .add 3), [(.loc 0), (.const (.int .i64 (1)))], .push, []⟩,
  ⟨none, .p1 some, [(.loc 0)], (.set 6), []⟩]
noncomputable def c22l13 : CCode := (.seq (.seq (.ops c22o6) (.cond (.var 10)
  .skip
  (.exit 2))) (.seq (.block 3 (.seq (.ops c22o7) (.seq (.ops c22o8) (.seq (.seq (.ops c22o9) (.cond (.var 11)
  (.ops c22o10)
  .skip)) (.ops c22o11))))) (.ops c22o12)))
noncomputable def c22o14 : List CItem := [
  ⟨none, .p1 some, [(.var 3)], .push, []⟩,
  ⟨none, .mk (fun l => (sliceRowA Try.prog 22 1 (zipIdx [0] l)).bind fun r => some (r, .slice 1)), [(.var 5)], .push, []⟩,
  ⟨none, .e (fun s l => appendA Try.prog s [22, 22] l), [(.loc 1), (.loc 0)], .push, []⟩,
  ⟨none, .p1 some, [(.loc 0)], (.set 3), []⟩]
noncomputable def c22o15 : List CItem := [
  ⟨none, .p1 some, [(.var 4)], .push, []⟩,
  ⟨none, .p2 (binA Try.prog .add 3), [(.loc 0), (.const (.int .i64 (1)))], .push, []⟩,
  ⟨none, .p1 some, [(.loc 0)], (.set 4), []⟩]
noncomputable def c22l16 : CCode := (.seq (.seq (.ops c22o3) (.cond (.var 9)
  .skip
  (.exit 0))) (.seq (.block 1 (.seq (.ops c22o4) (.seq (.seq (.ops c22o5) (.block 2 (.loop c22l13))) (.ops c22o14)))) (.ops c22o15)))
noncomputable def c22o17 : List CItem := [
  ⟨none, .p1 some, [(.var 3)], (.set 2), []⟩]
noncomputable def c22 : CFunc := ⟨2, 12, (.seq (.ops c22o0) (.seq (.ops c22o1) (.seq (.seq (.ops c22o2) (.block 0 (.loop c22l16))) (.seq (.ops c22o17) .ret)))), [((.var 2), none)]⟩

/-! litmus/litmuslaw20.lines -/
/- kept: [0, 2, 3, 4, 5, 6, 14, 49], params 1 -/
noncomputable def c23o0 : List CItem := [
  ⟨none, .p1 some, [(.const (.slice none 0 (some 0)))], (.set 1), []⟩]
noncomputable def c23o1 : List CItem := [
  ⟨none, .p1 some, [(.const (.slice none 0 (some 0)))], (.set 2), []⟩]
noncomputable def c23o2 : List CItem := [
  ⟨none, .p1 some, [(.const (.int .i64 (0)))], (.set 3), []⟩]
noncomputable def c23o3 : List CItem := [
  ⟨none, .r (fun s l => match l with | [x] => lenA Try.prog s 31 x | _ => none), [(.var 0)], .push, []⟩,
  ⟨none, .p2 (binA Try.prog .lss 3), [(.var 3), (.loc 0)], .push, []⟩,
  ⟨(some ((.loc 0), true)), .p1 some, [(.var 3)], .push, []⟩,
  ⟨(some ((.loc 1), true)), .p2 (binA Try.prog .lss 3), [(.loc 0), (.const (.int .i64 (20)))], .push, []⟩,
  ⟨none, .p pick3, [(.loc 2), (.loc 0), (.const (.bool false))], (.set 6), []⟩]
noncomputable def c23o4 : List CItem := [
  ⟨none, .p2 (indexAddrA Try.prog 31), [(.var 0), (.var 3)], .push, []⟩,
  ⟨none, .p1 (fun x => fieldAddrA Try.prog 79 x 0), [(.loc 0)], .push, []⟩,
  ⟨none, .r1 (fun s a => loadV Try.prog s 4 a), [(.loc 0)], .push, []⟩,
  ⟨none, .p (fun l => buildA Try.prog 27 (zipIdx [0] l)), [(.loc 0)], .push, []⟩,
  ⟨none, .mk (fun l => match l with | [] => allocA Try.prog 27 | _ => none), [], (.set 4), []⟩,
  ⟨none, .e (fun s => on2 (fun a x => withV (storeV Try.prog s 27 a x))), [(.var 4), (.loc 0)], .push, []⟩]
noncomputable def c23o5 : List CItem := [
  ⟨none, .p2 (indexAddrA Try.prog 31), [(.var 0), (.var 3)], .push, []⟩,
  ⟨none, .p1 (fun x => fieldAddrA Try.prog 79 x 2), [(.loc 0)], .push, []⟩,
  ⟨none, .r1 (fun s a => loadV Try.prog s 76 a), [(.loc 0)], .push, []⟩,
  ⟨none, .mk (fun l => (sliceRowA Try.prog 30 1 (zipIdx [0] l)).bind fun r => some (r, .slice 1)), [(.loc 0)], .push, []⟩,
  ⟨none, .call 22, [(.loc 0), (.const (.int .i64 (6)))], .push, []⟩,
  ⟨none, .p1 some, [(.loc 0)], (.set 5), []⟩]
noncomputable def c23o6 : List CItem := [
  ⟨none, .p2 (indexAddrA Try.prog 22), [(.var 5), (.const (.int .i64 (0)))], .push, []⟩,
  ⟨none, .r1 (fun s a => loadV Try.prog s 23 a), [(.loc 0)], .push, []⟩,
  ⟨none, .p1 (fun x => fieldAddrA Try.prog 27 x 1), [(.var 4)], .push, []⟩,
  ⟨none, .e (fun s => on2 (fun a x => withV (storeV Try.prog s 23 a x))), [(.loc 0), (.loc 1)], .push, []⟩]
noncomputable def c23o7 : List CItem := [
  ⟨none, .p1 (fun x => fieldAddrA Try.prog 27 x 0), [(.var 4)], .push, []⟩,
  ⟨none, .r1 (fun s a => loadV Try.prog s 4 a), [(.loc 0)], .push, []⟩,
  ⟨(some ((.loc 0), true)), .p1 some, [(.var 2)], .push, []⟩,
  ⟨(some ((.loc 1), true)), .r (fun s l => match l with | [x] => lenA Try.prog s 33 x | _ => none), [(.loc 0)], .push, []⟩,
  ⟨(some ((.loc 2), true)), .p2 (binA Try.prog .gtr 3), [(.loc 0), (.const (.int .i64 (0)))], .push, []⟩,
  ⟨none, .p pick3, [(.loc 3), (.loc 0), (.const (.bool false))], .push, []⟩,
  ⟨(some ((.loc 0), true)), .p1 some, [(.var 0)], .push, []⟩,
  ⟨(some ((.loc 1), true)), .p1 some, [(.var 3)], .push, []⟩,
  ⟨(some ((.loc 2), true)), .p2 (indexAddrA Try.prog 31), [(.loc 1), (.loc 0)], .push, []⟩,
  ⟨(some ((.loc 3), true)), .p1 (fun x => fieldAddrA Try.prog 79 x 1), [(.loc 0)], .push, []⟩,
  ⟨(some ((.loc 4), true)), .r1 (fun s a => loadV Try.prog s 5 a), [(.loc 0)], .push, []⟩,
  ⟨(some ((.loc 5), true)), .p2 (binA Try.prog .rem 5), [(.loc 0), (.const (.int .u8 (3)))], .push, []⟩,
  ⟨(some ((.loc 6), true)), .p2 (binA Try.prog .gtr 5), [(.loc 0), (.const (.int .u8 (0)))], .push, []⟩,
  ⟨none, .p pick3, [(.loc 7), (.loc 0), (.const (.bool false))], (.set 7), []⟩]
noncomputable def c23o8 : List CItem := [
  ⟨none, .p2 (indexAddrA Try.prog 31), [(.var 0), (.var 3)], .push, []⟩,
  ⟨none, .p1 (fun x => fieldAddrA Try.prog 79 x 1), [(.loc 0)], .push, []⟩,
  ⟨none, .r1 (fun s a => loadV Try.prog s 5 a), [(.loc 0)], .push, []⟩,
  ⟨none, .r1 (fun s x => convA Try.prog s 5 3 x), [(.loc 0)], .push, []⟩,
  ⟨none, .r (fun s l => match l with | [x] => lenA Try.prog s 33 x | _ => none), [(.var 2)], .push, []⟩,
  ⟨none, .p2 (binA Try.prog .rem 3), [(.loc 1), (.loc 0)], .push, []⟩,
  ⟨none, .p2 (indexAddrA Try.prog 33), [(.var 2), (.loc 0)], .push, []⟩,
  ⟨none, .p1 (fun x => fieldAddrA Try.prog 27 x 1), [(.loc 0)], .push, []⟩,
  ⟨none, .r1 (fun s a => loadV Try.prog s 23 a), [(.loc 0)], .push, []⟩,
  ⟨none, .p1 (fun x => fieldAddrA Try.prog 27 x 1), [(.var 4)], .push, []⟩,
  ⟨none, .e (fun s => on2 (fun a x => withV (storeV Try.prog s 23 a x))), [(.loc 0), (.loc 1)], .push, []⟩]
noncomputable def c23o9 : List CItem := [
  ⟨none, .p1 some, [(.var 2)], .push, []⟩,
  ⟨none, .r1 (fun s a => loadV Try.prog s 27 a), [(.var 4)], .push, []⟩,
  ⟨none, .mk (fun l => (sliceRowA Try.prog 33 1 (zipIdx [0] l)).bind fun r => some (r, .slice 1)), [(.loc 0)], .push, []⟩,
  ⟨none, .e (fun s l => appendA Try.prog s [33, 33] l), [(.loc 2), (.loc 0)], .push, []⟩,
  ⟨none, .p1 some, [(.loc 0)], (.set 2), []⟩]
noncomputable def c23o10 : List CItem := [
  ⟨none, .p1 some, [(.var 3)], .push, []⟩,
  ⟨none, .p2 (binA Try.prog .add 3), [(.loc 0), (.const (.int .i64 (1)))], .push, []⟩,
  ⟨none, .p1 some, [(.loc 0)], (.set 3), []⟩]
noncomputable def c23l11 : CCode := (.seq (.seq (.ops c23o3) (.cond (.var 6)
  .skip
  (.exit 0))) (.seq (.block 1 (.seq (.ops c23o4) (.seq (.ops c23o5) (.seq (.ops c23o6) (.seq (.seq (.ops c23o7) (.cond (.var 7)
  (.ops c23o8)
  .skip)) (.ops c23o9)))))) (.ops c23o10)))
noncomputable def c23o12 : List CItem := [
  ⟨none, .p1 some, [(.var 2)], (.set 1), []⟩]
noncomputable def c23 : CFunc := ⟨1, 8, (.seq (.ops c23o0) (.seq (.ops c23o1) (.seq (.seq (.ops c23o2) (.block 0 (.loop c23l11))) (.seq (.ops c23o12) .ret)))), [((.var 1), none)]⟩

/-! litmus/litmuslaw20.holds -/
/- kept: [0, 1, 4, 5, 6, 10, 39], params 2 -/
noncomputable def c62o0 : List CItem := [
  ⟨none, .p1 some, [(.const (.bool false))], (.set 2), []⟩]
noncomputable def c62o1 : List CItem := [
  ⟨none, .p1 some, [(.const (.int .i64 (0)))], (.set 3), []⟩]
noncomputable def c62o2 : List CItem := [
  ⟨none, .r (fun s l => match l with | [x] => lenA Try.prog s 23 x | _ => none), [(.var 1)], .push, []⟩,
  ⟨none, .p2 (binA Try.prog .lss 3), [(.var 3), (.loc 0)], (.set 5), []⟩]
noncomputable def c62o3 : List CItem := [
  ⟨none, .p2 (indexAddrA Try.prog 23), [(.var 1), (.var 3)], .push, []⟩,
  ⟨none, .r1 (fun s a => loadV Try.prog s 3 a), [(.loc 0)], .push, []⟩,
  ⟨none, .p1 some, [(.loc 0)], (.set 4), []⟩]
noncomputable def c62o4 : List CItem := [
  ⟨none, .p2 (binA Try.prog .gtr 3), [(.var 4), (.const (.int .i64 (0)))], .push, []⟩,
  ⟨(some ((.loc 0), true)), .p1 some, [(.var 0)], .push, []⟩,
  ⟨(some ((.loc 1), true)), .p1 some, [(.var 4)], .push, []⟩,
  ⟨(some ((.loc 2), true)), .p2 (binA Try.prog .sub 3), [(.loc 0), (.const (.int .i64 (1)))], .push, []⟩,
  ⟨(some ((.loc 3), true)), .p2 (binA Try.prog .shr 3), [(.loc 2), (.loc 0)], .push, []⟩,
  ⟨(some ((.loc 4), true)), .p2 (binA Try.prog .and 3), [(.loc 0), (.const (.int .i64 (1)))], .push, []⟩,
  ⟨(some ((.loc 5), true)), .p2 (binA Try.prog .eql 3), [(.loc 0), (.const (.int .i64 (1)))], .push, []⟩,
  ⟨none, .p pick3, [(.loc 6), (.loc 0), (.const (.bool false))], .push, []⟩,
  ⟨(some ((.loc 0), false)), .p1 some, [(.var 4)], .push, []⟩,
  ⟨(some ((.loc 1), false)), .p2 (binA Try.prog .lss 3), [(.loc 0), (.const (.int .i64 (0)))], .push, []⟩,
  ⟨(some ((.loc 2), false)), .p1 some, [(.loc 0)], .push, []⟩,
  ⟨(some ((.loc 0), true)), .p1 some, [(.var 0)], .push, []⟩,
  ⟨(some ((.loc 1), true)), .p1 some, [(.var 4)], .push, []⟩,
  ⟨(some ((.loc 2), true)), .p1 (unA Try.prog Go.UnOp.neg), [(.loc 0)], .push, []⟩,
  ⟨(some ((.loc 3), true)), .p2 (binA Try.prog .sub 3), [(.loc 0), (.const (.int .i64 (1)))], .push, []⟩,
  ⟨(some ((.loc 4), true)), .p2 (binA Try.prog .shr 3), [(.loc 3), (.loc 0)], .push, []⟩,
  ⟨(some ((.loc 5), true)), .p2 (binA Try.prog .and 3), [(.loc 0), (.const (.int .i64 (1)))], .push, []⟩,
  ⟨(some ((.loc 6), true)), .p2 (binA Try.prog .eql 3), [(.loc 0), (.const (.int .i64 (0)))], .push, []⟩,
  ⟨(some ((.loc 10), false)), .p pick3, [(.loc 7), (.loc 0), (.const (.bool false))], .push, []⟩,
  ⟨none, .p pick3, [(.loc 11), (.const (.bool true)), (.loc 0)], (.set 6), []⟩]
noncomputable def c62o5 : List CItem := [
  ⟨none, .p1 some, [(.const (.bool true))], (.set 2), []⟩]
noncomputable def c62o6 : List CItem := [
  ⟨none, .p1 some, [(.var 3)], .push, []⟩,
  ⟨none, .p2 (binA Try.prog .add 3), [(.loc 0), (.const (.int .i64 (1)))], .push, []⟩,
  ⟨none, .p1 some, [(.loc 0)], (.set 3), []⟩]
noncomputable def c62l7 : CCode := (.seq (.seq (.ops c62o2) (.cond (.var 5)
  .skip
  (.exit 0))) (.seq (.block 1 (.seq (.ops c62o3) (.seq (.ops c62o4) (.cond (.var 6)
  (.seq (.ops c62o5) .ret)
  .skip)))) (.ops c62o6)))
noncomputable def c62o8 : List CItem := [
  ⟨none, .p1 some, [(.const (.bool false))], (.set 2), []⟩]
noncomputable def c62 : CFunc := ⟨2, 7, (.seq (.ops c62o0) (.seq (.seq (.ops c62o1) (.block 0 (.loop c62l7))) (.seq (.ops c62o8) .ret))), [((.var 2), none)]⟩

/-! litmus/litmuslaw20.models -/
/- kept: [0, 2, 3, 4, 5, 6, 8, 14, 26], params 1 -/
noncomputable def c30o0 : List CItem := [
  ⟨none, .p1 some, [(.const (.int .i64 (0)))], (.set 1), []⟩]
noncomputable def c30o1 : List CItem := [
  ⟨none, .p1 some, [(.const (.int .i64 (0)))], (.set 2), []⟩]
noncomputable def c30o2 : List CItem := [
  ⟨none, .p1 some, [(.const (.int .i64 (0)))], (.set 3), []⟩]
noncomputable def c30o3 : List CItem := [
  ⟨none, .p2 (binA Try.prog .lss 3), [(.var 3), (.const (.int .i64 (64)))], (.set 6), []⟩]
noncomputable def c30o4 : List CItem := [
  ⟨none, .p1 some, [(.const (.bool true))], (.set 4), []⟩]
noncomputable def c30o5 : List CItem := [
  ⟨none, .p1 some, [(.const (.int .i64 (0)))], (.set 5), []⟩]
noncomputable def c30o6 : List CItem := [
  ⟨none, .r (fun s l => match l with | [x] => lenA Try.prog s 22 x | _ => none), [(.var 0)], .push, []⟩,
  ⟨none, .p2 (binA Try.prog .lss 3), [(.var 5), (.loc 0)], (.set 7), []⟩]
noncomputable def c30o7 : List CItem := [
  ⟨none, .p1 some, [(.var 4)], .push, []⟩,
  ⟨(some ((.loc 0), true)), .p1 some, [(.var 3)], .push, []⟩,
  ⟨(some ((.loc 1), true)), .p1 some, [(.var 0)], .push, []⟩,
  ⟨(some ((.loc 2), true)), .p1 some, [(.var 5)], .push, []⟩,
  ⟨(some ((.loc 3), true)), .p2 (indexAddrA Try.prog 22), [(.loc 1), (.loc 0)], .push, []⟩,
  ⟨(some ((.loc 4), true)), .r1 (fun s a => loadV Try.prog s 23 a), [(.loc 0)], .push, []⟩,
  ⟨(some ((.loc 5), true)), .call 62, [(.loc 4), (.loc 0)], .push, []⟩,
  ⟨none, .p pick3, [(.loc 6), (.loc 0), (.const (.bool false))], .push, []⟩,
  ⟨none, .p1 some, [(.loc 0)], (.set 4), []⟩]
noncomputable def c30o8 : List CItem := [
  ⟨none, .p1 some, [(.var 5)], .push, []⟩,
  ⟨none, .p2 (binA Try.prog .add 3), [(.loc 0), (.const (.int .i64 (1)))], .push, []⟩,
  ⟨none, .p1 some, [(.loc 0)], (.set 5), []⟩]
noncomputable def c30l9 : CCode := (.seq (.seq (.ops c30o6) (.cond (.var 7)
  .skip
  (.exit 2))) (.seq (.block 3 (.ops c30o7)) (.ops c30o8)))
noncomputable def c30o10 : List CItem := [
  ⟨none, .p1 some, [(.var 4)], (.set 8), []⟩]
noncomputable def c30o11 : List CItem := [
  ⟨none, .p1 some, [(.var 2)], .push, []⟩,
  ⟨none, .p2 (binA Try.prog .add 3), [(.loc 0), (.const (.int .i64 (1)))], .push, []⟩,
  ⟨none, .p1 some, [(.loc 0)], (.set 2), []⟩]
noncomputable def c30o12 : List CItem := [
  ⟨none, .p1 some, [(.var 3)], .push, []⟩,
  ⟨none, .p2 (binA Try.prog .add 3), [(.loc 0), (.const (.int .i64 (1)))], .push, []⟩,
  ⟨none, .p1 some, [(.loc 0)], (.set 3), []⟩]
noncomputable def c30l13 : CCode := (.seq (.seq (.ops c30o3) (.cond (.var 6)
  .skip
  (.exit 0))) (.seq (.block 1 (.seq (.ops c30o4) (.seq (.seq (.ops c30o5) (.block 2 (.loop c30l9))) (.seq (.ops c30o10) (.cond (.var 8)
  (.ops c30o11)
  .skip))))) (.ops c30o12)))
noncomputable def c30o14 : List CItem := [
  ⟨none, .p1 some, [(.var 2)], (.set 1), []⟩]
noncomputable def c30 : CFunc := ⟨1, 9, (.seq (.ops c30o0) (.seq (.ops c30o1) (.seq (.seq (.ops c30o2) (.block 0 (.loop c30l13))) (.seq (.ops c30o14) .ret)))), [((.var 1), none)]⟩

/-! litmus/drup.clean -/
/- kept: [0, 2, 3], params 1 -/
noncomputable def c56o0 : List CItem := [
  ⟨none, .p1 some, [(.const (.slice none 0 (some 0)))], (.set 1), []⟩]
noncomputable def c56o1 : List CItem := [
  ⟨none, .call 60, [(.var 0)], .push, []⟩,
  ⟨none, .call 85, [(.loc 0), (.const (.func 86 [] []))], .push, []⟩,
  ⟨none, .p1 some, [(.loc 0)], (.set 2), []⟩]
noncomputable def c56o2 : List CItem := [
  ⟨none, .call 87, [(.var 2)], .push, []⟩]
noncomputable def c56o3 : List CItem := [
  ⟨none, .call 88, [(.var 2)], .push, []⟩,
  ⟨none, .p1 some, [(.loc 0)], (.set 1), []⟩]
noncomputable def c56 : CFunc := ⟨1, 3, (.seq (.ops c56o0) (.seq (.ops c56o1) (.seq (.ops c56o2) (.seq (.ops c56o3) .ret)))), [((.var 1), none)]⟩

/-! litmus/drup.clean$1 -/
/- kept: [0, 2, 4], params 1 -/
noncomputable def c86o0 : List CItem := [
  ⟨none, .p1 some, [(.const (.bool false))], (.set 1), []⟩]
noncomputable def c86o1 : List CItem := [
  ⟨none, .call 48, [(.var 0)], .push, []⟩,
  ⟨none, .p1 (fun x => extractA x 0), [(.loc 0)], .push, []⟩,
  ⟨none, .p1 (fun x => extractA x 1), [(.loc 1)], .push, []⟩,
  ⟨none, .p1 some, [(.loc 1)], .push, []⟩,
  ⟨none, .p1 some, [(.loc 1)], (.set 2), []⟩]
noncomputable def c86o2 : List CItem := [
  ⟨none, .p2 (binA Try.prog .eql 3), [(.var 2), (.const (.int .i64 (0)))], .push, []⟩,
  ⟨none, .p1 some, [(.loc 0)], (.set 1), []⟩]
noncomputable def c86 : CFunc := ⟨1, 3, (.seq (.ops c86o0) (.seq (.ops c86o1) (.seq (.ops c86o2) .ret))), [((.var 1), none)]⟩

/-! litmus/drup.states -/
/- kept: [0, 1, 2], params 1 -/
noncomputable def c54o0 : List CItem := [
  ⟨none, .mk (fun l => match l with | [v] => boxA 33 v | _ => none), [(.var 0)], (.set 1), []⟩,
  ⟨none, .p1 some, [(.const .nilFunc)], (.set 2), []⟩]
noncomputable def c54o1 : List CItem := [
  ⟨none, .p (fun l => some (.func 82 (l.take 0) (l.drop 0))), [(.var 1)], .push, []⟩,
  ⟨none, .p1 some, [(.loc 0)], (.set 2), []⟩]
noncomputable def c54 : CFunc := ⟨1, 3, (.seq (.ops c54o0) (.seq (.ops c54o1) .ret)), [((.var 2), none)]⟩

/-! litmus/drup.states$1 -/
/- kept: [0, 1, 3, 4, 5, 6, 7, 8, 9, 17, 19], params 2 -/
noncomputable def c82o0 : List CItem := [
  ⟨none, .p1 some, [(.const (.slice none 0 (some 0)))], (.set 2), []⟩]
noncomputable def c82o1 : List CItem := [
  ⟨none, .r1 (fun s a => loadV Try.prog s 33 a), [(.var 1)], (.set 5), []⟩,
  ⟨none, .r (fun s l => match l with | [x] => lenA Try.prog s 33 x | _ => none), [(.var 5)], (.set 6), []⟩,
  ⟨none, .p1 some, [(.const (.int .i64 (0)))], (.set 7), []⟩]
noncomputable def c82o2 : List CItem := [
  ⟨none, .p2 (binA Try.prog .lss 3), [(.var 7), (.var 6)], (.set 8), []⟩]
noncomputable def c82o3 : List CItem := [
  ⟨none, .p2 (indexAddrA Try.prog 33), [(.var 5), (.var 7)], .push, []⟩,
  ⟨none, .r1 (fun s a => loadV Try.prog s 27 a), [(.loc 0)], .push, []⟩,
  ⟨none, .mk (fun l => match l with | [] => allocA Try.prog 27 | _ => none), [], (.set 4), []⟩,
  ⟨none, .p1 some, [(.var 7)], (.set 3), []⟩,
  ⟨none, .e (fun s => on2 (fun a x => withV (storeV Try.prog s 27 a x))), [(.var 4), (.loc 0)], .push, []⟩]
noncomputable def c82o4 : List CItem := [
  ⟨none, .callv, [(.var 0), (.var 3), (.var 2)], .push, []⟩,
  ⟨none, .p1 (unA Try.prog Go.UnOp.not), [(.loc 0)], (.set 9), []⟩]
noncomputable def c82o5 : List CItem := [
  ⟨none, .p1 (fun x => fieldAddrA Try.prog 27 x 0), [(.var 4)], .push, []⟩,
  ⟨none, .r1 (fun s a => loadV Try.prog s 4 a), [(.loc 0)], (.set 10), []⟩]
noncomputable def c82o6 : List CItem := [
  ⟨none, .p1 some, [(.var 2)], .push, []⟩,
  ⟨none, .p1 (fun x => fieldAddrA Try.prog 27 x 1), [(.var 4)], .push, []⟩,
  ⟨none, .r1 (fun s a => loadV Try.prog s 23 a), [(.loc 0)], .push, []⟩,
  ⟨none, .call 83, [(.loc 2), (.loc 0)], .push, []⟩,
  ⟨none, .p1 some, [(.loc 0)], (.set 2), []⟩]
noncomputable def c82o7 : List CItem := [
  ⟨none, .p1 some, [(.var 2)], .push, []⟩,
  ⟨none, .p1 some, [(.var 2)], .push, []⟩,
  ⟨none, .r (fun s l => match l with | [x] => lenA Try.prog s 22 x | _ => none), [(.loc 0)], .push, []⟩,
  ⟨none, .p1 some, [(.var 2)], .push, []⟩,
  ⟨none, .r (fun s l => match l with | [x] => lenA Try.prog s 22 x | _ => none), [(.loc 0)], .push, []⟩,
  ⟨none, .r (sliceOpnds Try.prog 22 false true true), [(.loc 4), (.loc 2), (.loc 0)], .push, []⟩,
  ⟨none, .p1 (fun x => fieldAddrA Try.prog 27 x 1), [(.var 4)], .push, []⟩,
  ⟨none, .r1 (fun s a => loadV Try.prog s 23 a), [(.loc 0)], .push, []⟩,
  ⟨none, .mk (fun l => (sliceRowA Try.prog 22 1 (zipIdx [0] l)).bind fun r => some (r, .slice 1)), [(.loc 0)], .push, []⟩,
  ⟨none, .e (fun s l => appendA Try.prog s [22, 22] l), [(.loc 3), (.loc 0)], .push, []⟩,
  ⟨none, .p1 some, [(.loc 0)], (.set 2), []⟩]
noncomputable def c82o8 : List CItem := [
  ⟨none, .p2 (binA Try.prog .add 3), [(.var 7), (.const (.int .i64 (1)))], .push, []⟩,
  ⟨none, .p1 some, [(.loc 0)], (.set 7), []⟩]
noncomputable def c82l9 : CCode := (.seq (.ops c82o2) (.seq (.cond (.var 8)
  .skip
  (.exit 0)) (.seq (.block 1 (.seq (.ops c82o3) (.seq (.seq (.ops c82o4) (.cond (.var 9)
  .ret
  .skip)) (.seq (.ops c82o5) (.cond (.var 10)
  (.ops c82o6)
  (.ops c82o7)))))) (.ops c82o8))))
noncomputable def c82o10 : List CItem := [
  ⟨none, .r1 (fun s a => loadV Try.prog s 33 a), [(.var 1)], .push, []⟩,
  ⟨none, .r (fun s l => match l with | [x] => lenA Try.prog s 33 x | _ => none), [(.loc 0)], .push, []⟩,
  ⟨none, .callv, [(.var 0), (.loc 0), (.var 2)], .push, []⟩]
noncomputable def c82 : CFunc := ⟨2, 11, (.seq (.ops c82o0) (.seq (.seq (.ops c82o1) (.block 0 (.loop c82l9))) (.ops c82o10))), []⟩

/-! slices.Concat[[][]int,[]int] -/
/- kept: [0, 2, 3, 5, 6, 8, 9, 10, 11, 12, 20, 25, 26, 27, 28], params 1 -/
noncomputable def c55o0 : List CItem := [
  ⟨none, .p1 some, [(.const (.slice none 0 (some 0)))], (.set 1), []⟩]
noncomputable def c55o1 : List CItem := [
  ⟨none, .p1 some, [(.const (.int .i64 (0)))], (.set 2), []⟩]
noncomputable def c55o2 : List CItem := [
  ⟨none, .p1 some, [(.var 0)], (.set 6), []⟩,
  ⟨none, .r (fun s l => match l with | [x] => lenA Try.prog s 110 x | _ => none), [(.var 6)], (.set 7), []⟩,
  ⟨none, .p1 some, [(.const (.int .i64 (0)))], (.set 8), []⟩]
noncomputable def c55o3 : List CItem := [
  ⟨none, .p2 (binA Try.prog .lss 3), [(.var 8), (.var 7)], (.set 9), []⟩]
noncomputable def c55o4 : List CItem := [
  ⟨none, .p2 (indexAddrA Try.prog 110), [(.var 6), (.var 8)], .push, []⟩,
  ⟨none, .r1 (fun s a => loadV Try.prog s 22 a), [(.loc 0)], .push, []⟩,
  ⟨none, .p1 some, [(.loc 0)], (.set 3), []⟩]
noncomputable def c55o5 : List CItem := [
  ⟨none, .p1 some, [(.var 2)], .push, []⟩,
  ⟨none, .r (fun s l => match l with | [x] => lenA Try.prog s 22 x | _ => none), [(.var 3)], .push, []⟩,
  ⟨none, .p2 (binA Try.prog .add 3), [(.loc 1), (.loc 0)], .push, []⟩,
  ⟨none, .p1 some, [(.loc 0)], (.set 2), []⟩]
noncomputable def c55o6 : List CItem := [
  ⟨none, .p2 (binA Try.prog .lss 3), [(.var 2), (.const (.int .i64 (0)))], (.set 10), []⟩]
noncomputable def c55o7 : List CItem := [
  ⟨none, .p2 (binA Try.prog .add 3), [(.var 8), (.const (.int .i64 (1)))], .push, []⟩,
  ⟨none, .p1 some, [(.loc 0)], (.set 8), []⟩]
noncomputable def c55l8 : CCode := (.seq (.ops c55o3) (.seq (.cond (.var 9)
  .skip
  (.exit 0)) (.seq (.block 1 (.seq (.ops c55o4) (.seq (.ops c55o5) (.seq (.ops c55o6) (.cond (.var 10)
  .never
  .skip))))) (.ops c55o7))))
noncomputable def c55o9 : List CItem := [
  ⟨none, .call 84, [(.const (.slice none 0 (some 0))), (.var 2)], .push, []⟩,
  ⟨none, .p1 some, [(.loc 0)], (.set 4), []⟩]
noncomputable def c55o10 : List CItem := [
  ⟨none, .p1 some, [(.var 0)], (.set 11), []⟩,
  ⟨none, .r (fun s l => match l with | [x] => lenA Try.prog s 110 x | _ => none), [(.var 11)], (.set 12), []⟩,
  ⟨none, .p1 some, [(.const (.int .i64 (0)))], (.set 13), []⟩]
noncomputable def c55o11 : List CItem := [
  ⟨none, .p2 (binA Try.prog .lss 3), [(.var 13), (.var 12)], (.set 14), []⟩]
noncomputable def c55o12 : List CItem := [
  ⟨none, .p2 (indexAddrA Try.prog 110), [(.var 11), (.var 13)], .push, []⟩,
  ⟨none, .r1 (fun s a => loadV Try.prog s 22 a), [(.loc 0)], .push, []⟩,
  ⟨none, .p1 some, [(.loc 0)], (.set 5), []⟩]
noncomputable def c55o13 : List CItem := [
  ⟨none, .p1 some, [(.var 4)], .push, []⟩,
  ⟨none, .e (fun s l => appendA Try.prog s [22, 22] l), [(.loc 0), (.var 5)], .push, []⟩,
  ⟨none, .p1 some, [(.loc 0)], (.set 4), []⟩]
noncomputable def c55o14 : List CItem := [
  ⟨none, .p2 (binA Try.prog .add 3), [(.var 13), (.const (.int .i64 (1)))], .push, []⟩,
  ⟨none, .p1 some, [(.loc 0)], (.set 13), []⟩]
noncomputable def c55l15 : CCode := (.seq (.ops c55o11) (.seq (.cond (.var 14)
  .skip
  (.exit 2)) (.seq (.block 3 (.seq (.ops c55o12) (.ops c55o13))) (.ops c55o14))))
noncomputable def c55o16 : List CItem := [
  ⟨none, .p1 some, [(.var 4)], (.set 1), []⟩]
noncomputable def c55 : CFunc := ⟨1, 15, (.seq (.ops c55o0) (.seq (.ops c55o1) (.seq (.seq (.ops c55o2) (.block 0 (.loop c55l8))) (.seq (.ops c55o9) (.seq (.seq (.ops c55o10) (.block 2 (.loop c55l15))) (.seq (.ops c55o16) .ret)))))), [((.var 1), none)]⟩

/-! slices.Clone[[]int,int] -/
/- kept: [0, 2, 4], params 1 -/
noncomputable def c60o0 : List CItem := [
  ⟨none, .p1 some, [(.const (.slice none 0 (some 0)))], (.set 1), []⟩]
noncomputable def c60o1 : List CItem := [
  ⟨none, .p2 (binA Try.prog .eql 23), [(.var 0), (.const (.slice none 0 (some 0)))], (.set 2), []⟩]
noncomputable def c60o2 : List CItem := [
  ⟨none, .p1 some, [(.const (.slice none 0 (some 0)))], (.set 1), []⟩]
noncomputable def c60o3 : List CItem := [
  ⟨none, .mk (fun l => (sliceRowA Try.prog 23 0 (zipIdx [] l)).bind fun r => some (r, .slice 0)), [], .push, []⟩,
  ⟨none, .e (fun s l => appendA Try.prog s [23, 23] l), [(.loc 0), (.var 0)], .push, []⟩,
  ⟨none, .p1 some, [(.loc 0)], (.set 1), []⟩]
noncomputable def c60 : CFunc := ⟨1, 3, (.seq (.ops c60o0) (.seq (.seq (.ops c60o1) (.cond (.var 2)
  (.seq (.ops c60o2) .ret)
  .skip)) (.seq (.ops c60o3) .ret))), [((.var 1), none)]⟩

/-! slices.Clone[[][]int,[]int] -/
/- kept: [0, 2, 4], params 1 -/
noncomputable def c107o0 : List CItem := [
  ⟨none, .p1 some, [(.const (.slice none 0 (some 0)))], (.set 1), []⟩]
noncomputable def c107o1 : List CItem := [
  ⟨none, .p2 (binA Try.prog .eql 22), [(.var 0), (.const (.slice none 0 (some 0)))], (.set 2), []⟩]
noncomputable def c107o2 : List CItem := [
  ⟨none, .p1 some, [(.const (.slice none 0 (some 0)))], (.set 1), []⟩]
noncomputable def c107o3 : List CItem := [
  ⟨none, .mk (fun l => (sliceRowA Try.prog 22 0 (zipIdx [] l)).bind fun r => some (r, .slice 0)), [], .push, []⟩,
  ⟨none, .e (fun s l => appendA Try.prog s [22, 22] l), [(.loc 0), (.var 0)], .push, []⟩,
  ⟨none, .p1 some, [(.loc 0)], (.set 1), []⟩]
noncomputable def c107 : CFunc := ⟨1, 3, (.seq (.ops c107o0) (.seq (.seq (.ops c107o1) (.cond (.var 2)
  (.seq (.ops c107o2) .ret)
  .skip)) (.seq (.ops c107o3) .ret))), [((.var 1), none)]⟩

/-! slices.DeleteFunc[[]int,int] -/
/- kept: [0, 1, 4, 5, 6, 7, 12, 19, 29], params 2 -/
noncomputable def c85o0 : List CItem := [
  ⟨none, .p1 some, [(.const (.slice none 0 (some 0)))], (.set 2), []⟩]
noncomputable def c85o1 : List CItem := [
  ⟨none, .call 94, [(.var 0), (.var 1)], .push, []⟩,
  ⟨none, .p1 some, [(.loc 0)], (.set 3), []⟩]
noncomputable def c85o2 : List CItem := [
  ⟨none, .p2 (binA Try.prog .eql 3), [(.var 3), (.const (.int .i64 (-1)))], (.set 6), []⟩]
noncomputable def c85o3 : List CItem := [
  ⟨none, .p1 some, [(.var 0)], (.set 2), []⟩]
noncomputable def c85o4 : List CItem := [
  ⟨none, .p2 (binA Try.prog .add 3), [(.var 3), (.const (.int .i64 (1)))], .push, []⟩,
  ⟨none, .p1 some, [(.loc 0)], (.set 4), []⟩]
noncomputable def c85o5 : List CItem := [
  ⟨none, .r (fun s l => match l with | [x] => lenA Try.prog s 23 x | _ => none), [(.var 0)], .push, []⟩,
  ⟨none, .p2 (binA Try.prog .lss 3), [(.var 4), (.loc 0)], (.set 7), []⟩]
noncomputable def c85o6 : List CItem := [
  ⟨none, .p2 (indexAddrA Try.prog 23), [(.var 0), (.var 4)], .push, []⟩,
  ⟨none, .r1 (fun s a => loadV Try.prog s 3 a), [(.loc 0)], .push, []⟩,
  ⟨none, .p1 some, [(.loc 0)], (.set 5), []⟩]
noncomputable def c85o7 : List CItem := [
  ⟨none, .callv, [(.var 1), (.var 5)], .push, []⟩,
  ⟨none, .p1 (unA Try.prog Go.UnOp.not), [(.loc 0)], (.set 8), []⟩]
noncomputable def c85o8 : List CItem := [
  ⟨none, .p2 (indexAddrA Try.prog 23), [(.var 0), (.var 3)], .push, []⟩,
  ⟨none, .e (fun s => on2 (fun a x => withV (storeV Try.prog s 3 a x))), [(.loc 0), (.var 5)], .push, []⟩]
noncomputable def c85o9 : List CItem := [
  ⟨none, .p1 some, [(.var 3)], .push, []⟩,
  ⟨none, .p2 (binA Try.prog .add 3), [(.loc 0), (.const (.int .i64 (1)))], .push, []⟩,
  ⟨none, .p1 some, [(.loc 0)], (.set 3), []⟩]
noncomputable def c85o10 : List CItem := [
  ⟨none, .p1 some, [(.var 4)], .push, []⟩,
  ⟨none, .p2 (binA Try.prog .add 3), [(.loc 0), (.const (.int .i64 (1)))], .push, []⟩,
  ⟨none, .p1 some, [(.loc 0)], (.set 4), []⟩]
noncomputable def c85l11 : CCode := (.seq (.seq (.ops c85o5) (.cond (.var 7)
  .skip
  (.exit 0))) (.seq (.block 1 (.seq (.ops c85o6) (.seq (.ops c85o7) (.cond (.var 8)
  (.seq (.ops c85o8) (.ops c85o9))
  .skip)))) (.ops c85o10)))
noncomputable def c85o12 : List CItem := [
  ⟨none, .r (sliceOpnds Try.prog 23 true false false), [(.var 0), (.var 3)], .push, []⟩,
  ⟨none, .e (fun s l => clearA Try.prog s [23] l), [(.loc 0)], .push, []⟩]
noncomputable def c85o13 : List CItem := [
  ⟨none, .r (sliceOpnds Try.prog 23 false true false), [(.var 0), (.var 3)], .push, []⟩,
  ⟨none, .p1 some, [(.loc 0)], (.set 2), []⟩]
noncomputable def c85 : CFunc := ⟨2, 9, (.seq (.ops c85o0) (.seq (.ops c85o1) (.seq (.seq (.ops c85o2) (.cond (.var 6)
  (.seq (.ops c85o3) .ret)
  .skip)) (.seq (.seq (.ops c85o4) (.block 0 (.loop c85l11))) (.seq (.ops c85o12) (.seq (.ops c85o13) .ret)))))), [((.var 2), none)]⟩

/-! slices.IndexFunc[[]int,int] -/
/- kept: [0, 1, 4, 5, 7, 8, 9, 16], params 2 -/
noncomputable def c94o0 : List CItem := [
  ⟨none, .p1 some, [(.const (.int .i64 (0)))], (.set 2), []⟩]
noncomputable def c94o1 : List CItem := [
  ⟨none, .r (fun s l => match l with | [x] => lenA Try.prog s 23 x | _ => none), [(.var 0)], (.set 4), []⟩,
  ⟨none, .p1 some, [(.const (.int .i64 (0)))], (.set 5), []⟩]
noncomputable def c94o2 : List CItem := [
  ⟨none, .p2 (binA Try.prog .lss 3), [(.var 5), (.var 4)], (.set 6), []⟩]
noncomputable def c94o3 : List CItem := [
  ⟨none, .p1 some, [(.var 5)], (.set 3), []⟩]
noncomputable def c94o4 : List CItem := [
  ⟨none, .p2 (indexAddrA Try.prog 23), [(.var 0), (.var 3)], .push, []⟩,
  ⟨none, .r1 (fun s a => loadV Try.prog s 3 a), [(.loc 0)], .push, []⟩,
  ⟨none, .callv, [(.var 1), (.loc 0)], (.set 7), []⟩]
noncomputable def c94o5 : List CItem := [
  ⟨none, .p1 some, [(.var 3)], (.set 2), []⟩]
noncomputable def c94o6 : List CItem := [
  ⟨none, .p2 (binA Try.prog .add 3), [(.var 5), (.const (.int .i64 (1)))], .push, []⟩,
  ⟨none, .p1 some, [(.loc 0)], (.set 5), []⟩]
noncomputable def c94l7 : CCode := (.seq (.ops c94o2) (.seq (.cond (.var 6)
  .skip
  (.exit 0)) (.seq (.block 1 (.seq (.ops c94o3) (.seq (.ops c94o4) (.cond (.var 7)
  (.seq (.ops c94o5) .ret)
  .skip)))) (.ops c94o6))))
noncomputable def c94o8 : List CItem := [
  ⟨none, .p1 some, [(.const (.int .i64 (-1)))], (.set 2), []⟩]
noncomputable def c94 : CFunc := ⟨2, 8, (.seq (.ops c94o0) (.seq (.seq (.ops c94o1) (.block 0 (.loop c94l7))) (.seq (.ops c94o8) .ret))), [((.var 2), none)]⟩

/-! slices.Sort[[]int,int] -/
/- kept: [0, 2], params 1 -/
noncomputable def c87o0 : List CItem := [
  ⟨none, .r (fun s l => match l with | [x] => lenA Try.prog s 23 x | _ => none), [(.var 0)], .push, []⟩,
  ⟨none, .p1 some, [(.loc 0)], (.set 1), []⟩]
noncomputable def c87o1 : List CItem := [
  ⟨none, .r1 (fun s x => convA Try.prog s 3 133 x), [(.var 1)], .push, []⟩,
  ⟨none, .call 109, [(.loc 0)], .push, []⟩,
  ⟨none, .call 108, [(.var 0), (.const (.int .i64 (0))), (.var 1), (.loc 0)], .push, []⟩]
noncomputable def c87 : CFunc := ⟨1, 2, (.seq (.ops c87o0) (.ops c87o1)), []⟩

/-! slices.Compact[[]int,int] -/
/- kept: [0, 2, 3, 4, 5, 8, 13, 25, 32, 44], params 1 -/
noncomputable def c88o0 : List CItem := [
  ⟨none, .p1 some, [(.const (.slice none 0 (some 0)))], (.set 1), []⟩]
noncomputable def c88o1 : List CItem := [
  ⟨none, .r (fun s l => match l with | [x] => lenA Try.prog s 23 x | _ => none), [(.var 0)], .push, []⟩,
  ⟨none, .p2 (binA Try.prog .lss 3), [(.loc 0), (.const (.int .i64 (2)))], (.set 5), []⟩]
noncomputable def c88o2 : List CItem := [
  ⟨none, .p1 some, [(.var 0)], (.set 1), []⟩]
noncomputable def c88o3 : List CItem := [
  ⟨none, .p1 some, [(.const (.int .i64 (1)))], (.set 2), []⟩]
noncomputable def c88o4 : List CItem := [
  ⟨none, .r (fun s l => match l with | [x] => lenA Try.prog s 23 x | _ => none), [(.var 0)], .push, []⟩,
  ⟨none, .p2 (binA Try.prog .lss 3), [(.var 2), (.loc 0)], (.set 6), []⟩]
noncomputable def c88o5 : List CItem := [
  ⟨none, .p2 (indexAddrA Try.prog 23), [(.var 0), (.var 2)], .push, []⟩,
  ⟨none, .r1 (fun s a => loadV Try.prog s 3 a), [(.loc 0)], .push, []⟩,
  ⟨none, .p2 (binA Try.prog .sub 3), [(.var 2), (.const (.int .i64 (1)))], .push, []⟩,
  ⟨none, .p2 (indexAddrA Try.prog 23), [(.var 0), (.loc 0)], .push, []⟩,
  ⟨none, .r1 (fun s a => loadV Try.prog s 3 a), [(.loc 0)], .push, []⟩,
  ⟨none, .p2 (binA Try.prog .eql 3), [(.loc 3), (.loc 0)], (.set 7), []⟩]
noncomputable def c88o6 : List CItem := [
  ⟨none, .r (sliceOpnds Try.prog 23 true false false), [(.var 0), (.var 2)], .push, []⟩,
  ⟨none, .p1 some, [(.loc 0)], (.set 3), []⟩]
noncomputable def c88o7 : List CItem := [
  ⟨none, .p1 some, [(.const (.int .i64 (1)))], (.set 4), []⟩]
noncomputable def c88o8 : List CItem := [
  ⟨none, .r (fun s l => match l with | [x] => lenA Try.prog s 23 x | _ => none), [(.var 3)], .push, []⟩,
  ⟨none, .p2 (binA Try.prog .lss 3), [(.var 4), (.loc 0)], (.set 8), []⟩]
noncomputable def c88o9 : List CItem := [
  ⟨none, .p2 (indexAddrA Try.prog 23), [(.var 3), (.var 4)], .push, []⟩,
  ⟨none, .r1 (fun s a => loadV Try.prog s 3 a), [(.loc 0)], .push, []⟩,
  ⟨none, .p2 (binA Try.prog .sub 3), [(.var 4), (.const (.int .i64 (1)))], .push, []⟩,
  ⟨none, .p2 (indexAddrA Try.prog 23), [(.var 3), (.loc 0)], .push, []⟩,
  ⟨none, .r1 (fun s a => loadV Try.prog s 3 a), [(.loc 0)], .push, []⟩,
  ⟨none, .p2 (binA Try.prog .neq 3), [(.loc 3), (.loc 0)], (.set 9), []⟩]
noncomputable def c88o10 : List CItem := [
  ⟨none, .p2 (indexAddrA Try.prog 23), [(.var 3), (.var 4)], .push, []⟩,
  ⟨none, .r1 (fun s a => loadV Try.prog s 3 a), [(.loc 0)], .push, []⟩,
  ⟨none, .p2 (indexAddrA Try.prog 23), [(.var 0), (.var 2)], .push, []⟩,
  ⟨none, .e (fun s => on2 (fun a x => withV (storeV Try.prog s 3 a x))), [(.loc 0), (.loc 1)], .push, []⟩]
noncomputable def c88o11 : List CItem := [
  ⟨none, .p1 some, [(.var 2)], .push, []⟩,
  ⟨none, .p2 (binA Try.prog .add 3), [(.loc 0), (.const (.int .i64 (1)))], .push, []⟩,
  ⟨none, .p1 some, [(.loc 0)], (.set 2), []⟩]
noncomputable def c88o12 : List CItem := [
  ⟨none, .p1 some, [(.var 4)], .push, []⟩,
  ⟨none, .p2 (binA Try.prog .add 3), [(.loc 0), (.const (.int .i64 (1)))], .push, []⟩,
  ⟨none, .p1 some, [(.loc 0)], (.set 4), []⟩]
noncomputable def c88l13 : CCode := (.seq (.seq (.ops c88o8) (.cond (.var 8)
  .skip
  (.exit 2))) (.seq (.block 3 (.seq (.ops c88o9) (.cond (.var 9)
  (.seq (.ops c88o10) (.ops c88o11))
  .skip))) (.ops c88o12)))
noncomputable def c88o14 : List CItem := [
  ⟨none, .r (sliceOpnds Try.prog 23 true false false), [(.var 0), (.var 2)], .push, []⟩,
  ⟨none, .e (fun s l => clearA Try.prog s [23] l), [(.loc 0)], .push, []⟩]
noncomputable def c88o15 : List CItem := [
  ⟨none, .r (sliceOpnds Try.prog 23 false true false), [(.var 0), (.var 2)], .push, []⟩,
  ⟨none, .p1 some, [(.loc 0)], (.set 1), []⟩]
noncomputable def c88o16 : List CItem := [
  ⟨none, .p1 some, [(.var 2)], .push, []⟩,
  ⟨none, .p2 (binA Try.prog .add 3), [(.loc 0), (.const (.int .i64 (1)))], .push, []⟩,
  ⟨none, .p1 some, [(.loc 0)], (.set 2), []⟩]
noncomputable def c88l17 : CCode := (.seq (.seq (.ops c88o4) (.cond (.var 6)
  .skip
  (.exit 0))) (.seq (.block 1 (.seq (.ops c88o5) (.cond (.var 7)
  (.seq (.ops c88o6) (.seq (.seq (.ops c88o7) (.block 2 (.loop c88l13))) (.seq (.ops c88o14) (.seq (.ops c88o15) .ret))))
  .skip))) (.ops c88o16)))
noncomputable def c88o18 : List CItem := [
  ⟨none, .p1 some, [(.var 0)], (.set 1), []⟩]
noncomputable def c88 : CFunc := ⟨1, 10, (.seq (.ops c88o0) (.seq (.seq (.ops c88o1) (.cond (.var 5)
  (.seq (.ops c88o2) .ret)
  .skip)) (.seq (.seq (.ops c88o3) (.block 0 (.loop c88l17))) (.seq (.ops c88o18) .ret)))), [((.var 1), none)]⟩

/-! slices.Equal[[]int,int] -/
/- kept: [0, 1, 4, 5, 10, 12, 13, 14, 24], params 2 -/
noncomputable def c105o0 : List CItem := [
  ⟨none, .p1 some, [(.const (.bool false))], (.set 2), []⟩]
noncomputable def c105o1 : List CItem := [
  ⟨none, .r (fun s l => match l with | [x] => lenA Try.prog s 23 x | _ => none), [(.var 0)], .push, []⟩,
  ⟨none, .r (fun s l => match l with | [x] => lenA Try.prog s 23 x | _ => none), [(.var 1)], .push, []⟩,
  ⟨none, .p2 (binA Try.prog .neq 3), [(.loc 1), (.loc 0)], (.set 4), []⟩]
noncomputable def c105o2 : List CItem := [
  ⟨none, .p1 some, [(.const (.bool false))], (.set 2), []⟩]
noncomputable def c105o3 : List CItem := [
  ⟨none, .r (fun s l => match l with | [x] => lenA Try.prog s 23 x | _ => none), [(.var 0)], (.set 5), []⟩,
  ⟨none, .p1 some, [(.const (.int .i64 (0)))], (.set 6), []⟩]
noncomputable def c105o4 : List CItem := [
  ⟨none, .p2 (binA Try.prog .lss 3), [(.var 6), (.var 5)], (.set 7), []⟩]
noncomputable def c105o5 : List CItem := [
  ⟨none, .p1 some, [(.var 6)], (.set 3), []⟩]
noncomputable def c105o6 : List CItem := [
  ⟨none, .p2 (indexAddrA Try.prog 23), [(.var 0), (.var 3)], .push, []⟩,
  ⟨none, .r1 (fun s a => loadV Try.prog s 3 a), [(.loc 0)], .push, []⟩,
  ⟨none, .p2 (indexAddrA Try.prog 23), [(.var 1), (.var 3)], .push, []⟩,
  ⟨none, .r1 (fun s a => loadV Try.prog s 3 a), [(.loc 0)], .push, []⟩,
  ⟨none, .p2 (binA Try.prog .neq 3), [(.loc 2), (.loc 0)], (.set 8), []⟩]
noncomputable def c105o7 : List CItem := [
  ⟨none, .p1 some, [(.const (.bool false))], (.set 2), []⟩]
noncomputable def c105o8 : List CItem := [
  ⟨none, .p2 (binA Try.prog .add 3), [(.var 6), (.const (.int .i64 (1)))], .push, []⟩,
  ⟨none, .p1 some, [(.loc 0)], (.set 6), []⟩]
noncomputable def c105l9 : CCode := (.seq (.ops c105o4) (.seq (.cond (.var 7)
  .skip
  (.exit 0)) (.seq (.block 1 (.seq (.ops c105o5) (.seq (.ops c105o6) (.cond (.var 8)
  (.seq (.ops c105o7) .ret)
  .skip)))) (.ops c105o8))))
noncomputable def c105o10 : List CItem := [
  ⟨none, .p1 some, [(.const (.bool true))], (.set 2), []⟩]
noncomputable def c105 : CFunc := ⟨2, 9, (.seq (.ops c105o0) (.seq (.seq (.ops c105o1) (.cond (.var 4)
  (.seq (.ops c105o2) .ret)
  .skip)) (.seq (.seq (.ops c105o3) (.block 0 (.loop c105l9))) (.seq (.ops c105o10) .ret)))), [((.var 2), none)]⟩

/-! slices.Delete[[][]int,[]int] -/
/- kept: [0, 1, 2, 6, 7, 16], params 3 -/
noncomputable def c106o0 : List CItem := [
  ⟨none, .p1 some, [(.const (.slice none 0 (some 0)))], (.set 3), []⟩]
noncomputable def c106o1 : List CItem := [
  ⟨none, .r (fun s l => match l with | [x] => lenA Try.prog s 22 x | _ => none), [(.var 0)], .push, []⟩,
  ⟨none, .r (sliceOpnds Try.prog 22 true true true), [(.var 0), (.var 1), (.var 2), (.loc 0)], .push, []⟩]
noncomputable def c106o2 : List CItem := [
  ⟨none, .p2 (binA Try.prog .eql 3), [(.var 1), (.var 2)], (.set 5), []⟩]
noncomputable def c106o3 : List CItem := [
  ⟨none, .p1 some, [(.var 0)], (.set 3), []⟩]
noncomputable def c106o4 : List CItem := [
  ⟨none, .r (fun s l => match l with | [x] => lenA Try.prog s 22 x | _ => none), [(.var 0)], .push, []⟩,
  ⟨none, .p1 some, [(.loc 0)], (.set 4), []⟩]
noncomputable def c106o5 : List CItem := [
  ⟨none, .p1 some, [(.var 0)], .push, []⟩,
  ⟨none, .r (sliceOpnds Try.prog 22 false true false), [(.loc 0), (.var 1)], .push, []⟩,
  ⟨none, .p1 some, [(.var 0)], .push, []⟩,
  ⟨none, .r (sliceOpnds Try.prog 22 true false false), [(.loc 0), (.var 2)], .push, []⟩,
  ⟨none, .e (fun s l => appendA Try.prog s [22, 22] l), [(.loc 2), (.loc 0)], .push, []⟩,
  ⟨none, .p1 some, [(.loc 0)], (.set 0), []⟩]
noncomputable def c106o6 : List CItem := [
  ⟨none, .r (fun s l => match l with | [x] => lenA Try.prog s 22 x | _ => none), [(.var 0)], .push, []⟩,
  ⟨none, .r (sliceOpnds Try.prog 22 true true false), [(.var 0), (.loc 0), (.var 4)], .push, []⟩,
  ⟨none, .e (fun s l => clearA Try.prog s [22] l), [(.loc 0)], .push, []⟩]
noncomputable def c106o7 : List CItem := [
  ⟨none, .p1 some, [(.var 0)], (.set 3), []⟩]
noncomputable def c106 : CFunc := ⟨3, 6, (.seq (.ops c106o0) (.seq (.ops c106o1) (.seq (.seq (.ops c106o2) (.cond (.var 5)
  (.seq (.ops c106o3) .ret)
  .skip)) (.seq (.ops c106o4) (.seq (.ops c106o5) (.seq (.ops c106o6) (.seq (.ops c106o7) .ret))))))), [((.var 3), none)]⟩

/-! slices.Grow[[][]int,[]int] -/
/- kept: [0, 1, 4, 6, 16], params 2 -/
noncomputable def c84o0 : List CItem := [
  ⟨none, .p1 some, [(.const (.slice none 0 (some 0)))], (.set 2), []⟩]
noncomputable def c84o1 : List CItem := [
  ⟨none, .p2 (binA Try.prog .lss 3), [(.var 1), (.const (.int .i64 (0)))], (.set 3), []⟩]
noncomputable def c84o2 : List CItem := [
  ⟨none, .p1 some, [(.var 1)], .push, []⟩,
  ⟨none, .r (fun s l => match l with | [x] => capA Try.prog s 22 x | _ => none), [(.var 0)], .push, []⟩,
  ⟨none, .r (fun s l => match l with | [x] => lenA Try.prog s 22 x | _ => none), [(.var 0)], .push, []⟩,
  ⟨none, .p2 (binA Try.prog .sub 3), [(.loc 1), (.loc 0)], .push, []⟩,
  ⟨none, .p2 (binA Try.prog .sub 3), [(.loc 3), (.loc 0)], .push, []⟩,
  ⟨none, .p1 some, [(.loc 0)], (.set 1), []⟩]
noncomputable def c84o3 : List CItem := [
  ⟨none, .p2 (binA Try.prog .gtr 3), [(.var 1), (.const (.int .i64 (0)))], (.set 4), []⟩]
noncomputable def c84o4 : List CItem := [
  ⟨none, .p1 some, [(.var 0)], .push, []⟩,
  ⟨none, .p1 some, [(.var 0)], .push, []⟩,
  ⟨none, .r (fun s l => match l with | [x] => capA Try.prog s 22 x | _ => none), [(.loc 0)], .push, []⟩,
  ⟨none, .r (sliceOpnds Try.prog 22 false true false), [(.loc 2), (.loc 0)], .push, []⟩,
  ⟨none, .e (fun s l => appendA Try.prog s [22, 3] l), [(.loc 0), (.var 1)], .push, []⟩,
  ⟨none, .p1 some, [(.var 0)], .push, []⟩,
  ⟨none, .r (fun s l => match l with | [x] => lenA Try.prog s 22 x | _ => none), [(.loc 0)], .push, []⟩,
  ⟨none, .r (sliceOpnds Try.prog 22 false true false), [(.loc 2), (.loc 0)], .push, []⟩,
  ⟨none, .p1 some, [(.loc 0)], (.set 0), []⟩]
noncomputable def c84o5 : List CItem := [
  ⟨none, .p1 some, [(.var 0)], (.set 2), []⟩]
noncomputable def c84 : CFunc := ⟨2, 5, (.seq (.ops c84o0) (.seq (.seq (.ops c84o1) (.cond (.var 3)
  .never
  .skip)) (.seq (.seq (.ops c84o2) (.seq (.ops c84o3) (.cond (.var 4)
  (.ops c84o4)
  .skip))) (.seq (.ops c84o5) .ret)))), [((.var 2), none)]⟩

/-! slices.Backward[[][]int,[]int] -/
/- kept: [0, 1, 2], params 1 -/
noncomputable def c104o0 : List CItem := [
  ⟨none, .mk (fun l => match l with | [v] => boxA 22 v | _ => none), [(.var 0)], (.set 1), []⟩,
  ⟨none, .p1 some, [(.const .nilFunc)], (.set 2), []⟩]
noncomputable def c104o1 : List CItem := [
  ⟨none, .p (fun l => some (.func 116 (l.take 0) (l.drop 0))), [(.var 1)], .push, []⟩,
  ⟨none, .p1 some, [(.loc 0)], (.set 2), []⟩]
noncomputable def c104 : CFunc := ⟨1, 3, (.seq (.ops c104o0) (.seq (.ops c104o1) .ret)), [((.var 2), none)]⟩

/-! slices.Backward[[][]int,[]int]$1 -/
/- kept: [0, 1, 3, 8, 18], params 2 -/
noncomputable def c116o0 : List CItem := [
  ⟨none, .r1 (fun s a => loadV Try.prog s 22 a), [(.var 1)], .push, []⟩,
  ⟨none, .r (fun s l => match l with | [x] => lenA Try.prog s 22 x | _ => none), [(.loc 0)], .push, []⟩,
  ⟨none, .p2 (binA Try.prog .sub 3), [(.loc 0), (.const (.int .i64 (1)))], .push, []⟩,
  ⟨none, .p1 some, [(.loc 0)], (.set 2), []⟩]
noncomputable def c116o1 : List CItem := [
  ⟨none, .p2 (binA Try.prog .geq 3), [(.var 2), (.const (.int .i64 (0)))], (.set 3), []⟩]
noncomputable def c116o2 : List CItem := [
  ⟨none, .r1 (fun s a => loadV Try.prog s 22 a), [(.var 1)], .push, []⟩,
  ⟨none, .p2 (indexAddrA Try.prog 22), [(.loc 0), (.var 2)], .push, []⟩,
  ⟨none, .r1 (fun s a => loadV Try.prog s 23 a), [(.loc 0)], .push, []⟩,
  ⟨none, .callv, [(.var 0), (.var 2), (.loc 0)], .push, []⟩,
  ⟨none, .p1 (unA Try.prog Go.UnOp.not), [(.loc 0)], (.set 4), []⟩]
noncomputable def c116o3 : List CItem := [
  ⟨none, .p1 some, [(.var 2)], .push, []⟩,
  ⟨none, .p2 (binA Try.prog .sub 3), [(.loc 0), (.const (.int .i64 (1)))], .push, []⟩,
  ⟨none, .p1 some, [(.loc 0)], (.set 2), []⟩]
noncomputable def c116l4 : CCode := (.seq (.seq (.ops c116o1) (.cond (.var 3)
  .skip
  (.exit 0))) (.seq (.block 1 (.seq (.ops c116o2) (.cond (.var 4)
  .ret
  .skip))) (.ops c116o3)))
noncomputable def c116 : CFunc := ⟨2, 5, (.seq (.ops c116o0) (.block 0 (.loop c116l4))), []⟩

/-! slices.pdqsortOrdered[int] -/
/- kept: [0, 1, 2, 3, 8, 9, 10, 11, 12, 13, 14, 15, 16, 17, 18, 23, 29, 35, 50, 68, 72, 87, 113], params 4 -/
noncomputable def c108o0 : List CItem := [
  ⟨none, .p1 some, [(.const (.bool true))], (.set 4), []⟩]
noncomputable def c108o1 : List CItem := [
  ⟨none, .p1 some, [(.const (.bool true))], (.set 5), []⟩]
noncomputable def c108o2 : List CItem := [
  ⟨none, .p2 (binA Try.prog .sub 3), [(.var 2), (.var 1)], .push, []⟩,
  ⟨none, .p1 some, [(.loc 0)], (.set 6), []⟩]
noncomputable def c108o3 : List CItem := [
  ⟨none, .p2 (binA Try.prog .leq 3), [(.var 6), (.const (.int .i64 (12)))], (.set 15), []⟩]
noncomputable def c108o4 : List CItem := [
  ⟨none, .call 117, [(.var 0), (.var 1), (.var 2)], .push, []⟩]
noncomputable def c108o5 : List CItem := [
  ⟨none, .p2 (binA Try.prog .eql 3), [(.var 3), (.const (.int .i64 (0)))], (.set 16), []⟩]
noncomputable def c108o6 : List CItem := [
  ⟨none, .call 118, [(.var 0), (.var 1), (.var 2)], .push, []⟩]
noncomputable def c108o7 : List CItem := [
  ⟨none, .p1 (unA Try.prog Go.UnOp.not), [(.var 4)], (.set 17), []⟩]
noncomputable def c108o8 : List CItem := [
  ⟨none, .call 119, [(.var 0), (.var 1), (.var 2)], .push, []⟩]
noncomputable def c108o9 : List CItem := [
  ⟨none, .p1 some, [(.var 3)], .push, []⟩,
  ⟨none, .p2 (binA Try.prog .sub 3), [(.loc 0), (.const (.int .i64 (1)))], .push, []⟩,
  ⟨none, .p1 some, [(.loc 0)], (.set 3), []⟩]
noncomputable def c108o10 : List CItem := [
  ⟨none, .call 120, [(.var 0), (.var 1), (.var 2)], .push, []⟩,
  ⟨none, .p1 (fun x => extractA x 0), [(.loc 0)], .push, []⟩,
  ⟨none, .p1 (fun x => extractA x 1), [(.loc 1)], .push, []⟩,
  ⟨none, .p1 some, [(.loc 1)], (.set 7), []⟩,
  ⟨none, .p1 some, [(.loc 0)], (.set 8), []⟩]
noncomputable def c108o11 : List CItem := [
  ⟨none, .p2 (binA Try.prog .eql 138), [(.var 8), (.const (.int .i64 (2)))], (.set 18), []⟩]
noncomputable def c108o12 : List CItem := [
  ⟨none, .call 121, [(.var 0), (.var 1), (.var 2)], .push, []⟩]
noncomputable def c108o13 : List CItem := [
  ⟨none, .p2 (binA Try.prog .sub 3), [(.var 2), (.const (.int .i64 (1)))], .push, []⟩,
  ⟨none, .p1 some, [(.var 7)], .push, []⟩,
  ⟨none, .p2 (binA Try.prog .sub 3), [(.loc 0), (.var 1)], .push, []⟩,
  ⟨none, .p2 (binA Try.prog .sub 3), [(.loc 2), (.loc 0)], .push, []⟩,
  ⟨none, .p1 some, [(.loc 0)], (.set 7), []⟩]
noncomputable def c108o14 : List CItem := [
  ⟨none, .p1 some, [(.const (.int .i64 (1)))], (.set 8), []⟩]
noncomputable def c108o15 : List CItem := [
  ⟨(some ((.var 4), true)), .p1 some, [(.var 5)], .push, []⟩,
  ⟨none, .p pick3, [(.var 4), (.loc 0), (.const (.bool false))], .push, []⟩,
  ⟨(some ((.loc 0), true)), .p1 some, [(.var 8)], .push, []⟩,
  ⟨(some ((.loc 1), true)), .p2 (binA Try.prog .eql 138), [(.loc 0), (.const (.int .i64 (1)))], .push, []⟩,
  ⟨none, .p pick3, [(.loc 2), (.loc 0), (.const (.bool false))], (.set 19), []⟩]
noncomputable def c108o16 : List CItem := [
  ⟨none, .call 122, [(.var 0), (.var 1), (.var 2)], (.set 20), []⟩]
noncomputable def c108o17 : List CItem := [
  ⟨none, .p2 (binA Try.prog .gtr 3), [(.var 1), (.const (.int .i64 (0)))], .push, []⟩,
  ⟨(some ((.loc 0), true)), .p1 some, [(.var 0)], .push, []⟩,
  ⟨(some ((.loc 1), true)), .p1 some, [(.var 1)], .push, []⟩,
  ⟨(some ((.loc 2), true)), .p2 (binA Try.prog .sub 3), [(.loc 0), (.const (.int .i64 (1)))], .push, []⟩,
  ⟨(some ((.loc 3), true)), .p2 (indexAddrA Try.prog 23), [(.loc 2), (.loc 0)], .push, []⟩,
  ⟨(some ((.loc 4), true)), .r1 (fun s a => loadV Try.prog s 3 a), [(.loc 0)], .push, []⟩,
  ⟨(some ((.loc 5), true)), .p1 some, [(.var 0)], .push, []⟩,
  ⟨(some ((.loc 6), true)), .p1 some, [(.var 7)], .push, []⟩,
  ⟨(some ((.loc 7), true)), .p2 (indexAddrA Try.prog 23), [(.loc 1), (.loc 0)], .push, []⟩,
  ⟨(some ((.loc 8), true)), .r1 (fun s a => loadV Try.prog s 3 a), [(.loc 0)], .push, []⟩,
  ⟨(some ((.loc 9), true)), .call 123, [(.loc 4), (.loc 0)], .push, []⟩,
  ⟨(some ((.loc 10), true)), .p1 (unA Try.prog Go.UnOp.not), [(.loc 0)], .push, []⟩,
  ⟨none, .p pick3, [(.loc 11), (.loc 0), (.const (.bool false))], (.set 21), []⟩]
noncomputable def c108o18 : List CItem := [
  ⟨none, .call 124, [(.var 0), (.var 1), (.var 2), (.var 7)], .push, []⟩,
  ⟨none, .p1 some, [(.loc 0)], (.set 9), []⟩]
noncomputable def c108o19 : List CItem := [
  ⟨none, .p1 some, [(.var 9)], (.set 1), []⟩]
noncomputable def c108o20 : List CItem := [
  ⟨none, .call 125, [(.var 0), (.var 1), (.var 2), (.var 7)], .push, []⟩,
  ⟨none, .p1 (fun x => extractA x 0), [(.loc 0)], .push, []⟩,
  ⟨none, .p1 (fun x => extractA x 1), [(.loc 1)], .push, []⟩,
  ⟨none, .p1 some, [(.loc 1)], (.set 10), []⟩,
  ⟨none, .p1 some, [(.loc 0)], (.set 11), []⟩]
noncomputable def c108o21 : List CItem := [
  ⟨none, .p1 some, [(.var 11)], (.set 5), []⟩]
noncomputable def c108o22 : List CItem := [
  ⟨none, .p2 (binA Try.prog .sub 3), [(.var 10), (.var 1)], .push, []⟩,
  ⟨none, .p2 (binA Try.prog .sub 3), [(.var 2), (.var 10)], .push, []⟩,
  ⟨none, .p1 some, [(.loc 1)], (.set 12), []⟩,
  ⟨none, .p1 some, [(.loc 0)], (.set 13), []⟩]
noncomputable def c108o23 : List CItem := [
  ⟨none, .p2 (binA Try.prog .quo 3), [(.var 6), (.const (.int .i64 (8)))], .push, []⟩,
  ⟨none, .p1 some, [(.loc 0)], (.set 14), []⟩]
noncomputable def c108o24 : List CItem := [
  ⟨none, .p2 (binA Try.prog .lss 3), [(.var 12), (.var 13)], (.set 22), []⟩]
noncomputable def c108o25 : List CItem := [
  ⟨none, .p2 (binA Try.prog .geq 3), [(.var 12), (.var 14)], .push, []⟩,
  ⟨none, .p1 some, [(.loc 0)], (.set 4), []⟩]
noncomputable def c108o26 : List CItem := [
  ⟨none, .call 108, [(.var 0), (.var 1), (.var 10), (.var 3)], .push, []⟩]
noncomputable def c108o27 : List CItem := [
  ⟨none, .p2 (binA Try.prog .add 3), [(.var 10), (.const (.int .i64 (1)))], .push, []⟩,
  ⟨none, .p1 some, [(.loc 0)], (.set 1), []⟩]
noncomputable def c108o28 : List CItem := [
  ⟨none, .p2 (binA Try.prog .geq 3), [(.var 13), (.var 14)], .push, []⟩,
  ⟨none, .p1 some, [(.loc 0)], (.set 4), []⟩]
noncomputable def c108o29 : List CItem := [
  ⟨none, .p2 (binA Try.prog .add 3), [(.var 10), (.const (.int .i64 (1)))], .push, []⟩,
  ⟨none, .call 108, [(.var 0), (.loc 0), (.var 2), (.var 3)], .push, []⟩]
noncomputable def c108o30 : List CItem := [
  ⟨none, .p1 some, [(.var 10)], (.set 2), []⟩]
noncomputable def c108l31 : CCode := (.block 1 (.seq (.ops c108o2) (.seq (.seq (.ops c108o3) (.cond (.var 15)
  (.seq (.ops c108o4) .ret)
  .skip)) (.seq (.seq (.ops c108o5) (.cond (.var 16)
  (.seq (.ops c108o6) .ret)
  .skip)) (.seq (.seq (.ops c108o7) (.cond (.var 17)
  (.seq (.ops c108o8) (.ops c108o9))
  .skip)) (.seq (.ops c108o10) (.seq (.seq (.ops c108o11) (.cond (.var 18)
  (.seq (.ops c108o12) (.seq (.ops c108o13) (.ops c108o14)))
  .skip)) (.seq (.seq (.ops c108o15) (.cond (.var 19)
  (.seq (.ops c108o16) (.cond (.var 20)
  .ret
  .skip))
  .skip)) (.seq (.seq (.ops c108o17) (.cond (.var 21)
  (.seq (.ops c108o18) (.seq (.ops c108o19) (.exit 1)))
  .skip)) (.seq (.ops c108o20) (.seq (.ops c108o21) (.seq (.ops c108o22) (.seq (.ops c108o23) (.seq (.ops c108o24) (.cond (.var 22)
  (.seq (.ops c108o25) (.seq (.ops c108o26) (.ops c108o27)))
  (.seq (.ops c108o28) (.seq (.ops c108o29) (.ops c108o30))))))))))))))))))
noncomputable def c108 : CFunc := ⟨4, 23, (.seq (.ops c108o0) (.seq (.ops c108o1) (.block 0 (.loop c108l31)))), []⟩

/-! slices.insertionSortOrdered[int] -/
/- kept: [0, 1, 2, 6, 7, 12, 30], params 3 -/
noncomputable def c117o0 : List CItem := [
  ⟨none, .p2 (binA Try.prog .add 3), [(.var 1), (.const (.int .i64 (1)))], .push, []⟩,
  ⟨none, .p1 some, [(.loc 0)], (.set 3), []⟩]
noncomputable def c117o1 : List CItem := [
  ⟨none, .p2 (binA Try.prog .lss 3), [(.var 3), (.var 2)], (.set 5), []⟩]
noncomputable def c117o2 : List CItem := [
  ⟨none, .p1 some, [(.var 3)], (.set 4), []⟩]
noncomputable def c117o3 : List CItem := [
  ⟨none, .p2 (binA Try.prog .gtr 3), [(.var 4), (.var 1)], .push, []⟩,
  ⟨(some ((.loc 0), true)), .p1 some, [(.var 0)], .push, []⟩,
  ⟨(some ((.loc 1), true)), .p1 some, [(.var 4)], .push, []⟩,
  ⟨(some ((.loc 2), true)), .p2 (indexAddrA Try.prog 23), [(.loc 1), (.loc 0)], .push, []⟩,
  ⟨(some ((.loc 3), true)), .r1 (fun s a => loadV Try.prog s 3 a), [(.loc 0)], .push, []⟩,
  ⟨(some ((.loc 4), true)), .p1 some, [(.var 0)], .push, []⟩,
  ⟨(some ((.loc 5), true)), .p1 some, [(.var 4)], .push, []⟩,
  ⟨(some ((.loc 6), true)), .p2 (binA Try.prog .sub 3), [(.loc 0), (.const (.int .i64 (1)))], .push, []⟩,
  ⟨(some ((.loc 7), true)), .p2 (indexAddrA Try.prog 23), [(.loc 2), (.loc 0)], .push, []⟩,
  ⟨(some ((.loc 8), true)), .r1 (fun s a => loadV Try.prog s 3 a), [(.loc 0)], .push, []⟩,
  ⟨(some ((.loc 9), true)), .call 123, [(.loc 5), (.loc 0)], .push, []⟩,
  ⟨none, .p pick3, [(.loc 10), (.loc 0), (.const (.bool false))], (.set 6), []⟩]
noncomputable def c117o4 : List CItem := [
  ⟨none, .p2 (binA Try.prog .sub 3), [(.var 4), (.const (.int .i64 (1)))], .push, []⟩,
  ⟨none, .p2 (binA Try.prog .sub 3), [(.var 4), (.const (.int .i64 (1)))], .push, []⟩,
  ⟨none, .p2 (indexAddrA Try.prog 23), [(.var 0), (.loc 0)], .push, []⟩,
  ⟨none, .r1 (fun s a => loadV Try.prog s 3 a), [(.loc 0)], .push, []⟩,
  ⟨none, .p2 (indexAddrA Try.prog 23), [(.var 0), (.var 4)], .push, []⟩,
  ⟨none, .r1 (fun s a => loadV Try.prog s 3 a), [(.loc 0)], .push, []⟩,
  ⟨none, .p2 (indexAddrA Try.prog 23), [(.var 0), (.var 4)], .push, []⟩,
  ⟨none, .e (fun s => on2 (fun a x => withV (storeV Try.prog s 3 a x))), [(.loc 0), (.loc 3)], .push, []⟩,
  ⟨none, .p2 (indexAddrA Try.prog 23), [(.var 0), (.loc 7)], .push, []⟩,
  ⟨none, .e (fun s => on2 (fun a x => withV (storeV Try.prog s 3 a x))), [(.loc 0), (.loc 3)], .push, []⟩]
noncomputable def c117o5 : List CItem := [
  ⟨none, .p1 some, [(.var 4)], .push, []⟩,
  ⟨none, .p2 (binA Try.prog .sub 3), [(.loc 0), (.const (.int .i64 (1)))], .push, []⟩,
  ⟨none, .p1 some, [(.loc 0)], (.set 4), []⟩]
noncomputable def c117l6 : CCode := (.seq (.seq (.ops c117o3) (.cond (.var 6)
  .skip
  (.exit 2))) (.seq (.block 3 (.ops c117o4)) (.ops c117o5)))
noncomputable def c117o7 : List CItem := [
  ⟨none, .p1 some, [(.var 3)], .push, []⟩,
  ⟨none, .p2 (binA Try.prog .add 3), [(.loc 0), (.const (.int .i64 (1)))], .push, []⟩,
  ⟨none, .p1 some, [(.loc 0)], (.set 3), []⟩]
noncomputable def c117l8 : CCode := (.seq (.seq (.ops c117o1) (.cond (.var 5)
  .skip
  (.exit 0))) (.seq (.block 1 (.seq (.ops c117o2) (.block 2 (.loop c117l6)))) (.ops c117o7)))
noncomputable def c117 : CFunc := ⟨3, 7, (.seq (.ops c117o0) (.block 0 (.loop c117l8))), []⟩

/-! litmus/litmuslaw20.DrupTells -/
/- kept: [0, 1, 2, 6, 7, 8, 9, 10, 11, 12, 13, 14, 15, 16, 50, 54, 71, 79, 99, 123], params 3 -/
noncomputable def c4o0 : List CItem := [
  ⟨none, .p1 some, [(.const (.bool false))], (.set 3), []⟩]
noncomputable def c4o1 : List CItem := [
  ⟨none, .call 22, [(.var 0), (.const (.int .i64 (6)))], .push, []⟩,
  ⟨none, .call 23, [(.var 1)], .push, []⟩,
  ⟨none, .p1 some, [(.loc 1)], (.set 4), []⟩,
  ⟨none, .p1 some, [(.loc 0)], (.set 5), []⟩]
noncomputable def c4o2 : List CItem := [
  ⟨none, .call 24, [(.var 4), (.var 5)], .push, []⟩,
  ⟨none, .p1 (fun x => extractA x 0), [(.loc 0)], .push, []⟩,
  ⟨none, .p1 (fun x => extractA x 1), [(.loc 1)], .push, []⟩,
  ⟨none, .p1 some, [(.loc 1)], (.set 6), []⟩,
  ⟨none, .p1 some, [(.loc 0)], (.set 7), []⟩]
noncomputable def c4o3 : List CItem := [
  ⟨none, .call 25, [(.var 4), (.var 5)], .push, []⟩,
  ⟨none, .p1 (fun x => extractA x 0), [(.loc 0)], .push, []⟩,
  ⟨none, .p1 (fun x => extractA x 1), [(.loc 1)], .push, []⟩,
  ⟨none, .p1 some, [(.loc 1)], (.set 8), []⟩,
  ⟨none, .p1 some, [(.loc 0)], (.set 9), []⟩]
noncomputable def c4o4 : List CItem := [
  ⟨none, .p2 (binA Try.prog .neq 3), [(.var 6), (.var 8)], .push, []⟩,
  ⟨(some ((.loc 0), false)), .p1 some, [(.var 7)], .push, []⟩,
  ⟨(some ((.loc 1), false)), .p1 some, [(.var 9)], .push, []⟩,
  ⟨(some ((.loc 2), false)), .p2 (binA Try.prog .neq 4), [(.loc 1), (.loc 0)], .push, []⟩,
  ⟨none, .p pick3, [(.loc 3), (.const (.bool true)), (.loc 0)], .push, []⟩,
  ⟨(some ((.loc 0), false)), .p1 some, [(.var 4)], .push, []⟩,
  ⟨(some ((.loc 1), false)), .p1 some, [(.var 5)], .push, []⟩,
  ⟨(some ((.loc 2), false)), .call 27, [(.loc 1), (.loc 0)], .push, []⟩,
  ⟨(some ((.loc 3), false)), .p1 some, [(.var 4)], .push, []⟩,
  ⟨(some ((.loc 4), false)), .p1 some, [(.var 5)], .push, []⟩,
  ⟨(some ((.loc 5), false)), .call 28, [(.loc 1), (.loc 0)], .push, []⟩,
  ⟨(some ((.loc 6), false)), .call 26, [(.loc 3), (.loc 0)], .push, []⟩,
  ⟨(some ((.loc 7), false)), .p1 (unA Try.prog Go.UnOp.not), [(.loc 0)], .push, []⟩,
  ⟨none, .p pick3, [(.loc 8), (.const (.bool true)), (.loc 0)], (.set 14), []⟩]
noncomputable def c4o5 : List CItem := [
  ⟨none, .p1 some, [(.const (.bool false))], (.set 3), []⟩]
noncomputable def c4o6 : List CItem := [
  ⟨none, .p1 some, [(.const (.int .i64 (0)))], (.set 10), []⟩]
noncomputable def c4o7 : List CItem := [
  ⟨none, .r (fun s l => match l with | [x] => lenA Try.prog s 33 x | _ => none), [(.var 5)], .push, []⟩,
  ⟨none, .p2 (binA Try.prog .lss 3), [(.var 10), (.loc 0)], (.set 15), []⟩]
noncomputable def c4o8 : List CItem := [
  ⟨none, .p2 (indexAddrA Try.prog 33), [(.var 5), (.var 10)], .push, []⟩,
  ⟨none, .p1 (fun x => fieldAddrA Try.prog 27 x 1), [(.loc 0)], .push, []⟩,
  ⟨none, .r1 (fun s a => loadV Try.prog s 23 a), [(.loc 0)], .push, []⟩,
  ⟨none, .p2 (indexAddrA Try.prog 33), [(.var 5), (.var 10)], .push, []⟩,
  ⟨none, .p1 (fun x => fieldAddrA Try.prog 27 x 1), [(.loc 0)], .push, []⟩,
  ⟨none, .r1 (fun s a => loadV Try.prog s 23 a), [(.loc 0)], .push, []⟩,
  ⟨none, .call 17, [(.var 4), (.loc 3)], .push, [⟨none, .r1 (fun s a => loadV Try.prog s 23 a), [(.loc 2)], (.loc 1)⟩]⟩,
  ⟨none, .call 29, [(.var 4), (.loc 1)], .push, []⟩,
  ⟨none, .p2 (binA Try.prog .neq 4), [(.loc 1), (.loc 0)], (.set 16), []⟩]
noncomputable def c4o9 : List CItem := [
  ⟨none, .p1 some, [(.const (.bool false))], (.set 3), []⟩]
noncomputable def c4o10 : List CItem := [
  ⟨none, .p1 some, [(.var 10)], .push, []⟩,
  ⟨none, .p2 (binA Try.prog .add 3), [(.loc 0), (.const (.int .i64 (1)))], .push, []⟩,
  ⟨none, .p1 some, [(.loc 0)], (.set 10), []⟩]
noncomputable def c4l11 : CCode := (.seq (.seq (.ops c4o7) (.cond (.var 15)
  .skip
  (.exit 0))) (.seq (.block 1 (.seq (.ops c4o8) (.cond (.var 16)
  (.seq (.ops c4o9) .ret)
  .skip))) (.ops c4o10)))
noncomputable def c4o12 : List CItem := [
  ⟨none, .p1 some, [(.const (.slice none 0 (some 0)))], (.set 11), []⟩]
noncomputable def c4o13 : List CItem := [
  ⟨none, .p1 some, [(.const (.int .i64 (0)))], (.set 12), []⟩]
noncomputable def c4o14 : List CItem := [
  ⟨none, .r (fun s l => match l with | [x] => lenA Try.prog s 22 x | _ => none), [(.var 2)], .push, []⟩,
  ⟨none, .p2 (binA Try.prog .lss 3), [(.var 12), (.loc 0)], .push, []⟩,
  ⟨(some ((.loc 0), true)), .p1 some, [(.var 12)], .push, []⟩,
  ⟨(some ((.loc 1), true)), .p2 (binA Try.prog .lss 3), [(.loc 0), (.const (.int .i64 (10)))], .push, []⟩,
  ⟨none, .p pick3, [(.loc 2), (.loc 0), (.const (.bool false))], (.set 17), []⟩]
noncomputable def c4o15 : List CItem := [
  ⟨none, .p1 some, [(.var 11)], .push, []⟩,
  ⟨none, .p2 (indexAddrA Try.prog 22), [(.var 2), (.var 12)], .push, []⟩,
  ⟨none, .r1 (fun s a => loadV Try.prog s 23 a), [(.loc 0)], .push, []⟩,
  ⟨none, .p2 (indexAddrA Try.prog 22), [(.var 2), (.var 12)], .push, []⟩,
  ⟨none, .r1 (fun s a => loadV Try.prog s 23 a), [(.loc 0)], .push, []⟩,
  ⟨none, .r (fun s l => match l with | [x] => lenA Try.prog s 23 x | _ => none), [(.loc 0)], .push, []⟩,
  ⟨none, .p (fun l => match l with | v :: l => minMax false v l | [] => none), [(.loc 0), (.const (.int .i64 (6)))], .push, []⟩,
  ⟨none, .r (sliceOpnds Try.prog 23 false true false), [(.loc 4), (.loc 0)], .push, []⟩,
  ⟨none, .mk (fun l => (sliceRowA Try.prog 22 1 (zipIdx [0] l)).bind fun r => some (r, .slice 1)), [(.loc 0)], .push, []⟩,
  ⟨none, .e (fun s l => appendA Try.prog s [22, 22] l), [(.loc 8), (.loc 0)], .push, []⟩,
  ⟨none, .p1 some, [(.loc 0)], (.set 11), []⟩]
noncomputable def c4o16 : List CItem := [
  ⟨none, .p1 some, [(.var 12)], .push, []⟩,
  ⟨none, .p2 (binA Try.prog .add 3), [(.loc 0), (.const (.int .i64 (1)))], .push, []⟩,
  ⟨none, .p1 some, [(.loc 0)], (.set 12), []⟩]
noncomputable def c4l17 : CCode := (.seq (.seq (.ops c4o14) (.cond (.var 17)
  .skip
  (.exit 2))) (.seq (.block 3 (.ops c4o15)) (.ops c4o16)))
noncomputable def c4o18 : List CItem := [
  ⟨none, .p1 some, [(.const (.int .i64 (0)))], (.set 13), []⟩]
noncomputable def c4o19 : List CItem := [
  ⟨none, .r (fun s l => match l with | [x] => lenA Try.prog s 22 x | _ => none), [(.var 11)], .push, []⟩,
  ⟨none, .p2 (binA Try.prog .lss 3), [(.var 13), (.loc 0)], (.set 18), []⟩]
noncomputable def c4o20 : List CItem := [
  ⟨none, .r (sliceOpnds Try.prog 22 true false false), [(.var 11), (.var 13)], .push, []⟩,
  ⟨none, .p2 (indexAddrA Try.prog 22), [(.var 11), (.const (.int .i64 (0)))], .push, []⟩,
  ⟨none, .r1 (fun s a => loadV Try.prog s 23 a), [(.loc 0)], .push, []⟩,
  ⟨none, .r (sliceOpnds Try.prog 22 true false false), [(.var 11), (.var 13)], .push, []⟩,
  ⟨none, .p2 (indexAddrA Try.prog 22), [(.var 11), (.const (.int .i64 (0)))], .push, []⟩,
  ⟨none, .r1 (fun s a => loadV Try.prog s 23 a), [(.loc 0)], .push, []⟩,
  ⟨none, .call 17, [(.loc 5), (.loc 3)], .push, [⟨none, .r1 (fun s a => loadV Try.prog s 23 a), [(.loc 2)], (.loc 1)⟩, ⟨none, .r (sliceOpnds Try.prog 22 true false false), [(.var 11), (.var 13)], (.loc 3)⟩]⟩,
  ⟨none, .call 29, [(.loc 3), (.loc 1)], .push, []⟩,
  ⟨none, .p2 (binA Try.prog .neq 4), [(.loc 1), (.loc 0)], .push, []⟩,
  ⟨(some ((.loc 0), false)), .p1 some, [(.var 11)], .push, []⟩,
  ⟨(some ((.loc 1), false)), .p1 some, [(.var 11)], .push, []⟩,
  ⟨(some ((.loc 2), false)), .call 17, [(.loc 1), (.const (.slice none 0 (some 0)))], .push, []⟩,
  ⟨(some ((.loc 3), false)), .call 29, [(.loc 1), (.const (.slice none 0 (some 0)))], .push, []⟩,
  ⟨(some ((.loc 4), false)), .p2 (binA Try.prog .neq 4), [(.loc 1), (.loc 0)], .push, []⟩,
  ⟨none, .p pick3, [(.loc 5), (.const (.bool true)), (.loc 0)], (.set 19), []⟩]
noncomputable def c4o21 : List CItem := [
  ⟨none, .p1 some, [(.const (.bool false))], (.set 3), []⟩]
noncomputable def c4o22 : List CItem := [
  ⟨none, .p1 some, [(.var 13)], .push, []⟩,
  ⟨none, .p2 (binA Try.prog .add 3), [(.loc 0), (.const (.int .i64 (1)))], .push, []⟩,
  ⟨none, .p1 some, [(.loc 0)], (.set 13), []⟩]
noncomputable def c4l23 : CCode := (.seq (.seq (.ops c4o19) (.cond (.var 18)
  .skip
  (.exit 4))) (.seq (.block 5 (.seq (.ops c4o20) (.cond (.var 19)
  (.seq (.ops c4o21) .ret)
  .skip))) (.ops c4o22)))
noncomputable def c4o24 : List CItem := [
  ⟨none, .call 21, [], .push, []⟩,
  ⟨none, .p1 some, [(.loc 0)], (.set 3), []⟩]
noncomputable def c4 : CFunc := ⟨3, 20, (.seq (.ops c4o0) (.seq (.ops c4o1) (.seq (.ops c4o2) (.seq (.ops c4o3) (.seq (.seq (.ops c4o4) (.cond (.var 14)
  (.seq (.ops c4o5) .ret)
  .skip)) (.seq (.seq (.ops c4o6) (.block 0 (.loop c4l11))) (.seq (.ops c4o12) (.seq (.seq (.ops c4o13) (.block 2 (.loop c4l17))) (.seq (.seq (.ops c4o18) (.block 4 (.loop c4l23))) (.seq (.ops c4o24) .ret)))))))))), [((.var 3), none)]⟩

/-! litmus/litmuslaw20.DrupSound -/
/- kept: [0, 1, 4, 5, 6, 7, 8, 9, 10, 12, 54, 62, 66, 93], params 2 -/
noncomputable def c5o0 : List CItem := [
  ⟨none, .p1 some, [(.const (.bool false))], (.set 2), []⟩]
noncomputable def c5o1 : List CItem := [
  ⟨none, .call 21, [], .push, []⟩,
  ⟨none, .p1 (unA Try.prog Go.UnOp.not), [(.loc 0)], (.set 9), []⟩]
noncomputable def c5o2 : List CItem := [
  ⟨none, .p1 some, [(.const (.bool false))], (.set 2), []⟩]
noncomputable def c5o3 : List CItem := [
  ⟨none, .call 22, [(.var 0), (.const (.int .i64 (6)))], .push, []⟩,
  ⟨none, .call 23, [(.var 1)], .push, []⟩,
  ⟨none, .p1 some, [(.loc 1)], (.set 3), []⟩,
  ⟨none, .p1 some, [(.loc 0)], (.set 4), []⟩]
noncomputable def c5o4 : List CItem := [
  ⟨none, .call 24, [(.var 3), (.var 4)], .push, []⟩,
  ⟨none, .p1 (fun x => extractA x 0), [(.loc 0)], .push, []⟩,
  ⟨none, .p1 (fun x => extractA x 1), [(.loc 1)], .push, []⟩,
  ⟨none, .p1 some, [(.loc 1)], (.set 5), []⟩,
  ⟨none, .p1 some, [(.loc 0)], (.set 6), []⟩]
noncomputable def c5o5 : List CItem := [
  ⟨none, .call 30, [(.var 3)], .push, []⟩,
  ⟨none, .p1 some, [(.loc 0)], (.set 7), []⟩]
noncomputable def c5o6 : List CItem := [
  ⟨none, .p2 (binA Try.prog .lss 3), [(.var 5), (.const (.int .i64 (0)))], .push, []⟩,
  ⟨(some ((.loc 0), false)), .p1 some, [(.var 5)], .push, []⟩,
  ⟨(some ((.loc 1), false)), .p1 some, [(.var 4)], .push, []⟩,
  ⟨(some ((.loc 2), false)), .r (fun s l => match l with | [x] => lenA Try.prog s 33 x | _ => none), [(.loc 0)], .push, []⟩,
  ⟨(some ((.loc 3), false)), .p2 (binA Try.prog .gtr 3), [(.loc 2), (.loc 0)], .push, []⟩,
  ⟨none, .p pick3, [(.loc 4), (.const (.bool true)), (.loc 0)], .push, []⟩,
  ⟨(some ((.loc 0), false)), .p1 some, [(.var 6)], .push, []⟩,
  ⟨(some ((.loc 1), false)), .p1 some, [(.loc 0)], .push, []⟩,
  ⟨(some ((.loc 0), true)), .p1 some, [(.var 7)], .push, []⟩,
  ⟨(some ((.loc 1), true)), .p2 (binA Try.prog .gtr 3), [(.loc 0), (.const (.int .i64 (0)))], .push, []⟩,
  ⟨(some ((.loc 2), true)), .p1 some, [(.loc 0)], .push, []⟩,
  ⟨(some ((.loc 0), false)), .p1 some, [(.var 5)], .push, []⟩,
  ⟨(some ((.loc 1), false)), .p1 some, [(.var 4)], .push, []⟩,
  ⟨(some ((.loc 2), false)), .r (fun s l => match l with | [x] => lenA Try.prog s 33 x | _ => none), [(.loc 0)], .push, []⟩,
  ⟨(some ((.loc 3), false)), .p2 (binA Try.prog .eql 3), [(.loc 2), (.loc 0)], .push, []⟩,
  ⟨(some ((.loc 7), true)), .p pick3, [(.loc 4), (.const (.bool true)), (.loc 0)], .push, []⟩,
  ⟨(some ((.loc 8), true)), .p1 some, [(.loc 0)], .push, []⟩,
  ⟨(some ((.loc 0), false)), .p1 some, [(.var 4)], .push, []⟩,
  ⟨(some ((.loc 1), false)), .p1 some, [(.var 5)], .push, []⟩,
  ⟨(some ((.loc 2), false)), .p2 (indexAddrA Try.prog 33), [(.loc 1), (.loc 0)], .push, []⟩,
  ⟨(some ((.loc 3), false)), .p1 (fun x => fieldAddrA Try.prog 27 x 1), [(.loc 0)], .push, []⟩,
  ⟨(some ((.loc 4), false)), .r1 (fun s a => loadV Try.prog s 23 a), [(.loc 0)], .push, []⟩,
  ⟨(some ((.loc 5), false)), .r (fun s l => match l with | [x] => lenA Try.prog s 23 x | _ => none), [(.loc 0)], .push, []⟩,
  ⟨(some ((.loc 6), false)), .p2 (binA Try.prog .gtr 3), [(.loc 0), (.const (.int .i64 (0)))], .push, []⟩,
  ⟨(some ((.loc 16), true)), .p pick3, [(.loc 7), (.const (.bool true)), (.loc 0)], .push, []⟩,
  ⟨(some ((.loc 19), false)), .p pick3, [(.loc 17), (.loc 0), (.const (.bool false))], .push, []⟩,
  ⟨none, .p pick3, [(.loc 20), (.const (.bool true)), (.loc 0)], (.set 10), []⟩]
noncomputable def c5o7 : List CItem := [
  ⟨none, .p1 some, [(.const (.bool false))], (.set 2), []⟩]
noncomputable def c5o8 : List CItem := [
  ⟨none, .r (sliceOpnds Try.prog 33 false true false), [(.var 4), (.var 5)], .push, []⟩,
  ⟨none, .call 27, [(.var 3), (.loc 0)], .push, []⟩,
  ⟨none, .call 30, [(.loc 0)], .push, []⟩,
  ⟨none, .p2 (binA Try.prog .neq 3), [(.loc 0), (.var 7)], (.set 11), []⟩]
noncomputable def c5o9 : List CItem := [
  ⟨none, .p1 some, [(.const (.bool false))], (.set 2), []⟩]
noncomputable def c5o10 : List CItem := [
  ⟨none, .p1 some, [(.const (.int .i64 (0)))], (.set 8), []⟩]
noncomputable def c5o11 : List CItem := [
  ⟨none, .r (fun s l => match l with | [x] => lenA Try.prog s 33 x | _ => none), [(.var 4)], .push, []⟩,
  ⟨none, .p2 (binA Try.prog .lss 3), [(.var 8), (.loc 0)], (.set 12), []⟩]
noncomputable def c5o12 : List CItem := [
  ⟨none, .p2 (indexAddrA Try.prog 33), [(.var 4), (.var 8)], .push, []⟩,
  ⟨none, .p1 (fun x => fieldAddrA Try.prog 27 x 1), [(.loc 0)], .push, []⟩,
  ⟨none, .r1 (fun s a => loadV Try.prog s 23 a), [(.loc 0)], .push, []⟩,
  ⟨none, .call 17, [(.var 3), (.loc 0)], .push, []⟩,
  ⟨(some ((.loc 0), true)), .p1 some, [(.var 3)], .push, []⟩,
  ⟨(some ((.loc 1), true)), .p1 some, [(.var 3)], .push, []⟩,
  ⟨(some ((.loc 2), true)), .r (fun s l => match l with | [x] => lenA Try.prog s 22 x | _ => none), [(.loc 0)], .push, []⟩,
  ⟨(some ((.loc 3), true)), .p1 some, [(.var 3)], .push, []⟩,
  ⟨(some ((.loc 4), true)), .r (fun s l => match l with | [x] => lenA Try.prog s 22 x | _ => none), [(.loc 0)], .push, []⟩,
  ⟨(some ((.loc 5), true)), .r (sliceOpnds Try.prog 22 false true true), [(.loc 4), (.loc 2), (.loc 0)], .push, []⟩,
  ⟨(some ((.loc 6), true)), .p1 some, [(.var 4)], .push, []⟩,
  ⟨(some ((.loc 7), true)), .p1 some, [(.var 8)], .push, []⟩,
  ⟨(some ((.loc 8), true)), .p2 (indexAddrA Try.prog 33), [(.loc 1), (.loc 0)], .push, []⟩,
  ⟨(some ((.loc 9), true)), .p1 (fun x => fieldAddrA Try.prog 27 x 1), [(.loc 0)], .push, []⟩,
  ⟨(some ((.loc 10), true)), .r1 (fun s a => loadV Try.prog s 23 a), [(.loc 0)], .push, []⟩,
  ⟨(some ((.loc 11), true)), .mk (fun l => (sliceRowA Try.prog 22 1 (zipIdx [0] l)).bind fun r => some (r, .slice 1)), [(.loc 0)], .push, []⟩,
  ⟨(some ((.loc 12), true)), .p1 some, [(.var 7)], .push, []⟩,
  ⟨(some ((.loc 13), true)), .e (fun s l => appendA Try.prog s [22, 22] l), [(.loc 7), (.loc 1)], .push, []⟩,
  ⟨(some ((.loc 14), true)), .call 30, [(.loc 0)], .push, []⟩,
  ⟨(some ((.loc 15), true)), .p2 (binA Try.prog .neq 3), [(.loc 0), (.loc 2)], .push, []⟩,
  ⟨none, .p pick3, [(.loc 16), (.loc 0), (.const (.bool false))], (.set 13), []⟩]
noncomputable def c5o13 : List CItem := [
  ⟨none, .p1 some, [(.const (.bool false))], (.set 2), []⟩]
noncomputable def c5o14 : List CItem := [
  ⟨none, .p1 some, [(.var 8)], .push, []⟩,
  ⟨none, .p2 (binA Try.prog .add 3), [(.loc 0), (.const (.int .i64 (1)))], .push, []⟩,
  ⟨none, .p1 some, [(.loc 0)], (.set 8), []⟩]
noncomputable def c5l15 : CCode := (.seq (.seq (.ops c5o11) (.cond (.var 12)
  .skip
  (.exit 0))) (.seq (.block 1 (.seq (.ops c5o12) (.cond (.var 13)
  (.seq (.ops c5o13) .ret)
  .skip))) (.ops c5o14)))
noncomputable def c5o16 : List CItem := [
  ⟨none, .p1 some, [(.const (.bool true))], (.set 2), []⟩]
noncomputable def c5 : CFunc := ⟨2, 14, (.seq (.ops c5o0) (.seq (.seq (.ops c5o1) (.cond (.var 9)
  (.seq (.ops c5o2) .ret)
  .skip)) (.seq (.ops c5o3) (.seq (.ops c5o4) (.seq (.ops c5o5) (.seq (.seq (.ops c5o6) (.cond (.var 10)
  (.seq (.ops c5o7) .ret)
  .skip)) (.seq (.seq (.ops c5o8) (.cond (.var 11)
  (.seq (.ops c5o9) .ret)
  .skip)) (.seq (.seq (.ops c5o10) (.block 0 (.loop c5l15))) (.seq (.ops c5o16) .ret))))))))), [((.var 2), none)]⟩

/-! litmus/litmuslaw20.DrupShares -/
/- kept: [0, 1, 4, 5, 6, 7, 8, 9, 10, 11, 12, 14, 32, 41, 53, 69], params 2 -/
noncomputable def c6o0 : List CItem := [
  ⟨none, .p1 some, [(.const (.bool false))], (.set 2), []⟩]
noncomputable def c6o1 : List CItem := [
  ⟨none, .call 21, [], .push, []⟩,
  ⟨none, .p1 (unA Try.prog Go.UnOp.not), [(.loc 0)], (.set 11), []⟩]
noncomputable def c6o2 : List CItem := [
  ⟨none, .p1 some, [(.const (.bool false))], (.set 2), []⟩]
noncomputable def c6o3 : List CItem := [
  ⟨none, .call 22, [(.var 0), (.const (.int .i64 (6)))], .push, []⟩,
  ⟨none, .call 23, [(.var 1)], .push, []⟩,
  ⟨none, .p1 some, [(.loc 1)], (.set 3), []⟩,
  ⟨none, .p1 some, [(.loc 0)], (.set 4), []⟩]
noncomputable def c6o4 : List CItem := [
  ⟨none, .call 22, [(.var 0), (.const (.int .i64 (6)))], .push, []⟩,
  ⟨none, .call 23, [(.var 1)], .push, []⟩,
  ⟨none, .p1 some, [(.loc 1)], (.set 5), []⟩,
  ⟨none, .p1 some, [(.loc 0)], (.set 6), []⟩]
noncomputable def c6o5 : List CItem := [
  ⟨none, .call 27, [(.var 3), (.var 4)], .push, []⟩,
  ⟨none, .p1 some, [(.loc 0)], (.set 7), []⟩]
noncomputable def c6o6 : List CItem := [
  ⟨none, .call 24, [(.var 3), (.var 4)], .push, []⟩]
noncomputable def c6o7 : List CItem := [
  ⟨none, .p1 some, [(.const (.int .i64 (0)))], (.set 8), []⟩]
noncomputable def c6o8 : List CItem := [
  ⟨none, .r (fun s l => match l with | [x] => lenA Try.prog s 22 x | _ => none), [(.var 7)], .push, []⟩,
  ⟨none, .p2 (binA Try.prog .lss 3), [(.var 8), (.loc 0)], (.set 12), []⟩]
noncomputable def c6o9 : List CItem := [
  ⟨none, .p1 some, [(.const (.int .i64 (0)))], (.set 9), []⟩]
noncomputable def c6o10 : List CItem := [
  ⟨none, .p2 (indexAddrA Try.prog 22), [(.var 7), (.var 8)], .push, []⟩,
  ⟨none, .r1 (fun s a => loadV Try.prog s 23 a), [(.loc 0)], .push, []⟩,
  ⟨none, .r (fun s l => match l with | [x] => lenA Try.prog s 23 x | _ => none), [(.loc 0)], .push, []⟩,
  ⟨none, .p2 (binA Try.prog .lss 3), [(.var 9), (.loc 0)], (.set 13), []⟩]
noncomputable def c6o11 : List CItem := [
  ⟨none, .p2 (indexAddrA Try.prog 22), [(.var 7), (.var 8)], .push, []⟩,
  ⟨none, .r1 (fun s a => loadV Try.prog s 23 a), [(.loc 0)], .push, []⟩,
  ⟨none, .p2 (indexAddrA Try.prog 23), [(.loc 0), (.var 9)], .push, []⟩,
  ⟨none, .e (fun s => on2 (fun a x => withV (storeV Try.prog s 3 a x))), [(.loc 0), (.const (.int .i64 (99)))], .push, []⟩]
noncomputable def c6o12 : List CItem := [
  ⟨none, .p1 some, [(.var 9)], .push, []⟩,
  ⟨none, .p2 (binA Try.prog .add 3), [(.loc 0), (.const (.int .i64 (1)))], .push, []⟩,
  ⟨none, .p1 some, [(.loc 0)], (.set 9), []⟩]
noncomputable def c6l13 : CCode := (.seq (.seq (.ops c6o10) (.cond (.var 13)
  .skip
  (.exit 2))) (.seq (.block 3 (.ops c6o11)) (.ops c6o12)))
noncomputable def c6o14 : List CItem := [
  ⟨none, .p1 some, [(.var 8)], .push, []⟩,
  ⟨none, .p2 (binA Try.prog .add 3), [(.loc 0), (.const (.int .i64 (1)))], .push, []⟩,
  ⟨none, .p1 some, [(.loc 0)], (.set 8), []⟩]
noncomputable def c6l15 : CCode := (.seq (.seq (.ops c6o8) (.cond (.var 12)
  .skip
  (.exit 0))) (.seq (.block 1 (.seq (.ops c6o9) (.block 2 (.loop c6l13)))) (.ops c6o14)))
noncomputable def c6o16 : List CItem := [
  ⟨none, .p1 some, [(.const (.int .i64 (0)))], (.set 10), []⟩]
noncomputable def c6o17 : List CItem := [
  ⟨none, .r (fun s l => match l with | [x] => lenA Try.prog s 33 x | _ => none), [(.var 4)], .push, []⟩,
  ⟨none, .p2 (binA Try.prog .lss 3), [(.var 10), (.loc 0)], (.set 14), []⟩]
noncomputable def c6o18 : List CItem := [
  ⟨none, .p2 (indexAddrA Try.prog 33), [(.var 4), (.var 10)], .push, []⟩,
  ⟨none, .p1 (fun x => fieldAddrA Try.prog 27 x 1), [(.loc 0)], .push, []⟩,
  ⟨none, .r1 (fun s a => loadV Try.prog s 23 a), [(.loc 0)], .push, []⟩,
  ⟨none, .mk (fun l => (sliceRowA Try.prog 22 1 (zipIdx [0] l)).bind fun r => some (r, .slice 1)), [(.loc 0)], .push, []⟩,
  ⟨none, .p2 (indexAddrA Try.prog 33), [(.var 6), (.var 10)], .push, []⟩,
  ⟨none, .p1 (fun x => fieldAddrA Try.prog 27 x 1), [(.loc 0)], .push, []⟩,
  ⟨none, .r1 (fun s a => loadV Try.prog s 23 a), [(.loc 0)], .push, []⟩,
  ⟨none, .mk (fun l => (sliceRowA Try.prog 22 1 (zipIdx [0] l)).bind fun r => some (r, .slice 1)), [(.loc 0)], .push, []⟩,
  ⟨none, .call 26, [(.loc 4), (.loc 0)], .push, []⟩,
  ⟨none, .p1 (unA Try.prog Go.UnOp.not), [(.loc 0)], (.set 15), []⟩]
noncomputable def c6o19 : List CItem := [
  ⟨none, .p1 some, [(.const (.bool false))], (.set 2), []⟩]
noncomputable def c6o20 : List CItem := [
  ⟨none, .p1 some, [(.var 10)], .push, []⟩,
  ⟨none, .p2 (binA Try.prog .add 3), [(.loc 0), (.const (.int .i64 (1)))], .push, []⟩,
  ⟨none, .p1 some, [(.loc 0)], (.set 10), []⟩]
noncomputable def c6l21 : CCode := (.seq (.seq (.ops c6o17) (.cond (.var 14)
  .skip
  (.exit 4))) (.seq (.block 5 (.seq (.ops c6o18) (.cond (.var 15)
  (.seq (.ops c6o19) .ret)
  .skip))) (.ops c6o20)))
noncomputable def c6o22 : List CItem := [
  ⟨none, .call 26, [(.var 3), (.var 5)], .push, []⟩,
  ⟨none, .p1 some, [(.loc 0)], (.set 2), []⟩]
noncomputable def c6 : CFunc := ⟨2, 16, (.seq (.ops c6o0) (.seq (.seq (.ops c6o1) (.cond (.var 11)
  (.seq (.ops c6o2) .ret)
  .skip)) (.seq (.ops c6o3) (.seq (.ops c6o4) (.seq (.ops c6o5) (.seq (.ops c6o6) (.seq (.seq (.ops c6o7) (.block 0 (.loop c6l15))) (.seq (.seq (.ops c6o16) (.block 4 (.loop c6l21))) (.seq (.ops c6o22) .ret))))))))), [((.var 2), none)]⟩

theorem comp48 : compFunc Try.prog 48 = some c48 := by kernel_rfl
theorem comp49 : compFunc Try.prog 49 = some c49 := by kernel_rfl
theorem comp50 : compFunc Try.prog 50 = some c50 := by kernel_rfl
theorem comp52 : compFunc Try.prog 52 = some c52 := by kernel_rfl
theorem comp51 : compFunc Try.prog 51 = some c51 := by kernel_rfl
theorem comp17 : compFunc Try.prog 17 = some c17 := by kernel_rfl
theorem comp61 : compFunc Try.prog 61 = some c61 := by kernel_rfl
theorem comp59 : compFunc Try.prog 59 = some c59 := by kernel_rfl
theorem comp29 : compFunc Try.prog 29 = some c29 := by kernel_rfl
theorem comp89 : compFunc Try.prog 89 = some c89 := by kernel_rfl
theorem comp57 : compFunc Try.prog 57 = some c57 := by kernel_rfl
theorem comp58 : compFunc Try.prog 58 = some c58 := by kernel_rfl
theorem comp25 : compFunc Try.prog 25 = some c25 := by kernel_rfl
theorem comp28 : compFunc Try.prog 28 = some c28 := by kernel_rfl
theorem comp26 : compFunc Try.prog 26 = some c26 := by kernel_rfl
theorem comp22 : compFunc Try.prog 22 = some c22 := by kernel_rfl
theorem comp23 : compFunc Try.prog 23 = some c23 := by kernel_rfl
theorem comp62 : compFunc Try.prog 62 = some c62 := by kernel_rfl
theorem comp30 : compFunc Try.prog 30 = some c30 := by kernel_rfl
theorem comp56 : compFunc Try.prog 56 = some c56 := by kernel_rfl
theorem comp86 : compFunc Try.prog 86 = some c86 := by kernel_rfl
theorem comp54 : compFunc Try.prog 54 = some c54 := by kernel_rfl
theorem comp82 : compFunc Try.prog 82 = some c82 := by kernel_rfl
theorem comp55 : compFunc Try.prog 55 = some c55 := by kernel_rfl
theorem comp60 : compFunc Try.prog 60 = some c60 := by kernel_rfl
theorem comp107 : compFunc Try.prog 107 = some c107 := by kernel_rfl
theorem comp85 : compFunc Try.prog 85 = some c85 := by kernel_rfl
theorem comp94 : compFunc Try.prog 94 = some c94 := by kernel_rfl
theorem comp87 : compFunc Try.prog 87 = some c87 := by kernel_rfl
theorem comp88 : compFunc Try.prog 88 = some c88 := by kernel_rfl
theorem comp105 : compFunc Try.prog 105 = some c105 := by kernel_rfl
theorem comp106 : compFunc Try.prog 106 = some c106 := by kernel_rfl
theorem comp84 : compFunc Try.prog 84 = some c84 := by kernel_rfl
theorem comp104 : compFunc Try.prog 104 = some c104 := by kernel_rfl
theorem comp116 : compFunc Try.prog 116 = some c116 := by kernel_rfl
theorem comp108 : compFunc Try.prog 108 = some c108 := by kernel_rfl
theorem comp117 : compFunc Try.prog 117 = some c117 := by kernel_rfl
theorem comp4 : compFunc Try.prog 4 = some c4 := by kernel_rfl
theorem comp5 : compFunc Try.prog 5 = some c5 := by kernel_rfl
theorem comp6 : compFunc Try.prog 6 = some c6 := by kernel_rfl
end Go.Proofs.Ytilhhmkdcoajnaa.Am

