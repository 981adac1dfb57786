/- 'SatTraces': the law returns true, whatever its arguments, and these read as before: the abstract machine runs it from what they read as, by contracts of the functions that it calls. Conditions: none. -/
import Derived.Test.YtilhhmkdcoajnaaRows
import Derived.Test.YtilhhmkdcoajnaaAmM12
import Derived.WalkKit
import Derived.ProofKit
import Derived.OpenShut
namespace Go.Proofs.Ytilhhmkdcoajnaa.satTraces
open Go.ChangeShapes Go.WideShapes Go.ChangeAt Go.RowKit
set_option linter.unusedVariables false

theorem own : ownKnob Try.prog.godebug = none := by kernel_rfl
theorem laid : laidOutB Try.prog = true := by kernel_rfl

set_option maxRecDepth 100000 in
theorem lifted (os : Os) (started : os.Started) (H : Type) (enc : TypeId × Value → H) :
    ReturnsInHanded {} Try.checked os 11 .any (Rows.satTracesSpec.pre6 enc Try.prog Try.f11 Rows.satTracesRow.domain false) (Rows.satTracesSpec.post enc Try.prog Try.f11 false true false false) := by
  refine returnsInHanded_of_change (C := Try.checked) own started (by kernel_rfl) Try.func11
    (ChangeSpec.witness6 (enc := enc) (C := Try.checked) false ⟨#[], #[.int .u8 0, .slice none 0 0, .slice none 0 0], []⟩ 8 (by kernel_rfl) (by kernel_rfl) (by kernel_rfl) (by kernel_rfl)) ?_
  intro W base args ds gs before hval0 hW hcnd _
  have hval : ∀ (j : Nat) t v, Try.f11.params[j]? = some t → args[j]? = some v → Value.okWide Try.prog W .any base t v := hval0
  have hW' := hW
  obtain ⟨p, q, hA0, hV, rfl, hfz, hnd⟩ := hW
  have hA : DataW.TrodAll enc Try.prog W 0 (fun _ => true) true Try.f11.params.toList args.toList ds p := hA0
  rw [Try.params11] at hA hval
  obtain ⟨v0, v1, v2, d0, d1, d2, p0, p1, p2, rfl, rfl, rfl, t0, t1, t2⟩ := trodAll_three hA
  obtain ⟨rfl, rfl⟩ := trodVars_none hV
  have o0 := hval 0 _ _ rfl rfl
  have o1 := hval 1 _ _ rfl rfl
  have o2 := hval 2 _ _ rfl rfl
  clear hA0 hval0
  simp only [List.append_nil] at hW'
  have hlt := hW'.lt
  have m0 : ∀ x ∈ p0, x ∈ p0 ++ p1 ++ p2 := fun x hx => List.mem_append_left _ (List.mem_append_left _ hx)
  have m1 : ∀ x ∈ p1, x ∈ p0 ++ p1 ++ p2 := fun x hx => List.mem_append_left _ (List.mem_append_right _ hx)
  have m2 : ∀ x ∈ p2, x ∈ p0 ++ p1 ++ p2 := fun x hx => List.mem_append_right _ hx
  refine (Am.traces19_true o0 o1 o2 t0 t1 t2).mono fun e W' ⟨he, hg⟩ => ?_
  subst he
  have hpr : Try.f11.params.toList = _ := congrArg Array.toList Try.params11
  exact ⟨_, rfl, Am.post_of_kept (pa := p0 ++ (p1 ++ p2)) (pv := []) hW' (fun _ _ _ => (trodAll_cons_mk (shut_bool Try.underlying4 _) trodAll_mk0))
    (fun sp hs => by
      rw [hpr]
      exact trodAll_mk3 (Am.reads_again laid (by kernel_rfl) (of_decide_eq_true (by kernel_rfl)) t0 hg (fun x hx => hlt x (m0 x hx)) (fun x hx => hs x (m0 x hx))) (Am.reads_again laid (by kernel_rfl) (of_decide_eq_true (by kernel_rfl)) t1 hg (fun x hx => hlt x (m1 x hx)) (fun x hx => hs x (m1 x hx))) (Am.reads_again laid (by kernel_rfl) (of_decide_eq_true (by kernel_rfl)) t2 hg (fun x hx => hlt x (m2 x hx)) (fun x hx => hs x (m2 x hx))))
    (fun _ _ => rfl) (by simp [List.append_assoc]) hg (ok_one (by kernel_rfl) rfl (okWide_bool_mk Try.underlying4 _))⟩

theorem over : Rows.satTracesRow.holds Try.pinned (OpenSpec.ofChange Rows.satTracesSpec) :=
  OpenClaim.holds_of_wide 11 Try.f11 rfl rfl rfl rfl rfl rfl rfl ⟨rfl, rfl, rfl, rfl, rfl⟩ rfl rfl rfl rfl rfl (by kernel_rfl) Try.func11 (by kernel_rfl)
    (of_decide_eq_true (by kernel_rfl)) (by unfold Func.isWrapper; first | (rw [if_pos (by decide +kernel)]; kernel_rfl) | (rw [if_neg (by decide +kernel)]; exact ⟨rfl, rfl⟩))
    (fun os started H enc _ => lifted os started H enc)

theorem proved : Rows.SatTracesSaid := over
end Go.Proofs.Ytilhhmkdcoajnaa.satTraces
