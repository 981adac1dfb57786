/- A call that the abstract machine runs to its end from nothing, in the model; conditions: the drawn order is followed; no function counts goroutines. -/
import Derived.ChangeSame
import Derived.Test.YtilhhmkdcoajnaaAmSim3
set_option linter.unusedVariables false
set_option linter.unusedSimpArgs false
namespace Go.Proofs.Ytilhhmkdcoajnaa.Am
open Go
noncomputable section
def ij:ak:=fun _ _ _=>none
theorem Zu(P:Program):HY P ij:=fun _ _ _ _ _ _ _ _ hc=>by cases hc
def env(P:Program):Env:=⟨P,ij⟩
def Lc (P : Program) : Bool := P.funcs.all fun fn => !(fn.name == "runtime.NumGoroutine")
theorem Hn{P:Program}(h:Lc P=true):Ef P:=by
  intro f fn hf
  unfold Lc at h
  rw[Array.all_eq_true_iff_forall_mem]at h
  have:=h fn (Array.mem_of_getElem? hf)
  simpa using this
def aD:Rho:=fun _=>none
def st0:ASt:=⟨0,.leaf⟩
theorem np(P:Program)(w:World):Inv P aD st0 w:=⟨fun i o rb _ hr=>(by cases hr),fun i rb hr=>(by cases hr),fun i j oi oj ri rj _ _ _ hr=>(by cases hr)⟩
theorem ZQ:Bb aD st0:=fun i _=>⟨rfl,rfl⟩
structure L9(W W':World):Prop where
  heap:∀b,b<W.heap.size→W'.heap[b]? = W.heap[b]?
  os:W'.os=W.os
  output:W'.output=W.output
  size:W.heap.size≤W'.heap.size
theorem Ty{ρ ρ':Rho}{s s':ASt}{w w':World}(h:Fr ρ s w ρ' s' w')(hn:∀b,¬ GQ ρ s b):L9 w w':=
  ⟨fun b hb=>h.keep b hb (hn b),h.os,h.output,h.size⟩
theorem U5(b:Nat):¬ GQ aD st0 b:=fun⟨i,o,rb,hi,_⟩=>by cases hi
theorem L9.keptBut{W W':World}(h:L9 W W')(may:MemPlace→Prop):W.keptBut W' may:=by
  refine⟨h.os,h.output,fun i hi=>?_⟩
  rw[h.heap i hi]
  have:W.heap[i]? = some W.heap[i]:=Array.getElem?_eq_getElem hi
  rw[this]
  cases W.heap[i]with
  | cells c t fr=>exact⟨rfl,rfl,rfl,fun _ _=>rfl⟩
  | map es clock=>exact .inr ⟨rfl,rfl⟩
  | _=>rfl
theorem L9.frozen{W W':World}(h:L9 W W')(a:Addr)(ha:a.block<W.heap.size):W'.frozen? a=W.frozen? a:=by simp[World.frozen?,h.heap _ ha]
def Tw:Option (AV×ASt)→Bool
  | some (.bool b,_)=>b
  | _=>false
section
open Go.ChangeShapes Go.WideShapes
theorem post_of_kept{H:Type}{enc:TypeId×Value→H}{P:Program}{f:Func}{s:ChangeSpec}{apart fresh handsOn again:Bool}{W W':World}{args:Array Value}{v:Value}{ds gs:List (DataW H)}{before pa pv:List MemPlace}
    (hW:DataW.Whole enc P f.params.toList s.vars apart W args.toList ds gs before)
    (hres:∀ (b:Nat) (sp:Nat→Bool) (hd:Bool),DataW.TrodAll enc P W' b sp hd f.resultTypes.toList (v.resultList f.resultTypes.size) (s.fn H (ds++gs)).results [])
    (hargs:∀sp:Nat→Bool,(∀p∈before,sp p.block=true)→DataW.TrodAll enc P W' 0 sp true f.params.toList args.toList (s.fn H (ds++gs)).args pa)
    (hvars:∀sp:Nat→Bool,(∀p∈before,sp p.block=true)→DataW.TrodVars enc P W' sp s.vars (s.fn H (ds++gs)).vars pv)
    (hps:before=pa++pv) (hk:L9 W W')
    (hok:∀ (j:Nat) (t:TypeId) (r:Value),f.resultTypes[j]? = some t→(v.resultList f.resultTypes.size)[j]? = some r→Value.okWide P W' .any 0 t r):
    s.post enc P f apart fresh handsOn again W args v W':=by
  have hold:∀p∈before,(fun b=>decide (b<W.heap.size)) p.block=true:=fun p hp=>by simpa using hW.lt p hp
  refine⟨ds,gs,before,[],pa,pv,hW,hres _ _ _,hargs _ hold,hvars _ hold,World.keptBut_mono (fun p hp=>⟨hp,?_⟩) (hk.keptBut _),fun _=>?_⟩
  · rw[hps,pg]at hp
    exact Or.inr hp
  · have hlt:=hW.lt
    obtain⟨_,_,_,_,_,hz,hn⟩:=hW
    refine⟨hok,_,_,([]++pa)++pv,⟨[]++pa,pv,trodAll_append (hargs _ (fun _ _=>rfl)) (hres _ _ _),hvars _ (fun _ _=>rfl),rfl,?_,?_⟩,?_⟩
    · intro b off hp
      have hp':MemPlace.cell b off∈before:=by rw[hps];simpa using hp
      rw[hk.frozen _ (hlt _ hp')]
      exact hz b off hp'
    · intro ha
      have:=hn ha
      rw[hps]at this
      simpa using this
    · intro p hp _
      rw[hps]
      simpa using hp
end
end
end Go.Proofs.Ytilhhmkdcoajnaa.Am
