/- The library's contracts of slices.Sorted of a map's keys, of slices.Sort at this program (printed by the kit's tool); conditions: none. -/
import Derived.Test.YtoaaclpjkelofaaGreatDoorProg
import Derived.Shelf.SlIterI.Nil
import Derived.Shelf.SlIterI.Sorted
import Derived.Shelf.SortM.Plain
import Derived.Shelf.SortM.SortNone
import Derived.Ground.GgzProg
import Derived.Ground.SlgmProg
import Derived.Shelf.SlMaps.Copy
import Derived.Ground.SlmpProg
import Derived.ChangeSame
import Derived.Test.YtoaaclpjkelofaaGreatDoorAmM04
import Derived.Test.YtoaaclpjkelofaaGreatDoorAmM01
namespace Go.Proofs.YtoaaclpjkelofaaGreatDoor.Am
open Go Go.Proofs Go.Shelf
noncomputable section
def GN:Go.Shelf.Ren:=⟨fun | 7=>195 | 10=>217 | n=>n,fun | 23=>169 | 26=>3 | 3=>81 | 28=>66 | 0=>0 | 27=>65 | 33=>128 | 4=>4 | n=>n,fun | n=>n⟩
theorem Sy:Go.Proofs.SlLaysZI.n7 Tryz.prog GN:={
 mixed:=by kernel_rfl
 f7:=⟨Tryz.f195.name,by decide,Tryz.func195.trans (congrArg some (by kernel_rfl))⟩
 f10:=⟨Tryz.f217.name,by decide,Tryz.func217.trans (congrArg some (by kernel_rfl))⟩
 t0:=Tryz.underlying0
 a0:=Tryz.isAgg0
 z0:=Tryz.sizeOf0
 v0:=Tryz.zeroValue0
 t4:=Tryz.underlying4
 a4:=Tryz.isAgg4
 z4:=Tryz.sizeOf4
 v4:=Tryz.zeroValue4
 t23:=Tryz.underlying169
 a23:=Tryz.isAgg169
 z23:=Tryz.sizeOf169
 v23:=Tryz.zeroValue169
 t26:=Tryz.underlying3
 a26:=Tryz.isAgg3
 z26:=Tryz.sizeOf3
 v26:=Tryz.zeroValue3
 t27:=Tryz.underlying65
 a27:=Tryz.isAgg65
 z27:=Tryz.sizeOf65
 v27:=Tryz.zeroValue65
 t28:=Tryz.underlying66
 a28:=Tryz.isAgg66
 z28:=Tryz.sizeOf66
 v28:=Tryz.zeroValue66
 t33:=Tryz.underlying128
 a33:=Tryz.isAgg128
 z33:=Tryz.sizeOf128
 v33:=Tryz.zeroValue128 }
def GO:Go.Shelf.Ren:=⟨fun | 7=>33 | 10=>74 | n=>n,fun | 23=>57 | 26=>3 | 3=>63 | 28=>66 | 0=>0 | 27=>65 | 33=>128 | 4=>4 | n=>n,fun | n=>n⟩
theorem Sz:Go.Proofs.SlLaysZI.n7 Tryz.prog GO:={
 mixed:=by kernel_rfl
 f7:=⟨Tryz.f33.name,by decide,Tryz.func33.trans (congrArg some (by kernel_rfl))⟩
 f10:=⟨Tryz.f74.name,by decide,Tryz.func74.trans (congrArg some (by kernel_rfl))⟩
 t0:=Tryz.underlying0
 a0:=Tryz.isAgg0
 z0:=Tryz.sizeOf0
 v0:=Tryz.zeroValue0
 t4:=Tryz.underlying4
 a4:=Tryz.isAgg4
 z4:=Tryz.sizeOf4
 v4:=Tryz.zeroValue4
 t23:=Tryz.underlying57
 a23:=Tryz.isAgg57
 z23:=Tryz.sizeOf57
 v23:=Tryz.zeroValue57
 t26:=Tryz.underlying3
 a26:=Tryz.isAgg3
 z26:=Tryz.sizeOf3
 v26:=Tryz.zeroValue3
 t27:=Tryz.underlying65
 a27:=Tryz.isAgg65
 z27:=Tryz.sizeOf65
 v27:=Tryz.zeroValue65
 t28:=Tryz.underlying66
 a28:=Tryz.isAgg66
 z28:=Tryz.sizeOf66
 v28:=Tryz.zeroValue66
 t33:=Tryz.underlying128
 a33:=Tryz.isAgg128
 z33:=Tryz.sizeOf128
 v33:=Tryz.zeroValue128 }
def G4:Go.Shelf.Ren:=⟨fun | 6=>32 | 8=>72 | 9=>73 | 11=>112 | 13=>114 | 12=>113 | 23=>142 | 24=>143 | 14=>133 | 15=>134 | 16=>135 | 17=>136 | 18=>137 | 19=>138 | 20=>139 | 21=>140 | 22=>141 | 25=>169 | 26=>170 | 27=>171 | 28=>172 | 29=>173 | 30=>116 | 31=>197 | n=>n,fun | 26=>3 | 28=>66 | 24=>30 | 0=>0 | 3=>3 | 37=>143 | 48=>185 | 50=>187 | 4=>4 | 40=>178 | 39=>177 | 45=>96 | 5=>5 | 9=>9 | 51=>211 | 55=>215 | 57=>238 | 58=>239 | 33=>128 | n=>n,fun | n=>n⟩
theorem GP:Go.Proofs.SlLaysZI.n6 Tryz.prog G4:={
 mixed:=by kernel_rfl
 f6:=⟨Tryz.f32.name,by decide,Tryz.func32.trans (congrArg some (by kernel_rfl))⟩
 f8:=⟨Tryz.f72.name,by decide,Tryz.func72.trans (congrArg some (by kernel_rfl))⟩
 f11:=⟨Tryz.f112.name,by decide,Tryz.func112.trans (congrArg some (by kernel_rfl))⟩
 t0:=Tryz.underlying0
 a0:=Tryz.isAgg0
 z0:=Tryz.sizeOf0
 v0:=Tryz.zeroValue0
 t24:=Tryz.underlying30
 a24:=Tryz.isAgg30
 z24:=Tryz.sizeOf30
 v24:=Tryz.zeroValue30
 t26:=Tryz.underlying3
 a26:=Tryz.isAgg3
 z26:=Tryz.sizeOf3
 v26:=Tryz.zeroValue3
 t28:=Tryz.underlying66
 a28:=Tryz.isAgg66
 z28:=Tryz.sizeOf66
 v28:=Tryz.zeroValue66
 i26:=by kernel_rfl }
def Q6:Go.Shelf.Ren:=⟨fun | 5=>73 | 8=>114 | 7=>113 | 19=>142 | 20=>143 | 10=>133 | 11=>134 | 12=>135 | 13=>136 | 14=>137 | 15=>138 | 16=>139 | 17=>140 | 18=>141 | 30=>169 | 31=>170 | 32=>171 | 33=>172 | 34=>173 | 35=>116 | 40=>197 | n=>n,fun | 23=>30 | 25=>3 | 3=>3 | 32=>143 | 22=>30 | 0=>0 | 44=>185 | 46=>187 | 4=>4 | 36=>178 | 35=>177 | 41=>96 | 5=>5 | 9=>9 | 53=>211 | 57=>215 | 63=>238 | 64=>239 | n=>n,fun | n=>n⟩
theorem Jh:Go.Proofs.SlLaysM.n5 Tryz.prog Q6:={
 mixed:=by kernel_rfl
 f5:=⟨Tryz.f73.name,by decide,Tryz.func73.trans (congrArg some (by kernel_rfl))⟩
 f7:=⟨Tryz.f113.name,by decide,Tryz.func113.trans (congrArg some (by kernel_rfl))⟩
 f8:=Tryz.func114.trans (congrArg some (by kernel_rfl))
 f10:=⟨Tryz.f133.name,by decide,Tryz.func133.trans (congrArg some (by kernel_rfl))⟩
 f11:=⟨Tryz.f134.name,by decide,Tryz.func134.trans (congrArg some (by kernel_rfl))⟩
 f12:=⟨Tryz.f135.name,by decide,Tryz.func135.trans (congrArg some (by kernel_rfl))⟩
 f13:=⟨Tryz.f136.name,by decide,Tryz.func136.trans (congrArg some (by kernel_rfl))⟩
 f14:=⟨Tryz.f137.name,by decide,Tryz.func137.trans (congrArg some (by kernel_rfl))⟩
 f15:=⟨Tryz.f138.name,by decide,Tryz.func138.trans (congrArg some (by kernel_rfl))⟩
 f16:=⟨Tryz.f139.name,by decide,Tryz.func139.trans (congrArg some (by kernel_rfl))⟩
 f17:=⟨Tryz.f140.name,by decide,Tryz.func140.trans (congrArg some (by kernel_rfl))⟩
 f18:=⟨Tryz.f141.name,by decide,Tryz.func141.trans (congrArg some (by kernel_rfl))⟩
 f19:=Tryz.func142.trans (congrArg some (by kernel_rfl))
 f20:=Tryz.func143.trans (congrArg some (by kernel_rfl))
 f30:=⟨Tryz.f169.name,by decide,Tryz.func169.trans (congrArg some (by kernel_rfl))⟩
 f31:=Tryz.func170.trans (congrArg some (by kernel_rfl))
 f32:=Tryz.func171.trans (congrArg some (by kernel_rfl))
 f33:=⟨Tryz.f172.name,by decide,Tryz.func172.trans (congrArg some (by kernel_rfl))⟩
 f34:=⟨Tryz.f173.name,by decide,Tryz.func173.trans (congrArg some (by kernel_rfl))⟩
 f35:=⟨Tryz.f116.name,by decide,Tryz.func116.trans (congrArg some (by kernel_rfl))⟩
 f40:=⟨Tryz.f197.name,by decide,Tryz.func197.trans (congrArg some (by kernel_rfl))⟩
 t0:=Tryz.underlying0
 a0:=Tryz.isAgg0
 z0:=Tryz.sizeOf0
 v0:=Tryz.zeroValue0
 t3:=Tryz.underlying3
 a3:=Tryz.isAgg3
 z3:=Tryz.sizeOf3
 v3:=Tryz.zeroValue3
 t4:=Tryz.underlying4
 a4:=Tryz.isAgg4
 z4:=Tryz.sizeOf4
 v4:=Tryz.zeroValue4
 t5:=Tryz.underlying5
 a5:=Tryz.isAgg5
 z5:=Tryz.sizeOf5
 v5:=Tryz.zeroValue5
 t9:=Tryz.underlying9
 a9:=Tryz.isAgg9
 z9:=Tryz.sizeOf9
 v9:=Tryz.zeroValue9
 t22:=Tryz.underlying30
 a22:=Tryz.isAgg30
 z22:=Tryz.sizeOf30
 v22:=Tryz.zeroValue30
 t23:=Tryz.underlying30
 a23:=Tryz.isAgg30
 z23:=Tryz.sizeOf30
 v23:=Tryz.zeroValue30
 t25:=Tryz.underlying3
 a25:=Tryz.isAgg3
 z25:=Tryz.sizeOf3
 v25:=Tryz.zeroValue3
 t32:=Tryz.underlying143
 a32:=Tryz.isAgg143
 z32:=Tryz.sizeOf143
 v32:=Tryz.zeroValue143
 t35:=Tryz.underlying177
 a35:=Tryz.isAgg177
 z35:=Tryz.sizeOf177
 v35:=Tryz.zeroValue177
 t36:=Tryz.underlying178
 a36:=Tryz.isAgg178
 z36:=Tryz.sizeOf178
 v36:=Tryz.zeroValue178
 t41:=Tryz.underlying96
 a41:=Tryz.isAgg96
 z41:=Tryz.sizeOf96
 v41:=Tryz.zeroValue96
 t44:=Tryz.underlying185
 a44:=Tryz.isAgg185
 z44:=Tryz.sizeOf185
 v44:=Tryz.zeroValue185
 t46:=Tryz.underlying187
 a46:=Tryz.isAgg187
 z46:=Tryz.sizeOf187
 v46:=Tryz.zeroValue187
 t53:=Tryz.underlying211
 a53:=Tryz.isAgg211
 z53:=Tryz.sizeOf211
 v53:=Tryz.zeroValue211
 t57:=Tryz.underlying215
 a57:=Tryz.isAgg215
 z57:=Tryz.sizeOf215
 v57:=Tryz.zeroValue215
 t63:=Tryz.underlying238
 a63:=Tryz.isAgg238
 z63:=Tryz.sizeOf238
 v63:=Tryz.zeroValue238
 t64:=Tryz.underlying239
 a64:=Tryz.isAgg239
 z64:=Tryz.sizeOf239
 v64:=Tryz.zeroValue239 }
def Q7:Go.Shelf.Ren:=⟨fun | 6=>85 | 8=>114 | 9=>119 | 19=>142 | 20=>143 | 21=>145 | 22=>146 | 23=>147 | 24=>148 | 25=>149 | 26=>150 | 27=>151 | 28=>152 | 29=>153 | 36=>174 | 31=>170 | 32=>171 | 37=>175 | 38=>176 | 39=>177 | 41=>198 | n=>n,fun | 27=>28 | 29=>9 | 3=>3 | 32=>143 | 26=>28 | 0=>0 | 44=>185 | 46=>187 | 4=>4 | 36=>178 | 35=>177 | 41=>96 | 5=>5 | 9=>9 | 53=>211 | 57=>215 | 63=>238 | 64=>239 | n=>n,fun | n=>n⟩
theorem S0:Go.Proofs.SlLaysM.n6 Tryz.prog Q7:={
 mixed:=by kernel_rfl
 f6:=⟨Tryz.f85.name,by decide,Tryz.func85.trans (congrArg some (by kernel_rfl))⟩
 f8:=Tryz.func114.trans (congrArg some (by kernel_rfl))
 f9:=⟨Tryz.f119.name,by decide,Tryz.func119.trans (congrArg some (by kernel_rfl))⟩
 f19:=Tryz.func142.trans (congrArg some (by kernel_rfl))
 f20:=Tryz.func143.trans (congrArg some (by kernel_rfl))
 f21:=⟨Tryz.f145.name,by decide,Tryz.func145.trans (congrArg some (by kernel_rfl))⟩
 f22:=⟨Tryz.f146.name,by decide,Tryz.func146.trans (congrArg some (by kernel_rfl))⟩
 f23:=⟨Tryz.f147.name,by decide,Tryz.func147.trans (congrArg some (by kernel_rfl))⟩
 f24:=⟨Tryz.f148.name,by decide,Tryz.func148.trans (congrArg some (by kernel_rfl))⟩
 f25:=⟨Tryz.f149.name,by decide,Tryz.func149.trans (congrArg some (by kernel_rfl))⟩
 f26:=⟨Tryz.f150.name,by decide,Tryz.func150.trans (congrArg some (by kernel_rfl))⟩
 f27:=⟨Tryz.f151.name,by decide,Tryz.func151.trans (congrArg some (by kernel_rfl))⟩
 f28:=⟨Tryz.f152.name,by decide,Tryz.func152.trans (congrArg some (by kernel_rfl))⟩
 f29:=⟨Tryz.f153.name,by decide,Tryz.func153.trans (congrArg some (by kernel_rfl))⟩
 f31:=Tryz.func170.trans (congrArg some (by kernel_rfl))
 f32:=Tryz.func171.trans (congrArg some (by kernel_rfl))
 f36:=⟨Tryz.f174.name,by decide,Tryz.func174.trans (congrArg some (by kernel_rfl))⟩
 f37:=⟨Tryz.f175.name,by decide,Tryz.func175.trans (congrArg some (by kernel_rfl))⟩
 f38:=⟨Tryz.f176.name,by decide,Tryz.func176.trans (congrArg some (by kernel_rfl))⟩
 f39:=⟨Tryz.f177.name,by decide,Tryz.func177.trans (congrArg some (by kernel_rfl))⟩
 f41:=⟨Tryz.f198.name,by decide,Tryz.func198.trans (congrArg some (by kernel_rfl))⟩
 t0:=Tryz.underlying0
 a0:=Tryz.isAgg0
 z0:=Tryz.sizeOf0
 v0:=Tryz.zeroValue0
 t3:=Tryz.underlying3
 a3:=Tryz.isAgg3
 z3:=Tryz.sizeOf3
 v3:=Tryz.zeroValue3
 t4:=Tryz.underlying4
 a4:=Tryz.isAgg4
 z4:=Tryz.sizeOf4
 v4:=Tryz.zeroValue4
 t5:=Tryz.underlying5
 a5:=Tryz.isAgg5
 z5:=Tryz.sizeOf5
 v5:=Tryz.zeroValue5
 t9:=Tryz.underlying9
 a9:=Tryz.isAgg9
 z9:=Tryz.sizeOf9
 v9:=Tryz.zeroValue9
 t26:=Tryz.underlying28
 a26:=Tryz.isAgg28
 z26:=Tryz.sizeOf28
 v26:=Tryz.zeroValue28
 t27:=Tryz.underlying28
 a27:=Tryz.isAgg28
 z27:=Tryz.sizeOf28
 v27:=Tryz.zeroValue28
 t29:=Tryz.underlying9
 a29:=Tryz.isAgg9
 z29:=Tryz.sizeOf9
 v29:=Tryz.zeroValue9
 t32:=Tryz.underlying143
 a32:=Tryz.isAgg143
 z32:=Tryz.sizeOf143
 v32:=Tryz.zeroValue143
 t35:=Tryz.underlying177
 a35:=Tryz.isAgg177
 z35:=Tryz.sizeOf177
 v35:=Tryz.zeroValue177
 t36:=Tryz.underlying178
 a36:=Tryz.isAgg178
 z36:=Tryz.sizeOf178
 v36:=Tryz.zeroValue178
 t41:=Tryz.underlying96
 a41:=Tryz.isAgg96
 z41:=Tryz.sizeOf96
 v41:=Tryz.zeroValue96
 t44:=Tryz.underlying185
 a44:=Tryz.isAgg185
 z44:=Tryz.sizeOf185
 v44:=Tryz.zeroValue185
 t46:=Tryz.underlying187
 a46:=Tryz.isAgg187
 z46:=Tryz.sizeOf187
 v46:=Tryz.zeroValue187
 t53:=Tryz.underlying211
 a53:=Tryz.isAgg211
 z53:=Tryz.sizeOf211
 v53:=Tryz.zeroValue211
 t57:=Tryz.underlying215
 a57:=Tryz.isAgg215
 z57:=Tryz.sizeOf215
 v57:=Tryz.zeroValue215
 t63:=Tryz.underlying238
 a63:=Tryz.isAgg238
 z63:=Tryz.sizeOf238
 v63:=Tryz.zeroValue238
 t64:=Tryz.underlying239
 a64:=Tryz.isAgg239
 z64:=Tryz.sizeOf239
 v64:=Tryz.zeroValue239 }
def GM:Go.Shelf.Ren:=⟨fun | 5=>53 | n=>n,fun | 23=>69 | 24=>69 | 26=>3 | 27=>3 | 0=>0 | 4=>4 | n=>n,fun | n=>n⟩
theorem Sx:Go.Proofs.SlLaysX.n5 Tryz.prog GM:={
 mixed:=by kernel_rfl
 f5:=⟨Tryz.f53.name,by decide,Tryz.func53.trans (congrArg some (by kernel_rfl))⟩
 t0:=Tryz.underlying0
 a0:=Tryz.isAgg0
 z0:=Tryz.sizeOf0
 v0:=Tryz.zeroValue0
 t4:=Tryz.underlying4
 a4:=Tryz.isAgg4
 z4:=Tryz.sizeOf4
 v4:=Tryz.zeroValue4
 t23:=Tryz.underlying69
 a23:=Tryz.isAgg69
 z23:=Tryz.sizeOf69
 v23:=Tryz.zeroValue69
 t24:=Tryz.underlying69
 a24:=Tryz.isAgg69
 z24:=Tryz.sizeOf69
 v24:=Tryz.zeroValue69
 a26:=Tryz.isAgg3
 z26:=Tryz.sizeOf3
 a27:=Tryz.isAgg3
 z27:=Tryz.sizeOf3 }
end
end Go.Proofs.YtoaaclpjkelofaaGreatDoor.Am
set_option linter.unusedVariables false
set_option linter.unusedSimpArgs false
namespace Go.Proofs.YtoaaclpjkelofaaGreatDoor.Am
open Go
noncomputable section
def nS:CU:=fun _ _ _=>none
theorem gn(P:Program):Av P nS:=fun _ _ _ _ _ _ _ _ hc=>by cases hc
def rX(P:Program):Ck:=⟨P,nS⟩
def NQ (P : Program) : Bool := P.funcs.all fun fn => !(fn.name == "runtime.NumGoroutine")
theorem BD{P:Program}(h:NQ P=true):EC P:=by
 intro f fn hf
 unfold NQ at h
 rw[Array.all_eq_true_iff_forall_mem]at h
 have:=h fn (Array.mem_of_getElem? hf)
 simpa using this
def lF:A5:=fun _=>none
def po:AD:=⟨0,.leaf⟩
theorem sQ(P:Program)(w:World):As P lF po w:=⟨fun i o rb _ hr=>(by cases hr),fun i rb hr=>(by cases hr),fun i j oi oj ri rj _ _ _ hr=>(by cases hr),fun i o g hi=>(by cases hi)⟩
theorem pL:Ah lF po:=fun i _=>⟨rfl,rfl⟩
structure Pn(W W':World):Prop where
 heap:∀b,b<W.heap.size→W'.heap[b]? = W.heap[b]?
 os:W'.os=W.os
 output:W'.output=W.output
 size:W.heap.size≤W'.heap.size
theorem kV{ρ ρ':A5}{s s':AD}{w w':World}(h:Fr ρ s w ρ' s' w')(hn:∀b,¬ Ee ρ s b):Pn w w':=
 ⟨fun b hb=>h.keep b hb (hn b),h.os,h.output,h.size⟩
theorem ZD(b:Nat):¬ Ee lF po b:=fun⟨i,o,rb,hi,_⟩=>by cases hi
theorem Pn.keptBut{W W':World}(h:Pn W W')(may:MemPlace→Prop):W.keptBut W' may:=by
 refine⟨h.os,h.output,fun i hi=>?_⟩
 rw[h.heap i hi]
 have:W.heap[i]? = some W.heap[i]:=Array.getElem?_eq_getElem hi
 rw[this]
 cases W.heap[i]with
 | cells c t fr=>exact⟨rfl,rfl,rfl,fun _ _=>rfl⟩
 | map es clock=>exact .inr ⟨rfl,rfl⟩
 | _=>rfl
theorem Pn.frozen{W W':World}(h:Pn W W')(a:Addr)(ha:a.block<W.heap.size):W'.frozen? a=W.frozen? a:=by simp[World.frozen?,h.heap _ ha]
section
open Go.ChangeShapes Go.WideShapes
theorem post_of_kept{H:Type}{enc:TypeId×Value→H}{P:Program}{f:Func}{s:ChangeSpec}{apart fresh handsOn again:Bool}{W W':World}{args:Array Value}{v:Value}{ds gs:List (DataW H)}{before pa pv:List MemPlace}
  (hW:DataW.Whole enc P f.params.toList s.vars apart W args.toList ds gs before)
  (hres:∀ (b:Nat) (sp:Nat→Bool) (hd:Bool),DataW.TrodAll enc P W' b sp hd f.resultTypes.toList (v.resultList f.resultTypes.size) (s.fn H (ds++gs)).results [])
  (hargs:∀sp:Nat→Bool,(∀p∈before,sp p.block=true)→DataW.TrodAll enc P W' 0 sp true f.params.toList args.toList (s.fn H (ds++gs)).args pa)
  (hvars:∀sp:Nat→Bool,(∀p∈before,sp p.block=true)→DataW.TrodVars enc P W' sp s.vars (s.fn H (ds++gs)).vars pv)
  (hps:before=pa++pv) (hk:Pn W W')
  (hok:∀ (j:Nat) (t:TypeId) (r:Value),f.resultTypes[j]? = some t→(v.resultList f.resultTypes.size)[j]? = some r→Value.okWide P W' .any 0 t r):
  s.post enc P f apart fresh handsOn again W args v W':=by
 have hold:∀p∈before,(fun b=>decide (b<W.heap.size)) p.block=true:=fun p hp=>by simpa using hW.lt p hp
 refine⟨ds,gs,before,[],pa,pv,hW,hres _ _ _,hargs _ hold,hvars _ hold,World.keptBut_mono (fun p hp=>⟨hp,?_⟩) (hk.keptBut _),fun _=>?_⟩
 ·rw[hps,uu]at hp
  exact Or.inr hp
 ·have hlt:=hW.lt
  obtain⟨_,_,_,_,_,hz,hn⟩:=hW
  refine⟨hok,_,_,([]++pa)++pv,⟨[]++pa,pv,trodAll_append (hargs _ (fun _ _=>rfl)) (hres _ _ _),hvars _ (fun _ _=>rfl),rfl,?_,?_⟩,?_⟩
  ·intro b off hp
   have hp':MemPlace.cell b off∈before:=by rw[hps];simpa using hp
   rw[hk.frozen _ (hlt _ hp')]
   exact hz b off hp'
  ·intro ha
   have:=hn ha
   rw[hps]at this
   simpa using this
  ·intro p hp _
   rw[hps]
   simpa using hp
end
def LM:AV→Bool
 | .bool _ | .int _ _ | .str _=>true
 | .ptr none | .map none | .nilFunc | .nilIface=>true
 | .slice none n c=>Nat.beq n 0 && (match c with | some 0=>true | _=>false)
 | _=>false
def KW:List AV→Bool
 | []=>true
 | .agg cs::l=>cs.all LM && KW l
 | v::l=>LM v && KW l
theorem DA{ρ σ:A5}{v:AV}{v':Value}(h:LM v=true)(hr:AM ρ v v'):AM σ v v':=by
 cases hr with
 | bool b=>exact .bool b
 | int k n=>exact .int k n
 | str hs=>exact .str hs
 | ptrNil=>exact .ptrNil
 | sliceNil=>exact .sliceNil
 | mapNil=>exact .mapNil
 | nilFunc=>exact .nilFunc
 | nilIface=>exact .nilIface
 | _=>cases h
theorem Nf{ρ σ:A5}:∀ {l:List AV}{l':List Value},l.all LM=true→AJ ρ l l'→AJ σ l l'
 | [],_,_,h=>by cases h;exact .nil
 | v::l,_,hp,h=>by
  cases h with
  | cons h1 h2 =>
   simp only[List.all_cons,Bool.and_eq_true]at hp
   exact .cons (DA hp.1 h1) (Nf hp.2 h2)
theorem IV         {ρ σ : A5}  : ∀ {l : List AV} {l' : List Value}, KW     l = true → AJ    ρ l l' → AJ    σ l l'
  | [],_,_,h=>by cases h;exact .nil
  | v::l,_,hp,h=>by
    cases h with
    | cons h1 h2 =>
      cases v with
      | agg cs =>
        simp only[KW,Bool.and_eq_true]at hp
        cases h1 with
        | agg h1=>exact .cons (.agg (Nf hp.1 h1)) (IV hp.2 h2)
      | _ =>
        simp only[KW,Bool.and_eq_true]at hp
        exact .cons (DA hp.1 h1) (IV hp.2 h2)
def pR(s:AD)(g:Nat)(cells:List AV):Bool:=match s.heap.get g with
 | some (.row r)=>(Nat.beq r.n cells.length && !r.spare) && (match r.glob with | some g'=>Nat.beq g' g | none=>false) && (match r.c.take 0 cells.length with | some l=>FT.eqAs l cells | none=>false)
 | _=>false
structure Row where
 f:FuncId
 args:List AV
 res:AV
def Xw:List Row→FuncId→List AV→Option AV
 | [],_,_=>none
 | r::l,f,xs=>bif Nat.beq r.f f && FT.eqAs r.args xs then some r.res else Xw l f xs
def iC(v:AV):Option (AV×AD)→Bool
 | some (u,_)=>FT v u
 | none=>false
theorem M7:∀ {T:List Row}{f:FuncId}{xs:List AV}{v:AV},Xw T f xs=some v→∃r∈T,r.f=f∧r.args=xs∧r.res=v
 | [],_,_,_,h=>by cases h
 | r::T,f,xs,v,h=>by
  unfold Xw at h
  cases hb:Nat.beq r.f f && FT.eqAs r.args xs with
  | true =>
   rw[hb]at h
   injection h with h
   simp only[Bool.and_eq_true]at hb
   exact⟨r,tS,tM hb.1,FU hb.2,h⟩
  | false =>
   rw[hb]at h
   obtain⟨q,h1,h2⟩:=M7 h
   exact⟨q,tW _ h1,h2⟩
section
variable{P:Program}{ρ ρ1 ρ2:A5}{s s1 s2:AD}{w w1 w2:World}
theorem fz{g:Nat}{cells:List AV}(h:pR s g cells=true):∃r,s.heap.get g=some (.row r)∧r.n=cells.length∧r.glob=some g∧r.spare=false∧∀k,k<cells.length→r.c.get k=cells[k]? := by
 unfold pR at h
 split at h<;>first | (cases h;done) | skip
 rename_i r hg
 simp only[Bool.and_eq_true]at h
 obtain⟨⟨h1,h2⟩,h3⟩:=h
 simp only[Bool.not_eq_true']at h1
 refine⟨r,hg,tM h1.1,?_,h1.2,?_⟩
 ·split at h2<;>first | (cases h2;done) | skip
  rename_i g' hg'
  rw[hg',tM h2]
 ·split at h3<;>first | (cases h3;done) | skip
  rename_i l hl
  have:=FU h3
  subst this
  intro k hk
  have:=AE.take_get hl k hk
  simpa using this
end
structure DH.le(F G:DH):Prop where
 code:∀ {rnd:Option Nat} {c:Aa} {var:List AV} {marks:List Nat} {s:AD} {r:Ax},F.code rnd c var marks s=some r→G.code rnd c var marks s=some r
 call:∀ {f:FuncId} {aS:List AV} {s:AD} {p:AV×AD},F.call f aS s=some p→G.call f aS s=some p
 round:∀ {l:Nat} {aS:List AV} {s:AD} {p:AV×AD},F.round l aS s=some p→G.round l aS s=some p
section
variable{F G:DH}
theorem Mh(h:F.le G){f:AV}{aS:List AV}{s:AD}{p:AV×AD}(hc:Gq F f aS s=some p):Gq G f aS s=some p:=by
 unfold Gq at hc ⊢
 split at hc
 ·exact h.call hc
 ·exact h.round hc
 ·cases hc
theorem Th(h:F.le G){sh:Sh}{xs:List CX}{loc var:List AV}{s:AD}{p:AV×AD}(hc:pn F sh xs loc var s=some p):pn G sh xs loc var s=some p:=by
 cases sh<;>first | exact hc | exact h.call hc | skip
 cases xs with
 | nil=>cases hc
 | cons x xs=>exact Mh h hc
theorem G1(it:AB)(l:List AB)(loc var:List AV)(s:AD):EZ F (it::l) loc var s=LS F it (EZ F l) loc var s:=rfl
theorem Jf{k k':Zk}(hk:∀loc var s p,k loc var s=some p→k' loc var s=some p){ag:List Gh}{d:Lo}{loc var:List AV}{v:AV}{s:AD}{p:List AV×AD}(h:Ce ag d k loc var v s=some p):Ce ag d k' loc var v s=some p:=by
  cases d with
  | push =>
    simp only[Ce]at h ⊢
    cases hb:ES s (v::loc) var ag with
    | true=>rw[hb]at h;exact hk _ _ _ _ h
    | false=>rw[hb]at h;cases h
  | set j =>
    simp only[Ce]at h ⊢
    cases hb:ES s loc (F4 v var j) ag with
    | true=>rw[hb]at h;exact hk _ _ _ _ h
    | false=>rw[hb]at h;cases h
theorem G2(h:F.le G):∀ (l:List AB)(loc var:List AV)(s:AD)(p:List AV×AD),EZ F l loc var s=some p→EZ G l loc var s=some p:=by
 intro l
 induction l with
 | nil=>intro loc var s p hp;exact hp
 | cons it l ih =>
  intro loc var s p hp
  rw[G1]at hp ⊢
  unfold LS at hp ⊢
  cases hj:Zj loc var it.guard with
  | true=>rw[hj]at hp;cases hp
  | false =>
  rw[hj]at hp
  simp only at hp ⊢
  cases hw:BO loc var it.guard with
  | true =>
   rw[hw]at hp
   simp only at hp ⊢
   unfold L9 at hp ⊢
   cases hs:pn F it.sh it.xs loc var s with
   | none=>rw[hs]at hp;cases hp
   | some q=>rw[hs]at hp;rw[Th h hs];exact Jf ih hp
  | false =>
   rw[hw]at hp
   exact Jf ih hp
theorem Mg(h:F.le G){rnd:Option Nat}{b:Aa}{r res:Ax}(hc:Hk F rnd b r=some res):Hk G rnd b r=some res:=by
 unfold Hk at hc ⊢
 split at hc
 ·exact h.code hc
 ·exact hc
theorem I0(h:F.le G){var:List AV}{f:AV}{params:Array Tmp}{assign body:Code}{fn:FuncId}{dfr:Nat}{marks:List Nat}{s:AD}{res:Ax}
  (hc:FQ F var f params assign body fn dfr marks s=some res):FQ G var f params assign body fn dfr marks s=some res:=by
 unfold FQ HM at hc ⊢
 simp only[tH]at hc ⊢
 obtain⟨q,h1,rest⟩:=hc
 have h':DH.le { F with round:=fun _ _ _=>none } { G with round:=fun _ _ _=>none }:=⟨h.code,h.call,fun h=>by cases h⟩
 exact⟨q,Mh h' h1,rest⟩
theorem OV(h:F.le G){rnd:Option Nat}{r:Lp}{body:Aa}{A:List AV}{W marks:List Nat}{s:AD}{k:AV}{B:Pp}(hc:DP F rnd r body A W marks s k=some B):DP G rnd r body A W marks s k=some B:=by
 unfold DP at hc ⊢
 simp only[tH]at hc ⊢
 obtain⟨q,h1,h2⟩:=hc
 exact⟨q,h.code h1,h2⟩
theorem FX          {f g : AV → Option Pp}   (hf : ∀ k B, f k = some B → g k = some B) : ∀ {l : List (AV × AV)} {R C : Option (List AV × List (List AV))}, GY     f R l = some C → GY     g R l = some C
  | [],_,_,h=>h
  | e::l,R,C,h=>by
    unfold GY at h ⊢
    simp only[tH]at h ⊢
    obtain⟨X,h1,h2⟩:=h
    refine⟨X,hf _ _ h1,?_⟩
    cases X with
    | go=>exact FX hf h2
    | ret X M =>
      cases R with
      | none=>exact FX hf h2
      | some Y =>
        simp only at h2 ⊢
        cases hb:rY Y.2 M with
        | false=>rw[hb]at h2;cases h2
        | true =>
          rw[hb]at h2
          simp only[AF,cond_true,tH]at h2 ⊢
          obtain⟨Z,h3,h4⟩:=h2
          exact⟨Z,h3,FX hf h4⟩
theorem TU(h:F.le G){rnd:Option Nat}{r:Lp}{body:Aa}{it:AV}{marks:List Nat}{n:Nat}{t:AE AI}{A0:List AV}{l:List (AV×AV)}{C:Ax}(hc:Nn F rnd r body it marks n t A0 l=some C):Nn G rnd r body it marks n t A0 l=some C:=by
 unfold Nn at hc ⊢
 simp only[tH]at hc ⊢
 obtain⟨J,h1,A,h2,h3⟩:=hc
 refine⟨J,h1,A,h2,?_⟩
 cases hb:(FT (LV A r.jt) it && FT (LV A0 r.jt) it)with
 | false=>rw[hb]at h3;cases h3
 | true =>
  rw[hb]at h3
  simp only[AF,cond_true,tH]at h3 ⊢
  obtain⟨s,h4,R,h6,h7⟩:=h3
  exact⟨s,h4,R,FX (fun k B=>OV h) h6,h7⟩
theorem Vo(h:F.le G){rnd:Option Nat}{c:Aa}{var:List AV}{marks:List Nat}{s:AD}{res:Ax}(hc:CR F rnd c var marks s=some res):CR G rnd c var marks s=some res:=by
  cases c with
  | skip=>exact hc
  | ret=>exact hc
  | exit id=>exact hc
  | never=>exact hc
  | ops l =>
    simp only[CR,jN]at hc ⊢
    cases hi:EZ F l [] var s with
    | none=>rw[hi]at hc;cases hc
    | some p=>rw[hi]at hc;rw[G2 h _ _ _ _ _ hi];exact hc
  | seq a b =>
    simp only[CR]at hc ⊢
    unfold I1 at hc ⊢
    cases ha:F.code rnd a var marks s with
    | none=>rw[ha]at hc;cases hc
    | some r=>rw[ha]at hc;rw[h.code ha];exact Mg h hc
  | cond x a b =>
    simp only[CR]at hc ⊢
    unfold SU at hc ⊢
    split at hc
    · split at hc
      · exact h.code hc
      · exact h.code hc
    · cases hc
  | block id c =>
    simp only[CR]at hc ⊢
    unfold Me at hc ⊢
    cases ha:F.code rnd c var marks s with
    | none=>rw[ha]at hc;cases hc
    | some r=>rw[ha]at hc;rw[h.code ha];exact hc
  | loop c =>
    simp only[CR]at hc ⊢
    unfold I1 at hc ⊢
    cases ha:F.code rnd c var marks s with
    | none=>rw[ha]at hc;cases hc
    | some r=>rw[ha]at hc;rw[h.code ha];exact Mg h hc
  | rangeFunc fn f params assign body =>
    simp only[CR]at hc ⊢
    unfold Mf at hc ⊢
    cases rnd with
    | none=>exact I0 h hc
    | some l =>
      simp only[tH]at hc ⊢
      obtain⟨r,h1,h2⟩:=hc
      exact⟨r,h1,I0 h h2⟩
  | rangeMap r body =>
    simp only[CR]at hc ⊢
    unfold jO at hc ⊢
    simp only[tH]at hc ⊢
    obtain⟨m,h1,es,h2,h3⟩:=hc
    exact⟨m,h1,es,h2,TU h h3⟩
theorem Vp(h:F.le G){E:Ck}{f:FuncId}{aS:List AV}{s:AD}{p:AV×AD}(hc:IN E F f aS s=some p):IN E G f aS s=some p:=by
 unfold IN at hc ⊢
 cases hn:E.nat f aS s with
 | some q=>rw[hn]at hc;exact hc
 | none =>
  rw[hn]at hc
  simp only at hc ⊢
  unfold Gn at hc ⊢
  simp only[tH]at hc ⊢
  obtain⟨cf,h1,h2⟩:=hc
  refine⟨cf,h1,?_⟩
  cases hb:Nat.beq aS.length cf.na with
  | false=>rw[hb]at h2;cases h2
  | true =>
   rw[hb]at h2
   simp only[cond_true]at h2 ⊢
   unfold L4 at h2 ⊢
   simp only[tH]at h2 ⊢
   obtain⟨r,h3,h4⟩:=h2
   exact⟨r,h.code h3,h4⟩
theorem Vq(h:F.le G){E:Ck}{l:Nat}{aS:List AV}{s:AD}{p:AV×AD}(hc:Lj E F l aS s=some p):Lj E G l aS s=some p:=by
 unfold Lj at hc ⊢
 simp only[tH]at hc ⊢
 obtain⟨r,h1,var,h2,ca,h3,cb,h4,hc⟩:=hc
 refine⟨r,h1,var,h2,ca,h3,cb,h4,?_⟩
 unfold HX at hc ⊢
 simp only[tH]at hc ⊢
 obtain⟨q,h5,hc⟩:=hc
 refine⟨q,h.code h5,?_⟩
 cases hn:Gy q.exit with
 | false=>rw[hn]at hc;cases hc
 | true =>
  rw[hn]at hc
  simp only[cond_true,tH]at hc ⊢
  obtain⟨r2,h6,hc⟩:=hc
  refine⟨r2,h6,?_⟩
  cases hr:L8 r2.state with
  | false=>rw[hr]at hc;cases hc
  | true =>
   rw[hr]at hc
   simp only[cond_true]at hc ⊢
   unfold Jw at hc ⊢
   simp only[tH]at hc ⊢
   obtain⟨q2,h7,rest⟩:=hc
   exact⟨q2,h.code h7,rest⟩
end
theorem RZ(E:Ck):∀n,(DF E n).le (DF E (n+1)):=by
 intro n
 induction n with
 | zero=>exact⟨fun h=>(by cases h),fun h=>(by cases h),fun h=>(by cases h)⟩
 | succ n ih=>exact⟨fun h=>Vo ih h,fun h=>Vp ih h,fun h=>Vq ih h⟩
theorem DH.le.refl(F:DH):F.le F:=⟨id,id,id⟩
theorem DH.le.trans{F G H:DH}(h:F.le G)(k:G.le H):F.le H:=⟨fun x=>k.code (h.code x),fun x=>k.call (h.call x),fun x=>k.round (h.round x)⟩
theorem Ga(E:Ck){n m:Nat}(h:n≤m):(DF E n).le (DF E m):=by
 induction h with
 | refl=>exact DH.le.refl _
 | step _ ih=>exact ih.trans (RZ E _)
section
variable(E:Ck)
def WC(rnd:Option Nat)(c:Aa)(Q:Ax→Prop)(var:List AV)(marks:List Nat)(s:AD):Prop:=∃n r,(DF E n).code rnd c var marks s=some r∧Q r
def WI(l:List AB)(K:List AV→AD→Prop)(loc var:List AV)(s:AD):Prop:=∃n p,EZ (DF E n) l loc var s=some p∧K p.1 p.2
def WF(f:FuncId)(aS:List AV)(K:AV→AD→Prop)(s:AD):Prop:=∃n p,(DF E n).call f aS s=some p∧K p.1 p.2
def WR(l:Nat)(aS:List AV)(K:AV→AD→Prop)(s:AD):Prop:=∃n p,(DF E n).round l aS s=some p∧K p.1 p.2
end
section
variable{E:Ck}{rnd:Option Nat}{Q Q':Ax→Prop}{var loc:List AV}{marks:List Nat}{s:AD}{K K':AV→AD→Prop}{KI:List AV→AD→Prop}
theorem WC.mono{c:Aa}(h:WC E rnd c Q var marks s)(hq:∀r,Q r→Q' r):WC E rnd c Q' var marks s:=let ⟨n,r,h1,h2⟩:=h;⟨n,r,h1,hq r h2⟩
theorem WF.mono{f:FuncId}{aS:List AV}(h:WF E f aS K s)(hq:∀v s',K v s'→K' v s'):WF E f aS K' s:=let ⟨n,r,h1,h2⟩:=h;⟨n,r,h1,hq _ _ h2⟩
theorem WC.skip(h:Q ⟨.normal,var,marks,s⟩):WC E rnd .skip Q var marks s:=⟨1,_,rfl,h⟩
theorem WC.ret(h:Q ⟨.ret,var,marks,s⟩):WC E rnd .ret Q var marks s:=⟨1,_,rfl,h⟩
theorem WC.exit{id:Nat}(h:Q ⟨.exit id,var,marks,s⟩):WC E rnd (.exit id) Q var marks s:=⟨1,_,rfl,h⟩
def YY(E:Ck)(rnd:Option Nat)(b:Aa)(Q:Ax→Prop)(r:Ax):Prop:=match r.exit with
 | .normal=>WC E rnd b Q r.var r.marks r.st
 | _=>Q r
theorem Tg{a b:Aa}{n:Nat}{r:Ax}(h1:(DF E n).code rnd a var marks s=some r)(h2:YY E rnd b Q r):∃m res,I1 (DF E m) rnd b ((DF E m).code rnd a var marks s)=some res∧Q res:=by
 unfold YY at h2
 cases he:r.exit with
 | normal =>
  rw[he]at h2
  obtain⟨m,res,h3,h4⟩:=h2
  refine⟨max n m,res,?_,h4⟩
  rw[(Ga E (Nat.le_max_left n m)).code h1]
  simp only[I1,Hk,he]
  exact(Ga E (Nat.le_max_right n m)).code h3
 | exit id=>rw[he]at h2;exact⟨n,r,by rw[h1];simp only[I1,Hk,he],h2⟩
 | ret=>rw[he]at h2;exact⟨n,r,by rw[h1];simp only[I1,Hk,he],h2⟩
theorem WC.seq{a b:Aa}(h:WC E rnd a (YY E rnd b Q) var marks s):WC E rnd (.seq a b) Q var marks s:=by
 obtain⟨n,r,h1,h2⟩:=h
 obtain⟨m,res,h3,h4⟩:=Tg h1 h2
 exact⟨m+1,res,h3,h4⟩
theorem WC.loop{c:Aa}(h:WC E rnd c (YY E rnd (.loop c) Q) var marks s):WC E rnd (.loop c) Q var marks s:=by
 obtain⟨n,r,h1,h2⟩:=h
 obtain⟨m,res,h3,h4⟩:=Tg h1 h2
 exact⟨m+1,res,h3,h4⟩
theorem WC.cond{x:CX}{a b:Aa}{t:Bool}(hx:Cc [] var x=.bool t)(h:WC E rnd (bif t then a else b) Q var marks s):WC E rnd (.cond x a b) Q var marks s:=by
 obtain⟨n,r,h1,h2⟩:=h
 refine⟨n+1,r,?_,h2⟩
 show CR (DF E n) rnd (.cond x a b) var marks s=some r
 simp only[CR,SU,hx]
 cases t<;>exact h1
def F6(id:Nat)(Q:Ax→Prop)(r:Ax):Prop:=match r.exit with
 | .exit id'=>bif Nat.beq id' id then Q ⟨.normal,r.var,r.marks,r.st⟩else Q r
 | _=>Q r
theorem WC.block{id:Nat}{c:Aa}(h:WC E rnd c (F6 id Q) var marks s):WC E rnd (.block id c) Q var marks s:=by
 obtain⟨n,r,h1,h2⟩:=h
 unfold F6 at h2
 have:∃res,Lz id r=some res∧Q res:=by
  unfold Lz
  split at h2
  ·rename_i id' he
   try simp only[he]
   cases hb:Nat.beq id' id with
   | true=>rw[hb]at h2;exact⟨_,rfl,h2⟩
   | false=>rw[hb]at h2;exact⟨_,rfl,h2⟩
  ·rename_i hne
   cases he:r.exit with
   | normal=>exact⟨r,rfl,h2⟩
   | ret=>exact⟨r,rfl,h2⟩
   | exit id'=>exact absurd he (hne id')
 obtain⟨res,h3,h4⟩:=this
 refine⟨n+1,res,?_,h4⟩
 show CR (DF E n) rnd (.block id c) var marks s=some res
 simp only[CR,Me,h1,h3]
theorem WC.ops{l:List AB}(h:WI E l (fun v s'=>Q ⟨.normal,v,marks,s'⟩) [] var s):WC E rnd (.ops l) Q var marks s:=by
 obtain⟨n,p,h1,h2⟩:=h
 refine⟨n+1,⟨.normal,p.1,marks,p.2⟩,?_,h2⟩
 show CR (DF E n) rnd (.ops l) var marks s=_
 simp only[CR,jN,h1]
theorem WI.nil(h:KI var s):WI E [] KI loc var s:=⟨0,_,rfl,h⟩
def qD(E:Ck)(ag:List Gh)(d:Lo)(l:List AB)(KI:List AV→AD→Prop)(loc var:List AV)(v:AV)(s:AD):Prop:=match d with
 | .push=>ES s (v::loc) var ag=true∧WI E l KI (v::loc) var s
 | .set j=>ES s loc (F4 v var j) ag=true∧WI E l KI loc (F4 v var j) s
theorem XO{ag:List Gh}{d:Lo}{l:List AB}{v:AV}(h:qD E ag d l KI loc var v s):∃n p,(∀m,n≤m→Ce ag d (EZ (DF E m) l) loc var v s=some p)∧KI p.1 p.2:=by
 cases d with
 | push =>
  obtain⟨h1,n,p,h2,h3⟩:=h
  exact⟨n,p,fun m hm=>by simp only[Ce,h1,cond_true];exact G2 (Ga E hm) _ _ _ _ _ h2,h3⟩
 | set j =>
  obtain⟨h1,n,p,h2,h3⟩:=h
  exact⟨n,p,fun m hm=>by simp only[Ce,h1,cond_true];exact G2 (Ga E hm) _ _ _ _ _ h2,h3⟩
theorem WI.item{it:AB}{l:List AB}{n:Nat}{p:AV×AD}(hj:Zj loc var it.guard=false)(hw:BO loc var it.guard=true)(hs:pn (DF E n) it.sh it.xs loc var s=some p)(h:qD E it.again it.dst l KI loc var p.1 p.2):WI E (it::l) KI loc var s:=by
 obtain⟨m,q,h1,h2⟩:=XO h
 refine⟨max n m,q,?_,h2⟩
 rw[G1]
 unfold LS
 rw[hj,hw]
 simp only[L9,Th (Ga E (Nat.le_max_left n m)) hs]
 exact h1 _ (Nat.le_max_right n m)
theorem WI.off{it:AB}{l:List AB}(hj:Zj loc var it.guard=false)(hw:BO loc var it.guard=false)(h:qD E [] it.dst l KI loc var Bo s):WI E (it::l) KI loc var s:=by
 obtain⟨m,q,h1,h2⟩:=XO h
 refine⟨m,q,?_,h2⟩
 rw[G1]
 unfold LS
 rw[hj,hw]
 exact h1 _ (tJ m)
def Ends(P:Program)(rs:List (CX×Option TypeId))(K:AV→AD→Prop)(r:Ax):Prop:=X4 r.exit=true∧∃s',DS r.st r.marks=some s'∧∃l,Bg P s' r.var rs=some l∧K (BP l) s'
theorem WF.body{f:FuncId}{aS:List AV}{cf:Au}(hn:E.nat f aS s=none)(hf:AS E.P f=some cf)(ha:aS.length=cf.na)(h:WC E none cf.body (Ends E.P cf.results K) (Ql aS cf.nv) [] s):WF E f aS K s:=by
 obtain⟨n,r,h1,h2,s',h3,l,h4,h5⟩:=h
 refine⟨n+1,(BP l,s'),?_,h5⟩
 show IN E (DF E n) f aS s=_
 simp[IN,hn,Gn,hf,ha,L4,h1,h2,h3,h4]
theorem WF.nat{f:FuncId}{aS:List AV}{p:AV×AD}(hn:E.nat f aS s=some p)(h:K p.1 p.2):WF E f aS K s:=⟨1,p,by show IN E (DF E 0) f aS s=_;simp[IN,hn],h⟩
end
def VQ{α:Type}(x:Option α)(K:α→Prop):Prop:=match x with
 | some v=>K v
 | none=>False
theorem Qm{α:Type}(v:α)(K:α→Prop):VQ (some v) K=K v:=Eq.trans rfl rfl
section
variable(E:Ck)
def Qe(f:AV)(aS:List AV)(K:AV→AD→Prop)(s:AD):Prop:=match f with
 | .func f first cap=>WF E f (first++(aS++cap)) K s
 | .yield l=>WR E l aS K s
 | _=>False
def Qc(sh:Sh)(xs:List AV)(K:AV→AD→Prop)(s:AD):Prop:=match sh with
 | .p1 f=>match xs with
  | a::_=>VQ (f a) (fun v=>K v s)
  | []=>False
 | .p2 f=>match xs with
  | a::b::_=>VQ (f a b) (fun v=>K v s)
  | _=>False
 | .p f=>VQ (f xs) (fun v=>K v s)
 | .r1 f=>match xs with
  | a::_=>VQ (f s a) (fun v=>K v s)
  | []=>False
 | .r f=>VQ (f s xs) (fun v=>K v s)
 | .mk f=>VQ (f xs) (fun p=>K (p.2.val s.next) (newObj s p.1))
 | .e f=>VQ (f s xs) (fun p=>K p.1 p.2)
 | .call f=>WF E f xs K s
 | .callv=>match xs with
  | f::aS=>Qe E f aS K s
  | []=>False
def Qh (loc var:List AV):List CX→List AV
 | []=>[]
 | x::l=>Cc loc var x::Qh loc var l
def Qn(s:AD)(loc var:List AV):List Gh→Prop
 | []=>True
 | r::l=>GB s loc var r=true∧Qn s loc var l
def Qd(ag:List Gh)(d:Lo)(loc var:List AV)(k:List AV→List AV→AD→Prop)(v:AV)(s:AD):Prop:=match d with
 | .push=>Qn s (v::loc) var ag∧k (v::loc) var s
 | .set j=>Qn s loc (F4 v var j) ag∧k loc (F4 v var j) s
def SW(v:AV)(x y:List AV→List Nat→AD→Prop)(var:List AV)(marks:List Nat)(s:AD):Prop:=match v with
 | .bool true=>x var marks s
 | .bool false=>y var marks s
 | _=>False
def Nr(k:List AV→List Nat→AD→Prop)(Q:Ax→Prop)(r:Ax):Prop:=match r.exit with
 | .normal=>k r.var r.marks r.st
 | _=>Q r
def sV(j b:Bool)(sh:Sh)(xs:List AV)(ag:List Gh)(d:Lo)(loc var:List AV)(k:List AV→List AV→AD→Prop)(s:AD):Prop:=match j,b with
 | true,_=>False
 | false,true=>Qc E sh xs (Qd ag d loc var k) s
 | false,false=>Qd [] d loc var k Bo s
def Qb:List AB→(List AV→AD→Prop)→List AV→List AV→AD→Prop
 | [],K,_,var,s=>K var s
 | it::l,K,loc,var,s=>sV E (Zj loc var it.guard) (BO loc var it.guard) it.sh (Qh loc var it.xs) it.again it.dst loc var (Qb l K) s
def Qa(rnd:Option Nat):Aa→(Ax→Prop)→List AV→List Nat→AD→Prop
 | .skip,Q,var,marks,s=>Q ⟨.normal,var,marks,s⟩
 | .ret,Q,var,marks,s=>Q ⟨.ret,var,marks,s⟩
 | .exit id,Q,var,marks,s=>Q ⟨.exit id,var,marks,s⟩
 | .never,_,_,_,_=>False
 | .ops l,Q,var,marks,s=>Qb E l (fun v s'=>Q ⟨.normal,v,marks,s'⟩) [] var s
 | .seq a b,Q,var,marks,s=>Qa rnd a (Nr (Qa rnd b Q) Q) var marks s
 | .cond x a b,Q,var,marks,s=>SW (Cc [] var x) (Qa rnd a Q) (Qa rnd b Q) var marks s
 | .block id c,Q,var,marks,s=>Qa rnd c (F6 id Q) var marks s
 | .loop c,Q,var,marks,s=>WC E rnd (.loop c) Q var marks s
 | .rangeFunc fn f ps a b,Q,var,marks,s=>WC E rnd (.rangeFunc fn f ps a b) Q var marks s
 | .rangeMap r b,Q,var,marks,s=>WC E rnd (.rangeMap r b) Q var marks s
end
section
variable{E:Ck}{rnd:Option Nat}{Q Q':Ax→Prop}{var loc:List AV}{marks:List Nat}{s:AD}{K K':AV→AD→Prop}{KI:List AV→AD→Prop}
theorem YS:∀ (l:List CX),Qh loc var l=DE loc var l
 | []=>rfl
 | x::l=>by show Cc loc var x::Qh loc var l=Cc loc var x::DE loc var l;rw[YS l]
theorem MP:∀ {l:List Gh},Qn s loc var l→ES s loc var l=true
 | [],_=>rfl
 | r::l,h=>by show(GB s loc var r && ES s loc var l)=true;rw[h.1,MP h.2];rfl
theorem GU{α:Type}{x:Option α}{K:α→Prop}(h:VQ x K):∃v,x=some v∧K v:=by
 cases x with
 | none=>exact h.elim
 | some v=>exact⟨v,rfl,h⟩
theorem lW{f:AV}{aS:List AV}(h:Qe E f aS K s):∃n p,Gq (DF E n) f aS s=some p∧K p.1 p.2:=by
 cases f with
 | func f first cap=>obtain⟨n,p,h1,h2⟩:=h;exact⟨n,p,h1,h2⟩
 | yield l=>obtain⟨n,p,h1,h2⟩:=h;exact⟨n,p,h1,h2⟩
 | _=>exact h.elim
theorem lV      {sh : Sh} {xs : List CX} (h : Qc E sh (Qh loc var xs) K s) : ∃ n p, pn  (DF   E n) sh xs loc var s = some p ∧ K p.1 p.2 := by
  rw[YS]at h
  cases sh with
  | p1 f =>
    cases xs with
    | nil=>exact h.elim
    | cons x l =>
      obtain⟨v,h1,h2⟩:=GU h
      exact⟨0,(v,s),by show Dx s (f (Cc loc var x))=_;rw[h1];rfl,h2⟩
  | p2 f =>
    cases xs with
    | nil=>exact h.elim
    | cons x l =>
      cases l with
      | nil=>exact h.elim
      | cons y l =>
        obtain⟨v,h1,h2⟩:=GU h
        exact⟨0,(v,s),by show Dx s (f (Cc loc var x) (Cc loc var y))=_;rw[h1];rfl,h2⟩
  | p f =>
    obtain⟨v,h1,h2⟩:=GU h
    exact⟨0,(v,s),by show Dx s (f (DE loc var xs))=_;rw[h1];rfl,h2⟩
  | r1 f =>
    cases xs with
    | nil=>exact h.elim
    | cons x l =>
      obtain⟨v,h1,h2⟩:=GU h
      exact⟨0,(v,s),by show Dx s (f s (Cc loc var x))=_;rw[h1];rfl,h2⟩
  | r f =>
    obtain⟨v,h1,h2⟩:=GU h
    exact⟨0,(v,s),by show Dx s (f s (DE loc var xs))=_;rw[h1];rfl,h2⟩
  | mk f =>
    obtain⟨v,h1,h2⟩:=GU h
    exact⟨0,(v.2.val s.next,newObj s v.1),by show S7 s (f (DE loc var xs))=_;rw[h1];rfl,h2⟩
  | e f =>
    obtain⟨v,h1,h2⟩:=GU h
    exact⟨0,v,h1,h2⟩
  | call f=>obtain⟨n,p,h1,h2⟩:=h;exact⟨n,p,h1,h2⟩
  | callv =>
    cases xs with
    | nil=>exact h.elim
    | cons x l=>exact lW h
theorem lU:∀ {l:List AB}{loc var:List AV}{s:AD},Qb E l KI loc var s→WI E l KI loc var s:=by
 intro l
 induction l with
 | nil=>intro loc var s h;exact WI.nil h
 | cons it l ih =>
  intro loc var s h
  have dst:∀ {ag:List Gh} {v:AV} {s:AD},Qd ag it.dst loc var (Qb E l KI) v s→qD E ag it.dst l KI loc var v s:=by
   intro ag v s h
   unfold Qd at h
   unfold qD
   cases hd:it.dst with
   | push=>rw[hd]at h;exact⟨MP h.1,ih h.2⟩
   | set j=>rw[hd]at h;exact⟨MP h.1,ih h.2⟩
  unfold Qb at h
  cases hj:Zj loc var it.guard with
  | true=>rw[hj]at h;exact h.elim
  | false =>
  rw[hj]at h
  cases hw:BO loc var it.guard with
  | true =>
   rw[hw]at h
   have h:Qc E it.sh (Qh loc var it.xs) (Qd it.again it.dst loc var (Qb E l KI)) s:=h
   obtain⟨n,p,h1,h2⟩:=lV h
   exact WI.item hj hw h1 (dst h2)
  | false =>
   rw[hw]at h
   have h:Qd [] it.dst loc var (Qb E l KI) Bo s:=h
   exact WI.off hj hw (dst h)
theorem Hg:∀ {c:Aa}{Q:Ax→Prop}{var:List AV}{marks:List Nat}{s:AD},Qa E rnd c Q var marks s→WC E rnd c Q var marks s:=by
 intro c
 induction c with
 | skip=>intro Q var marks s h;exact WC.skip h
 | ret=>intro Q var marks s h;exact WC.ret h
 | exit id=>intro Q var marks s h;exact WC.exit h
 | never=>intro Q var marks s h;exact h.elim
 | ops l=>intro Q var marks s h;exact WC.ops (lU h)
 | seq a b iha ihb =>
  intro Q var marks s h
  refine WC.seq ((iha h).mono ?_)
  intro r hr
  unfold Nr at hr
  unfold YY
  cases he:r.exit with
  | normal=>rw[he]at hr;exact ihb hr
  | exit id=>rw[he]at hr;exact hr
  | ret=>rw[he]at hr;exact hr
 | cond x a b iha ihb =>
  intro Q var marks s h
  unfold Qa SW at h
  split at h<;>first | exact h.elim | skip
  ·rename_i ht;exact WC.cond ht (iha h)
  ·rename_i ht;exact WC.cond ht (ihb h)
 | block id c ih=>intro Q var marks s h;exact WC.block (ih h)
 | loop c _=>intro Q var marks s h;exact h
 | rangeFunc fn f ps a b=>intro Q var marks s h;exact h
 | rangeMap r b _=>intro Q var marks s h;exact h
theorem WC.loop'{c:Aa}(h:Qa E rnd c (Nr (WC E rnd (.loop c) Q) Q) var marks s):WC E rnd (.loop c) Q var marks s:=by
 refine WC.loop ((Hg h).mono ?_)
 intro r hr
 unfold Nr at hr
 unfold YY
 cases he:r.exit with
 | normal=>rw[he]at hr;exact hr
 | exit id=>rw[he]at hr;exact hr
 | ret=>rw[he]at hr;exact hr
theorem WF.body'{f:FuncId}{aS:List AV}{cf:Au}(hn:E.nat f aS s=none)(hf:AS E.P f=some cf)(ha:aS.length=cf.na)(h:Qa E none cf.body (Ends E.P cf.results K) (Ql aS cf.nv) [] s):WF E f aS K s:=WF.body hn hf ha (Hg h)
end
theorem Qq(a:AV)(l:List AV):LV (a::l) 0=a:=rfl
theorem Qr(a:AV)(l:List AV)(n:Nat):LV (a::l) (n+1)=LV l n:=rfl
theorem Qo(v a:AV)(l:List AV):F4 v (a::l) 0=v::l:=rfl
theorem Qp(v a:AV)(l:List AV)(n:Nat):F4 v (a::l) (n+1)=a::F4 v l n:=rfl
theorem Qk(loc var:List AV)(i:Nat):Cc loc var (.loc i)=LV loc i:=rfl
theorem Qj(loc var:List AV)(i:Nat):Cc loc var (.var i)=LV var i:=rfl
theorem Qi(loc var:List AV)(v:AV):Cc loc var (.const v)=v:=rfl
theorem Qf(loc var:List AV):BO loc var none=true:=rfl
theorem Qg(loc var:List AV)(x:CX)(b:Bool):BO loc var (some (x,b))=rZ b (Cc loc var x):=rfl
theorem Qs(E:Ck)(sh:Sh)(xs:List AV)(ag:List Gh)(d:Lo)(loc var:List AV)(k:List AV→List AV→AD→Prop)(s:AD):sV E false true sh xs ag d loc var k s=Qc E sh xs (Qd ag d loc var k) s:=rfl
theorem Qt(E:Ck)(sh:Sh)(xs:List AV)(ag:List Gh)(d:Lo)(loc var:List AV)(k:List AV→List AV→AD→Prop)(s:AD):sV E false false sh xs ag d loc var k s=Qd [] d loc var k Bo s:=rfl
theorem Qy(x y:List AV→List Nat→AD→Prop)(var:List AV)(m:List Nat)(s:AD):SW (.bool true) x y var m s=x var m s:=rfl
theorem Qz(x y:List AV→List Nat→AD→Prop)(var:List AV)(m:List Nat)(s:AD):SW (.bool false) x y var m s=y var m s:=rfl
theorem Ra(k:List AV→List Nat→AD→Prop)(Q:Ax→Prop)(v:List AV)(m:List Nat)(s:AD):Nr k Q ⟨.normal,v,m,s⟩=k v m s:=rfl
theorem Rb(k:List AV→List Nat→AD→Prop)(Q:Ax→Prop)(v:List AV)(m:List Nat)(s:AD):Nr k Q ⟨.ret,v,m,s⟩=Q ⟨.ret,v,m,s⟩:=rfl
theorem Rc(k:List AV→List Nat→AD→Prop)(Q:Ax→Prop)(id:Nat)(v:List AV)(m:List Nat)(s:AD):Nr k Q ⟨.exit id,v,m,s⟩=Q ⟨.exit id,v,m,s⟩:=rfl
theorem Rd(id:Nat)(Q:Ax→Prop)(v:List AV)(m:List Nat)(s:AD):F6 id Q ⟨.normal,v,m,s⟩=Q ⟨.normal,v,m,s⟩:=rfl
theorem Re(id:Nat)(Q:Ax→Prop)(v:List AV)(m:List Nat)(s:AD):F6 id Q ⟨.ret,v,m,s⟩=Q ⟨.ret,v,m,s⟩:=rfl
theorem Rf(id id':Nat)(Q:Ax→Prop)(v:List AV)(m:List Nat)(s:AD):F6 id Q ⟨.exit id',v,m,s⟩=if id'=id then Q ⟨.normal,v,m,s⟩else Q ⟨.exit id',v,m,s⟩:=by
 unfold F6
 by_cases h:id'=id
 ·subst h;simp
 ·have:Nat.beq id' id=false:=by
   cases hb:Nat.beq id' id with
   | true=>exact absurd (tM hb) h
   | false=>rfl
  simp[h,this]
theorem Rg(P:Program)(rs:List (CX×Option TypeId))(K:AV→AD→Prop)(v:List AV)(m:List Nat)(s:AD):Ends P rs K ⟨.ret,v,m,s⟩=VQ (DS s m) (fun s'=>VQ (Bg P s' v rs) (fun l=>K (BP l) s')):=by
 unfold Ends
 apply propext
 constructor
 ·rintro⟨_,s',h1,l,h2,h3⟩
  have h1:DS s m=some s':=h1
  have h2:Bg P s' v rs=some l:=h2
  rw[h1,Qm,h2,Qm];exact h3
 ·intro h
  obtain⟨s',h1,h⟩:=GU h
  obtain⟨l,h2,h3⟩:=GU h
  exact⟨rfl,s',h1,l,h2,h3⟩
theorem Rh(P:Program)(rs:List (CX×Option TypeId))(K:AV→AD→Prop)(v:List AV)(m:List Nat)(s:AD):Ends P rs K ⟨.normal,v,m,s⟩=VQ (DS s m) (fun s'=>VQ (Bg P s' v rs) (fun l=>K (BP l) s')):=by
 rw[← Rg];rfl
theorem Ri(s:AD):DS s []=some s:=rfl
theorem Rj(P:Program)(s:AD)(v:List AV):Bg P s v []=some []:=rfl
theorem Rk(P:Program)(s:AD)(v:List AV)(x:CX)(l:List (CX×Option TypeId)):Bg P s v ((x,none)::l)=(Bg P s v l).bind fun r=>some (Cc [] v x::r):=rfl
theorem Rm(v:AV):BP [v]=v:=rfl
theorem Rn:BP []=.tuple []:=rfl
theorem Ro(v w:AV)(l:List AV):BP (v::w::l)=.tuple (v::w::l):=rfl
theorem Qu(loc var:List AV):Zj loc var none=false:=rfl
theorem Qv(loc var:List AV)(x:CX)(b:Bool):Zj loc var (some (x,b))=qB (Cc loc var x):=rfl
theorem Qw(b:Bool):qB (.bool b)=false:=rfl
theorem Rq(b:Bool):rZ true (.bool b)=b:=by cases b<;>rfl
theorem Rs(b:Bool):rZ false (.bool b)=!b:=by cases b<;>rfl
theorem Ya:(!true)=false:=rfl
theorem Yb:(!false)=true:=rfl
theorem Yc{α β:Type _}(a:α)(f:α→Option β):(some a).bind f=f a:=rfl
theorem Yd{α:Type _}(a:α)(l:List α):(a::l)[0]? = some a:=rfl
theorem Ye{α:Type _}(a:α)(l:List α)(i:Nat):(a::l)[i+1]? = l[i]? := rfl
section
variable{α:Type}
theorem AE.setF_succ(v:Option α)(f:Nat)(t:AE α)(k:Nat):AE.setF v (f+1) t (k+1)=if k % 2=0 then .node t.val (AE.setF v f t.left (k / 2)) t.right else .node t.val t.left (AE.setF v f t.right (k / 2)):=by
 by_cases h:k % 2=0
 ·have hb:Nat.beq (k % 2) 0=true:=by rw[h];rfl
  simp only[AE.setF_step,hb,cond_true,AE.nodeL_eq,AE.nodeR_eq]
  rw[if_pos h]
 ·have hb:Nat.beq (k % 2) 0=false:=AE.beq_no h
  simp only[AE.setF_step,hb,cond_false,AE.nodeL_eq,AE.nodeR_eq]
  rw[if_neg h]
theorem AE.setF_fuel   (v : Option α) : ∀ (f g : Nat) (t : AE   α) (k : Nat), k < f → k < g → AE.setF   v f t k = AE.setF   v g t k := by
  intro f
  induction f with
  | zero=>intro g t k h;omega
  | succ f ih =>
    intro g t k h1 h2
    cases g with
    | zero=>omega
    | succ g =>
      cases k with
      | zero=>rfl
      | succ k =>
        rw[AE.setF_succ,AE.setF_succ,ih g t.left (k / 2) (by omega) (by omega),ih g t.right (k / 2) (by omega) (by omega)]
theorem AE.setF_same(v w:Option α):∀ (f:Nat)(t:AE α)(k:Nat),k<f→AE.setF w f (AE.setF v f t k) k=AE.setF w f t k:=by
 intro f
 induction f with
 | zero=>intro t k h;omega
 | succ f ih =>
  intro t k h
  cases k with
  | zero=>simp only[AE.setF_at,AE.left,AE.right]
  | succ k =>
   rw[AE.setF_succ,AE.setF_succ,AE.setF_succ]
   by_cases hk:k % 2=0
   ·simp only[hk,if_true,AE.val,AE.left,AE.right];rw[ih _ _ (by omega)]
   ·simp only[hk,if_false,AE.val,AE.left,AE.right];rw[ih _ _ (by omega)]
theorem AE.setF_comm   (v w : Option α) : ∀ (f : Nat) (t : AE   α) (k j : Nat), k < f → j < f → k ≠ j → AE.setF   w f (AE.setF   v f t k) j = AE.setF   v f (AE.setF   w f t j) k := by
  intro f
  induction f with
  | zero=>intro t k j h;omega
  | succ f ih =>
    intro t k j h1 h2 hne
    cases k with
    | zero =>
      cases j with
      | zero=>omega
      | succ j =>
        rw[AE.setF_succ,AE.setF_succ]
        by_cases hj:j % 2=0
        · simp only[hj,if_true,AE.setF_at,AE.val,AE.left,AE.right]
        · simp only[hj,if_false,AE.setF_at,AE.val,AE.left,AE.right]
    | succ k =>
      cases j with
      | zero =>
        rw[AE.setF_succ,AE.setF_succ]
        by_cases hk:k % 2=0
        · simp only[hk,if_true,AE.setF_at,AE.val,AE.left,AE.right]
        · simp only[hk,if_false,AE.setF_at,AE.val,AE.left,AE.right]
      | succ j =>
        simp only[AE.setF_succ]
        by_cases hk:k % 2=0<;>by_cases hj:j % 2=0
        · simp only[hk,hj,if_true,AE.val,AE.left,AE.right];rw[ih _ _ _ (by omega) (by omega) (by omega)]
        · simp only[hk,hj,if_true,if_false,AE.val,AE.left,AE.right]
        · simp only[hk,hj,if_true,if_false,AE.val,AE.left,AE.right]
        · simp only[hk,hj,if_false,AE.val,AE.left,AE.right];rw[ih _ _ _ (by omega) (by omega) (by omega)]
theorem AE.set_same(t:AE α)(k:Nat)(v w:α):(t.set k v).set k w=t.set k w:=AE.setF_same (some v) (some w) (k+1) t k (by omega)
theorem AE.set_comm(t:AE α){k j:Nat}(h:k≠j)(v w:α):(t.set k v).set j w=(t.set j w).set k v:=by
 unfold AE.set AE.put
 rw[AE.setF_fuel _ (k+1) (k+j+1) t k (by omega) (by omega),AE.setF_fuel _ (j+1) (k+j+1) _ j (by omega) (by omega),AE.setF_fuel _ (j+1) (k+j+1) t j (by omega) (by omega),AE.setF_fuel _ (k+1) (k+j+1) _ k (by omega) (by omega)]
 exact AE.setF_comm _ _ _ _ _ _ (by omega) (by omega) h
theorem AE.fill_append(l m:List α):∀ (t:AE α)(k:Nat),t.fill k (l++m)=(t.fill k l).fill (k+l.length) m:=by
 induction l with
 | nil=>intro t k;rfl
 | cons a l ih=>intro t k;simp only[List.cons_append,AE.fill_cons,ih,tq];rw[show k+1+l.length=k+(l.length+1)from by omega]
theorem AE.fill_set_below(l:List α):∀ (t:AE α)(k j:Nat)(v:α),j<k→(t.fill k l).set j v=(t.set j v).fill k l:=by
 induction l with
 | nil=>intro t k j v _;rfl
 | cons a l ih =>
  intro t k j v h
  simp only[AE.fill_cons]
  rw[ih _ _ _ _ (by omega),AE.set_comm t (by omega)]
theorem AE.fill_set(l:List α):∀ (t:AE α)(k i:Nat)(v:α),i<l.length→(t.fill k l).set (k+i) v=t.fill k (l.set i v):=by
  induction l with
  | nil=>intro t k i v h;simp at h
  | cons a l ih =>
    intro t k i v h
    cases i with
    | zero =>
      simp only[AE.fill_cons,tZ,uE]
      rw[AE.fill_set_below _ _ _ _ _ (by omega),AE.set_same]
    | succ i =>
      simp only[AE.fill_cons,List.set_cons_succ]
      rw[show k+(i+1)=k+1+i from by omega]
      exact ih _ _ _ _ (by simpa using h)
end
def T0(l:List AV):AE AV:=AE.fill .leaf 0 l
theorem RL(l:List AV)(k:Nat):(T0 l).get k=l[k]? := by
 unfold T0
 rw[AE.get_fill]
 by_cases h:k<l.length
 ·rw[if_pos ⟨tV _,by omega⟩];rfl
 ·rw[if_neg (by omega),tY (by omega)];rfl
def CZ(cs:List AV)(off:Nat)(vs:List AV):List AV:=match vs with
 | []=>cs
 | v::vs=>CZ (cs.set off v) (off+1) vs
theorem Fi:∀ (vs cs:List AV)(off:Nat),(CZ cs off vs).length=cs.length
 | [],_,_=>rfl
 | v::vs,cs,off=>by unfold CZ;rw[Fi];simp
theorem NT:∀ (vs cs:List AV)(off:Nat),off+vs.length≤cs.length→(T0 cs).fill off vs=T0 (CZ cs off vs)
 | [],_,_,_=>rfl
 | v::vs,cs,off,h=>by
  simp only[AE.fill_cons,CZ]
  have e:(T0 cs).set off v=T0 (cs.set off v):=by
   unfold T0
   have:=AE.fill_set cs .leaf 0 off v (by simp at h;omega)
   rwa[tR]at this
  rw[e]
  exact NT vs _ _ (by simp at h ⊢;omega)
theorem Ny         : ∀ (vs cs : List AV) (off k : Nat), off + vs.length ≤ cs.length → (CZ     cs off vs)[k]? = if off ≤ k ∧ k < off + vs.length then vs[k - off]? else cs[k]?
  | [],cs,off,k,_=>by simp[CZ];omega
  | v::vs,cs,off,k,h=>by
    simp only[tq]at h
    simp only[CZ]
    rw[Ny vs _ _ _ (by simp;omega)]
    by_cases h1:off+1≤k∧k<off+1+vs.length
    · rw[if_pos h1,if_pos (by simp;omega),show k - off=(k - (off+1))+1 from by omega];rfl
    · rw[if_neg h1]
      by_cases h2:k=off
      · subst h2
        rw[if_pos (by simp),uw (by omega)]
        simp
      · rw[if_neg (by simp;omega),uU (Ne.symm h2)]
def R(e sz:Nat)(sp:Bool)(cs:List AV):AI:=.row { elem:=e,sz,n:=cs.length,c:=T0 cs,spare:=sp,mode:=.own,par:=none,bytes:=true }
@[irreducible] def nid (b k:Nat):Nat:=b+k
theorem IZ(b k:Nat):nid b k=b+k:=by unfold nid;rfl
theorem gm(b:Nat):nid b 0=b:=by rw[IZ];rfl
def ext(s:AD)(os:List AI):AD:={ next:=nid s.next os.length,heap:=s.heap.fill s.next os }
theorem Ba(s:AD):ext s []=s:=by
 unfold ext
 rw[uV,gm];rfl
theorem Wq(s:AD)(os:List AI):(ext s os).next=nid s.next os.length:=rfl
theorem Wu(s:AD)(i:Nat)(o:AI):(setObj s i o).next=s.next:=rfl
theorem Wp(s:AD)(os:List AI)(o:AI):newObj (ext s os) o=ext s (os++[o]):=by
 unfold newObj ext
 simp only[IZ,tX,tq,uV,AE.fill_append,AE.fill_cons,AE.fill_nil]
 congr 1
theorem Wt{s:AD}{os:List AI}{i:Nat}(o:AI)(hi:i<s.next):setObj (ext s os) i o=ext (setObj s i o) os:=by
 unfold setObj ext
 simp only
 rw[AE.fill_set_below _ _ _ _ _ hi]
theorem Wl{s:AD}{os:List AI}{b k:Nat}(hb:s.next=b)(hk:k<os.length):(ext s os).heap.get (nid b k)=os[k]? := by
 subst hb
 show(s.heap.fill s.next os).get _=_
 rw[AE.get_fill,IZ,if_pos (by omega)]
 congr 1
 omega
theorem Wm{s:AD}{os:List AI}{i:Nat}(hi:i<s.next):(ext s os).heap.get i=s.heap.get i:=by
 show(s.heap.fill s.next os).get _=_
 rw[AE.get_fill,if_neg (by omega)]
theorem Wv(s:AD)(i:Nat)(o:AI):(setObj s i o).heap.get i=some o:=by
 show(s.heap.set i o).get i=_
 rw[AE.get_set,if_pos rfl]
theorem Ww{s:AD}{i j:Nat}(o:AI)(h:j≠i):(setObj s i o).heap.get j=s.heap.get j:=by
 show(s.heap.set i o).get j=_
 rw[AE.get_set,if_neg h]
def iI:Option AI→Option CG
 | some (.row r)=>some r
 | _=>none
def Jj(o:Option AI)(off:Nat):Option AV:=(iI o).bind fun r=>AF (Nat.blt off r.n) (r.c.get off)
def GR(o:Option AI)(off n:Nat):Option (List AV):=(iI o).bind fun r=>AF (Nat.ble (off+n) r.n) (r.c.take off n)
def mapO(kt:TypeId):Option AI→Option (List (AV×AV))
 | some (.map kt' es)=>AF (Nat.beq kt' kt) (some es)
 | _=>none
theorem HY(s:AD)(i:Nat):rowAt s i=iI (s.heap.get i):=rfl
theorem ke(s:AD)(i off:Nat):B1 s i off=Jj (s.heap.get i) off:=rfl
theorem Ji(s:AD)(i off n:Nat):BG s i off n=GR (s.heap.get i) off n:=rfl
theorem Wn(e sz:Nat)(sp:Bool)(cs:List AV)(off:Nat):Jj (some (R e sz sp cs)) off=cs[off]? := by
 show AF (Nat.blt off cs.length) ((T0 cs).get off)=_
 rw[RL]
 by_cases h:off<cs.length
 ·have:Nat.blt off cs.length=true:=by rw[tP];exact h
  rw[this];rfl
 ·have:Nat.blt off cs.length=false:=by
   cases hb:Nat.blt off cs.length with
   | false=>rfl
   | true=>rw[tP]at hb;exact absurd hb h
  rw[this,tY (by omega)];rfl
theorem Tt:∀ (n:Nat)(cs:List AV)(off:Nat),off+n≤cs.length→(T0 cs).take off n=some ((cs.drop off).take n)
 | 0,cs,off,_=>by simp[AE.take_zero]
 | n+1,cs,off,h=>by
  have hg:cs[off]? = some cs[off]:=tQ (by omega)
  simp only[AE.take_succ,RL,hg,Tt n cs (off+1) (by omega)]
  rw[show cs.drop off=cs[off]::cs.drop (off+1)from(t8 (by omega))]
  rfl
theorem Wo{e sz:Nat}{sp:Bool}{cs:List AV}{off n:Nat}(h:off+n≤cs.length):GR (some (R e sz sp cs)) off n=some ((cs.drop off).take n):=by
 show AF (Nat.ble (off+n) cs.length) ((T0 cs).take off n)=_
 have:Nat.ble (off+n) cs.length=true:=by rw[tK];exact h
 rw[this,Tt n cs off h];rfl
theorem Tn{s:AD}{i off e sz:Nat}{sp:Bool}{cs vs:List AV}(hg:s.heap.get i=some (R e sz sp cs))(h:off+vs.length≤cs.length)(ha:Ag vs=true):
  Bi s i off vs=some (match vs with | []=>s | _::_=>setObj s i (R e sz sp (CZ cs off vs))):=by
 cases vs with
 | nil=>rfl
 | cons v vs =>
  have hb:Nat.ble (off+(v::vs).length) cs.length=true:=by rw[tK];exact h
  show(rowAt s i).bind _=_
  rw[HY,hg]
  show AF (B8 .own && Nat.ble (off+(v::vs).length) cs.length && Ag (v::vs)) _=_
  rw[hb,ha]
  show some (setObj s i _)=some (setObj s i _)
  rw[show R e sz sp (CZ cs off (v::vs))=AI.row { elem:=e,sz,n:=(CZ cs off (v::vs)).length,c:=T0 (CZ cs off (v::vs)),spare:=sp,mode:=.own,par:=none,bytes:=true }from rfl,Fi,← NT _ _ _ h]
abbrev iv(n:Int):AV:=.int .i64 n
def i64(n:Int):Prop:=-9223372036854775808≤n∧n<9223372036854775808
theorem N4{k:IntKind}{n:Int}(h:BM k n=true):Cb k n=n:=by unfold Cb;rw[h];rfl
theorem Ss{n:Int}(h:i64 n):BM .i64 n=true:=by
 obtain⟨h1,h2⟩:=h
 cases n with
 | ofNat m=>simp only[BM,tK];simp at h2;omega
 | negSucc m=>simp only[BM,tK];omega
theorem Tx{n:Int}(h:i64 n):Cb .i64 n=n:=N4 (Ss h)
section
variable(P:Program)(t:TypeId)(a b:Int)
theorem Rx:AP P .lss t (iv a) (iv b)=some (.bool (decide (a<b))):=by
 show some (AV.bool (O9 a b))=_
 rw[Cv]
theorem Ry:AP P .gtr t (iv a) (iv b)=some (.bool (decide (b<a))):=by
 show some (AV.bool (O9 b a))=_
 rw[Cv]
theorem Wa:AP P .geq t (iv a) (iv b)=some (.bool (decide (b≤a))):=by
 show some (AV.bool (!O9 a b))=_
 rw[Cv,← decide_not]
 congr 3
 exact propext Int.not_lt
theorem Wb:AP P .eql t (iv a) (iv b)=some (.bool (decide (a=b))):=by
 show some (AV.bool (R9 a b))=_
 rw[GI];rfl
theorem Bz(h:i64 (a+b)):AP P .add t (iv a) (iv b)=some (iv (a+b)):=by
 show some (AV.int .i64 (Cb .i64 (a+b)))=_
 rw[Tx h]
theorem B0(h:i64 (a - b)):AP P .sub t (iv a) (iv b)=some (iv (a - b)):=by
 show some (AV.int .i64 (Cb .i64 (a - b)))=_
 rw[Tx h]
theorem Wd(c:Bool):p5 P .not (.bool c)=some (.bool (!c)):=rfl
end
def A9(b:Nat)(s s':AD):Prop:=s.next≤s'.next∧∀i,i<b→s'.heap.get i=s.heap.get i
theorem A9.refl(b:Nat)(s:AD):A9 b s s:=⟨tJ _,fun _ _=>rfl⟩
theorem A9.trans{b:Nat}{s s1 s2:AD}(h:A9 b s s1)(k:A9 b s1 s2):A9 b s s2:=⟨tN h.1 k.1,fun i hi=>(k.2 i hi).trans (h.2 i hi)⟩
theorem A9.mono{b b':Nat}{s s1:AD}(h:A9 b s s1)(k:b'≤b):A9 b' s s1:=⟨h.1,fun i hi=>h.2 i (tO hi k)⟩
theorem AQ(s:AD)(o:AI)(j:Nat):(newObj s o).heap.get j=if j=s.next then some o else s.heap.get j:=AE.get_set _ _ _ _
theorem NA(s:AD)(i:Nat)(o:AI)(j:Nat):(setObj s i o).heap.get j=if j=i then some o else s.heap.get j:=AE.get_set _ _ _ _
theorem Ja(s:AD)(i j:Nat):(Bx s i).heap.get j=if j=i then none else s.heap.get j:=AE.get_del _ _ _
theorem A9.new(s:AD)(o:AI):A9 s.next s (newObj s o):=⟨t7 _,fun i hi=>by rw[AQ,if_neg (by omega)]⟩
theorem EN{s s':AD}{i o:Nat}(h:s'.heap.get i=s.heap.get i):B1 s' i o=B1 s i o:=by unfold B1 rowAt;rw[h]
theorem HP{s:AD}{i o:Nat}{r:CG}{u:AV}(h:s.heap.get i=some (.row r))(ho:o<r.n)(hc:r.c.get o=some u):B1 s i o=some u:=by
 have hb:Nat.blt o r.n=true:=by simpa[tP]using ho
 simp[B1,rowAt,h,AF,hb,hc]
def Aj(b:Nat)(s:AD)(a:Option (Nat×Nat))(cs:List AV):Prop:=∀k u,cs[k]? = some u→∃i o,a=some (i,o)∧i<b∧B1 s i (o+k)=some u
theorem Aj.old{b b':Nat}{s s':AD}{a:Option (Nat×Nat)}{cs:List AV}(h:Aj b s a cs)(k:A9 b' s s')(hb:b≤b'):Aj b s' a cs:=fun j u hj=>by
 obtain⟨i,o,h1,h2,h3⟩:=h j u hj
 exact⟨i,o,h1,h2,by rw[EN (k.2 i (tO h2 hb))];exact h3⟩
theorem Aj.mono{b b':Nat}{s:AD}{a:Option (Nat×Nat)}{cs:List AV}(h:Aj b s a cs)(hb:b≤b'):Aj b' s a cs:=fun j u hj=>by
 obtain⟨i,o,h1,h2,h3⟩:=h j u hj
 exact⟨i,o,h1,tO h2 hb,h3⟩
theorem Aj.nil{b:Nat}{s:AD}{a:Option (Nat×Nat)}:Aj b s a []:=fun k u h=>by simp at h
theorem Fw(k:Nat):YA (k:Int)=some k:=rfl
theorem Aw{P:Program}{t e:TypeId}{n:Nat}(ht:P.underlying t=some (.slice e))(hs:A1 P e=some n){i o len k:Nat}{cap:Option Nat}(hk:k<len):
  AR P t (.slice (some (i,o)) len cap) (iv (k:Int))=some (.ptr (some (i,o+k * n))):=by
 have hb:Nat.blt k len=true:=by simpa[tP]using hk
 simp[AR,IB,Fw,ht,hs,AF,hb]
theorem CK{P:Program}{t:TypeId}(h:Ek P t=some false){s:AD}{i o:Nat}{u:AV}(hl:B1 s i o=some u):AG P s t (.ptr (some (i,o)))=some u:=by
 simp[AG,h,hl]
theorem AW{P:Program}{t e:TypeId}(ht:P.underlying t=some (.slice e)){s:AD}{a:Option (Nat×Nat)}{n:Nat}{cap:Option Nat}:Bb P s t (.slice a n cap)=some (iv (n:Int)):=by
 simp[Bb,ht]
theorem CC{a b:Nat}(h:a≤b):Nat.ble a b=true:=by simpa[tK]using h
theorem Py{a b:Nat}(h:a<b):Nat.blt a b=true:=by simpa[tP]using h
theorem EU{a b:Nat}(h:a=b):Nat.beq a b=true:=by subst h;simp
theorem Cs{a b:Nat}(h:a≠b):Nat.beq a b=false:=by
 cases hb:Nat.beq a b with
 | true=>exact absurd (tM hb) h
 | false=>rfl
theorem Lv{a b:Nat}(h:b<a):Nat.ble a b=false:=by
 cases hb:Nat.ble a b with
 | true=>rw[tK]at hb;omega
 | false=>rfl
theorem lL{t:AE AV}:∀ (cs:List AV)(k:Nat),(∀j u,cs[j]? = some u→t.get (k+j)=some u)→t.take k cs.length=some cs:=by
 intro cs
 induction cs with
 | nil=>intro k _;rfl
 | cons c cs ih =>
  intro k h
  have h0:=h 0 c rfl
  simp only[tq,AE.take_succ]
  rw[show k+0=k from rfl]at h0
  rw[h0]
  simp only
  rw[ih (k+1) (fun j u hj=>by rw[show k+1+j=k+(j+1)from by omega];exact h (j+1) u (by simpa using hj))]
def Holds(r:CG)(cs:List AV):Prop:=r.n=cs.length∧∀k u,cs[k]? = some u→r.c.get k=some u
theorem Holds.take{r:CG}{cs:List AV}(h:Holds r cs)(o:Nat)(l:List AV)(hl:∀j u,l[j]? = some u→cs[o+j]? = some u):r.c.take o l.length=some l:=
 lL l o fun j u hj=>h.2 _ u (hl j u hj)
theorem G5{s:AD}{i:Nat}{r:CG}{cs:List AV}(hg:s.heap.get i=some (.row r))(h:Holds r cs)(o:Nat)(l:List AV)(hle:o+l.length≤cs.length)(hl:∀j u,l[j]? = some u→cs[o+j]? = some u):
  BG s i o l.length=some l:=by
 simp[BG,rowAt,hg,AF,h.1,CC hle,h.take o l hl]
theorem Sr(e:TypeId)(sz:Nat)(cs:List AV):∃r,G7 e sz cs=.row r∧Holds r cs∧r.sz=sz∧r.spare=false∧r.mode=.own∧r.par=none:=by
 refine⟨_,rfl,⟨rfl,?_⟩,rfl,rfl,rfl,rfl⟩
 intro k u hk
 have hlt:k<cs.length:=by
  rcases tL k cs.length with h | h
  ·exact h
  ·rw[tY h]at hk;cases hk
 show(AE.fill .leaf 0 cs).get k=some u
 rw[AE.get_fill,if_pos ⟨tV _,by omega⟩]
 simpa using hk
structure F5(e:TypeId)(lo hi:Nat)(s:AD)(v:AV)(n sz:Nat)(cs:List AV)(i:Nat)(p:Option Nat):Prop where
 len:cs.length=n * sz
 ex:(v=.slice none 0 (some 0)∧n=0)∨(v=.slice (some (i,0)) n none∧lo≤i∧i<hi∧(∀q,p=some q→lo≤q∧q<hi∧q≠i) ∧
  ∃r,s.heap.get i=some (.row r)∧Holds r cs∧r.spare=true∧r.mode=.own∧r.sz=sz∧r.par=p∧r.elem=e)
theorem F5.zero(e:TypeId)(lo hi:Nat)(s:AD)(sz:Nat)(i:Nat)(p:Option Nat):F5 e lo hi s (.slice none 0 (some 0)) 0 sz [] i p:=⟨by simp,.inl ⟨rfl,rfl⟩⟩
theorem F5.frame{e:TypeId}{lo hi:Nat}{s s':AD}{v:AV}{n sz:Nat}{cs:List AV}{i:Nat}{p:Option Nat}(h:F5 e lo hi s v n sz cs i p)(k:lo≤i→i<hi→s'.heap.get i=s.heap.get i):F5 e lo hi s' v n sz cs i p:=by
 refine⟨h.len,?_⟩
 rcases h.ex with h1 | ⟨h1,h2,h3,h4,r,h5,h6⟩
 ·exact .inl h1
 ·exact .inr ⟨h1,h2,h3,h4,r,by rw[k h2 h3];exact h5,h6⟩
theorem F5.mono{e:TypeId}{lo hi hi':Nat}{s:AD}{v:AV}{n sz:Nat}{cs:List AV}{i:Nat}{p:Option Nat}(h:F5 e lo hi s v n sz cs i p)(k:hi≤hi'):F5 e lo hi' s v n sz cs i p:=by
 refine⟨h.len,?_⟩
 rcases h.ex with h1 | ⟨h1,h2,h3,h4,rest⟩
 ·exact .inl h1
 ·exact .inr ⟨h1,h2,by omega,fun q hq=>⟨(h4 q hq).1,by have:=(h4 q hq).2.1;omega,(h4 q hq).2.2⟩,rest⟩
theorem F5.cells{e:TypeId}{lo hi:Nat}{s:AD}{v:AV}{n sz:Nat}{cs:List AV}{i:Nat}{p:Option Nat}(h:F5 e lo hi s v n sz cs i p):∃a cap,v=.slice a n cap∧Aj hi s a cs:=by
 rcases h.ex with⟨rfl,rfl⟩ | ⟨rfl,h2,h3,h4,r,h5,h6,_⟩
 ·refine⟨none,some 0,rfl,?_⟩
  have:cs=[]:=by have:=h.len;simp at this;exact this
  subst this
  exact Aj.nil
 ·refine⟨_,_,rfl,fun k u hk=>⟨i,0,rfl,h3,?_⟩⟩
  have hlt:k<cs.length:=by
   rcases tL k cs.length with h' | h'
   ·exact h'
   ·rw[tY h']at hk;cases hk
  rw[tR]
  exact HP h5 (by rw[h6.1];exact hlt) (h6.2 k u hk)
def qC(s s':AD)(i:Nat)(p:Option Nat):Prop:=s.next≤s'.next∧∀j,j<s.next→j≠i→p≠some j→s'.heap.get j=s.heap.get j
theorem F5.appTo   {P : Program} {e : TypeId} {lo hi : Nat} {s : AD}  {v : AV} {n sz : Nat} {cs : List AV} {i : Nat} {p : Option Nat} (h : F5   e lo hi s v n sz cs i p) (hhi : hi ≤ s.next) (hlo : lo ≤ s.next) (hz : Cj     P e sz = true) (hsz : 0 < sz) {m : Nat} {add : List AV} (ha : add.length = m * sz) (hm : 0 < m) :
    ∃a cap v' s',v=.slice a n cap∧appTo P s e sz a n cap (m,add)=some (v',s')∧∃i' p',F5 e lo s'.next s' v' (n+m) sz (cs++add) i' p'∧qC s s' i p∧lo≤s'.next∧(i'=s.next)∧(p'=none∨p'=some i)∧s'.next=s.next+1 ∧
      (∀cell,cell<cs.length→B1 s' i cell=B1 s i cell∨n=0):=by
  have hlen:(cs++add).length=(n+m) * sz:=by rw[tX,h.len,ha,tj]
  rcases h.ex with⟨rfl,rfl⟩ | ⟨rfl,h2,h3,h4,r,h5,h6,h7,h8,h9,h10,h11⟩
  · have hcs:cs=[]:=by have:=h.len;simp at this;exact this
    subst hcs
    refine⟨none,some 0,.slice (some (s.next,0)) m none,newObj s (Co e sz (AE.fill .leaf 0 add) add.length none true),rfl,?_,s.next,none,⟨by simpa using hlen,.inr ⟨by simp,hlo,t6 _,(fun q hq=>by cases hq),_,(by rw[AQ,if_pos rfl];rfl),⟨rfl,?_⟩,rfl,rfl,rfl,rfl,rfl⟩⟩,
      ⟨t7 _,fun j hj _ _=>by rw[AQ,if_neg (by omega)]⟩,Nat.le_succ_of_le hlo,rfl,.inl rfl,rfl,fun _ _=>.inr rfl⟩
    · simp[Am.appTo,CB,Cs (show m≠0 by omega),AF,hz]
    · intro k u hk
      show(AE.fill .leaf 0 add).get k=some u
      have hk':add[k]? = some u:=by simpa using hk
      have hlt:k<add.length:=by
        rcases tL k add.length with h' | h'
        · exact h'
        · rw[tY h']at hk';cases hk'
      rw[AE.get_fill,if_pos ⟨tV _,by omega⟩]
      simpa using hk'
  · have hrow : rowAt s i = some r := by simp [rowAt, h5]
    have hrn:r.n=n * sz:=by rw[h6.1,h.len]
    have hload:BG s i 0 (n * sz)=some cs:=by
      have:=G5 h5 h6 0 cs (by omega) (fun j u hj=>by simpa using hj)
      rw[h.len]at this
      exact this
    have hgt:¬ (0+(n+m) * sz≤r.n):=by
      rw[hrn,tj]
      have:0<m * sz:=Nat.mul_pos hm hsz
      omega
    let s2:=setObj (A3 s i r) i (.row { r with mode:=.sealed,par:=none })
    let s':=newObj s2 (Co e sz (r.c.fill (n * sz) add) (cs++add).length (some i) (r.bytes && Nat.beq 0 0))
    have hun:∀j,j≠i→p≠some j→(A3 s i r).heap.get j=s.heap.get j:=by
      intro j hj hp
      unfold A3
      rw[h10]
      cases p with
      | none=>rfl
      | some q =>
        simp only
        rw[Cs (h4 q rfl).2.2,cond_false,Ja,if_neg (fun e=>hp (by rw[e]))]
    have hnext:(A3 s i r).next=s.next:=by
      unfold A3
      split
      · rfl
      · cases Nat.beq _ _<;>rfl
    have hs2n:s2.next=s.next:=hnext
    refine⟨_,_,.slice (some (s.next,0)) (n+m) none,s',rfl,?_,s.next,some i,⟨hlen,.inr ⟨rfl,hlo,by show s.next<s2.next+1;omega,?_,_,by rw[AQ,if_pos hs2n.symm];rfl,⟨rfl,?_⟩,rfl,rfl,rfl,rfl,rfl⟩⟩,⟨by show s.next≤s2.next+1;omega,?_⟩,by show lo≤s2.next+1;omega,rfl,.inr rfl,by show s2.next+1=_;omega,?_⟩
    · simp only[Am.appTo]
      rw[hrow,Option.bind_some]
      unfold Iq
      rw[h9,EU rfl]
      simp only[AF,cond_true]
      rw[show Nat.ble (0+(n+m) * sz) r.n=false from Lv (by omega),cond_false,hload,Option.bind_some,h7,cond_true]
      unfold EJ
      rw[h8,hz,EU h11,show Nat.beq (0+n * sz) r.n=true from EU (by omega)]
      simp only[B8,Bool.and_self,AF,cond_true,CQ,EU rfl]
      show some (AV.slice (some (s.next,0)) (n+m) none,newObj s2 _)=_
      rfl
    · intro q hq
      injection hq with hq
      subst hq
      refine⟨h2,?_,?_⟩
      · show i<s2.next+1
        omega
      · omega
    · intro k u hk
      show(r.c.fill (n * sz) add).get k=some u
      rw[AE.get_fill]
      by_cases hlt:k<cs.length
      · rw [if_neg (by rw [← h.len]; omega)]
        rw[uB hlt]at hk
        exact h6.2 k u hk
      · rw[uC (by omega)]at hk
        have hk2:k - cs.length<add.length:=by
          rcases tL (k - cs.length) add.length with h' | h'
          · exact h'
          · rw[tY h']at hk;cases hk
        rw[if_pos ⟨by rw[← h.len];omega,by rw[← h.len];omega⟩,← h.len]
        exact hk
    · intro j hj hji hp
      show s'.heap.get j=_
      rw[AQ,if_neg (by omega),NA,if_neg hji]
      exact hun j hji hp
    · intro cell hc
      left
      have e1:s'.heap.get i=some (.row { r with mode:=.sealed,par:=none }):=by
        rw[AQ,if_neg (by omega),NA,if_pos rfl]
      simp only[B1,rowAt,e1,h5,Option.bind_some]
theorem ZV{s:AD}{i o n size:Nat}{l:List AV}(h:BG s i o (n * size)=some l):Vn s i o n size=some l:=by
 unfold Vn
 cases hn0:Nat.beq n 0 with
 | false=>exact h
 | true =>
  have:=tM hn0
  subst this
  rw[Nat.zero_mul]at h
  unfold BG at h
  simp only[tH]at h
  obtain⟨r,_,h⟩:=h
  cases hb:Nat.ble (o+0) r.n with
  | true=>rw[hb]at h;exact h
  | false=>rw[hb]at h;cases h
theorem D1{P:Program}{st xt e:TypeId}{size by_:Nat}(ht:P.underlying st=some (.slice e))(hs:A1 P e=some size)(hb:DL P e=some by_)(h0:0<size)(hx:Bp P xt=true){s:AD}{a ax:Option (Nat×Nat)}{n m:Nat}{cap cx:Option Nat}{add:List AV}
  (hsrc:B4 P s e size (.slice ax m cx)=some (m,add)) (hc:Ag add=true) (h1:(n+m) * by_≤1099511627776) (h2:n+m≤1099511627776):
  Ay P s [st,xt] [.slice a n cap,.slice ax m cx]=appTo P s e size a n cap (m,add):=by
 simp[Ay,ht,hs,hb,AF,Cs (show size≠0 by omega),hx,hsrc,hc,CC h1,CC h2]
def Cg(e:TypeId)(s:AD)(v:AV)(n sz:Nat)(cs:List AV)(O:List Nat):Prop:=
 (∃a,v=.slice a n (some n)∧O=[]∧cs.length=n * sz∧(a=none→n=0)∧∀i o,a=some (i,o)→i<s.next∧BG s i o (n * sz)=some cs) ∨
 (∃i p,v=.slice (some (i,0)) n none∧F5 e 0 s.next s v n sz cs i p∧O=i::p.toList)
theorem Cg.nil{e:TypeId}(s:AD)(sz:Nat):Cg e s (.slice none 0 (some 0)) 0 sz [] []:=.inl ⟨none,rfl,rfl,by simp,fun _=>rfl,fun i o h=>by cases h⟩
theorem Cg.len{e:TypeId}{s:AD}{v:AV}{n sz:Nat}{cs:List AV}{O:List Nat}(h:Cg e s v n sz cs O):cs.length=n * sz:=by
 rcases h with⟨a,h1,h2,h3,h4⟩ | ⟨i,p,h1,h2,h3⟩
 ·exact h3
 ·exact h2.len
theorem gJ{s s':AD}{i o n:Nat}(h:s'.heap.get i=s.heap.get i):BG s' i o n=BG s i o n:=by unfold BG rowAt;rw[h]
def Ci:AV→Option Nat
 | .slice (some (i,_)) _ _=>some i
 | _=>none
theorem Cg.frame{e:TypeId}{s s':AD}{v:AV}{n sz:Nat}{cs:List AV}{O:List Nat}(h:Cg e s v n sz cs O)(hn:s.next≤s'.next)(hf:∀j,Ci v=some j→s'.heap.get j=s.heap.get j):Cg e s' v n sz cs O:=by
 rcases h with⟨a,rfl,h2,h3,h4,h5⟩ | ⟨i,p,rfl,h2,h3⟩
 ·refine .inl ⟨a,rfl,h2,h3,h4,fun i o e=>?_⟩
  obtain⟨k1,k2⟩:=h5 i o e
  subst e
  exact⟨by omega,by rw[gJ (hf i rfl)];exact k2⟩
 ·exact .inr ⟨i,p,rfl,(h2.mono hn).frame fun _ _=>hf i rfl,h3⟩
theorem Cg.cells   {e : TypeId} {s : AD}  {v : AV} {n sz : Nat} {cs : List AV} {O : List Nat} (h : Cg   e s v n sz cs O) : ∃ a cap, v = .slice a n cap ∧ Aj      s.next s a cs := by
  rcases h with⟨a,rfl,h2,h3,h4,h5⟩ | ⟨i,p,rfl,h2,h3⟩
  · refine⟨a,_,rfl,fun k u hk=>?_⟩
    have hlt:k<cs.length:=by
      rcases tL k cs.length with h | h
      · exact h
      · rw[tY h]at hk;cases hk
    cases a with
    | none=>rw[h4 rfl]at h3;simp at h3;subst h3;simp at hlt
    | some io =>
      obtain⟨i,o⟩:=io
      obtain⟨k1,k2⟩:=h5 i o rfl
      refine⟨i,o,rfl,k1,?_⟩
      unfold BG at k2
      simp only[tH]at k2
      obtain⟨r,g1,g2⟩:=k2
      have g3:Nat.ble (o+n * sz) r.n=true∧r.c.take o (n * sz)=some cs:=by
        cases hb:Nat.ble (o+n * sz) r.n with
        | true=>rw[hb]at g2;exact⟨rfl,g2⟩
        | false=>rw[hb]at g2;cases g2
      have g4:o+n * sz≤r.n:=by simpa[tK]using g3.1
      have g5:=AE.take_get g3.2 k (by omega)
      rw[hk]at g5
      have g6:s.heap.get i=some (.row r):=by
        unfold rowAt at g1
        split at g1
        · injection g1 with g1;subst g1;assumption
        · cases g1
      exact HP g6 (by omega) g5
  · obtain⟨a,cap,e,hc⟩:=h2.cells
    exact⟨a,cap,e,hc⟩
theorem Cg.append   {P : Program} {st xt e : TypeId} {sz by_ : Nat} (ht : P.underlying st = some (.slice e)) (hs : A1    P e = some sz) (hb : DL     P e = some by_) (h0 : 0 < sz) (hx : Bp           P xt = true) (hz : Cj     P e sz = true) {s : AD}  {v : AV} {n : Nat} {cs : List AV} {O : List Nat} (h : Cg   e s v n sz cs O)
    {ax:Option (Nat×Nat)} {m:Nat} {cx:Option Nat} {add:List AV} (hsrc:B4 P s e sz (.slice ax m cx)=some (m,add)) (ha:add.length=m * sz) (hc:Ag add=true) (h1:(n+m) * by_≤1099511627776) (h2:n+m≤1099511627776):
    ∃v' s' O',Ay P s [st,xt] [v,.slice ax m cx]=some (v',s')∧Cg e s' v' (n+m) sz (cs++add) O'∧s.next≤s'.next∧s'.next≤s.next+1∧(∀j,j<s.next→j ∉ O→s'.heap.get j=s.heap.get j)∧(∀j∈O',j∈O∨s.next≤j)∧(∀j,Ci v'=some j→Ci v=some j∨s.next≤j):=by
  have hlen:=h.len
  rcases uL m with rfl | hm
  ·
    have hadd:add=[]:=by simp at ha;exact ha
    subst hadd
    rw[ud,tZ]
    rcases h with⟨a,rfl,rfl,h3,h4,h5⟩ | ⟨i,p,rfl,h6,h7⟩
    · refine ⟨.slice a n (some n), s, [], ?_, .inl ⟨a, rfl, rfl, h3, h4, h5⟩, tJ          _, t7          _, fun _ _ _ => rfl, fun j hj => (by cases hj), fun j hj => .inl hj⟩
      rw[D1 ht hs hb h0 hx hsrc hc h1 h2]
      cases a with
      | none=>rw[h4 rfl];rfl
      | some io =>
        obtain⟨i,o⟩:=io
        simp only[appTo,Gk,tZ,CC (tJ n),cond_true,Bi,Option.bind_some]
    · refine ⟨.slice (some (i, 0)) n none, s, O, ?_, .inr ⟨i, p, rfl, h6, h7⟩, tJ          _, t7          _, fun _ _ _ => rfl, fun j hj => .inl hj, fun j hj => .inl hj⟩
      rw[D1 ht hs hb h0 hx hsrc hc h1 h2]
      rcases h6.ex with⟨e',_⟩ | ⟨_,k1,k2,k3,r,k4,k5,k6,k7,k8,k9⟩
      · cases e'
      · have hrow : rowAt s i = some r := by simp [rowAt, k4]
        have hrn:r.n=n * sz:=by rw[k5.1,h6.len]
        simp only[appTo,hrow,Option.bind_some,Iq,k8,EU rfl,AF,cond_true,tZ,tR]
        rw[show Nat.ble (n * sz) r.n=true from CC (by omega)]
        simp only[cond_true,Bi,Option.bind_some]
  · rcases h with ⟨a, rfl, rfl, h3, h4, h5⟩ | ⟨i, p, rfl, h6, h7⟩
    ·
      refine⟨.slice (some (s.next,0)) (n+m) none,newObj s (Co e sz (AE.fill .leaf 0 (cs++add)) (cs++add).length none true),[s.next],?_,?_,t7 _,tJ _,fun j hj _=>by rw[AQ,if_neg (by omega)],fun j hj=>by simp at hj;right;omega,fun j hj=>by simp[Ci]at hj;right;omega⟩
      · rw[D1 ht hs hb h0 hx hsrc hc h1 h2]
        cases a with
        | none =>
          have hn0:=h4 rfl
          subst hn0
          have:cs=[]:=by simp at h3;exact h3
          subst this
          simp only[appTo,Cs (show m≠0 by omega),cond_false,CB,AF,hz,cond_true,uv,tR]
        | some io =>
          obtain⟨i,o⟩:=io
          obtain⟨k1,k2⟩:=h5 i o rfl
          simp only[appTo,Gk,Lv (show n<n+m by omega),cond_false,k2,Option.bind_some,CB,AF,hz,cond_true]
      · refine .inr ⟨s.next,none,rfl,⟨by rw[tX,h3,ha,tj],.inr ⟨rfl,tV _,t6 _,fun q hq=>(by cases hq),_,by rw[AQ,if_pos rfl];rfl,⟨rfl,?_⟩,rfl,rfl,rfl,rfl,rfl⟩⟩,rfl⟩
        intro k u hk
        have hlt:k<(cs++add).length:=by
          rcases tL k (cs++add).length with h' | h'
          · exact h'
          · rw[tY h']at hk;cases hk
        show(AE.fill .leaf 0 (cs++add)).get k=some u
        rw[AE.get_fill,if_pos ⟨tV _,by omega⟩]
        simpa using hk
    · obtain⟨a,cap,v',s',e1,e2,i',p',g1,g2,g3,g4,g5,g6,_⟩:=h6.appTo (tJ _) (tV _) hz h0 ha hm
      injection e1 with e1 e3 e4
      subst e1;subst e4
      have hv':v'=.slice (some (i',0)) (n+m) none:=by
        rcases g1.ex with⟨_,e⟩ | ⟨e,_⟩
        · omega
        · exact e
      refine⟨v',s',i'::p'.toList,?_,.inr ⟨i',p',hv',g1,rfl⟩,g2.1,by omega,?_,?_,?_⟩
      · rw[D1 ht hs hb h0 hx hsrc hc h1 h2]
        exact e2
      · intro j hj hO
        subst h7
        refine g2.2 j hj (fun e=>hO (by simp[e])) (fun e=>hO (by simp[e]))
      · intro j hj
        subst h7
        rcases uT.1 hj with rfl | hj
        · right;omega
        · rcases g5 with rfl | rfl
          · cases hj
          · simp at hj;left;simp[hj]
      · intro j hj
        rw[hv']at hj
        simp[Ci]at hj
        right;omega
theorem Rz{P:Program}{e:TypeId}{s:AD}{i:Nat}{cs:List AV}{n:Nat}{cap:Option Nat}{sz:Nat}(ty:TypeId)(z:Nat)(hg:s.heap.get i=some (G7 ty z cs))(hl:cs.length=n * sz):B4 P s e sz (.slice (some (i,0)) n cap)=some (n,cs):=by
 obtain⟨r,h1,h2,_⟩:=Sr ty z cs
 rw[h1]at hg
 have:=G5 hg h2 0 cs (by omega) (fun j u hj=>by simpa using hj)
 rw[hl]at this
 simp[B4,ZV this]
section
variable{P:Program}{s:AD}{os:List AI}{b k i o off n t e sz:Nat}{sp:Bool}{cs vs:List AV}
theorem Xg(cs:List AV):(AV.agg cs).cells=cs:=rfl
theorem Xl(a:Option (Nat×Nat)):(AV.ptr a).cells=[.ptr a]:=rfl
theorem Xm(a:Option (Nat×Nat))(n:Nat)(c:Option Nat):(AV.slice a n c).cells=[.slice a n c]:=rfl
theorem Xn(f:FuncId)(a c:List AV):(AV.func f a c).cells=[.func f a c]:=rfl
theorem Xo:Ag []=true:=rfl
theorem Xp(v:AV)(l:List AV):Ag (v::l)=(v.isCell && Ag l):=rfl
theorem Xu(a:Option (Nat×Nat)):(AV.ptr a).isCell=true:=rfl
theorem Xv(a:Option (Nat×Nat))(n:Nat)(c:Option Nat):(AV.slice a n c).isCell=true:=rfl
theorem Xf{α:Type}(x:Option α):AF true x=x:=rfl
theorem jD(a b:Nat):Nat.beq a b=decide (a=b):=by
 rw[Bool.eq_iff_iff,decide_eq_true_eq,uO]
theorem jG(a b:Nat):Nat.ble a b=decide (a≤b):=by
 rw[Bool.eq_iff_iff,decide_eq_true_eq,tK]
theorem We(h:Ek P t=some false):AG P s t (.ptr (some (i,o)))=Jj (s.heap.get i) o:=by
 unfold AG
 rw[h];rfl
theorem Wf(h:Ek P t=some true):AG P s t (.ptr (some (i,o)))=(A1 P t).bind fun n=>(GR (s.heap.get i) o n).bind fun l=>some (.agg l):=by
 unfold AG
 rw[h];rfl
theorem Wg(v:AV):AY P s t (.ptr (some (i,o))) v=(A1 P t).bind fun n=>AF (decide (v.cells.length=n)) (Bi s i o v.cells):=by
 unfold AY
 simp only[jD]
def sR:Option AI→Bool
 | some (.row r)=>B8 r.mode && r.par.isNone
 | _=>false
def rv(off:Nat)(vs:List AV):Option AI→Option AI
 | some (.row r)=>AF (Nat.ble (off+vs.length) r.n && Ag vs) (some (.row { r with c:=r.c.fill off vs,par:=none }))
 | _=>none
theorem Wj(e sz:Nat)(sp:Bool)(cs:List AV):sR (some (R e sz sp cs))=true:=rfl
theorem Wk(e sz:Nat)(sp:Bool)(cs vs:List AV)(off:Nat):rv off vs (some (R e sz sp cs))=AF (decide (off+vs.length≤cs.length) && Ag vs) (some (R e sz sp (CZ cs off vs))):=by
 show AF (Nat.ble (off+vs.length) cs.length && Ag vs) (some (AI.row { elem:=e,sz,n:=cs.length,c:=(T0 cs).fill off vs,spare:=sp,mode:=.own,par:=none,bytes:=true }))=_
 rw[jG]
 by_cases h:off+vs.length≤cs.length
 ·rw[NT _ _ _ h]
  simp only[h,decide_true]
  rw[R,Fi]
 ·simp only[h,decide_false,Bool.false_and]
  rfl
theorem Wh{v:AV}(h:sR (s.heap.get i)=true):Bi s i off (v::vs)=(rv off (v::vs) (s.heap.get i)).bind fun o'=>some (setObj s i o'):=by
 unfold Bi
 rw[HY]
 cases hg:s.heap.get i with
 | none=>rw[hg]at h;cases h
 | some ob =>
  rw[hg]at h
  cases ob<;>first | (cases h;done) | skip
  rename_i r
  simp only[sR,Bool.and_eq_true]at h
  have hp:r.par=none:=by cases hh:r.par with | none=>rfl | some _=>rw[hh]at h;simp at h
  show AF (B8 r.mode && Nat.ble (off+(v::vs).length) r.n && Ag (v::vs)) _=(AF (Nat.ble (off+(v::vs).length) r.n && Ag (v::vs)) _).bind _
  rw[h.1,Bool.true_and,A3,hp]
  cases Nat.ble (off+(v::vs).length) r.n && Ag (v::vs)<;>rfl
theorem Wx(cs:List AV)(off:Nat):CZ cs off []=cs:=rfl
theorem Wy(cs:List AV)(off:Nat)(v:AV)(vs:List AV):CZ cs off (v::vs)=CZ (cs.set off v) (off+1) vs:=rfl
theorem Wz(e:TypeId)(v:AV):DD e v=some (R e 0 false v.cells,.ptr):=rfl
theorem Xa(e:TypeId):At P e=(Dy P e).bind fun z=>some (R e 0 false z.cells,.ptr):=rfl
theorem Xb(i:Nat):Made.ptr.val i=.ptr (some (i,0)):=rfl
theorem Xd(i n:Nat):(Made.slice n).val i=.slice (some (i,0)) n (some n):=rfl
theorem Xe(a:Nat×Nat):CD (.ptr (some a))=some (.ptr (some a)):=rfl
end
abbrev AU(n:Nat):AV:=.int .u64 (n:Int)
abbrev BS(n:Nat):AV:=.int .u32 (n:Int)
theorem N5{n:Nat}(h:n<18446744073709551616):Cb .u64 (n:Int)=(n:Int):=N4 (by simp only[BM,tK];omega)
theorem Fp(n:Int):IntKind.wrap .u64 n=n % 18446744073709551616:=by
 simp[IntKind.wrap,IntKind.signed,IntKind.bits]
theorem O7(n:Int):IntKind.wrap .u32 n=n % 4294967296:=by
 simp[IntKind.wrap,IntKind.signed,IntKind.bits]
theorem Zi(n:Int):Cb .u64 n=n % 18446744073709551616:=by
 unfold Cb
 cases h:BM .u64 n with
 | true =>
  cases n with
  | ofNat m =>
   simp only[BM,tK]at h
   simp only[cond_true]
   rw[show Int.ofNat m=(m:Int)from rfl]
   omega
  | negSucc m=>cases h
 | false=>exact Fp n
theorem Zh(n:Int):Cb .u32 n=n % 4294967296:=by
 unfold Cb
 cases h:BM .u32 n with
 | true =>
  cases n with
  | ofNat m =>
   simp only[BM,tK]at h
   simp only[cond_true]
   rw[show Int.ofNat m=(m:Int)from rfl]
   omega
  | negSucc m=>cases h
 | false=>exact O7 n
section
variable(P:Program)(t:TypeId){a b:Nat}
theorem HG(h:a+b<18446744073709551616):AP P .add t (AU a) (AU b)=some (AU (a+b)):=by
 show some (AV.int .u64 (Cb .u64 ((a:Int)+(b:Int))))=_
 rw[← Int.natCast_add,N5 h]
theorem Tv(h:a * b<18446744073709551616):AP P .mul t (AU a) (AU b)=some (AU (a * b)):=by
 show some (AV.int .u64 (Cb .u64 ((a:Int) * (b:Int))))=_
 rw[← Int.natCast_mul,N5 h]
theorem Pg(hb:b≤18446744073709551616):AP P .sub t (AU a) (AU b)=some (AU ((a+18446744073709551616 - b) % 18446744073709551616)):=by
 show some (AV.int .u64 (Cb .u64 ((a:Int) - (b:Int))))=_
 rw[Zi]
 congr 2
 omega
theorem sF(k:IntKind):AP P .lss t (.int k (a:Int)) (.int k (b:Int))=some (.bool (decide (a<b))):=by
 have:∀k,Bu k k=true:=fun k=>by cases k<;>rfl
 show AF (Bu k k) (some (AV.bool (O9 (a:Int) (b:Int))))=_
 rw[this,Cv]
 simp[AF]
theorem Pe(k:IntKind):AP P .gtr t (.int k (a:Int)) (.int k (b:Int))=some (.bool (decide (b<a))):=by
 have:∀k,Bu k k=true:=fun k=>by cases k<;>rfl
 show AF (Bu k k) (some (AV.bool (O9 (b:Int) (a:Int))))=_
 rw[this,Cv]
 simp[AF]
theorem nZ(k:IntKind):AP P .eql t (.int k (a:Int)) (.int k (b:Int))=some (.bool (decide (a=b))):=by
 have:∀k,Bu k k=true:=fun k=>by cases k<;>rfl
 show AF (Bu k k) (some (AV.bool (R9 (a:Int) (b:Int))))=_
 rw[this,GI]
 simp only[AF,cond_true]
 congr 2
 by_cases h:a=b
 ·subst h;simp
 ·have:(a:Int)≠b:=by omega
  simp[h,this]
theorem ig(ha:a<18446744073709551616)(hb:b≠0):AP P .quo t (AU a) (AU b)=some (AU (a / b)):=by
 show(DQ P (Op.intDiv .quo .u64 (a:Int) (b:Int))).bind ofValue=_
 have hb':¬ ((b:Int)=0):=by omega
 unfold Op.intDiv
 rw[if_neg hb']
 show some (AV.int .u64 (IntKind.wrap .u64 ((a:Int).tdiv (b:Int))))=_
 rw[Fp,show(a:Int).tdiv (b:Int)=((a / b:Nat):Int)from rfl]
 congr 2
 have:a / b≤a:=ux a b
 generalize a / b=q at this
 omega
theorem ii(hb:b≠0):AP P .rem t (AU a) (AU b)=some (AU (a % b)):=by
 show(DQ P (Op.intDiv .rem .u64 (a:Int) (b:Int))).bind ofValue=_
 have hb':¬ ((b:Int)=0):=by omega
 unfold Op.intDiv
 rw[if_neg hb']
 show some (AV.int .u64 ((a:Int).tmod (b:Int)))=_
 rfl
theorem J8{k:IntKind}{n:Nat}(hn:n≤64):AP P .shr t (AU a) (.int k (n:Int))=some (AU (a / 2 ^ n)):=by
 show(DQ P (Op.shift .shr .u64 (a:Int) k (n:Int))).bind ofValue=_
 unfold Op.shift
 rw[if_neg (by omega)]
 show some (AV.int .u64 ((a:Int).fdiv (2 ^ min (n:Int).toNat 64)))=_
 rw[show min (n:Int).toNat 64=n by omega]
 congr 2
 rw[show((2:Int) ^ n)=((2 ^ n:Nat):Int) by push_cast;rfl]
 exact(Int.ofNat_fdiv a (2 ^ n)).symm
theorem Pf{k:IntKind}{n:Nat}(hn:n≤64)(h:a * 2 ^ n<18446744073709551616):AP P .shl t (AU a) (.int k (n:Int))=some (AU (a * 2 ^ n)):=by
 show(DQ P (Op.shift .shl .u64 (a:Int) k (n:Int))).bind ofValue=_
 unfold Op.shift
 rw[if_neg (by omega)]
 show some (AV.int .u64 (IntKind.wrap .u64 ((a:Int) * 2 ^ min (n:Int).toNat 64)))=_
 rw[show min (n:Int).toNat 64=n by omega,Fp]
 congr 2
 rw[show(a:Int) * 2 ^ n=((a * 2 ^ n:Nat):Int) by push_cast;rfl]
 omega
theorem Ll(h:a<18446744073709551616):AP P .and t (AU a) (.int .u64 4294967295)=some (AU (a % 4294967296)):=by
 show(DQ P (Op.intBits .and .u64 (a:Int) 4294967295)).bind ofValue=_
 show some (AV.int .u64 (IntKind.wrap .u64 ((BitVec.ofInt 64 (a:Int) &&& BitVec.ofInt 64 4294967295).toNat:Int)))=_
 rw[Fp]
 congr 2
 have:(BitVec.ofInt 64 (a:Int) &&& BitVec.ofInt 64 4294967295).toNat=a % 4294967296:=by
  rw[BitVec.ofInt_natCast,show BitVec.ofInt 64 4294967295=BitVec.ofNat 64 4294967295 from(by decide),BitVec.toNat_and,BitVec.toNat_ofNat,BitVec.toNat_ofNat]
  rw[tr (show a<2 ^ 64 by omega),show 4294967295 % 2 ^ 64=2 ^ 32 - 1 by decide,Nat.and_two_pow_sub_one_eq_mod]
 rw[this]
 omega
theorem lS(h:a * 4294967296+b<18446744073709551616)(hb:b<4294967296):AP P .or t (AU (a * 4294967296)) (AU b)=some (AU (a * 4294967296+b)):=by
 show(DQ P (Op.intBits .or .u64 ((a * 4294967296:Nat):Int) (b:Int))).bind ofValue=_
 show some (AV.int .u64 (IntKind.wrap .u64 ((BitVec.ofInt 64 ((a * 4294967296:Nat):Int) ||| BitVec.ofInt 64 (b:Int)).toNat:Int)))=_
 rw[Fp]
 congr 2
 have:(BitVec.ofInt 64 ((a * 4294967296:Nat):Int) ||| BitVec.ofInt 64 (b:Int)).toNat=a * 4294967296+b:=by
  rw[BitVec.ofInt_natCast,BitVec.ofInt_natCast,BitVec.toNat_or,BitVec.toNat_ofNat,BitVec.toNat_ofNat]
  have e64:(2:Nat) ^ 64=18446744073709551616:=by decide
  have e32:(2:Nat) ^ 32=4294967296:=by decide
  have h1:a * 4294967296<18446744073709551616:=uH (Nat.le_add_right _ _) h
  have h2:b<18446744073709551616:=Nat.lt_trans hb (by decide)
  rw[e64,tr h1,tr h2]
  have h3:b<2 ^ 32:=by rw[e32];exact hb
  have:=Nat.two_pow_add_eq_or_of_lt h3 a
  rw[e32,tU]at this
  exact this.symm
 rw[this]
 have h5:((a * 4294967296+b:Nat):Int)<18446744073709551616:=Int.ofNat_lt.2 h
 exact Int.emod_eq_of_lt (Int.natCast_nonneg _) h5
end
def Gg(e:TypeId)(sz:Nat)(s:AD)(v:AV)(n:Nat)(cs:List AV)(O:List Nat):Prop:=
 (v=.slice none 0 (some 0)∧n=0∧cs=[]∧O=[])∨∃i p,v=.slice (some (i,0)) n none∧F5 e 0 s.next s v n sz cs i p∧O=i::p.toList
section
variable{e sz n:Nat}{s s':AD}{v:AV}{cs:List AV}{O:List Nat}
theorem Gg.nil(e sz:Nat)(s:AD):Gg e sz s (.slice none 0 (some 0)) 0 [] []:=.inl ⟨rfl,rfl,rfl,rfl⟩
theorem Gg.lt  (h : Gg  e sz s v n cs O) : ∀ j ∈ O, j < s.next := by
  rcases h with⟨_,_,_,rfl⟩ | ⟨i,p,hv,h,rfl⟩
  · intro j hj;cases hj
  · rcases h.ex with ⟨h1, _⟩ | ⟨_, _, h2, h3, _⟩
    · rw[hv]at h1;cases h1
    · intro j hj
      rcases uT.1 hj with rfl | hj
      · exact h2
      · cases p with
        | none=>cases hj
        | some q=>simp at hj;subst hj;exact(h3 _ rfl).2.1
theorem Gg.slotO(h:Gg e sz s v n cs O){j:Nat}(hj:Ci v=some j):j∈O:=by
 rcases h with⟨rfl,_⟩ | ⟨i,p,rfl,_,rfl⟩
 ·cases hj
 ·injection hj with hj;subst hj;simp
theorem Gg.frame(h:Gg e sz s v n cs O)(hn:s.next≤s'.next)(hf:∀j∈O,s'.heap.get j=s.heap.get j):Gg e sz s' v n cs O:=by
 rcases h with h | ⟨i,p,hv,h,rfl⟩
 ·exact .inl h
 ·exact .inr ⟨i,p,hv,(h.mono hn).frame fun _ _=>hf i (by simp),rfl⟩
theorem Gg.slice(h:Gg e sz s v n cs O):∃a cap,v=.slice a n cap∧Aj s.next s a cs:=by
 rcases h with⟨rfl,rfl,rfl,_⟩ | ⟨i,p,_,h,_⟩
 ·exact⟨none,some 0,rfl,Aj.nil⟩
 ·exact h.cells
theorem X3{r:CG}{cs:List AV}(h:Holds r cs){o m:Nat}(hle:o+m≤cs.length):GR (some (.row r)) o m=some ((cs.drop o).take m):=by
 show AF (Nat.ble (o+m) r.n) (r.c.take o m)=_
 rw[CC (show o+m≤r.n by rw[h.1];exact hle)]
 have hl:((cs.drop o).take m).length=m:=by simp;omega
 have:=h.take o ((cs.drop o).take m) (fun j u hj=>by
  have hjm:j<m:=by
   rcases tL j m with h' | h'
   ·exact h'
   ·rw[tY (by omega)]at hj;cases hj
  rw[uZ hjm,uk]at hj
  exact hj)
 rw[hl]at this
 exact this
theorem Gg.append  {P : Program} {st xt by_ : Nat} (ht : P.underlying st = some (.slice e)) (hs : A1    P e = some sz) (hb : DL     P e = some by_) (h0 : 0 < sz) (hx : Bp           P xt = true) (hz : Cj     P e sz = true) (h : Gg  e sz s v n cs O)
    {ax:Option (Nat×Nat)} {m:Nat} {cx:Option Nat} {add:List AV} (hm:0<m) (hsrc:B4 P s e sz (.slice ax m cx)=some (m,add)) (ha:add.length=m * sz) (hc:Ag add=true) (h1:(n+m) * by_≤1099511627776) (h2:n+m≤1099511627776):
    ∃v' s' O',Ay P s [st,xt] [v,.slice ax m cx]=some (v',s')∧Gg e sz s' v' (n+m) (cs++add) O'∧s'.next=s.next+1∧(∀j,j<s.next→j ∉ O→s'.heap.get j=s.heap.get j)∧(∀j∈O',j∈O∨s.next≤j)∧Ci v'=some s.next:=by
  have key:∀ (i:Nat) (p:Option Nat),F5 e 0 s.next s v n sz cs i p→(∀j,j<s.next→j ∉ O→j≠i∧p≠some j)→(∀j,j=i∨p=some j→j∈O∨s.next≤j) →
      ∃v' s' O',Ay P s [st,xt] [v,.slice ax m cx]=some (v',s')∧Gg e sz s' v' (n+m) (cs++add) O'∧s'.next=s.next+1∧(∀j,j<s.next→j ∉ O→s'.heap.get j=s.heap.get j)∧(∀j∈O',j∈O∨s.next≤j)∧Ci v'=some s.next:=by
    intro i p hg hi hO
    obtain⟨a,cap,v',s',rfl,happ,i',p',hg',hap,_,rfl,hp',hn',_⟩:=hg.appTo (P:=P) (tJ _) (tV _) hz h0 ha hm
    have hv':v'=.slice (some (s.next,0)) (n+m) none:=by
      rcases hg'.ex with⟨_,h0'⟩ | ⟨h1',_⟩
      · omega
      · exact h1'
    refine⟨v',s',s.next::p'.toList,by rw[D1 ht hs hb h0 hx hsrc hc h1 h2];exact happ,.inr ⟨s.next,p',hv',hg',rfl⟩,hn',fun j hj hjO=>?_,fun j hj=>?_,by rw[hv'];rfl⟩
    · exact hap.2 j hj (hi j hj hjO).1 (hi j hj hjO).2
    · rcases uT.1            hj with rfl | hj
      · exact .inr (tJ _)
      · rcases hp' with rfl | rfl
        · cases hj
        · simp at hj;subst hj;exact hO _ (.inl rfl)
  rcases h with⟨rfl,rfl,rfl,rfl⟩ | ⟨i,p,rfl,hg,rfl⟩
  · exact key s.next none (F5.zero _ _ _ _ _ _ _) (fun j hj _=>⟨by omega,by simp⟩) (fun j hj=>by rcases hj with rfl | hj;exact .inr (tJ _);cases hj)
  · refine key i p hg (fun j hj hjO => ⟨fun e => hjO (by simp [e]), fun e => hjO (by simp [e])⟩) (fun j hj => ?_)
    rcases hj with rfl | rfl<;>simp
end
section
variable{P:Program}{s:AD}{i e sz o t:Nat}{sp:Bool}{cs:List AV}{v:AV}
theorem Cr(hs:A1 P t=some 1)(hg:s.heap.get i=some (R e sz sp cs))(ho:o<cs.length)(hv:v.isCell=true):
  AY P s t (.ptr (some (i,o))) v=some (setObj s i (R e sz sp (cs.set o v))):=by
 have hc:v.cells=[v]:=by cases v<;>first | rfl | cases hv
 have hl:Ag [v]=true:=by simp[Ag,hv]
 rw[Wg,hs,hc]
 have:=Tn (off:=o) (vs:=[v]) hg (by show o+1≤cs.length;omega) hl
 show AF (decide (1=1)) (Bi s i o [v])=_
 rw[this]
 rfl
theorem Af(ht:Ek P t=some false)(hg:s.heap.get i=some (R e sz sp cs))(hk:cs[o]? = some v):AG P s t (.ptr (some (i,o)))=some v:=by
 rw[We ht,hg,Wn,hk]
theorem QL(hg:s.heap.get i=some (R e sz sp cs)){b:Nat}(hi:i<b):Aj b s (some (i,0)) cs:=fun k u hu=>⟨i,0,rfl,hi,by rw[ke,hg,Wn,tR];exact hu⟩
end
def us(l:List Nat):List AV:=l.map BS
theorem Ca(l:List Nat):(us l).length=l.length:=by simp[us]
theorem DT{l:List Nat}{k x:Nat}(h:l[k]? = some x):(us l)[k]? = some (BS x):=by simp[us,h]
theorem Ph(a b:List Nat):us (a++b)=us a++us b:=by simp[us]
theorem Kr(l:List Nat)(k x:Nat):(us l).set k (BS x)=us (l.set k x):=by simp[us,List.map_set]
theorem YO(l:List Nat)(k:Nat):us (l.take k)=(us l).take k:=by simp[us,List.map_take]
theorem kf{o:Option AI}:∀ (l:List AV)(off:Nat),(∀j u,l[j]? = some u→Jj o (off+j)=some u)→l≠[]→GR o off l.length=some l:=by
 intro l off h h0
 obtain⟨r,hr⟩:∃r,iI o=some r:=by
  cases l with
  | nil=>exact absurd rfl h0
  | cons a l =>
   have:=h 0 a rfl
   unfold Jj at this
   cases hr:iI o with
   | none=>rw[hr]at this;cases this
   | some r=>exact⟨r,rfl⟩
 have hg:∀j u,l[j]? = some u→off+j<r.n∧r.c.get (off+j)=some u:=fun j u hj=>by
  have:=h j u hj
  unfold Jj at this
  rw[hr,Option.bind_some]at this
  obtain⟨g1,g2⟩:=AA this
  exact⟨by simpa[tP]using g1,g2⟩
 have ht:∀ (m:List AV) (k:Nat),(∀j u,m[j]? = some u→r.c.get (k+j)=some u)→r.c.take k m.length=some m:=by
  intro m
  induction m with
  | nil=>intro k _;simp[AE.take_zero]
  | cons a m ih =>
   intro k hk
   have h1:=hk 0 a rfl
   rw[tZ]at h1
   simp only[tq,AE.take_succ,h1,ih (k+1) fun j u hj=>by rw[show k+1+j=k+(j+1)from by omega];exact hk (j+1) u hj]
 unfold GR
 rw[hr,Option.bind_some,ht l off fun j u hj=>(hg j u hj).2]
 have hl:off+l.length≤r.n:=by
  cases hz:l.getLast? with
  | none=>exact absurd (List.getLast?_eq_none_iff.1 hz) h0
  | some u =>
   have hlen:0<l.length:=List.length_pos_iff.2 h0
   have:=(hg (l.length - 1) l[l.length - 1] (tQ (by omega))).1
   omega
 have:Nat.ble (off+l.length) r.n=true:=by rw[tK];exact hl
 rw[this];rfl
def CH(s:AD)(i:Nat)(cs:List AV)(p:Option Nat):Prop:=∃r,s.heap.get i=some (.row r)∧Holds r cs∧B8 r.mode=true∧r.sz=1∧(r.par=none∨r.par=p)
theorem CH.keep{s s':AD}{i:Nat}{cs:List AV}{p:Option Nat}(h:CH s i cs p)(k:s'.heap.get i=s.heap.get i):CH s' i cs p:=by
 obtain⟨r,h1,h2⟩:=h
 exact⟨r,k.trans h1,h2⟩
theorem CH.of_R{s:AD}{i e:Nat}{sp:Bool}{cs:List AV}(h:s.heap.get i=some (R e 1 sp cs)):CH s i cs none:=
 ⟨{ elem:=e,sz:=1,n:=cs.length,c:=T0 cs,spare:=sp,mode:=.own,par:=none,bytes:=true },h,⟨rfl,fun k u hk=>by
  show(T0 cs).get k=_
  rw[RL];exact hk⟩,rfl,rfl,.inl rfl⟩
theorem G6{P:Program}{s:AD}{i o t:Nat}{cs:List AV}{p:Option Nat}{v:AV}(ht:Ek P t=some false)(h:CH s i cs p)(hk:cs[o]? = some v):AG P s t (.ptr (some (i,o)))=some v:=by
 obtain⟨r,h1,h2,_⟩:=h
 have ho:o<cs.length:=by
  rcases tL o cs.length with h' | h'
  ·exact h'
  ·rw[tY h']at hk;cases hk
 exact CK ht (HP h1 (by rw[h2.1];exact ho) (h2.2 o v hk))
theorem KK{s:AD}{i:Nat}{cs:List AV}{p:Option Nat}(h:CH s i cs p){b:Nat}(hi:i<b):Aj b s (some (i,0)) cs:=fun k u hu=>by
 obtain⟨r,h1,h2,_⟩:=h
 have ho:k<cs.length:=by
  rcases tL k cs.length with h' | h'
  ·exact h'
  ·rw[tY h']at hu;cases hu
 exact⟨i,0,rfl,hi,HP h1 (by rw[h2.1];omega) (by rw[tR];exact h2.2 k u hu)⟩
theorem D8        {P : Program} {s : AD}  {i o t : Nat} {cs : List AV} {p : Option Nat} {v : AV} (hs : A1    P t = some 1) (h : CH   s i cs p) (ho : o < cs.length) (hv : v.isCell = true) :
    ∃s',AY P s t (.ptr (some (i,o))) v=some s'∧CH s' i (cs.set o v) p∧s'.next=s.next∧∀j,j≠i→some j≠p→s'.heap.get j=s.heap.get j:=by
  obtain⟨r,h1,h2,h3,h4,h5⟩:=h
  have hc:v.cells=[v]:=by cases v<;>first | rfl | cases hv
  have hrow:rowAt s i=some r:=by unfold rowAt;rw[h1]
  have hb:Nat.ble (o+1) r.n=true:=CC (by rw[h2.1];omega)
  have hal:Ag [v]=true:=by simp[Ag,hv]
  have est:AY P s t (.ptr (some (i,o))) v=some (setObj (A3 s i r) i (.row { r with c:=r.c.fill o [v],par:=none })):=by
    rw[Wg,hs,hc]
    show AF (decide (1=1)) (Bi s i o [v])=_
    show(rowAt s i).bind _=_
    rw[hrow]
    show AF (B8 r.mode && Nat.ble (o+1) r.n && Ag [v]) _=_
    rw[h3,hb,hal]
    rfl
  have hun:(A3 s i r).next=s.next∧∀j,some j≠p→(A3 s i r).heap.get j=s.heap.get j:=by
    unfold A3
    rcases h5 with h5 | h5
    · rw[h5];exact⟨rfl,fun j _=>rfl⟩
    · rw[h5]
      cases p with
      | none=>exact⟨rfl,fun j _=>rfl⟩
      | some q =>
        simp only
        cases hbq:Nat.beq q i with
        | true=>exact⟨rfl,fun j _=>rfl⟩
        | false =>
          refine⟨rfl,fun j hj=>?_⟩
          show(Bx s q).heap.get j=_
          rw[Ja,if_neg]
          intro e
          exact hj (by rw[e])
  refine⟨_,est,⟨{ r with c:=r.c.fill o [v],par:=none },Wv _ _ _,⟨by show r.n=_;rw[h2.1,ub],fun k u hu=>?_⟩,h3,h4,.inl rfl⟩,hun.1,fun j hj hjp=>(Ww _ hj).trans (hun.2 j hjp)⟩
  show(r.c.fill o [v]).get k=some u
  rw[AE.get_fill]
  by_cases hk:k=o
  · subst hk
    rw[uw ho]at hu
    rw[if_pos ⟨tJ _,by simp⟩,Nat.sub_self]
    exact hu
  · rw [uU                   (Ne.symm hk)] at hu
    rw[if_neg (by simp;omega)]
    exact h2.2 k u hu
structure Cm(s s':AD)(i:Nat)(p:Option Nat):Prop where
 next:s'.next=s.next
 get:∀j,j≠i→some j≠p→s'.heap.get j=s.heap.get j
theorem Cm.refl(s:AD)(i:Nat)(p:Option Nat):Cm s s i p:=⟨rfl,fun _ _ _=>rfl⟩
theorem Cm.step{s s' s2:AD}{i:Nat}{p:Option Nat}(h:Cm s s' i p)(h1:s2.next=s'.next)(h2:∀j,j≠i→some j≠p→s2.heap.get j=s'.heap.get j):Cm s s2 i p:=⟨h1.trans h.next,fun j hj hp=>(h2 j hj hp).trans (h.get j hj hp)⟩
end
end Go.Proofs.YtoaaclpjkelofaaGreatDoor.Am
set_option linter.unusedVariables false
set_option linter.unusedSimpArgs false
set_option maxRecDepth 100000
namespace Go.Proofs.YtoaaclpjkelofaaGreatDoor.Am
open Go Go.Proofs
noncomputable section
theorem sz3:A1 Tryz.prog 3=some 1:=by kernel_rfl
theorem ag3:Ek Tryz.prog 3=some false:=by kernel_rfl
theorem T5:Ek Tryz.prog 4=some false:=by kernel_rfl
theorem px:A1 Tryz.prog 77=some 1:=by kernel_rfl
theorem E7:Ek Tryz.prog 77=some false:=by kernel_rfl
theorem Bs:A1 Tryz.prog 185=some 1:=by kernel_rfl
theorem SN:DL Tryz.prog 185=some 4:=by kernel_rfl
theorem FP:Ek Tryz.prog 185=some false:=by kernel_rfl
theorem sI:Dy Tryz.prog 185=some (.int .u32 (0)):=by kernel_rfl
theorem Tr:A1 Tryz.prog 187=some 1:=by kernel_rfl
theorem SE:Ek Tryz.prog 187=some false:=by kernel_rfl
def UP:List AB:=[
 ⟨none,.p1 some,[(.const (.slice none 0 (some 0)))],(.set 1),[]⟩]
def UQ:List AB:=[
 ⟨none,.r (fun s l=>match l with | [x]=>Bb Tryz.prog s 77 x | _=>none),[.var 0],.push,[]⟩,
 ⟨none,.p1 some,[.loc 0],(.set 2),[]⟩]
def P3:List AB:=[
 ⟨none,.p2 (AP Tryz.prog .gtr 3),[(.var 2),(.const (.int .i64 (0)))],.push,[]⟩,
 ⟨(some ((.loc 0),true)),.p1 some,[.var 0],.push,[]⟩,
 ⟨(some ((.loc 1),true)),.p1 some,[.var 2],.push,[]⟩,
 ⟨(some ((.loc 2),true)),.p2 (AP Tryz.prog .sub 3),[(.loc 0),(.const (.int .i64 (1)))],.push,[]⟩,
 ⟨(some ((.loc 3),true)),.p2 (AR Tryz.prog 77),[.loc 2,.loc 0],.push,[]⟩,
 ⟨(some ((.loc 4),true)),.r1 (fun s a=>AG Tryz.prog s 185 a),[.loc 0],.push,[]⟩,
 ⟨(some ((.loc 5),true)),.p2 (AP Tryz.prog .eql 185),[(.loc 0),(.const (.int .u32 (0)))],.push,[]⟩,
 ⟨none,.p Rt,[(.loc 6),(.loc 0),(.const (.bool false))],(.set 3),[]⟩]
def bJ:List AB:=[
 ⟨none,.p1 some,[.var 2],.push,[]⟩,
 ⟨none,.p2 (AP Tryz.prog .sub 3),[(.loc 0),(.const (.int .i64 (1)))],.push,[]⟩,
 ⟨none,.p1 some,[.loc 0],(.set 2),[]⟩]
def KF:Aa:=(.seq (.seq (.ops P3) (.cond (.var 3)
 .skip
 (.exit 0))) (.block 1 (.ops bJ)))
def UR:List AB:=[
 ⟨none,.r (Bn Tryz.prog 77 false true false),[.var 0,.var 2],.push,[]⟩,
 ⟨none,.call 227,[.loc 0],.push,[]⟩,
 ⟨none,.p1 some,[.loc 0],(.set 1),[]⟩]
def nk:Au:=⟨1,4,(.seq (.ops UP) (.seq (.ops UQ) (.seq (.block 0 (.loop KF)) (.seq (.ops UR) .ret)))),[((.var 1),none)]⟩
def QA:List AB:=[
 ⟨none,.p1 some,[(.const (.slice none 0 (some 0)))],(.set 1),[]⟩]
def QB:List AB:=[
 ⟨none,.p2 (AP Tryz.prog .eql 77),[(.var 0),(.const (.slice none 0 (some 0)))],(.set 2),[]⟩]
def UZ:List AB:=[
 ⟨none,.p1 some,[(.const (.slice none 0 (some 0)))],(.set 1),[]⟩]
def cX:List AB:=[
 ⟨none,.mk (fun l=>(An Tryz.prog 77 0 (zipIdx [] l)).bind fun r=>some (r,.slice 0)),[],.push,[]⟩,
 ⟨none,.e (fun s l=>Ay Tryz.prog s [77,77] l),[.loc 0,.var 0],.push,[]⟩,
 ⟨none,.p1 some,[.loc 0],(.set 1),[]⟩]
def jM:Au:=⟨1,3,(.seq (.ops QA) (.seq (.seq (.ops QB) (.cond (.var 2)
 (.seq (.ops UZ) .ret)
 .skip)) (.seq (.ops cX) .ret))),[((.var 1),none)]⟩
def cP:List AB:=[
 ⟨none,.p1 some,[(.const (.slice none 0 (some 0)))],(.set 1),[]⟩]
def cQ:List AB:=[
 ⟨none,.p2 (AP Tryz.prog .and 187),[(.var 0),(.const (.int .u64 (4294967295)))],.push,[]⟩,
 ⟨none,.r1 (fun s x=>Ac Tryz.prog s 187 185 x),[.loc 0],.push,[]⟩,
 ⟨none,.p2 (AP Tryz.prog .shr 187),[(.var 0),(.const (.int .u64 (32)))],.push,[]⟩,
 ⟨none,.r1 (fun s x=>Ac Tryz.prog s 187 185 x),[.loc 0],.push,[]⟩,
 ⟨none,.mk (fun l=>(An Tryz.prog 77 2 (zipIdx [0,1] l)).bind fun r=>some (r,.slice 2)),[.loc 2,.loc 0],.push,[]⟩,
 ⟨none,.call 202,[.loc 0],.push,[]⟩,
 ⟨none,.p1 some,[.loc 0],(.set 1),[]⟩]
def qr:Au:=⟨1,2,(.seq (.ops cP) (.seq (.ops cQ) .ret)),[((.var 1),none)]⟩
def dD:List AB:=[
 ⟨none,.p1 some,[(.const (.int .i64 (0)))],(.set 2),[]⟩]
def dE:List AB:=[
 ⟨none,.p1 some,[.var 0],.push,[]⟩,
 ⟨none,.call 202,[.loc 0],.push,[]⟩,
 ⟨none,.p1 some,[.var 1],.push,[]⟩,
 ⟨none,.call 202,[.loc 0],.push,[]⟩,
 ⟨none,.p1 some,[.loc 2],(.set 0),[]⟩,
 ⟨none,.p1 some,[.loc 0],(.set 1),[]⟩]
def QD:List AB:=[
 ⟨none,.r (fun s l=>match l with | [x]=>Bb Tryz.prog s 77 x | _=>none),[.var 0],.push,[]⟩,
 ⟨none,.r (fun s l=>match l with | [x]=>Bb Tryz.prog s 77 x | _=>none),[.var 1],.push,[]⟩,
 ⟨none,.p2 (AP Tryz.prog .lss 3),[.loc 1,.loc 0],.push,[]⟩,
 ⟨none,.p1 some,[.loc 0],(.set 4),[]⟩]
def dF:List AB:=[
 ⟨none,.p1 some,[(.const (.int .i64 (-1)))],(.set 2),[]⟩]
def Uc:List AB:=[
 ⟨none,.r (fun s l=>match l with | [x]=>Bb Tryz.prog s 77 x | _=>none),[.var 0],.push,[]⟩,
 ⟨none,.r (fun s l=>match l with | [x]=>Bb Tryz.prog s 77 x | _=>none),[.var 1],.push,[]⟩,
 ⟨none,.p2 (AP Tryz.prog .gtr 3),[.loc 1,.loc 0],.push,[]⟩,
 ⟨none,.p1 some,[.loc 0],(.set 5),[]⟩]
def dG:List AB:=[
 ⟨none,.p1 some,[(.const (.int .i64 (1)))],(.set 2),[]⟩]
def dH:List AB:=[
 ⟨none,.r (fun s l=>match l with | [x]=>Bb Tryz.prog s 77 x | _=>none),[.var 0],.push,[]⟩,
 ⟨none,.p2 (AP Tryz.prog .sub 3),[(.loc 0),(.const (.int .i64 (1)))],.push,[]⟩,
 ⟨none,.p1 some,[.loc 0],(.set 3),[]⟩]
def MY:List AB:=[
 ⟨none,.p2 (AP Tryz.prog .geq 3),[(.var 3),(.const (.int .i64 (0)))],(.set 6),[]⟩]
def QE:List AB:=[
 ⟨none,.p2 (AR Tryz.prog 77),[.var 0,.var 3],.push,[]⟩,
 ⟨none,.r1 (fun s a=>AG Tryz.prog s 185 a),[.loc 0],.push,[]⟩,
 ⟨none,.p2 (AR Tryz.prog 77),[.var 1,.var 3],.push,[]⟩,
 ⟨none,.r1 (fun s a=>AG Tryz.prog s 185 a),[.loc 0],.push,[]⟩,
 ⟨none,.p2 (AP Tryz.prog .lss 185),[.loc 2,.loc 0],.push,[]⟩,
 ⟨none,.p1 some,[.loc 0],(.set 7),[]⟩]
def dI:List AB:=[
 ⟨none,.p1 some,[(.const (.int .i64 (-1)))],(.set 2),[]⟩]
def QC:List AB:=[
 ⟨none,.p2 (AR Tryz.prog 77),[.var 0,.var 3],.push,[]⟩,
 ⟨none,.r1 (fun s a=>AG Tryz.prog s 185 a),[.loc 0],.push,[]⟩,
 ⟨none,.p2 (AR Tryz.prog 77),[.var 1,.var 3],.push,[]⟩,
 ⟨none,.r1 (fun s a=>AG Tryz.prog s 185 a),[.loc 0],.push,[]⟩,
 ⟨none,.p2 (AP Tryz.prog .gtr 185),[.loc 2,.loc 0],.push,[]⟩,
 ⟨none,.p1 some,[.loc 0],(.set 8),[]⟩]
def WQ:List AB:=[
 ⟨none,.p1 some,[(.const (.int .i64 (1)))],(.set 2),[]⟩]
def WS:List AB:=[
 ⟨none,.p1 some,[.var 3],.push,[]⟩,
 ⟨none,.p2 (AP Tryz.prog .sub 3),[(.loc 0),(.const (.int .i64 (1)))],.push,[]⟩,
 ⟨none,.p1 some,[.loc 0],(.set 3),[]⟩]
def GE:Aa:=(.seq (.seq (.ops MY) (.cond (.var 6)
 .skip
 (.exit 1))) (.seq (.block 2 (.block 3 (.seq (.ops QE) (.cond (.var 7)
 (.seq (.ops dI) .ret)
 (.seq (.ops QC) (.cond (.var 8)
 (.seq (.ops WQ) .ret)
 .skip)))))) (.ops WS)))
def WT:List AB:=[
 ⟨none,.p1 some,[(.const (.int .i64 (0)))],(.set 2),[]⟩]
def qz:Au:=⟨2,9,(.seq (.ops dD) (.seq (.ops dE) (.seq (.block 0 (.seq (.ops QD) (.cond (.var 4)
 (.seq (.ops dF) .ret)
 (.seq (.ops Uc) (.cond (.var 5)
 (.seq (.ops dG) .ret)
 .skip))))) (.seq (.seq (.ops dH) (.block 1 (.loop GE))) (.seq (.ops WT) .ret))))),[((.var 2),none)]⟩
def bB:List AB:=[
 ⟨none,.p1 some,[(.const (.slice none 0 (some 0)))],(.set 3),[]⟩]
def bC:List AB:=[
 ⟨none,.p1 some,[(.const (.slice none 0 (some 0)))],(.set 4),[]⟩]
def bD:List AB:=[
 ⟨none,.p1 some,[.var 0],(.set 6),[]⟩,
 ⟨none,.r (fun s l=>match l with | [x]=>Bb Tryz.prog s 77 x | _=>none),[.var 6],(.set 7),[]⟩,
 ⟨none,.p1 some,[(.const (.int .i64 (0)))],(.set 8),[]⟩]
def UO:List AB:=[
 ⟨none,.p2 (AP Tryz.prog .lss 3),[.var 8,.var 7],(.set 9),[]⟩]
def bE:List AB:=[
 ⟨none,.p2 (AR Tryz.prog 77),[.var 6,.var 8],.push,[]⟩,
 ⟨none,.r1 (fun s a=>AG Tryz.prog s 185 a),[.loc 0],.push,[]⟩,
 ⟨none,.p1 some,[.loc 0],(.set 5),[]⟩]
def bF:List AB:=[
 ⟨none,.p1 some,[.var 2],.push,[]⟩,
 ⟨none,.r1 (fun s x=>Ac Tryz.prog s 185 187 x),[.var 5],.push,[]⟩,
 ⟨none,.p2 (AP Tryz.prog .mul 187),[.var 1,.loc 0],.push,[]⟩,
 ⟨none,.p2 (AP Tryz.prog .add 187),[.loc 2,.loc 0],.push,[]⟩,
 ⟨none,.p1 some,[.loc 0],(.set 2),[]⟩]
def bG:List AB:=[
 ⟨none,.p1 some,[.var 4],.push,[]⟩,
 ⟨none,.p2 (AP Tryz.prog .and 187),[(.var 2),(.const (.int .u64 (4294967295)))],.push,[]⟩,
 ⟨none,.r1 (fun s x=>Ac Tryz.prog s 187 185 x),[.loc 0],.push,[]⟩,
 ⟨none,.mk (fun l=>(An Tryz.prog 77 1 (zipIdx [0] l)).bind fun r=>some (r,.slice 1)),[.loc 0],.push,[]⟩,
 ⟨none,.e (fun s l=>Ay Tryz.prog s [77,77] l),[.loc 3,.loc 0],.push,[]⟩,
 ⟨none,.p1 some,[.loc 0],(.set 4),[]⟩]
def bH:List AB:=[
 ⟨none,.p1 some,[.var 2],.push,[]⟩,
 ⟨none,.p2 (AP Tryz.prog .shr 187),[(.loc 0),(.const (.int .u64 (32)))],.push,[]⟩,
 ⟨none,.p1 some,[.loc 0],(.set 2),[]⟩]
def bI:List AB:=[
 ⟨none,.p2 (AP Tryz.prog .add 3),[(.var 8),(.const (.int .i64 (1)))],.push,[]⟩,
 ⟨none,.p1 some,[.loc 0],(.set 8),[]⟩]
def MV:Aa:=(.seq (.ops UO) (.seq (.cond (.var 9)
 .skip
 (.exit 0)) (.seq (.block 1 (.seq (.ops bE) (.seq (.ops bF) (.seq (.ops bG) (.ops bH))))) (.ops bI))))
def WB:List AB:=[
 ⟨none,.r1 (fun s x=>Ac Tryz.prog s 187 185 x),[.var 2],.push,[]⟩,
 ⟨none,.mk (fun l=>(An Tryz.prog 77 1 (zipIdx [0] l)).bind fun r=>some (r,.slice 1)),[.loc 0],.push,[]⟩,
 ⟨none,.e (fun s l=>Ay Tryz.prog s [77,77] l),[.var 4,.loc 0],.push,[]⟩,
 ⟨none,.p1 some,[.loc 0],(.set 3),[]⟩]
def qX:Au:=⟨3,10,(.seq (.ops bB) (.seq (.ops bC) (.seq (.seq (.ops bD) (.block 0 (.loop MV))) (.seq (.ops WB) .ret)))),[((.var 3),none)]⟩
def dJ:List AB:=[
 ⟨none,.p1 some,[(.const (.slice none 0 (some 0)))],(.set 2),[]⟩]
def dK:List AB:=[
 ⟨none,.p2 (AP Tryz.prog .shl 187),[(.const (.int .u64 (1))),(.var 1)],.push,[]⟩,
 ⟨none,.call 201,[(.var 0),(.loc 0),(.const (.int .u64 (0)))],.push,[]⟩,
 ⟨none,.p1 some,[.loc 0],(.set 2),[]⟩]
def q7:Au:=⟨2,3,(.seq (.ops dJ) (.seq (.ops dK) .ret)),[((.var 2),none)]⟩
def bN:List AB:=[
 ⟨none,.p1 some,[(.const (.slice none 0 (some 0)))],(.set 2),[]⟩,
 ⟨none,.p1 some,[(.const (.int .u64 (0)))],(.set 3),[]⟩]
def bO:List AB:=[
 ⟨none,.r (fun s l=>match l with | [x]=>Bb Tryz.prog s 77 x | _=>none),[.var 0],.push,[]⟩,
 ⟨none,.mk (Xx (B6 Tryz.prog 77)),[.loc 0,.loc 0],.push,[]⟩,
 ⟨none,.p1 some,[.loc 0],(.set 2),[]⟩]
def bP:List AB:=[
 ⟨none,.r (fun s l=>match l with | [x]=>Bb Tryz.prog s 77 x | _=>none),[.var 0],.push,[]⟩,
 ⟨none,.p2 (AP Tryz.prog .sub 3),[(.loc 0),(.const (.int .i64 (1)))],.push,[]⟩,
 ⟨none,.p1 some,[.loc 0],(.set 4),[]⟩]
def US:List AB:=[
 ⟨none,.p2 (AP Tryz.prog .geq 3),[(.var 4),(.const (.int .i64 (0)))],(.set 5),[]⟩]
def bQ:List AB:=[
 ⟨none,.p1 some,[.var 3],.push,[]⟩,
 ⟨none,.p2 (AP Tryz.prog .shl 187),[(.loc 0),(.const (.int .u64 (32)))],.push,[]⟩,
 ⟨none,.p2 (AR Tryz.prog 77),[.var 0,.var 4],.push,[]⟩,
 ⟨none,.r1 (fun s a=>AG Tryz.prog s 185 a),[.loc 0],.push,[]⟩,
 ⟨none,.r1 (fun s x=>Ac Tryz.prog s 185 187 x),[.loc 0],.push,[]⟩,
 ⟨none,.p2 (AP Tryz.prog .or 187),[.loc 3,.loc 0],.push,[]⟩,
 ⟨none,.p1 some,[.loc 0],(.set 3),[]⟩]
def bR:List AB:=[
 ⟨none,.p2 (AP Tryz.prog .quo 187),[.var 3,.var 1],.push,[]⟩,
 ⟨none,.r1 (fun s x=>Ac Tryz.prog s 187 185 x),[.loc 0],.push,[]⟩,
 ⟨none,.p2 (AR Tryz.prog 77),[.var 2,.var 4],.push,[]⟩,
 ⟨none,.e (fun s=>Xx (fun a x=>Xz (AY Tryz.prog s 185 a x))),[.loc 0,.loc 1],.push,[]⟩]
def bS:List AB:=[
 ⟨none,.p1 some,[.var 3],.push,[]⟩,
 ⟨none,.p2 (AP Tryz.prog .rem 187),[.loc 0,.var 1],.push,[]⟩,
 ⟨none,.p1 some,[.loc 0],(.set 3),[]⟩]
def bT:List AB:=[
 ⟨none,.p1 some,[.var 4],.push,[]⟩,
 ⟨none,.p2 (AP Tryz.prog .sub 3),[(.loc 0),(.const (.int .i64 (1)))],.push,[]⟩,
 ⟨none,.p1 some,[.loc 0],(.set 4),[]⟩]
def MW:Aa:=(.seq (.seq (.ops US) (.cond (.var 5)
 .skip
 (.exit 0))) (.seq (.block 1 (.seq (.ops bQ) (.seq (.ops bR) (.ops bS)))) (.ops bT)))
def bU:List AB:=[
 ⟨none,.p1 some,[.var 2],.push,[]⟩,
 ⟨none,.call 202,[.loc 0],.push,[]⟩,
 ⟨none,.p1 some,[.var 3],.push,[]⟩,
 ⟨none,.p1 some,[.loc 1],(.set 2),[]⟩,
 ⟨none,.p1 some,[.loc 0],(.set 3),[]⟩]
def qZ:Au:=⟨2,6,(.seq (.ops bN) (.seq (.ops bO) (.seq (.seq (.ops bP) (.block 0 (.loop MW))) (.seq (.ops bU) .ret)))),[((.var 2),none),((.var 3),none)]⟩
def dL:List AB:=[
 ⟨none,.p1 some,[(.const (.int .u64 (0)))],(.set 2),[]⟩]
def dM:List AB:=[
 ⟨none,.r (fun s l=>match l with | [x]=>Bb Tryz.prog s 77 x | _=>none),[.var 1],.push,[]⟩,
 ⟨none,.p1 some,[.loc 0],(.set 3),[]⟩]
def dN:List AB:=[
 ⟨none,.p2 (AR Tryz.prog 77),[.var 0,.var 3],.push,[]⟩,
 ⟨none,.r1 (fun s a=>AG Tryz.prog s 185 a),[.loc 0],.push,[]⟩,
 ⟨none,.r1 (fun s x=>Ac Tryz.prog s 185 187 x),[.loc 0],.push,[]⟩,
 ⟨none,.p2 (AP Tryz.prog .shl 187),[(.loc 0),(.const (.int .u64 (32)))],.push,[]⟩,
 ⟨none,.p2 (AP Tryz.prog .sub 3),[(.var 3),(.const (.int .i64 (1)))],.push,[]⟩,
 ⟨none,.p2 (AR Tryz.prog 77),[.var 0,.loc 0],.push,[]⟩,
 ⟨none,.r1 (fun s a=>AG Tryz.prog s 185 a),[.loc 0],.push,[]⟩,
 ⟨none,.r1 (fun s x=>Ac Tryz.prog s 185 187 x),[.loc 0],.push,[]⟩,
 ⟨none,.p2 (AP Tryz.prog .or 187),[.loc 4,.loc 0],.push,[]⟩,
 ⟨none,.p1 some,[.loc 0],(.set 4),[]⟩]
def dO:List AB:=[
 ⟨none,.p2 (AP Tryz.prog .sub 3),[(.var 3),(.const (.int .i64 (1)))],.push,[]⟩,
 ⟨none,.p2 (AR Tryz.prog 77),[.var 1,.loc 0],.push,[]⟩,
 ⟨none,.r1 (fun s a=>AG Tryz.prog s 185 a),[.loc 0],.push,[]⟩,
 ⟨none,.r1 (fun s x=>Ac Tryz.prog s 185 187 x),[.loc 0],.push,[]⟩,
 ⟨none,.p2 (AP Tryz.prog .quo 187),[.var 4,.loc 0],.push,[]⟩,
 ⟨none,.p2 (AP Tryz.prog .sub 3),[(.var 3),(.const (.int .i64 (1)))],.push,[]⟩,
 ⟨none,.p2 (AR Tryz.prog 77),[.var 1,.loc 0],.push,[]⟩,
 ⟨none,.r1 (fun s a=>AG Tryz.prog s 185 a),[.loc 0],.push,[]⟩,
 ⟨none,.r1 (fun s x=>Ac Tryz.prog s 185 187 x),[.loc 0],.push,[]⟩,
 ⟨none,.p2 (AP Tryz.prog .rem 187),[.var 4,.loc 0],.push,[]⟩,
 ⟨none,.p1 some,[.loc 5],(.set 5),[]⟩,
 ⟨none,.p1 some,[.loc 0],(.set 6),[]⟩]
def KJ:List AB:=[
 ⟨none,.p2 (AP Tryz.prog .gtr 187),[(.var 5),(.const (.int .u64 (4294967295)))],.push,[]⟩,
 ⟨(some ((.loc 0),false)),.p1 some,[.var 5],.push,[]⟩,
 ⟨(some ((.loc 1),false)),.p1 some,[.var 1],.push,[]⟩,
 ⟨(some ((.loc 2),false)),.p1 some,[.var 3],.push,[]⟩,
 ⟨(some ((.loc 3),false)),.p2 (AP Tryz.prog .sub 3),[(.loc 0),(.const (.int .i64 (2)))],.push,[]⟩,
 ⟨(some ((.loc 4),false)),.p2 (AR Tryz.prog 77),[.loc 2,.loc 0],.push,[]⟩,
 ⟨(some ((.loc 5),false)),.r1 (fun s a=>AG Tryz.prog s 185 a),[.loc 0],.push,[]⟩,
 ⟨(some ((.loc 6),false)),.r1 (fun s x=>Ac Tryz.prog s 185 187 x),[.loc 0],.push,[]⟩,
 ⟨(some ((.loc 7),false)),.p2 (AP Tryz.prog .mul 187),[.loc 6,.loc 0],.push,[]⟩,
 ⟨(some ((.loc 8),false)),.p1 some,[.var 6],.push,[]⟩,
 ⟨(some ((.loc 9),false)),.p2 (AP Tryz.prog .shl 187),[(.loc 0),(.const (.int .u64 (32)))],.push,[]⟩,
 ⟨(some ((.loc 10),false)),.p1 some,[.var 0],.push,[]⟩,
 ⟨(some ((.loc 11),false)),.p1 some,[.var 3],.push,[]⟩,
 ⟨(some ((.loc 12),false)),.p2 (AP Tryz.prog .sub 3),[(.loc 0),(.const (.int .i64 (2)))],.push,[]⟩,
 ⟨(some ((.loc 13),false)),.p2 (AR Tryz.prog 77),[.loc 2,.loc 0],.push,[]⟩,
 ⟨(some ((.loc 14),false)),.r1 (fun s a=>AG Tryz.prog s 185 a),[.loc 0],.push,[]⟩,
 ⟨(some ((.loc 15),false)),.r1 (fun s x=>Ac Tryz.prog s 185 187 x),[.loc 0],.push,[]⟩,
 ⟨(some ((.loc 16),false)),.p2 (AP Tryz.prog .or 187),[.loc 6,.loc 0],.push,[]⟩,
 ⟨(some ((.loc 17),false)),.p2 (AP Tryz.prog .gtr 187),[.loc 9,.loc 0],.push,[]⟩,
 ⟨none,.p Rt,[(.loc 18),(.const (.bool true)),(.loc 0)],(.set 7),[]⟩]
def MZ:List AB:=[
 ⟨none,.p1 some,[.var 5],.push,[]⟩,
 ⟨none,.p2 (AP Tryz.prog .sub 187),[(.loc 0),(.const (.int .u64 (1)))],.push,[]⟩,
 ⟨none,.p1 some,[.loc 0],(.set 5),[]⟩]
def Ma:List AB:=[
 ⟨none,.p1 some,[.var 6],.push,[]⟩,
 ⟨none,.p2 (AP Tryz.prog .sub 3),[(.var 3),(.const (.int .i64 (1)))],.push,[]⟩,
 ⟨none,.p2 (AR Tryz.prog 77),[.var 1,.loc 0],.push,[]⟩,
 ⟨none,.r1 (fun s a=>AG Tryz.prog s 185 a),[.loc 0],.push,[]⟩,
 ⟨none,.r1 (fun s x=>Ac Tryz.prog s 185 187 x),[.loc 0],.push,[]⟩,
 ⟨none,.p2 (AP Tryz.prog .add 187),[.loc 4,.loc 0],.push,[]⟩,
 ⟨none,.p1 some,[.loc 0],(.set 6),[]⟩]
def Mb:List AB:=[
 ⟨none,.p2 (AP Tryz.prog .gtr 187),[(.var 6),(.const (.int .u64 (4294967295)))],(.set 8),[]⟩]
def IT:Aa:=(.seq (.seq (.ops KJ) (.cond (.var 7)
 .skip
 (.exit 0))) (.block 1 (.seq (.ops MZ) (.seq (.ops Ma) (.seq (.ops Mb) (.cond (.var 8)
 (.exit 0)
 .skip))))))
def dP:List AB:=[
 ⟨none,.p1 some,[.var 5],(.set 2),[]⟩]
def q8:Au:=⟨2,9,(.seq (.ops dL) (.seq (.ops dM) (.seq (.ops dN) (.seq (.ops dO) (.seq (.block 0 (.loop IT)) (.seq (.ops dP) .ret)))))),[((.var 2),none)]⟩
def dQ:List AB:=[
 ⟨none,.p1 some,[(.const (.bool false))],(.set 3),[]⟩]
def dR:List AB:=[
 ⟨none,.p1 some,[(.const (.int .u64 (0)))],(.set 4),[]⟩,
 ⟨none,.p1 some,[(.const (.int .u64 (0)))],(.set 5),[]⟩]
def dS:List AB:=[
 ⟨none,.call 227,[.var 1],.push,[]⟩,
 ⟨none,.mk (fun l=>(An Tryz.prog 77 1 (zipIdx [0] l)).bind fun r=>some (r,.slice 1)),[(.const (.int .u32 (0)))],.push,[]⟩,
 ⟨none,.e (fun s l=>Ay Tryz.prog s [77,77] l),[.loc 1,.loc 0],(.set 9),[]⟩,
 ⟨none,.r (fun s l=>match l with | [x]=>Bb Tryz.prog s 77 x | _=>none),[.var 9],(.set 10),[]⟩,
 ⟨none,.p1 some,[(.const (.int .i64 (0)))],(.set 11),[]⟩]
def Ud:List AB:=[
 ⟨none,.p2 (AP Tryz.prog .lss 3),[.var 11,.var 10],(.set 12),[]⟩]
def dT:List AB:=[
 ⟨none,.p2 (AR Tryz.prog 77),[.var 9,.var 11],.push,[]⟩,
 ⟨none,.r1 (fun s a=>AG Tryz.prog s 185 a),[.loc 0],.push,[]⟩,
 ⟨none,.p1 some,[.var 11],(.set 6),[]⟩,
 ⟨none,.p1 some,[.loc 0],(.set 7),[]⟩]
def dU:List AB:=[
 ⟨none,.p1 some,[.var 4],.push,[]⟩,
 ⟨none,.r1 (fun s x=>Ac Tryz.prog s 185 187 x),[.var 7],.push,[]⟩,
 ⟨none,.p2 (AP Tryz.prog .mul 187),[.var 2,.loc 0],.push,[]⟩,
 ⟨none,.p2 (AP Tryz.prog .add 187),[.loc 2,.loc 0],.push,[]⟩,
 ⟨none,.p1 some,[.loc 0],(.set 4),[]⟩]
def dV:List AB:=[
 ⟨none,.p2 (AR Tryz.prog 77),[.var 0,.var 6],.push,[]⟩,
 ⟨none,.r1 (fun s a=>AG Tryz.prog s 185 a),[.loc 0],.push,[]⟩,
 ⟨none,.r1 (fun s x=>Ac Tryz.prog s 185 187 x),[.loc 0],.push,[]⟩,
 ⟨none,.p2 (AP Tryz.prog .and 187),[(.var 4),(.const (.int .u64 (4294967295)))],.push,[]⟩,
 ⟨none,.p2 (AP Tryz.prog .sub 187),[.loc 1,.loc 0],.push,[]⟩,
 ⟨none,.p2 (AP Tryz.prog .sub 187),[.loc 0,.var 5],.push,[]⟩,
 ⟨none,.p1 some,[.loc 0],(.set 8),[]⟩]
def dW:List AB:=[
 ⟨none,.p2 (AP Tryz.prog .and 187),[(.var 8),(.const (.int .u64 (4294967295)))],.push,[]⟩,
 ⟨none,.r1 (fun s x=>Ac Tryz.prog s 187 185 x),[.loc 0],.push,[]⟩,
 ⟨none,.p2 (AR Tryz.prog 77),[.var 0,.var 6],.push,[]⟩,
 ⟨none,.e (fun s=>Xx (fun a x=>Xz (AY Tryz.prog s 185 a x))),[.loc 0,.loc 1],.push,[]⟩]
def dX:List AB:=[
 ⟨none,.p1 some,[.var 4],.push,[]⟩,
 ⟨none,.p2 (AP Tryz.prog .shr 187),[(.loc 0),(.const (.int .u64 (32)))],.push,[]⟩,
 ⟨none,.p1 some,[.loc 0],(.set 4),[]⟩]
def dY:List AB:=[
 ⟨none,.p2 (AP Tryz.prog .shr 187),[(.var 8),(.const (.int .u64 (63)))],.push,[]⟩,
 ⟨none,.p1 some,[.loc 0],(.set 5),[]⟩]
def WU:List AB:=[
 ⟨none,.p2 (AP Tryz.prog .add 3),[(.var 11),(.const (.int .i64 (1)))],.push,[]⟩,
 ⟨none,.p1 some,[.loc 0],(.set 11),[]⟩]
def Iy:Aa:=(.seq (.ops Ud) (.seq (.cond (.var 12)
 .skip
 (.exit 0)) (.seq (.block 1 (.seq (.ops dT) (.seq (.ops dU) (.seq (.ops dV) (.seq (.ops dW) (.seq (.ops dX) (.ops dY))))))) (.ops WU))))
def WV:List AB:=[
 ⟨none,.p2 (AP Tryz.prog .gtr 187),[(.var 5),(.const (.int .u64 (0)))],.push,[]⟩,
 ⟨none,.p1 some,[.loc 0],(.set 3),[]⟩]
def q9:Au:=⟨3,13,(.seq (.ops dQ) (.seq (.ops dR) (.seq (.seq (.ops dS) (.block 0 (.loop Iy))) (.seq (.ops WV) .ret)))),[((.var 3),none)]⟩
def dZ:List AB:=[
 ⟨none,.p1 some,[(.const (.int .u64 (0)))],(.set 2),[]⟩]
def dc:List AB:=[
 ⟨none,.call 227,[.var 1],.push,[]⟩,
 ⟨none,.mk (fun l=>(An Tryz.prog 77 1 (zipIdx [0] l)).bind fun r=>some (r,.slice 1)),[(.const (.int .u32 (0)))],.push,[]⟩,
 ⟨none,.e (fun s l=>Ay Tryz.prog s [77,77] l),[.loc 1,.loc 0],(.set 5),[]⟩,
 ⟨none,.r (fun s l=>match l with | [x]=>Bb Tryz.prog s 77 x | _=>none),[.var 5],(.set 6),[]⟩,
 ⟨none,.p1 some,[(.const (.int .i64 (0)))],(.set 7),[]⟩]
def Ue:List AB:=[
 ⟨none,.p2 (AP Tryz.prog .lss 3),[.var 7,.var 6],(.set 8),[]⟩]
def de:List AB:=[
 ⟨none,.p2 (AR Tryz.prog 77),[.var 5,.var 7],.push,[]⟩,
 ⟨none,.r1 (fun s a=>AG Tryz.prog s 185 a),[.loc 0],.push,[]⟩,
 ⟨none,.p1 some,[.var 7],(.set 3),[]⟩,
 ⟨none,.p1 some,[.loc 0],(.set 4),[]⟩]
def df:List AB:=[
 ⟨none,.p1 some,[.var 2],.push,[]⟩,
 ⟨none,.p2 (AR Tryz.prog 77),[.var 0,.var 3],.push,[]⟩,
 ⟨none,.r1 (fun s a=>AG Tryz.prog s 185 a),[.loc 0],.push,[]⟩,
 ⟨none,.r1 (fun s x=>Ac Tryz.prog s 185 187 x),[.loc 0],.push,[]⟩,
 ⟨none,.r1 (fun s x=>Ac Tryz.prog s 185 187 x),[.var 4],.push,[]⟩,
 ⟨none,.p2 (AP Tryz.prog .add 187),[.loc 1,.loc 0],.push,[]⟩,
 ⟨none,.p2 (AP Tryz.prog .add 187),[.loc 5,.loc 0],.push,[]⟩,
 ⟨none,.p1 some,[.loc 0],(.set 2),[]⟩]
def dg:List AB:=[
 ⟨none,.p2 (AP Tryz.prog .and 187),[(.var 2),(.const (.int .u64 (4294967295)))],.push,[]⟩,
 ⟨none,.r1 (fun s x=>Ac Tryz.prog s 187 185 x),[.loc 0],.push,[]⟩,
 ⟨none,.p2 (AR Tryz.prog 77),[.var 0,.var 3],.push,[]⟩,
 ⟨none,.e (fun s=>Xx (fun a x=>Xz (AY Tryz.prog s 185 a x))),[.loc 0,.loc 1],.push,[]⟩]
def dh:List AB:=[
 ⟨none,.p1 some,[.var 2],.push,[]⟩,
 ⟨none,.p2 (AP Tryz.prog .shr 187),[(.loc 0),(.const (.int .u64 (32)))],.push,[]⟩,
 ⟨none,.p1 some,[.loc 0],(.set 2),[]⟩]
def di:List AB:=[
 ⟨none,.p2 (AP Tryz.prog .add 3),[(.var 7),(.const (.int .i64 (1)))],.push,[]⟩,
 ⟨none,.p1 some,[.loc 0],(.set 7),[]⟩]
def Mc:Aa:=(.seq (.ops Ue) (.seq (.cond (.var 8)
 .skip
 (.exit 0)) (.seq (.block 1 (.seq (.ops de) (.seq (.ops df) (.seq (.ops dg) (.ops dh))))) (.ops di))))
def rA:Au:=⟨2,9,(.seq (.ops dZ) (.seq (.ops dc) (.block 0 (.loop Mc)))),[]⟩
def bv:List AB:=[
 ⟨none,.p1 some,[(.const (.slice none 0 (some 0)))],(.set 2),[]⟩,
 ⟨none,.p1 some,[(.const (.slice none 0 (some 0)))],(.set 3),[]⟩,
 ⟨none,.p1 some,[(.const (.int .i64 (0)))],(.set 4),[]⟩]
def bw:List AB:=[
 ⟨none,.p1 some,[.var 0],.push,[]⟩,
 ⟨none,.call 202,[.loc 0],.push,[]⟩,
 ⟨none,.p1 some,[.var 1],.push,[]⟩,
 ⟨none,.call 202,[.loc 0],.push,[]⟩,
 ⟨none,.p1 some,[.loc 2],(.set 0),[]⟩,
 ⟨none,.p1 some,[.loc 0],(.set 1),[]⟩]
def UV:List AB:=[
 ⟨none,.r (fun s l=>match l with | [x]=>Bb Tryz.prog s 77 x | _=>none),[.var 1],.push,[]⟩,
 ⟨none,.p2 (AP Tryz.prog .eql 3),[(.loc 0),(.const (.int .i64 (0)))],.push,[]⟩,
 ⟨none,.p1 some,[.loc 0],(.set 13),[]⟩]
def bz:List AB:=[
 ⟨none,.p1 some,[(.const (.slice none 0 (some 0)))],(.set 2),[]⟩,
 ⟨none,.p1 some,[(.const (.slice none 0 (some 0)))],(.set 3),[]⟩,
 ⟨none,.p1 some,[(.const (.int .i64 (3)))],(.set 4),[]⟩]
def b8:List AB:=[
 ⟨none,.call 233,[.var 0,.var 1],.push,[]⟩,
 ⟨none,.p2 (AP Tryz.prog .lss 3),[(.loc 0),(.const (.int .i64 (0)))],.push,[]⟩,
 ⟨none,.p1 some,[.loc 0],(.set 14),[]⟩]
def cC:List AB:=[
 ⟨none,.p1 some,[(.const (.slice none 0 (some 0)))],(.set 2),[]⟩,
 ⟨none,.p1 some,[.var 0],(.set 3),[]⟩,
 ⟨none,.p1 some,[(.const (.int .i64 (0)))],(.set 4),[]⟩]
def UW:List AB:=[
 ⟨none,.r (fun s l=>match l with | [x]=>Bb Tryz.prog s 77 x | _=>none),[.var 1],.push,[]⟩,
 ⟨none,.p2 (AP Tryz.prog .eql 3),[(.loc 0),(.const (.int .i64 (1)))],.push,[]⟩,
 ⟨none,.p1 some,[.loc 0],(.set 15),[]⟩]
def cE:List AB:=[
 ⟨none,.p2 (AR Tryz.prog 77),[(.var 1),(.const (.int .i64 (0)))],.push,[]⟩,
 ⟨none,.r1 (fun s a=>AG Tryz.prog s 185 a),[.loc 0],.push,[]⟩,
 ⟨none,.r1 (fun s x=>Ac Tryz.prog s 185 187 x),[.loc 0],.push,[]⟩,
 ⟨none,.call 204,[.var 0,.loc 0],.push,[]⟩,
 ⟨none,.p1 (fun x=>Za x 0),[.loc 0],.push,[]⟩,
 ⟨none,.p1 (fun x=>Za x 1),[.loc 1],.push,[]⟩,
 ⟨none,.p1 some,[.loc 1],(.set 5),[]⟩,
 ⟨none,.p1 some,[.loc 0],(.set 6),[]⟩]
def cF:List AB:=[
 ⟨none,.call 216,[.var 6],.push,[]⟩,
 ⟨none,.p1 some,[.var 5],(.set 2),[]⟩,
 ⟨none,.p1 some,[.loc 0],(.set 3),[]⟩,
 ⟨none,.p1 some,[(.const (.int .i64 (0)))],(.set 4),[]⟩]
def cG:List AB:=[
 ⟨none,.p1 some,[(.const (.int .u64 (0)))],(.set 7),[]⟩]
def P5:List AB:=[
 ⟨none,.r (fun s l=>match l with | [x]=>Bb Tryz.prog s 77 x | _=>none),[.var 1],.push,[]⟩,
 ⟨none,.p2 (AP Tryz.prog .sub 3),[(.loc 0),(.const (.int .i64 (1)))],.push,[]⟩,
 ⟨none,.p2 (AR Tryz.prog 77),[.var 1,.loc 0],.push,[]⟩,
 ⟨none,.r1 (fun s a=>AG Tryz.prog s 185 a),[.loc 0],.push,[]⟩,
 ⟨none,.p2 (AP Tryz.prog .shl 185),[.loc 0,.var 7],.push,[]⟩,
 ⟨none,.p2 (AP Tryz.prog .shr 185),[(.loc 0),(.const (.int .u64 (31)))],.push,[]⟩,
 ⟨none,.p2 (AP Tryz.prog .eql 185),[(.loc 0),(.const (.int .u32 (0)))],(.set 16),[]⟩]
def WD:List AB:=[
 ⟨none,.p1 some,[.var 7],.push,[]⟩,
 ⟨none,.p2 (AP Tryz.prog .add 143),[(.loc 0),(.const (.int .u64 (1)))],.push,[]⟩,
 ⟨none,.p1 some,[.loc 0],(.set 7),[]⟩]
def Ix:Aa:=(.seq (.seq (.ops P5) (.cond (.var 16)
 .skip
 (.exit 1))) (.block 2 (.ops WD)))
def WE:List AB:=[
 ⟨none,.r (fun s l=>match l with | [x]=>Bb Tryz.prog s 77 x | _=>none),[.var 1],.push,[]⟩,
 ⟨none,.call 234,[.var 0,.var 7],.push,[⟨none,.r (fun s l=>match l with | [x]=>Bb Tryz.prog s 77 x | _=>none),[.var 1],(.loc 1)⟩]⟩,
 ⟨none,.call 234,[.var 1,.var 7],.push,[⟨none,.r (fun s l=>match l with | [x]=>Bb Tryz.prog s 77 x | _=>none),[.var 1],(.loc 2)⟩]⟩,
 ⟨none,.r (Bn Tryz.prog 77 false true false),[.loc 0,.loc 2],.push,[]⟩,
 ⟨none,.p1 some,[.loc 2],(.set 8),[]⟩,
 ⟨none,.p1 some,[.loc 0],(.set 9),[]⟩]
def WG:List AB:=[
 ⟨none,.r (fun s l=>match l with | [x]=>Bb Tryz.prog s 77 x | _=>none),[.var 8],.push,[]⟩,
 ⟨none,.r (fun s l=>match l with | [x]=>Bb Tryz.prog s 77 x | _=>none),[.var 9],.push,[]⟩,
 ⟨none,.p2 (AP Tryz.prog .sub 3),[.loc 1,.loc 0],.push,[]⟩,
 ⟨none,.mk (Xx (B6 Tryz.prog 77)),[.loc 0,.loc 0],.push,[]⟩,
 ⟨none,.p1 some,[.loc 0],(.set 2),[]⟩]
def WH:List AB:=[
 ⟨none,.r (fun s l=>match l with | [x]=>Bb Tryz.prog s 77 x | _=>none),[.var 2],.push,[]⟩,
 ⟨none,.p2 (AP Tryz.prog .sub 3),[(.loc 0),(.const (.int .i64 (1)))],.push,[]⟩,
 ⟨none,.p1 some,[.loc 0],(.set 10),[]⟩]
def P6:List AB:=[
 ⟨none,.p2 (AP Tryz.prog .geq 3),[(.var 10),(.const (.int .i64 (0)))],(.set 17),[]⟩]
def WJ:List AB:=[
 ⟨none,.r (fun s l=>match l with | [x]=>Bb Tryz.prog s 77 x | _=>none),[.var 9],.push,[]⟩,
 ⟨none,.p2 (AP Tryz.prog .add 3),[.var 10,.loc 0],.push,[]⟩,
 ⟨none,.p2 (AP Tryz.prog .add 3),[(.loc 0),(.const (.int .i64 (1)))],.push,[]⟩,
 ⟨none,.r (Bn Tryz.prog 77 true true false),[.var 8,.var 10,.loc 0],.push,[]⟩,
 ⟨none,.p1 some,[.loc 0],(.set 11),[]⟩]
def WK:List AB:=[
 ⟨none,.call 235,[.var 11,.var 9],.push,[]⟩,
 ⟨none,.p1 some,[.loc 0],(.set 12),[]⟩]
def WL:List AB:=[
 ⟨none,.call 236,[.var 11,.var 9,.var 12],(.set 18),[]⟩]
def WM:List AB:=[
 ⟨none,.call 237,[.var 11,.var 9],.push,[]⟩]
def WN:List AB:=[
 ⟨none,.p1 some,[.var 12],.push,[]⟩,
 ⟨none,.p2 (AP Tryz.prog .sub 187),[(.loc 0),(.const (.int .u64 (1)))],.push,[]⟩,
 ⟨none,.p1 some,[.loc 0],(.set 12),[]⟩]
def P7:List AB:=[
 ⟨none,.r1 (fun s x=>Ac Tryz.prog s 187 185 x),[.var 12],.push,[]⟩,
 ⟨none,.p2 (AR Tryz.prog 77),[.var 2,.var 10],.push,[]⟩,
 ⟨none,.e (fun s=>Xx (fun a x=>Xz (AY Tryz.prog s 185 a x))),[.loc 0,.loc 1],.push,[]⟩]
def P8:List AB:=[
 ⟨none,.p1 some,[.var 10],.push,[]⟩,
 ⟨none,.p2 (AP Tryz.prog .sub 3),[(.loc 0),(.const (.int .i64 (1)))],.push,[]⟩,
 ⟨none,.p1 some,[.loc 0],(.set 10),[]⟩]
def HL:Aa:=(.seq (.seq (.ops P6) (.cond (.var 17)
 .skip
 (.exit 3))) (.seq (.block 4 (.seq (.ops WJ) (.seq (.ops WK) (.seq (.seq (.ops WL) (.cond (.var 18)
 (.seq (.ops WM) (.ops WN))
 .skip)) (.ops P7))))) (.ops P8)))
def WO:List AB:=[
 ⟨none,.p2 (AP Tryz.prog .shl 187),[(.const (.int .u64 (1))),(.var 7)],.push,[]⟩,
 ⟨none,.call 204,[.var 8,.loc 0],.push,[]⟩,
 ⟨none,.p1 (fun x=>Za x 0),[.loc 0],.push,[]⟩,
 ⟨none,.p1 (fun x=>Za x 1),[.loc 1],.push,[]⟩,
 ⟨none,.p1 some,[.loc 1],(.set 3),[]⟩]
def WP:List AB:=[
 ⟨none,.p1 some,[.var 2],.push,[]⟩,
 ⟨none,.call 202,[.loc 0],.push,[]⟩,
 ⟨none,.p1 some,[.var 3],.push,[]⟩,
 ⟨none,.p1 some,[.loc 1],(.set 2),[]⟩,
 ⟨none,.p1 some,[.loc 0],(.set 3),[]⟩,
 ⟨none,.p1 some,[(.const (.int .i64 (0)))],(.set 4),[]⟩]
def ql:Au:=⟨2,19,(.seq (.ops bv) (.seq (.ops bw) (.seq (.block 0 (.seq (.ops UV) (.cond (.var 13)
 (.seq (.ops bz) .ret)
 (.seq (.ops b8) (.cond (.var 14)
 (.seq (.ops cC) .ret)
 (.seq (.ops UW) (.cond (.var 15)
 (.seq (.ops cE) (.seq (.ops cF) .ret))
 .skip))))))) (.seq (.ops cG) (.seq (.block 1 (.loop Ix)) (.seq (.ops WE) (.seq (.ops WG) (.seq (.seq (.ops WH) (.block 3 (.loop HL))) (.seq (.ops WO) (.seq (.ops WP) .ret)))))))))),[((.var 2),none),((.var 3),none),((.var 4),none)]⟩
def bk:List AB:=[
 ⟨none,.p1 some,[(.const (.slice none 0 (some 0)))],(.set 2),[]⟩]
def bl:List AB:=[
 ⟨none,.p1 some,[.var 0],.push,[]⟩,
 ⟨none,.call 202,[.loc 0],.push,[]⟩,
 ⟨none,.p1 some,[.var 1],.push,[]⟩,
 ⟨none,.call 202,[.loc 0],.push,[]⟩,
 ⟨none,.p1 some,[.loc 2],(.set 0),[]⟩,
 ⟨none,.p1 some,[.loc 0],(.set 1),[]⟩]
def UU:List AB:=[
 ⟨none,.r (fun s l=>match l with | [x]=>Bb Tryz.prog s 77 x | _=>none),[.var 1],.push,[]⟩,
 ⟨none,.p2 (AP Tryz.prog .gtr 3),[(.loc 0),(.const (.int .i64 (0)))],(.set 4),[]⟩]
def bo:List AB:=[
 ⟨none,.call 213,[.var 0,.var 1],.push,[]⟩,
 ⟨none,.p1 (fun x=>Za x 0),[.loc 0],.push,[]⟩,
 ⟨none,.p1 (fun x=>Za x 1),[.loc 1],.push,[]⟩,
 ⟨none,.p1 (fun x=>Za x 2),[.loc 2],.push,[]⟩,
 ⟨none,.p1 some,[.loc 2],.push,[]⟩,
 ⟨none,.p1 some,[.loc 2],(.set 3),[]⟩,
 ⟨none,.p1 some,[.loc 1],.push,[]⟩]
def bp:List AB:=[
 ⟨none,.p1 some,[.var 1],.push,[]⟩,
 ⟨none,.p1 some,[.loc 0],(.set 0),[]⟩,
 ⟨none,.p1 some,[.var 3],(.set 1),[]⟩]
def MX:Aa:=(.seq (.seq (.ops UU) (.cond (.var 4)
 .skip
 (.exit 0))) (.block 1 (.seq (.ops bo) (.ops bp))))
def bu:List AB:=[
 ⟨none,.p1 some,[.var 0],(.set 2),[]⟩]
def qk:Au:=⟨2,5,(.seq (.ops bk) (.seq (.ops bl) (.seq (.block 0 (.loop MX)) (.seq (.ops bu) .ret)))),[((.var 2),none)]⟩
def af:List AB:=[
 ⟨none,.p1 some,[(.const (.slice none 0 (some 0)))],(.set 2),[]⟩]
def ah:List AB:=[
 ⟨none,.r (fun s l=>match l with | [x]=>Bb Tryz.prog s 77 x | _=>none),[.var 0],.push,[]⟩,
 ⟨none,.r (fun s l=>match l with | [x]=>Bb Tryz.prog s 77 x | _=>none),[.var 1],.push,[]⟩,
 ⟨none,.p2 (AP Tryz.prog .add 3),[.loc 1,.loc 0],.push,[]⟩,
 ⟨none,.mk (Xx (B6 Tryz.prog 77)),[.loc 0,.loc 0],.push,[]⟩,
 ⟨none,.p1 some,[.loc 0],(.set 3),[]⟩]
def ai:List AB:=[
 ⟨none,.p1 some,[.var 0],(.set 9),[]⟩,
 ⟨none,.r (fun s l=>match l with | [x]=>Bb Tryz.prog s 77 x | _=>none),[.var 9],(.set 10),[]⟩,
 ⟨none,.p1 some,[(.const (.int .i64 (0)))],(.set 11),[]⟩]
def UM:List AB:=[
 ⟨none,.p2 (AP Tryz.prog .lss 3),[.var 11,.var 10],(.set 12),[]⟩]
def aj:List AB:=[
 ⟨none,.p2 (AR Tryz.prog 77),[.var 9,.var 11],.push,[]⟩,
 ⟨none,.r1 (fun s a=>AG Tryz.prog s 185 a),[.loc 0],.push,[]⟩,
 ⟨none,.p1 some,[.var 11],(.set 4),[]⟩,
 ⟨none,.p1 some,[.loc 0],(.set 5),[]⟩]
def ak:List AB:=[
 ⟨none,.p1 some,[(.const (.int .u64 (0)))],(.set 6),[]⟩]
def ao:List AB:=[
 ⟨none,.p1 some,[.var 1],(.set 13),[]⟩,
 ⟨none,.r (fun s l=>match l with | [x]=>Bb Tryz.prog s 77 x | _=>none),[.var 13],(.set 14),[]⟩,
 ⟨none,.p1 some,[(.const (.int .i64 (0)))],(.set 15),[]⟩]
def UN:List AB:=[
 ⟨none,.p2 (AP Tryz.prog .lss 3),[.var 15,.var 14],(.set 16),[]⟩]
def aq:List AB:=[
 ⟨none,.p2 (AR Tryz.prog 77),[.var 13,.var 15],.push,[]⟩,
 ⟨none,.r1 (fun s a=>AG Tryz.prog s 185 a),[.loc 0],.push,[]⟩,
 ⟨none,.p1 some,[.var 15],(.set 7),[]⟩,
 ⟨none,.p1 some,[.loc 0],(.set 8),[]⟩]
def ar:List AB:=[
 ⟨none,.p1 some,[.var 6],.push,[]⟩,
 ⟨none,.r1 (fun s x=>Ac Tryz.prog s 185 187 x),[.var 5],.push,[]⟩,
 ⟨none,.r1 (fun s x=>Ac Tryz.prog s 185 187 x),[.var 8],.push,[]⟩,
 ⟨none,.p2 (AP Tryz.prog .mul 187),[.loc 1,.loc 0],.push,[]⟩,
 ⟨none,.p2 (AP Tryz.prog .add 3),[.var 4,.var 7],.push,[]⟩,
 ⟨none,.p2 (AR Tryz.prog 77),[.var 3,.loc 0],.push,[]⟩,
 ⟨none,.r1 (fun s a=>AG Tryz.prog s 185 a),[.loc 0],.push,[]⟩,
 ⟨none,.r1 (fun s x=>Ac Tryz.prog s 185 187 x),[.loc 0],.push,[]⟩,
 ⟨none,.p2 (AP Tryz.prog .add 187),[.loc 4,.loc 0],.push,[]⟩,
 ⟨none,.p2 (AP Tryz.prog .add 187),[.loc 8,.loc 0],.push,[]⟩,
 ⟨none,.p1 some,[.loc 0],(.set 6),[]⟩]
def V5:List AB:=[
 ⟨none,.p2 (AP Tryz.prog .add 3),[.var 4,.var 7],.push,[]⟩,
 ⟨none,.p2 (AP Tryz.prog .and 187),[(.var 6),(.const (.int .u64 (4294967295)))],.push,[]⟩,
 ⟨none,.r1 (fun s x=>Ac Tryz.prog s 187 185 x),[.loc 0],.push,[]⟩,
 ⟨none,.p2 (AR Tryz.prog 77),[.var 3,.loc 2],.push,[]⟩,
 ⟨none,.e (fun s=>Xx (fun a x=>Xz (AY Tryz.prog s 185 a x))),[.loc 0,.loc 1],.push,[]⟩]
def V6:List AB:=[
 ⟨none,.p1 some,[.var 6],.push,[]⟩,
 ⟨none,.p2 (AP Tryz.prog .shr 187),[(.loc 0),(.const (.int .u64 (32)))],.push,[]⟩,
 ⟨none,.p1 some,[.loc 0],(.set 6),[]⟩]
def V7:List AB:=[
 ⟨none,.p2 (AP Tryz.prog .add 3),[(.var 15),(.const (.int .i64 (1)))],.push,[]⟩,
 ⟨none,.p1 some,[.loc 0],(.set 15),[]⟩]
def Iv:Aa:=(.seq (.ops UN) (.seq (.cond (.var 16)
 .skip
 (.exit 2)) (.seq (.block 3 (.seq (.ops aq) (.seq (.ops ar) (.seq (.ops V5) (.ops V6))))) (.ops V7))))
def V8:List AB:=[
 ⟨none,.r (fun s l=>match l with | [x]=>Bb Tryz.prog s 77 x | _=>none),[.var 1],.push,[]⟩,
 ⟨none,.p2 (AP Tryz.prog .add 3),[.var 4,.loc 0],.push,[]⟩,
 ⟨none,.r1 (fun s x=>Ac Tryz.prog s 187 185 x),[.var 6],.push,[]⟩,
 ⟨none,.p2 (AR Tryz.prog 77),[.var 3,.loc 1],.push,[]⟩,
 ⟨none,.e (fun s=>Xx (fun a x=>Xz (AY Tryz.prog s 185 a x))),[.loc 0,.loc 1],.push,[]⟩]
def V9:List AB:=[
 ⟨none,.p2 (AP Tryz.prog .add 3),[(.var 11),(.const (.int .i64 (1)))],.push,[]⟩,
 ⟨none,.p1 some,[.loc 0],(.set 11),[]⟩]
def Iw:Aa:=(.seq (.ops UM) (.seq (.cond (.var 12)
 .skip
 (.exit 0)) (.seq (.block 1 (.seq (.ops aj) (.seq (.ops ak) (.seq (.seq (.ops ao) (.block 2 (.loop Iv))) (.ops V8))))) (.ops V9))))
def WA:List AB:=[
 ⟨none,.call 202,[.var 3],.push,[]⟩,
 ⟨none,.p1 some,[.loc 0],(.set 2),[]⟩]
def qU:Au:=⟨2,17,(.seq (.ops af) (.seq (.ops ah) (.seq (.seq (.ops ai) (.block 0 (.loop Iw))) (.seq (.ops WA) .ret)))),[((.var 2),none)]⟩
theorem W5:AS Tryz.prog 202=some nk:=by kernel_rfl
theorem W7:AS Tryz.prog 227=some jM:=by kernel_rfl
theorem jq:AS Tryz.prog 216=some qr:=by kernel_rfl
theorem jy:AS Tryz.prog 233=some qz:=by kernel_rfl
theorem je:AS Tryz.prog 201=some qX:=by kernel_rfl
theorem jz:AS Tryz.prog 234=some q7:=by kernel_rfl
theorem jg:AS Tryz.prog 204=some qZ:=by kernel_rfl
theorem j4:AS Tryz.prog 235=some q8:=by kernel_rfl
theorem j5:AS Tryz.prog 236=some q9:=by kernel_rfl
theorem j6:AS Tryz.prog 237=some rA:=by kernel_rfl
theorem jn:AS Tryz.prog 213=some ql:=by kernel_rfl
theorem jm:AS Tryz.prog 212=some qk:=by kernel_rfl
theorem jb:AS Tryz.prog 192=some qU:=by kernel_rfl
end
end Go.Proofs.YtoaaclpjkelofaaGreatDoor.Am
set_option linter.unusedVariables false
namespace Go.Proofs.YtoaaclpjkelofaaGreatDoor.Am
noncomputable section
def LB:Nat:=4294967296
theorem A7:0<LB:=by decide
def AC:List Nat→Nat
 | []=>0
 | x::l=>x+LB * AC l
def BZ(l:List Nat):Prop:=∀x∈l,x<LB
def AK(n:Nat):List Nat:=if h:n=0 then []else n % LB::AK (n / LB)
termination_by n
decreasing_by exact Nat.div_lt_self (by omega) (by decide)
theorem BC:AK 0=[]:=by rw[AK];rfl
theorem Ew{n:Nat}(h:n≠0):AK n=n % LB::AK (n / LB):=by rw[AK,dif_neg h]
theorem Cp{n:Nat}(h:n≠0):AK n≠[]:=by rw[Ew h];exact fun e=>by cases e
theorem AZ(n:Nat):AC (AK n)=n:=by
 induction n using Nat.strongRecOn with
 | _ n ih =>
  by_cases h:n=0
  ·rw[h,BC];rfl
  ·rw[Ew h]
   show n % LB+LB * AC (AK (n / LB))=n
   rw[ih (n / LB) (Nat.div_lt_self (by omega) (by decide))]
   exact uo n LB
theorem AT(n:Nat):BZ (AK n):=by
 induction n using Nat.strongRecOn with
 | _ n ih =>
  by_cases h:n=0
  ·rw[h,BC];intro x hx;cases hx
  ·rw[Ew h]
   intro x hx
   rcases uT.1 hx with e | e
   ·rw[e];exact ti _ A7
   ·exact ih (n / LB) (Nat.div_lt_self (by omega) (by decide)) x e
def DR:List Nat→List Nat
 | []=>[]
 | x::l=>if x=0∧DR l=[]then []else x::DR l
theorem BZ.tail{x:Nat}{l:List Nat}(h:BZ (x::l)):BZ l:=fun y hy=>h y (tW _ hy)
theorem BN      : ∀ {l : List Nat}, BZ  l → DR    l = AK    (AC   l)
  | [],_=>by rw[DR,AC,BC]
  | x::l,h=>by
    have ih:=BN h.tail
    have hx:=h x tS
    unfold DR
    show(if x=0∧DR l=[]then []else x::DR l)=AK (x+LB * AC l)
    by_cases hz:x+LB * AC l=0
    · have h1 : x = 0 := by omega
      have h2:AC l=0:=by
        have:LB * AC l=0:=by omega
        rcases Nat.mul_eq_zero.1 this with q | q
        · exact absurd q (by decide)
        · exact q
      rw[if_pos ⟨h1,by rw[ih,h2,BC]⟩,hz,BC]
    · rw[Ew hz]
      have hm:(x+LB * AC l) % LB=x:=by rw[Nat.add_mul_mod_self_left,tr hx]
      have hd:(x+LB * AC l) / LB=AC l:=by rw[Nat.add_mul_div_left _ _ A7,uP hx,tR]
      rw[hm,hd]
      rw[if_neg,ih]
      rintro⟨q1,q2⟩
      rw[ih]at q2
      by_cases hv:AC l=0
      · rw[q1,hv]at hz;exact hz rfl
      · exact Cp hv q2
theorem BE:∀ (a b:List Nat),AC (a++b)=AC a+LB ^ a.length * AC b
 | [],b=>by simp[AC]
 | x::a,b=>by
  show x+LB * AC (a++b)=x+LB * AC a+LB ^ (a.length+1) * AC b
  rw[BE a b,th,uF,← tb,tU LB (LB ^ a.length)]
  omega
theorem CP:∀ {l:List Nat},BZ l→AC l<LB ^ l.length
 | [],_=>by simp[AC]
 | x::l,h=>by
  have ih:=CP h.tail
  have hx:=h x tS
  show x+LB * AC l<LB ^ (l.length+1)
  rw[uF,tU (LB ^ l.length) LB]
  have:LB * (AC l+1)≤LB * LB ^ l.length:=tt LB ih
  rw[th]at this
  omega
theorem Y5{a b:Nat}(h:AK a=AK b):a=b:=by rw[← AZ a,h,AZ]
def Lq:List Nat→Nat→Nat→List Nat
 | [],_,c=>[c]
 | y::a,x,c=>(c+x * y) % LB::Lq a x ((c+x * y) / LB)
theorem Lw:∀ (a:List Nat)(x c:Nat),AC (Lq a x c)=AC a * x+c
 | [],x,c=>by simp[Lq,AC]
 | y::a,x,c=>by
  have h1:=Lw a x ((c+x * y) / LB)
  have h2:=uo (c+x * y) LB
  show(c+x * y) % LB+LB * AC (Lq a x ((c+x * y) / LB))=(y+LB * AC a) * x+c
  rw[h1,th,tj,tU y x,tb]
  omega
def Bf(a b:List Nat):List (Nat×Nat):=(List.range (max a.length b.length)).map fun i=>(a.getD i 0,b.getD i 0)
theorem Hf(k:Nat):AC (List.replicate k 0)=0:=by
 induction k with
 | zero=>rfl
 | succ k ih =>
  rw[List.replicate_succ]
  show 0+LB * AC (List.replicate k 0)=0
  rw[ih];rfl
theorem gw{a:List Nat}{n:Nat}(h:a.length≤n):(List.range n).map (fun i=>a.getD i 0)=a++List.replicate (n - a.length) 0:=by
 refine List.ext_getElem (by simp;omega) fun i h1 h2=>?_
 simp only[List.getElem_map,List.getElem_range]
 by_cases hi:i<a.length
 ·rw[List.getElem_append_left hi,uy,tQ hi];rfl
 ·rw[List.getElem_append_right (by omega),List.getElem_replicate,uy,tY (by omega)];rfl
theorem YQ(a:List Nat)(k:Nat):AC (a++List.replicate k 0)=AC a:=by rw[BE,Hf];omega
theorem YP(a b:List Nat):AC ((Bf a b).map Prod.fst)=AC a:=by
 unfold Bf
 rw[List.map_map]
 have:=gw (a:=a) (n:=max a.length b.length) (by omega)
 show AC ((List.range _).map fun i=>a.getD i 0)=_
 rw[this,YQ]
theorem YR(a b:List Nat):AC ((Bf a b).map Prod.snd)=AC b:=by
 unfold Bf
 rw[List.map_map]
 have:=gw (a:=b) (n:=max a.length b.length) (by omega)
 show AC ((List.range _).map fun i=>b.getD i 0)=_
 rw[this,YQ]
def EI:List (Nat×Nat)→Nat→List Nat×Nat
 | [],c=>([],c)
 | p::P,c=>((p.1+p.2+c) % LB::(EI P ((p.1+p.2+c) / LB)).1,(EI P ((p.1+p.2+c) / LB)).2)
theorem MO:∀ (P:List (Nat×Nat))(c:Nat),AC (EI P c).1+LB ^ P.length * (EI P c).2=AC (P.map Prod.fst)+AC (P.map Prod.snd)+c
 | [],c=>by simp[EI,AC]
 | p::P,c=>by
  have h1:=MO P ((p.1+p.2+c) / LB)
  have h2:=uo (p.1+p.2+c) LB
  show(p.1+p.2+c) % LB+LB * AC (EI P ((p.1+p.2+c) / LB)).1+LB ^ (P.length+1) * (EI P ((p.1+p.2+c) / LB)).2=p.1+LB * AC (P.map Prod.fst)+(p.2+LB * AC (P.map Prod.snd))+c
  have h3:LB ^ (P.length+1) * (EI P ((p.1+p.2+c) / LB)).2=LB * (LB ^ P.length * (EI P ((p.1+p.2+c) / LB)).2):=by rw[uF,tU (LB ^ P.length) LB,tb]
  rw[h3]
  have h4:=congrArg (LB * ·) h1
  simp only[th]at h4
  omega
theorem Ip:∀ (P:List (Nat×Nat))(c:Nat),(EI P c).1.length=P.length
 | [],_=>rfl
 | p::P,c=>by show(EI P _).1.length+1=P.length+1;rw[Ip P]
theorem F9:∀ (P:List (Nat×Nat))(c:Nat),BZ (EI P c).1
 | [],_=>fun x hx=>by cases hx
 | p::P,c=>fun x hx=>by
  rcases uT.1 hx with e | e
  ·rw[e];exact ti _ A7
  ·exact F9 P _ x e
def Fj:List (Nat×Nat)→Nat→List Nat×Nat
 | [],c=>([],c)
 | p::P,c=>((p.1+LB - p.2 - c) % LB::(Fj P (if p.1<p.2+c then 1 else 0)).1,(Fj P (if p.1<p.2+c then 1 else 0)).2)
theorem Tp:∀ (P:List (Nat×Nat))(c:Nat),(∀p∈P,p.1<LB∧p.2<LB)→c≤1→AC (P.map Prod.fst)+LB ^ P.length * (Fj P c).2=AC (Fj P c).1+AC (P.map Prod.snd)+c
 | [],c,_,_=>by simp[Fj,AC]
 | p::P,c,h,hc=>by
  obtain⟨hp1,hp2⟩:=h p tS
  have hB:LB=4294967296:=rfl
  generalize hd:(if p.1<p.2+c then 1 else 0)=d
  have Tz:d≤1:=by rw[← hd];split<;>omega
  have h1:=Tp P d (fun q hq=>h q (tW _ hq)) Tz
  have h2:(p.1+LB - p.2 - c) % LB+p.2+c=p.1+LB * d:=by
   rw[← hd]
   rw[hB]at hp1 hp2 ⊢
   split<;>omega
  show p.1+LB * AC (P.map Prod.fst)+LB ^ (P.length+1) * (Fj P (if p.1<p.2+c then 1 else 0)).2=(p.1+LB - p.2 - c) % LB+LB * AC (Fj P (if p.1<p.2+c then 1 else 0)).1+(p.2+LB * AC (P.map Prod.snd))+c
  rw[hd]
  have h3:LB ^ (P.length+1) * (Fj P d).2=LB * (LB ^ P.length * (Fj P d).2):=by rw[uF,tU (LB ^ P.length) LB,tb]
  rw[h3]
  have h4:=congrArg (LB * ·) h1
  simp only[th]at h4
  omega
end
end Go.Proofs.YtoaaclpjkelofaaGreatDoor.Am
