/- works (layer 25), without fractions: the machine that takes it from a table; conditions: none. -/
import Derived.Test.YtoaaclpjkelofaaGreatDoorAmDvT
import Derived.Test.YtoaaclpjkelofaaGreatDoorAmDvS0
import Derived.Test.YtoaaclpjkelofaaGreatDoorAmDvS1
import Derived.Test.YtoaaclpjkelofaaGreatDoorAmDvS2
import Derived.Test.YtoaaclpjkelofaaGreatDoorAmDvS3
import Derived.Test.YtoaaclpjkelofaaGreatDoorAmDvS4
import Derived.Test.YtoaaclpjkelofaaGreatDoorAmDvS5
import Derived.Test.YtoaaclpjkelofaaGreatDoorAmDvS6
import Derived.Test.YtoaaclpjkelofaaGreatDoorAmDvS7
import Derived.Test.YtoaaclpjkelofaaGreatDoorAmDvS8
import Derived.Test.YtoaaclpjkelofaaGreatDoorAmDvS9
import Derived.Test.YtoaaclpjkelofaaGreatDoorAmM05
import Derived.Test.YtoaaclpjkelofaaGreatDoorAmM12
set_option linter.all false
set_option maxRecDepth 100000
namespace Go.Proofs.YtoaaclpjkelofaaGreatDoor.Am
open Go Go.Proofs
noncomputable section
open Tryz
theorem cZ:Du prog A2j:=Xr
theorem ce:Du prog A2k:=EW (HG.callOk Ff (EI Er) rfl cZ A2Z) cZ
theorem cg:Du prog A2l:=EW (HG.callOk Ff (EI Er) rfl ce A2a) ce
theorem cn:Du prog A2m:=EW (HG.callOk Ff (EI Er) rfl cg A2b) cg
theorem co:Du prog A2n:=EW (HG.callOk Ff (EI Er) rfl cn A2c) cn
theorem cq:Du prog A2o:=EW (HG.callOk Ff (EI Er) rfl co A2d) co
theorem ct:Du prog A2p:=EW (HG.callOk Ff (EI Er) rfl cq A2e) cq
theorem cu:Du prog A2q:=EW (HG.callOk Ff (EI Er) rfl ct A2f) ct
theorem cw:Du prog A2r:=EW (HG.callOk Ff (EI Er) rfl cu A2g) cu
theorem cy:Du prog A2s:=EW (HG.callOk Ff (EI Er) rfl cw A2h) cw
theorem mp:Du prog zx:=EW (HG.callOk Ff (EI Er) rfl cy A2i) cy
def om:Gl:=Lr (Vo [5] mq) pD
theorem ow:Du prog om:=EW (aH Ff (EI Er) rfl mp fun r hr=>by
 simp only[mq,A9E]at hr
 subst hr
 exact⟨rfl,rfl,fG⟩) Xr
theorem oo(s:CO):om 5 [] s=some (.bool true,s):=rfl
end
end Go.Proofs.YtoaaclpjkelofaaGreatDoor.Am
set_option linter.all false
set_option maxRecDepth 16000
namespace Go.Proofs.YtoaaclpjkelofaaGreatDoor.Am
open Go Go.Proofs
noncomputable section
open Tryz
def SD:Gl:=fun f xs s=>bif Nat.beq f 5 then om f xs s else none
theorem gH:Du prog SD:=by
 intro ρ s w f xs v s1 as' hc
 unfold SD at hc
 cases hb:Nat.beq f 5 with
 | true=>rw[hb]at hc;exact ow ρ s w f xs v s1 as' hc
 | false=>rw[hb]at hc;cases hc
def Oi:Gl:=Lr Ig SD
theorem gC:Du prog Oi:=EW tJ gH
def Zm:Dw:=⟨prog,Oi⟩
theorem XO:Cn Zm:=by
  refine⟨rfl,fun f xs s hf=>?_,fun f xs s p h=>?_⟩
  · have hk : ∀ k ∈ Hu,    Nat.beq f k = false := fun k hk => CT.beq_no   fun e => hf (e ▸ hk)
    have hW:=hk 5 (by unfold Hu;simp)
    have h1:=hk 26 (by unfold Hu;simp)
    have h2:=hk 27 (by unfold Hu;simp)
    have h3:=hk 53 (by unfold Hu;simp)
    have h4:=hk 32 (by unfold Hu;simp)
    have h5:=hk 59 (by unfold Hu;simp)
    have h6:=hk 85 (by unfold Hu;simp)
    have h7:=hk 73 (by unfold Hu;simp)
    have h8:=hk 66 (by unfold Hu;simp)
    have h9:=hk 104 (by unfold Hu;simp)
    have h10:=hk 86 (by unfold Hu;simp)
    show Oi f xs s=none
    simp only[Oi,SD,Ig,NZ,Vn,pA,tH,Lr,TJ,List.any_cons,List.any_nil,Bool.or_false,hW,h1,h2,h3,h4,h5,h6,h7,h8,h9,h10,cond_false]
  · show Oi f xs s=some p
    unfold Oi Lr
    rw[h]
theorem qQ(s:CO):Zm.nat 5 [] s=some (.bool true,s):=by
 have h:Ig 5 [] s=none:=rfl
 show(match Ig 5 [] s with | some p=>some p | none=>SD 5 [] s)=_
 rw[h]
 exact oo s
theorem ZY{W:World}{ρ:DV}{s:CO}{f:FuncId}{xs:List AV}{args:Array Value}(hd:Mw prog W ρ s)(ha:Cb ρ xs args.toList)(h:WF Zm f xs (fun r _=>r=.bool true) s):
  Calls prog f args W fun e W'=>e=.returned (.bool true)∧Ul W W':=by
 obtain⟨n,p,h1,h2⟩:=h
 have:=((A3r Ff (EI Er) rfl gC n).call ρ s W f xs p.1 p.2 args h1 hd.inv hd.fresh ha).2
 refine callsIn_wide.1 (CallsIn.mono this ?_)
 intro e w' he
 cases e with
 | panicked c=>exact he.elim
 | outgrown=>exact he.elim
 | returned v' =>
  obtain⟨ρ',k1,k2,k3⟩:=he
  rw[h2]at k1
  cases k1
  exact⟨rfl,sn k3 hd.notOwned⟩
theorem qr{t e:TypeId}(ht:prog.underlying t=some (.slice e)){W:World}{base:Nat}{v:Value}(h:Value.okWide prog W .any base t v){ρ:DV}{a:AV}(hr:Cb ρ [a] v.cells.toList):Cc ρ a v:=by
 have hv:v.cells.toList=[v]:=by
  cases v with
  | agg cs=>simp[Value.okWide,ht,Cell.okWide,Cell.ok]at h
  | _=>rfl
 rw[hv]at hr
 cases hr with
 | cons h _=>exact h
theorem px{t e:TypeId}(ht:prog.underlying t=some (.slice e)){W:World}{base:Nat}{v:Value}(h:Value.okWide prog W .any base t v)(a:Addr)(ha:v.cells.toList=[.slice (some a) 0 0]):0<W.heap.size:=by
 have hv:v=.slice (some a) 0 0:=by
  cases v with
  | agg cs =>
   simp[Value.okWide,ht,Cell.okWide,Cell.ok]at h
  | _ =>
   simp[Value.cells]at ha
   try (obtain⟨e1,e2,e3⟩:=ha;rw[e1,e2,e3])
 subst hv
 simp only[Value.okWide,ht,Cell.okWide,Cell.ok]at h
 obtain⟨_,_,_,_,row,cells,hs,_⟩:=h
 unfold World.shape? at hs
 cases hb:W.heap[a.block]? with
 | none=>rw[hb]at hs;cases hs
 | some o =>
  rcases A8N a.block W.heap.size with h' | h'
  ·omega
  ·rw[Array.getElem?_eq_none h']at hb;cases hb
def A5n:DataW Unit:=.agg (FE.map fun v=>match v with | .int k n=>.lit (.int k n) | _=>.nil)
theorem My{P:Program}{w:World}{x:String×DataW Unit}:∀ {laid:List (String×DataW Unit)}{ps:List MemPlace},DataW.LaidVars P w laid ps→x∈laid →
  ∃g t cs fuel p,P.globalNamed x.1=some g∧(P.globals[g]?).map (·.type)=some t∧w.var? P x.1=some cs∧DataW.trod (fun _=>()) P w 0 (fun _=>true) false fuel t cs.toList=some (x.2,p)
 | [],_,_,hx=>by cases hx
 | (n,d)::r,ps,h,hx=>by
  obtain⟨g,t,cs,fuel,p,q,h1,h2,h3,h4,h5,_⟩:=h
  rcases A8I.1 hx with rfl | hx
  ·exact⟨g,t,cs,fuel,p,h1,h2,h3,h4⟩
  ·exact My h5 hx
theorem A5U:prog.cellsOf 187=1:=by kernel_rfl
theorem pow_cells {W : World} {laid : List (String × DataW Unit)} (h : laidMet prog laid W) (hm : ("internal/strconv.uint64pow10", A5n) ∈ laid) :
    1<W.heap.size∧(∃cs e pl,W.heap[1]? = some (.cells cs e pl)∧cs.size=FE.length)∧∀k v,FE[k]? = some v→∃v',W.cell? ⟨1,k,none⟩=some v'∧Cc pg v v':=by
  obtain⟨ps,h,_⟩:=h
  obtain⟨g,t,cs,fuel,p,hg,ht,hv,hd⟩:=My h hm
  obtain rfl := Option.some.inj ((show prog.globalNamed "internal/strconv.uint64pow10" = some 1 by kernel_rfl).symm.trans hg)
  obtain rfl:=Option.some.inj ((show(prog.globals[1]?).map (·.type)=some 227 by kernel_rfl).symm.trans ht)
  obtain⟨xs,m,_,ex,hcl,hl,hel⟩:=DataW.trod_array underlying227 hd
  have e3:A5n=.agg (xs.map (·.1)):=(Prod.mk.inj ex).1
  have e3:=DataW.agg.inj e3
  have hlen:FE.length=20:=rfl
  have hcell:∀k v,FE[k]? = some v→∃v',W.cell? ⟨1,k,none⟩=some v'∧Cc pg v v':=by
    intro k v hk
    have hk20:k<20:=by
      rcases A8N k 20 with h' | h'
      · exact h'
      · rw[A8W (by omega)]at hk;cases hk
    have hE:=hel k hk20
    rw[A5U,A8S,A8O (by omega)]at hE
    obtain⟨z,e1,e2,_⟩:=DataW.trod_int underlying187 hE
    have hvz:v=.int .u64 z:=by
      have e4:(FE.map fun v=>match v with | .int k n=>(DataW.lit (.int k n):DataW Unit) | _=>.nil)[k]? = (xs.map (·.1))[k]? := by rw[e3]
      rw[A8j,hk,A8j,A8O (by omega:k<xs.length),e2]at e4
      have hall:∀v∈FE,∃n,v=.int .u64 n:=by
        intro v hv
        simp only[FE,A8I,A8K,A9V]at hv
        rcases hv with rfl | rfl | rfl | rfl | rfl | rfl | rfl | rfl | rfl | rfl | rfl | rfl | rfl | rfl | rfl | rfl | rfl | rfl | rfl | rfl<;>exact⟨_,rfl⟩
      obtain⟨n,rfl⟩:=hall v (A8a hk)
      simp only[A8v,A9b,DataW.lit.injEq,Lit.int.injEq,A9S]at e4
      rw[e4]
    subst hvz
    refine⟨.int .u64 z,?_,.int _ _⟩
    rw[World.var?_cell hg hv k]
    have h0:((cs.toList.drop k).take 1)[0]? = some (.int .u64 z):=by rw[e1];rfl
    have:cs.toList[k]? = some (.int .u64 z):=by simpa using h0
    simpa using this
  have hsz:∃cs e pl,W.heap[1]? = some (.cells cs e pl)∧cs.size=FE.length:=by
    have hv':=hv
    unfold World.var? at hv'
    rw[hg,Option.bind_some]at hv'
    have h20:prog.cellsOf 227=20:=by kernel_rfl
    rw[h20]at hcl
    cases hh:W.heap[1]? with
    | none=>rw[hh]at hv';cases hv'
    | some o =>
      rw[hh]at hv'
      cases o with
      | cells cs' e pl =>
        injection hv' with hv'
        subst hv'
        exact⟨cs',e,pl,rfl,by rw[hlen,← hcl,Array.length_toList]⟩
      | _=>cases hv'
  refine⟨?_,hsz,hcell⟩
  obtain⟨v',h1,_⟩:=hcell 0 (.int .u64 1) rfl
  exact cQ h1
section
variable{H:Type}{enc:TypeId×Value→H}{w:World}{held:Bool}
def tR(k:IntKind)(_:CO)(us:List AV)(x:Int):Prop:=us=[.int k x]∧(Lit.int k x).wf=true
theorem pP(k:IntKind)(s s':CO)(us:List AV)(x:Int)(h:tR k s us x)(_:DL s.next s s'):tR k s' us x:=h
theorem fI{t:TypeId}{k:IntKind}(ht:prog.underlying t=some (.int k))(n:Nat)(cs:List Value)(y:DataW H×List MemPlace)
  (h:DataW.trod enc prog w 0 (fun _=>true) held n t cs=some y) (ρ:DV) (s:CO) (hd:Mw prog w ρ s):bN prog w (tR k) cs ρ s:=by
 obtain⟨m,rfl,_,h3⟩:=DataW.trod_int ht h
 exact⟨ρ,s,[.int k m],m,hd,DV.le_refl ρ,DL.refl _ _,.cons (.int k m) .nil,rfl,h3⟩
end
theorem qP{n:Int}(h:(Lit.int .u8 n).wf=true):0≤n∧n<256:=by
 simp only[Lit.wf,A9W,decide_eq_true_eq]at h
 have h1:0≤n:=h.1
 have h2:n≤255:=h.2
 omega
theorem A5V:prog.cellsOf 5=1:=by kernel_rfl
theorem uI{s:CO}{us:List AV}{l:List Int}(h:bS (tR .u8) 1 s us l):∃v,us=[v]∧So s v (l.map Int.toNat)∧∀j,EQ v=some j→j<s.next∨l=[]:=by
 obtain⟨a,cap,rfl,hl,hcap,h2⟩:=h
 refine⟨_,rfl,⟨a,cap,by rw[A8c],fun k x hx=>?_⟩,fun j hj=>?_⟩
 ·rw[A8j]at hx
  cases hk:l[k]? with
  | none=>rw[hk]at hx;cases hx
  | some z =>
   rw[hk]at hx
   injection hx with hx
   obtain⟨i,o,vs,g1,g2,g3,g4,rfl,g5⟩:=h2 k z hk
   have hz:=qP g5
   have hld:=g4 0 _ rfl
   rw[Lb]at hld
   have hzx:(x:Int)=z:=by rw[← hx];exact Int.toNat_of_nonneg hz.1
   exact⟨by omega,i,o,g1,g2,by rw[hzx];simpa using hld⟩
 ·cases l with
  | nil=>exact .inr rfl
  | cons z l =>
   obtain⟨i,o,vs,g1,g2,_⟩:=h2 0 z rfl
   rw[g1]at hj
   injection hj with hj
   exact .inl (by omega)
section
variable{H:Type}{enc:TypeId×Value→H}{W:World}{base:Nat}
theorem tX:Ja (iO 1 FE) 1 FE=true:=by kernel_rfl
theorem dreads_true(hp:1<W.heap.size∧(∃cs e pl,W.heap[1]? = some (.cells cs e pl)∧cs.size=FE.length)∧∀k v,FE[k]? = some v→∃v',W.cell? ⟨1,k,none⟩=some v'∧Cc pg v v'){v0 v1:Value}(h0:Value.okWide prog W .any base 22 v0)(h1:Value.okWide prog W .any base 5 v1)
  {d0 d1:DataW H} {p0 p1:List MemPlace} (t0:DataW.Trod enc prog W 0 (fun _=>true) true 22 v0 d0 p0) (t1:DataW.Trod enc prog W 0 (fun _=>true) true 5 v1 d1 p1):
  Calls prog 3 #[v0,v1] W fun e W'=>e=.returned (.bool true)∧Ul W W':=by
 obtain⟨n0,t0⟩:=t0
 obtain⟨n1,t1⟩:=t1
 obtain⟨ρ,hd⟩:=A5c (P:=prog) hp.1 hp.2.1 hp.2.2
 obtain⟨ρ1,s1,us1,l,g1,g2,g3,g4,g5⟩:=XF (pP .u8) underlying22 A5V (by decide) (fun _ n cs y h _=>fI underlying5 n cs y h) t0 (fun a ha=>px underlying22 h0 a ha) hd
 obtain⟨m,hm1,_,hm3⟩:=DataW.trod_int underlying5 t1
 have hv1:v1=.int .u8 m:=by
  cases v1 with
  | agg cs=>simp[Value.okWide,underlying5,Cell.okWide,Cell.ok]at h1
  | _=>simp[Value.cells]at hm1<;>first | exact hm1 | (obtain⟨e1,e2⟩:=hm1;rw[e1,e2])
 subst hv1
 have hmr:=qP hm3
 obtain⟨a0,rfl,m1,m2⟩:=uI g5
 have o2:DL 2 (iO 1 FE) s1:=g3
 have hk:m=((m.toNat:Nat):Int):=(Int.toNat_of_nonneg hmr.1).symm
 refine ZY g1 (.cons (qr underlying22 h0 g4) (.cons (.int .u8 m) .nil)) ?_
 rw[hk]
 refine fE XO (fun s _=>qQ s) ?_ ?_ m1 (fun hne j hj=>(m2 j hj).elim id fun e=>absurd (by rw[e];rfl) hne) (by omega) (fun _=>rfl)
 ·rw[Ec (o2.2 1 (by omega))];exact tX
 ·exact A8L (by show 1<2;omega) o2.1
end
end
end Go.Proofs.YtoaaclpjkelofaaGreatDoor.Am
