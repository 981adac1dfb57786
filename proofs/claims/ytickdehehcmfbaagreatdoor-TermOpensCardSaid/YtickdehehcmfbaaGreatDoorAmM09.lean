/- The laws of terms at the door: the memory, the table of powers, the arguments; conditions: none. -/
import Derived.WideKeyArgs
import Derived.ChangeBears2
import Derived.OpenShut
import GoSem.ClaimJoined
import Derived.Test.YtickdehehcmfbaaGreatDoorAmM04
import Derived.Test.YtickdehehcmfbaaGreatDoorAmM08
set_option linter.unusedVariables false
set_option linter.unusedSimpArgs false
set_option maxRecDepth 16000
namespace Go.Proofs.YtickdehehcmfbaaGreatDoor.Am
open Go Go.Proofs
noncomputable section
theorem PI:Ah ac:=by
 refine⟨rfl,fun f xs s hf=>?_,fun f xs s p h=>h⟩
 show HE f xs s=none
 have hf':∀k∈[44,30,45,127,109,7,55,37],Nat.beq f k=false:=fun k hk=>AI.beq_no fun e=>hf (e▸hk)
 have h1:([44,30,45,127,109,7]:List FuncId).any (Nat.beq f)=false:=by
  rw[List.any_eq_false]
  intro k hk
  rw[hf' k (dV (bs:=[55,37]) hk)]
  exact Bool.false_ne_true
 have h2:Cn f xs s=none:=by
  unfold Cn Ko
  rw[h1];rfl
 have h3:PW f xs s=none:=by
  unfold PW
  rw[hf' 55 (by simp),hf' 37 (by simp)];rfl
 unfold HE
 rw[h2,h3]
theorem Ox{W:World}{ρ:Au}{s:AD}{f:FuncId}{xs:List AV}{args:Array Value}(hd:FY Tryz.prog W ρ s)(ha:AJ ρ xs args.toList)(h:WF ac f xs (fun r _=>r=.bool true) s):
  Calls Tryz.prog f args W fun e W'=>e=.returned (.bool true)∧KD W W':=by
 obtain⟨n,p,h1,h2⟩:=h
 have:=((cH OP (It Lx) rfl UJ n).call ρ s W f xs p.1 p.2 args h1 hd.inv hd.fresh ha).2
 refine callsIn_wide.1 (CallsIn.mono this ?_)
 intro e w' he
 cases e with
 | panicked c=>exact he.elim
 | outgrown=>exact he.elim
 | returned v' =>
  obtain⟨ρ',k1,k2,k3⟩:=he
  rw[h2]at k1
  cases k1
  exact⟨rfl,UE k3 hd.notOwned⟩
theorem reads_again{H:Type}{enc:TypeId×Value→H}{P:Program}{t:TypeId}(hl:laidOutB P=true)(hr:P.readableRec t=true)(hrow:t<P.types.size){W W':World}{v:Value}{d:DataW H}{ps:List MemPlace}{sp:Nat→Bool}
  (h:DataW.Trod enc P W 0 (fun _=>true) true t v d ps) (hk:KD W W') (hlt:∀x∈ps,x.block<W.heap.size) (hs:∀x∈ps,sp x.block=true):DataW.Trod enc P W' 0 sp true t v d ps:=
 WideElems.Trod_stays hl hr hrow h (fun x hx=>by
  have:=hlt x hx
  cases x with
  | cell b o=>exact World.cell?_of_block (w:=W) (hk.heap b this)
  | map b=>exact hk.heap b this) hs
theorem Nk{t e:TypeId}(ht:Tryz.prog.underlying t=some (.slice e)){W:World}{base:Nat}{v:Value}(h:Value.okWide Tryz.prog W .any base t v){ρ:Au}{a:AV}(hr:AJ ρ [a] v.cells.toList):AL ρ a v:=by
 have hv:v.cells.toList=[v]:=by
  cases v with
  | agg cs=>simp[Value.okWide,ht,Cell.okWide,Cell.ok]at h
  | _=>rfl
 rw[hv]at hr
 cases hr with
 | cons h _=>exact h
theorem MK{t e:TypeId}(ht:Tryz.prog.underlying t=some (.slice e)){W:World}{base:Nat}{v:Value}(h:Value.okWide Tryz.prog W .any base t v)(a:Addr)(ha:v.cells.toList=[.slice (some a) 0 0]):0<W.heap.size:=by
 have hv:v=.slice (some a) 0 0:=by
  cases v with
  | agg cs =>
   simp[Value.okWide,ht,Cell.okWide,Cell.ok]at h
  | _ =>
   simp[Value.cells]at ha
   try (obtain⟨e1,e2,e3⟩:=ha;rw[e1,e2,e3])
 subst hv
 simp only[Value.okWide,ht,Cell.okWide,Cell.ok]at h
 obtain⟨_,_,_,_,row,cells,hs,_⟩:=h
 unfold World.shape? at hs
 cases hb:W.heap[a.block]? with
 | none=>rw[hb]at hs;cases hs
 | some o =>
  rcases cZ a.block W.heap.size with h' | h'
  ·omega
  ·rw[Array.getElem?_eq_none h']at hb;cases hb
def aj:DataW Unit:=.agg (BC.map fun v=>match v with | .int k n=>.lit (.int k n) | _=>.nil)
theorem GG{P:Program}{w:World}{x:String×DataW Unit}:∀ {laid:List (String×DataW Unit)}{ps:List MemPlace},DataW.LaidVars P w laid ps→x∈laid →
  ∃g t cs fuel p,P.globalNamed x.1=some g∧(P.globals[g]?).map (·.type)=some t∧w.var? P x.1=some cs∧DataW.trod (fun _=>()) P w 0 (fun _=>true) false fuel t cs.toList=some (x.2,p)
 | [],_,_,hx=>by cases hx
 | (n,d)::r,ps,h,hx=>by
  obtain⟨g,t,cs,fuel,p,q,h1,h2,h3,h4,h5,_⟩:=h
  rcases dE.1 hx with rfl | hx
  ·exact⟨g,t,cs,fuel,p,h1,h2,h3,h4⟩
  ·exact GG h5 hx
theorem aU:Tryz.prog.cellsOf 143=1:=by kernel_rfl
theorem pow_cells {W : World} {laid : List (String × DataW Unit)} (h : laidMet Tryz.prog laid W) (hm : ("internal/strconv.uint64pow10", aj)   ∈ laid) :
    1<W.heap.size∧∀k v,BC[k]? = some v→∃v',W.cell? ⟨1,k,none⟩=some v'∧AL Pf v v':=by
  obtain⟨ps,h,_⟩:=h
  obtain⟨g,t,cs,fuel,p,hg,ht,hv,hd⟩:=GG h hm
  obtain rfl := Option.some.inj ((show Tryz.prog.globalNamed "internal/strconv.uint64pow10" = some 1 by kernel_rfl).symm.trans hg)
  obtain rfl:=Option.some.inj ((show(Tryz.prog.globals[1]?).map (·.type)=some 169 by kernel_rfl).symm.trans ht)
  obtain⟨xs,m,_,ex,_,hl,hel⟩:=DataW.trod_array Tryz.underlying169 hd
  have e3:aj=.agg (xs.map (·.1)):=(Prod.mk.inj ex).1
  have e3:=DataW.agg.inj e3
  have hlen:BC.length=20:=rfl
  have hcell:∀k v,BC[k]? = some v→∃v',W.cell? ⟨1,k,none⟩=some v'∧AL Pf v v':=by
    intro k v hk
    have hk20:k<20:=by
      rcases cZ k 20 with h' | h'
      · exact h'
      · rw[cm (by omega)]at hk;cases hk
    have hE:=hel k hk20
    rw[aU,ct,cY (by omega)]at hE
    obtain⟨z,e1,e2,_⟩:=DataW.trod_int Tryz.underlying143 hE
    have hvz:v=.int .u64 z:=by
      have e4:(BC.map fun v=>match v with | .int k n=>(DataW.lit (.int k n):DataW Unit) | _=>.nil)[k]? = (xs.map (·.1))[k]? := by rw[e3]
      rw[dG,hk,dG,cY (by omega:k<xs.length),e2]at e4
      have hall:∀v∈BC,∃n,v=.int .u64 n:=by
        intro v hv
        simp only[BC,dE,dS,or_false]at hv
        rcases hv with rfl | rfl | rfl | rfl | rfl | rfl | rfl | rfl | rfl | rfl | rfl | rfl | rfl | rfl | rfl | rfl | rfl | rfl | rfl | rfl<;>exact⟨_,rfl⟩
      obtain⟨n,rfl⟩:=hall v (cu hk)
      simp only[dJ,Option.some.injEq,DataW.lit.injEq,Lit.int.injEq,true_and]at e4
      rw[e4]
    subst hvz
    refine⟨.int .u64 z,?_,.int _ _⟩
    rw[World.var?_cell hg hv k]
    have h0:((cs.toList.drop k).take 1)[0]? = some (.int .u64 z):=by rw[e1];rfl
    have:cs.toList[k]? = some (.int .u64 z):=by simpa using h0
    simpa using this
  refine⟨?_,hcell⟩
  obtain⟨v',h1,_⟩:=hcell 0 (.int .u64 1) rfl
  exact N0 h1
section
variable{H:Type}{enc:TypeId×Value→H}{w:World}{held:Bool}
def UN(k:IntKind)(_:AD)(us:List AV)(x:Int):Prop:=us=[.int k x]∧(Lit.int k x).wf=true
theorem Su(k:IntKind)(s s':AD)(us:List AV)(x:Int)(h:UN k s us x)(_:BK s.next s s'):UN k s' us x:=h
theorem PG{t:TypeId}{k:IntKind}(ht:Tryz.prog.underlying t=some (.int k))(n:Nat)(cs:List Value)(y:DataW H×List MemPlace)
  (h:DataW.trod enc Tryz.prog w 0 (fun _=>true) held n t cs=some y) (ρ:Au) (s:AD) (hd:FY Tryz.prog w ρ s):LB Tryz.prog w (UN k) cs ρ s:=by
 obtain⟨m,rfl,_,h3⟩:=DataW.trod_int ht h
 exact⟨ρ,s,[.int k m],m,hd,Au.le_refl ρ,BK.refl _ _,.cons (.int k m) .nil,rfl,h3⟩
theorem au{n:Int}(h:(Lit.int .i8 n).wf=true):-128≤n∧n≤127:=by
 simp only[Lit.wf,Bool.and_eq_true,decide_eq_true_eq]at h
 exact h
theorem Oi{n:Int}(h:(Lit.int .u8 n).wf=true):0≤n∧n<256:=by
 simp only[Lit.wf,Bool.and_eq_true,decide_eq_true_eq]at h
 have h1:0≤n:=h.1
 have h2:n≤255:=h.2
 omega
theorem bL:Tryz.prog.cellsOf 5=1:=by kernel_rfl
theorem bK:Tryz.prog.cellsOf 28=1:=by kernel_rfl
theorem R7:Tryz.prog.cellsOf 82=4:=by kernel_rfl
def OQ(_:AD)(us:List AV)(m:JI):Prop:=us=m.cells∧m.ok
theorem Pb(s s':AD)(us:List AV)(m:JI)(h:OQ s us m)(_:BK s.next s s'):OQ s' us m:=h
theorem Mt(n:Nat)(cs:List Value)(y:DataW H×List MemPlace)(h:DataW.trod enc Tryz.prog w 0 (fun _=>true) held n 82 cs=some y)(ρ:Au)(s:AD)(hd:FY Tryz.prog w ρ s):LB Tryz.prog w OQ cs ρ s:=by
 obtain⟨xs,m,_,rfl,h3,h4,h5⟩:=DataW.trod_struct Tryz.underlying82 h
 rw[R7]at h3
 have h4:xs.length=4:=h4
 match cs,h3 with
 | [c0,c1,c2,c3],_ =>
  have e0:DataW.trod enc Tryz.prog w 0 (fun _=>true) held m 5 (([c0,c1,c2,c3].drop 0).take (Tryz.prog.cellsOf 5))=xs[0]? := h5 0 _ rfl
  have e1:DataW.trod enc Tryz.prog w 0 (fun _=>true) held m 5 (([c0,c1,c2,c3].drop 1).take (Tryz.prog.cellsOf 5))=xs[1]? := h5 1 _ rfl
  have e2:DataW.trod enc Tryz.prog w 0 (fun _=>true) held m 5 (([c0,c1,c2,c3].drop 2).take (Tryz.prog.cellsOf 5))=xs[2]? := h5 2 _ rfl
  have e3:DataW.trod enc Tryz.prog w 0 (fun _=>true) held m 5 (([c0,c1,c2,c3].drop 3).take (Tryz.prog.cellsOf 5))=xs[3]? := h5 3 _ rfl
  rw[bL]at e0 e1 e2 e3
  rw[cY (show 0<xs.length by omega)]at e0
  rw[cY (show 1<xs.length by omega)]at e1
  rw[cY (show 2<xs.length by omega)]at e2
  rw[cY (show 3<xs.length by omega)]at e3
  obtain⟨a,q0,_,w0⟩:=DataW.trod_int Tryz.underlying5 e0
  obtain⟨b,q1,_,w1⟩:=DataW.trod_int Tryz.underlying5 e1
  obtain⟨c,q2,_,w2⟩:=DataW.trod_int Tryz.underlying5 e2
  obtain⟨d,q3,_,w3⟩:=DataW.trod_int Tryz.underlying5 e3
  injection q0 with q0
  injection q1 with q1
  injection q2 with q2
  injection q3 with q3
  subst q0;subst q1;subst q2;subst q3
  have w0:=Oi w0
  have w1:=Oi w1
  have w2:=Oi w2
  have w3:=Oi w3
  obtain⟨a,rfl⟩:∃k:Nat,a=k:=⟨a.toNat,by omega⟩
  obtain⟨b,rfl⟩:∃k:Nat,b=k:=⟨b.toNat,by omega⟩
  obtain⟨c,rfl⟩:∃k:Nat,c=k:=⟨c.toNat,by omega⟩
  obtain⟨d,rfl⟩:∃k:Nat,d=k:=⟨d.toNat,by omega⟩
  exact⟨ρ,s,[CY a,CY b,CY c,CY d],(a,b,c,d),hd,Au.le_refl ρ,BK.refl _ _,.cons (.int _ _) (.cons (.int _ _) (.cons (.int _ _) (.cons (.int _ _) .nil))),rfl,by show a<256;omega,by show b<256;omega,by show c<256;omega,by show d<256;omega⟩
theorem UG{o:Option Ae}:∀ (l:List AV)(off:Nat),(∀j u,l[j]? = some u→CW o (off+j)=some u)→l≠[]→BF o off l.length=some l:=by
 intro l off h h0
 obtain⟨r,hr⟩:∃r,TG o=some r:=by
  cases l with
  | nil=>exact absurd rfl h0
  | cons a l =>
   have:=h 0 a rfl
   unfold CW at this
   cases hr:TG o with
   | none=>rw[hr]at this;cases this
   | some r=>exact⟨r,rfl⟩
 have hg:∀j u,l[j]? = some u→off+j<r.n∧r.c.get (off+j)=some u:=fun j u hj=>by
  have:=h j u hj
  unfold CW at this
  rw[hr,Option.bind_some]at this
  obtain⟨g1,g2⟩:=AB this
  exact⟨by simpa[cy]using g1,g2⟩
 have ht:∀ (m:List AV) (k:Nat),(∀j u,m[j]? = some u→r.c.get (k+j)=some u)→r.c.take k m.length=some m:=by
  intro m
  induction m with
  | nil=>intro k _;simp[AI.take]
  | cons a m ih =>
   intro k hk
   have h1:=hk 0 a rfl
   rw[dW]at h1
   simp only[cN,AI.take,h1,ih (k+1) fun j u hj=>by rw[show k+1+j=k+(j+1)from by omega];exact hk (j+1) u hj]
 unfold BF
 rw[hr,Option.bind_some,ht l off fun j u hj=>(hg j u hj).2]
 have hl:off+l.length≤r.n:=by
  cases hz:l.getLast? with
  | none=>exact absurd (List.getLast?_eq_none_iff.1 hz) h0
  | some u =>
   have hlen:0<l.length:=List.length_pos_iff.2 h0
   have:=(hg (l.length - 1) l[l.length - 1] (cY (by omega))).1
   omega
 have:Nat.ble (off+l.length) r.n=true:=by rw[ce];exact hl
 rw[this];rfl
theorem M8{s:AD}{us:List AV}{l:List JI}(h:KF OQ 4 s us l):∃v,us=[v]∧Cl s v l∧∀m∈l,m.ok:=by
  obtain⟨a,cap,rfl,hl,hcap,h2⟩:=h
  refine⟨_,rfl,⟨a,cap,rfl,fun k m hm=>?_⟩,fun m hm=>?_⟩
  · obtain⟨i,o,vs,g1,g2,g3,g4,rfl,g5⟩:=h2 k m hm
    exact⟨i,o,g1,g2,UG m.cells (o+k * 4) (fun j u hj=>by rw[← Kl];exact g4 j u hj) (by simp[JI.cells])⟩
  · obtain ⟨k, hk⟩ := List.mem_iff_getElem?.1 hm
    obtain⟨i,o,vs,g1,g2,g3,g4,rfl,g5⟩:=h2 k m hk
    exact g5
theorem SW{s:AD}{us:List AV}{l:List Int}(h:KF (UN .i8) 1 s us l):∃v,us=[v]∧HS s v l∧∀x∈l,-128≤x∧x≤127:=by
  obtain⟨a,cap,rfl,hl,hcap,h2⟩:=h
  refine⟨_,rfl,⟨a,cap,rfl,fun k x hx=>?_⟩,fun x hx=>?_⟩
  · obtain⟨i,o,vs,g1,g2,g3,g4,rfl,g5⟩:=h2 k x hx
    exact⟨i,o,g1,g2,by rw[← Kl];simpa using g4 0 _ rfl⟩
  · obtain ⟨k, hk⟩ := List.mem_iff_getElem?.1 hx
    obtain⟨i,o,vs,g1,g2,g3,g4,rfl,g5⟩:=h2 k x hk
    exact au g5
end
theorem UQ:Co (Py 1 BC) 1 BC=true:=by kernel_rfl
theorem PF{W:World}(hp:1<W.heap.size∧∀k v,BC[k]? = some v→∃v',W.cell? ⟨1,k,none⟩=some v'∧AL Pf v v'):∃ρ,FY Tryz.prog W ρ (Py 1 BC):=aa hp.1 hp.2
section
variable{H:Type}{enc:TypeId×Value→H}{W:World}{base:Nat}
theorem opens14_true(hp:1<W.heap.size∧∀k v,BC[k]? = some v→∃v',W.cell? ⟨1,k,none⟩=some v'∧AL Pf v v'){v0 v1:Value}(h0:Value.okWide Tryz.prog W .any base 22 v0)(h1:Value.okWide Tryz.prog W .any base 23 v1)
  {d0 d1:DataW H} {p0 p1:List MemPlace} (t0:DataW.Trod enc Tryz.prog W 0 (fun _=>true) true 22 v0 d0 p0) (t1:DataW.Trod enc Tryz.prog W 0 (fun _=>true) true 23 v1 d1 p1):
  Calls Tryz.prog 3 #[v0,v1] W fun e W'=>e=.returned (.bool true)∧KD W W':=by
 obtain⟨n0,t0⟩:=t0
 obtain⟨n1,t1⟩:=t1
 obtain⟨ρ,hd⟩:=PF hp
 obtain⟨ρ1,s1,us1,l,g1,g2,g3,g4,g5⟩:=HX Pb Tryz.underlying22 R7 (by decide) (fun _ n cs y h _=>Mt n cs y h) t0 (fun a ha=>MK Tryz.underlying22 h0 a ha) hd
 obtain⟨ρ2,s2,us2,ids,k1,k2,k3,k4,k5⟩:=HX (Su .i8) Tryz.underlying23 bK (by decide) (fun _ n cs y h _=>PG Tryz.underlying28 n cs y h) t1 (fun a ha=>MK Tryz.underlying23 h1 a ha) g1
 obtain⟨a0,rfl,m1,m2⟩:=M8 g5
 obtain⟨a1,rfl,i1,i2⟩:=SW k5
 have o2:BK 2 (Py 1 BC) s2:=g3.trans (k3.mono g3.1)
 refine Ox k1 (.cons (Nk Tryz.underlying22 h0 (g4.mono k2)) (.cons (Nk Tryz.underlying23 h1 k4) .nil)) (NC PI ?_ ?_ (m1.old k3) m2 i1 i2)
 ·rw[BT (o2.2 1 (by omega))];exact UQ
 ·exact cg (by show 1<2;omega) o2.1
end
end
end Go.Proofs.YtickdehehcmfbaaGreatDoor.Am
