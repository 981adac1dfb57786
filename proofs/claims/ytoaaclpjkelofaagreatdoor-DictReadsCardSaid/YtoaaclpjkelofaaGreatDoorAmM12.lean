/- Axioms: what is noted of each clause; conditions: none. -/
import Derived.Test.YtoaaclpjkelofaaGreatDoorAmM11
import Derived.Test.YtoaaclpjkelofaaGreatDoorAmM05
import Derived.Test.YtoaaclpjkelofaaGreatDoorAmM10
import Derived.Test.YtoaaclpjkelofaaGreatDoorAmM06
set_option linter.all false
set_option maxHeartbeats 1000000
set_option maxRecDepth 20000
namespace Go.Proofs.YtoaaclpjkelofaaGreatDoor.Am
open Go Go.Proofs
noncomputable section
open Tryz
theorem Ov.lt{F:List Fm}{c:List Int}{n:Int}(h:Ov F c n)(h2:HH F)(hk:F3 F):0≤n∧n<F.length:=by
  have hrg:=HH.rg h2
  obtain⟨h1,hf,hn⟩:=h
  rw[hn]
  unfold EH at hf ⊢
  simp only[show ¬ ((3:Int)=2)from by omega,if_false]at hf ⊢
  cases hc:Jv 1 0 [] (EY F 3 c)with
  | none=>show 0≤(0:Int)∧(0:Int)<F.length;omega
  | some own =>
    rw[hc]at hf
    simp only at hf ⊢
    by_cases hcl:own.any (ET F 3 own)=true
    · rw[if_pos hcl];show 0≤(0:Int)∧(0:Int)<F.length;omega
    · rw[if_neg hcl]at hf ⊢
      match hi:DS own,hf with
      | [],_=>show 0≤(1:Int)∧(1:Int)<F.length;omega
      | [x],_ =>
        have hx:x∈own:=E0.1 (by rw[hi];exact A9E.2 rfl)
        rcases NB hc x hx with h | h
        · cases h
        · exact RN hk h1 x h
      | a::b::r,hf =>
        have hf':DN F (Ex F 3 N7 (a::b::r))=F:=hf
        have hm:(Ex F 3 N7 (a::b::r)).key∈DP (DN F (Ex F 3 N7 (a::b::r))):=HR
        have hav:Av (DN F (Ex F 3 N7 (a::b::r))) (Ex F 3 N7 (a::b::r)) (IH (DN F (Ex F 3 N7 (a::b::r))) (Ex F 3 N7 (a::b::r)).key:Int):=⟨hm,rfl⟩
        have:=hav.lt
        show 0≤(IH (DN F (Ex F 3 N7 (a::b::r))) (Ex F 3 N7 (a::b::r)).key:Int)∧(IH (DN F (Ex F 3 N7 (a::b::r))) (Ex F 3 N7 (a::b::r)).key:Int)<F.length
        rw[hf']at this ⊢
        exact this
structure A0s(lo:Fv)(l m b2 b4 p:Nat)(S:CO)(L:LG)(O:List Nat)(N:List (List Int)):Prop where
 lp:Df S l=some lo
 g2:S.heap.get b2=some (R 24 0 false [.ptr (some (p,0))])
 g4:S.heap.get b4=some (R 57 0 false [.map (some m)])
 lt:l<S.next∧m<S.next∧b2<S.next∧b4<S.next
 out:l ∉ O∧m ∉ O∧b2 ∉ O∧b4 ∉ O
 pos:0<L.F.length
 kids:F3 L.F
 ex:∃own,S.heap.get m=some (.map 3 (Cy own))∧own.Nodup∧(∀x∈own,0≤x∧x<L.F.length)∧∀c∈N,∃n,Ov L.F c n∧(0≤n∧n<L.F.length)∧((CP L.F n).kind≠0→n∈own)
theorem A0s.grow{lo:Fv}{l m b2 b4 p:Nat}{S S':CO}{L L':LG}{O O':List Nat}{N:List (List Int)}(h:A0s lo l m b2 b4 p S L O N){n k:Nat}(q:Dx [] p S L O S' L' O' n k):A0s lo l m b2 b4 p S' L' O' N:=by
 have nx:=q.nx
 have hl:=GM q.F
 obtain⟨own,e1,e2,e3,e4⟩:=h.ex
 refine⟨(En (q.keep h.lt.1 (by simp) h.out.1)).trans h.lp,(q.keep h.lt.2.2.1 (by simp) h.out.2.2.1).trans h.g2,(q.keep h.lt.2.2.2 (by simp) h.out.2.2.2).trans h.g4,⟨by have:=h.lt;omega,by have:=h.lt;omega,by have:=h.lt;omega,by have:=h.lt;omega⟩,⟨q.out h.lt.1 h.out.1,q.out h.lt.2.1 h.out.2.1,q.out h.lt.2.2.1 h.out.2.2.1,q.out h.lt.2.2.2 h.out.2.2.2⟩,LG.pos q.x.two,q.x.at_.kids,own,(q.keep h.lt.2.1 (by simp) h.out.2.1).trans e1,e2,fun x hx=>?_,fun c hc=>?_⟩
 ·have:=e3 x hx;omega
 ·obtain⟨n,k1,k2,k3⟩:=e4 c hc
  exact⟨n,k1.pre h.pos h.kids q.F,by omega,by rw[Gs q.F k2];exact k3⟩
theorem qu(lo:Fv)(l m b2 b4 p:Nat):A0t p (A0s lo l m b2 b4 p):=fun S L O N S' L' O' n k h q=>h.grow q
theorem A1A(lo:Fv)(l m b2 b4 p:Nat):JX [l,m,b2,b4] (A0s lo l m b2 b4 p):=fun S L O N S' h hn hk =>
 ⟨(En (hk l (by simp))).trans h.lp,(hk b2 (by simp)).trans h.g2,(hk b4 (by simp)).trans h.g4,⟨by have:=h.lt;omega,by have:=h.lt;omega,by have:=h.lt;omega,by have:=h.lt;omega⟩,h.out,h.pos,h.kids,let ⟨own,e⟩:=h.ex;⟨own,(hk m (by simp)).trans e.1,e.2⟩⟩
section
variable{E:Dw}(hE:Cn E){l m b2 b4 p mk:Nat}(hne:l≠m∧l≠b2∧l≠b4∧m≠b2∧m≠b4∧b2≠b4){v0 v1 v3 v5 v6 v7 v8 v9 v10:AV}{lo:Fv}
  (hlo:lo=Gv 11 [v0,v1,.ptr (some (b2,0)),v3,.ptr (some (b4,0)),v5,v6,v7,v8,v9,v10] #[15] Wq Ws mk)
include hE hne hlo
theorem A0z(hl1:1<l):qY E l p [l,m,b2,b4] (A0s lo l m b2 b4 p):=by
  intro S L O N cv c K' hj hx hF hS hrd hsl hcl hK'
  have hfn:lo.fn=11:=by rw[hlo];rfl
  have hA:lo.assign=Wq:=by rw[hlo];rfl
  have hB:lo.body=Ws:=by rw[hlo];rfl
  have hrdy:J7 lo.state=true:=by rw[hlo];rfl
  have hpd:lo.pending=none:=by rw[hlo];rfl
  have hst:lo.state=.ready:=by rw[hlo];rfl
  have hz:FW (Fu E.P lo.fn) lo.var lo.params.toList [cv]=some [v0,v1,.ptr (some (b2,0)),v3,.ptr (some (b4,0)),v5,v6,v7,v8,cv,v10]:=by
    rw[hfn,hE.P,kD,hlo];rfl
  refine WR.round hj.lp hz (by rw[hE.P,hfn,hA];exact A1J) (by rw[hE.P,hfn,hB];exact A1K) ?_
  refine HB ?_
  simp only[kB,uf,Qa,Qb,QS]
  refine⟨lo,hj.lp,hrdy,HB ?_⟩
  generalize hs4:setObj S l (Cg.loop _)=s4
  have n4:s4.next=S.next:=by rw[← hs4];rfl
  have f4:∀j,j≠l→s4.heap.get j=S.heap.get j:=fun j hj=>by rw[← hs4,CS _ hj]
  have lp4:Df s4 l=some { lo with state:=.busy }:=by rw[← hs4];exact Ep _ _ _
  have hout:=hj.out
  have hlt:=hj.lt
  have g2:=(f4 b2 (Ne.symm hne.2.1)).trans hj.g2
  have hx4:Lx s4 p L O:=⟨hx.at_.frame (by omega) fun j hjO=>f4 j fun e=>by rw[e]at hjO;exact hout.1 hjO,hx.two,hx.rest,⟨by rw[Ec (f4 1 fun e=>by omega)];exact hx.glob.1,by rw[n4];exact hx.glob.2.1,hx.glob.2.2⟩⟩
  simp only[kC,ug,g2,Dt,Qa,Qb,QS,Wg]
  have hrd4:Cl s4 cv c:=hrd.frame1 (by omega) fun j hjs=>f4 j fun e=>hsl j hjs (by simp[e])
  have hfs:=RO hcl.2
  refine A8F hE hx4 (by omega) (by omega) hrd4 (fun j hj' hm=>hsl j hj' (A8q.2 (.inr hm))) (fun x hx'=>(hcl.2 x hx').1) (by rw[hfs];have:=hcl.1;omega) (by have:=hcl.1;omega) fun s5 L5 O5 n k5 e5 ov=>?_
  have hnF:=k5.nF
  have hn5:=ov.lt k5.x.two k5.x.at_.kids
  have hn64:i64 n:=by unfold i64;omega
  have nx5:=k5.nx
  have g25:=(k5.keep (by omega) (by simp) hout.2.2.1).trans g2
  simp only[uh,g25,Dt,Qb,QS,Wg]
  refine Tx hE k5.x.at_ (LG.pos k5.x.two) hn64 fun s6 o6=>?_
  have k6:=k5.trans (Dx.old k5.x o6)
  have nx6:=o6.1
  obtain⟨own,w1,w2,w3,w4⟩:=hj.ex
  have gm:s6.heap.get m=some (.map 3 (Cy own)):=(k6.keep (by omega) (by simp) hout.2.1).trans ((f4 m (Ne.symm hne.1)).trans w1)
  have g4:s6.heap.get b4=some (R 57 0 false [.map (some m)]):=(k6.keep (by omega) (by simp) hout.2.2.2).trans ((f4 b4 (Ne.symm hne.2.2.1)).trans hj.g4)
  have l6:Df s6 l=some { lo with state:=.busy }:=(En (k6.keep (by omega) (by simp) hout.1)).trans lp4
  have hl:=GM k5.F
  have W4:∀j,j<S.next→j ∉ [l,m,b2,b4]++O→s6.heap.get j=S.heap.get j:=fun j hj hn=>by
    have hjl:j≠l:=fun e=>hn (by simp[e])
    have hjO:j ∉ O:=fun hm=>hn (A8q.2 (.inr hm))
    rw[k6.keep (by omega) (by simp) hjO,f4 j hjl]
  have fin:∀ (S7:CO) (own':List Int),S7.next=s6.next→(∀j,j≠m→S7.heap.get j=s6.heap.get j)→S7.heap.get m=some (.map 3 (Cy own'))→own'.Nodup→(∀x∈own,x∈own')→(∀x∈own',x∈own∨x=n)→((CP L5.F n).kind≠0→n∈own') →
      K' (.bool true) (setObj S7 l (.loop { state:=IC (Ef .normal),pending:=Ef .normal,fn:=lo.fn,var:=lo.var,params:=lo.params,assign:=lo.assign,body:=lo.body,dfr:=lo.dfr })):=by
    intro S7 own' n7 f7 g7 w7 sub own7 hn7
    have hnr:=Pc hst hpd
    rw[hnr]
    have n8:(setObj S7 l (.loop lo)).next=S7.next:=rfl
    have f8:∀j,j≠l→(setObj S7 l (.loop lo)).heap.get j=S7.heap.get j:=fun j hj=>CS _ hj
    have lp8:Df (setObj S7 l (.loop lo)) l=some lo:=Ep _ _ _
    generalize setObj S7 l (Cg.loop lo)=S8 at n8 f8 lp8
    have hk8:∀j,j≠l→j≠m→S8.heap.get j=s6.heap.get j:=fun j h1 h2=>by rw[f8 j h1,f7 j h2]
    have oO:l ∉ O5∧m ∉ O5∧b2 ∉ O5∧b4 ∉ O5:=⟨k6.out (by omega) hout.1,k6.out (by omega) hout.2.1,k6.out (by omega) hout.2.2.1,k6.out (by omega) hout.2.2.2⟩
    have x6:=k6.x
    have hm1:m≠1:=fun e=>J5 x6.glob.1 (by rw[← e];exact gm)
    have hx8:Lx S8 p L5 O5:=⟨x6.at_.frame (by omega) fun j hj=>hk8 j (fun e=>by rw[e]at hj;exact oO.1 hj) (fun e=>by rw[e]at hj;exact oO.2.1 hj),x6.two,x6.rest,⟨by rw[Ec (hk8 1 (fun e=>by omega) (Ne.symm hm1))];exact x6.glob.1,by have:=x6.glob.2.1;omega,x6.glob.2.2⟩⟩
    refine hK' S8 L5 O5 ⟨hx8,⟨by omega,fun j hj hn=>?_⟩,fun j hj=>(k6.gr j hj).imp id fun e=>by omega,k6.S,k6.F,k6.A,k6.q,by omega,k6.nS⟩ e5 ⟨lp8,?_,?_,by omega,oO,LG.pos x6.two,x6.at_.kids,own',?_,w7,fun x hx=>?_,fun c' hc'=>?_⟩
    · rw[hk8 j (fun e=>hn (by simp[e])) (fun e=>hn (by simp[e]))]
      exact W4 j hj hn
    · rw[hk8 b2 (Ne.symm hne.2.1) (Ne.symm hne.2.2.2.1),o6.2 _ (by omega)];exact g25
    · rw[hk8 b4 (Ne.symm hne.2.2.1) (Ne.symm hne.2.2.2.2.1)];exact g4
    · rw[f8 m (Ne.symm hne.1)];exact g7
    · rcases own7 x hx with h | h
      · have:=w3 x h;omega
      · rw[h];exact hn5
    · rcases A8I.1           hc' with rfl | hc'
      · exact⟨n,ov,hn5,hn7⟩
      · obtain⟨n',q1,q2,q3⟩:=w4 c' hc'
        refine⟨n',q1.pre hj.pos hj.kids k5.F,by omega,fun hk=>sub _ (q3 ?_)⟩
        rw[Gs k5.F q2]at hk;exact hk
  by_cases hk0:(CP L5.F n).kind=0
  · have hd:decide ((CP L5.F n).kind≠0)=false:=decide_eq_false (by simpa using hk0)
    simp only[We,hd,QS]
    exact⟨{ lo with state:=.busy },l6,fin s6 own rfl (fun j _=>rfl) gm w2 (fun _ h=>h) (fun _ h=>.inl h) (fun h=>absurd hk0 h)⟩
  · have hd : decide ((CP   L5.F n).kind ≠ 0) = true := decide_eq_true hk0
    have up:=GF (k:=n) gm hn64
    simp only[We,hd,ui,g4,Pn,M5,up,Qb,QS,Wg]
    refine⟨{ lo with state:=.busy },(En (CS _ hne.1)).trans l6,?_⟩
    exact fin _ (FO own n) rfl (fun j hj=>CS _ hj) (Co ..) (Jt w2 n) (fun x hx=>EU.2 (.inl hx)) (fun x hx=>EU.1 hx) (fun _=>EU.2 (.inr rfl))
end
section
variable{E:Dw}(hE:Cn E){s:CO}{p:Nat}{L:LG}{O:List Nat}(h:Lx s p L O)(hS:L.S.length≤30){x:Int}(hx:0≤x∧x<L.F.length)(hk:6≤(CP L.F x).kind∧(CP L.F x).kind<8)(hkids:(CP L.F x).kids=[])(hix:(IH L.F (CP L.F x).key:Int)=x)(hF:L.F.length+100000<900000)
  {t1 t2:Tm} (ht1:Tn L.S t1 (CP L.F x).p0) (ht2:Tn L.S t2 (CP L.F x).p1) {v:AV} (hv:Cl s v [x]) (hsv:∀j,EQ v=some j→j ∉ O) {K:AV→CO→Prop}
include hE h hS hx hk hkids hix hF ht1 ht2 hv hsv
theorem eJ(hK:∀s' L' O' v' own N Sn D Kk,Dx [] p s L O s' L' O' 75000 13500→Cl s' v' (DS own)→(∀j,EQ v'=some j→s.next≤j∧j ∉ O')→own.length≤1000000→(∀c∈N,∃n,Ov L'.F c n∧(0≤n∧n<L'.F.length)∧((CP L'.F n).kind≠0→n∈own))→(∀m∈Sn,iR L Sn D Kk m)→(CP L.F x).p0∈Sn→(CP L.F x).p1∈Sn→(∀y∈D,∃d,Tn L'.S d y∧Mv (DS Kk) L' N d)→K v' s'):
  WF E 11 [.ptr (some (p,0)),v] K s:=by
 refine hE.go A1S (by decide) rfl ?_
 generalize hb:s.next=b
 have hs0:s=ext s []:=(Ca s).symm
 rw[hs0]
 have kt:D8 prog 57=some 3:=by kernel_rfl
 simp only[A4S,ub,uc,ud,ue,kt,Gy,Dt,A5u,A5q,F4,hb,Qa,Qb,QS,Wg,Nat.reduceAdd,Nat.reduceLT]
 have o1:DL s.next s (ext s [R 24 0 false [.ptr (some (p,0))],.map 3 [],R 57 0 false [.map (some (nid b 1))]]):=Ci
 have n1:(ext s [R 24 0 false [.ptr (some (p,0))],.map 3 [],R 57 0 false [.map (some (nid b 1))]]).next=b+3:=by rw[Ce,hb,CN];rfl
 have g0:(ext s [R 24 0 false [.ptr (some (p,0))],.map 3 [],R 57 0 false [.map (some (nid b 1))]]).heap.get (nid b 0)=some (R 24 0 false [.ptr (some (p,0))]):=by rw[CR hb (by simp)];rfl
 have g1:(ext s [R 24 0 false [.ptr (some (p,0))],.map 3 [],R 57 0 false [.map (some (nid b 1))]]).heap.get (nid b 1)=some (.map 3 (Cy [])):=by rw[CR hb (by simp)];rfl
 have g2:(ext s [R 24 0 false [.ptr (some (p,0))],.map 3 [],R 57 0 false [.map (some (nid b 1))]]).heap.get (nid b 2)=some (R 57 0 false [.map (some (nid b 1))]):=by rw[CR hb (by simp)];rfl
 generalize ext s [R 24 0 false [.ptr (some (p,0))],.map 3 [],R 57 0 false [.map (some (nid b 1))]]=s1 at o1 n1 g0 g1 g2
 have x1:=h.old o1
 refine mh hE x1 (by omega) hx hk hkids hix (by omega) ht1 ht2 (hv.old o1) fun s2 f md mk ms Sn D Kk o2 x2 f2 hf2 hcmp hp0 hp1=>?_
 simp only[QS]
 refine sG hE f2 (by omega) fun s3 c1 c2 c3 dv kv o3 q1 q2 q3 r1 r2 r3 hdv hds hkv hks=>?_
 have f3:=f2.old o3
 have x3:=x2.old o3
 have hn2:=o2.1
 have hn3:=o3.1
 have o13:DL s1.next s1 s3:=o2.trans (o3.mono o2.1)
 have o03:DL s.next s s3:=o1.trans (o13.mono o1.1)
 have ltO:=h.at_.lt
 simp only[CN]at g0 g1 g2
 have z0:=(o13.2 (b+0) (by omega)).trans g0
 have z1:=(o13.2 (b+1) (by omega)).trans g1
 have z2:=(o13.2 (b+2) (by omega)).trans g2
 simp only[CN,QS]
 have hn3':(newObj s3 .mark).next=s3.next+1:=rfl
 obtain⟨lo,hlo⟩:∃lo,lo=Gv 11 [.ptr (some (p,0)),v,.ptr (some (b+0,0)),.slice none 0 (some 0),.ptr (some (b+2,0)),Cx,Cx,.bool false,.func 67 [] [.ptr (some (c1,0)),.ptr (some (c2,0)),.ptr (some (c3,0))],Cx,Cx] #[15] Wq Ws s3.next:=⟨_,rfl⟩
 obtain⟨S2,hS2⟩:∃S2,S2=newObj (newObj s3 .mark) (.loop lo):=⟨_,rfl⟩
 have nS2:S2.next=s3.next+2:=by rw[hS2];rfl
 have o4:DL s3.next s3 S2:=⟨by omega,fun j hj=>by rw[hS2,DH,if_neg (by omega),DH,if_neg (by omega)]⟩
 have gm:S2.heap.get s3.next=some .mark:=by rw[hS2,DH,if_neg (by omega),DH,if_pos rfl]
 have gl:Df S2 (s3.next+1)=some lo:=by unfold Df;rw[hS2,DH,if_pos hn3'.symm]
 have x4:=x3.old o4
 have f4:=f3.old o4
 have fr:∀j,b≤j→j ∉ O:=fun j hj hm=>by have:=ltO j hm;omega
 have hne:(s3.next+1)≠(b+1)∧(s3.next+1)≠(b+0)∧(s3.next+1)≠(b+2)∧(b+1)≠(b+0)∧(b+1)≠(b+2)∧(b+0)≠(b+2):=by omega
 have w0:=(o4.2 (b+0) (by omega)).trans z0
 have w1:=(o4.2 (b+1) (by omega)).trans z1
 have w2:=(o4.2 (b+2) (by omega)).trans z2
 have hJ0:A0s lo (s3.next+1) (b+1) (b+0) (b+2) p S2 L O []:=⟨gl,w0,w2,by omega,⟨fr _ (by omega),fr _ (by omega),fr _ (by omega),fr _ (by omega)⟩,LG.pos x4.two,x4.at_.kids,[],w1,A9A,by simp,by simp⟩
 have kp:∀ {j:Nat} {o:Cg},s3.heap.get j=some o→s1.next≤j→j<s3.next→Kp S2 ([s3.next+1,b+1,b+0,b+2]++O) j o:=fun {j o} hg h1 h2=>⟨(o4.2 j h2).trans hg,by omega,fun hm=>by
  rcases A8q.1 hm with hm | hm
  ·simp only[A8I,A8K,A9V]at hm;omega
  ·exact fr j (by omega) hm⟩
 have sl:∀ {v:AV},(∀j,EQ v=some j→s2.next≤j∧j<s3.next)→∀j,EQ v=some j→j<S2.next∧j ∉ [s3.next+1,b+1,b+0,b+2]++O:=fun {v} hs j hj=>by
  have:=hs j hj
  refine⟨by omega,fun hm=>?_⟩
  rcases A8q.1 hm with hm | hm
  ·simp only[A8I,A8K,A9V]at hm;omega
  ·exact fr j (by omega) hm
 have hperm:∀l:List Int,(DS l).length=l.length:=fun l=>(EM l).length_eq
 have hDl:=f2.tD.len
 have hKl:=f2.tK.len
 refine WC.range rfl ?_
 rw[← hlo,← hS2]
 refine mc hE (A0z hE hne hlo (by omega)) (qu _ _ _ _ _ _) (A1A _ _ _ _ _ _) (Dl:=DS D) (Kl:=DS Kk) (by rw[hperm];omega) (by rw[hperm];omega) x4 hJ0 (by omega) (by omega) (fun j hj=>by simp only[A8I,A8K,A9V]at hj;omega)
  (kp f3.hf (by omega) f3.lt.1) (kp q1 (by omega) r1.2) (kp q2 (by omega) r2.2) (kp q3 (by omega) r3.2) (hdv.old o4) (sl hds) (hkv.old o4) (sl hks) (fun y hy=>f2.tD.t y (E0.1 hy)) (fun y hy=>f2.tK.t y (E0.1 hy)) ?_
 intro S5 L5 O5 N5 k5 j5 _ d5
 have nx5:=k5.nx
 refine⟨lo,j5.lp,by rw[hlo];rfl,?_⟩
 have hpd:lo.pending=none:=by rw[hlo];rfl
 rw[hpd]
 obtain⟨own,e1,e2,e3,e4⟩:=j5.ex
 have g6:∀X,(setObj S5 (s3.next+1) X).heap.get (b+2)=some (R 57 0 false [.map (some (b+1))]):=fun X=>by rw[CS _ (by omega)];exact j5.g4
 have hmS5:S5.heap.get s3.next=some .mark:=by
  rw[k5.keep (by omega) (by simp only[A8I,A8K,A9V];omega) (fr _ (by omega))];exact gm
 have mO5:s3.next ∉ O5:=k5.out (by omega) (fr _ (by omega))
 generalize hS6:setObj S5 (s3.next+1) (Cg.loop _)=S6
 have n6:S6.next=S5.next:=by rw[← hS6];rfl
 have f6:∀j,j≠s3.next+1→S6.heap.get j=S5.heap.get j:=fun j hj=>by rw[← hS6,CS _ hj]
 have g64:S6.heap.get (b+2)=some (R 57 0 false [.map (some (b+1))]):=by rw[f6 _ (by omega)];exact j5.g4
 have g6m:S6.heap.get (b+1)=some (.map 3 (Cy own)):=by rw[f6 _ (by omega)];exact e1
 have g6k:S6.heap.get s3.next=some .mark:=by rw[f6 _ (by omega)];exact hmS5
 have lt5:=j5.lt
 simp only[PC,j9,g64,Pn,Qb,QS,Wg]
 refine Mc hE fun S7 o7 q7 n7=>?_
 have hown:own.length≤1000000:=by
  have:=Lf L5.F.length own e2 fun y hy=>e3 y hy
  have:=k5.nF
  omega
 simp only[QS]
 refine IB hE q7 ((o7.2 _ (by omega)).trans g6m) hown fun v8 S8 o8 r8 e8=>?_
 simp only[QS]
 have o78:DL S6.next S6 S8:=o7.trans (o8.mono o7.1)
 obtain⟨S9,u1,u2,u3⟩:=HW [s3.next] S8 (by simp) (fun j hj=>by rw[A9E.1 hj,o78.2 _ (by omega)];exact g6k)
 have u3':∀j,j≠s3.next→S9.heap.get j=S8.heap.get j:=fun j hj=>u3 j (by simpa using hj)
 simp only[u1,QS]
 have hn7:=o7.1
 have hn8:=o8.1
 have hkeep:∀j,j<S5.next→j≠s3.next→j≠s3.next+1→S9.heap.get j=S5.heap.get j:=fun j h1 h2 h3=>by rw[u3' j h2,o78.2 j (by omega),f6 j h3]
 have hl5:=k5.x.at_.lt
 have x9:Lx S9 p L5 O5:=⟨k5.x.at_.frame (by omega) fun j hj=>hkeep j (hl5 j hj) (fun e=>by rw[e]at hj;exact mO5 hj) (fun e=>by rw[e]at hj;exact j5.out.1 hj),k5.x.two,k5.x.rest,⟨by rw[Ec (hkeep 1 (by have:=h.glob.2.1;omega) (by have:=h.glob.2.1;omega) (by have:=h.glob.2.1;omega))];exact k5.x.glob.1,by have:=k5.x.glob.2.1;omega,k5.x.glob.2.2⟩⟩
 refine hK S9 L5 O5 v8 own N5 Sn D Kk ⟨x9,⟨by omega,fun j hj hn=>?_⟩,fun j hj=>(k5.gr j hj).imp id fun e=>by omega,k5.S,k5.F,k5.A,k5.q,k5.nF,k5.nS⟩ ?_ ?_ hown e4 hcmp hp0 hp1 fun y hy=>d5 y (E0.2 hy)
 ·have hnO:j ∉ O:=fun hm=>hn (by simpa using hm)
  rw[hkeep j (by omega) (by omega) (by omega),k5.keep (by omega) (by simp only[A8I,A8K,A9V];omega) hnO,o4.2 j (by omega)]
  exact o03.2 j (by omega)
 ·exact r8.fx (W:=[s3.next]) ⟨by omega,fun j hj hn=>u3' j (by simpa using hn)⟩ fun j hj hm=>by
   have:=e8 j hj
   rw[A9E.1 hm]at this
   omega
 ·intro j hj
  have:=e8 j hj
  exact⟨by omega,fun hm=>by have:=hl5 j hm;omega⟩
end
end
end Go.Proofs.YtoaaclpjkelofaaGreatDoor.Am
set_option linter.all false
set_option maxRecDepth 20000
namespace Go.Proofs.YtoaaclpjkelofaaGreatDoor.Am
open Go Go.Proofs
noncomputable section
open Tryz
section
variable{F:List Fm}(h2:HH F)(hk:F3 F)(hr:Ko F)(hn:WS F)
include h2
theorem R3{x:Int}(h:5≤(CP F x).kind∨(CP F x).kind=4):x≠0∧x≠1:=by
 refine⟨fun e=>?_,fun e=>?_⟩
 ·rw[e,h2.zero]at h;omega
 ·rw[e,h2.one]at h;omega
theorem Ov.skip{a b:List Int}{n:Int}(h:Ov F (a++1::b) n):Ov F (a++b) n:=by
 obtain⟨q1,q2,q3⟩:=h
 rw[tP h2]at q2 q3
 exact⟨fun x hx=>q1 x (by rcases A8q.1 hx with h | h;exact A8q.2 (.inl h);exact A8q.2 (.inr (A8J _ h))),q2,q3⟩
theorem A3e{x y:Int}(hx:0≤x∧x<F.length)(hy:0≤y∧y<F.length)(kx:5≤(CP F x).kind)(ky:5≤(CP F y).kind)(hne:x≠y):EH F 3 N7 [x,y]=.put (Ex F 3 N7 (DS [x,y])):=by
 have h1:=R3 h2 (.inl kx)
 have h2':=R3 h2 (.inl ky)
 exact pL hx hy h1.1 h1.2 h2'.1 h2'.2 (by omega) (by omega) (by omega) hne fun h=>by omega
include hk hr hn
theorem bB{x n y:Int}(h:Nv F x n)(hnl:0≤n∧n<F.length)(hy:0≤y∧y<F.length)(kx:5≤(CP F x).kind)(ky:5≤(CP F y).kind)(hne:x≠y):EH F 3 N7 [n,y]=.put (Ex F 3 N7 (DS [n,y])):=by
 obtain⟨k4,kids⟩:=h.kids hk hr hn (by omega) (by omega) (by omega)
 have h1:=R3 h2 (.inr k4)
 have h2':=R3 h2 (.inl ky)
 refine pL hnl hy h1.1 h1.2 h2'.1 h2'.2 (by omega) (by omega) (by omega) (fun e=>by rw[e]at k4;omega) fun _=>⟨x,kids,fun e=>by rw[e]at kx;omega,hne,by omega⟩
end
def bQ(F:List Fm)(own:List Int)(N:List (List Int)):Prop:=∀c∈N,∃n,Ov F c n∧(0≤n∧n<F.length)∧((CP F n).kind≠0→n∈own)
def Uk(F:List Fm)(own:List Int)(a b:Int):Prop:=(∃n,Ov F [a,b] n∧n∈own)∧(CP F a).kind≠3∧(CP F b).kind≠3
theorem P7{F:List Fm}{own:List Int}{N:List (List Int)}(ho:bQ F own N){c:List Int}{a b:Int}(hm:c∈N)(e:∀n,Ov F c n→Ov F [a,b] n)(two:EH F 3 N7 [a,b]=.put (Ex F 3 N7 (DS [a,b]))):∃n,Ov F [a,b] n∧n∈own:=by
 obtain⟨n,h1,h2,h3⟩:=ho c hm
 have h4:=e n h1
 refine⟨n,h4,h3 ?_⟩
 have hf:=h4.fs
 have hn:=h4.num
 rw[two]at hf hn
 rw[hn,X2 hf]
 decide
theorem tQ{F:List Fm}(h2:HH F){own:List Int}{N:List (List Int)}(ho:bQ F own N){a:Int}(ha:0≤a∧a<F.length)(ka:5≤(CP F a).kind)(hm:[1,a]∈N):a∈own:=by
 obtain⟨n,h1,h2',h3⟩:=ho _ hm
 have h4:Ov F [a] n:=Ov.skip h2 (a:=[]) h1
 have h5:=R3 h2 (.inl ka)
 have hn:=h4.num
 rw[A3S ha h5.1 h5.2 (by omega) (by omega)]at hn
 have hn':n=a:=hn
 rw[hn']at h3
 exact h3 (by omega)
theorem qI(d k a:Tm):d≠.upd d k a:=fun h=>by
 have:=congrArg (fun t:Tm=>SizeOf.sizeOf t) h
 simp at this
 omega
theorem LD(d k a:Tm):(Tm.upd d k a).kind≠2:=by show(4:Int)≠2;decide
theorem LC(d k:Tm):(Tm.sel d k).kind≠2:=by show(3:Int)≠2;decide
theorem Nz{S:List Tm}{t:Tm}(h:t.kind≠2):Eh S 4 t=Fi S 7 4 (GE.getD 4 []) [t]:=if_neg h
theorem P0{S:List Tm}{t u:Tm}(hne:t≠u)(h:t.kind≠2):(FH S t u).kind=6:=by
 unfold FH
 rw[if_neg hne,if_neg (fun e=>h e.1)]
 split<;>rfl
theorem Jb{S:List Tm}{d k:Tm}(hd:d.kind≠2)(hk:k.kind=2→k.tag=3):FC S d k=Fi S 8 0 ng [d,k]:=RS fun h=>h.elim hd fun e=>e.2 (hk e.1)
section
variable{L:LG}{own:List Int}{N:List (List Int)}(h2:HH L.F)(hk:F3 L.F)(hr:Ko L.F)(hn:WS L.F)(ho:bQ L.F own N)
include h2 hk hr hn ho
theorem nP{u d k a:Tm}(hu:u=.upd d k a)(h:Yw L u d k a N)(hdk:d.kind≠2)(hkc:k.kind=2)(hk3:k.tag=3)(hak:a.kind=0)(hdS:d∈L.S)(huS:u∈L.S):
  ∃t nd e tu,Av L.F (Eh L.S 4 d) t∧Nv L.F t nd∧Av L.F (FH L.S (.sel u k) a) e∧Av L.F (Eh L.S 4 u) tu∧Uk L.F own nd e∧Uk L.F own nd tu∧Tm.sel u k∈L.S:=by
 obtain⟨t,nd,tu,st,ns,e,a1,a2,a3,a4,a5,a6,a7,m1,m2⟩:=h
 have kt:(CP L.F t).kind=7:=by rw[a1.kind,Nz hdk];rfl
 have ktu:(CP L.F tu).kind=7:=by rw[a3.kind,Nz (by rw[hu];exact LD _ _ _)];rfl
 have ke:(CP L.F e).kind=6:=by
  rw[a7.kind]
  exact P0 (fun e=>by rw[← e]at hak;exact absurd hak (by show ¬ ((3:Int)=0);decide)) (LC _ _)
 have hst:st=0:=by
  have:Eh L.S 3 k=ER true:=by unfold Eh;rw[if_pos hkc,hk3];rfl
  rw[this]at a4
  have hp:=HH.push h2 true
  rw[a4.num]
  exact hp.2
 have hns:ns=1:=by
  subst hst
  have h1:Gi L.F 0=.put (ER false):=by
   have:=LI (F:=L.F) (x:=0) (.inl h2.zero)
   rw[this,h2.zero];rfl
  rw[a5.num,h1]
  show(IH (DN L.F (ER false)) (ER false).key:Int)=1
  rw[(HH.push h2 false).1]
  exact(HH.push h2 false).2
 subst hns
 have hnd:(0≤nd∧nd<L.F.length):=(a2.lt (by omega)).1
 have hne:t≠tu:=a1.ne a3 fun e=>by
  rw[Nz hdk,Nz (by rw[hu];exact LD _ _ _)]at e
  have e2:(ix L.S d:Int)=ix L.S u:=congrArg (fun x=>x.2.2.1) e
  have:=Gu hdS huS (by omega)
  rw[hu]at this
  exact qI _ _ _ this
 refine⟨t,nd,e,tu,a1,a2,a7,a3,?_,?_,a6⟩
 ·exact⟨P7 ho m2 (fun n h=>Ov.skip h2 (a:=[nd]) h) (bB h2 hk hr hn a2 hnd a7.lt (by omega) (by omega) fun e=>by rw[e]at kt;omega),(a2.lt (by omega)).2,by omega⟩
 ·exact⟨P7 ho m1 (fun n h=>h) (bB h2 hk hr hn a2 hnd a3.lt (by omega) (by omega) hne),(a2.lt (by omega)).2,by omega⟩
theorem nN{u d k a K:Tm}{x:Int}(hu:u=.upd d k a)(h:Um L u d k N x)(hx:Tn L.S K x)(hdk:d.kind≠2)(hkc:k.kind=2)(hKc:K.kind=2)(hK3:K.tag=3)(hne:k≠K)(hdS:d∈L.S)(huS:u∈L.S):
  ∃e hu nh hd,Av L.F (FH L.S (.sel u K) (.sel d K)) e∧e∈own∧Av L.F (FC L.S u K) hu∧Nv L.F hu nh∧Av L.F (FC L.S d K) hd∧Uk L.F own nh hd∧Tm.sel u K∈L.S∧Tm.sel d K∈L.S:=by
 obtain⟨t,bs,e,hu',nh,hd,a1,a2,a3,a4,a5,a6,a7,a8,m1,m2⟩:=h
 have htK:t=K:=Gu a1.mem hx.mem (by have:=a1.num;have:=hx.num;omega)
 subst htK
 have hbs:bs=1:=by
  have:FH L.S k t=ER false:=by unfold FH;rw[if_neg hne,if_pos ⟨hkc,hKc⟩]
  rw[this]at a4
  have hp:=HH.push h2 false
  rw[a4.num]
  exact hp.2
 subst hbs
 have hune:u≠d:=fun e=>by rw[hu]at e;exact qI _ _ _ e.symm
 have ke:(CP L.F e).kind=6:=by
  rw[a5.kind]
  exact P0 (fun e=>hune (by injection e)) (LC _ _)
 have khu:(CP L.F hu').kind=8:=by rw[a6.kind,Jb (by rw[hu];exact LD _ _ _) (fun _=>hK3)];rfl
 have khd:(CP L.F hd).kind=8:=by rw[a8.kind,Jb hdk (fun _=>hK3)];rfl
 have hnn:hu'≠hd:=a6.ne a8 fun e=>by
  rw[Jb (by rw[hu];exact LD _ _ _) (fun _=>hK3),Jb hdk (fun _=>hK3)]at e
  have e2:(ix L.S u:Int)=ix L.S d:=congrArg (fun x=>x.2.2.1) e
  exact hune (Gu huS hdS (by omega))
 have hnh:(0≤nh∧nh<L.F.length):=(a7.lt (by omega)).1
 refine⟨e,hu',nh,hd,a5,tQ h2 ho a5.lt (by omega) m1,a6,a7,a8,?_,a2,a3⟩
 exact⟨P7 ho m2 (fun n h=>Ov.skip h2 (a:=[]) h) (bB h2 hk hr hn a7 hnh a8.lt (by omega) (by omega) hnn),(a7.lt (by omega)).2,by omega⟩
theorem Zs{d K:Tm}(h:A0w L d K N)(hdk:d.kind≠2)(hK3:K.tag=3):
  ∃hh e,Av L.F (FC L.S d K) hh∧Av L.F (FH L.S (.sel d K) (.con 0)) e∧Uk L.F own hh e∧Tm.sel d K∈L.S∧Tm.con 0∈L.S:=by
 obtain⟨hh,e,a1,a2,a3,a4,m⟩:=h
 have k1:(CP L.F hh).kind=8:=by rw[a1.kind,Jb hdk (fun _=>hK3)];rfl
 have k2:(CP L.F e).kind=6:=by
  rw[a2.kind]
  exact P0 (fun e=>by cases e) (LC _ _)
 exact⟨hh,e,a1,a2,⟨P7 ho m (fun n h=>h) (A3e h2 a1.lt a2.lt (by omega) (by omega) fun e=>by rw[e]at k1;omega),by omega,by omega⟩,a3,a4⟩
end
end
end Go.Proofs.YtoaaclpjkelofaaGreatDoor.Am
set_option linter.all false
set_option maxRecDepth 100000
namespace Go.Proofs.YtoaaclpjkelofaaGreatDoor.Am
open Go Go.Proofs
noncomputable section
open Tryz
def A4n:List CK:=[Bo Bi [Ae] 2]
def A4o:List CK:=[Bn (Bh 5) [],Bo (.p1 (Yu prog Go.UnOp.not)) [AA] 17]
def A6O:List CK:=[Bo Bi [Ae] 2]
def A4p:List CK:=[Bn (Bh 6) [],Bo Bi [AA] 3]
def A4r:List CK:=[Bn (Bh 7) [AG],Bo Bi [AA] 4]
def A4s:List CK:=[Bn (Bd 28 3 [0,1,2]) [(BS [97]),(BS [98]),(BS [99])],Bo Bi [AA] 5]
def A4t:List CK:=[Bn (Bh 8) [AI,AL],Bo Bi [AA] 6]
def A4u:List CK:=[Bo Bi [AJ] 7]
def A4v:List CK:=[Bo Bi [Ad] 8]
def A4w:List CK:=[Bo Bi [AE] 9]
def Wv:List CK:=[Bo (BX .lss 3) [AT,BD] 18]
def cG:List CK:=[Bn Bi [AP],Bn (BY 28) [AK,AT],Bn (BT 9) [AA],Bn (Be 34 [0,3]) [BD,AA],Bn (Bh 9) [AI,AA],Bn (Bd 30 1 [0]) [AA],Bn (Bf 30 30) [AR,AA],Bo Bi [AA] 8]
def cH:List CK:=[Bn Bi [AT],Bn (BX .add 3) [AA,AL],Bo Bi [AA] 9]
def TP:Ck:=(.seq (.seq (.ops Wv) (.cond (.var 18)
 .skip
 (.exit 0))) (.seq (.block 1 (.ops cG)) (.ops cH)))
def wa:List CK:=[Bo Bi [Ad] 10]
def wc:List CK:=[Bo Bi [AE] 11]
def cI:List CK:=[Bn (Bc 22) [AC],Bn (BX .lss 3) [Aq,AA],Bq AA Bi [Aq],Bq AF (BX .lss 3) [AA,BK],Bo Bj [AH,AA,Ae] 19]
def wd:List CK:=[Bn Bi [AN],Bn (BY 22) [AC,Aq],Bn (BT 5) [AA],Bn (BX .rem 5) [AA,BL],Bn (BY 30) [AP,AA],Bn (BT 3) [AA],Bn (BX .add 3) [BQ,Aq],Br (Bh 8) [AI,AA] [Bs (BT 3) [AM] AH,Bs (BT 5) [AQ] AR],Bn (Bh 10) [AI,AS,AH,AA],Bo Bi [AA] 7]
def we:List CK:=[Bn Bi [Aj],Bn (Bd 30 1 [0]) [AN],Bn (Bf 30 30) [AF,AA],Bo Bi [AA] 10]
def wg:List CK:=[Bn Bi [Aq],Bn (BX .add 3) [AA,AL],Bo Bi [AA] 11]
def TQ:Ck:=(.seq (.seq (.ops cI) (.cond (.var 19)
 .skip
 (.exit 2))) (.seq (.block 3 (.seq (.ops wd) (.ops we))) (.ops wg)))
def wh:List CK:=[Bn (BX .rem 5) [AB,BL],Bn (.r1 (fun s x=>EP prog s 5 3 x)) [AA],Bo Bi [AA] 12]
def wi:List CK:=[Bn (BY 30) [AP,Ab],Bn (BT 3) [AA],Bn (Bh 13) [AI,AN,AA],Bn (Bh 8) [AI,Ax],Bn (Bh 12) [AG,AF,AA],Bn (Bd 30 1 [0]) [AA],Bn (Bh 11) [AG,AA],Bo Bi [AA] 13]
def wj:List CK:=[Bn (Bc 30) [Aj],Bn (BX .sub 3) [AA,AL],Bo Bi [AA] 14]
def lQ:List CK:=[Bo (BX .geq 3) [Aa,AE] 20]
def wl:List CK:=[Bn (BY 30) [Aj,Aa],Bn (BT 3) [AA],Bn (Bh 14) [AI,AA],Bn (BY 30) [AA,AE],Bn (BT 3) [AA],Bo Bi [AA] 15]
def wm:List CK:=[Bn (Bh 16) [AG,Az,Ak],Bn (Bh 15) [AG,AA],Bo Bi [AA] 16]
def wn:List CK:=[Bn (BY 22) [AC,Aa],Bn (BT 5) [AA],Bn (BX .rem 5) [AA,BL],Bn (.r1 (fun s x=>EP prog s 5 3 x)) [AA],Bo (BX .eql 3) [AA,Ab] 21]
def wo:List CK:=[Bn (BY 30) [Aj,Aa],Bn (BT 3) [AA],Bn (BY 30) [AP,Ab],Bn (BT 3) [AA],Bn (BX .add 3) [BQ,Aa],Bn (Bh 13) [AI,AM,AF],Bn (Bh 8) [AI,AF],Bn (Bh 12) [AG,AF,AA],Bn (Bd 30 2 [0,1]) [BA,AA],Bn (Bh 18) [AG,AA],Bn (Bh 17) [Ao,AA],Bq AA Bi [Ao],Bq AF Bi [AG],Bq AH Bi [BA],Bq AM Bi [AG],Bq AO Bi [Aj],Bq AR Bi [Aa],Bq AQ (BY 30) [AF,AA],Bq AS (BT 3) [AA],Bq AU (Bh 16) [AO,Az,AA],Bq Ac (Bd 30 2 [0,1]) [AQ,AA],Bq AZ (Bh 18) [AU,AA],Bq AX (Bh 17) [AZ,AA],Bn Bj [AW,AA,Ae],Bo Bi [AA] 2]
def wp:List CK:=[Bn (BY 30) [Aj,Aa],Bn (BT 3) [AA],Bn (BY 30) [AP,Ab],Bn (BT 3) [AA],Bn (BY 30) [AP,Ab],Bn (BT 3) [AA],Br (Bh 13) [AI,AO,AH] [Bs (BT 3) [AH] AF],Bn (Bh 13) [AI,Ak,AF],Bn (Bh 12) [AG,AF,AA],Bn (Bh 17) [Ao,AA],Bn (.p1 (Yu prog Go.UnOp.not)) [AA],Bp AA Bi [Ao],Bp AF Bi [AG],Bp AH Bi [AG],Bp AM Bi [AG],Bp AO Bi [Aj],Bp AR Bi [Aa],Bp AQ (BY 30) [AF,AA],Bp AS (BT 3) [AA],Bp AU Bi [AP],Bp Ac Bi [Ab],Bp AZ (BY 30) [AF,AA],Bp AX (BT 3) [AA],Bp AW Bi [AG],Bp Al Bi [Ak],Bp Ai Bi [AP],Bp Ah Bi [Ab],Bp Af (BY 30) [AF,AA],Bp Ag (BT 3) [AA],⟨(some (Ar,false)),Bh 19,[Ai,AZ,AQ],.push,[⟨(some (Ay,false)),BT 3,[AH],AF⟩]⟩,⟨(some (Ay,false)),Bh 15,[Af,AA],.push,[⟨(some (As,false)),BT 3,[AM],AH⟩]⟩,Bp As (Bh 19) [AS,AQ,AH],Bp At (Bd 30 2 [0,1]) [AF,AA],Bp BB (Bh 18) [As,AA],Bp Au (Bh 17) [BB,AA],Bp BC (.p1 (Yu prog Go.UnOp.not)) [AA],Bo Bj [BG,An,AA] 22]
def A4q:List CK:=[Bo Bi [Ae] 2]
def wq:List CK:=[Bn Bi [Aa],Bn (BX .sub 3) [AA,AL],Bo Bi [AA] 14]
def Wu:Ck:=(.seq (.seq (.ops lQ) (.cond (.var 20)
 .skip
 (.exit 4))) (.seq (.block 5 (.seq (.ops wl) (.seq (.ops wm) (.seq (.seq (.ops wn) (.cond (.var 21)
 (.seq (.ops wo) .ret)
 .skip)) (.seq (.ops wp) (.cond (.var 22)
 (.seq (.ops A4q) .ret)
 .skip)))))) (.ops wq)))
def ws:List CK:=[Bn (BY 30) [AP,Ab],Bn (BT 3) [AA],Bn (BY 30) [AP,Ab],Bn (BT 3) [AA],Bn (Be 34 []) [],Br (Bh 19) [AG,AJ,AM] [Bs (BT 3) [AM] AH],Bn (Bh 13) [AI,AJ,AH],Bn (Bh 9) [AI,AH],Bn (Bh 12) [AG,AF,AA],Bn (Bd 30 2 [0,1]) [AM,AA],Bn (Bh 18) [AG,AA],Bn (Bh 17) [Ao,AA],Bo Bi [AA] 2]
def c3:Cr:=⟨2,23,(.seq (.ops A4n) (.seq (.seq (.ops A4o) (.cond (.var 17)
 (.seq (.ops A6O) .ret)
 .skip)) (.seq (.ops A4p) (.seq (.ops A4r) (.seq (.ops A4s) (.seq (.ops A4t) (.seq (.ops A4u) (.seq (.ops A4v) (.seq (.seq (.ops A4w) (.block 0 (.loop TP))) (.seq (.ops wa) (.seq (.seq (.ops wc) (.block 2 (.loop TQ))) (.seq (.ops wh) (.seq (.ops wi) (.seq (.seq (.ops wj) (.block 4 (.loop Wu))) (.seq (.ops ws) .ret))))))))))))))),[((.var 2),none)]⟩
def vM:List CK:=[Bo Bi [Ae] 2]
def vN:List CK:=[Bo Bi [AE] 3]
def cB:List CK:=[Bn (Bc 30) [AC],Bo (BX .lss 3) [AG,AA] 4]
def kh:List CK:=[Bn (BY 30) [AC,AG],Bn (BT 3) [AA],Bo (BX .eql 3) [AA,AB] 5]
def vO:List CK:=[Bo Bi [An] 2]
def vP:List CK:=[Bn Bi [AG],Bn (BX .add 3) [AA,AL],Bo Bi [AA] 3]
def TO:Ck:=(.seq (.seq (.ops cB) (.cond (.var 4)
 .skip
 (.exit 0))) (.seq (.block 1 (.seq (.ops kh) (.cond (.var 5)
 (.seq (.ops vO) .ret)
 .skip))) (.ops vP)))
def kj:List CK:=[Bo Bi [Ae] 2]
def A6v:Cr:=⟨2,6,(.seq (.ops vM) (.seq (.seq (.ops vN) (.block 0 (.loop TO))) (.seq (.ops kj) .ret))),[((.var 2),none)]⟩
theorem A5W:CY prog 3=some c3:=by kernel_rfl
theorem A1Y:CY prog 17=some A6v:=by kernel_rfl
end
end Go.Proofs.YtoaaclpjkelofaaGreatDoor.Am
set_option linter.all false
set_option maxHeartbeats 1000000
set_option maxRecDepth 20000
namespace Go.Proofs.YtoaaclpjkelofaaGreatDoor.Am
open Go Go.Proofs
noncomputable section
open Tryz
theorem K3{E:Dw}(hE:Cn E){s:CO}{v:AV}{l:List Int}(h:Cl s v l)(hl:l.length≤1000000){x:Int}{K:AV→CO→Prop}(hK:K (.bool (decide (x∈l))) s):WF E 17 [v,iv x] K s:=by
  refine hE.go A1Y (by decide) rfl ?_
  have hlen:=h.len
  simp only[A6v,vM,vN,Qa,Qb,QS]
  have key:∀ (l2 l1:List Int) (a4 a5:AV),l=l1++l2→x ∉ l1→WC E none (Ck.loop TO) (Cs 0 (Nr (fun x_1 x_2 x_3=>Qb E kj (fun v s'=>Jj (EL s' x_2) fun s'=>K (Hw v 2) s') [] x_1 x_3) (Ends prog [(CX.var 2,none)] K)))
      [v,iv x,.bool false,iv (l1.length:Int),a4,a5] [] s:=by
    intro l2
    induction l2 with
    | nil =>
      intro l1 a4 a5 hll hx
      refine WC.loop' ?_
      have hlt:¬ ((l1.length:Int)<(l.length:Int)):=by rw[hll];simp
      simp only[TO,cB,hlen,hlt,A9a,Qa,Qb,QS]
      rw[if_pos trivial]
      simp only[kj,Qb,QS]
      have hx2:decide (x∈l)=false:=decide_eq_false (by rw[hll];simpa using hx)
      rw[hx2]at hK
      exact hK
    | cons y l2 ih =>
      intro l1 a4 a5 hll hx
      refine WC.loop' ?_
      obtain⟨W,hW⟩:∃W,W=Ck.loop TO:=⟨_,rfl⟩
      rw[← hW]
      have hlt:((l1.length:Int)<(l.length:Int)):=by rw[hll];simp;omega
      have hltn:l1.length<l.length:=by omega
      have hadd:i64 ((l1.length:Int)+1):=by unfold i64;omega
      obtain⟨j,q,cap,rfl,hj,hld⟩:=h.at (k:=l1.length) (x:=y) (by rw[hll];simp)
      by_cases e:y=x
      · have hd:decide (y=x)=true:=decide_eq_true e
        simp only[TO,cB,kh,vO,hlen,hlt,A9Z,Qa,Qb,QS,Cj underlying30 HC hltn,Ee,hld,hd,A8S,Wg]
        subst e
        have hx2:decide (y∈l)=true:=decide_eq_true (by rw[hll];simp)
        rw[hx2]at hK
        exact hK
      · have hd : decide (y = x) = false := decide_eq_false e
        have:=ih (l1++[y]) (.bool true) (.bool false) (by rw[hll];simp) (by simp[hx];exact fun h=>e h.symm)
        rw[← hW,show(l1++[y]).length=l1.length+1 from by simp]at this
        simp only[TO,cB,kh,vP,hlen,hlt,A9Z,Qa,Qb,QS,Cj underlying30 HC hltn,Ee,hld,hd,A8S,Db _ _ _ _ hadd,Wg]
        exact this
  exact key l [] _ _ rfl (by simp)
def So(s:CO)(v:AV)(l:List Nat):Prop:=∃a cap,v=.slice a l.length cap∧∀ (i x:Nat),l[i]? = some x→x<256∧∃j o,a=some (j,o)∧j<s.next∧DY (s.heap.get j) (o+i)=some (.int .u8 x)
theorem So.fr{s s':CO}{v:AV}{l:List Nat}{W:List Nat}(h:So s v l)(f:Eb W s s')(hW:l≠[]→∀j,EQ v=some j→j ∉ W):So s' v l:=by
 obtain⟨a,cap,rfl,h2⟩:=h
 refine⟨a,cap,rfl,fun i x hi=>?_⟩
 obtain⟨h3,j,o,rfl,hj,hl⟩:=h2 i x hi
 exact⟨h3,j,o,rfl,A8L hj f.1,by rw[f.2 j hj (hW (fun e=>by rw[e]at hi;cases hi) j rfl)];exact hl⟩
theorem po(x y z:List Nat):Cd prog 28 3 (zipIdx [0,1,2] [.str x,.str y,.str z])=some (R 9 1 false [.str x,.str y,.str z]):=by kernel_rfl
theorem Y2(x:List Nat):C8 prog 34 (zipIdx [0,3] [.int .i64 3,.str x])=some (.agg [.int .i64 3,.bool false,.str [],.str x,.slice none 0 (some 0),.slice none 0 (some 0),.int .i64 0]):=by kernel_rfl
theorem A1Q:(Tm.con 9).cells=[.int .i64 3,.bool false,.str [],.str [97],.slice none 0 (some 0),.slice none 0 (some 0),.int .i64 0]:=by kernel_rfl
theorem rM:(Tm.con 10).cells=[.int .i64 3,.bool false,.str [],.str [98],.slice none 0 (some 0),.slice none 0 (some 0),.int .i64 0]:=by kernel_rfl
theorem rN:(Tm.con 11).cells=[.int .i64 3,.bool false,.str [],.str [99],.slice none 0 (some 0),.slice none 0 (some 0),.int .i64 0]:=by kernel_rfl
section
variable{E:Dw}(hE:Cn E){s:CO}{p:Nat}{L:LG}{O:List Nat}(h:Lx s p L O){K:AV→CO→Prop}(hS:L.S.length<99990)
include hE h hS
theorem uK{i:Int}(hi:i64 i)(hK:∀s' L' O' v,Dx [] p s L O s' L' O' 0 1→L'.F=L.F→Tn L'.S (.var i) v→K (iv v) s'):WF E 8 [.ptr (some (L.q,0)),iv i] K s:=
 A6j hE h hS hi fun s' L' O' k1 k2 k3=>hK s' L' O' _ k1 k2 ⟨by rw[k3];exact If,rfl⟩
theorem A6h{d k a:Tm}{x y z:Int}(hd:Tn L.S d x)(hk:Tn L.S k y)(ha:Tn L.S a z)(hK:∀s' L' O' v,Dx [] p s L O s' L' O' 0 1→L'.F=L.F→Tn L'.S (.upd d k a) v→K (iv v) s'):WF E 10 [.ptr (some (L.q,0)),iv x,iv y,iv z] K s:=by
 rw[hd.num,hk.num,ha.num];exact A6i hE h hS hd.mem hk.mem ha.mem fun s' L' O' k1 k2 k3=>hK s' L' O' _ k1 k2 ⟨by rw[k3];exact If,rfl⟩
end
theorem rC{s:CO}{v:AV}{n:Nat}{l:List Int}{O:List Nat}(h:HD 3 1 s v n (Dv l) O):Cl s v l:=by
 have hl:=h.len
 rw[FD,A8S]at hl
 subst hl
 have hlt:=h.lt
 rcases h.row with⟨rfl,h1,h2⟩ | ⟨i,r,rfl,h2,h3,h4⟩
 ·exact .inl ⟨A9O h1,rfl⟩
 ·exact .inr ⟨i,0,none,rfl,hlt i h2,by rw[h3,H6 h4 (by rw[FD,A8V];exact A8H _),A8p,A8m (by rw[FD];exact A8H _)]⟩
def MS(S:CO)(O:List Nat)(b:Nat)(v:AV)(l:List Int):Prop:=∃OB,HD 3 1 S v l.length (Dv l) OB∧∀j∈OB,b≤j∧j ∉ O
theorem MS.stp{S S':CO}{O O':List Nat}{p b n m:Nat}{L L':LG}{v:AV}{l:List Int}(h:MS S O b v l)(k:Dx [] p S L O S' L' O' n m):MS S' O' b v l:=by
 obtain⟨OB,h1,h2⟩:=h
 exact⟨OB,h1.frame k.nx fun j hj=>k.keep (h1.lt j hj) (by simp) (h2 j hj).2,fun j hj=>⟨(h2 j hj).1,k.out (h1.lt j hj) (h2 j hj).2⟩⟩
theorem MS.nil(S:CO)(O:List Nat)(b:Nat):MS S O b (.slice none 0 (some 0)) []:=⟨[],HD.nil _ _ _,by simp⟩
theorem MS.push{S:CO}{O:List Nat}{p b:Nat}{L:LG}{v:AV}{l:List Int}(h:MS S O b v l)(hx:Lx S p L O)(x:Int)(hl:l.length≤1000)(hb:b≤S.next)(h1b:1<b):
  ∃v2 S2,DE prog (newObj S (R 3 1 false (Dv [x]))) [30,30] [v,.slice (some (S.next,0)) 1 (some 1)]=some (v2,S2)∧MS S2 O b v2 (l++[x])∧Lx S2 p L O∧S.next≤S2.next∧(∀j,j<b→S2.heap.get j=S.heap.get j):=by
 obtain⟨OB,h1,h2⟩:=h
 obtain⟨v2,S2,OB2,a1,a2,a3,a4,a5⟩:=TL h1 x (by omega)
 have hlt:=hx.at_.lt
 have hO:∀j∈OB2,b≤j∧j ∉ O:=fun j hj=>by
  rcases a5 j hj with hm | hm
  ·exact h2 j hm
  ·exact⟨by omega,fun hm'=>by have:=hlt j hm';omega⟩
 refine⟨v2,S2,a1,⟨OB2,a2,hO⟩,?_,by omega,fun j hj=>a4 j (by omega) fun hm=>by have:=(h2 j hm).1;omega⟩
 refine⟨hx.at_.frame (by omega) fun j hj=>a4 j (hlt j hj) fun hm=>(h2 j hm).2 hj,hx.two,hx.rest,⟨?_,by have:=hx.glob.2.1;omega,hx.glob.2.2⟩⟩
 rw[Ec (a4 1 hx.glob.2.1 fun hm=>by have:=(h2 1 hm).1;omega)]
 exact hx.glob.1
def Kj(S:CO)(O:List Nat)(b:Nat)(v:AV)(l:List Int):Prop:=b≤S.next∧Cl S v l∧∀j,EQ v=some j→j<b∧j ∉ O
theorem Kj.stp{S S':CO}{O O':List Nat}{p b n m:Nat}{L L':LG}{v:AV}{l:List Int}(h:Kj S O b v l)(k:Dx [] p S L O S' L' O' n m):Kj S' O' b v l:=
 ⟨A8Z h.1 k.nx,h.2.1.fx k.fr fun j hj hm=>(h.2.2 j hj).2 (by simpa using hm),fun j hj=>⟨(h.2.2 j hj).1,k.out (by have:=(h.2.2 j hj).1;have:=h.1;omega) (h.2.2 j hj).2⟩⟩
theorem MS.keep{S:CO}{O:List Nat}{b:Nat}{v:AV}{l:List Int}(h:MS S O b v l):Kj S O S.next v l:=by
 obtain⟨OB,h1,h2⟩:=h
 exact⟨A8H _,rC h1,fun j hj=>⟨h1.lt j (h1.slotO hj),(h2 j (h1.slotO hj)).2⟩⟩
def Dp(n:Nat):Tm:=.con (9+n % 3)
def DX(row:List Nat):Nat→Tm
 | 0=>.var 1
 | i+1=>.upd (DX row i) (Dp (row.getD i 0)) (.var (10+(i:Int)))
theorem bC{t:TypeId}(x:Nat):Ch prog .rem t (.int .u8 (x:Int)) (.int .u8 3)=some (.int .u8 ((x % 3:Nat):Int)):=by
 have e1:(x:Int).tmod 3=((x % 3:Nat):Int):=by rw[Int.tmod_eq_emod_of_nonneg (by omega)];omega
 show CU (FS .u8 .u8) ((Iu prog (Op.intDiv .rem .u8 (x:Int) 3)).bind ofValue)=_
 unfold Op.intDiv
 rw[if_neg (by decide),e1]
 rfl
theorem A3I{P:Program}{t e:TypeId}{n:Nat}(ht:P.underlying t=some (.slice e))(hs:DZ P e=some n){i o len k:Nat}{cap:Option Nat}(hk:k<len):
  CQ P t (.slice (some (i,o)) len cap) (.int .u8 (k:Int))=some (.ptr (some (i,o+k * n))):=by
 have hb:Nat.blt k len=true:=by simpa[A8Y]using hk
 simp[CQ,idxOf,UG,ht,hs,CU,hb]
theorem pr(n:Int):MM (some (.int .u8 n)) (.int .u8 n)=true:=by simp[MM,IG,He,NG]
section
variable{E:Dw}(hE:Cn E){p:Nat}{rv kv:AV}{row:List Nat}{k0 k1 k2:Int}{s0:CO}{L0:LG}{O0:List Nat}(hx0:Lx s0 p L0 O0)(hrow:So s0 rv row)(hrs:row≠[]→∀j,EQ rv=some j→j<s0.next∧j ∉ O0)(hkv:Kj s0 O0 s0.next kv [k0,k1,k2])
  (t0:Tn L0.S (.con 9) k0) (t1:Tn L0.S (.con 10) k1) (t2:Tn L0.S (.con 11) k2) (hF0:L0.F.length<1000000) (hS0:L0.S.length≤10)
include hE hx0 hrow hrs hkv t0 t1 t2 hF0 hS0
theorem gn{key:AV}{y2 y3 y5 y6 y9 y12 y13 y14 y15 y16 y17 y18 y20 y21 y22:AV}{M:List Nat}{q:Int}{Q:Da→Prop}
    (hq:∀S L O tv nv nums y19,Dx [] p s0 L0 O0 S L O 0 12→L.F=L0.F→Tn L.S (DX row (min row.length 6)) tv→MS S O s0.next nv nums→nums.length=min row.length 6→(∀j,j<min row.length 6→∃x,nums[j]? = some x∧Tn L.S (DX row (j+1)) x) →
      Q ⟨.normal,[rv,key,y2,y3,.ptr (some (L0.q,0)),y5,y6,iv tv,kv,y9,nv,iv ((min row.length 6:Nat):Int),y12,y13,y14,y15,y16,y17,y18,y19,y20,y21,y22],M,S⟩):
    ∀ (m i:Nat) (S:CO) (L:LG) (O:List Nat) (tv:Int) (nv:AV) (nums:List Int) (y19:AV),i+m=min row.length 6→Dx [] p s0 L0 O0 S L O 0 (2 * i)→L.F=L0.F→Tn L.S (DX row i) tv→MS S O s0.next nv nums→nums.length=i→(∀j,j<i→∃x,nums[j]? = some x∧Tn L.S (DX row (j+1)) x) →
      WC E none (Ck.loop TQ) (Cs 2 Q) [rv,key,y2,y3,.ptr (some (L0.q,0)),y5,y6,iv tv,kv,y9,nv,iv (i:Int),y12,y13,y14,y15,y16,y17,y18,y19,y20,y21,y22] M S:=by
  have hlr:∀s,D9 prog s 22 rv=some (iv (row.length:Int)):=fun s=>by
    obtain⟨a,cap,rfl,_⟩:=hrow
    exact DQ underlying22
  intro m
  induction m with
  | zero =>
    intro i S L O tv nv nums y19 him k hF ht hnv hnl hnums
    have hi:i=min row.length 6:=by omega
    refine WC.loop' ?_
    rw[← hi]at hq
    by_cases hlt:i<row.length
    · have h6 : i = 6 := by omega
      have d1:decide ((i:Int)<(row.length:Int))=true:=decide_eq_true (by omega)
      have d2:decide ((i:Int)<6)=false:=decide_eq_false (by omega)
      simp only[TQ,cI,hlr,Rz,d1,d2,Qa,Qb,QS]
      rw[if_pos trivial]
      exact hq S L O tv nv nums _ (k.mono (A8H _) (by omega)) hF ht hnv hnl hnums
    · have d1:decide ((i:Int)<(row.length:Int))=false:=decide_eq_false (by omega)
      simp only[TQ,cI,hlr,Rz,d1,Qa,Qb,QS]
      rw[if_pos trivial]
      exact hq S L O tv nv nums _ (k.mono (A8H _) (by omega)) hF ht hnv hnl hnums
  | succ m ih =>
    intro i S L O tv nv nums y19 him k hF ht hnv hnl hnums
    have hlt:i<row.length:=by omega
    have h6:i<6:=by omega
    refine WC.loop' ?_
    obtain⟨V,hV⟩:∃V,V=Ck.loop TQ:=⟨_,rfl⟩
    rw[← hV]
    have d1:decide ((i:Int)<(row.length:Int))=true:=decide_eq_true (by omega)
    have d2:decide ((i:Int)<6)=true:=decide_eq_true (by omega)
    obtain⟨x,hxr⟩:∃x,row[i]? = some x:=⟨_,A8O hlt⟩
    have hrowS:So S rv row:=hrow.fr k.fr fun h0 j hj hm=>(hrs h0 j hj).2 (by simpa using hm)
    obtain⟨a,cap,hrv,hrd⟩:=id hrowS
    obtain⟨hx256,j,o,ha,hj,hld⟩:=hrd i x hxr
    subst ha
    have hjr:j<s0.next∧j ∉ O0:=hrs (fun e=>by rw[e]at hxr;cases hxr) j (by rw[hrv];rfl)
    have hx3:x % 3<3:=Nat.mod_lt _ (by omega)
    have hkS:=hkv.stp k
    have hgetD:row.getD i 0=x:=by rw[A9K,hxr];rfl
    obtain⟨ky,hky,tky⟩:∃ky,[k0,k1,k2][x % 3]? = some ky∧Tn L.S (Dp x) ky:=by
      have:x % 3=0∨x % 3=1∨x % 3=2:=by omega
      unfold Dp
      rcases this with e | e | e<;>rw[e]
      · exact⟨k0,rfl,t0.pre k.S⟩
      · exact⟨k1,rfl,t1.pre k.S⟩
      · exact⟨k2,rfl,t2.pre k.S⟩
    obtain⟨jk,ok,capk,hkve,hjk,hldk⟩:=hkS.2.1.at hky
    have hjk0:jk<s0.next∧jk ∉ O:=hkS.2.2 jk (by rw[hkve];rfl)
    have e1:=Cj (P:=prog) (cap:=cap) (i:=j) (o:=o) underlying22 A5z hlt
    have e2:=A3I (P:=prog) (cap:=capk) (i:=jk) (o:=ok) underlying30 HC (show x % 3<[k0,k1,k2].length from hx3)
    rw[← hrv]at e1
    rw[← hkve]at e2
    have hadd:i64 (10+(i:Int)):=by unfold i64;omega
    have hadd1:i64 ((i:Int)+1):=by unfold i64;omega
    have nS:=k.nS
    have nxk:=k.nx
    have hq3:=k.q
    simp only[TQ,cI,wd,hlr,Rz,d1,d2,e1,A6F,Ee,A8S,hld,bC,e2,hldk,Db _ _ _ _ hadd,Qa,Qb,QS,Wg]
    rw[← hq3]
    refine uK hE k.x (by omega) hadd fun S1 L1 O1 va k1 f1 ta=>?_
    have kk1:=k.trans k1
    have nx1:=k1.nx
    have hldk1:DY (S1.heap.get jk) (ok+x % 3)=some (iv ky):=by rw[k1.keep hjk (by simp) hjk0.2];exact hldk
    have hjO:j ∉ O:=fun hm=>(k.gr j hm).elim hjr.2 fun e=>by omega
    have hld1:DY (S1.heap.get j) (o+i)=some (.int .u8 (x:Int)):=by rw[k1.keep hj (by simp) hjO];exact hld
    have nS1:=k1.nS
    have hq1:=k1.q
    simp only[A6F,Ee,hldk1,hld1,pr,Cq,Dk,A9U,A9S,QS,Wg]
    rw[← hq1]
    refine A6h hE k1.x (by omega) (ht.pre k1.S) (tky.pre k1.S) ta fun S2 L2 O2 vt k2 f2 tt=>?_
    have kk2:=kk1.trans k2
    have nx2:=k2.nx
    have nv2:=(hnv.stp k1).stp k2
    obtain⟨v3,S3,a1,a2,a3,a4,a5⟩:=nv2.push k2.x vt (by omega) (by omega) hx0.glob.2.1
    simp only[we,Fo,a1,wg,Db _ _ _ _ hadd1,Qb,QS,Wg]
    have k3:Dx [] p s0 L0 O0 S3 L2 O2 0 (2 * (i+1)):=⟨a3,⟨by omega,fun j' hj' hn=>by rw[a5 j' hj'];exact kk2.fr.2 j' hj' hn⟩,kk2.gr,kk2.S,kk2.F,kk2.A,kk2.q,by have:=kk2.nF;omega,by have:=kk2.nS;omega⟩
    have hch:Tn L2.S (DX row (i+1)) vt:=by
      show Tn L2.S (.upd (DX row i) (Dp (row.getD i 0)) (.var (10+(i:Int)))) vt
      rw[hgetD];exact tt
    have:=ih (i+1) S3 L2 O2 vt v3 (nums++[vt]) (.bool true) (by omega) k3 (by rw[f2,f1,hF]) hch a2 (by simp[hnl]) (fun j' hj'=>by
      by_cases e:j'<i
      · obtain⟨x',h1,h2⟩:=hnums j' e
        exact⟨x',by rw[A8d (by omega)];exact h1,h2.pre (k1.S.trans k2.S)⟩
      · have:j'=i:=by omega
        subst this
        exact⟨vt,by rw[A8g (by omega),hnl];simp,hch⟩)
    rw[← hV]at this
    rw[hq1,hq3]
    exact this
end
theorem WZ{s:CO}{loc var:List AV}(f:CO→AV→Option AV)(g:CX)(b:Bool)(x a:CX):JD s loc var ⟨some (g,b),.r1 f,[x],a⟩=(!A3J b (Fz loc var g) || MM (f s (Fz loc var x)) (Fz loc var a)):=rfl
structure WU(L0:LG)(own:List Int)(row:List Nat)(n ki:Nat):Prop where
 set:∀j,j<n→row.getD j 0 % 3=ki→∃t nd e tu,Av L0.F (Eh L0.S 4 (DX row j)) t∧Nv L0.F t nd∧Av L0.F (FH L0.S (.sel (DX row (j+1)) (Dp ki)) (.var (10+(j:Int)))) e∧Av L0.F (Eh L0.S 4 (DX row (j+1))) tu∧Uk L0.F own nd e∧Uk L0.F own nd tu∧Tm.sel (DX row (j+1)) (Dp ki)∈L0.S
 key:∀j,j<n→row.getD j 0 % 3≠ki→∃e hu nh hd,Av L0.F (FH L0.S (.sel (DX row (j+1)) (Dp ki)) (.sel (DX row j) (Dp ki))) e∧e∈own∧Av L0.F (FC L0.S (DX row (j+1)) (Dp ki)) hu∧Nv L0.F hu nh∧Av L0.F (FC L0.S (DX row j) (Dp ki)) hd∧Uk L0.F own nh hd∧Tm.sel (DX row (j+1)) (Dp ki)∈L0.S∧Tm.sel (DX row j) (Dp ki)∈L0.S
section
variable{E:Dw}(hE:Cn E){p:Nat}{own:List Int}{L0:LG}(h00:0<L0.F.length)(hk0:F3 L0.F){s:CO}{L:LG}{O:List Nat}(h:Lx s p L O)(hp:L0.F <+: L.F)(hF:L.F.length<1000000)(hS:L.S.length<99990){K:AV→CO→Prop}
include hE h00 hk0 h hp hF hS
theorem A5x{a b:Int}(hi:Uk L0.F own a b){j:Nat}{c:Option Nat}(hj:Kp s O j (R 3 1 false (Dv [a,b])))(hK:∀s' L' O' n,Dx [] p s L O s' L' O' 1 0→L'.S=L.S→n∈own→K (iv n) s'):WF E 18 [.ptr (some (p,0)),.slice (some (j,0)) 2 c] K s:=by
 obtain⟨⟨n,ov,hn⟩,ka,kb⟩:=hi
 have hl:=GM hp
 have ra:=ov.rg a (by simp)
 have rb:=ov.rg b (by simp)
 have hfl:EY L.F 3 [a,b]=[a,b]:=RO fun x hx=>by
  simp only[A8I,A8K,A9V]at hx
  rcases hx with rfl | rfl
  ·exact⟨by omega,by rw[Gs hp ra];exact ka⟩
  ·exact⟨by omega,by rw[Gs hp rb];exact kb⟩
 refine A8F hE h hF hS (Gd hj rfl c) (fun j' hj'=>by injection hj' with hj';rw[← hj'];exact hj.out) (fun x hx=>?_) (by rw[hfl];simp) (by simp) fun s' L' O' v k e ov'=>?_
 ·simp only[A8I,A8K,A9V]at hx
  rcases hx with rfl | rfl<;>omega
 ·have:v=n:=ov'.eq (ov.pre h00 hk0 (hp.trans k.F))
  exact hK s' L' O' v k e (by rw[this];exact hn)
end
theorem W7{s:CO}{n:Nat}(h:n<256):EP prog s 5 3 (.int .u8 (n:Int))=some (iv (n:Int)):=by
 simp[EP,underlying5,underlying3,Sm (n:=(n:Int)) ⟨by omega,by omega⟩]
section
variable{E:Dw}(hE:Cn E){p:Nat}{rv kv av sv:AV}{row:List Nat}{k0 k1 k2 x1:Int}{own nums:List Int}{ki n:Nat}(hki:ki<3){s0:CO}{L0:LG}{O0:List Nat}(hx0:Lx s0 p L0 O0)(hrow:So s0 rv row)(hrs:row≠[]→∀j,EQ rv=some j→j<s0.next∧j ∉ O0)(hkv:Kj s0 O0 s0.next kv [k0,k1,k2])(hav:Kj s0 O0 s0.next av (DS own))(hown:own.length≤1000000)(hsv:Kj s0 O0 s0.next sv nums)
  (t0:Tn L0.S (.con 9) k0) (t1:Tn L0.S (.con 10) k1) (t2:Tn L0.S (.con 11) k2) (hF0:L0.F.length<500000) (hS0:L0.S.length<50000) (hn:n≤row.length∧n≤6) (hnl:nums.length=n) (hnums:∀j,j<n→∃x,nums[j]? = some x∧Tn L0.S (DX row (j+1)) x) (facts:WU L0 own row n ki)
include hE hki hx0 hrow hrs hkv hav hown hsv t0 t1 t2 hF0 hS0 hn hnl hnums facts
theorem gO{key y5 y6 y7 y9 y11 y17 y18 y19:AV}{M:List Nat}{Q:Da→Prop}
    (hq:∀S L O y14 y15 y16 y20 y21 y22,Dx [] p s0 L0 O0 S L O 100 100→Q ⟨.normal,[rv,key,.bool false,.ptr (some (p,0)),.ptr (some (L0.q,0)),y5,y6,y7,kv,y9,sv,y11,iv (ki:Int),av,y14,y15,y16,y17,y18,y19,y20,y21,y22],M,S⟩)
    (hr:∀S y14 y15 y16 y20 y21 y22,Q ⟨.ret,[rv,key,.bool true,.ptr (some (p,0)),.ptr (some (L0.q,0)),y5,y6,y7,kv,y9,sv,y11,iv (ki:Int),av,y14,y15,y16,y17,y18,y19,y20,y21,y22],M,S⟩):
    ∀ (k:Nat) (S:CO) (L:LG) (O:List Nat) (y15 y16 y20 y21 y22:AV),k≤n→Dx [] p s0 L0 O0 S L O (12 * (n - k)) (12 * (n - k)) →
      WC E none (Ck.loop Wu) (Cs 4 Q) [rv,key,.bool false,.ptr (some (p,0)),.ptr (some (L0.q,0)),y5,y6,y7,kv,y9,sv,y11,iv (ki:Int),av,iv ((k:Int) - 1),y15,y16,y17,y18,y19,y20,y21,y22] M S:=by
  intro k
  induction k with
  | zero =>
    intro S L O y15 y16 y20 y21 y22 hk st
    refine WC.loop' ?_
    have d:decide ((0:Int)≤((0:Nat):Int) - 1)=false:=decide_eq_false (by omega)
    simp only[Wu,lQ,Wc,d,Qa,Qb,QS]
    rw[if_pos trivial]
    exact hq S L O _ _ _ _ _ _ (st.mono (by omega) (by omega))
  | succ k ih =>
    intro S L O y15 y16 y20 y21 y22 hk st
    refine WC.loop' ?_
    obtain⟨V,hV⟩:∃V,V=Ck.loop Wu:=⟨_,rfl⟩
    rw[← hV,show(((k+1:Nat):Int) - 1)=(k:Int)from by omega]
    have d:decide ((0:Int)≤(k:Int))=true:=decide_eq_true (by omega)
    have kn:k<n:=by omega
    obtain⟨x,hxr⟩:∃x,row[k]? = some x:=⟨_,A8O (by omega)⟩
    have hgetD:row.getD k 0=x:=by rw[A9K,hxr];rfl
    obtain⟨a,capr,hrv,hrd⟩:=id hrow
    obtain⟨hx256,jr,or,ha,hjr,hldr⟩:=hrd k x hxr
    subst ha
    have hjrO:jr ∉ O0:=(hrs (fun e=>by rw[e]at hxr;cases hxr) jr (by rw[hrv];rfl)).2
    obtain⟨un,hun,tun⟩:=hnums k kn
    obtain⟨js,os,caps,hsve,hjs,hlds⟩:=hsv.2.1.at hun
    have hjsO:js ∉ O0:=(hsv.2.2 js (by rw[hsve];rfl)).2
    obtain⟨ky,hky,tky⟩:∃ky,[k0,k1,k2][ki]? = some ky∧Tn L0.S (Dp ki) ky:=by
      have:ki=0∨ki=1∨ki=2:=by omega
      unfold Dp
      rcases this with e | e | e<;>rw[e]
      · exact⟨k0,rfl,t0⟩
      · exact⟨k1,rfl,t1⟩
      · exact⟨k2,rfl,t2⟩
    obtain⟨jk,ok,capk,hkve,hjk,hldk⟩:=hkv.2.1.at hky
    have hjkO:jk ∉ O0:=(hkv.2.2 jk (by rw[hkve];rfl)).2
    have es:=Cj (P:=prog) (cap:=caps) (i:=js) (o:=os) underlying30 HC (show k<nums.length by omega)
    have ek:=Cj (P:=prog) (cap:=capk) (i:=jk) (o:=ok) underlying30 HC (show ki<[k0,k1,k2].length from hki)
    have er:=Cj (P:=prog) (cap:=capr) (i:=jr) (o:=or) underlying22 A5z (show k<row.length by omega)
    rw[← hsve]at es
    rw[← hkve]at ek
    rw[← hrv]at er
    have lds:∀ {S' L' O' n' m'},Dx [] p s0 L0 O0 S' L' O' n' m'→DY (S'.heap.get js) (os+k)=some (iv un):=fun st=>by rw[st.keep hjs (by simp) hjsO];exact hlds
    have ldk:∀ {S' L' O' n' m'},Dx [] p s0 L0 O0 S' L' O' n' m'→DY (S'.heap.get jk) (ok+ki)=some (iv ky):=fun st=>by rw[st.keep hjk (by simp) hjkO];exact hldk
    have ldr:∀ {S' L' O' n' m'},Dx [] p s0 L0 O0 S' L' O' n' m'→DY (S'.heap.get jr) (or+k)=some (.int .u8 (x:Int)):=fun st=>by rw[st.keep hjr (by simp) hjrO];exact hldr
    have ls0:=lds st
    have nF:=st.nF
    have nS:=st.nS
    have hq0:=st.q
    simp only[Wu,lQ,wl,Wc,d,es,ls0,Ee,A8S,Qa,Qb,QS,Wg]
    rw[← hq0]
    refine oI hE st.x (by omega) (tun.pre st.S) fun kidv S1 o1 hkid=>?_
    have st1:=st.trans (Dx.old st.x o1)
    have hkl:Ew L.S (DX row (k+1))=[(ix L.S (DX row k):Int),(ix L.S (Dp (row.getD k 0)):Int),(ix L.S (.var (10+(k:Int))):Int)]:=rfl
    rw[hkl]at hkid
    obtain⟨jd,od,capd,hkde,hjd,hld0⟩:=hkid.at (k:=0) rfl
    have ed:CQ prog 30 kidv (.int .i64 0)=some (.ptr (some (jd,od+0 * 1))):=by rw[hkde];exact Cj (P:=prog) underlying30 HC (show 0<3 by omega)
    have hld0':DY (S1.heap.get jd) od=some (iv (ix L.S (DX row k):Int)):=hld0
    have hok:=A6X hE hx0 (by omega)
    have hdS:DX row k∈L0.S:=(hok.kid tun.mem (k:=DX row k) (by show DX row k∈[_,_,_];simp)).1
    have ham:Tm.var (10+(k:Int))∈L0.S:=(hok.kid tun.mem (k:=Tm.var (10+(k:Int))) (by show Tm.var (10+(k:Int))∈[_,_,_];simp)).1
    have td:Tn L.S (DX row k) (ix L.S (DX row k):Int):=⟨DA st.S hdS,rfl⟩
    simp only[ed,hld0',Ee,A9H,A8f,wm,Qb,QS,Wg]
    refine uD hE st1.x (by omega) (by omega) (n:=4) (by decide) td fun S2 L2 O2 tg k2 e2 a2=>?_
    have st2:=st1.trans k2
    have nF2:=st2.nF
    have nS2:=st2.nS
    simp only[QS]
    refine SG hE k2.x (by omega) (by omega) a2.lt fun S3 L3 O3 nd k3 e3 a3=>?_
    have st3:=st2.trans k3
    have nF3:=st3.nF
    have nS3:=st3.nS
    have lr3:=ldr st3
    have hx3:x % 3<3:=Nat.mod_lt _ (by omega)
    simp only[wn,er,lr3,A6F,A8S,bC,W7 (show x % 3<256 by omega),Wd,Qb,QS,Wg]
    have heq:decide (((x % 3:Nat):Int)=(ki:Int))=decide (x % 3=ki):=by
      by_cases e:x % 3=ki
      · rw[e];simp
      · rw[decide_eq_false e,decide_eq_false (by omega)]
    rw[heq]
    by_cases hm:x % 3=ki
    · have hdm:decide (x % 3=ki)=true:=decide_eq_true hm
      obtain⟨t,nd',e',tu',f1,f2,f3,f4,f5,f6,f7⟩:=facts.set k kn (by rw[hgetD];exact hm)
      simp only[hdm,QS]
      have q3:L.q=L3.q:=by rw[st3.q,hq0]
      have et:tg=t:=by
        rw[GP st.S 4 hdS]at a2
        exact a2.eq (f1.pre st2.F) rfl
      subst et
      have en:nd=nd':=a3.eq (f2.pre st3.F)
      subst en
      have ls3:=lds st3
      have lk3:=ldk st3
      have hadd:i64 (10+(k:Int)):=by unfold i64;omega
      simp only[wo,es,ek,ls3,lk3,Ee,A8S,Db _ _ _ _ hadd,Qb,QS,Wg]
      rw[q3]
      refine aa hE k3.x (by omega) (tun.pre st3.S) (tky.pre st3.S) fun S4 L4 O4 sl k4 e4 t4=>?_
      have st4:=st3.trans k4
      have nF4:=st4.nF
      have nS4:=st4.nS
      simp only[QS]
      rw[← k4.q]
      refine uK hE k4.x (by omega) hadd fun S5 L5 O5 va k5 e5 t5=>?_
      have st5:=st4.trans k5
      have nF5:=st5.nF
      have nS5:=st5.nS
      simp only[QS]
      rw[← k5.q]
      refine A5w hE k5.x (by omega) (by omega) (t4.pre k5.S) t5 fun S6 L6 O6 e k6 e6 a6=>?_
      have st6:=st5.trans k6
      have nF6:=st6.nF
      have nS6:=st6.nS
      have ee:e=e':=by
        rw[F8 st5.S f7 ham]at a6
        exact a6.eq (f3.pre st6.F) rfl
      subst ee
      generalize hb6:S6.next=b6
      have hs6:S6=ext S6 []:=(Ca S6).symm
      rw[hs6]
      simp only[EO,hb6,QS,Wg]
      obtain⟨x7,r7,o7⟩:=Ls k6.x (R 3 1 false (Dv [nd,e]))
      rw[hb6]at r7
      have st7:=st6.trans (Dx.old k6.x o7)
      generalize ext S6 [R 3 1 false (Dv [nd,e])]=S7 at x7 r7 o7 st7
      refine A5x hE (LG.pos hx0.two) hx0.at_.kids x7 st6.F (by omega) (by omega) f5 r7 fun S8 L8 O8 n8 k8 e8 m8=>?_
      have st8:=st7.trans k8
      have nF8:=st8.nF
      have nS8:=st8.nS
      simp only[QS]
      have hlen:(DS own).length≤1000000:=by rw[(EM own).length_eq];exact hown
      refine K3 hE (hav.stp st8).2.1 hlen ?_
      have hin8:decide (n8∈DS own)=true:=decide_eq_true (E0.2 m8)
      have ls8:=lds st8
      simp only[hin8,es,ls8,Ee,A8S,QS,Wg]
      refine uD hE k8.x (by omega) (by omega) (n:=4) (by decide) (tun.pre st8.S) fun S9 L9 O9 tu k9 e9 a9=>?_
      have st9:=st8.trans k9
      have nF9:=st9.nF
      have nS9:=st9.nS
      have etu:tu=tu':=by
        rw[GP st8.S 4 tun.mem]at a9
        exact a9.eq (f4.pre st9.F) rfl
      subst etu
      generalize hb9:S9.next=b9
      have hs9:S9=ext S9 []:=(Ca S9).symm
      rw[hs9]
      simp only[EO,hb9,QS,Wg]
      obtain⟨x10,r10,o10⟩:=Ls k9.x (R 3 1 false (Dv [nd,tu]))
      rw[hb9]at r10
      have st10:=st9.trans (Dx.old k9.x o10)
      generalize ext S9 [R 3 1 false (Dv [nd,tu])]=S10 at x10 r10 o10 st10
      refine A5x hE (LG.pos hx0.two) hx0.at_.kids x10 st9.F (by omega) (by omega) f6 r10 fun S11 L11 O11 n11 k11 e11 m11=>?_
      have st11:=st10.trans k11
      simp only[QS]
      refine K3 hE (hav.stp st11).2.1 hlen ?_
      have hin11:decide (n11∈DS own)=true:=decide_eq_true (E0.2 m11)
      simp only[hin11,QS]
      rw[show L5.q=L0.q from st5.q]
      exact hr _ _ _ _ _ _ _
    · have hdm:decide (x % 3=ki)=false:=decide_eq_false hm
      obtain⟨e',hu',nh',hd',f1,f2,f3,f4,f5,f6,f7,f8⟩:=facts.key k kn (by rw[hgetD];exact hm)
      have q3:L.q=L3.q:=by rw[st3.q,hq0]
      have ls3:=lds st3
      have lk3:=ldk st3
      simp only[hdm,wp,es,ek,ls3,lk3,Ee,A8S,Qb,QS,Wg]
      rw[q3]
      have tdd:Tn L3.S (DX row k) (ix L.S (DX row k):Int):=td.pre (k2.S.trans k3.S)
      refine aa hE k3.x (by omega) (tun.pre st3.S) (tky.pre st3.S) fun S4 L4 O4 sl k4 e4 t4=>?_
      have st4:=st3.trans k4
      have nF4:=st4.nF
      have nS4:=st4.nS
      have lk4:=ldk st4
      simp only[lk4,Ee,Cq,Dk,A9U,A9S,QS,Wg]
      rw[← k4.q]
      refine aa hE k4.x (by omega) (tdd.pre k4.S) (tky.pre st4.S) fun S5 L5 O5 sd k5 e5 t5=>?_
      have st5:=st4.trans k5
      have nF5:=st5.nF
      have nS5:=st5.nS
      simp only[QS]
      refine A5w hE k5.x (by omega) (by omega) (t4.pre k5.S) t5 fun S6 L6 O6 e k6 e6 a6=>?_
      have st6:=st5.trans k6
      have nF6:=st6.nF
      have nS6:=st6.nS
      have ee:e=e':=by
        rw[F8 st5.S f7 f8]at a6
        exact a6.eq (f1.pre st6.F) rfl
      subst ee
      simp only[QS]
      have hlen:(DS own).length≤1000000:=by rw[(EM own).length_eq];exact hown
      refine K3 hE (hav.stp st6).2.1 hlen ?_
      have hin6:decide (e∈DS own)=true:=decide_eq_true (E0.2 f2)
      have ls6:=lds st6
      have lk6:=ldk st6
      simp only[hin6,es,ek,ls6,lk6,Ee,A8S,QS,Wg]
      refine VX hE k6.x (by omega) (by omega) (tun.pre st6.S) (tky.pre st6.S) fun S7 L7 O7 hu k7 e7 a7=>?_
      have st7:=st6.trans k7
      have nF7:=st7.nF
      have nS7:=st7.nS
      have eu:hu=hu':=by
        rw[GI st6.S tun.mem tky.mem]at a7
        exact a7.eq (f3.pre st7.F) rfl
      subst eu
      have lk7:=ldk st7
      simp only[lk7,Ee,WZ,Ru,Bool.not_false,Bool.not_true,Bool.false_or,Dk,A9U,A9S,QS,Wg]
      refine SG hE k7.x (by omega) (by omega) a7.lt fun S8 L8 O8 nh k8 e8 a8=>?_
      have st8:=st7.trans k8
      have nF8:=st8.nF
      have nS8:=st8.nS
      have en:nh=nh':=a8.eq (f4.pre st8.F)
      subst en
      have lk8:=ldk st8
      simp only[lk8,Ee,WZ,Ru,Bool.not_false,Bool.not_true,Bool.false_or,Dk,A9U,A9S,QS,Wg]
      refine VX hE k8.x (by omega) (by omega) (tdd.pre (k4.S.trans (k5.S.trans (k6.S.trans (k7.S.trans k8.S))))) (tky.pre st8.S) fun S9 L9 O9 hd k9 e9 a9=>?_
      have st9:=st8.trans k9
      have nF9:=st9.nF
      have nS9:=st9.nS
      have ed':hd=hd':=by
        rw[GI st8.S hdS tky.mem]at a9
        exact a9.eq (f5.pre st9.F) rfl
      subst ed'
      generalize hb9:S9.next=b9
      have hs9:S9=ext S9 []:=(Ca S9).symm
      rw[hs9]
      simp only[EO,hb9,QS,Wg]
      obtain⟨x10,r10,o10⟩:=Ls k9.x (R 3 1 false (Dv [nh,hd]))
      rw[hb9]at r10
      have st10:=st9.trans (Dx.old k9.x o10)
      generalize ext S9 [R 3 1 false (Dv [nh,hd])]=S10 at x10 r10 o10 st10
      refine A5x hE (LG.pos hx0.two) hx0.at_.kids x10 st9.F (by omega) (by omega) f6 r10 fun S11 L11 O11 n11 k11 e11 m11=>?_
      have st11:=st10.trans k11
      simp only[QS]
      refine K3 hE (hav.stp st11).2.1 hlen ?_
      have hin11:decide (n11∈DS own)=true:=decide_eq_true (E0.2 m11)
      have hsub:i64 ((k:Int) - 1):=by unfold i64;omega
      simp only[hin11,wq,Pt _ _ _ _ hsub,Qb,QS]
      have:=ih S11 L11 O11 (iv (ix L.S (DX row k):Int)) (iv nd) (.bool true) (.bool false) (.bool false) (by omega) (st11.mono (by omega) (by omega))
      rw[← hV]at this
      rw[show L4.q=L0.q from st4.q]
      exact this
end
end
end Go.Proofs.YtoaaclpjkelofaaGreatDoor.Am
set_option linter.all false
set_option maxRecDepth 20000
namespace Go.Proofs.YtoaaclpjkelofaaGreatDoor.Am
open Go Go.Proofs
noncomputable section
open Tryz
theorem MV(row:List Nat)(j:Nat):(DX row j).kind≠2:=by
 cases j with
 | zero=>show(0:Int)≠2;decide
 | succ j=>exact LD _ _ _
theorem Oc(k:Nat):(Dp k).kind=2:=rfl
theorem Rl(k:Nat):(Dp k).tag=3:=by
 have:k % 3=0∨k % 3=1∨k % 3=2:=by omega
 unfold Dp
 rcases this with e | e | e<;>rw[e]<;>rfl
theorem sm{a b:Nat}(h:a % 3≠b % 3):Dp a≠Dp b:=fun e=>by
 unfold Dp at e
 injection e with e
 omega
section
variable{L L':LG}{own:List Int}{N:List (List Int)}{Sn D Kk:List Int}{row:List Nat}{n ki:Nat}(hki:ki<3)(h2:HH L'.F)(hk:F3 L'.F)(hr:Ko L'.F)(hn:WS L'.F)(ho:bQ L'.F own N)(hS:L.S <+: L'.S)(hcmp:∀m∈Sn,iR L Sn D Kk m)
  (hsel:Tm.sel (DX row n) (Dp ki)∈L.S) (hch:∀j,j≤n→DX row j∈L.S) (hK:Dp ki∈L.S) (h0:(ix L.S (.sel (DX row n) (Dp ki)):Int)∈Sn) (hD:∀y∈D,∃d,Tn L'.S d y∧Mv (DS Kk) L' N d)
include hS hcmp hsel hch hK h0
theorem mR:∀j,j≤n→(ix L.S (DX row j):Int)∈Sn∧(ix L.S (DX row j):Int)∈D:=by
 have key:∀k,k≤n→(ix L.S (DX row (n - k)):Int)∈Sn∧(ix L.S (DX row (n - k)):Int)∈D:=by
  intro k
  induction k with
  | zero =>
   intro _
   obtain⟨u,hu,k1,k2,k3⟩:=hcmp _ h0
   have hue:u=.sel (DX row n) (Dp ki):=Gu hu.mem hsel (by have:=hu.num;omega)
   subst hue
   exact⟨k1 (DX row n) (by simp[Tm.kids]),(k2 _ _ [] rfl).1⟩
  | succ k ih =>
   intro hkn
   obtain⟨i1,i2⟩:=ih (by omega)
   obtain⟨m,hm⟩:∃m,n - k=m+1:=⟨n - k - 1,by omega⟩
   rw[hm]at i1
   obtain⟨u,hu,k1,k2,k3⟩:=hcmp _ i1
   have hue:u=DX row (m+1):=Gu hu.mem (hch _ (by omega)) (by have:=hu.num;omega)
   rw[hue]at k1 k2
   have hnm:n - (k+1)=m:=by omega
   rw[hnm]
   exact⟨k1 (DX row m) (by show DX row m∈[_,_,_];simp),(k2 (DX row m) (Dp (row.getD m 0)) [.var (10+(m:Int))] rfl).1⟩
 intro j hj
 have:=key (n - j) (by omega)
 rwa[show n - (n - j)=j from by omega]at this
theorem oG:(ix L.S (Dp ki):Int)∈Kk:=by
 obtain⟨u,hu,k1,k2,k3⟩:=hcmp _ h0
 have hue:u=.sel (DX row n) (Dp ki):=Gu hu.mem hsel (by have:=hu.num;omega)
 subst hue
 exact(k2 _ _ [] rfl).2
include hD
theorem MU{j:Nat}(hj:j≤n):Mv (DS Kk) L' N (DX row j):=by
 obtain⟨d,hd,h⟩:=hD _ (mR hS hcmp hsel hch hK h0 j hj).2
 have:d=DX row j:=Gu hd.mem (DA hS (hch j hj)) (by
  have:=hd.num
  rw[J8 hS (hch j hj)]
  omega)
 subst this
 exact h
include hki h2 hk hr hn ho
theorem gV:WU L' own row n ki:=by
  have hK':=DA hS hK
  have tK:Tn L'.S (Dp ki) (ix L.S (Dp ki):Int):=⟨hK',by rw[J8 hS hK]⟩
  have hkk:(ix L.S (Dp ki):Int)∈DS Kk:=E0.2 (oG hS hcmp hsel hch hK h0)
  refine⟨fun j hj hm=>?_,fun j hj hm=>?_⟩
  · obtain⟨g1,g2,g3⟩:=(MU hS hcmp hsel hch hK h0 hD (j:=j+1) (by omega)).2 (DX row j) (Dp (row.getD j 0)) (.var (10+(j:Int))) rfl
    have hkc:Dp (row.getD j 0)=Dp ki:=by unfold Dp;rw[hm,Nat.mod_eq_of_lt hki]
    rw[hkc]at g2
    obtain⟨t,nd,e,tu,a1,a2,a3,a4,a5,a6,a7⟩:=nP h2 hk hr hn ho (u:=DX row (j+1)) (by show Tm.upd _ _ _=_;rw[hkc]) (by rw[show DX row (j+1)=.upd (DX row j) (Dp ki) (.var (10+(j:Int)))from by show Tm.upd _ _ _=_;rw[hkc]];exact g2) (MV row j) (Oc ki) (Rl ki) rfl (DA hS (hch j (by omega))) (DA hS (hch (j+1) (by omega)))
    exact⟨t,nd,e,tu,a1,a2,a3,a4,a5,a6,a7⟩
  · obtain ⟨g1, g2, g3⟩ := (MU         hS hcmp hsel hch hK h0 hD (j := j + 1) (by omega)).2 (DX    row j) (Dp    (row.getD j 0)) (.var (10 + (j : Int))) rfl
    obtain⟨e,hu,nh,hd,a1,a2,a3,a4,a5,a6,a7,a8⟩:=nN h2 hk hr hn ho (u:=DX row (j+1)) (a:=.var (10+(j:Int))) rfl (g3 _ hkk) tK (MV row j) (Oc _) (Oc ki) (Rl ki) (sm (by rw[Nat.mod_eq_of_lt hki];exact hm)) (DA hS (hch j (by omega))) (DA hS (hch (j+1) (by omega)))
    exact⟨e,hu,nh,hd,a1,a2,a3,a4,a5,a6,a7,a8⟩
theorem Yg:∃hh e,Av L'.F (FC L'.S (.var 1) (Dp ki)) hh∧Av L'.F (FH L'.S (.sel (.var 1) (Dp ki)) (.con 0)) e∧Uk L'.F own hh e∧Tm.sel (.var 1) (Dp ki)∈L'.S∧Tm.con 0∈L'.S:=by
 have hK':=DA hS hK
 have hkk:(ix L.S (Dp ki):Int)∈DS Kk:=E0.2 (oG hS hcmp hsel hch hK h0)
 obtain⟨t,ht,g1,g2,g3⟩:=(MU hS hcmp hsel hch hK h0 hD (j:=0) (by omega)).1 _ hkk
 have:t=Dp ki:=Gu ht.mem hK' (by have:=ht.num;rw[J8 hS hK];omega)
 subst this
 exact Zs h2 hk hr hn ho g3 (MV row 0) (Rl ki)
end
theorem sV{S:List Tm}{t u:Tm}(hne:t≠u)(h:t.kind≠2):∃a b,FH S t u=Fi S 6 0 [61] [a,b]∧((a=t∧b=u)∨(a=u∧b=t)):=by
 unfold FH
 rw[if_neg hne,if_neg (fun e=>h e.1)]
 by_cases hc:QM S u t<0
 ·rw[if_pos hc];exact⟨u,t,rfl,.inr ⟨rfl,rfl⟩⟩
 ·rw[if_neg hc];exact⟨t,u,rfl,.inl ⟨rfl,rfl⟩⟩
theorem nY{F:List Fm}{f:Fm}(h:f.key ∉ DP F):(IH (DN F f) f.key:Int)=(F.length:Int)∧CP (DN F f) (F.length:Int)=f.cut:=by
 have hp:DN F f=F++[f.cut]:=if_neg h
 have hk:DP (F++[f.cut])=DP F++[f.key]:=by unfold DP;rw[A8r,A8U,List.map_nil,Jy]
 have hix:IH (DN F f) f.key=F.length:=by
  rw[hp]
  unfold IH
  rw[hk,A9J,if_neg h,List.idxOf_cons_self]
  simp[DP]
 refine⟨by rw[hix],?_⟩
 have hl:(DN F f).length=F.length+1:=by rw[hp];simp
 have hg:=Gr (F:=DN F f) (x:=(F.length:Int)) (by omega)
 rw[show((F.length:Int)).toNat=F.length from by omega]at hg
 have hg2:(DN F f)[F.length]? = some f.cut:=by rw[hp,A8g (A8H _)];simp
 rw[hg2]at hg
 injection hg with hg
 exact hg.symm
theorem eqP{E:Dw}(hE:Cn E){s:CO}{p:Nat}{L:LG}{O:List Nat}(h:Lx s p L O){K:AV→CO→Prop}(hF:L.F.length<1000000)(hS:L.S.length<99990){t u:Tm}{x y:Int}(ht:Tn L.S t x)(hu:Tn L.S u y)
    (hK:∀s' L' O' v,Dx [] p s L O s' L' O' 1 0→L'.S=L.S→L'.F=DN L.F (FH L.S t u)→Av L'.F (FH L.S t u) v→K (iv v) s'):WF E 12 [.ptr (some (p,0)),iv x,iv y] K s:=by
  rw[ht.num,hu.num]
  exact A0g hE h.at_ hF hS h.glob ht.mem hu.mem fun s' O' g1 g2 g3=>hK s' _ O' _ (Dx.mk1 h (.put (FH L.S t u)) (fun f hf hk=>by
    injection hf with hf
    subst hf
    unfold FH at hk
    split at hk
    · simp only[ER]at hk;split at hk<;>omega
    · split at hk
      · simp only[ER]at hk;split at hk<;>omega
      · split at hk<;>(simp only[Fi]at hk;omega)) g1 g2 g3) rfl rfl (Av.of _ _)
theorem ak{f:Fm}(h:f.kind=6):f.key ∉ DP JP:=fun hm=>by
 obtain⟨g,hg,e⟩:=List.mem_map.1 hm
 have ek:g.kind=f.kind:=congrArg (·.1) e
 have hg':g=ER true∨g=ER false:=by simpa[JP]using hg
 rcases hg' with rfl | rfl
 ·rw[h]at ek;exact absurd ek (by decide)
 ·rw[h]at ek;exact absurd ek (by decide)
end
end Go.Proofs.YtoaaclpjkelofaaGreatDoor.Am
set_option linter.all false
set_option maxHeartbeats 1000000
set_option maxRecDepth 20000
namespace Go.Proofs.YtoaaclpjkelofaaGreatDoor.Am
open Go Go.Proofs
noncomputable section
open Tryz
section
variable{E:Dw}(hE:Cn E)(hw:∀s,Ja s 1 FE=true→E.nat 5 [] s=some (.bool true,s)){s:CO}(hg:Ja s 1 FE=true)(hg1:1<s.next){rv:AV}{row:List Nat}(hrow:So s rv row)(hrs:row≠[]→∀j,EQ rv=some j→j<s.next){key:Nat}(hkey:key<256){K:AV→CO→Prop}
include hE hw hg hg1 hrow hrs hkey
theorem fE(hK:∀s',K (.bool true) s'):WF E 3 [rv,.int .u8 (key:Int)] K s:=by
 refine hE.go A5W (by decide) rfl ?_
 simp only[c3,A4n,A4o,Qa,Qb,QS]
 refine WF.native (hw s hg) ?_
 simp only[A4p,Qb,QS]
 refine oN hE hg hg1 fun p s1 L1 O1 o1 x1 eS eF eA hO1 hp1=>?_
 simp only[A4r,Qb,QS]
 refine LQ hE x1 ?_
 generalize hb1:s1.next=b1
 have hs1:s1=ext s1 []:=(Ca s1).symm
 rw[hs1]
 simp only[A4s,A4t,po,hb1,Qb,QS,Wg]
 obtain⟨x2,r2,o2⟩:=Ls x1 (R 9 1 false [.str [97],.str [98],.str [99]])
 rw[hb1]at r2
 have st2:Dx [] p s1 L1 O1 _ L1 O1 0 0:=Dx.old x1 o2
 generalize ext s1 [R 9 1 false [.str [97],.str [98],.str [99]]]=s2 at x2 r2 o2 st2
 have hS1:L1.S.length=0:=by rw[eS];rfl
 have hF1:L1.F.length=2:=by rw[eF];rfl
 refine uK hE x2 (by omega) (by unfold i64;omega) fun s3 L3 O3 vx k3 f3 tx=>?_
 have st3:=st2.trans k3
 have r3:=r2.step k3
 have nS3:=st3.nS
 simp only[A4u,A4v,A4w,Qb,QS]
 rw[← k3.q]
 have d03:decide ((0:Int)<3)=true:=rfl
 have d13:decide ((1:Int)<3)=true:=rfl
 have d23:decide ((2:Int)<3)=true:=rfl
 have d33:decide ((3:Int)<3)=false:=rfl
 have b1':Ch prog .add 3 (.int .i64 0) (.int .i64 1)=some (iv 1):=Db _ _ 0 1 (by unfold i64;omega)
 have b2':Ch prog .add 3 (.int .i64 1) (.int .i64 1)=some (iv 2):=Db _ _ 1 1 (by unfold i64;omega)
 have b3':Ch prog .add 3 (.int .i64 2) (.int .i64 1)=some (iv 3):=Db _ _ 2 1 (by unfold i64;omega)
 have e0:CQ prog 28 (.slice (some (nid b1 0,0)) 3 (some 3)) (.int .i64 0)=some (.ptr (some (nid b1 0,0+0 * 1))):=Cj (P:=prog) underlying28 A3b (show 0<3 by omega)
 have e1:CQ prog 28 (.slice (some (nid b1 0,0)) 3 (some 3)) (.int .i64 1)=some (.ptr (some (nid b1 0,0+1 * 1))):=Cj (P:=prog) underlying28 A3b (show 1<3 by omega)
 have e2:CQ prog 28 (.slice (some (nid b1 0,0)) 3 (some 3)) (.int .i64 2)=some (.ptr (some (nid b1 0,0+2 * 1))):=Cj (P:=prog) underlying28 A3b (show 2<3 by omega)
 obtain⟨V,hV⟩:∃V,V=Ck.loop TP:=⟨_,rfl⟩
 have w3:MS s3 O3 s3.next (.slice none 0 (some 0)) []:=MS.nil _ _ _
 have hs3g:1<s3.next:=k3.x.glob.2.1
 refine WC.loop' ?_
 rw[← hV]
 have l10:DY (s3.heap.get (nid b1 0)) 0=some (.str [97]):=by rw[r3.get];exact F9 0 rfl
 simp only[TP,Wv,cG,cH,Rz,d03,e0,qZ,A8S,A8V,l10,Y2,Qa,Qb,QS,Wg]
 rw[← A1Q]
 refine em hE k3.x (by omega) (n:=9) (by decide) fun s10 L10 O10 kv0 k10 f10 t10=>?_
 have st10:=st3.trans k10
 have r10:=r3.step k10
 have nS10:=st10.nS
 have nx10:=k10.nx
 have w10:=w3.stp k10
 obtain⟨v11,s11,a11,w11,q11,nx11,z11⟩:=w10.push k10.x kv0 (by simp) (by omega) hs3g
 have st11:Dx [] p s1 L1 O1 s11 L10 O10 _ _:=⟨q11,⟨by have:=st10.nx;omega,fun j hj hn=>by rw[z11 j (by have:=st3.nx;omega)];exact st10.fr.2 j hj hn⟩,st10.gr,st10.S,st10.F,st10.A,st10.q,st10.nF,st10.nS⟩
 have r11:Kp s11 O10 (nid b1 0) (R 9 1 false [.str [97],.str [98],.str [99]]):=⟨(z11 _ r3.lt).trans r10.get,by have:=r10.lt;omega,r10.out⟩
 simp only[Fo,a11,b1',QS,Wg]
 rw[hV,← k10.q]
 refine WC.loop' ?_
 rw[← hV]
 have l13:DY (s11.heap.get (nid b1 0)) 1=some (.str [98]):=by rw[r11.get];exact F9 1 rfl
 simp only[TP,Wv,cG,cH,Rz,d13,e1,qZ,A8S,A8V,l13,Y2,Qa,Qb,QS,Wg]
 rw[← rM]
 refine em hE q11 (by omega) (n:=10) (by decide) fun s13 L13 O13 kv1 k13 f13 t13=>?_
 have st13:=st11.trans k13
 have r13:=r11.step k13
 have nS13:=st13.nS
 have nx13:=k13.nx
 have w13:=w11.stp k13
 obtain⟨v14,s14,a14,w14,q14,nx14,z14⟩:=w13.push k13.x kv1 (by simp) (by omega) hs3g
 have st14:Dx [] p s1 L1 O1 s14 L13 O13 _ _:=⟨q14,⟨by have:=st13.nx;omega,fun j hj hn=>by rw[z14 j (by have:=st3.nx;omega)];exact st13.fr.2 j hj hn⟩,st13.gr,st13.S,st13.F,st13.A,st13.q,st13.nF,st13.nS⟩
 have r14:Kp s14 O13 (nid b1 0) (R 9 1 false [.str [97],.str [98],.str [99]]):=⟨(z14 _ r3.lt).trans r13.get,by have:=r13.lt;omega,r13.out⟩
 simp only[Fo,a14,b2',QS,Wg]
 rw[hV,← k13.q]
 refine WC.loop' ?_
 rw[← hV]
 have l16:DY (s14.heap.get (nid b1 0)) 2=some (.str [99]):=by rw[r14.get];exact F9 2 rfl
 simp only[TP,Wv,cG,cH,Rz,d23,e2,qZ,A8S,A8V,l16,Y2,Qa,Qb,QS,Wg]
 rw[← rN]
 refine em hE q14 (by omega) (n:=11) (by decide) fun s16 L16 O16 kv2 k16 f16 t16=>?_
 have st16:=st14.trans k16
 have r16:=r14.step k16
 have nS16:=st16.nS
 have nx16:=k16.nx
 have w16:=w14.stp k16
 obtain⟨v17,s17,a17,w17,q17,nx17,z17⟩:=w16.push k16.x kv2 (by simp) (by omega) hs3g
 have st17:Dx [] p s1 L1 O1 s17 L16 O16 _ _:=⟨q17,⟨by have:=st16.nx;omega,fun j hj hn=>by rw[z17 j (by have:=st3.nx;omega)];exact st16.fr.2 j hj hn⟩,st16.gr,st16.S,st16.F,st16.A,st16.q,st16.nF,st16.nS⟩
 have r17:Kp s17 O16 (nid b1 0) (R 9 1 false [.str [97],.str [98],.str [99]]):=⟨(z17 _ r3.lt).trans r16.get,by have:=r16.lt;omega,r16.out⟩
 simp only[Fo,a17,b3',QS,Wg]
 rw[hV,← k16.q]
 refine WC.loop' ?_
 simp only[TP,Wv,Rz,d33,Qa,Qb,QS]
 rw[if_pos trivial]
 simp only[wa,wc,Qb,QS]
 have kw:=w17.keep
 simp only[A8i,A8e]at kw
 have hlO:row≠[]→∀j,EQ rv=some j→j<s17.next∧j ∉ O16:=fun h0 j hj=>by
  have h1:=hrs h0 j hj
  have h2:=o1.1
  have h3:=st17.nx
  exact⟨by omega,fun hm=>(st17.gr j hm).elim (fun e=>by have:=hO1 j e;omega) fun e=>by omega⟩
 have hrow17:So s17 rv row:=hrow.fr (W:=O1) ((o1.frO O1).tr (st17.fr.sub fun j hj=>by simpa using hj)) fun h0 j hj hm=>by have:=hO1 j hm;have:=hrs h0 j hj;omega
 have S1016:L10.S <+: L16.S:=k13.S.trans k16.S
 have fF16:L16.F=JP:=by rw[f16,f13,f10,f3,eF]
 have hF16:L16.F.length=2:=by rw[fF16];rfl
 refine gn hE q17 hrow17 hlO kw (t10.pre S1016) (t13.pre k16.S) t16 (by omega) (by omega) (q:=0) ?_ (min row.length 6) 0 s17 L16 O16 vx _ [] _ (by omega) (Dx.refl q17) rfl (tx.pre (k10.S.trans S1016)) (MS.nil _ _ _) rfl (by simp)
 intro S L O tv nv nums y19 k fF ht hnv hnl hnums
 obtain⟨ki,hki⟩:∃ki,ki=key % 3:=⟨_,rfl⟩
 have hki3:ki<3:=by omega
 have cv:∀s',EP prog s' 5 3 (.int .u8 ((key % 3:Nat):Int))=some (iv (ki:Int)):=fun s'=>by rw[W7 (by omega),hki]
 have kwS:=kw.stp k
 obtain⟨ky,hky,tky⟩:∃ky,[kv0,kv1,kv2][ki]? = some ky∧Tn L.S (Dp ki) ky:=by
  have:ki=0∨ki=1∨ki=2:=by omega
  unfold Dp
  rcases this with e | e | e<;>rw[e]
  ·exact⟨kv0,rfl,(t10.pre S1016).pre k.S⟩
  ·exact⟨kv1,rfl,(t13.pre k16.S).pre k.S⟩
  ·exact⟨kv2,rfl,t16.pre k.S⟩
 obtain⟨jk,ok,capk,hkve,hjk,hldk⟩:=kwS.2.1.at hky
 have hjkO:jk ∉ O:=(kwS.2.2 jk (by rw[hkve];rfl)).2
 have ek:=Cj (P:=prog) (cap:=capk) (i:=jk) (o:=ok) underlying30 HC (show ki<[kv0,kv1,kv2].length from hki3)
 rw[← hkve]at ek
 have nS:=k.nS
 have hFL:L.F.length=2:=by rw[fF,fF16];rfl
 simp only[wh,wi,bC,cv,ek,hldk,Ee,A8S,Qb,QS,Wg]
 rw[← k.q]
 refine aa hE k.x (by omega) ht tky fun S20 L20 O20 vs k20 f20 t20=>?_
 have nS20:=k20.nS
 simp only[QS]
 rw[← k20.q]
 refine uK hE k20.x (by omega) (by unfold i64;omega) fun S21 L21 O21 v2 k21 f21 t21=>?_
 have nS21:=k21.nS
 simp only[QS]
 have fF21:L21.F=JP:=by rw[f21,f20,fF,fF16]
 have hF21:L21.F.length=2:=by rw[fF21];rfl
 refine eqP hE k21.x (by omega) (by omega) (t20.pre k21.S) t21 fun S22 L22 O22 v22 k22 eS22 eF22 a22=>?_
 have hne:Tm.sel (DX row (min row.length 6)) (Dp ki)≠.var 2:=fun e=>by cases e
 have hk6:=P0 (S:=L21.S) hne (LC _ _)
 have hfr:(FH L21.S (.sel (DX row (min row.length 6)) (Dp ki)) (.var 2)).key ∉ DP L21.F:=by rw[fF21];exact ak hk6
 obtain⟨fr1,fr2⟩:=nY hfr
 have hv22:v22=(L21.F.length:Int):=by rw[a22.num,eF22];exact fr1
 rw[← eF22,← hv22]at fr2
 obtain⟨ta,tb,hat,hab⟩:=sV (S:=L21.S) hne (LC _ _)
 have hp0:(CP L22.F v22).p0=(ix L21.S ta:Int):=by rw[fr2,ma,hat];rfl
 have hp1:(CP L22.F v22).p1=(ix L21.S tb:Int):=by rw[fr2,mb,hat];rfl
 have hkd:(CP L22.F v22).kind=6:=by rw[a22.kind];exact hk6
 have hkids:(CP L22.F v22).kids=[]:=by rw[fr2,JV,hat];rfl
 have hixk:(IH L22.F (CP L22.F v22).key:Int)=v22:=by rw[a22.key];exact a22.num.symm
 have mem_ab:ta∈L22.S∧tb∈L22.S:=by
  rw[eS22]
  rcases hab with⟨rfl,rfl⟩ | ⟨rfl,rfl⟩
  ·exact⟨(t20.pre k21.S).mem,t21.mem⟩
  ·exact⟨t21.mem,(t20.pre k21.S).mem⟩
 have hta:Tn L22.S ta (CP L22.F v22).p0:=⟨mem_ab.1,by rw[hp0,eS22]⟩
 have htb:Tn L22.S tb (CP L22.F v22).p1:=⟨mem_ab.2,by rw[hp1,eS22]⟩
 generalize hb22:S22.next=b22
 have hs22:S22=ext S22 []:=(Ca S22).symm
 rw[hs22]
 simp only[Fo,hb22,QS,Wg]
 obtain⟨x23,r23,o23⟩:=Ls k22.x (R 3 1 false (Dv [v22]))
 rw[hb22]at r23
 have A0p:Dx [] p s17 L16 O16 _ L22 O22 _ _:=(((k.trans k20).trans k21).trans k22).trans (Dx.old k22.x o23)
 generalize ext S22 [R 3 1 false (Dv [v22])]=S23 at x23 r23 o23 A0p
 have hnS:=A0p.nS
 have hnF:=A0p.nF
 refine eJ hE x23 (by omega) a22.lt (by omega) hkids hixk (by omega) hta htb (Gd r23 rfl _) (fun j hj=>by injection hj with hj;rw[← hj];exact r23.out) ?_
 intro S24 L24 O24 av own N Sn D Kk k24 rav sav hown hN hcmp c0 c1 hD
 simp only[QS]
 have st24:=A0p.trans k24
 have x24:=k24.x
 have stS:=(((k20.trans k21).trans k22).trans (Dx.old k22.x o23)).trans k24
 have st2224:L22.S <+: L24.S:=k24.S
 have up:∀ {b:Nat} {v:AV} {l:List Int},Kj S24 O24 b v l→Kj S24 O24 S24.next v l:=fun h=>⟨A8H _,h.2.1,fun j hj=>⟨by have:=(h.2.2 j hj).1;have:=h.1;omega,(h.2.2 j hj).2⟩⟩
 have kv24:=up (kw.stp st24)
 have ka24:Kj S24 O24 S24.next av (DS own):=⟨A8H _,rav,fun j hj=>⟨by
  rcases rav with⟨_,h⟩ | ⟨j',q,cap,h,hlt,_⟩
  ·rw[h]at hj;cases hj
  ·rw[h]at hj;injection hj with hj;omega,(sav j hj).2⟩⟩
 have ks24:=up (hnv.keep.stp stS)
 have hrow24:So S24 rv row:=hrow17.fr st24.fr fun h0 j hj hm=>(hlO h0 j hj).2 (by simpa using hm)
 have hrs24:row≠[]→∀j,EQ rv=some j→j<S24.next∧j ∉ O24:=fun h0 j hj=>⟨by have:=(hlO h0 j hj).1;have:=st24.nx;omega,st24.out (hlO h0 j hj).1 (hlO h0 j hj).2⟩
 have hselm:Tm.sel (DX row (min row.length 6)) (Dp ki)∈L22.S:=DA (k21.S.trans k22.S) t20.mem
 have sSS:L.S <+: L22.S:=k20.S.trans (k21.S.trans k22.S)
 have hchm:∀j,j≤min row.length 6→DX row j∈L22.S:=fun j hj=>by
  cases j with
  | zero=>exact DA (k10.S.trans (S1016.trans (k.S.trans sSS))) tx.mem
  | succ m =>
   obtain⟨x,_,hx⟩:=hnums m (by omega)
   exact DA sSS hx.mem
 have hKm:Dp ki∈L22.S:=DA sSS tky.mem
 have h0n:(ix L22.S (.sel (DX row (min row.length 6)) (Dp ki)):Int)∈Sn:=by
  rcases hab with⟨rfl,rfl⟩ | ⟨rfl,rfl⟩
  ·rw[← hta.num];exact c0
  ·rw[← htb.num];exact c1
 have hfacts:=gV hki3 x24.two x24.at_.kids x24.rest x24.at_.nots hN k24.S hcmp hselm hchm hKm h0n hD
 obtain⟨hh',e',g1,g2,g3,g4,g5⟩:=Yg hki3 x24.two x24.at_.kids x24.rest x24.at_.nots hN k24.S hcmp hselm hchm hKm h0n hD
 have nF24:=k24.nF
 have nS24:=k24.nS
 have nF22:=A0p.nF
 have nS22:=A0p.nS
 have hln:∀s',D9 prog s' 30 nv=some (iv (nums.length:Int)):=ks24.2.1.len
 have hsub:i64 ((nums.length:Int) - 1):=by unfold i64;omega
 simp only[wj,hln,Pt _ _ _ _ hsub,Qb,QS]
 rw[hnl]
 have tx24:Tn L24.S (.var 1) vx:=tx.pre (k10.S.trans (S1016.trans st24.S))
 rw[show L20.q=L24.q from by rw[k24.q,k22.q,k21.q]]
 refine gO hE hki3 x24 hrow24 hrs24 kv24 ka24 hown ks24 (t10.pre (S1016.trans st24.S)) (t13.pre (k16.S.trans st24.S)) (t16.pre st24.S) (by omega) (by omega) (n:=min row.length 6) ⟨by omega,by omega⟩ hnl (fun j hj=>let ⟨x,h1,h2⟩:=hnums j hj;⟨x,h1,h2.pre stS.S⟩) hfacts ?_ ?_ (min row.length 6) S24 L24 O24 _ _ _ _ _ (A8H _) ((Dx.refl x24).mono (by omega) (by omega))
 ·intro S25 L25 O25 y14 y15 y16 y20 y21 y22 k25
  have nF25:=k25.nF
  have nS25:=k25.nS
  have kv25:=kv24.stp k25
  obtain⟨jk2,ok2,capk2,hkve2,hjk2,hldk2⟩:=kv25.2.1.at hky
  have hjkO2:jk2 ∉ O25:=(kv25.2.2 jk2 (by rw[hkve2];rfl)).2
  have ek2:=Cj (P:=prog) (cap:=capk2) (i:=jk2) (o:=ok2) underlying30 HC (show ki<[kv0,kv1,kv2].length from hki3)
  rw[← hkve2]at ek2
  have tky25:Tn L25.S (Dp ki) ky:=tky.pre (stS.S.trans k25.S)
  simp only[ws,ek2,hldk2,Ee,A8S,bh,Qb,QS,Wg]
  refine VX hE k25.x (by omega) (by omega) (tx24.pre k25.S) tky25 fun S26 L26 O26 hh k26 e26 a26=>?_
  have st26:=k25.trans k26
  have nF26:=st26.nF
  have nS26:=st26.nS
  have eh:hh=hh':=by
   rw[GI k25.S tx24.mem (DA k24.S hKm)]at a26
   exact a26.eq (g1.pre st26.F) rfl
  subst eh
  have lk26:DY (S26.heap.get jk2) (ok2+ki)=some (iv ky):=by rw[k26.keep hjk2 (by simp) hjkO2];exact hldk2
  simp only[lk26,Ee,Cq,Dk,A9U,A9S,QS,Wg]
  rw[show L24.q=L26.q from st26.q.symm]
  refine aa hE k26.x (by omega) ((tx24.pre k25.S).pre k26.S) (tky25.pre k26.S) fun S27 L27 O27 sl k27 f27 t27=>?_
  have st27:=st26.trans k27
  have nF27:=st27.nF
  have nS27:=st27.nS
  simp only[QS]
  rw[← k27.q]
  refine em hE k27.x (by omega) (n:=0) (by decide) fun S28 L28 O28 nl k28 f28 t28=>?_
  have st28:=st27.trans k28
  have nF28:=st28.nF
  have nS28:=st28.nS
  simp only[QS]
  refine A5w hE k28.x (by omega) (by omega) (t27.pre k28.S) t28 fun S29 L29 O29 e k29 e29 a29=>?_
  have st29:=st28.trans k29
  have nF29:=st29.nF
  have nS29:=st29.nS
  have ee:e=e':=by
   rw[F8 st28.S g4 g5]at a29
   exact a29.eq (g2.pre st29.F) rfl
  subst ee
  generalize hb29:S29.next=b29
  have hs29:S29=ext S29 []:=(Ca S29).symm
  rw[hs29]
  simp only[EO,hb29,QS,Wg]
  obtain⟨x30,r30,o30⟩:=Ls k29.x (R 3 1 false (Dv [hh,e]))
  rw[hb29]at r30
  have st30:=st29.trans (Dx.old k29.x o30)
  generalize ext S29 [R 3 1 false (Dv [hh,e])]=S30 at x30 r30 o30 st30
  refine A5x hE (LG.pos x24.two) x24.at_.kids x30 st29.F (by omega) (by omega) g3 r30 fun S31 L31 O31 n31 k31 e31 m31=>?_
  have st31:=st30.trans k31
  simp only[QS]
  refine K3 hE (ka24.stp st31).2.1 (by rw[(EM own).length_eq];exact hown) ?_
  have hin:decide (n31∈DS own)=true:=decide_eq_true (E0.2 m31)
  simp only[hin,QS]
  exact hK _
 ·intro S25 y14 y15 y16 y20 y21 y22
  simp only[QS]
  exact hK _
end
end
end Go.Proofs.YtoaaclpjkelofaaGreatDoor.Am
set_option linter.all false
namespace Go.Proofs.YtoaaclpjkelofaaGreatDoor.Am
open Go Go.Proofs
noncomputable section
open Tryz
def pD:Gl:=Lr tH (Lr (TJ 59 fun xs s=>Vc s xs) (Lr (TJ 85 fun xs s=>KQ s xs) (Lr (TJ 73 fun xs s=>KP s xs) (Lr (TJ 66 fun xs s=>Ml s xs) (Lr (TJ 42 fun xs s=>SH s xs) (TJ 86 fun xs s=>LA s xs))))))
theorem Xr:Du prog pD:=EW dW (EW (GR fun ρ s w xs v s1 xs' hc hi hf ha=>⟨⟨_,_,func59,rfl⟩,Tr hi hc ha⟩) (EW (GR fun ρ s w xs v s1 xs' hc hi hf ha=>⟨⟨_,_,func85,rfl⟩,Ua hi hc ha⟩)
  (EW (GR fun ρ s w xs v s1 xs' hc hi hf ha=>⟨⟨_,_,func73,rfl⟩,UZ hi hc ha⟩) (EW (GR fun ρ s w xs v s1 xs' hc hi hf ha=>⟨⟨_,_,func66,rfl⟩,UN hi hc ha⟩)
   (EW (GR fun ρ s w xs v s1 xs' hc hi hf ha=>Xx hi hf hc ha) (GR fun ρ s w xs v s1 xs' hc hi hf ha=>⟨⟨_,_,func86,rfl⟩,Ts hi hc ha⟩))))))
end
end Go.Proofs.YtoaaclpjkelofaaGreatDoor.Am
set_option linter.all false
set_option maxRecDepth 100000
namespace Go.Proofs.YtoaaclpjkelofaaGreatDoor.Am
open Go Go.Proofs
noncomputable section
open Tryz
def A2t:List AV:=[.bool false,nQ,nQ,nQ,nQ]
def mr:AV×AV:=(.agg [zQ,iQ 1,zQ,zQ,zQ,eQ],zQ)
def mt:AV×AV:=(.agg [zQ,iQ 2,zQ,zQ,zQ,eQ],iQ 1)
def mu:AV×AV:=(.agg [iQ 2,zQ,zQ,zQ,zQ,.str [34,97,34]],iQ 2)
def my:AV×AV:=(.agg [iQ 2,zQ,zQ,zQ,zQ,.str [110,117,108,108]],iQ 3)
def nD:AV×AV:=(.agg [iQ 2,zQ,zQ,zQ,zQ,.str [40,100,105,99,116,41]],iQ 4)
def Zi:AV×AV:=(.agg [zQ,zQ,zQ,zQ,eQ],zQ)
def Zj:AV×AV:=(.agg [iQ 1,zQ,zQ,zQ,eQ],iQ 1)
def Zk:AV×AV:=(.agg [iQ 8,zQ,zQ,iQ 2,eQ],iQ 2)
def NF:List AV:=[zQ,zQ,zQ,zQ,eQ,nQ,.bool false,nQ,nQ,nQ,nQ,iQ 1,.str [116,114,117,101]]
def Iz:List AV:=[iQ 1,zQ,zQ,zQ,eQ,nQ,.bool false,nQ,nQ,nQ,nQ,iQ 1,.str [102,97,108,115,101]]
def Lz:List AV:=[zQ,iQ 1,zQ,zQ,zQ,eQ,zQ,.bool false,eQ,eQ,nQ,nQ,zQ,zQ,iQ 1,.map (some 17)]
def MA:List AV:=[zQ,iQ 2,zQ,zQ,zQ,eQ,zQ,.bool false,eQ,eQ,nQ,nQ,zQ,zQ,iQ 1,.map (some 23)]
def MB:List AV:=[iQ 2,zQ,zQ,zQ,zQ,.str [34,97,34],iQ 3,.bool false,eQ,.str [97],nQ,nQ,zQ,zQ,iQ 1,.map (some 46)]
def MC:List AV:=[iQ 2,zQ,zQ,zQ,zQ,.str [110,117,108,108],zQ,.bool false,eQ,eQ,nQ,nQ,zQ,zQ,iQ 1,.map (some 62)]
def ND:List AV:=[iQ 2,zQ,zQ,zQ,zQ,.str [40,100,105,99,116,41],iQ 4,.bool false,eQ,eQ,nQ,nQ,zQ,zQ,iQ 1,.map (some 80)]
def JW:List AV:=[iQ 8,zQ,zQ,iQ 2,eQ,nQ,.bool false,nQ,nQ,nQ,nQ,iQ 3,.str [40,104,97,115,32,120,49,32,34,97,34,41]]
def cz:AV×AV:=(.agg [iQ 3,zQ,zQ,iQ 2,zQ,eQ],iQ 5)
def TX:AV×AV:=(.agg [iQ 4,zQ,zQ,zQ,.str [50,32]],iQ 3)
def TY:AV×AV:=(.agg [iQ 7,iQ 4,zQ,iQ (-1),eQ],iQ 4)
def TZ:AV×AV:=(.agg [iQ 6,zQ,iQ 5,iQ 3,eQ],iQ 5)
def Ta:AV×AV:=(.agg [iQ 6,zQ,iQ 4,zQ,eQ],iQ 6)
def Tb:AV×AV:=(.agg [iQ 4,zQ,zQ,zQ,.str [54,32]],iQ 7)
def Tc:AV×AV:=(.agg [iQ 3,zQ,zQ,zQ,.str [51,32,52,32]],iQ 8)
def Td:AV×AV:=(.agg [iQ 3,zQ,zQ,zQ,.str [50,32,53,32]],iQ 9)
def Te:AV×AV:=(.agg [iQ 3,zQ,zQ,zQ,.str [51,32,55,32]],iQ 10)
def RA:List AV:=[iQ 3,zQ,zQ,iQ 2,zQ,eQ,zQ,.bool false,eQ,eQ,nQ,nQ,zQ,iQ 2,iQ 3,.map (some 1043)]
def KW:List AV:=[iQ 4,zQ,zQ,zQ,.str [50,32],.slice (some (1003,0)) 1 (some 1),.bool false,nQ,nQ,nQ,nQ,iQ 4,.str [40,110,111,116,32,40,104,97,115,32,120,49,32,34,97,34,41,41]]
def KX:List AV:=[iQ 7,iQ 4,zQ,iQ (-1),eQ,nQ,.bool false,nQ,nQ,nQ,nQ,iQ 2,.str [40,100,105,99,116,63,32,120,49,41]]
def KY:List AV:=[iQ 6,zQ,iQ 5,iQ 3,eQ,nQ,.bool false,nQ,nQ,nQ,nQ,iQ 5,.str [40,61,32,40,103,101,116,32,120,49,32,34,97,34,41,32,110,117,108,108,41]]
def KZ:List AV:=[iQ 6,zQ,iQ 4,zQ,eQ,nQ,.bool false,nQ,nQ,nQ,nQ,iQ 3,.str [40,61,32,40,100,105,99,116,41,32,120,49,41]]
def Ka:List AV:=[iQ 4,zQ,zQ,zQ,.str [54,32],.slice (some (1112,0)) 1 (some 1),.bool false,nQ,nQ,nQ,nQ,iQ 4,.str [40,110,111,116,32,40,61,32,40,100,105,99,116,41,32,120,49,41,41]]
def Kb:List AV:=[iQ 3,zQ,zQ,zQ,.str [51,32,52,32],vQ 1154 2,.bool false,nQ,nQ,nQ,nQ,iQ 7,.str [40,111,114,32,40,100,105,99,116,63,32,120,49,41,32,40,110,111,116,32,40,104,97,115,32,120,49,32,34,97,34,41,41,41]]
def Kc:List AV:=[iQ 3,zQ,zQ,zQ,.str [50,32,53,32],vQ 1210 2,.bool false,nQ,nQ,nQ,nQ,iQ 9,.str [40,111,114,32,40,61,32,40,103,101,116,32,120,49,32,34,97,34,41,32,110,117,108,108,41,32,40,104,97,115,32,120,49,32,34,97,34,41,41]]
def Kz:List AV:=[iQ 3,zQ,zQ,zQ,.str [51,32,55,32],vQ 1244 2,.bool false,nQ,nQ,nQ,nQ,iQ 9,.str [40,111,114,32,40,110,111,116,32,40,61,32,40,100,105,99,116,41,32,120,49,41,41,32,40,110,111,116,32,40,104,97,115,32,120,49,32,34,97,34,41,41,41]]
def mw:AV×AV:=(.agg [iQ 3,zQ,iQ 4,iQ 2,zQ,eQ],iQ 6)
def XC:AV×AV:=(.agg [iQ 6,zQ,iQ 6,zQ,eQ],iQ 11)
def XD:List AV:=[iQ 3,zQ,iQ 4,iQ 2,zQ,eQ,zQ,.bool false,eQ,eQ,nQ,nQ,zQ,iQ 2,iQ 3,.map (some 1263)]
def NE:List AV:=[iQ 6,zQ,iQ 6,zQ,eQ,nQ,.bool false,nQ,nQ,nQ,nQ,iQ 5,.str [40,61,32,40,103,101,116,32,40,100,105,99,116,41,32,34,97,34,41,32,120,49,41]]
def dA:AV×AV:=(.agg [iQ 6,zQ,iQ 6,iQ 3,eQ],iQ 12)
def RC:List AV:=[iQ 6,zQ,iQ 6,iQ 3,eQ,nQ,.bool false,nQ,nQ,nQ,nQ,iQ 5,.str [40,61,32,40,103,101,116,32,40,100,105,99,116,41,32,34,97,34,41,32,110,117,108,108,41]]
def zy:AV×AV:=(.agg [iQ 4,zQ,zQ,iQ 2,iQ 1,eQ],iQ 7)
def A5d:List AV:=[vQ 2404 8,.map (some 0)]
def mz:AV×AV:=(.agg [iQ 6,zQ,iQ 7,zQ,eQ],iQ 13)
def A5e:List AV:=[pQ 1,vQ 2451 14,.map (some 2),nQ,.map (some 3)]
def nC:List AV:=[iQ 4,zQ,zQ,iQ 2,iQ 1,eQ,zQ,.bool false,eQ,eQ,nQ,nQ,zQ,iQ 3,iQ 4,.map (some 2401)]
def XE:List AV:=[iQ 6,zQ,iQ 7,zQ,eQ,nQ,.bool false,nQ,nQ,nQ,nQ,iQ 6,.str [40,61,32,40,115,101,116,32,120,49,32,34,97,34,32,120,50,41,32,120,49,41]]
def A5f:AV×AV:=(.agg [iQ 3,zQ,iQ 7,iQ 2,zQ,eQ],iQ 8)
def A5g:List AV:=[vQ 3679 9,.map (some 0)]
def zz:AV×AV:=(.agg [iQ 8,zQ,iQ 7,iQ 2,eQ],iQ 14)
def z6:AV×AV:=(.agg [iQ 4,zQ,zQ,zQ,.str [49,52,32]],iQ 15)
def A0A:AV×AV:=(.agg [iQ 7,iQ 4,iQ 7,iQ (-1),eQ],iQ 16)
def A0B:AV×AV:=(.agg [iQ 6,zQ,iQ 8,iQ 3,eQ],iQ 17)
def A0C:AV×AV:=(.agg [iQ 6,zQ,iQ 4,iQ 7,eQ],iQ 18)
def A0D:AV×AV:=(.agg [iQ 4,zQ,zQ,zQ,.str [49,56,32]],iQ 19)
def A5h:List AV:=[iQ 3,zQ,iQ 7,iQ 2,zQ,eQ,zQ,.bool false,eQ,eQ,nQ,nQ,zQ,iQ 2,iQ 6,.map (some 3676)]
def dB:List AV:=[iQ 8,zQ,iQ 7,iQ 2,eQ,nQ,.bool false,nQ,nQ,nQ,nQ,iQ 6,.str [40,104,97,115,32,40,115,101,116,32,120,49,32,34,97,34,32,120,50,41,32,34,97,34,41]]
def dC:List AV:=[iQ 4,zQ,zQ,zQ,.str [49,52,32],.slice (some (3623,0)) 1 (some 1),.bool false,nQ,nQ,nQ,nQ,iQ 7,.str [40,110,111,116,32,40,104,97,115,32,40,115,101,116,32,120,49,32,34,97,34,32,120,50,41,32,34,97,34,41,41]]
def dD:List AV:=[iQ 7,iQ 4,iQ 7,iQ (-1),eQ,nQ,.bool false,nQ,nQ,nQ,nQ,iQ 5,.str [40,100,105,99,116,63,32,40,115,101,116,32,120,49,32,34,97,34,32,120,50,41,41]]
def dE:List AV:=[iQ 6,zQ,iQ 8,iQ 3,eQ,nQ,.bool false,nQ,nQ,nQ,nQ,iQ 8,.str [40,61,32,40,103,101,116,32,40,115,101,116,32,120,49,32,34,97,34,32,120,50,41,32,34,97,34,41,32,110,117,108,108,41]]
def dF:List AV:=[iQ 6,zQ,iQ 4,iQ 7,eQ,nQ,.bool false,nQ,nQ,nQ,nQ,iQ 6,.str [40,61,32,40,100,105,99,116,41,32,40,115,101,116,32,120,49,32,34,97,34,32,120,50,41,41]]
def nE:List AV:=[iQ 4,zQ,zQ,zQ,.str [49,56,32],.slice (some (3797,0)) 1 (some 1),.bool false,nQ,nQ,nQ,nQ,iQ 7,.str [40,110,111,116,32,40,61,32,40,100,105,99,116,41,32,40,115,101,116,32,120,49,32,34,97,34,32,120,50,41,41,41]]
def A0E:List AV:=[iQ 3,zQ,zQ,zQ,.str [49,53,32,49,54,32],vQ 3844 2,.bool false,nQ,nQ,nQ,nQ,iQ 13,.str [40,111,114,32,40,100,105,99,116,63,32,40,115,101,116,32,120,49,32,34,97,34,32,120,50,41,41,32,40,110,111,116,32,40,104,97,115,32,40,115,101,116,32,120,49,32,34,97,34,32,120,50,41,32,34,97,34,41,41,41]]
def A0F:List AV:=[iQ 3,zQ,zQ,zQ,.str [49,52,32,49,55,32],vQ 3900 2,.bool false,nQ,nQ,nQ,nQ,iQ 15,.str [40,111,114,32,40,61,32,40,103,101,116,32,40,115,101,116,32,120,49,32,34,97,34,32,120,50,41,32,34,97,34,41,32,110,117,108,108,41,32,40,104,97,115,32,40,115,101,116,32,120,49,32,34,97,34,32,120,50,41,32,34,97,34,41,41]]
def A0G:List AV:=[iQ 3,zQ,zQ,zQ,.str [49,53,32,49,57,32],vQ 3934 2,.bool false,nQ,nQ,nQ,nQ,iQ 15,.str [40,111,114,32,40,110,111,116,32,40,61,32,40,100,105,99,116,41,32,40,115,101,116,32,120,49,32,34,97,34,32,120,50,41,41,41,32,40,110,111,116,32,40,104,97,115,32,40,115,101,116,32,120,49,32,34,97,34,32,120,50,41,32,34,97,34,41,41,41]]
def A0H:List AV:=[iQ 4,zQ,zQ,zQ,.str [52,32],.slice (some (4037,0)) 1 (some 1),.bool false,nQ,nQ,nQ,nQ,iQ 3,.str [40,110,111,116,32,40,100,105,99,116,63,32,120,49,41,41]]
def A0I:List AV:=[iQ 6,zQ,iQ 8,iQ 1,eQ,nQ,.bool false,nQ,nQ,nQ,nQ,iQ 8,.str [40,61,32,40,103,101,116,32,40,115,101,116,32,120,49,32,34,97,34,32,120,50,41,32,34,97,34,41,32,120,50,41]]
def A0J:List AV:=[iQ 6,zQ,iQ 8,iQ 5,eQ,nQ,.bool false,nQ,nQ,nQ,nQ,iQ 10,.str [40,61,32,40,103,101,116,32,40,115,101,116,32,120,49,32,34,97,34,32,120,50,41,32,34,97,34,41,32,40,103,101,116,32,120,49,32,34,97,34,41,41]]
def A0K:List AV:=[iQ 3,zQ,zQ,zQ,.str [52,32,49,51,32],vQ 4377 2,.bool false,nQ,nQ,nQ,nQ,iQ 9,.str [40,111,114,32,40,61,32,40,115,101,116,32,120,49,32,34,97,34,32,120,50,41,32,120,49,41,32,40,100,105,99,116,63,32,120,49,41,41]]
def A0L:List AV:=[iQ 3,zQ,zQ,zQ,.str [49,54,32,50,51,32],vQ 4432 2,.bool false,nQ,nQ,nQ,nQ,iQ 9,.str [40,111,114,32,40,100,105,99,116,63,32,40,115,101,116,32,120,49,32,34,97,34,32,120,50,41,41,32,40,110,111,116,32,40,100,105,99,116,63,32,120,49,41,41,41]]
def A0M:List AV:=[iQ 3,zQ,zQ,zQ,.str [50,51,32,50,52,32],vQ 4467 2,.bool false,nQ,nQ,nQ,nQ,iQ 12,.str [40,111,114,32,40,61,32,40,103,101,116,32,40,115,101,116,32,120,49,32,34,97,34,32,120,50,41,32,34,97,34,41,32,120,50,41,32,40,110,111,116,32,40,100,105,99,116,63,32,120,49,41,41,41]]
def A5i:Nat×Cg:=(930,rQ 185 1 1 true [.int .u32 (1)])
def sJ:Nat×Cg:=(3,.map 94 [])
def sK:Nat×Cg:=(17,.map 3 [(iQ 1,iQ 1)])
def sL:Nat×Cg:=(23,.map 3 [(iQ 2,iQ 1)])
def sM:Nat×Cg:=(46,.map 3 [])
def sN:Nat×Cg:=(62,.map 3 [])
def sO:Nat×Cg:=(80,.map 3 [])
def sP:Nat×Cg:=(1003,rQ 3 1 1 false [iQ 2])
def sQ:Nat×Cg:=(1043,.map 3 [(iQ 1,iQ 1)])
def sR:Nat×Cg:=(1112,rQ 3 1 1 false [iQ 6])
def dG:Nat×Cg:=(1154,rQ 3 1 2 true [iQ 3,iQ 4])
def dH:Nat×Cg:=(1210,rQ 3 1 2 true [iQ 2,iQ 5])
def dI:Nat×Cg:=(1244,rQ 3 1 2 true [iQ 3,iQ 7])
def A0N:Nat×Cg:=(2133,rQ 185 1 1 true [.int .u32 (1)])
def nG:Nat×Cg:=(1263,.map 3 [])
def A0O:Nat×Cg:=(3279,rQ 185 1 1 true [.int .u32 (1)])
def A0P:Nat×Cg:=(0,.map 53 [mr,mt,mu,my,nD,cz,mw,zy])
def A0Q:Nat×Cg:=(1,rQ 100 0 2 false A5d)
def A0R:Nat×Cg:=(2,.map 76 [Zi,Zj,Zk,TX,TY,TZ,Ta,Tb,Tc,Td,Te,XC,dA,mz])
def A0S:Nat×Cg:=(4,rQ 49 0 5 false A5e)
def A0T:Nat×Cg:=(1266,.row ⟨71,16,112,CT.fill .leaf 0 (Lz++(MA++(MB++(MC++(ND++(RA++(XD))))))),true,.sealed,none,true,none⟩)
def A0U:Nat×Cg:=(2277,.row ⟨86,13,169,CT.fill .leaf 0 (NF++(Iz++(JW++(KW++(KX++(KY++(KZ++(Ka++(Kb++(Kc++(Kz++(NE++(RC))))))))))))),true,.sealed,none,true,none⟩)
def A0V:Nat×Cg:=(2401,.map 3 [(iQ 1,iQ 1),(iQ 2,iQ 1)])
def A0W:Nat×Cg:=(2404,.row ⟨71,16,128,CT.fill .leaf 0 (Lz++(MA++(MB++(MC++(ND++(RA++(XD++(nC)))))))),true,.own,(some 1266),true,none⟩)
def A0X:Nat×Cg:=(2451,.row ⟨86,13,182,CT.fill .leaf 0 (NF++(Iz++(JW++(KW++(KX++(KY++(KZ++(Ka++(Kb++(Kc++(Kz++(NE++(RC++(XE)))))))))))))),true,.own,(some 2277),true,none⟩)
def A0Y:Nat×Cg:=(0,.map 53 [mr,mt,mu,my,nD,cz,mw,zy,A5f])
def A0Z:Nat×Cg:=(1,rQ 100 0 2 false A5g)
def A0a:Nat×Cg:=(2404,.row ⟨71,16,128,CT.fill .leaf 0 (Lz++(MA++(MB++(MC++(ND++(RA++(XD++(nC)))))))),true,.sealed,none,true,none⟩)
def A0b:Nat×Cg:=(3623,rQ 3 1 1 false [iQ 14])
def A0c:Nat×Cg:=(3676,.map 3 [(iQ 1,iQ 1),(iQ 2,iQ 1)])
def A0d:Nat×Cg:=(3679,.row ⟨71,16,144,CT.fill .leaf 0 (Lz++(MA++(MB++(MC++(ND++(RA++(XD++(nC++(A5h))))))))),true,.own,(some 2404),true,none⟩)
def A0e:Nat×Cg:=(3797,rQ 3 1 1 false [iQ 18])
def A2j:Gl:=pD
def A7t:HG:=⟨162,[.agg [.bool false,nQ,vQ 177 1],.agg [.bool false,nQ,vQ 395 1]],399,[(177,rQ 185 1 1 true [.int .u32 (1)]),(395,rQ 185 1 1 true [.int .u32 (1)])],.agg [.bool false,nQ,vQ 930 1],934,[A5i],[]⟩
def A2k:Gl:=Lr A7t.at A2j
def A7u:HG:=⟨104,[.slice (some (134,0)) 1 (some 1)],135,[(134,rQ 84 5 5 false A2t)],.agg [.bool false,nQ,vQ 930 1,nQ,nQ],940,[A5i],[]⟩
def A2l:Gl:=Lr A7u.at A2k
def A7v:HG:=⟨11,[pQ 4,.slice (some (103,0)) 1 (some 1)],104,[(0,.map 53 [mr,mt,mu,my,nD]),(1,rQ 100 0 2 false [vQ 83 5,.map (some 0)]),(2,.map 76 [Zi,Zj,Zk]),sJ,(4,rQ 49 0 5 false [pQ 1,vQ 102 3,.map (some 2),nQ,.map (some 3)]),(14,.row ⟨86,13,26,CT.fill .leaf 0 (NF++(Iz)),true,.sealed,none,true,none⟩),sK,sL,sM,sN,(65,.row ⟨71,16,64,CT.fill .leaf 0 (Lz++(MA++(MB++(MC)))),true,.sealed,none,true,none⟩),sO,(83,.row ⟨71,16,80,CT.fill .leaf 0 (Lz++(MA++(MB++(MC++(ND))))),true,.own,(some 65),true,none⟩),(102,.row ⟨86,13,39,CT.fill .leaf 0 (NF++(Iz++(JW))),true,.own,(some 14),true,none⟩),(103,rQ 3 1 1 false [iQ 2])],vQ 1257 3,1258,[(0,.map 53 [mr,mt,mu,my,nD,cz]),(1,rQ 100 0 2 false [vQ 1046 6,.map (some 0)]),(2,.map 76 [Zi,Zj,Zk,TX,TY,TZ,Ta,Tb,Tc,Td,Te]),(4,rQ 49 0 5 false [pQ 1,vQ 1253 11,.map (some 2),nQ,.map (some 3)]),(83,.row ⟨71,16,80,CT.fill .leaf 0 (Lz++(MA++(MB++(MC++(ND))))),true,.sealed,none,true,none⟩),sP,sQ,(1046,.row ⟨71,16,96,CT.fill .leaf 0 (Lz++(MA++(MB++(MC++(ND++(RA)))))),true,.own,(some 83),true,none⟩),sR,dG,dH,(1219,.row ⟨86,13,130,CT.fill .leaf 0 (NF++(Iz++(JW++(KW++(KX++(KY++(KZ++(Ka++(Kb++(Kc)))))))))),true,.sealed,none,true,none⟩),dI,(1253,.row ⟨86,13,143,CT.fill .leaf 0 (NF++(Iz++(JW++(KW++(KX++(KY++(KZ++(Ka++(Kb++(Kc++(Kz))))))))))),true,.own,(some 1219),true,none⟩),(1257,rQ 3 1 3 true [iQ 8,iQ 9,iQ 10])],[14,65,102]⟩
def A2m:Gl:=Lr A7v.at A2l
def A7w:HG:=⟨162,[.agg [.bool false,nQ,vQ 1380 1],.agg [.bool false,nQ,vQ 1598 1]],1602,[(1380,rQ 185 1 1 true [.int .u32 (1)]),(1598,rQ 185 1 1 true [.int .u32 (1)])],.agg [.bool false,nQ,vQ 2133 1],2137,[A0N],[]⟩
def A2n:Gl:=Lr A7w.at A2m
def A7x:HG:=⟨104,[.slice (some (1337,0)) 1 (some 1)],1338,[(1337,rQ 84 5 5 false A2t)],.agg [.bool false,nQ,vQ 2133 1,nQ,nQ],2143,[A0N],[]⟩
def A2o:Gl:=Lr A7x.at A2n
def A7y:HG:=⟨11,[pQ 4,.slice (some (1306,0)) 1 (some 1)],1307,[(0,.map 53 [mr,mt,mu,my,nD,cz,mw]),(1,rQ 100 0 2 false [vQ 1266 7,.map (some 0)]),(2,.map 76 [Zi,Zj,Zk,TX,TY,TZ,Ta,Tb,Tc,Td,Te,XC]),sJ,(4,rQ 49 0 5 false [pQ 1,vQ 1305 12,.map (some 2),nQ,.map (some 3)]),sK,sL,sM,sN,sO,sP,sQ,(1046,.row ⟨71,16,96,CT.fill .leaf 0 (Lz++(MA++(MB++(MC++(ND++(RA)))))),true,.sealed,none,true,none⟩),sR,dG,dH,dI,(1253,.row ⟨86,13,143,CT.fill .leaf 0 (NF++(Iz++(JW++(KW++(KX++(KY++(KZ++(Ka++(Kb++(Kc++(Kz))))))))))),true,.sealed,none,true,none⟩),nG,(1266,.row ⟨71,16,112,CT.fill .leaf 0 (Lz++(MA++(MB++(MC++(ND++(RA++(XD))))))),true,.own,(some 1046),true,none⟩),(1305,.row ⟨86,13,156,CT.fill .leaf 0 (NF++(Iz++(JW++(KW++(KX++(KY++(KZ++(Ka++(Kb++(Kc++(Kz++(NE)))))))))))),true,.own,(some 1253),true,none⟩),(1306,rQ 3 1 1 false [iQ 11])],vQ 2395 1,2396,[(2,.map 76 [Zi,Zj,Zk,TX,TY,TZ,Ta,Tb,Tc,Td,Te,XC,dA]),(4,rQ 49 0 5 false [pQ 1,vQ 2277 13,.map (some 2),nQ,.map (some 3)]),(1305,.row ⟨86,13,156,CT.fill .leaf 0 (NF++(Iz++(JW++(KW++(KX++(KY++(KZ++(Ka++(Kb++(Kc++(Kz++(NE)))))))))))),true,.sealed,none,true,none⟩),(2277,.row ⟨86,13,169,CT.fill .leaf 0 (NF++(Iz++(JW++(KW++(KX++(KY++(KZ++(Ka++(Kb++(Kc++(Kz++(NE++(RC))))))))))))),true,.own,(some 1305),true,none⟩),(2395,rQ 3 1 1 true [iQ 12])],[1253]⟩
def A2p:Gl:=Lr A7y.at A2o
def A7z:HG:=⟨162,[.agg [.bool false,nQ,vQ 2526 1],.agg [.bool false,nQ,vQ 2744 1]],2748,[(2526,rQ 185 1 1 true [.int .u32 (1)]),(2744,rQ 185 1 1 true [.int .u32 (1)])],.agg [.bool false,nQ,vQ 3279 1],3283,[A0O],[]⟩
def A2q:Gl:=Lr A7z.at A2p
def A8A:HG:=⟨104,[.slice (some (2483,0)) 1 (some 1)],2484,[(2483,rQ 84 5 5 false A2t)],.agg [.bool false,nQ,vQ 3279 1,nQ,nQ],3289,[A0O],[]⟩
def A2r:Gl:=Lr A8A.at A2q
def A8B:HG:=⟨68,[pQ 2459,iQ 7,iQ 2],3561,[A0P,A0Q,A0R,sJ,A0S,sK,sL,sM,sN,sO,sP,sQ,sR,dG,dH,dI,nG,A0T,A0U,A0V,A0W,A0X,(2456,.map 3 [(zQ,.agg []),(iQ 7,.agg [])]),(2457,.map 3 [(iQ 2,.agg [])]),(2458,.map 3 [(iQ 7,.agg []),(zQ,.agg []),(iQ 2,.agg []),(iQ 1,.agg [])]),(2459,rQ 117 0 4 false [pQ 4,.map (some 2456),.map (some 2457),.map (some 2458)])],.func 132 [] [pQ 3811],3812,[A0Y,A0Z,(2,.map 76 [Zi,Zj,Zk,TX,TY,TZ,Ta,Tb,Tc,Td,Te,XC,dA,mz,zz,z6,A0A,A0B,A0C,A0D]),(4,rQ 49 0 5 false [pQ 1,vQ 3801 20,.map (some 2),nQ,.map (some 3)]),A0a,A0b,(3655,rQ 3 1 2 false [iQ 15,iQ 16]),(3670,rQ 3 1 2 false [iQ 15,zQ]),A0c,A0d,(3745,rQ 3 1 2 false [iQ 14,iQ 17]),(3792,.row ⟨86,13,247,CT.fill .leaf 0 (NF++(Iz++(JW++(KW++(KX++(KY++(KZ++(Ka++(Kb++(Kc++(Kz++(NE++(RC++(XE++(dB++(dC++(dD++(dE++(dF))))))))))))))))))),true,.sealed,none,true,none⟩),A0e,(3801,.row ⟨86,13,260,CT.fill .leaf 0 (NF++(Iz++(JW++(KW++(KX++(KY++(KZ++(Ka++(Kb++(Kc++(Kz++(NE++(RC++(XE++(dB++(dC++(dD++(dE++(dF++(nE)))))))))))))))))))),true,.own,(some 3792),true,none⟩),(3809,rQ 3 1 2 false [iQ 19,iQ 15]),(3810,rQ 30 1 4 false [.slice (some (3655,0)) 2 (some 2),.slice (some (3670,0)) 2 (some 2),.slice (some (3745,0)) 2 (some 2),.slice (some (3809,0)) 2 (some 2)]),(3811,rQ 155 0 1 false [.slice (some (3810,0)) 4 (some 4)])],[1266,2277,2451]⟩
def A2s:Gl:=Lr A8B.at A2r
def A8C:HG:=⟨11,[pQ 4,.slice (some (2452,0)) 1 (some 1)],2453,[A0P,A0Q,A0R,sJ,A0S,sK,sL,sM,sN,sO,sP,sQ,sR,dG,dH,dI,nG,A0T,A0U,A0V,A0W,A0X,(2452,rQ 3 1 1 false [iQ 13])],vQ 4578 10,4579,[A0Y,A0Z,(2,.map 76 [Zi,Zj,Zk,TX,TY,TZ,Ta,Tb,Tc,Td,Te,XC,dA,mz,zz,z6,A0A,A0B,A0C,A0D,(.agg [iQ 3,zQ,zQ,zQ,.str [49,53,32,49,54,32]],iQ 20),(.agg [iQ 3,zQ,zQ,zQ,.str [49,52,32,49,55,32]],iQ 21),(.agg [iQ 3,zQ,zQ,zQ,.str [49,53,32,49,57,32]],iQ 22),(.agg [iQ 4,zQ,zQ,zQ,.str [52,32]],iQ 23),(.agg [iQ 6,zQ,iQ 8,iQ 1,eQ],iQ 24),(.agg [iQ 6,zQ,iQ 8,iQ 5,eQ],iQ 25),(.agg [iQ 3,zQ,zQ,zQ,.str [52,32,49,51,32]],iQ 26),(.agg [iQ 3,zQ,zQ,zQ,.str [49,54,32,50,51,32]],iQ 27),(.agg [iQ 3,zQ,zQ,zQ,.str [50,51,32,50,52,32]],iQ 28),(.agg [iQ 3,zQ,zQ,zQ,.str [49,52,32,50,51,32]],iQ 29)]),(4,rQ 49 0 5 false [pQ 1,vQ 4511 30,.map (some 2),nQ,.map (some 3)]),A0a,A0b,A0c,A0d,A0e,(3844,rQ 3 1 2 true [iQ 15,iQ 16]),(3900,rQ 3 1 2 true [iQ 14,iQ 17]),(3934,rQ 3 1 2 true [iQ 15,iQ 19]),(4037,rQ 3 1 1 false [iQ 4]),(4377,rQ 3 1 2 true [iQ 4,iQ 13]),(4432,rQ 3 1 2 true [iQ 16,iQ 23]),(4467,rQ 3 1 2 true [iQ 23,iQ 24]),(4476,.row ⟨86,13,377,CT.fill .leaf 0 (NF++(Iz++(JW++(KW++(KX++(KY++(KZ++(Ka++(Kb++(Kc++(Kz++(NE++(RC++(XE++(dB++(dC++(dD++(dE++(dF++(nE++(A0E++(A0F++(A0G++(A0H++(A0I++(A0J++(A0K++(A0L++(A0M))))))))))))))))))))))))))))),true,.sealed,none,true,none⟩),(4502,rQ 3 1 2 true [iQ 14,iQ 23]),(4511,.row ⟨86,13,390,CT.fill .leaf 0 (NF++(Iz++(JW++(KW++(KX++(KY++(KZ++(Ka++(Kb++(Kc++(Kz++(NE++(RC++(XE++(dB++(dC++(dD++(dE++(dF++(nE++(A0E++(A0F++(A0G++(A0H++(A0I++(A0J++(A0K++(A0L++(A0M++([iQ 3,zQ,zQ,zQ,.str [49,52,32,50,51,32],vQ 4502 2,.bool false,nQ,nQ,nQ,nQ,iQ 10,.str [40,111,114,32,40,104,97,115,32,40,115,101,116,32,120,49,32,34,97,34,32,120,50,41,32,34,97,34,41,32,40,110,111,116,32,40,100,105,99,116,63,32,120,49,41,41,41]])))))))))))))))))))))))))))))),true,.own,(some 4476),true,none⟩),(4578,rQ 3 1 10 true [iQ 8,iQ 9,iQ 10,iQ 20,iQ 21,iQ 22,iQ 26,iQ 27,iQ 28,iQ 29])],[1266,2277,2451]⟩
def zx:Gl:=Lr A8C.at A2s
end
end Go.Proofs.YtoaaclpjkelofaaGreatDoor.Am
