/- A row of clauses that grows; conditions: none. -/
import Derived.Test.YtoaaclpjkelofaaGreatDoorAmM10
import Derived.Test.YtoaaclpjkelofaaGreatDoorAmM05
set_option linter.all false
set_option maxRecDepth 20000
namespace Go.Proofs.YtoaaclpjkelofaaGreatDoor.Am
open Go Go.Proofs
noncomputable section
open Tryz
structure Ir(S:CO)(X:List Nat)(b0 lo hi:Nat)(v:AV)(C:List (List Int)):Prop where
 ex:∃cs OD,OF 30 S v C.length 1 cs OD∧(∀j∈OD,j<S.next∧j ∉ X∧lo≤j∧j<hi)∧(∀j,EQ v=some j→j<S.next∧j ∉ X∧b0≤j)∧C3 cs=true∧∀ (i:Nat) (c:List Int),C[i]? = some c→∃j cap,cs[i]? = some (.slice (some (j,0)) c.length cap)∧Kp S X j (R 3 1 false (Dv c))∧j ∉ OD∧b0≤j
theorem Ir.fr{S S':CO}{X X':List Nat}{b0 lo hi:Nat}{v:AV}{C:List (List Int)}(h:Ir S X b0 lo hi v C)(f:Eb X S S')(g:DR X X' S):Ir S' X' b0 lo hi v C:=by
 obtain⟨cs,OD,h1,h2,h3,h4,h5⟩:=h.ex
 have hout:∀j,j<S.next→j ∉ X→j ∉ X':=fun j hj hx hm=>(g j hm).elim hx fun e=>by omega
 refine⟨cs,OD,h1.frame f.1 fun j hj=>f.2 j (h3 j hj).1 (h3 j hj).2.1,fun j hj=>⟨A8L (h2 j hj).1 f.1,hout j (h2 j hj).1 (h2 j hj).2.1,(h2 j hj).2.2⟩,fun j hj=>⟨A8L (h3 j hj).1 f.1,hout j (h3 j hj).1 (h3 j hj).2.1,(h3 j hj).2.2⟩,h4,fun i c hi=>?_⟩
 obtain⟨j,cap,k1,k2,k3⟩:=h5 i c hi
 exact⟨j,cap,k1,k2.fr f g,k3⟩
theorem Ir.stp{W:List Nat}{p:Nat}{S S':CO}{L L':LG}{O O':List Nat}{n m b0 lo hi:Nat}{v:AV}{C:List (List Int)}(h:Ir S (W++O) b0 lo hi v C)(k:Dx W p S L O S' L' O' n m):Ir S' (W++O') b0 lo hi v C:=h.fr k.fr k.grW
theorem Ir.len{S:CO}{X:List Nat}{b0 lo hi:Nat}{v:AV}{C:List (List Int)}(h:Ir S X b0 lo hi v C)(s:CO):D9 prog s 155 v=some (iv (C.length:Int)):=by
 obtain⟨cs,OD,h1,_⟩:=h.ex
 obtain⟨a,cap,rfl,_⟩:=h1.cells
 exact DQ underlying155
theorem Ir.at{S:CO}{X:List Nat}{b0 lo hi:Nat}{v:AV}{C:List (List Int)}(h:Ir S X b0 lo hi v C){i:Nat}{c:List Int}(hi:C[i]? = some c):∃r o cap cv,v=.slice (some (r,o)) C.length cap∧DY (S.heap.get r) (o+i)=some cv∧Cl S cv c∧∀j,EQ cv=some j→j ∉ X:=by
 obtain⟨cs,OD,h1,h2,h3,h4,h5⟩:=h.ex
 obtain⟨j,cap,k1,k2,_⟩:=h5 i c hi
 obtain⟨a,cp,rfl,hc⟩:=h1.cells
 obtain⟨r,o,rfl,hr,hl⟩:=hc i _ k1
 rw[Lb]at hl
 exact⟨r,o,cp,_,rfl,hl,Gd k2 rfl cap,fun j' hj'=>by injection hj' with hj';rw[← hj'];exact k2.out⟩
theorem uR:FU prog 30 1=true:=by kernel_rfl
theorem qS:EE prog 155=true:=by kernel_rfl
theorem Ir.push{S:CO}{X:List Nat}{b0 lo hi:Nat}{v:AV}{C:List (List Int)}(h:Ir S X b0 lo hi v C){q i1 i2 i3:Nat}{l1 l2 l3:List Int}{n1 n2 n3:Nat}{c1 c2 c3:Option Nat}(hq:Kp S X q (R 30 1 false [.slice (some (i1,0)) n1 c1,.slice (some (i2,0)) n2 c2,.slice (some (i3,0)) n3 c3]))
    (h1:Kp S X i1 (R 3 1 false (Dv l1))) (h2:Kp S X i2 (R 3 1 false (Dv l2))) (h3:Kp S X i3 (R 3 1 false (Dv l3))) (e1:n1=l1.length) (e2:n2=l2.length) (e3:n3=l3.length) (hC:C.length≤100000) (hX:∀j∈X,j<S.next)
    (hi1:hi≤i1∧hi≤i2∧hi≤i3∧hi≤S.next) (hlo:lo≤S.next) (hb0:b0≤hi):
    ∃v' S',DE prog S [155,155] [v,.slice (some (q,0)) 3 (some 3)]=some (v',S')∧Ir S' X b0 lo S'.next v' (C++[l1,l2,l3])∧S.next≤S'.next∧∀j,j<S.next→(j<lo∨hi≤j∨j∈X)→S'.heap.get j=S.heap.get j:=by
  obtain⟨cs,OD,d1,d2,d3,d4,d5⟩:=h.ex
  have hsrc:FT prog S 30 1 (.slice (some (q,0)) 3 (some 3))=some (3,[.slice (some (i1,0)) n1 c1,.slice (some (i2,0)) n2 c2,.slice (some (i3,0)) n3 c3]):=by
    show(Pr _ q 0 3 1).bind _=_
    rw[Jo (l:=[.slice (some (i1,0)) n1 c1,.slice (some (i2,0)) n2 c2,.slice (some (i3,0)) n3 c3]) (by rw[Et,hq.get];exact D3 (A8H _))]
    rfl
  obtain⟨v',S',O',a1,a2,a3,a4,a5,a6,a7⟩:=d1.append (st:=155) (xt:=155) (by_:=24) underlying155 aw A6I (by omega) qS uR hsrc rfl rfl (by omega) (by omega)
  have keep:∀j,j<S.next→j ∉ OD→S'.heap.get j=S.heap.get j:=a5
  have kp:∀ {j o},Kp S X j o→j ∉ OD→Kp S' X j o∧j ∉ O':=fun {j o} hk hn=>⟨⟨(keep j hk.lt hn).trans hk.get,by have:=hk.lt;omega,hk.out⟩,fun hm=>(a6 j hm).elim hn fun e=>by have:=hk.lt;omega⟩
  have nOD:∀j,hi≤j→j ∉ OD:=fun j hj hm=>by have:=(d2 j hm).2.2.2;omega
  have hclen:cs.length=C.length:=by have:=d1.len;omega
  refine⟨v',S',a1,⟨_,O',by rw[show(C++[l1,l2,l3]).length=C.length+3 from by simp];exact a2,fun j hj=>?_,fun j hj=>?_,?_,fun i c hi'=>?_⟩,a3,fun j hj hc=>keep j hj fun hm=>?_⟩
  · rcases a6 j hj with hm | hm
    · have:=d2 j hm;exact⟨by omega,this.2.1,by omega,by omega⟩
    · have hlt:=a2.lt j hj
      exact⟨hlt,fun hx=>by have:=hX j hx;omega,by omega,hlt⟩
  · rcases a7 j hj with hm | hm
    · have:=d3 j hm;exact⟨by omega,this.2⟩
    · refine⟨?_,fun hx=>by have:=hX j hx;omega,by omega⟩
      obtain⟨a,cap,rfl,hc⟩:=a2.cells
      obtain⟨r,o,hr,hr2,_⟩:=hc 0 ((cs++[.slice (some (i1,0)) n1 c1,.slice (some (i2,0)) n2 c2,.slice (some (i3,0)) n3 c3])[0]'(by simp)) (A8O (by simp))
      subst hr
      injection hj with hj
      omega
  · exact KT d4 rfl
  · rcases A8N          i C.length with hlt | hge
    · rw[A8d hlt]at hi'
      obtain⟨j,cap,k1,k2,k3⟩:=d5 i c hi'
      obtain⟨m1,m2⟩:=kp k2 k3.1
      exact⟨j,cap,by rw[A8d (by omega)];exact k1,m1,m2,k3.2⟩
    · rw [A8g                        hge] at hi'
      rw[A8g (by omega),hclen]
      match hk:i - C.length,hi' with
      | 0,hi'=>injection hi' with hi';subst hi';exact⟨i1,c1,by rw[e1];rfl,(kp h1 (nOD _ hi1.1)).1,(kp h1 (nOD _ hi1.1)).2,by omega⟩
      | 1,hi'=>injection hi' with hi';subst hi';exact⟨i2,c2,by rw[e2];rfl,(kp h2 (nOD _ hi1.2.1)).1,(kp h2 (nOD _ hi1.2.1)).2,by omega⟩
      | 2,hi'=>injection hi' with hi';subst hi';exact⟨i3,c3,by rw[e3];rfl,(kp h3 (nOD _ hi1.2.2.1)).1,(kp h3 (nOD _ hi1.2.2.1)).2,by omega⟩
      | n+3,hi'=>simp at hi'
  · have h2:=d2 j hm
    rcases hc with hc | hc | hc
    · omega
    · omega
    · exact h2.2.1 hc
theorem Ir.wide{S:CO}{O W:List Nat}{b0 lo hi:Nat}{v:AV}{C:List (List Int)}(h:Ir S O b0 lo hi v C)(hW:∀j∈W,j<b0)(hb:b0≤lo):Ir S (W++O) b0 lo hi v C:=by
 obtain⟨cs,OD,h1,h2,h3,h4,h5⟩:=h.ex
 have hn:∀j,b0≤j→j ∉ O→j ∉ W++O:=fun j hj ho hm=>(A8q.1 hm).elim (fun hw=>by have:=hW j hw;omega) ho
 refine⟨cs,OD,h1,fun j hj=>⟨(h2 j hj).1,hn j (by have:=(h2 j hj).2.2.1;omega) (h2 j hj).2.1,(h2 j hj).2.2⟩,fun j hj=>⟨(h3 j hj).1,hn j (h3 j hj).2.2 (h3 j hj).2.1,(h3 j hj).2.2⟩,h4,fun i c hi'=>?_⟩
 obtain⟨j,cap,k1,k2,k3,k4⟩:=h5 i c hi'
 exact⟨j,cap,k1,⟨k2.get,k2.lt,hn j k4 k2.out⟩,k3,k4⟩
end
end Go.Proofs.YtoaaclpjkelofaaGreatDoor.Am
set_option linter.all false
set_option maxHeartbeats 1000000
set_option maxRecDepth 20000
namespace Go.Proofs.YtoaaclpjkelofaaGreatDoor.Am
open Go Go.Proofs
noncomputable section
open Tryz
section
variable{E:Dw}(hE:Cn E){s:CO}{p:Nat}{L:LG}{O:List Nat}(h:Lx s p L O){K:AV→CO→Prop}(hF:L.F.length+20<1000000)(hS:L.S.length+10<99990){f md mk ms b1 bd bk:Nat}(hf:Kp s O f (R 117 0 false [.ptr (some (p,0)),.map (some md),.map (some mk),.map (some ms)]))
  {d k:Tm} {xd xk:Int} (hd:Tn L.S d xd) (hk:Tn L.S k xk) (h1:Kp s O b1 (R 60 0 false [.ptr (some (f,0))])) (h2:Kp s O bd (R 3 0 false [iv xd])) (h3:Kp s O bk (R 3 0 false [iv xk]))
include hE h hF hS hf hd hk h1 h2 h3
theorem bX{m:Int}(hK:∀s' L' O' t nd st ns j,Dx [] p s L O s' L' O' 4 0→L'.S=L.S→Av L'.F (Eh L.S 4 d) t→Nv L'.F t nd→Av L'.F (Eh L.S 3 k) st→Nv L'.F st ns→Kp s' O' j (R 3 1 false (Dv [nd,ns,m]))→s.next≤j→K (.slice (some (j,0)) 3 (some 3)) s'):
  WF E 110 [iv m,.ptr (some (b1,0)),.ptr (some (bd,0)),.ptr (some (bk,0))] K s:=by
 refine hE.go rY (by decide) rfl ?_
 have g1:=h1.get
 have g2:=h2.get
 have g3:=h3.get
 have gf:=hf.get
 simp only[A4T,jb,jc,g1,g2,g3,gf,GU,Ee,GZ,Dt,Qa,Qb,QS,Wg]
 refine Ky hE h (by omega) (by omega) gf hd fun s1 L1 O1 v1 k1 e1 a1=>?_
 have g1:=(h1.step k1).get
 have g2:=(h2.step k1).get
 have g3:=(h3.step k1).get
 have gf:=(hf.step k1).get
 have nF1:=k1.nF
 have nS1:=k1.nS
 simp only[g1,g3,gf,GU,Ee,Dt,Cq,Cw,Dk,A9U,A9S,QS,Wg]
 refine SG hE k1.x (by omega) (by omega) a1.lt fun s2 L2 O2 v2 k2 e2 a2=>?_
 have c1:=(h1.step k1).step k2
 have c2:=(h2.step k1).step k2
 have c3:=(h3.step k1).step k2
 have cf:=(hf.step k1).step k2
 have g1:=c1.get
 have g2:=c2.get
 have g3:=c3.get
 have gf:=cf.get
 have nF2:=k2.nF
 have nS2:=k2.nS
 simp only[g1,g3,gf,GU,Ee,Dt,Cq,Cw,Dk,A9U,A9S,QS,Wg]
 refine VJ hE k2.x (by omega) (by omega) gf (hk.pre (k1.S.trans k2.S)) fun s3 L3 O3 v3 k3 e3 a3=>?_
 have c1:=c1.step k3
 have c2:=c2.step k3
 have c3:=c3.step k3
 have cf:=cf.step k3
 have g1:=c1.get
 have g2:=c2.get
 have g3:=c3.get
 have gf:=cf.get
 have nF3:=k3.nF
 have nS3:=k3.nS
 simp only[g1,gf,GU,Dt,Cq,Cw,A9U,A9S,QS,Wg]
 refine SG hE k3.x (by omega) (by omega) a3.lt fun s4 L4 O4 v4 k4 e4 a4=>?_
 generalize hb:s4.next=b
 have hs4:s4=ext s4 []:=(Ca s4).symm
 rw[hs4]
 simp only[hb,Ll,QS,Wg]
 obtain⟨x5,q5,o5⟩:=Ls k4.x (R 3 1 false (Dv [v2,v4,m]))
 rw[hb]at q5
 have kk:=(((k1.trans k2).trans k3).trans k4).trans (Dx.old k4.x o5)
 refine hK _ L4 O4 v1 v2 v3 v4 (nid b 0) kk (by rw[e4,e3,e2,e1]) ?_ (a2.pre (k3.F.trans k4.F)) ?_ a4 q5 (by rw[CN,← hb];have:=k1.nx;have:=k2.nx;have:=k3.nx;have:=k4.nx;omega)
 ·exact a1.pre (k2.F.trans (k3.F.trans k4.F))
 ·rw[← e1,← e2];exact a3.pre k4.F
end
section
variable{E:Dw}(hE:Cn E){l p:Nat}{W:List Nat}{J:JT}(hY:qY E l p W J){C:List (List Int)}(hC:C.length≤100000)
include hE hY hC
theorem gh{b0 lo hi:Nat}{v y1 y2 y3 y4 y5 y6 y7 y8 y9 y10 y11 y12 y14 y15 y16 y17:AV}{Q:Da→Prop}:∀ (rest done:List (List Int))(S:CO)(L:LG)(O:List Nat)(N:List (List Int))(x13 x21 x22:AV),C=done++rest→Lx S p L O→J S L O N→L.F.length+rest.length<900000→L.S.length<90000 →
  Ir S (W++O) b0 lo hi v C→(∀c∈rest,iK L.F c) →
  (∀S' L' O' var,Dx W p S L O S' L' O' rest.length 0→L'.S=L.S→J S' L' O' (rest.reverse++N)→Cs 2 Q ⟨.exit 2,var,[],S'⟩) →
  WC E none (Ck.loop M7) (Cs 2 Q) [.yield l,y1,y2,y3,y4,y5,y6,y7,y8,y9,y10,y11,y12,x13,y14,y15,y16,y17,v,iv (C.length:Int),iv (done.length:Int),x21,x22] [] S:=by
 intro rest
 induction rest with
 | nil =>
  intro done S L O N x13 x21 x22 hd hx hj hF hS har hcl hq
  have:C=done:=by simpa using hd
  subst this
  refine WC.loop' ?_
  simp only[M7,Uz,A8l,A9a,Qa,Qb,QS]
  exact hq S L O _ (Dx.refl hx) rfl hj
 | cons c rest ih =>
  intro done S L O N x13 x21 x22 hd hx hj hF hS har hcl hq
  refine WC.loop' ?_
  obtain⟨V,hV⟩:∃V,V=Ck.loop M7:=⟨_,rfl⟩
  rw[← hV]
  have hlt:((done.length:Int)<(C.length:Int)):=by rw[hd];simp;omega
  have hltn:done.length<C.length:=by omega
  have hat:C[done.length]? = some c:=by rw[hd];simp
  obtain⟨r,o,cap,cv,rfl,hld,hrd,hsl⟩:=har.at hat
  have e1:=Cj (P:=prog) (cap:=cap) (i:=r) (o:=o) underlying155 aw hltn
  have hadd:i64 ((done.length:Int)+1):=by unfold i64;omega
  simp only[A8P]at hF
  simp only[M7,Uz,bq,br,hlt,A9Z,Qa,Qb,QS,e1,IT,hld,A8S,Wg]
  refine hY S L O N cv c _ hj hx (by omega) hS hrd hsl (hcl c A8M) fun S' L' O' k1 k2 k3=>?_
  simp only[bt,Db _ _ _ _ hadd,Qb,QS]
  have nF:=k1.nF
  have:=ih (done++[c]) S' L' O' (c::N) cv (.bool true) (.bool false) (by rw[hd];simp) k1.x k3 (by omega) (by rw[k2];exact hS) (har.stp k1) (fun c' hc'=>(hcl c' (A8J _ hc')).pre k1.F)
   (fun S2 L2 O2 var q1 q2 q3=>hq S2 L2 O2 var ((k1.trans q1).mono (by simp only[A8P];omega) (by omega)) (q2.trans k2) (by rw[List.reverse_cons,A8n];exact q3))
  rw[← hV,show(done++[c]).length=done.length+1 from by simp]at this
  exact this
end
theorem Dx.loc{p:Nat}{s0 S S':CO}{L0 L:LG}{O0 O:List Nat}{n m lo hi:Nat}(k:Dx [] p s0 L0 O0 S L O n m)(hn:S.next≤S'.next)(hf:∀j,j<S.next→(j<lo∨hi≤j∨j∈O)→S'.heap.get j=S.heap.get j)(hlo:s0.next≤lo)(h1:1<s0.next):Dx [] p s0 L0 O0 S' L O n m:=by
 have hlt:=k.x.at_.lt
 have hss:=k.nx
 refine⟨⟨k.x.at_.frame hn fun j hj=>hf j (hlt j hj) (.inr (.inr hj)),k.x.two,k.x.rest,⟨by rw[Ec (hf 1 (by omega) (.inl (by omega)))];exact k.x.glob.1,by have:=k.x.glob.2.1;omega,k.x.glob.2.2⟩⟩,⟨by omega,fun j hj hn'=>?_⟩,k.gr,k.S,k.F,k.A,k.q,k.nF,k.nS⟩
 rw[hf j (by omega) (.inl (by omega))]
 exact k.fr.2 j hj hn'
theorem Kp.loc{S S':CO}{O:List Nat}{j lo hi:Nat}{o:Cg}(h:Kp S O j o)(hn:S.next≤S'.next)(hf:∀j,j<S.next→(j<lo∨hi≤j∨j∈O)→S'.heap.get j=S.heap.get j)(hj:j<lo):Kp S' O j o:=⟨(hf j h.lt (.inl hj)).trans h.get,by have:=h.lt;omega,h.out⟩
def Um(L:LG)(u d k:Tm)(C:List (List Int))(x:Int):Prop:=∃t bs e hu nh hd,Tn L.S t x∧Tm.sel u t∈L.S∧Tm.sel d t∈L.S∧Av L.F (FH L.S k t) bs∧Av L.F (FH L.S (.sel u t) (.sel d t)) e∧Av L.F (FC L.S u t) hu∧Nv L.F hu nh∧Av L.F (FC L.S d t) hd∧[bs,e]∈C∧[bs,nh,hd]∈C
theorem Um.mono{L L':LG}{u d k:Tm}{C C':List (List Int)}{x:Int}(h:Um L u d k C x)(hS:L.S <+: L'.S)(hF:L.F <+: L'.F)(hC:∀c∈C,c∈C')(hu:u∈L.S)(hd:d∈L.S)(hk:k∈L.S):Um L' u d k C' x:=by
 obtain⟨t,bs,e,hh,nh,hd',h1,h2,h3,h4,h5,h6,h7,h8,h9,h10⟩:=h
 refine⟨t,bs,e,hh,nh,hd',h1.pre hS,DA hS h2,DA hS h3,?_,?_,?_,h7.pre hF,?_,hC _ h9,hC _ h10⟩
 ·rw[F8 hS hk h1.mem];exact h4.pre hF
 ·rw[F8 hS h2 h3];exact h5.pre hF
 ·rw[GI hS hu h1.mem];exact h6.pre hF
 ·rw[GI hS hd h1.mem];exact h8.pre hF
theorem A3X{E:Dw}(hE:Cn E){s:CO}{p:Nat}{L:LG}{O:List Nat}(h:Lx s p L O){K:AV→CO→Prop}(hS:L.S.length<99990){q:Nat}(hq:q=L.q){d k:Tm}{x y:Int}(hd:Tn L.S d x)(hk:Tn L.S k y)
  (hK:∀s' L' O' v,Dx [] p s L O s' L' O' 0 1→L'.F=L.F→Tn L'.S (.sel d k) v→K (iv v) s'):WF E 13 [.ptr (some (q,0)),iv x,iv y] K s:=by
 subst hq
 exact aa hE h hS hd hk hK
theorem gW(a b c:Option (Nat×Nat))(n1 n2 n3:Nat)(c1 c2 c3:Option Nat):Cd prog 155 3 (zipIdx [0,1,2] [.slice a n1 c1,.slice b n2 c2,.slice c n3 c3])=some (R 30 1 false [.slice a n1 c1,.slice b n2 c2,.slice c n3 c3]):=by kernel_rfl
section
variable{E:Dw}(hE:Cn E){p:Nat}{s0:CO}{L0:LG}{O0:List Nat}(h01:1<s0.next){f md mk ms b1 b2 bd bk lo:Nat}(hlo:s0.next≤lo){u d k:Tm}{xu xd xk:Int}{kv:AV}{Kl:List Int}(hKl:Kl.length≤100)
  {y0 y3 y5 y8 y9:AV}
include hE h01 hlo hKl
theorem gg{Q:Da→Prop}:∀ (rest done:List Int)(S:CO)(L:LG)(O:List Nat)(n m hi:Nat)(v:AV)(C:List (List Int))(x11 x12 x13 x17 x18 x19 x20 x21 x22:AV),Kl=done++rest→Dx [] p s0 L0 O0 S L O n m→L.F.length+12 * rest.length+20<900000→L.S.length+2 * rest.length+10<90000 →
    Kp S O f (R 117 0 false [.ptr (some (p,0)),.map (some md),.map (some mk),.map (some ms)])→Kp S O b1 (R 60 0 false [.ptr (some (f,0))])→Kp S O b2 (R 3 0 false [iv xu])→Kp S O bd (R 3 0 false [iv xd])→Kp S O bk (R 3 0 false [iv xk])→f<lo∧b1<lo∧b2<lo∧bd<lo∧bk<lo →
    Tn L.S u xu→Tn L.S d xd→Tn L.S k xk→(∀x∈Kl,∃t,Tn L.S t x)→Cl S kv Kl→(∀j,EQ kv=some j→j<S.next∧j<lo∧j ∉ O)→Ir S O s0.next lo hi v C→hi≤S.next→lo≤hi→C.length+3 * rest.length≤400→(∀c∈C,iK L.F c)→(∀x∈done,Um L u d k C x) →
    (∀S' L' O' n' m' hi' v' C' z11 z12 z13,Dx [] p s0 L0 O0 S' L' O' n' m'→n'≤n+12 * rest.length→m'≤m+2 * rest.length→L.S <+: L'.S→L.F <+: L'.F→Ir S' O' s0.next lo hi' v' C'→C'.length≤400→(∀c∈C',iK L'.F c)→(∃D,C'=C++D)→(∀x∈Kl,Um L' u d k C' x) →
      Cs 0 Q ⟨.exit 0,[y0,.ptr (some (b1,0)),.ptr (some (b2,0)),y3,.ptr (some (L0.q,0)),y5,.ptr (some (bd,0)),.ptr (some (bk,0)),y8,y9,v',z11,z12,z13,kv,iv (Kl.length:Int),iv (Kl.length:Int),.bool false,x18,x19,x20,x21,x22],[],S'⟩) →
    WC E none (Ck.loop M6) (Cs 0 Q) [y0,.ptr (some (b1,0)),.ptr (some (b2,0)),y3,.ptr (some (L0.q,0)),y5,.ptr (some (bd,0)),.ptr (some (bk,0)),y8,y9,v,x11,x12,x13,kv,iv (Kl.length:Int),iv (done.length:Int),x17,x18,x19,x20,x21,x22] [] S:=by
  intro rest
  induction rest with
  | nil =>
    intro done S L O n m hi v C x11 x12 x13 x17 x18 x19 x20 x21 x22 hd0 hk0 hF hS cf c1 c2 c6 c7 hlts tu td tk tKl hap hks hal hhi hlh hCl hcl hkf hq
    have:Kl=done:=by simpa using hd0
    subst this
    refine WC.loop' ?_
    simp only[M6,Y3,A8l,A9a,Qa,Qb,QS]
    exact hq S L O n m hi v C x11 x12 x13 hk0 (by omega) (by omega) (A8h _) (A8h _) hal (by omega) hcl ⟨[],by simp⟩ hkf
  | cons x rest ih =>
    intro done S L O n m hi v C x11 x12 x13 x17 x18 x19 x20 x21 x22 hd0 hk0 hF hS cf c1 c2 c6 c7 hlts tu td tk tKl hap hks hal hhi hlh hCl hcl hkf hq
    refine WC.loop' ?_
    obtain⟨V,hV⟩:∃V,V=Ck.loop M6:=⟨_,rfl⟩
    rw[← hV]
    have hlt:((done.length:Int)<(Kl.length:Int)):=by rw[hd0];simp;omega
    have hltn:done.length<Kl.length:=by omega
    have hat:Kl[done.length]? = some x:=by rw[hd0];simp
    obtain⟨j,q0,cap,rfl,hj,hld⟩:=hap.at hat
    have e1:=Cj (P:=prog) (cap:=cap) (i:=j) (o:=q0) underlying30 HC hltn
    have hadd:i64 ((done.length:Int)+1):=by unfold i64;omega
    simp only[A8P]at hF hS hCl
    obtain⟨t,tx⟩:=tKl x (by rw[hd0];simp)
    have g1:=c1.get
    have g2:=c2.get
    have g6:=c6.get
    have g7:=c7.get
    have gf:=cf.get
    simp only[M6,Y3,jY,jZ,hlt,A9Z,Qa,Qb,QS,e1,Ee,hld,A8S,g1,g7,GU,Wg]
    refine IV hE hk0.x (by omega) (by omega) gf tk tx fun s1 L1 O1 v1 k1 e1 a1=>?_
    have cf:=cf.step k1
    have c1:=c1.step k1
    have c2:=c2.step k1
    have c6:=c6.step k1
    have c7:=c7.step k1
    have g1:=c1.get
    have g2:=c2.get
    have g6:=c6.get
    have g7:=c7.get
    have gf:=cf.get
    have nF1:=k1.nF
    have nS1:=k1.nS
    simp only[ja,g1,g2,g6,gf,GU,Ee,GZ,Dt,Qb,QS,Wg]
    refine A3X hE k1.x (by omega) (by rw[k1.q,hk0.q]) (tu.pre (k1.S)) (tx.pre (k1.S)) fun s2 L2 O2 v2 k2 e2 a2=>?_
    have cf:=cf.step k2
    have c1:=c1.step k2
    have c2:=c2.step k2
    have c6:=c6.step k2
    have c7:=c7.step k2
    have g1:=c1.get
    have g2:=c2.get
    have g6:=c6.get
    have g7:=c7.get
    have gf:=cf.get
    have nF2:=k2.nF
    have nS2:=k2.nS
    simp only[g1,g2,g6,gf,GU,Ee,Dt,Cq,Cw,Dk,A9U,A9S,QS,Wg]
    refine A3X hE k2.x (by omega) (by rw[k2.q,k1.q,hk0.q]) (td.pre (k1.S.trans (k2.S))) (tx.pre (k1.S.trans (k2.S))) fun s3 L3 O3 v3 k3 e3 a3=>?_
    have cf:=cf.step k3
    have c1:=c1.step k3
    have c2:=c2.step k3
    have c6:=c6.step k3
    have c7:=c7.step k3
    have g1:=c1.get
    have g2:=c2.get
    have g6:=c6.get
    have g7:=c7.get
    have gf:=cf.get
    have nF3:=k3.nF
    have nS3:=k3.nS
    simp only[g1,g2,g6,gf,GU,Ee,Dt,Cq,Cw,Dk,A9U,A9S,QS,Wg]
    refine IV hE k3.x (by omega) (by omega) gf (a2.pre k3.S) a3 fun s4 L4 O4 v4 k4 e4 a4=>?_
    have cf:=cf.step k4
    have c1:=c1.step k4
    have c2:=c2.step k4
    have c6:=c6.step k4
    have c7:=c7.step k4
    have g1:=c1.get
    have g2:=c2.get
    have g6:=c6.get
    have g7:=c7.get
    have gf:=cf.get
    have nF4:=k4.nF
    have nS4:=k4.nS
    generalize hbr1:s4.next=br1
    have hsr1:s4=ext s4 []:=(Ca s4).symm
    rw[hsr1]at g1
    rw[hsr1]at g2
    rw[hsr1]at g6
    rw[hsr1]at g7
    rw[hsr1]at gf
    rw[hsr1]
    simp only[g1,g2,g6,gf,GU,Ee,Dt,hbr1,EO,Cq,Cw,Dk,A9U,A9S,QS,Wg]
    obtain⟨xr1,r1,or1⟩:=Ls k4.x (R 3 1 false (Dv [v1,v4]))
    rw[hbr1]at r1
    have cf:=cf.old or1
    have c1:=c1.old or1
    have c2:=c2.old or1
    have c6:=c6.old or1
    have c7:=c7.old or1
    have nr1:=xr1.at_.small
    generalize htr1:ext s4 [R 3 1 false (Dv [v1,v4])]=tr1 at xr1 r1 or1 cf c1 c2 c6 c7
    have g1:=c1.get
    have g2:=c2.get
    have g6:=c6.get
    have g7:=c7.get
    have gf:=cf.get
    refine VX hE xr1 (by omega) (by omega) (tu.pre (k1.S.trans (k2.S.trans (k3.S.trans (k4.S))))) (tx.pre (k1.S.trans (k2.S.trans (k3.S.trans (k4.S))))) fun s5 L5 O5 v5 k5 e5 a5=>?_
    have cf:=cf.step k5
    have c1:=c1.step k5
    have c2:=c2.step k5
    have c6:=c6.step k5
    have c7:=c7.step k5
    have g1:=c1.get
    have g2:=c2.get
    have g6:=c6.get
    have g7:=c7.get
    have gf:=cf.get
    have r1:=r1.step k5
    have nF5:=k5.nF
    have nS5:=k5.nS
    simp only[g1,g2,g6,gf,GU,Ee,Dt,Cq,Cw,Dk,A9U,A9S,QS,Wg]
    refine SG hE k5.x (by omega) (by omega) a5.lt fun s6 L6 O6 v6 k6 e6 a6=>?_
    have cf:=cf.step k6
    have c1:=c1.step k6
    have c2:=c2.step k6
    have c6:=c6.step k6
    have c7:=c7.step k6
    have g1:=c1.get
    have g2:=c2.get
    have g6:=c6.get
    have g7:=c7.get
    have gf:=cf.get
    have r1:=r1.step k6
    have nF6:=k6.nF
    have nS6:=k6.nS
    simp only[g1,g2,g6,gf,GU,Ee,Dt,Cq,Cw,Dk,A9U,A9S,QS,Wg]
    refine VX hE k6.x (by omega) (by omega) (td.pre (k1.S.trans (k2.S.trans (k3.S.trans (k4.S.trans (k5.S.trans (k6.S))))))) (tx.pre (k1.S.trans (k2.S.trans (k3.S.trans (k4.S.trans (k5.S.trans (k6.S))))))) fun s7 L7 O7 v7 k7 e7 a7=>?_
    have cf:=cf.step k7
    have c1:=c1.step k7
    have c2:=c2.step k7
    have c6:=c6.step k7
    have c7:=c7.step k7
    have g1:=c1.get
    have g2:=c2.get
    have g6:=c6.get
    have g7:=c7.get
    have gf:=cf.get
    have r1:=r1.step k7
    have nF7:=k7.nF
    have nS7:=k7.nS
    generalize hbr2:s7.next=br2
    have hsr2:s7=ext s7 []:=(Ca s7).symm
    rw[hsr2]at g1
    rw[hsr2]at g2
    rw[hsr2]at g6
    rw[hsr2]at g7
    rw[hsr2]at gf
    rw[hsr2]
    simp only[g1,g2,g6,gf,GU,Ee,Dt,hbr2,Ll,Cq,Cw,Dk,A9U,A9S,QS,Wg]
    obtain⟨xr2,r2,or2⟩:=Ls k7.x (R 3 1 false (Dv [v1,v6,v7]))
    rw[hbr2]at r2
    have cf:=cf.old or2
    have c1:=c1.old or2
    have c2:=c2.old or2
    have c6:=c6.old or2
    have c7:=c7.old or2
    have r1:=r1.old or2
    have nr2:=xr2.at_.small
    generalize htr2:ext s7 [R 3 1 false (Dv [v1,v6,v7])]=tr2 at xr2 r2 or2 cf c1 c2 c6 c7 r1
    have g1:=c1.get
    have g2:=c2.get
    have g6:=c6.get
    have g7:=c7.get
    have gf:=cf.get
    refine VX hE xr2 (by omega) (by omega) (tu.pre (k1.S.trans (k2.S.trans (k3.S.trans (k4.S.trans (k5.S.trans (k6.S.trans (k7.S)))))))) (tx.pre (k1.S.trans (k2.S.trans (k3.S.trans (k4.S.trans (k5.S.trans (k6.S.trans (k7.S)))))))) fun s8 L8 O8 v8 k8 e8 a8=>?_
    have cf:=cf.step k8
    have c1:=c1.step k8
    have c2:=c2.step k8
    have c6:=c6.step k8
    have c7:=c7.step k8
    have g1:=c1.get
    have g2:=c2.get
    have g6:=c6.get
    have g7:=c7.get
    have gf:=cf.get
    have r1:=r1.step k8
    have r2:=r2.step k8
    have nF8:=k8.nF
    have nS8:=k8.nS
    simp only[g1,g6,gf,GU,Ee,Dt,Cq,Cw,Dk,A9U,A9S,QS,Wg]
    refine VX hE k8.x (by omega) (by omega) (td.pre (k1.S.trans (k2.S.trans (k3.S.trans (k4.S.trans (k5.S.trans (k6.S.trans (k7.S.trans (k8.S))))))))) (tx.pre (k1.S.trans (k2.S.trans (k3.S.trans (k4.S.trans (k5.S.trans (k6.S.trans (k7.S.trans (k8.S))))))))) fun s9 L9 O9 v9 k9 e9 a9=>?_
    have cf:=cf.step k9
    have c1:=c1.step k9
    have c2:=c2.step k9
    have c6:=c6.step k9
    have c7:=c7.step k9
    have g1:=c1.get
    have g2:=c2.get
    have g6:=c6.get
    have g7:=c7.get
    have gf:=cf.get
    have r1:=r1.step k9
    have r2:=r2.step k9
    have nF9:=k9.nF
    have nS9:=k9.nS
    simp only[g1,gf,GU,Dt,Cq,Cw,A9U,A9S,QS,Wg]
    refine SG hE k9.x (by omega) (by omega) a9.lt fun s10 L10 O10 v10 k10 e10 a10=>?_
    have cf:=cf.step k10
    have c1:=c1.step k10
    have c2:=c2.step k10
    have c6:=c6.step k10
    have c7:=c7.step k10
    have g1:=c1.get
    have g2:=c2.get
    have g6:=c6.get
    have g7:=c7.get
    have gf:=cf.get
    have r1:=r1.step k10
    have r2:=r2.step k10
    have nF10:=k10.nF
    have nS10:=k10.nS
    generalize hbz:s10.next=bz
    have hsz:s10=ext s10 []:=(Ca s10).symm
    rw[hsz]
    simp only[hbz,Ll,gW,A9S,QS,Wg]
    have oz:DL s10.next s10 (ext s10 [R 3 1 false (Dv [v1,v8,v10]),R 30 1 false [.slice (some (nid br1 0,0)) 2 (some 2),.slice (some (nid br2 0,0)) 3 (some 3),.slice (some (nid bz 0,0)) 3 (some 3)]]):=Ci
    have z0:(ext s10 [R 3 1 false (Dv [v1,v8,v10]),R 30 1 false [.slice (some (nid br1 0,0)) 2 (some 2),.slice (some (nid br2 0,0)) 3 (some 3),.slice (some (nid bz 0,0)) 3 (some 3)]]).heap.get (nid bz 0)=some (R 3 1 false (Dv [v1,v8,v10])):=by rw[CR hbz (by simp)];rfl
    have z1:(ext s10 [R 3 1 false (Dv [v1,v8,v10]),R 30 1 false [.slice (some (nid br1 0,0)) 2 (some 2),.slice (some (nid br2 0,0)) 3 (some 3),.slice (some (nid bz 0,0)) 3 (some 3)]]).heap.get (nid bz 1)=some (R 30 1 false [.slice (some (nid br1 0,0)) 2 (some 2),.slice (some (nid br2 0,0)) 3 (some 3),.slice (some (nid bz 0,0)) 3 (some 3)]):=by rw[CR hbz (by simp)];rfl
    have nz:(ext s10 [R 3 1 false (Dv [v1,v8,v10]),R 30 1 false [.slice (some (nid br1 0,0)) 2 (some 2),.slice (some (nid br2 0,0)) 3 (some 3),.slice (some (nid bz 0,0)) 3 (some 3)]]).next=bz+2:=by rw[Ce,hbz,CN];rfl
    generalize ext s10 [R 3 1 false (Dv [v1,v8,v10]),R 30 1 false _]=sz at oz z0 z1 nz
    have kA:=((((((((((k1.trans k2).trans k3).trans k4).trans (Dx.old k4.x or1)).trans k5).trans k6).trans k7).trans (Dx.old k7.x or2)).trans k8).trans k9).trans k10
    have kZ:=(kA.trans (Dx.old k10.x oz)).mono (n':=12) (m':=2) (by omega) (by omega)
    have r1:=r1.old oz
    have r2:=r2.old oz
    have cf:=cf.old oz
    have c1:=c1.old oz
    have c2:=c2.old oz
    have c6:=c6.old oz
    have c7:=c7.old oz
    have q3:Kp sz O10 (nid bz 0) _:=⟨z0,by rw[nz,CN];omega,k10.x.fresh (by rw[hbz,CN];omega)⟩
    have qq:Kp sz O10 (nid bz 1) _:=⟨z1,by rw[nz,CN];omega,k10.x.fresh (by rw[hbz,CN];omega)⟩
    have hal2:Ir sz O10 s0.next lo hi v C:=Ir.stp (W:=[]) hal kZ
    have hksj:=hks j rfl
    have hap2:Cl sz (.slice (some (j,q0)) Kl.length cap) Kl:=hap.fx kZ.fr fun j' hj'=>by injection hj' with hj';rw[← hj'];simpa using hksj.2.2
    have hksZ:=kZ.out hksj.1 hksj.2.2
    have nx1:S.next≤s4.next:=by have:=k1.nx;have:=k2.nx;have:=k3.nx;have:=k4.nx;omega
    have nx2:S.next≤s7.next:=by have:=or1.1;have:=k5.nx;have:=k6.nx;have:=k7.nx;omega
    have nx3:S.next≤s10.next:=by have:=or2.1;have:=k8.nx;have:=k9.nx;have:=k10.nx;omega
    obtain⟨v',S',happ,hal3,hn3,hf3⟩:=hal2.push qq r1 r2 q3 rfl rfl rfl (by omega) (kZ.x.at_.lt) ⟨by rw[CN];omega,by rw[CN];omega,by rw[CN];omega,by have:=oz.1;omega⟩ (by have:=oz.1;omega) (by omega)
    simp only[happ,bi,Db _ _ _ _ hadd,Qb,QS]
    have kL:Dx [] p s0 L0 O0 S' L10 O10 (n+12) (m+2):=(hk0.trans kZ).loc hn3 hf3 hlo h01
    have hlenS:=kZ.nS
    have hlenF:=kZ.nF
    have A1:=a1.pre (k2.F.trans (k3.F.trans (k4.F.trans (k5.F.trans (k6.F.trans (k7.F.trans (k8.F.trans (k9.F.trans k10.F))))))))
    have A4:=a4.pre (k5.F.trans (k6.F.trans (k7.F.trans (k8.F.trans (k9.F.trans k10.F)))))
    have A5:=a5.pre (k6.F.trans (k7.F.trans (k8.F.trans (k9.F.trans k10.F))))
    have A6:=a6.pre (k7.F.trans (k8.F.trans (k9.F.trans k10.F)))
    have A7:=a7.pre (k8.F.trans (k9.F.trans k10.F))
    have A8:=a8.pre (k9.F.trans k10.F)
    have A9:=a9.pre k10.F
    have B1:(0≤v1∧v1<L10.F.length)∧(CP L10.F v1).kind≠3:=⟨A1.lt,by rw[A1.kind];exact(HN _ _ _).1⟩
    have B4:(0≤v4∧v4<L10.F.length)∧(CP L10.F v4).kind≠3:=⟨A4.lt,by rw[A4.kind];exact(HN _ _ _).1⟩
    have B6:(0≤v6∧v6<L10.F.length)∧(CP L10.F v6).kind≠3:=A6.lt (by rw[A5.kind];exact(Gc _ _ _).2)
    have B7:(0≤v7∧v7<L10.F.length)∧(CP L10.F v7).kind≠3:=⟨A7.lt,by rw[A7.kind];exact(Gc _ _ _).1⟩
    have B8:(0≤v8∧v8<L10.F.length)∧(CP L10.F v8).kind≠3:=⟨A8.lt,by rw[A8.kind];exact(Gc _ _ _).1⟩
    have B10:(0≤v10∧v10<L10.F.length)∧(CP L10.F v10).kind≠3:=a10.lt (by rw[A9.kind];exact(Gc _ _ _).2)
    have S4:L4.S <+: L10.S:=k5.S.trans (k6.S.trans (k7.S.trans (k8.S.trans (k9.S.trans k10.S))))
    have S3:L3.S <+: L10.S:=k4.S.trans S4
    have S2:L2.S <+: L10.S:=k3.S.trans S3
    have S1:L1.S <+: L10.S:=k2.S.trans S2
    have S0:L.S <+: L10.S:=k1.S.trans S1
    have S7:L7.S <+: L10.S:=k8.S.trans (k9.S.trans k10.S)
    have hkey:Um L10 u d k (C++[[v1,v4],[v1,v6,v7],[v1,v8,v10]]) x:=by
      refine⟨t,v1,v4,v5,v6,v7,tx.pre S0,(a2.pre S2).mem,(a3.pre S3).mem,?_,?_,?_,A6,?_,by simp,by simp⟩
      · rw[F8 S0 tk.mem tx.mem];exact A1
      · rw[F8 S3 (a2.pre k3.S).mem a3.mem];exact A4
      · rw[GI S4 ((tu.pre (k1.S.trans (k2.S.trans (k3.S.trans (k4.S)))))).mem ((tx.pre (k1.S.trans (k2.S.trans (k3.S.trans (k4.S)))))).mem];exact A5
      · rw[GI (k7.S.trans S7) ((td.pre (k1.S.trans (k2.S.trans (k3.S.trans (k4.S.trans (k5.S.trans (k6.S)))))))).mem ((tx.pre (k1.S.trans (k2.S.trans (k3.S.trans (k4.S.trans (k5.S.trans (k6.S)))))))).mem];exact A7
    have:=ih (done++[x]) S' L10 O10 (n+12) (m+2) S'.next v' (C++[[v1,v4],[v1,v6,v7],[v1,v8,v10]]) (iv x) (iv v1) x13 (.bool true) x18 x19 x20 x21 x22 (by rw[hd0];simp) kL (by omega) (by omega)
      (cf.loc hn3 hf3 hlts.1) (c1.loc hn3 hf3 hlts.2.1) (c2.loc hn3 hf3 hlts.2.2.1) (c6.loc hn3 hf3 hlts.2.2.2.1) (c7.loc hn3 hf3 hlts.2.2.2.2) hlts (tu.pre S0) (td.pre S0) (tk.pre S0) (fun y hy=>let ⟨ty,hty⟩:=tKl y hy;⟨ty,hty.pre S0⟩)
      (hap2.frame1 hn3 fun j' hj'=>by injection hj' with hj';rw[← hj'];exact hf3 j (by have:=kZ.nx;have:=hksj.1;omega) (.inl hksj.2.1)) (fun j' hj'=>by injection hj' with hj';rw[← hj'];exact⟨by have:=kZ.nx;have:=hksj.1;omega,hksj.2.1,hksZ⟩) hal3 (A8H _) (by omega) (by simp only[A8X,A8P,A8b];omega) (fun c hc=>?_) (fun y hy=>?_) (fun S2' L' O' n' m' hi' v2' C' z11 z12 z13 q1 q2 q3 q4 q5 q6 q7 q8 q9 q10=>hq S2' L' O' n' m' hi' v2' C' z11 z12 z13 q1 (by simp only[A8P];omega) (by simp only[A8P];omega) (S0.trans q4) (kZ.F.trans q5) q6 q7 q8 ?_ q10)
    · rw[← hV,show(done++[x]).length=done.length+1 from by simp]at this
      exact this
    · rcases A8q.1             hc with hc | hc
      · exact(hcl c hc).pre kZ.F
      · simp only[A8I,A8K,A9V]at hc
        rcases hc with rfl | rfl | rfl
        · exact⟨by simp,by simpa using ⟨B1,B4⟩⟩
        · exact⟨by simp,by simpa using ⟨B1,B6,B7⟩⟩
        · exact⟨by simp,by simpa using ⟨B1,B8,B10⟩⟩
    · rcases A8q.1             hy with hy | hy
      · exact(hkf y hy).mono S0 kZ.F (fun c hc=>A8q.2 (.inl hc)) tu.mem td.mem tk.mem
      · simp only [A8I,           A8K,              A9V]      at hy
        subst hy
        exact hkey
    · obtain⟨D,hD⟩:=q9
      exact⟨_,by rw[hD,A8n]⟩
end
def Yw(L:LG)(u d k a:Tm)(C:List (List Int)):Prop:=∃t nd tu st ns e,Av L.F (Eh L.S 4 d) t∧Nv L.F t nd∧Av L.F (Eh L.S 4 u) tu∧Av L.F (Eh L.S 3 k) st∧Nv L.F st ns∧Tm.sel u k∈L.S∧Av L.F (FH L.S (.sel u k) a) e∧[nd,tu]∈C∧[nd,ns,e]∈C
theorem Yw.mono{L L':LG}{u d k a:Tm}{C C':List (List Int)}(h:Yw L u d k a C)(hS:L.S <+: L'.S)(hF:L.F <+: L'.F)(hC:∀c∈C,c∈C')(hu:u∈L.S)(hd:d∈L.S)(hk:k∈L.S)(ha:a∈L.S):Yw L' u d k a C':=by
 obtain⟨t,nd,tu,st,ns,e,h1,h2,h3,h4,h5,h6,h7,h8,h9⟩:=h
 refine⟨t,nd,tu,st,ns,e,?_,h2.pre hF,?_,?_,h5.pre hF,DA hS h6,?_,hC _ h8,hC _ h9⟩
 ·rw[GP hS 4 hd];exact h1.pre hF
 ·rw[GP hS 4 hu];exact h3.pre hF
 ·rw[GP hS 3 hk];exact h4.pre hF
 ·rw[F8 hS h6 ha];exact h7.pre hF
theorem gY(a b c d e:Option (Nat×Nat))(n1 n2 n3 n4 n5:Nat)(c1 c2 c3 c4 c5:Option Nat):Cd prog 155 5 (zipIdx [0,1,2,3,4] [.slice a n1 c1,.slice b n2 c2,.slice c n3 c3,.slice d n4 c4,.slice e n5 c5])=some (R 30 1 false [.slice a n1 c1,.slice b n2 c2,.slice c n3 c3,.slice d n4 c4,.slice e n5 c5]):=by kernel_rfl
theorem oI{E:Dw}(hE:Cn E){s:CO}{p:Nat}{L:LG}{O:List Nat}(h:Lx s p L O){K:AV→CO→Prop}(hS:L.S.length<99990){t:Tm}{x:Int}(ht:Tn L.S t x)(hK:∀v s',DL s.next s s'→Cl s' v (Ew L.S t)→K v s'):WF E 14 [.ptr (some (L.q,0)),iv x] K s:=by
 rw[ht.num];exact A3N hE h hS ht.mem hK
section
variable{E:Dw}(hE:Cn E){l p:Nat}{W:List Nat}{J:JT}(hY:qY E l p W J)(hJ:A0t p J){s:CO}{L:LG}{O:List Nat}{N:List (List Int)}(h:Lx s p L O)(hj:J s L O N)(hF:L.F.length+4000<900000)(hS:L.S.length+400<90000)(hW:∀j∈W,j<s.next)
  {f md mk ms b1 b2 b3:Nat} (hf:Kp s O f (R 117 0 false [.ptr (some (p,0)),.map (some md),.map (some mk),.map (some ms)])) (h1:Kp s O b1 (R 60 0 false [.ptr (some (f,0))]))
  {d k a:Tm} {xu:Int} (hu:Tn L.S (.upd d k a) xu) (h2:Kp s O b2 (R 3 0 false [iv xu])) {kv:AV} {Kl:List Int} (h3:Kp s O b3 (R 30 0 false [kv])) (hKl:Kl.length≤100) (hrd:Cl s kv Kl) (hks:∀j,EQ kv=some j→j ∉ O) (tKl:∀x∈Kl,∃t,Tn L.S t x) {K:AV→CO→Prop}
include hE hY hJ h hj hF hS hW hf h1 hu h2 h3 hKl hrd hks tKl
theorem mm(hK:∀S' L' O' C,Dx W p s L O S' L' O' 2000 300→J S' L' O' (C.reverse++N)→Yw L' (.upd d k a) d k a C→(∀x∈Kl,Um L' (.upd d k a) d k C x)→K (.tuple []) S'):WF E 109 [.yield l,.ptr (some (b1,0)),.ptr (some (b2,0)),.ptr (some (b3,0))] K s:=by
  have hg1:1<s.next:=h.glob.2.1
  have hok:=A6X hE h (by omega)
  have hdk:d∈L.S∧k∈L.S∧a∈L.S:=⟨(hok.kid hu.mem (k:=d) (by simp[Tm.kids])).1,(hok.kid hu.mem (k:=k) (by simp[Tm.kids])).1,(hok.kid hu.mem (k:=a) (by simp[Tm.kids])).1⟩
  refine hE.go rX (by decide) rfl ?_
  have g1:=h1.get
  have g2:=h2.get
  have g3:=h3.get
  have gf:=hf.get
  simp only[A4Q,jS,jT,g1,gf,GU,GZ,Dt,Qa,Qb,QS,Wg]
  refine LQ hE h ?_
  simp only[g2,Ee,QS,Wg]
  refine oI hE h (by omega) hu fun kidv s1 o1 hkid=>?_
  have hkl:Ew L.S (.upd d k a)=[(ix L.S d:Int),(ix L.S k:Int),(ix L.S a:Int)]:=rfl
  rw[hkl]at hkid
  obtain⟨jk,qk,capk,rfl,hjk,hl0⟩:=hkid.at (k:=0) rfl
  obtain⟨_,_,_,he1,_,hl1⟩:=hkid.at (k:=1) rfl
  obtain⟨_,_,_,he2,_,hl2⟩:=hkid.at (k:=2) rfl
  injection he1 with he1 _ _
  injection he1 with he1
  injection he1 with he1 he1'
  injection he2 with he2 _ _
  injection he2 with he2
  injection he2 with he2 he2'
  subst he1;subst he1';subst he2;subst he2'
  have i0:CQ prog 30 (.slice (some (jk,qk)) 3 capk) (.int .i64 0)=some (.ptr (some (jk,qk+0 * 1))):=Cj (P:=prog) underlying30 HC (show 0<3 by omega)
  have i1:CQ prog 30 (.slice (some (jk,qk)) 3 capk) (.int .i64 1)=some (.ptr (some (jk,qk+1 * 1))):=Cj (P:=prog) underlying30 HC (show 1<3 by omega)
  have i2:CQ prog 30 (.slice (some (jk,qk)) 3 capk) (.int .i64 2)=some (.ptr (some (jk,qk+2 * 1))):=Cj (P:=prog) underlying30 HC (show 2<3 by omega)
  have q1:=h.old o1
  have cf:=hf.old o1
  have c1:=h1.old o1
  have c2:=h2.old o1
  have c3:=h3.old o1
  have hb1:=o1.1
  generalize hbb:s1.next=bb at hb1
  have hs1:s1=ext s1 []:=(Ca s1).symm
  have hjb:jk<bb:=by omega
  have ek:∀os,(ext s1 os).heap.get jk=s1.heap.get jk:=fun os=>Cm (by omega)
  have m0:∀os,DY ((ext s1 os).heap.get jk) (qk+0 * 1)=some (iv (ix L.S d:Int)):=fun os=>by rw[ek];exact hl0
  have m1:∀os,DY ((ext s1 os).heap.get jk) (qk+1 * 1)=some (iv (ix L.S k:Int)):=fun os=>by rw[ek];exact hl1
  have m2:∀os,DY ((ext s1 os).heap.get jk) (qk+2 * 1)=some (iv (ix L.S a:Int)):=fun os=>by rw[ek];exact hl2
  rw[hs1]
  simp only[jU,i0,i1,i2,Ee,HC,A6B,hbb,m0,m1,m2,F4,Cq,Dk,A9U,A9S,A9T,Qb,QS,Wg,Nat.reduceAdd,Nat.reduceLT]
  have tu:=hu
  have td:Tn L.S d (ix L.S d:Int):=⟨hdk.1,rfl⟩
  have tk:Tn L.S k (ix L.S k:Int):=⟨hdk.2.1,rfl⟩
  have ta:Tn L.S a (ix L.S a:Int):=⟨hdk.2.2,rfl⟩
  have ob:DL s1.next s1 (ext s1 [R 3 0 false [.int .i64 (ix L.S d:Int)],R 3 0 false [.int .i64 (ix L.S k:Int)]]):=Ci
  have y0:(ext s1 [R 3 0 false [.int .i64 (ix L.S d:Int)],R 3 0 false [.int .i64 (ix L.S k:Int)]]).heap.get (nid bb 0)=some (R 3 0 false [.int .i64 (ix L.S d:Int)]):=by rw[CR hbb (by simp)];rfl
  have y1:(ext s1 [R 3 0 false [.int .i64 (ix L.S d:Int)],R 3 0 false [.int .i64 (ix L.S k:Int)]]).heap.get (nid bb 1)=some (R 3 0 false [.int .i64 (ix L.S k:Int)]):=by rw[CR hbb (by simp)];rfl
  have ny:(ext s1 [R 3 0 false [.int .i64 (ix L.S d:Int)],R 3 0 false [.int .i64 (ix L.S k:Int)]]).next=bb+2:=by rw[Ce,hbb,CN];rfl
  simp only[jV,List.take,List.drop,Qb,QS]
  generalize ext s1 [R 3 0 false [.int .i64 (ix L.S d:Int)],R 3 0 false [.int .i64 (ix L.S k:Int)]]=sb at ob y0 y1 ny
  have xb:=q1.old ob
  have cf:=cf.old ob
  have c1:=c1.old ob
  have c2:=c2.old ob
  have c3:=c3.old ob
  have c6:Kp sb O (nid bb 0) (R 3 0 false [iv (ix L.S d:Int)]):=⟨y0,by rw[ny,CN];omega,q1.fresh (by rw[hbb,CN];omega)⟩
  have c7:Kp sb O (nid bb 1) (R 3 0 false [iv (ix L.S k:Int)]):=⟨y1,by rw[ny,CN];omega,q1.fresh (by rw[hbb,CN];omega)⟩
  have g1:=c1.get
  have g2:=c2.get
  have g3:=c3.get
  have g6:=c6.get
  have g7:=c7.get
  have gf:=cf.get
  have lbd:=c6.lt
  have lbk:=c7.lt
  generalize nid bb 0=bd at c6 g6 lbd
  generalize nid bb 1=bk at c7 g7 lbk
  simp only[jW,g1,g2,g6,g7,gf,GU,Ee,GZ,Dt,A9S,Qb,QS,Wg]
  refine Ky hE xb (by omega) (by omega) gf td fun s1x L1 O1 v1 k1 e1 a1=>?_
  have cf:=cf.step k1
  have c1:=c1.step k1
  have c2:=c2.step k1
  have c3:=c3.step k1
  have c6:=c6.step k1
  have c7:=c7.step k1
  have g1:=c1.get
  have g2:=c2.get
  have g3:=c3.get
  have g6:=c6.get
  have g7:=c7.get
  have gf:=cf.get
  have nF1:=k1.nF
  have nS1:=k1.nS
  simp only[g1,g2,g6,g7,gf,GU,Ee,Dt,Cq,Cw,Dk,A9U,A9S,QS,Wg]
  refine IV hE k1.x (by omega) (by omega) gf (tu.pre (k1.S)) (td.pre (k1.S)) fun s2x L2 O2 v2 k2 e2 a2=>?_
  have cf:=cf.step k2
  have c1:=c1.step k2
  have c2:=c2.step k2
  have c3:=c3.step k2
  have c6:=c6.step k2
  have c7:=c7.step k2
  have g1:=c1.get
  have g2:=c2.get
  have g3:=c3.get
  have g6:=c6.get
  have g7:=c7.get
  have gf:=cf.get
  have nF2:=k2.nF
  have nS2:=k2.nS
  generalize hbr1:s2x.next=br1
  have hsr1:s2x=ext s2x []:=(Ca s2x).symm
  rw[hsr1]at g1
  rw[hsr1]at g2
  rw[hsr1]at g3
  rw[hsr1]at g6
  rw[hsr1]at g7
  rw[hsr1]at gf
  rw[hsr1]
  simp only[g1,g2,g6,g7,gf,GU,Ee,Dt,hbr1,EO,Cq,Cw,Dk,A9U,A9S,QS,Wg]
  obtain⟨xr1,r1,or1⟩:=Ls k2.x (R 3 1 false (Dv [v1,v2]))
  rw[hbr1]at r1
  have cf:=cf.old or1
  have c1:=c1.old or1
  have c2:=c2.old or1
  have c3:=c3.old or1
  have c6:=c6.old or1
  have c7:=c7.old or1
  generalize htr1:ext s2x [R 3 1 false (Dv [v1,v2])]=tr1 at xr1 r1 or1 cf c1 c2 c3 c6 c7
  have g1:=c1.get
  have g2:=c2.get
  have g3:=c3.get
  have g6:=c6.get
  have g7:=c7.get
  have gf:=cf.get
  refine VJ hE xr1 (by omega) (by omega) gf (tk.pre (k1.S.trans (k2.S))) fun s3x L3 O3 v3 k3 e3 a3=>?_
  have cf:=cf.step k3
  have c1:=c1.step k3
  have c2:=c2.step k3
  have c3:=c3.step k3
  have c6:=c6.step k3
  have c7:=c7.step k3
  have r1:=r1.step k3
  have g1:=c1.get
  have g2:=c2.get
  have g3:=c3.get
  have g6:=c6.get
  have g7:=c7.get
  have gf:=cf.get
  have nF3:=k3.nF
  have nS3:=k3.nS
  simp only[g1,g2,g6,g7,gf,GU,Ee,Dt,Cq,Cw,Dk,A9U,A9S,QS,Wg]
  refine IV hE k3.x (by omega) (by omega) gf (tu.pre (k1.S.trans (k2.S.trans (k3.S)))) (td.pre (k1.S.trans (k2.S.trans (k3.S)))) fun s4x L4 O4 v4 k4 e4 a4=>?_
  have cf:=cf.step k4
  have c1:=c1.step k4
  have c2:=c2.step k4
  have c3:=c3.step k4
  have c6:=c6.step k4
  have c7:=c7.step k4
  have r1:=r1.step k4
  have g1:=c1.get
  have g2:=c2.get
  have g3:=c3.get
  have g6:=c6.get
  have g7:=c7.get
  have gf:=cf.get
  have nF4:=k4.nF
  have nS4:=k4.nS
  generalize hbr2:s4x.next=br2
  have hsr2:s4x=ext s4x []:=(Ca s4x).symm
  rw[hsr2]at g1
  rw[hsr2]at g2
  rw[hsr2]at g3
  rw[hsr2]at g6
  rw[hsr2]at g7
  rw[hsr2]at gf
  rw[hsr2]
  simp only[g1,g2,g6,g7,gf,GU,Ee,Dt,hbr2,EO,Cq,Cw,Dk,A9U,A9S,QS,Wg]
  obtain⟨xr2,r2,or2⟩:=Ls k4.x (R 3 1 false (Dv [v3,v4]))
  rw[hbr2]at r2
  have cf:=cf.old or2
  have c1:=c1.old or2
  have c2:=c2.old or2
  have c3:=c3.old or2
  have c6:=c6.old or2
  have c7:=c7.old or2
  have r1:=r1.old or2
  generalize htr2:ext s4x [R 3 1 false (Dv [v3,v4])]=tr2 at xr2 r2 or2 cf c1 c2 c3 c6 c7 r1
  have g1:=c1.get
  have g2:=c2.get
  have g3:=c3.get
  have g6:=c6.get
  have g7:=c7.get
  have gf:=cf.get
  refine Ky hE xr2 (by omega) (by omega) gf (td.pre (k1.S.trans (k2.S.trans (k3.S.trans (k4.S))))) fun s5x L5 O5 v5 k5 e5 a5=>?_
  have cf:=cf.step k5
  have c1:=c1.step k5
  have c2:=c2.step k5
  have c3:=c3.step k5
  have c6:=c6.step k5
  have c7:=c7.step k5
  have r1:=r1.step k5
  have r2:=r2.step k5
  have g1:=c1.get
  have g2:=c2.get
  have g3:=c3.get
  have g6:=c6.get
  have g7:=c7.get
  have gf:=cf.get
  have nF5:=k5.nF
  have nS5:=k5.nS
  simp only[g1,g2,g7,gf,GU,Ee,Dt,Cq,Cw,Dk,A9U,A9S,QS,Wg]
  refine SG hE k5.x (by omega) (by omega) a5.lt fun s6x L6 O6 v6 k6 e6 a6=>?_
  have cf:=cf.step k6
  have c1:=c1.step k6
  have c2:=c2.step k6
  have c3:=c3.step k6
  have c6:=c6.step k6
  have c7:=c7.step k6
  have r1:=r1.step k6
  have r2:=r2.step k6
  have g1:=c1.get
  have g2:=c2.get
  have g3:=c3.get
  have g6:=c6.get
  have g7:=c7.get
  have gf:=cf.get
  have nF6:=k6.nF
  have nS6:=k6.nS
  simp only[g1,g2,g7,gf,GU,Ee,Dt,Cq,Cw,Dk,A9U,A9S,QS,Wg]
  refine Ky hE k6.x (by omega) (by omega) gf (tu.pre (k1.S.trans (k2.S.trans (k3.S.trans (k4.S.trans (k5.S.trans (k6.S))))))) fun s7x L7 O7 v7 k7 e7 a7=>?_
  have cf:=cf.step k7
  have c1:=c1.step k7
  have c2:=c2.step k7
  have c3:=c3.step k7
  have c6:=c6.step k7
  have c7:=c7.step k7
  have r1:=r1.step k7
  have r2:=r2.step k7
  have g1:=c1.get
  have g2:=c2.get
  have g3:=c3.get
  have g6:=c6.get
  have g7:=c7.get
  have gf:=cf.get
  have nF7:=k7.nF
  have nS7:=k7.nS
  generalize hbr3:s7x.next=br3
  have hsr3:s7x=ext s7x []:=(Ca s7x).symm
  rw[hsr3]at g1
  rw[hsr3]at g2
  rw[hsr3]at g3
  rw[hsr3]at g6
  rw[hsr3]at g7
  rw[hsr3]at gf
  rw[hsr3]
  simp only[g1,g2,g7,gf,GU,Ee,Dt,hbr3,EO,Cq,Cw,Dk,A9U,A9S,QS,Wg]
  obtain⟨xr3,r3,or3⟩:=Ls k7.x (R 3 1 false (Dv [v6,v7]))
  rw[hbr3]at r3
  have cf:=cf.old or3
  have c1:=c1.old or3
  have c2:=c2.old or3
  have c3:=c3.old or3
  have c6:=c6.old or3
  have c7:=c7.old or3
  have r1:=r1.old or3
  have r2:=r2.old or3
  generalize htr3:ext s7x [R 3 1 false (Dv [v6,v7])]=tr3 at xr3 r3 or3 cf c1 c2 c3 c6 c7 r1 r2
  have g1:=c1.get
  have g2:=c2.get
  have g3:=c3.get
  have g6:=c6.get
  have g7:=c7.get
  have gf:=cf.get
  refine A3X hE xr3 (by omega) (by rw[k7.q,k6.q,k5.q,k4.q,k3.q,k2.q,k1.q]) (tu.pre (k1.S.trans (k2.S.trans (k3.S.trans (k4.S.trans (k5.S.trans (k6.S.trans (k7.S)))))))) (tk.pre (k1.S.trans (k2.S.trans (k3.S.trans (k4.S.trans (k5.S.trans (k6.S.trans (k7.S)))))))) fun s8x L8 O8 v8 k8 e8 a8=>?_
  have cf:=cf.step k8
  have c1:=c1.step k8
  have c2:=c2.step k8
  have c3:=c3.step k8
  have c6:=c6.step k8
  have c7:=c7.step k8
  have r1:=r1.step k8
  have r2:=r2.step k8
  have r3:=r3.step k8
  have g1:=c1.get
  have g2:=c2.get
  have g3:=c3.get
  have g6:=c6.get
  have g7:=c7.get
  have gf:=cf.get
  have nF8:=k8.nF
  have nS8:=k8.nS
  simp only[g1,g2,g7,gf,GU,Ee,Dt,Cq,Cw,Dk,A9U,A9S,QS,Wg]
  refine IV hE k8.x (by omega) (by omega) gf a8 (ta.pre (k1.S.trans (k2.S.trans (k3.S.trans (k4.S.trans (k5.S.trans (k6.S.trans (k7.S.trans (k8.S))))))))) fun s9x L9 O9 v9 k9 e9 a9=>?_
  have cf:=cf.step k9
  have c1:=c1.step k9
  have c2:=c2.step k9
  have c3:=c3.step k9
  have c6:=c6.step k9
  have c7:=c7.step k9
  have r1:=r1.step k9
  have r2:=r2.step k9
  have r3:=r3.step k9
  have g1:=c1.get
  have g2:=c2.get
  have g3:=c3.get
  have g6:=c6.get
  have g7:=c7.get
  have gf:=cf.get
  have nF9:=k9.nF
  have nS9:=k9.nS
  simp only[g1,g2,g7,gf,GU,Ee,Dt,Cq,Cw,Dk,A9U,A9S,QS,Wg]
  refine bX hE k9.x (by omega) (by omega) cf (td.pre (k1.S.trans (k2.S.trans (k3.S.trans (k4.S.trans (k5.S.trans (k6.S.trans (k7.S.trans (k8.S.trans (k9.S)))))))))) (tk.pre (k1.S.trans (k2.S.trans (k3.S.trans (k4.S.trans (k5.S.trans (k6.S.trans (k7.S.trans (k8.S.trans (k9.S)))))))))) c1 c6 c7 fun s10x L10 O10 t10 nd10 st10 ns10 j10 k10 e10 at10 an10 as10 ap10 r4 lj10=>?_
  have cf:=cf.step k10
  have c1:=c1.step k10
  have c2:=c2.step k10
  have c3:=c3.step k10
  have c6:=c6.step k10
  have c7:=c7.step k10
  have r1:=r1.step k10
  have r2:=r2.step k10
  have r3:=r3.step k10
  have g1:=c1.get
  have g2:=c2.get
  have g3:=c3.get
  have g6:=c6.get
  have g7:=c7.get
  have gf:=cf.get
  have nF10:=k10.nF
  have nS10:=k10.nS
  simp only[g1,g2,g7,gf,GU,Ee,Dt,Cq,Cw,Dk,A9U,A9S,QS,Wg]
  refine VX hE k10.x (by omega) (by omega) (tu.pre (k1.S.trans (k2.S.trans (k3.S.trans (k4.S.trans (k5.S.trans (k6.S.trans (k7.S.trans (k8.S.trans (k9.S.trans (k10.S))))))))))) (tk.pre (k1.S.trans (k2.S.trans (k3.S.trans (k4.S.trans (k5.S.trans (k6.S.trans (k7.S.trans (k8.S.trans (k9.S.trans (k10.S))))))))))) fun s11x L11 O11 v11 k11 e11 a11=>?_
  have cf:=cf.step k11
  have c1:=c1.step k11
  have c2:=c2.step k11
  have c3:=c3.step k11
  have c6:=c6.step k11
  have c7:=c7.step k11
  have r1:=r1.step k11
  have r2:=r2.step k11
  have r3:=r3.step k11
  have r4:=r4.step k11
  have g1:=c1.get
  have g2:=c2.get
  have g3:=c3.get
  have g6:=c6.get
  have g7:=c7.get
  have gf:=cf.get
  have nF11:=k11.nF
  have nS11:=k11.nS
  simp only[A9S,QS,Wg]
  refine bX hE k11.x (by omega) (by omega) cf (td.pre (k1.S.trans (k2.S.trans (k3.S.trans (k4.S.trans (k5.S.trans (k6.S.trans (k7.S.trans (k8.S.trans (k9.S.trans (k10.S.trans (k11.S)))))))))))) (tk.pre (k1.S.trans (k2.S.trans (k3.S.trans (k4.S.trans (k5.S.trans (k6.S.trans (k7.S.trans (k8.S.trans (k9.S.trans (k10.S.trans (k11.S)))))))))))) c1 c6 c7 fun s12x L12 O12 t12 nd12 st12 ns12 j12 k12 e12 at12 an12 as12 ap12 r5 lj12=>?_
  have cf:=cf.step k12
  have c1:=c1.step k12
  have c2:=c2.step k12
  have c3:=c3.step k12
  have c6:=c6.step k12
  have c7:=c7.step k12
  have r1:=r1.step k12
  have r2:=r2.step k12
  have r3:=r3.step k12
  have r4:=r4.step k12
  have g1:=c1.get
  have g2:=c2.get
  have g3:=c3.get
  have g6:=c6.get
  have g7:=c7.get
  have gf:=cf.get
  have nF12:=k12.nF
  have nS12:=k12.nS
  generalize hbz:s12x.next=bz
  have hsz:s12x=ext s12x []:=(Ca s12x).symm
  rw[hsz]
  simp only[gY,hbz,A9S,QS,Wg]
  have oz:DL s12x.next s12x (ext s12x [R 30 1 false [.slice (some (nid br1 0,0)) 2 (some 2),.slice (some (nid br2 0,0)) 2 (some 2),.slice (some (nid br3 0,0)) 2 (some 2),.slice (some (j10,0)) 3 (some 3),.slice (some (j12,0)) 3 (some 3)]]):=Ci
  have z0:(ext s12x [R 30 1 false [.slice (some (nid br1 0,0)) 2 (some 2),.slice (some (nid br2 0,0)) 2 (some 2),.slice (some (nid br3 0,0)) 2 (some 2),.slice (some (j10,0)) 3 (some 3),.slice (some (j12,0)) 3 (some 3)]]).heap.get (nid bz 0)=some (R 30 1 false [.slice (some (nid br1 0,0)) 2 (some 2),.slice (some (nid br2 0,0)) 2 (some 2),.slice (some (nid br3 0,0)) 2 (some 2),.slice (some (j10,0)) 3 (some 3),.slice (some (j12,0)) 3 (some 3)]):=by rw[CR hbz (by simp)];rfl
  have nz:(ext s12x [R 30 1 false [.slice (some (nid br1 0,0)) 2 (some 2),.slice (some (nid br2 0,0)) 2 (some 2),.slice (some (nid br3 0,0)) 2 (some 2),.slice (some (j10,0)) 3 (some 3),.slice (some (j12,0)) 3 (some 3)]]).next=bz+1:=by rw[Ce,hbz,CN];rfl
  generalize ext s12x [R 30 1 false _]=sz at oz z0 nz
  have kA:=(((((((((((((k1.trans k2).trans (Dx.old k2.x or1)).trans k3).trans k4).trans (Dx.old k4.x or2)).trans k5).trans k6).trans k7).trans (Dx.old k7.x or3)).trans k8).trans k9).trans k10).trans k11).trans k12
  have kZ:=((Dx.old h (o1.trans (ob.mono o1.1))).trans (kA.trans (Dx.old k12.x oz))).mono (n':=20) (m':=1) (by omega) (by omega)
  have cf:=cf.old oz
  have c1:=c1.old oz
  have c2:=c2.old oz
  have c3:=c3.old oz
  have c6:=c6.old oz
  have c7:=c7.old oz
  have r1:=r1.old oz
  have r2:=r2.old oz
  have r3:=r3.old oz
  have r4:=r4.old oz
  have r5:=r5.old oz
  have nb:s.next≤sb.next:=by have:=ob.1;omega
  have nn2:s.next≤s2x.next:=by have:=k1.nx;have:=k2.nx;omega
  have nn4:s.next≤s4x.next:=by have:=or1.1;have:=k3.nx;have:=k4.nx;omega
  have nn7:s.next≤s7x.next:=by have:=or2.1;have:=k5.nx;have:=k6.nx;have:=k7.nx;omega
  have nn9:s.next≤s9x.next:=by have:=or3.1;have:=k8.nx;have:=k9.nx;omega
  have nn11:s.next≤s11x.next:=by have:=k10.nx;have:=k11.nx;omega
  have nn12:s.next≤bz:=by have:=k12.nx;omega
  have nbz:sb.next≤bz:=by have:=k1.nx;have:=k2.nx;have:=or1.1;have:=k3.nx;have:=k4.nx;have:=or2.1;have:=k5.nx;have:=k6.nx;have:=k7.nx;have:=or3.1;have:=k8.nx;have:=k9.nx;have:=k10.nx;have:=k11.nx;have:=k12.nx;omega
  have out:∀j,j<s.next→j ∉ O→j<bz∧j<sz.next∧j ∉ O12:=fun j hj ho=>⟨by omega,by omega,kZ.out hj ho⟩
  have hal:Ir sz O12 s.next bz (bz+1) (.slice (some (nid bz 0,0)) 5 (some 5)) [[v1,v2],[v3,v4],[v6,v7],[nd10,ns10,v9],[nd12,ns12,v11]]:=by
    refine⟨[.slice (some (nid br1 0,0)) 2 (some 2),.slice (some (nid br2 0,0)) 2 (some 2),.slice (some (nid br3 0,0)) 2 (some 2),.slice (some (j10,0)) 3 (some 3),.slice (some (j12,0)) 3 (some 3)],[],.inl ⟨_,rfl,rfl,rfl,(fun e=>by cases e),fun i o e=>?_⟩,(fun j hj=>by cases hj),fun j hj=>?_,rfl,fun i c hi=>?_⟩
    · injection e with e
      injection e with e1 e2
      subst e1;subst e2
      exact⟨by rw[nz,CN];omega,by rw[Et,z0];exact D3 (A8H _)⟩
    · injection hj with hj
      subst hj
      exact⟨by rw[nz,CN];omega,k12.x.fresh (by rw[hbz,CN];omega),by rw[CN];omega⟩
    · match i,hi with
      | 0,hi=>injection hi with hi;subst hi;exact⟨_,_,rfl,r1,(fun hm=>by cases hm),by rw[CN];omega⟩
      | 1,hi=>injection hi with hi;subst hi;exact⟨_,_,rfl,r2,(fun hm=>by cases hm),by rw[CN];omega⟩
      | 2,hi=>injection hi with hi;subst hi;exact⟨_,_,rfl,r3,(fun hm=>by cases hm),by rw[CN];omega⟩
      | 3,hi=>injection hi with hi;subst hi;exact⟨_,_,rfl,r4,(fun hm=>by cases hm),by omega⟩
      | 4,hi=>injection hi with hi;subst hi;exact⟨_,_,rfl,r5,(fun hm=>by cases hm),by omega⟩
      | n+5,hi=>simp at hi
  have g3:=c3.get
  have hrdZ:Cl sz kv Kl:=hrd.fx kZ.fr fun j hj=>by simpa using hks j hj
  have hkl:=hrdZ.len
  simp only[jX,g3,IT,hkl,Qb,QS,Wg]
  have S0:L.S <+: L12.S:=kZ.S
  have F0:L.F <+: L12.F:=kZ.F
  have T1:L1.S <+: L12.S:=k2.S.trans (k3.S.trans (k4.S.trans (k5.S.trans (k6.S.trans (k7.S.trans (k8.S.trans (k9.S.trans (k10.S.trans (k11.S.trans (k12.S))))))))))
  have G1:L1.F <+: L12.F:=k2.F.trans (k3.F.trans (k4.F.trans (k5.F.trans (k6.F.trans (k7.F.trans (k8.F.trans (k9.F.trans (k10.F.trans (k11.F.trans (k12.F))))))))))
  have T2:L2.S <+: L12.S:=k3.S.trans (k4.S.trans (k5.S.trans (k6.S.trans (k7.S.trans (k8.S.trans (k9.S.trans (k10.S.trans (k11.S.trans (k12.S)))))))))
  have G2:L2.F <+: L12.F:=k3.F.trans (k4.F.trans (k5.F.trans (k6.F.trans (k7.F.trans (k8.F.trans (k9.F.trans (k10.F.trans (k11.F.trans (k12.F)))))))))
  have T3:L3.S <+: L12.S:=k4.S.trans (k5.S.trans (k6.S.trans (k7.S.trans (k8.S.trans (k9.S.trans (k10.S.trans (k11.S.trans (k12.S))))))))
  have G3:L3.F <+: L12.F:=k4.F.trans (k5.F.trans (k6.F.trans (k7.F.trans (k8.F.trans (k9.F.trans (k10.F.trans (k11.F.trans (k12.F))))))))
  have T4:L4.S <+: L12.S:=k5.S.trans (k6.S.trans (k7.S.trans (k8.S.trans (k9.S.trans (k10.S.trans (k11.S.trans (k12.S)))))))
  have G4:L4.F <+: L12.F:=k5.F.trans (k6.F.trans (k7.F.trans (k8.F.trans (k9.F.trans (k10.F.trans (k11.F.trans (k12.F)))))))
  have T5:L5.S <+: L12.S:=k6.S.trans (k7.S.trans (k8.S.trans (k9.S.trans (k10.S.trans (k11.S.trans (k12.S))))))
  have G5:L5.F <+: L12.F:=k6.F.trans (k7.F.trans (k8.F.trans (k9.F.trans (k10.F.trans (k11.F.trans (k12.F))))))
  have T6:L6.S <+: L12.S:=k7.S.trans (k8.S.trans (k9.S.trans (k10.S.trans (k11.S.trans (k12.S)))))
  have G6:L6.F <+: L12.F:=k7.F.trans (k8.F.trans (k9.F.trans (k10.F.trans (k11.F.trans (k12.F)))))
  have T7:L7.S <+: L12.S:=k8.S.trans (k9.S.trans (k10.S.trans (k11.S.trans (k12.S))))
  have G7:L7.F <+: L12.F:=k8.F.trans (k9.F.trans (k10.F.trans (k11.F.trans (k12.F))))
  have T8:L8.S <+: L12.S:=k9.S.trans (k10.S.trans (k11.S.trans (k12.S)))
  have G8:L8.F <+: L12.F:=k9.F.trans (k10.F.trans (k11.F.trans (k12.F)))
  have T9:L9.S <+: L12.S:=k10.S.trans (k11.S.trans (k12.S))
  have G9:L9.F <+: L12.F:=k10.F.trans (k11.F.trans (k12.F))
  have T10:L10.S <+: L12.S:=k11.S.trans (k12.S)
  have G10:L10.F <+: L12.F:=k11.F.trans (k12.F)
  have T11:L11.S <+: L12.S:=k12.S
  have G11:L11.F <+: L12.F:=k12.F
  have A1:=a1.pre G1
  have A2:=a2.pre G2
  have A3:=a3.pre G3
  have A4:=a4.pre G4
  have A5:=a5.pre G5
  have A6:=a6.pre G6
  have A7:=a7.pre G7
  have A9:=a9.pre G9
  have B1:(0≤v1∧v1<L12.F.length)∧(CP L12.F v1).kind≠3:=⟨A1.lt,by rw[A1.kind];exact(FJ _ _ _).1⟩
  have B2:(0≤v2∧v2<L12.F.length)∧(CP L12.F v2).kind≠3:=⟨A2.lt,by rw[A2.kind];exact(HN _ _ _).1⟩
  have B3:(0≤v3∧v3<L12.F.length)∧(CP L12.F v3).kind≠3:=⟨A3.lt,by rw[A3.kind];exact(FJ _ _ _).1⟩
  have B4:(0≤v4∧v4<L12.F.length)∧(CP L12.F v4).kind≠3:=⟨A4.lt,by rw[A4.kind];exact(HN _ _ _).1⟩
  have B6:(0≤v6∧v6<L12.F.length)∧(CP L12.F v6).kind≠3:=A6.lt (by rw[A5.kind];exact(FJ _ _ _).2)
  have B7:(0≤v7∧v7<L12.F.length)∧(CP L12.F v7).kind≠3:=⟨A7.lt,by rw[A7.kind];exact(FJ _ _ _).1⟩
  have B9:(0≤v9∧v9<L12.F.length)∧(CP L12.F v9).kind≠3:=⟨A9.lt,by rw[A9.kind];exact(HN _ _ _).1⟩
  have Bn10:(0≤nd10∧nd10<L12.F.length)∧(CP L12.F nd10).kind≠3:=(an10.pre G10).lt (by rw[(at10.pre G10).kind];exact(FJ _ _ _).2)
  have Bs10:(0≤ns10∧ns10<L12.F.length)∧(CP L12.F ns10).kind≠3:=(ap10.pre G10).lt (by rw[(as10.pre G10).kind];exact(FJ _ _ _).2)
  have B11:(0≤v11∧v11<L12.F.length)∧(CP L12.F v11).kind≠3:=⟨(a11.pre G11).lt,by rw[(a11.pre G11).kind];exact(Gc _ _ _).1⟩
  have Bn12:(0≤nd12∧nd12<L12.F.length)∧(CP L12.F nd12).kind≠3:=an12.lt (by rw[at12.kind];exact(FJ _ _ _).2)
  have Bs12:(0≤ns12∧ns12<L12.F.length)∧(CP L12.F ns12).kind≠3:=ap12.lt (by rw[as12.kind];exact(FJ _ _ _).2)
  have hset:Yw L12 (.upd d k a) d k a [[v1,v2],[v3,v4],[v6,v7],[nd10,ns10,v9],[nd12,ns12,v11]]:=by
    have q5:Av L12.F (Eh L12.S 4 d) v5:=by rw[GP (k5.S.trans T5) 4 (td.pre (k1.S.trans (k2.S.trans (k3.S.trans (k4.S))))).mem];exact A5
    have q7:Av L12.F (Eh L12.S 4 (.upd d k a)) v7:=by rw[GP (k7.S.trans T7) 4 (tu.pre (k1.S.trans (k2.S.trans (k3.S.trans (k4.S.trans (k5.S.trans (k6.S))))))).mem];exact A7
    have qt:Av L12.F (Eh L12.S 4 d) t10:=by rw[GP (k10.S.trans T10) 4 (td.pre (k1.S.trans (k2.S.trans (k3.S.trans (k4.S.trans (k5.S.trans (k6.S.trans (k7.S.trans (k8.S.trans (k9.S)))))))))).mem];exact at10.pre G10
    have qs:Av L12.F (Eh L12.S 3 k) st10:=by rw[GP (k10.S.trans T10) 3 (tk.pre (k1.S.trans (k2.S.trans (k3.S.trans (k4.S.trans (k5.S.trans (k6.S.trans (k7.S.trans (k8.S.trans (k9.S)))))))))).mem];exact as10.pre G10
    have he:v5=t10:=q5.eq qt rfl
    have hnd:nd10=v6:=by
      have h1:=an10.pre G10
      have h2:=A6
      rw[he]at h2
      exact h1.eq h2
    have q9:Av L12.F (FH L12.S (.sel (.upd d k a) k) a) v9:=by rw[F8 (k9.S.trans T9) a8.mem (ta.pre (k1.S.trans (k2.S.trans (k3.S.trans (k4.S.trans (k5.S.trans (k6.S.trans (k7.S.trans (k8.S))))))))).mem];exact A9
    refine⟨v5,v6,v7,st10,ns10,v9,q5,A6,q7,qs,ap10.pre G10,DA T8 a8.mem,q9,by simp,by rw[← hnd];simp⟩
  refine gg hE (s0:=s) (L0:=L) (O0:=O) hg1 (lo:=bz) nn12 hKl Kl [] sz L12 O12 20 1 (bz+1) _ _ _ _ _ _ _ _ _ _ _ rfl kZ (by have:=kZ.nF;omega) (by have:=kZ.nS;omega) cf c1 c2 c6 c7 ⟨?_,?_,?_,?_,?_⟩ (tu.pre S0) (td.pre S0) (tk.pre S0) (fun x hx=>let ⟨tx,htx⟩:=tKl x hx;⟨tx,htx.pre S0⟩) hrdZ (fun j hj=>?_) hal (by omega) (by omega) (by simp only[A8P,A8b];omega)
    ?_ (fun x hx=>by cases hx) fun S' L' O' n' m' hi' v' C' z11 z12 z13 q1 q2 q3 q4 q5 q6 q7 q8 q9 q10=>?_
  · exact(out f hf.lt hf.out).1
  · exact(out b1 h1.lt h1.out).1
  · exact(out b2 h2.lt h2.out).1
  · omega
  · omega
  · have hjs:j<s.next:=by
      rcases hrd with⟨_,rfl⟩ | ⟨i,q,c,rfl,hi,_⟩
      · cases hj
      · injection hj with hj;omega
    have:=out j hjs (hks j hj)
    exact⟨this.2.1,this.1,this.2.2⟩
  · simp only[A9B,A8K,false_imp_iff,implies_true,A9T]
    exact⟨⟨by simp,by simpa using ⟨B1,B2⟩⟩,⟨by simp,by simpa using ⟨B3,B4⟩⟩,⟨by simp,by simpa using ⟨B6,B7⟩⟩,⟨by simp,by simpa using ⟨Bn10,Bs10,B9⟩⟩,⟨by simp,by simpa using ⟨Bn12,Bs12,B11⟩⟩⟩
  · have hlen2 := q6.len
    have nZF:=kZ.nF
    have nZS:=kZ.nS
    have nqF:=q1.nF
    have nqS:=q1.nS
    simp only[bj,hlen2,Qb,QS]
    refine gh hE hY (by omega) C' [] S' L' O' N _ _ _ rfl q1.x (hJ _ _ _ _ _ _ _ _ _ hj q1) (by omega) (by omega) (q6.wide hW nn12) q8 fun S2 L2 O2 var r1 r2 r3=>?_
    simp only[QS]
    rw[if_pos trivial]
    obtain⟨D,hD⟩:=q9
    have hsub:∀c∈[[v1,v2],[v3,v4],[v6,v7],[nd10,ns10,v9],[nd12,ns12,v11]],c∈C':=fun c hc=>by rw[hD];exact A8q.2 (.inl hc)
    have SS:L.S <+: L'.S:=S0.trans q4
    refine hK S2 L2 O2 C' ((q1.weak.trans r1).mono (by omega) (by omega)) r3 ?_ fun x hx=>?_
    · exact hset.mono (q4.trans r1.S) (q5.trans r1.F) hsub (DA S0 hu.mem) (DA S0 hdk.1) (DA S0 hdk.2.1) (DA S0 hdk.2.2)
    · exact(q10 x hx).mono r1.S r1.F (fun c hc=>hc) (DA SS hu.mem) (DA SS hdk.1) (DA SS hdk.2.1)
end
def JX(W:List Nat)(J:JT):Prop:=∀S L O N S',J S L O N→S.next≤S'.next→(∀j∈W,S'.heap.get j=S.heap.get j)→J S' L O N
theorem Pc{lo:Fv}(h1:lo.state=.ready)(h2:lo.pending=none):({ state:=IC (Ef .normal),pending:=Ef .normal,fn:=lo.fn,var:=lo.var,params:=lo.params,assign:=lo.assign,body:=lo.body,dfr:=lo.dfr }:Fv)=lo:=by
 cases lo
 simp only at h1 h2
 subst h1;subst h2
 rfl
section
variable{E:Dw}(hE:Cn E){l p:Nat}{W:List Nat}{J:JT}(hY:qY E l p W J)(hX:JX W J){l2 b4 mk:Nat}(hl2:l2 ∉ W){v0 v1 v2 v3 v5 v6 v7 v8 v9 v10 v11 v12 v13 v14 v15 v16 v17 v18 v19 v20 v21 v22 v23 v24 v25:AV}{lo:Fv}
  (hlo:lo=Gv 67 [v0,v1,v2,v3,.ptr (some (b4,0)),v5,v6,v7,v8,v9,v10,v11,v12,v13,v14,v15,v16,v17,v18,v19,v20,v21,v22,v23,v24,v25] #[55] QZ Q1 mk)
include hE hY hX hl2 hlo
theorem fQ(hl1:1<l2):qY E l2 p (l2::W) (fun S L O N=>J S L O N∧Df S l2=some lo∧l2<S.next∧l2 ∉ O∧Kp S (l2::W++O) b4 (R 121 0 false [.yield l])):=by
  intro S L O N cv c K' hj hx hF hS hrd hsl hcl hK'
  obtain⟨j1,j2,j3,j4,j5⟩:=hj
  have hfn:lo.fn=67:=by rw[hlo];rfl
  have hA:lo.assign=QZ:=by rw[hlo];rfl
  have hB:lo.body=Q1:=by rw[hlo];rfl
  have hrdy:J7 lo.state=true:=by rw[hlo];rfl
  have hpd:lo.pending=none:=by rw[hlo];rfl
  have hst:lo.state=.ready:=by rw[hlo];rfl
  have hz:FW (Fu E.P lo.fn) lo.var lo.params.toList [cv]=some [v0,v1,v2,v3,.ptr (some (b4,0)),v5,v6,v7,v8,v9,v10,v11,v12,v13,v14,v15,v16,v17,v18,v19,v20,v21,v22,v23,cv,v25]:=by
    rw[hfn,hE.P,eN,hlo];rfl
  refine WR.round j2 hz (by rw[hE.P,hfn,hA];exact rI) (by rw[hE.P,hfn,hB];exact rJ) ?_
  refine HB ?_
  simp only[cN,ly,Qa,Qb,QS]
  refine⟨lo,j2,hrdy,HB ?_⟩
  generalize hs4:setObj S l2 (Cg.loop _)=s4
  have n4:s4.next=S.next:=by rw[← hs4];rfl
  have f4:∀j,j≠l2→s4.heap.get j=S.heap.get j:=fun j hj=>by rw[← hs4,CS _ hj]
  have lp4:Df s4 l2=some { lo with state:=.busy }:=by rw[← hs4];exact Ep _ _ _
  have hb4:b4≠l2:=fun e=>j5.out (by simp[e])
  have g4:=(f4 b4 hb4).trans j5.get
  simp only[cO,lz,g4,A4A,Qa,Qb,QS,Wg]
  have hO4:=hx.at_.lt
  have hx4:Lx s4 p L O:=⟨hx.at_.frame (by omega) fun j hj=>f4 j fun e=>by rw[e]at hj;exact j4 hj,hx.two,hx.rest,⟨by rw[Ec (f4 1 fun e=>by omega)];exact hx.glob.1,by rw[n4];exact hx.glob.2.1,hx.glob.2.2⟩⟩
  have hw4:J s4 L O N:=hX _ _ _ _ _ j1 (by omega) fun j hj=>f4 j fun e=>by rw[e]at hj;exact hl2 hj
  refine hY s4 L O N cv c _ hw4 hx4 hF hS (hrd.frame1 (by omega) fun j hj=>f4 j fun e=>hsl j hj (by simp[e])) (fun j hj hm=>hsl j hj (A8J _ hm)) hcl fun S' L' O' k1 k2 k3=>?_
  simp only[QS]
  have l5:Df S' l2=some { lo with state:=.busy }:=(En (k1.keep (by omega) hl2 j4)).trans lp4
  refine⟨_,l5,?_⟩
  have hO':l2 ∉ O':=k1.out (by omega) j4
  have hne:=Pc hst hpd
  have nS:=k1.nx
  show K' (.bool true) (setObj S' l2 (.loop { state:=IC (Ef .normal),pending:=Ef .normal,fn:=lo.fn,var:=lo.var,params:=lo.params,assign:=lo.assign,body:=lo.body,dfr:=lo.dfr }))
  rw[hne]
  have n2:(setObj S' l2 (.loop lo)).next=S'.next:=Cp ..
  have f2:∀j,j≠l2→(setObj S' l2 (.loop lo)).heap.get j=S'.heap.get j:=fun j hj=>CS _ hj
  have lp2:Df (setObj S' l2 (.loop lo)) l2=some lo:=Ep _ _ _
  generalize setObj S' l2 (Cg.loop lo)=S2 at n2 f2 lp2
  have hx2:Lx S2 p L' O':=⟨k1.x.at_.frame (by omega) fun j hj=>f2 j fun e=>by rw[e]at hj;exact hO' hj,k1.x.two,k1.x.rest,⟨by rw[Ec (f2 1 fun e=>by omega)];exact k1.x.glob.1,by rw[n2];exact k1.x.glob.2.1,k1.x.glob.2.2⟩⟩
  refine hK' S2 L' O' ⟨hx2,⟨by omega,fun j hj hn=>?_⟩,fun j hj=>(k1.gr j hj).imp id fun h=>by omega,k1.S,k1.F,k1.A,k1.q,k1.nF,k1.nS⟩ k2 ⟨hX _ _ _ _ _ k3 (by omega) fun j hj=>f2 j fun e=>by rw[e]at hj;exact hl2 hj,lp2,by omega,hO',?_⟩
  · have hj2:j≠l2:=fun e=>hn (by simp[e])
    rw[f2 j hj2,k1.fr.2 j (by omega) (fun hm=>hn (A8J _ hm)),f4 j hj2]
  · have hb4W:b4 ∉ W++O:=fun hm=>j5.out (A8J _ hm)
    refine⟨?_,by have:=j5.lt;omega,fun hm=>?_⟩
    · rw[f2 b4 hb4,k1.fr.2 b4 (by have:=j5.lt;omega) hb4W];exact g4
    · simp only[A8e,A8I]at hm
      rcases hm with hm | hm
      · exact hb4 hm
      · rcases A8q.1             hm with hm | hm
        · exact hb4W (A8q.2 (.inl hm))
        · exact k1.out (by have:=j5.lt;omega) (fun h=>hb4W (A8q.2 (.inr h))) hm
end
end
end Go.Proofs.YtoaaclpjkelofaaGreatDoor.Am
set_option linter.all false
set_option maxRecDepth 20000
namespace Go.Proofs.YtoaaclpjkelofaaGreatDoor.Am
open Go Go.Proofs
noncomputable section
open Tryz
def A0w(L:LG)(d j:Tm)(N:List (List Int)):Prop:=∃hh e,Av L.F (FC L.S d j) hh∧Av L.F (FH L.S (.sel d j) (.con 0)) e∧Tm.sel d j∈L.S∧Tm.con 0∈L.S∧[hh,e]∈N
theorem A0w.mono{L L':LG}{d j:Tm}{N N':List (List Int)}(h:A0w L d j N)(hS:L.S <+: L'.S)(hF:L.F <+: L'.F)(hN:∀c∈N,c∈N')(hd:d∈L.S)(hj:j∈L.S):A0w L' d j N':=by
 obtain⟨hh,e,h1,h2,h3,h4,h5⟩:=h
 refine⟨hh,e,?_,?_,DA hS h3,DA hS h4,hN _ h5⟩
 ·rw[GI hS hd hj];exact h1.pre hF
 ·rw[F8 hS h3 h4];exact h2.pre hF
inductive Is where
 | pl (d j:Tm)
 | st (d k a:Tm)
def Is.cF:Is→Nat
 | .pl _ _=>4
 | .st _ _ _=>2000
def Is.cT:Is→Nat
 | .pl _ _=>0
 | .st _ _ _=>300
def bO(p:Nat)(Ks:List Int)(S:CO)(L:LG)(O:List Nat)(v:AV):Is→Prop
 | .pl d j=>∃C,QH S O v C∧(∀c∈C,iK L.F c)∧C.length≤4∧d∈L.S∧j∈L.S∧A0w L d j C
 | .st d k a=>∃f md mk ms b1 b2 b3 xu kv,v=.func 109 [] [.ptr (some (b1,0)),.ptr (some (b2,0)),.ptr (some (b3,0))]∧Kp S O f (R 117 0 false [.ptr (some (p,0)),.map (some md),.map (some mk),.map (some ms)])∧Kp S O b1 (R 60 0 false [.ptr (some (f,0))]) ∧
   Tn L.S (.upd d k a) xu∧Kp S O b2 (R 3 0 false [iv xu])∧Kp S O b3 (R 30 0 false [kv])∧Cl S kv Ks∧(∀j,EQ kv=some j→j<S.next∧j ∉ O)∧∀x∈Ks,∃t,Tn L.S t x
def uV(Ks:List Int)(L:LG)(N:List (List Int)):Is→Prop
 | .pl d j=>d∈L.S∧j∈L.S∧A0w L d j N
 | .st d k a=>Tm.upd d k a∈L.S∧Yw L (.upd d k a) d k a N∧∀x∈Ks,Um L (.upd d k a) d k N x
theorem Tm.updIn{E:Dw}(hE:Cn E){s:CO}{p:Nat}{L:LG}{O:List Nat}(h:Lx s p L O){d k a:Tm}(hu:Tm.upd d k a∈L.S):d∈L.S∧k∈L.S∧a∈L.S:=by
 have hok:QI L.S:=by
  obtain⟨q,fv,mf,av,mk,X,OS,OB,OA,e⟩:=h.at_.ex
  exact e.terms.ok
 exact⟨(hok.kid hu (k:=d) (by simp[Tm.kids])).1,(hok.kid hu (k:=k) (by simp[Tm.kids])).1,(hok.kid hu (k:=a) (by simp[Tm.kids])).1⟩
theorem uV.mono{E:Dw}(hE:Cn E){s:CO}{p:Nat}{O:List Nat}{Ks:List Int}{L L':LG}{N N':List (List Int)}{i:Is}(hx:Lx s p L O)(h:uV Ks L N i)(hS:L.S <+: L'.S)(hF:L.F <+: L'.F)(hN:∀c∈N,c∈N'):uV Ks L' N' i:=by
 cases i with
 | pl d j=>exact⟨DA hS h.1,DA hS h.2.1,h.2.2.mono hS hF hN h.1 h.2.1⟩
 | st d k a =>
  obtain⟨h1,h2,h3⟩:=h
  obtain⟨i1,i2,i3⟩:=Tm.updIn hE hx h1
  exact⟨DA hS h1,h2.mono hS hF hN h1 i1 i2 i3,fun x hx=>(h3 x hx).mono hS hF hN h1 i1 i2⟩
theorem Kp.offW{S:CO}{O W:List Nat}{j:Nat}{o:Cg}(h:Kp S (W++O) j o):Kp S O j o:=⟨h.get,h.lt,fun hm=>h.out (A8q.2 (.inr hm))⟩
def A3x(p:Nat)(Ks:List Int)(S:CO)(L:LG)(W O:List Nat)(v:AV):Is→Prop
 | .pl d j=>∃C,QH S (W++O) v C∧(∀c∈C,iK L.F c)∧C.length≤4∧d∈L.S∧j∈L.S∧A0w L d j C
 | .st d k a=>∃f md mk ms b1 b2 b3 xu kv,v=.func 109 [] [.ptr (some (b1,0)),.ptr (some (b2,0)),.ptr (some (b3,0))]∧Kp S (W++O) f (R 117 0 false [.ptr (some (p,0)),.map (some md),.map (some mk),.map (some ms)])∧Kp S (W++O) b1 (R 60 0 false [.ptr (some (f,0))]) ∧
   Tn L.S (.upd d k a) xu∧Kp S (W++O) b2 (R 3 0 false [iv xu])∧Kp S (W++O) b3 (R 30 0 false [kv])∧Cl S kv Ks∧(∀j,EQ kv=some j→j<S.next∧j ∉ W++O)∧∀x∈Ks,∃t,Tn L.S t x
section
variable{E:Dw}(hE:Cn E){l p:Nat}{W:List Nat}{J:JT}(hY:qY E l p W J)(hJ:A0t p J){s:CO}{L:LG}{O:List Nat}{N:List (List Int)}(h:Lx s p L O)(hj:J s L O N)(hF:L.F.length+4000<900000)(hS:L.S.length+400<90000)(hW:∀j∈W,j<s.next){Ks:List Int}(hKs:Ks.length≤100)
include hE hY hJ h hj hF hS hW hKs
theorem A3L{v:AV}{i:Is}(hi:A3x p Ks s L W O v i):∃g cap,v=.func g [] cap∧∀K:AV→CO→Prop,(∀S' L' O' C,Dx W p s L O S' L' O' i.cF i.cT→J S' L' O' (C.reverse++N)→uV Ks L' C i→K (.tuple []) S')→WF E g ([]++([.yield l]++cap)) K s:=by
 cases i with
 | pl d j =>
  obtain⟨C,h1,h2,h3,h4,h5,h6⟩:=hi
  obtain⟨b,sv,rfl,hb,har⟩:=id h1
  refine⟨_,_,rfl,fun K hK=>bD hE hY (by omega) h hj (by omega) (by omega) h1 h2 fun S' L' O' k1 k2 k3=>?_⟩
  exact hK S' L' O' C (k1.mono (by show _≤4;omega) (A8H _)) k3 ⟨DA k1.S h4,DA k1.S h5,h6.mono k1.S k1.F (fun c hc=>hc) h4 h5⟩
 | st d k a =>
  obtain⟨f,md,mk,ms,b1,b2,b3,xu,kv,rfl,h2,h3,h4,h5,h6,h7,h8,h9⟩:=hi
  refine⟨_,_,rfl,fun K hK=>mm hE hY hJ h hj hF hS hW h2.offW h3.offW h4 h5.offW h6.offW hKs h7 (fun j hj hm=>(h8 j hj).2 (A8q.2 (.inr hm))) h9 fun S' L' O' C k1 k2 k3 k4=>?_⟩
  exact hK S' L' O' C k1 k2 ⟨DA k1.S h4.mem,k3,k4⟩
end
end
end Go.Proofs.YtoaaclpjkelofaaGreatDoor.Am
set_option linter.all false
set_option maxHeartbeats 1000000
set_option maxRecDepth 20000
namespace Go.Proofs.YtoaaclpjkelofaaGreatDoor.Am
open Go Go.Proofs
noncomputable section
open Tryz
theorem A3x.of{p:Nat}{Ks:List Int}{S:CO}{L:LG}{W O:List Nat}{v:AV}{i:Is}(h:bO p Ks S L (W++O) v i):A3x p Ks S L W O v i:=by
 cases i<;>exact h
theorem bO.fr{p:Nat}{Ks:List Int}{S S':CO}{L L':LG}{X X':List Nat}{v:AV}{i:Is}(h:bO p Ks S L X v i)(f:Eb X S S')(g:DR X X' S)(hS:L.S <+: L'.S)(hF:L.F <+: L'.F):bO p Ks S' L' X' v i:=by
 cases i with
 | pl d j =>
  obtain⟨C,h1,h2,h3,h4,h5,h6⟩:=h
  exact⟨C,h1.fr f g,fun c hc=>(h2 c hc).pre hF,h3,DA hS h4,DA hS h5,h6.mono hS hF (fun c hc=>hc) h4 h5⟩
 | st d kk a =>
  obtain⟨ff,md,mk,ms,b1,b2,b3,xu,kv,h1,h2,h3,h4,h5,h6,h7,h8,h9⟩:=h
  exact⟨ff,md,mk,ms,b1,b2,b3,xu,kv,h1,h2.fr f g,h3.fr f g,h4.pre hS,h5.fr f g,h6.fr f g,h7.fx f fun j hj=>(h8 j hj).2,fun j hj=>⟨by have:=(h8 j hj).1;have:=f.1;omega,fun hm=>(g j hm).elim (h8 j hj).2 fun e=>by have:=(h8 j hj).1;omega⟩,fun x hx=>let ⟨t,ht⟩:=h9 x hx;⟨t,ht.pre hS⟩⟩
theorem bO.sub{p:Nat}{Ks:List Int}{S:CO}{L:LG}{X X':List Nat}{v:AV}{i:Is}(h:bO p Ks S L X v i)(k:∀j∈X',j<S.next→j∈X):bO p Ks S L X' v i:=by
 cases i with
 | pl d j =>
  obtain⟨C,h1,h2⟩:=h
  exact⟨C,h1.sub k,h2⟩
 | st d kk a =>
  obtain⟨ff,md,mk,ms,b1,b2,b3,xu,kv,h1,h2,h3,h4,h5,h6,h7,h8,h9⟩:=h
  exact⟨ff,md,mk,ms,b1,b2,b3,xu,kv,h1,h2.sub k,h3.sub k,h4,h5.sub k,h6.sub k,h7,fun j hj=>⟨(h8 j hj).1,fun hm=>(h8 j hj).2 (k j hm (h8 j hj).1)⟩,h9⟩
theorem bO.fn{p:Nat}{Ks:List Int}{S:CO}{L:LG}{X:List Nat}{v:AV}{i:Is}(h:bO p Ks S L X v i):v.isCell=true∧v.cells=[v]:=by
 cases i with
 | pl d j=>obtain⟨C,⟨b,sv,rfl,_⟩,_⟩:=h;exact⟨rfl,rfl⟩
 | st d kk a=>obtain⟨ff,md,mk,ms,b1,b2,b3,xu,kv,rfl,_⟩:=h;exact⟨rfl,rfl⟩
def Rows(p:Nat)(Ks:List Int)(S:CO)(L:LG)(X:List Nat)(lo hi:Nat)(v:AV)(is:List Is):Prop:=
 ∃vs OB,HD 59 1 S v is.length vs OB∧(∀j∈OB,lo≤j∧j<hi∧j ∉ X)∧∀ (i:Nat) (w:AV),vs[i]? = some w→∃it,is[i]? = some it∧bO p Ks S L (OB++X) w it
theorem Rows.nil(p:Nat)(Ks:List Int)(S:CO)(L:LG)(X:List Nat)(lo hi:Nat):Rows p Ks S L X lo hi (.slice none 0 (some 0)) []:=⟨[],[],HD.nil _ _ _,by simp,by simp⟩
theorem Rows.fr{p:Nat}{Ks:List Int}{S S':CO}{L L':LG}{X X':List Nat}{lo hi:Nat}{v:AV}{is:List Is}(h:Rows p Ks S L X lo hi v is)(f:Eb X S S')(g:DR X X' S)(hS:L.S <+: L'.S)(hF:L.F <+: L'.F):Rows p Ks S' L' X' lo hi v is:=by
 obtain⟨vs,OB,h1,h2,h3⟩:=h
 have hlt:=h1.lt
 refine⟨vs,OB,h1.frame f.1 fun j hj=>f.2 j (hlt j hj) (h2 j hj).2.2,fun j hj=>⟨(h2 j hj).1,(h2 j hj).2.1,fun hm=>(g j hm).elim (h2 j hj).2.2 fun e=>by have:=hlt j hj;omega⟩,fun i w hw=>?_⟩
 obtain⟨it,k1,k2⟩:=h3 i w hw
 refine⟨it,k1,k2.fr (f.sub fun j hj=>A8q.2 (.inr hj)) (fun j hj=>?_) hS hF⟩
 rcases A8q.1 hj with hj | hj
 ·exact .inl (A8q.2 (.inl hj))
 ·exact(g j hj).imp (fun e=>A8q.2 (.inr e)) id
theorem Rows.stp{p:Nat}{Ks:List Int}{S S':CO}{L L':LG}{W O O':List Nat}{lo hi n m:Nat}{v:AV}{is:List Is}(h:Rows p Ks S L (W++O) lo hi v is)(k:Dx W p S L O S' L' O' n m):Rows p Ks S' L' (W++O') lo hi v is:=h.fr k.fr k.grW k.S k.F
theorem Rows.old{p:Nat}{Ks:List Int}{S S':CO}{L:LG}{X:List Nat}{lo hi:Nat}{v:AV}{is:List Is}(h:Rows p Ks S L X lo hi v is)(k:DL S.next S S'):Rows p Ks S' L X lo hi v is:=h.fr (k.frO X) (DR.refl X S) (A8h _) (A8h _)
theorem Rows.len{p:Nat}{Ks:List Int}{S:CO}{L:LG}{X:List Nat}{lo hi:Nat}{v:AV}{is:List Is}(h:Rows p Ks S L X lo hi v is)(s:CO):D9 prog s 122 v=some (iv (is.length:Int)):=by
 obtain⟨vs,OB,h1,_⟩:=h
 obtain⟨a,cap,rfl,_⟩:=h1.slice
 exact DQ underlying122
theorem Rows.at{p:Nat}{Ks:List Int}{S:CO}{L:LG}{X:List Nat}{lo hi:Nat}{v:AV}{is:List Is}(h:Rows p Ks S L X lo hi v is){i:Nat}{it:Is}(hi':is[i]? = some it):∃r o cap w,v=.slice (some (r,o)) is.length cap∧DY (S.heap.get r) (o+i)=some w∧bO p Ks S L X w it:=by
 obtain⟨vs,OB,h1,h2,h3⟩:=h
 have hlt:i<vs.length:=by have:=(List.getElem?_eq_some_iff.1 hi').1;have:=h1.len;omega
 obtain⟨it',k1,k2⟩:=h3 i _ (A8O hlt)
 rw[hi']at k1
 injection k1 with k1
 subst k1
 obtain⟨a,cp,rfl,hc⟩:=h1.slice
 obtain⟨r,o,rfl,hr,hl⟩:=hc i _ (A8O hlt)
 rw[Lb]at hl
 exact⟨r,o,cp,_,rfl,hl,k2.sub fun j hj _=>A8q.2 (.inr hj)⟩
theorem qV:FU prog 59 1=true:=by kernel_rfl
theorem iG:EE prog 122=true:=by kernel_rfl
theorem Rows.push{p:Nat}{Ks:List Int}{S:CO}{L:LG}{X:List Nat}{lo hi:Nat}{v:AV}{is:List Is}(h:Rows p Ks S L X lo hi v is){q:Nat}{w:AV}{it:Is}(hq:S.heap.get q=some (R 59 1 false [w]))(hw:∀Y,(∀j∈Y,j∈X∨(lo≤j∧j<hi))→bO p Ks S L Y w it)(hl:is.length≤100000)(hX:∀j∈X,j<S.next)(hlo:lo≤S.next):
    ∃v' S',DE prog S [122,122] [v,.slice (some (q,0)) 1 (some 1)]=some (v',S')∧Rows p Ks S' L X lo S'.next v' (is++[it])∧S'.next=S.next+1∧∀j,j<S.next→(j<lo∨j∈X)→S'.heap.get j=S.heap.get j:=by
  obtain⟨vs,OB,h1,h2,h3⟩:=h
  have hwc:=(hw X fun j hj=>.inl hj).fn
  have hlt:=h1.lt
  have hsrc:FT prog S 59 1 (.slice (some (q,0)) 1 (some 1))=some (1,[w]):=by
    show(Pr _ q 0 1 1).bind _=_
    rw[Jo (l:=[w]) (by rw[Et,hq];exact D3 (A8H _))]
    rfl
  obtain⟨v',S',O',a1,a2,a3,a4,a5,a6⟩:=h1.append (xt:=122) (m:=1) underlying122 A5r A6J (by omega) iG qV (by omega) hsrc rfl (by show(w.isCell && true)=true;rw[hwc.1];rfl) (by omega) (by omega)
  have hvl:vs.length=is.length:=by have:=h1.len;omega
  refine⟨v',S',a1,⟨vs++[w],O',by rw[A8X];exact a2,fun j hj=>?_,fun i w' hi'=>?_⟩,a3,fun j hj hc=>a4 j hj fun hm=>?_⟩
  · have hlt':=a2.lt j hj
    rcases a5 j hj with hm | hm
    · have:=h2 j hm;exact⟨this.1,hlt',this.2.2⟩
    · exact⟨by omega,hlt',fun hx=>by have:=hX j hx;omega⟩
  · have f : Eb  (OB ++ X) S S' := ⟨by omega, fun j hj hn => a4 j hj fun hm => hn (A8q.2             (.inl hm))⟩
    have g:DR (OB++X) (O'++X) S:=fun j hj=>by
      rcases A8q.1 hj with hj | hj
      · exact(a5 j hj).imp (fun e=>A8q.2 (.inl e)) id
      · exact .inl (A8q.2 (.inr hj))
    rcases A8N i vs.length with hlt | hge
    · rw[A8d hlt]at hi'
      obtain⟨it',k1,k2⟩:=h3 i w' hi'
      exact⟨it',by rw[A8d (by omega)];exact k1,k2.fr f g (A8h _) (A8h _)⟩
    · rw [A8g                        hge] at hi'
      rw[A8g (by omega),← hvl]
      match hk:i - vs.length,hi' with
      | 0,hi' =>
        injection hi' with hi';subst hi'
        refine⟨it,rfl,(hw (OB++X) fun j hj=>?_).fr f g (A8h _) (A8h _)⟩
        rcases A8q.1 hj with hj | hj
        · exact .inr ⟨(h2 j hj).1,(h2 j hj).2.1⟩
        · exact .inl hj
      | n+1,hi'=>simp at hi'
  · have h2:=h2 j hm
    rcases hc with hc | hc
    · omega
    · exact h2.2.2 hc
theorem sI{E:Dw}(hE:Cn E){s:CO}{f:Nat}{xu:Int}{kv:AV}(hkv:kv.cells=[kv]){K:AV→CO→Prop}
  (hK:∀s',DL s.next s s'→s'.next=s.next+3→s'.heap.get (nid s.next 0)=some (R 60 0 false [.ptr (some (f,0))])→s'.heap.get (nid s.next 1)=some (R 3 0 false [iv xu])→s'.heap.get (nid s.next 2)=some (R 30 0 false [kv])→K (.func 109 [] [.ptr (some (nid s.next 0,0)),.ptr (some (nid s.next 1,0)),.ptr (some (nid s.next 2,0))]) s'):
  WF E 69 [.ptr (some (f,0)),iv xu,kv] K s:=by
 refine hE.go A2G (by decide) rfl ?_
 generalize hs:s.next=b at hK
 have hs0:s=ext s []:=(Ca s).symm
 rw[hs0]
 simp only[A7d,yh,yi,hs,hkv,List.take,List.drop,Qa,Qb,QS,Wg,Nat.reduceAdd]
 refine hK _ (by rw[← hs];exact Ci) (by rw[Ce,hs,CN];rfl) ?_ ?_ ?_
 ·rw[CR hs (by simp)];rfl
 ·rw[CR hs (by simp)];rfl
 ·rw[CR hs (by simp)];rfl
theorem pm(g:Nat)(b:Option (Nat×Nat)):Cd prog 122 1 (zipIdx [0] [.func g [] [.ptr b]])=some (R 59 1 false [.func g [] [.ptr b]]):=by kernel_rfl
theorem pn(g:Nat)(b c d:Option (Nat×Nat)):Cd prog 122 1 (zipIdx [0] [.func g [] [.ptr b,.ptr c,.ptr d]])=some (R 59 1 false [.func g [] [.ptr b,.ptr c,.ptr d]]):=by kernel_rfl
section
variable{E:Dw}(hE:Cn E){p f md mk ms b3:Nat}{W:List Nat}{s0:CO}{L0:LG}{O0:List Nat}(hf:Kp s0 (W++O0) f (R 117 0 false [.ptr (some (p,0)),.map (some md),.map (some mk),.map (some ms)]))(h3:Kp s0 (W++O0) b3 (R 60 0 false [.ptr (some (f,0))]))
  (hF0:L0.F.length+400<1000000) (hS0:L0.S.length+200<99990) (hW:∀j∈W,j<s0.next) (hg1:1<s0.next) {Kl:List Int} (hKl:Kl.length≤30) {kv:AV} (hkv:Cl s0 kv Kl) (hks:∀j,EQ kv=some j→j<s0.next∧j ∉ W++O0) {d:Tm} {xd:Int} (hd:Tn L0.S d xd) (hKt:∀x∈Kl,∃t,Tn L0.S t x)
include hE hf h3 hF0 hS0 hW hg1 hKl hkv hks hd hKt
theorem fX{M:List Nat}{y0 y1 y2 y4 y8 y9 y10 y11 y12 y13 y18 y19 y20 y21 y22 y23 y24 y25:AV}{Q:Da→Prop}
    (hq:∀S' L' O' n' m' hi' v' is' y7 y17,Dx [] p s0 L0 O0 S' L' O' n' m'→n'≤12 * Kl.length→m'≤5 * Kl.length→Rows p Kl S' L' (W++O') s0.next hi' v' is'→hi'≤S'.next→is'.length=Kl.length→(is'.map Is.cF).sum=4 * is'.length→(is'.map Is.cT).sum=0→(∀x∈Kl,∃t,Tn L0.S t x∧Is.pl d t∈is') →
      Q ⟨.normal,[y0,y1,y2,.ptr (some (b3,0)),y4,iv xd,v',y7,y8,y9,y10,y11,y12,y13,kv,iv (Kl.length:Int),iv (Kl.length:Int),y17,y18,y19,y20,y21,y22,y23,y24,y25],M,S'⟩):
    ∀ (rest done:List Int) (S:CO) (L:LG) (O:List Nat) (n m hi:Nat) (v:AV) (is:List Is) (y7 y17:AV),Kl=done++rest→Dx [] p s0 L0 O0 S L O n m→n≤12 * done.length→m≤5 * done.length→Rows p Kl S L (W++O) s0.next hi v is→hi≤S.next→is.length=done.length→(is.map Is.cF).sum=4 * is.length→(is.map Is.cT).sum=0→(∀x∈done,∃t,Tn L0.S t x∧Is.pl d t∈is) →
      WC E none (Ck.loop Q2) (Cs 2 Q) [y0,y1,y2,.ptr (some (b3,0)),y4,iv xd,v,y7,y8,y9,y10,y11,y12,y13,kv,iv (Kl.length:Int),iv (done.length:Int),y17,y18,y19,y20,y21,y22,y23,y24,y25] M S:=by
  intro rest
  induction rest with
  | nil =>
    intro done S L O n m hi v is y7 y17 hdn hk hn hm hr hhi hil hcF hcT hxs
    have:Kl=done:=by simpa using hdn
    subst this
    refine WC.loop' ?_
    simp only[Q2,mC,A8l,A9a,Qa,Qb,QS]
    rw[if_pos trivial]
    exact hq S L O n m hi v is _ _ hk hn hm hr hhi hil hcF hcT hxs
  | cons x rest ih =>
    intro done S L O n m hi v is y7 y17 hdn hk hn hm hr hhi hil hcF hcT hxs
    refine WC.loop' ?_
    obtain⟨V,hV⟩:∃V,V=Ck.loop Q2:=⟨_,rfl⟩
    rw[← hV]
    have hlt:((done.length:Int)<(Kl.length:Int)):=by rw[hdn];simp;omega
    have hltn:done.length<Kl.length:=by omega
    have hat:Kl[done.length]? = some x:=by rw[hdn];simp
    have hxm:x∈Kl:=A8a hat
    have hkvS:Cl S kv Kl:=hkv.fx hk.fr fun j hj=>by simpa using fun hm=>(hks j hj).2 (A8q.2 (.inr hm))
    obtain⟨r,o,cap,hve,hr1,hl1⟩:=hkvS.at hat
    have e1:=Cj (P:=prog) (cap:=cap) (i:=r) (o:=o) underlying30 HC hltn
    have hadd:i64 ((done.length:Int)+1):=by unfold i64;omega
    obtain⟨t,ht⟩:=hKt x hxm
    have hfS:=hf.fr (hk.weak (W:=W)).fr (hk.weak (W:=W)).grW
    have h3S:=h3.fr (hk.weak (W:=W)).fr (hk.weak (W:=W)).grW
    have g3:=h3S.get
    have nF:=hk.nF
    have nS:=hk.nS
    simp only[Q2,mC,ya,yb,hlt,A9Z,Qa,Qb,QS,hve,e1,Ee,GU,g3,hl1,A8S,Wg]
    refine fD hE hk.x (by omega) (by omega) hfS.offW (hd.pre hk.S) (ht.pre hk.S) fun S1 L1 O1 v1 C k1 q1 q2 q3 q4=>?_
    obtain⟨bb,sv,hv1,_⟩:=q1 [] (by simp)
    subst hv1
    generalize hb1:S1.next=b1
    have hs1:S1=ext S1 []:=(Ca S1).symm
    rw[hs1]
    simp only[pm,hb1,QS,Wg]
    have o2:DL S1.next S1 (ext S1 [R 59 1 false [.func 132 [] [.ptr (some (bb,0))]]]):=Ci
    have gq:(ext S1 [R 59 1 false [.func 132 [] [.ptr (some (bb,0))]]]).heap.get (nid b1 0)=some (R 59 1 false [.func 132 [] [.ptr (some (bb,0))]]):=by rw[CR hb1 (by simp)];rfl
    have n2:(ext S1 [R 59 1 false [.func 132 [] [.ptr (some (bb,0))]]]).next=b1+1:=by rw[Ce,hb1,CN];rfl
    generalize ext S1 [R 59 1 false _]=S2 at o2 gq n2
    have w1:=k1.weak (W:=W)
    have hr2:=(hr.stp w1).old o2
    have x2:=k1.x.old o2
    have nx1:=k1.nx
    have nx0:=hk.nx
    have hX2:∀j∈W++O1,j<S2.next:=fun j hj=>by
      rcases A8q.1 hj with hj | hj
      · have:=hW j hj;omega
      · have:=k1.x.at_.lt j hj;omega
    have itw:∀Y,(∀j∈Y,j∈W++O1∨(s0.next≤j∧j<hi))→bO p Kl S2 L1 Y (.func 132 [] [.ptr (some (bb,0))]) (.pl d t):=fun Y hY=>by
      obtain⟨hh,e,z1,z2,z3,z4,z5⟩:=q3
      refine⟨C,(q1 Y fun j hj=>?_).fr (o2.frO Y) (DR.refl Y S1),q2,q4,(hd.pre (hk.S.trans k1.S)).mem,(ht.pre (hk.S.trans k1.S)).mem,⟨hh,e,z1,z2,z3,z4,z5⟩⟩
      rcases hY j hj with hm | hm
      · rcases A8q.1             hm with hm | hm
        · exact .inr (by have:=hW j hm;omega)
        · exact .inl hm
      · exact .inr (by omega)
    obtain⟨v3,S3,a1,a2,a3,a4⟩:=hr2.push gq itw (by omega) hX2 (by omega)
    simp only[a1,yc,Db _ _ _ _ hadd,Qb,QS]
    have k3:Dx [] p s0 L0 O0 S3 L1 O1 (n+12) (m+5):=by
      have kk:=hk.trans k1
      have O1lt:=k1.x.at_.lt
      refine⟨⟨x2.at_.frame (by omega) fun j hj=>?_,x2.two,x2.rest,⟨?_,?_,x2.glob.2.2⟩⟩,⟨by have:=kk.nx;omega,fun j hj hn'=>?_⟩,kk.gr,kk.S,kk.F,kk.A,kk.q,kk.nF,kk.nS⟩
      · exact a4 j (by have:=O1lt j hj;omega) (.inr (A8q.2 (.inr hj)))
      · have g0:=hk.nx
        rw[Ec (a4 1 (by omega) (.inl hg1))];exact x2.glob.1
      · have:=x2.glob.2.1;omega
      · rw[a4 j (by omega) (.inl hj),o2.2 j (by omega)]
        exact kk.fr.2 j hj hn'
    have:=ih (done++[x]) S3 L1 O1 (n+12) (m+5) S3.next v3 (is++[.pl d t]) (iv x) (.bool true) (by rw[hdn];simp) k3 (by simp;omega) (by simp;omega) a2 (A8H _) (by simp[hil]) (by simp[hcF,Is.cF];omega) (by simp[hcT,Is.cT]) (fun y hy=>by
      rcases A8q.1 hy with hy | hy
      · obtain⟨t',h1,h2⟩:=hxs y hy;exact⟨t',h1,A8q.2 (.inl h2)⟩
      · rw[A9E.1 hy];exact⟨t,ht,A8q.2 (.inr (A9E.2 rfl))⟩)
    rw[← hV,show(done++[x]).length=done.length+1 from by simp,hve]at this
    exact this
end
structure QD(S:CO)(X:List Nat)(b0:Nat)(M:List Nat):Prop where
 nd:M.Nodup
 ok:∀m∈M,Kp S X m .mark∧b0≤m
theorem QD.fr{S S':CO}{X X':List Nat}{b0:Nat}{M:List Nat}(h:QD S X b0 M)(f:Eb X S S')(g:DR X X' S):QD S' X' b0 M:=⟨h.nd,fun m hm=>⟨(h.ok m hm).1.fr f g,(h.ok m hm).2⟩⟩
section
variable{E:Dw}(hE:Cn E){l p:Nat}{W:List Nat}{J:JT}(hY:qY E l p W J)(hJ:A0t p J)(hX:JX W J){b4 b0:Nat}{Kl:List Int}(hKl:Kl.length≤30)
include hE hY hJ hX hKl
theorem gc{lo hi:Nat}{v v0 v1 v2 v3 v5 v6 v7 v9 v10 v11 v12 v13 v14 v15 v16 v17 v18 v24 v25:AV}{is:List Is}(his:is.length≤1000){Q:Da→Prop}:∀ (rest done:List Is)(S:CO)(L:LG)(O:List Nat)(N:List (List Int))(M:List Nat)(y8 y22 y23:AV),is=done++rest→Lx S p L O→J S L O N→L.F.length+(rest.map Is.cF).sum+4000<900000→L.S.length+(rest.map Is.cT).sum+400<90000 →
    Rows p Kl S L (W++O) lo hi v is→Kp S (W++O) b4 (R 121 0 false [.yield l])→(∀j∈W,j<S.next)→QD S (W++O) b0 M→b0≤S.next→(∀it∈done,uV Kl L N it) →
    (∀S' L' O' N' M' y8 y22 y23,Dx W p S L O S' L' O' (rest.map Is.cF).sum (rest.map Is.cT).sum→J S' L' O' N'→(∀c∈N,c∈N')→QD S' (W++O') b0 M'→(∀it∈is,uV Kl L' N' it) →
      Q ⟨.normal,[v0,v1,v2,v3,.ptr (some (b4,0)),v5,v6,v7,y8,v9,v10,v11,v12,v13,v14,v15,v16,v17,v18,v,iv (is.length:Int),iv (is.length:Int),y22,y23,v24,v25],M',S'⟩) →
    WC E none (Ck.loop ON) (Cs 4 Q) [v0,v1,v2,v3,.ptr (some (b4,0)),v5,v6,v7,y8,v9,v10,v11,v12,v13,v14,v15,v16,v17,v18,v,iv (is.length:Int),iv (done.length:Int),y22,y23,v24,v25] M S:=by
  intro rest
  induction rest with
  | nil =>
    intro done S L O N M y8 y22 y23 hdn hx hj hF hS hr h4 hW hM hb hf hq
    have:is=done:=by simpa using hdn
    subst this
    refine WC.loop' ?_
    simp only[ON,ZW,A8l,A9a,Qa,Qb,QS]
    rw[if_pos trivial]
    exact hq S L O N M _ _ _ (Dx.refl hx) hj (fun c hc=>hc) hM hf
  | cons it rest ih =>
    intro done S L O N M y8 y22 y23 hdn hx hj hF hS hr h4 hW hM hb hf hq
    refine WC.loop' ?_
    obtain⟨V,hV⟩:∃V,V=Ck.loop ON:=⟨_,rfl⟩
    rw[← hV]
    have hlt:((done.length:Int)<(is.length:Int)):=by rw[hdn];simp;omega
    have hltn:done.length<is.length:=by omega
    have hat:is[done.length]? = some it:=by rw[hdn];simp
    obtain⟨r,o,cap,w,hve,hl1,hit⟩:=hr.at hat
    have e1:=Cj (P:=prog) (cap:=cap) (i:=r) (o:=o) underlying122 A5r hltn
    have hadd:i64 ((done.length:Int)+1):=by unfold i64;omega
    simp only[A8U,A9L]at hF hS
    simp only[ON,ZW,lv,lw,hlt,A9Z,Qa,Qb,QS,hve,e1,A6G,hl1,A8S,Wg]
    have hn1:(newObj S .mark).next=S.next+1:=rfl
    obtain⟨lo',hlo⟩:∃lo',lo'=Gv 67 [v0,v1,v2,v3,.ptr (some (b4,0)),v5,v6,v7,w,v9,v10,v11,v12,v13,v14,v15,v16,v17,v18,.slice (some (r,o)) is.length cap,iv (is.length:Int),iv (done.length:Int),.bool true,w,v24,v25] #[55] QZ Q1 S.next:=⟨_,rfl⟩
    have hl2:S.next+1 ∉ W:=fun hm=>by have:=hW _ hm;omega
    have hl1':1<S.next+1:=by have:=hx.glob.2.1;omega
    have hO:S.next+1 ∉ O:=fun hm=>by have:=hx.at_.lt _ hm;omega
    have hYi:=fQ hE hY hX hl2 hlo hl1'
    have hJi:A0t p (fun S' L' O' N'=>J S' L' O' N'∧Df S' (S.next+1)=some lo'∧S.next+1<S'.next∧S.next+1 ∉ O'∧Kp S' ((S.next+1)::W++O') b4 (R 121 0 false [.yield l])):=fun A L1 O1 N1 A' L1' O1' n m hj' k=>by
      obtain⟨j1,j2,j3,j4,j5⟩:=hj'
      refine⟨hJ _ _ _ _ _ _ _ _ _ j1 k,(En (k.keep j3 (by simp) j4)).trans j2,by have:=k.nx;omega,k.out j3 j4,j5.fr (k.weak (W:=(S.next+1)::W)).fr (k.weak (W:=(S.next+1)::W)).grW⟩
    obtain⟨S2,hS2⟩:∃S2,S2=newObj (newObj S .mark) (.loop lo'):=⟨_,rfl⟩
    have n2:S2.next=S.next+2:=by rw[hS2];rfl
    have o2:DL S.next S S2:=⟨by omega,fun j hj=>by rw[hS2,DH,if_neg (by omega),DH,if_neg (by omega)]⟩
    have gm2:S2.heap.get S.next=some .mark:=by rw[hS2,DH,if_neg (by omega),DH,if_pos rfl]
    have gl2:Df S2 (S.next+1)=some lo':=by unfold Df;rw[hS2,DH,if_pos hn1.symm]
    have hsub:∀j∈(S.next+1)::W++O,j<S.next→j∈W++O:=fun j hj hlt=>by
      rcases A8I.1 hj with hj | hj
      · omega
      · exact hj
    have hx2:=hx.old o2
    have hit2:A3x p Kl S2 L ((S.next+1)::W) O w it:=A3x.of ((hit.sub hsub).fr (o2.frO _) (DR.refl _ S) (A8h _) (A8h _))
    have hj2:J S2 L O N:=hJ _ _ _ _ _ _ _ 0 0 hj (Dx.old hx o2)
    have h42:Kp S2 ((S.next+1)::W++O) b4 (R 121 0 false [.yield l]):=(h4.sub hsub).old o2
    obtain⟨g,cp,rfl,hrun⟩:=A3L hE hYi hJi hx2 ⟨hj2,gl2,by omega,hO,h42⟩ (by omega) (by omega) (fun j hj=>by
      rcases A8I.1 hj with hj | hj
      · omega
      · have:=hW j hj;omega) (Ks:=Kl) (by omega) hit2
    refine WC.range rfl ?_
    rw[← hlo,← hS2]
    refine hrun _ fun S3 L3 O3 C k3 j3 f3=>?_
    obtain⟨j3,gl3,lt3,no3,h43⟩:=j3
    refine⟨lo',gl3,by rw[hlo];rfl,?_⟩
    have hpd:lo'.pending=none:=by rw[hlo];rfl
    rw[hpd]
    generalize hs4:setObj S3 (S.next+1) _=S4
    have n4:S4.next=S3.next:=by rw[← hs4];rfl
    have f4:∀j,j≠S.next+1→S4.heap.get j=S3.heap.get j:=fun j hj=>by rw[← hs4,CS _ hj]
    have nx3:=k3.nx
    have w4:J S4 L3 O3 (C.reverse++N):=hX _ _ _ _ _ j3 (by omega) fun j hj=>f4 j fun e=>by rw[e]at hj;exact hl2 hj
    have hx4:Lx S4 p L3 O3:=⟨k3.x.at_.frame (by omega) fun j hj=>f4 j fun e=>by rw[e]at hj;exact no3 hj,k3.x.two,k3.x.rest,⟨by rw[Ec (f4 1 (by omega))];exact k3.x.glob.1,by rw[n4];exact k3.x.glob.2.1,k3.x.glob.2.2⟩⟩
    have k4:Dx W p S L O S4 L3 O3 it.cF it.cT:=⟨hx4,⟨by omega,fun j hj hn=>by
      rw[f4 j (by omega),k3.fr.2 j (by omega) (fun hm=>hn (hsub j hm hj)),o2.2 j hj]⟩,fun j hj=>(k3.gr j hj).imp id fun e=>by omega,k3.S,k3.F,k3.A,k3.q,k3.nF,k3.nS⟩
    have hmk:Kp S4 (W++O3) S.next .mark:=by
      have hn:S.next ∉ (S.next+1)::W++O:=fun hm=>by
        rcases A8I.1 hm with hm | hm
        · omega
        · rcases A8q.1             hm with hm | hm
          · have:=hW _ hm;omega
          · have:=hx.at_.lt _ hm;omega
      have hk:=(show Kp S2 ((S.next+1)::W++O) S.next .mark from⟨gm2,by omega,hn⟩).fr k3.fr k3.grW
      exact⟨(f4 _ (by omega)).trans hk.get,by have:=hk.lt;omega,fun hm=>hk.out (A8J _ hm)⟩
    have hM4:=hM.fr k4.fr k4.grW
    have nF4:=k4.nF
    have nS4:=k4.nS
    simp only[PC,mB,Db _ _ _ _ hadd,Qb,QS]
    have:=ih (done++[it]) S4 L3 O3 (C.reverse++N) (S.next::M) (.func g [] cp) (.bool true) (.func g [] cp) (by rw[hdn];simp) hx4 w4 (by omega) (by omega) (hr.stp k4) (h4.fr k4.fr k4.grW) (fun j hj=>by have:=hW j hj;omega) ⟨A8x.2 ⟨fun hm=>by have:=(hM.ok _ hm).1.lt;omega,hM.nd⟩,fun m hm=>by
        rcases A8I.1 hm with rfl | hm
        · exact⟨hmk,hb⟩
        · exact hM4.ok m hm⟩ (by omega) (fun i hi=>by
        rcases A8q.1 hi with hi | hi
        · exact(hf i hi).mono hE hx k4.S k4.F fun c hc=>A8q.2 (.inr hc)
        · rw[A9E.1 hi]
          exact f3.mono hE k3.x (A8h _) (A8h _) fun c hc=>A8q.2 (.inl (List.mem_reverse.2 hc)))
      (fun S' L' O' N' M' y8 y22 y23 z1 z2 z3 z4 z5=>hq S' L' O' N' M' y8 y22 y23 ((k4.trans z1).mono (by simp only[A8U,A9L];omega) (by simp only[A8U,A9L];omega)) z2 (fun c hc=>z3 c (A8q.2 (.inr hc))) z4 z5)
    rw[← hV,show(done++[it]).length=done.length+1 from by simp,hve]at this
    exact this
end
theorem A0j{E:Dw}(hE:Cn E){s:CO}{p:Nat}{L:LG}{O:List Nat}(h:Lx s p L O){K:AV→CO→Prop}(hS:L.S.length<99990){t:Tm}{x:Int}(ht:Tn L.S t x)(hK:∀s',DL s.next s s'→K (iv t.kind) s'):WF E 35 [.ptr (some (L.q,0)),iv x] K s:=by
 rw[ht.num];exact A3O hE h hS ht.mem hK
def Mv(Kl:List Int)(L:LG)(N:List (List Int))(d:Tm):Prop:=(∀y∈Kl,∃t,Tn L.S t y∧uV Kl L N (.pl d t))∧∀d0 k a,d=.upd d0 k a→uV Kl L N (.st d0 k a)
theorem Mv.mono{E:Dw}(hE:Cn E){s:CO}{p:Nat}{O:List Nat}{Kl:List Int}{L L':LG}{N N':List (List Int)}{d:Tm}(hx:Lx s p L O)(h:Mv Kl L N d)(hS:L.S <+: L'.S)(hF:L.F <+: L'.F)(hN:∀c∈N,c∈N'):Mv Kl L' N' d:=
 ⟨fun y hy=>let ⟨t,h1,h2⟩:=h.1 y hy;⟨t,h1.pre hS,h2.mono hE hx hS hF hN⟩,fun d0 k a e=>(h.2 d0 k a e).mono hE hx hS hF hN⟩
structure iP(p f md mk ms b2 b3 b4 l:Nat)(dv' kv':AV)(Dl Kl:List Int)(W:List Nat)(S:CO)(L:LG)(O:List Nat):Prop where
 hf:Kp S (W++O) f (R 117 0 false [.ptr (some (p,0)),.map (some md),.map (some mk),.map (some ms)])
 h2:Kp S (W++O) b2 (R 30 0 false [kv'])
 h3:Kp S (W++O) b3 (R 60 0 false [.ptr (some (f,0))])
 h4:Kp S (W++O) b4 (R 121 0 false [.yield l])
 dv:Cl S dv' Dl
 ds:∀j,EQ dv'=some j→j<S.next∧j ∉ W++O
 kv:Cl S kv' Kl
 ks:∀j,EQ kv'=some j→j<S.next∧j ∉ W++O
 tD:∀x∈Dl,∃t,Tn L.S t x
 tK:∀x∈Kl,∃t,Tn L.S t x
 lt:∀j∈W,j<S.next
theorem iP.stp{p f md mk ms b2 b3 b4 l n m:Nat}{dv kv:AV}{Dl Kl:List Int}{W:List Nat}{S S':CO}{L L':LG}{O O':List Nat}(h:iP p f md mk ms b2 b3 b4 l dv kv Dl Kl W S L O)(k:Dx W p S L O S' L' O' n m):iP p f md mk ms b2 b3 b4 l dv kv Dl Kl W S' L' O':=
 have sl:∀ {v:AV},(∀j,EQ v=some j→j<S.next∧j ∉ W++O)→∀j,EQ v=some j→j<S'.next∧j ∉ W++O':=fun {v} hs j hj=>⟨by have:=(hs j hj).1;have:=k.nx;omega,fun hm=>(k.grW j hm).elim (hs j hj).2 fun e=>by have:=(hs j hj).1;omega⟩
 ⟨h.hf.fr k.fr k.grW,h.h2.fr k.fr k.grW,h.h3.fr k.fr k.grW,h.h4.fr k.fr k.grW,h.dv.fx k.fr fun j hj=>(h.ds j hj).2,sl h.ds,h.kv.fx k.fr fun j hj=>(h.ks j hj).2,sl h.ks,fun x hx=>let ⟨t,ht⟩:=h.tD x hx;⟨t,ht.pre k.S⟩,fun x hx=>let ⟨t,ht⟩:=h.tK x hx;⟨t,ht.pre k.S⟩,fun j hj=>by have:=h.lt j hj;have:=k.nx;omega⟩
theorem pX{p:Nat}{W:List Nat}{s0 S1 S2 S3:CO}{L0 L1:LG}{O0 O1:List Nat}{n m:Nat}(k:Dx [] p s0 L0 O0 S1 L1 O1 n m)(o:DL S1.next S1 S2)(hg1:1<s0.next)(n3:S3.next=S2.next+1)(f3:∀j,j<S2.next→(j<s0.next∨j∈W++O1)→S3.heap.get j=S2.heap.get j):Dx [] p s0 L0 O0 S3 L1 O1 n m:=by
 have x2:=k.x.old o
 have O1lt:=k.x.at_.lt
 have n2:=o.1
 have n1:=k.nx
 refine⟨⟨x2.at_.frame (by omega) fun j hj=>?_,x2.two,x2.rest,⟨?_,?_,x2.glob.2.2⟩⟩,⟨by omega,fun j hj hn'=>?_⟩,k.gr,k.S,k.F,k.A,k.q,k.nF,k.nS⟩
 ·exact f3 j (by have:=O1lt j hj;omega) (.inr (A8q.2 (.inr hj)))
 ·rw[Ec (f3 1 (by omega) (.inl hg1))];exact x2.glob.1
 ·have:=x2.glob.2.1;omega
 ·rw[f3 j (by omega) (.inl hj),o.2 j (by omega)]
  exact k.fr.2 j hj hn'
section
variable{E:Dw}(hE:Cn E){l p:Nat}{W:List Nat}{J:JT}(hY:qY E l p W J)(hJ:A0t p J)(hX:JX W J){f md mk ms b2 b3 b4 b0:Nat}{dv kv:AV}{Dl Kl:List Int}(hKl:Kl.length≤30)(hDl:Dl.length≤30)
include hE hY hJ hX hKl hDl
theorem Zh{y0 y1:AV}{Q:Da→Prop}:∀ (rest done:List Int)(S:CO)(L:LG)(O:List Nat)(N:List (List Int))(M:List Nat)(y5 y6 y7 y8 y9 y13 y14 y15 y16 y17 y18 y19 y20 y21 y22 y23 y24 y25:AV),Dl=done++rest→Lx S p L O→J S L O N→L.F.length+2500 * rest.length+5000<900000→L.S.length+450 * rest.length+500<90000 →
    iP p f md mk ms b2 b3 b4 l dv kv Dl Kl W S L O→QD S (W++O) b0 M→b0≤S.next→(∀x∈done,∃d,Tn L.S d x∧Mv Kl L N d) →
    (∀S' L' O' N' M' var,Dx W p S L O S' L' O' (2500 * rest.length) (450 * rest.length)→J S' L' O' N'→(∀c∈N,c∈N')→QD S' (W++O') b0 M'→(∀x∈Dl,∃d,Tn L'.S d x∧Mv Kl L' N' d)→Q ⟨.normal,var,M',S'⟩) →
    WC E none (Ck.loop Q3) (Cs 0 Q) [y0,y1,.ptr (some (b2,0)),.ptr (some (b3,0)),.ptr (some (b4,0)),y5,y6,y7,y8,y9,dv,iv (Dl.length:Int),iv (done.length:Int),y13,y14,y15,y16,y17,y18,y19,y20,y21,y22,y23,y24,y25] M S:=by
  intro rest
  induction rest with
  | nil =>
    intro done S L O N M y5 y6 y7 y8 y9 y13 y14 y15 y16 y17 y18 y19 y20 y21 y22 y23 y24 y25 hdn hx hj hF hS hc hM hb hf hq
    have:Dl=done:=by simpa using hdn
    subst this
    refine WC.loop' ?_
    simp only[Q3,mA,A8l,A9a,Qa,Qb,QS]
    rw[if_pos trivial]
    exact hq S L O N M _ (Dx.refl hx) hj (fun c hc=>hc) hM hf
  | cons x rest ih =>
    intro done S L O N M y5 y6 y7 y8 y9 y13 y14 y15 y16 y17 y18 y19 y20 y21 y22 y23 y24 y25 hdn hx hj hF hS hc hM hb hf hq
    refine WC.loop' ?_
    obtain⟨V,hV⟩:∃V,V=Ck.loop Q3:=⟨_,rfl⟩
    rw[← hV]
    have hlt:((done.length:Int)<(Dl.length:Int)):=by rw[hdn];simp;omega
    have hltn:done.length<Dl.length:=by omega
    have hat:Dl[done.length]? = some x:=by rw[hdn];simp
    have hxm:x∈Dl:=A8a hat
    obtain⟨r,o,cap,hve,hr1,hl1⟩:=hc.dv.at hat
    have e1:=Cj (P:=prog) (cap:=cap) (i:=r) (o:=o) underlying30 HC hltn
    have hadd:i64 ((done.length:Int)+1):=by unfold i64;omega
    obtain⟨d,hd⟩:=hc.tD x hxm
    have hlenk:∀s,D9 prog s 30 kv=some (iv (Kl.length:Int)):=fun s=>by
      rcases hc.kv with⟨hk1,hk2⟩ | ⟨_,_,_,hk,_⟩
      · rw[hk1,hk2];exact DQ underlying30
      · rw[hk];exact DQ underlying30
    have hkc:kv.cells=[kv]:=by
      rcases hc.kv with⟨hk1,hk2⟩ | ⟨_,_,_,hk,_⟩
      · rw[hk2];rfl
      · rw[hk];rfl
    have g2:=hc.h2.get
    have hg1:=hx.glob.2.1
    simp only[A8P]at hF hS
    simp only[Q3,mA,yX,yY,yZ,hlt,A9Z,Qa,Qb,QS,hve,e1,Ee,IT,g2,hlenk,hl1,A8S,Wg]
    refine fX hE hc.hf hc.h3 (by omega) (by omega) hc.lt hg1 (by omega) hc.kv hc.ks hd hc.tK (M:=M) ?_ Kl [] S L O 0 0 S.next _ [] _ _ rfl (Dx.refl hx) (by simp) (by simp) (Rows.nil _ _ _ _ _ _ _) (A8H _) rfl rfl rfl (by simp)
    intro S1 L1 O1 n1 m1 hi1 v1 is1 y7 y17 k1 hn1 hm1 hr1 hhi1 hil1 hcF1 hcT1 his1
    have c1:=hc.stp k1.weak
    have g3:=c1.h3.get
    have gf:=c1.hf.get
    have g2:=c1.h2.get
    have nF1:=k1.nF
    have nS1:=k1.nS
    simp only[lu,g3,gf,GU,GZ,Dt,Qb,QS,Wg]
    refine LQ hE k1.x ?_
    simp only[QS]
    refine A0j hE k1.x (by omega) (hd.pre k1.S) fun S2 o2=>?_
    have fin:∀ (v3:AV) (is3:List Is) (S3:CO) (hi3:Nat) (z7 z18 z20 z21 z22 z23 z24 z25:AV),Dx [] p S L O S3 L1 O1 n1 m1→Rows p Kl S3 L1 (W++O1) S.next hi3 v3 is3→is3.length≤Kl.length+1→(is3.map Is.cF).sum≤4 * Kl.length+2000→(is3.map Is.cT).sum≤300→(∀y∈Kl,∃t,Tn L.S t y∧Is.pl d t∈is3)→(∀d0 k a,d=.upd d0 k a→Is.st d0 k a∈is3) →
        WC E none (Ck.loop ON) (Cs 4 (Cs 1 (Nr (fun x x_5 x_6=>Qb E ZX (fun v s'=>WC E none V (Cs 0 Q) v x_5 s') [] x x_6) (Nr (WC E none V (Cs 0 Q)) (Cs 0 Q)))))
          [y0,y1,.ptr (some (b2,0)),.ptr (some (b3,0)),.ptr (some (b4,0)),iv x,v3,z7,y8,y9,dv,iv (Dl.length:Int),iv (done.length:Int),.bool true,kv,iv (Kl.length:Int),iv (Kl.length:Int),y17,z18,v3,iv (is3.length:Int),iv 0,z22,z23,z24,z25] M S3:=by
      intro v3 is3 S3 hi3 z7 z18 z20 z21 z22 z23 z24 z25 k3 hr3 hil3 hcF3 hcT3 hpl hst
      have w3:=k3.weak (W:=W)
      have c3:=hc.stp w3
      refine gc hE hY hJ hX (Kl:=Kl) (by omega) (by omega) is3 [] S3 L1 O1 N M y8 z22 z23 rfl k3.x (hJ _ _ _ _ _ _ _ _ _ hj k3) (by omega) (by omega) hr3 c3.h4 c3.lt (hM.fr w3.fr w3.grW) (by have:=k3.nx;omega) (by simp) ?_
      intro S4 L4 O4 N4 M4 z8 z22 z23 k4 j4 h4 m4 f4
      have kk:=(w3.trans k4).mono (n':=2500) (m':=450) (by omega) (by omega)
      have nF4:=kk.nF
      have nS4:=kk.nS
      simp only[ZX,Db _ _ _ _ hadd,Qb,QS]
      have:=ih (done++[x]) S4 L4 O4 N4 M4 (iv x) v3 z7 z8 y9 (.bool true) kv (iv (Kl.length:Int)) (iv (Kl.length:Int)) y17 z18 v3 (iv (is3.length:Int)) (iv (is3.length:Int)) z22 z23 z24 z25 (by rw[hdn];simp) k4.x j4 (by omega) (by omega) (hc.stp kk) m4 (by have:=kk.nx;omega) (fun y hy=>by
        rcases A8q.1 hy with hy | hy
        · obtain⟨d',h1,h2⟩:=hf y hy;exact⟨d',h1.pre kk.S,h2.mono hE hx kk.S kk.F h4⟩
        · rw[A9E.1 hy]
          exact⟨d,hd.pre kk.S,fun y hy=>let ⟨t,h1,h2⟩:=hpl y hy;⟨t,h1.pre kk.S,f4 _ h2⟩,fun d0 k a e=>f4 _ (hst d0 k a e)⟩)
        (fun S' L' O' N' M' var z1 z2 z3 z4 z5=>hq S' L' O' N' M' var ((kk.trans z1).mono (by simp only[A8P];omega) (by simp only[A8P];omega)) z2 (fun c hc=>z3 c (h4 c hc)) z4 z5)
      rw[← hV,show(done++[x]).length=done.length+1 from by simp]at this
      exact this
    rw[← hve]
    have hr2:=hr1.old o2
    have c2:=hc.stp (k1.trans (Dx.old k1.x o2)).weak
    have n2:=o2.1
    by_cases hu:d.kind=4
    · obtain⟨d0,k,a,rfl⟩:∃d0 k a,d=.upd d0 k a:=by
        cases d with
        | upd d0 k a=>exact⟨d0,k,a,rfl⟩
        | _=>simp[Tm.kind]at hu
      have g3:=c2.h3.get
      have g2:=c2.h2.get
      simp only[Wd,hu,A9Z,ZU,ZV,g3,g2,GU,IT,Qb,QS,Wg]
      refine sI hE hkc fun S5 o5 n5 p1 p2 p3=>?_
      generalize hb5:S5.next=b5
      have hs5:S5=ext S5 []:=(Ca S5).symm
      rw[hs5]
      simp only[pn,hb5,QS,Wg]
      have gq:(ext S5 [R 59 1 false [.func 109 [] [.ptr (some (nid S2.next 0,0)),.ptr (some (nid S2.next 1,0)),.ptr (some (nid S2.next 2,0))]]]).heap.get (nid b5 0)=some (R 59 1 false [.func 109 [] [.ptr (some (nid S2.next 0,0)),.ptr (some (nid S2.next 1,0)),.ptr (some (nid S2.next 2,0))]]):=by rw[CR hb5 (by simp)];rfl
      have o6:DL S5.next S5 (ext S5 [R 59 1 false [.func 109 [] [.ptr (some (nid S2.next 0,0)),.ptr (some (nid S2.next 1,0)),.ptr (some (nid S2.next 2,0))]]]):=Ci
      have n6:(ext S5 [R 59 1 false [.func 109 [] [.ptr (some (nid S2.next 0,0)),.ptr (some (nid S2.next 1,0)),.ptr (some (nid S2.next 2,0))]]]).next=b5+1:=by rw[Ce,hb5,CN];rfl
      generalize ext S5 [R 59 1 false _]=S6 at o6 gq n6
      have q1:=(o6.2 (nid S2.next 0) (by rw[CN];omega)).trans p1
      have q2:=(o6.2 (nid S2.next 1) (by rw[CN];omega)).trans p2
      have q3:=(o6.2 (nid S2.next 2) (by rw[CN];omega)).trans p3
      have o26:DL S2.next S2 S6:=o5.trans (o6.mono o5.1)
      have o16:DL S1.next S1 S6:=o2.trans (o26.mono o2.1)
      have hr6:=hr2.old o26
      have c6:=hc.stp (k1.trans (Dx.old k1.x o16)).weak
      have nx1:=k1.nx
      have hlt6:∀j∈W++O1,j<S2.next:=fun j hj=>by
        rcases A8q.1 hj with hj | hj
        · have:=hc.lt j hj;omega
        · have:=k1.x.at_.lt j hj;omega
      have hit:∀Y,(∀j∈Y,j∈W++O1∨(S.next≤j∧j<hi1))→bO p Kl S6 L1 Y (.func 109 [] [.ptr (some (nid S2.next 0,0)),.ptr (some (nid S2.next 1,0)),.ptr (some (nid S2.next 2,0))]) (.st d0 k a):=fun Y hY'=>by
        have old:∀ {j:Nat} {o:Cg},Kp S6 (W++O1) j o→j<S.next→Kp S6 Y j o:=fun {j o} h hj=>⟨h.get,h.lt,fun hm=>(hY' j hm).elim h.out fun e=>by omega⟩
        have new:∀ {j:Nat} {o:Cg},S6.heap.get j=some o→S2.next≤j→j<S6.next→Kp S6 Y j o:=fun {j o} h h1 h2=>⟨h,h2,fun hm=>(hY' j hm).elim (fun e=>by have:=hlt6 j e;omega) fun e=>by omega⟩
        refine⟨f,md,mk,ms,nid S2.next 0,nid S2.next 1,nid S2.next 2,x,kv,rfl,old c6.hf hc.hf.lt,new q1 (by rw[CN];omega) (by rw[CN];omega),hd.pre k1.S,new q2 (by rw[CN];omega) (by rw[CN];omega),new q3 (by rw[CN];omega) (by rw[CN];omega),c6.kv,fun j hj=>⟨(c6.ks j hj).1,fun hm=>(hY' j hm).elim (c6.ks j hj).2 fun e=>by have:=(hc.ks j hj).1;omega⟩,c6.tK⟩
      obtain⟨v7,S7,a1,a2,a3,a4⟩:=hr6.push gq hit (by omega) (fun j hj=>by have:=hlt6 j hj;omega) (by omega)
      have k7:=pX k1 o16 hg1 a3 a4
      have hlen7:∀s,D9 prog s 122 v7=some (iv ((is1++[Is.st d0 k a]).length:Int)):=fun s=>a2.len s
      simp only[a1,hlen7,QS]
      exact fin v7 _ S7 S7.next _ _ y20 y21 _ _ _ _ k7 a2 (by simp;omega) (by simp[hcF1,Is.cF];omega) (by simp[hcT1,Is.cT]) (fun y hy=>let ⟨t,h1,h2⟩:=his1 y hy;⟨t,h1,A8q.2 (.inl h2)⟩) (fun d0' k' a' e=>by injection e with e1 e2 e3;subst e1;subst e2;subst e3;simp)
    · have hlen1:∀s,D9 prog s 122 v1=some (iv (is1.length:Int)):=fun s=>hr1.len s
      simp only[Wd,hu,A9a,ZU,ZV,hlen1,Qb,QS]
      exact fin v1 is1 S2 hi1 _ _ y20 y21 _ _ _ _ (k1.trans (Dx.old k1.x o2)) hr2 (by omega) (by omega) (by omega) his1 (fun d0 k a e=>absurd (by rw[e];rfl) hu)
end
section
variable{E:Dw}(hE:Cn E){l p:Nat}{W:List Nat}{J:JT}(hY:qY E l p W J)(hJ:A0t p J)(hX:JX W J){f md mk ms b1 b2 b3:Nat}{dv kv:AV}{Dl Kl:List Int}(hKl:Kl.length≤30)(hDl:Dl.length≤30)
  {s:CO} {L:LG} {O:List Nat} {N:List (List Int)} (h:Lx s p L O) (hj:J s L O N) (hF:L.F.length+90000<900000) (hS:L.S.length+20000<90000) (hW:∀j∈W,j<s.next)
  (hf:Kp s (W++O) f (R 117 0 false [.ptr (some (p,0)),.map (some md),.map (some mk),.map (some ms)])) (h1:Kp s (W++O) b1 (R 30 0 false [dv])) (h2:Kp s (W++O) b2 (R 30 0 false [kv])) (h3:Kp s (W++O) b3 (R 60 0 false [.ptr (some (f,0))]))
  (hdv:Cl s dv Dl) (hds:∀j,EQ dv=some j→j<s.next∧j ∉ W++O) (hkv:Cl s kv Kl) (hks:∀j,EQ kv=some j→j<s.next∧j ∉ W++O) (tD:∀x∈Dl,∃t,Tn L.S t x) (tK:∀x∈Kl,∃t,Tn L.S t x) {K:AV→CO→Prop}
include hE hY hJ hX hKl hDl h hj hF hS hW hf h1 h2 h3 hdv hds hkv hks tD tK
theorem mc(hK:∀S' L' O' N',Dx W p s L O S' L' O' 75000 13500→J S' L' O' N'→(∀c∈N,c∈N')→(∀x∈Dl,∃d,Tn L'.S d x∧Mv Kl L' N' d)→K (.tuple []) S'):WF E 67 [.yield l,.ptr (some (b1,0)),.ptr (some (b2,0)),.ptr (some (b3,0))] K s:=by
 refine hE.go A2E (by decide) rfl ?_
 have hlend:∀s,D9 prog s 30 dv=some (iv (Dl.length:Int)):=fun s=>by
  rcases hdv with⟨hk1,hk2⟩ | ⟨_,_,_,hk,_⟩
  ·rw[hk1,hk2];exact DQ underlying30
  ·rw[hk];exact DQ underlying30
 generalize hb:s.next=b
 have hs0:s=ext s []:=(Ca s).symm
 rw[hs0]
 have g1:=h1.get
 have n1:=h1.lt
 have nb1:(ext s [R 121 0 false [.yield l]]).heap.get b1=some (R 30 0 false [dv]):=by rw[Cm n1];exact g1
 have hyc:(AV.yield l).cells=[.yield l]:=rfl
 simp only[A7b,yV,yW,hyc,hb,nb1,IT,hlend,Qa,Qb,QS,Wg]
 have o2:DL s.next s (ext s [R 121 0 false [.yield l]]):=Ci
 have n2:(ext s [R 121 0 false [.yield l]]).next=b+1:=by rw[Ce,hb,CN];rfl
 have g4:(ext s [R 121 0 false [.yield l]]).heap.get (nid b 0)=some (R 121 0 false [.yield l]):=by rw[CR hb (by simp)];rfl
 generalize ext s [R 121 0 false [.yield l]]=s2 at o2 n2 g4
 have k2:Dx W p s L O s2 L O 0 0:=Dx.old h o2
 have hc:iP p f md mk ms b2 b3 (nid b 0) l dv kv Dl Kl W s2 L O:=by
  refine⟨hf.old o2,h2.old o2,h3.old o2,⟨g4,by rw[CN];omega,fun hm=>?_⟩,hdv.fx (o2.frO []) (by simp),fun j hj=>⟨by have:=(hds j hj).1;omega,(hds j hj).2⟩,hkv.fx (o2.frO []) (by simp),fun j hj=>⟨by have:=(hks j hj).1;omega,(hks j hj).2⟩,tD,tK,fun j hj=>by have:=hW j hj;omega⟩
  rcases A8q.1 hm with hm | hm
  ·have:=hW _ hm;rw[CN]at this;omega
  ·have:=h.at_.lt _ hm;rw[CN]at this;omega
 refine Zh hE hY hJ hX (b0:=s.next) hKl hDl Dl [] s2 L O N [] _ _ _ _ _ _ _ _ _ _ _ _ _ _ _ _ _ _ rfl k2.x (hJ _ _ _ _ _ _ _ 0 0 hj (Dx.old h o2)) (by omega) (by omega) hc ⟨A9A,by simp⟩ (by omega) (by simp) ?_
 intro S' L' O' N' M' var k3 j3 c3 m3 d3
 obtain⟨S4,u1,u2,u3⟩:=HW M' S' m3.nd fun m hm=>(m3.ok m hm).1.get
 have kk:=(k2.trans k3).mono (n':=75000) (m':=13500) (by omega) (by omega)
 have hMW:∀j,j∈M'→j ∉ W++O':=fun j hj=>(m3.ok j hj).1.out
 simp only[u1,QS]
 have x3:=k3.x
 have nx:=kk.nx
 have k4:Dx W p s L O S4 L' O' 75000 13500:=⟨⟨x3.at_.frame (by omega) fun j hj=>u3 j fun hm=>hMW j hm (A8q.2 (.inr hj)),x3.two,x3.rest,⟨by rw[Ec (u3 1 fun hm=>by have:=(m3.ok 1 hm).2;have:=h.glob.2.1;omega)];exact x3.glob.1,by have:=x3.glob.2.1;omega,x3.glob.2.2⟩⟩,⟨by omega,fun j hj hn=>by
  rw[u3 j fun hm=>by have:=(m3.ok j hm).2;omega];exact kk.fr.2 j hj hn⟩,kk.gr,kk.S,kk.F,kk.A,kk.q,kk.nF,kk.nS⟩
 exact hK S4 L' O' N' k4 (hX _ _ _ _ _ j3 (by omega) fun j hj=>u3 j fun hm=>hMW j hm (A8q.2 (.inl hj))) c3 d3
end
end
end Go.Proofs.YtoaaclpjkelofaaGreatDoor.Am
set_option linter.all false
set_option maxRecDepth 20000
namespace Go.Proofs.YtoaaclpjkelofaaGreatDoor.Am
open Go Go.Proofs
noncomputable section
open Tryz
theorem Lf:∀ (m:Nat)(l:List Int),l.Nodup→(∀x∈l,0≤x∧x<(m:Int))→l.length≤m
  | 0,l,_,h=>by
    cases l with
    | nil=>exact A8H _
    | cons x l=>have:=h x A8M;omega
  | m + 1, l, hn, h => by
    by_cases hm:(m:Int)∈l
    · have h1:=Lf m (l.erase (m:Int)) (hn.erase _) fun x hx=>by
        have:=h x (List.mem_of_mem_erase hx)
        have hne:x≠(m:Int):=fun e=>by subst e;exact(List.Nodup.not_mem_erase hn) hx
        omega
      rw[List.length_erase_of_mem hm]at h1
      omega
    · have:=Lf m l hn fun x hx=>by
        have:=h x hx
        have hne:x≠(m:Int):=fun e=>hm (e▸hx)
        omega
      omega
structure JQ(S:List Tm)(l:List Int):Prop where
 nd:l.Nodup
 t:∀x∈l,∃t,Tn S t x
theorem Tn.rg{S:List Tm}{t:Tm}{x:Int}(h:Tn S t x):0≤x∧x<(S.length:Int):=by
 have:=A9Q h.mem
 rw[h.num];unfold ix;omega
theorem JQ.len{S:List Tm}{l:List Int}(h:JQ S l):l.length≤S.length:=Lf _ _ h.nd fun x hx=>let ⟨_,ht⟩:=h.t x hx;ht.rg
theorem JQ.add{S:List Tm}{l:List Int}(h:JQ S l){t:Tm}{x:Int}(ht:Tn S t x):JQ S (FO l x):=⟨Jt h.nd x,fun y hy=>(EU.1 hy).elim (h.t y) fun e=>⟨t,by rw[e];exact ht⟩⟩
theorem JQ.nil(S:List Tm):JQ S []:=⟨A9A,by simp⟩
structure Fs(S:CO)(L:LG)(O:List Nat)(f p md mk ms:Nat)(Sn D Kk:List Int):Prop where
 hf:S.heap.get f=some (R 117 0 false [.ptr (some (p,0)),.map (some md),.map (some mk),.map (some ms)])
 gd:S.heap.get md=some (.map 3 (Cy D))
 gk:S.heap.get mk=some (.map 3 (Cy Kk))
 gs:S.heap.get ms=some (.map 3 (Cy Sn))
 lt:f<S.next∧md<S.next∧mk<S.next∧ms<S.next
 ne:md≠mk∧md≠ms∧mk≠ms
 out:f ∉ O∧md ∉ O∧mk ∉ O∧ms ∉ O
 tD:JQ L.S D
 tK:JQ L.S Kk
 tS:JQ L.S Sn
section
variable{S:CO}{L:LG}{O:List Nat}{f p md mk ms:Nat}{Sn D Kk:List Int}
theorem Fs.old{S':CO}(h:Fs S L O f p md mk ms Sn D Kk)(k:DL S.next S S'):Fs S' L O f p md mk ms Sn D Kk:=
 ⟨(k.2 _ h.lt.1).trans h.hf,(k.2 _ h.lt.2.1).trans h.gd,(k.2 _ h.lt.2.2.1).trans h.gk,(k.2 _ h.lt.2.2.2).trans h.gs,⟨A8L h.lt.1 k.1,A8L h.lt.2.1 k.1,A8L h.lt.2.2.1 k.1,A8L h.lt.2.2.2 k.1⟩,h.ne,h.out,h.tD,h.tK,h.tS⟩
theorem Fs.nef(h:Fs S L O f p md mk ms Sn D Kk):f≠md∧f≠mk∧f≠ms:=by
 refine⟨fun e=>?_,fun e=>?_,fun e=>?_⟩
 ·have h1:=h.hf;rw[e,h.gd]at h1;cases h1
 ·have h1:=h.hf;rw[e,h.gk]at h1;cases h1
 ·have h1:=h.hf;rw[e,h.gs]at h1;cases h1
theorem J5{s:CO}{g:Nat}{t:TypeId}{es:List (AV×AV)}{cells:List AV}(h:Ja s g cells=true):s.heap.get g≠some (.map t es):=fun e=>by
 unfold Ja at h
 rw[e]at h
 cases h
theorem Lx.maps{S':CO}(h:Lx S p L O)(hs:Fs S L O f p md mk ms Sn D Kk)(k:Eb [md,mk,ms] S S'):Lx S' p L O:=by
  have hlt:=h.at_.lt
  refine⟨h.at_.frame k.1 fun j hj=>k.2 j (hlt j hj) fun hm=>?_,h.two,h.rest,⟨?_,A8L h.glob.2.1 k.1,h.glob.2.2⟩⟩
  · simp only[A8I,A8K,A9V]at hm
    rcases hm with rfl | rfl | rfl
    · exact hs.out.2.1 hj
    · exact hs.out.2.2.1 hj
    · exact hs.out.2.2.2 hj
  · rw [Ec      (k.2 1 h.glob.2.1 fun hm => ?_)]
    · exact h.glob.1
    · simp only[A8I,A8K,A9V]at hm
      rcases hm with e | e | e
      · exact J5 h.glob.1 (by rw[e];exact hs.gd)
      · exact J5 h.glob.1 (by rw[e];exact hs.gk)
      · exact J5 h.glob.1 (by rw[e];exact hs.gs)
theorem gG(s:CO)(xs:List AV):Ig 66 xs s=(match Ml s xs with | some p=>some p | none=>none):=rfl
theorem H9{s:CO}{i j:Nat}{o:Cg}(h:j≠i):(setObj s i o).heap.get j=s.heap.get j:=CS _ h
theorem Fs.seen(h:Fs S L O f p md mk ms Sn D Kk){t:Tm}{x:Int}(ht:Tn L.S t x):Fs (setObj S ms (.map 3 (Cy (FO Sn x)))) L O f p md mk ms (FO Sn x) D Kk:=by
 have hn:=h.nef
 refine⟨?_,?_,?_,Co ..,h.lt,h.ne,h.out,h.tD,h.tK,h.tS.add ht⟩
 ·rw[H9 hn.2.2];exact h.hf
 ·rw[H9 h.ne.2.1];exact h.gd
 ·rw[H9 h.ne.2.2];exact h.gk
theorem Fs.dict(h:Fs S L O f p md mk ms Sn D Kk){t:Tm}{x:Int}(ht:Tn L.S t x):Fs (setObj S md (.map 3 (Cy (FO D x)))) L O f p md mk ms Sn (FO D x) Kk:=by
 have hn:=h.nef
 refine⟨?_,Co ..,?_,?_,h.lt,h.ne,h.out,h.tD.add ht,h.tK,h.tS⟩
 ·rw[H9 hn.1];exact h.hf
 ·rw[H9 (Ne.symm h.ne.1)];exact h.gk
 ·rw[H9 (Ne.symm h.ne.2.1)];exact h.gs
theorem Fs.key(h:Fs S L O f p md mk ms Sn D Kk){t:Tm}{x:Int}(ht:Tn L.S t x):Fs (setObj S mk (.map 3 (Cy (FO Kk x)))) L O f p md mk ms Sn D (FO Kk x):=by
 have hn:=h.nef
 refine⟨?_,?_,Co ..,?_,h.lt,h.ne,h.out,h.tD,h.tK.add ht,h.tS⟩
 ·rw[H9 hn.2.1];exact h.hf
 ·rw[H9 h.ne.1];exact h.gd
 ·rw[H9 (Ne.symm h.ne.2.2)];exact h.gs
theorem Eb.setm{W:List Nat}{s:CO}{i:Nat}(o:Cg)(h:i∈W):Eb W s (setObj s i o):=⟨A8H _,fun j _ hn=>CS _ fun e=>hn (e▸h)⟩
variable{E:Dw}(hE:Cn E)(h:Lx S p L O)(hs:Fs S L O f p md mk ms Sn D Kk)(hS:L.S.length<99990){K:AV→CO→Prop}
include hE h hs hS
theorem tT{d k:Tm}{x y:Int}(hd:Tn L.S d x)(hk:Tn L.S k y)(hK:∀s',Eb [md,mk,ms] S s'→Fs s' L O f p md mk ms Sn (FO D x) (FO Kk y)→K (.tuple []) s'):WF E 66 [.ptr (some (f,0)),iv x,iv y] K S:=by
 have hx:=hd.rg
 have hy:=hk.rg
 have hx64:i64 x:=by unfold i64;omega
 have hy64:i64 y:=by unfold i64;omega
 have l1:FQ S f (0+1)=some (.map (some md)):=by rw[Lb,hs.hf];exact F9 1 rfl
 have l2:FQ S f (0+2)=some (.map (some mk)):=by rw[Lb,hs.hf];exact F9 2 rfl
 have m1:Jf S 3 md=some (Cy D):=by rw[I4,hs.gd,Hk]
 have h2:=hs.dict hd
 have m2:Jf (setObj S md (.map 3 (Cy (FO D x)))) 3 mk=some (Cy Kk):=by rw[I4,h2.gk,Hk]
 have u1:=GF (k:=x) hs.gd hx64
 have u2:=GF (k:=y) h2.gk hy64
 have b1:Nat.ble (Cy D).length 1000000=true:=EA (by unfold Cy;rw[A8c];have:=hs.tD.len;omega)
 have b2:Nat.ble (Cy Kk).length 1000000=true:=EA (by unfold Cy;rw[A8c];have:=hs.tK.len;omega)
 have hp:Ml S [.ptr (some (f,0)),iv x,iv y]=some (.tuple [],setObj (setObj S md (.map 3 (Cy (FO D x)))) mk (.map 3 (Cy (FO Kk y)))):=by
  unfold Ml
  simp only[l1,l2,Option.bind_some,m1,b1,EB,u1,m2,b2,u2]
 refine WF.native (hE.tab _ _ _ _ (by rw[gG,hp])) ?_
 exact hK _ ((Eb.setm (W:=[md,mk,ms]) _ (by simp)).tr (Eb.setm _ (by simp))) (h2.key hk)
end
end
end Go.Proofs.YtoaaclpjkelofaaGreatDoor.Am
set_option linter.all false
set_option maxHeartbeats 1000000
set_option maxRecDepth 20000
namespace Go.Proofs.YtoaaclpjkelofaaGreatDoor.Am
open Go Go.Proofs
noncomputable section
open Tryz
def iR(L:LG)(Sn D Kk:List Int)(m:Int):Prop:=∃u,Tn L.S u m∧(∀k∈u.kids,(ix L.S k:Int)∈Sn)∧(∀a b r,u.kids=a::b::r→(ix L.S a:Int)∈D∧(ix L.S b:Int)∈Kk)∧(u.kind=4→m∈D)
theorem iR.mono{L:LG}{Sn D Kk Sn' D' Kk':List Int}{m:Int}(h:iR L Sn D Kk m)(h1:∀x∈Sn,x∈Sn')(h2:∀x∈D,x∈D')(h3:∀x∈Kk,x∈Kk'):iR L Sn' D' Kk' m:=by
 obtain⟨u,k1,k2,k3,k4⟩:=h
 exact⟨u,k1,fun k hk=>h1 _ (k2 k hk),fun a b r e=>⟨h2 _ (k3 a b r e).1,h3 _ (k3 a b r e).2⟩,fun e=>h2 _ (k4 e)⟩
def WW(E:Dw)(L:LG)(O:List Nat)(f p md mk ms:Nat)(x:Int):Prop:=∀ (S:CO)(Sn D Kk:List Int)(K:AV→CO→Prop),Lx S p L O→Fs S L O f p md mk ms Sn D Kk→(∀m∈Sn,m≤x→iR L Sn D Kk m) →
 (∀s' Sn' D' Kk',Eb [md,mk,ms] S s'→Fs s' L O f p md mk ms Sn' D' Kk'→(∀m∈Sn,m∈Sn')→(∀m∈D,m∈D')→(∀m∈Kk,m∈Kk')→x∈Sn'→(∀m∈Sn',m∈Sn∨iR L Sn' D' Kk' m)→K (.tuple []) s')→WF E 65 [.ptr (some (f,0)),iv x] K S
theorem Cl.noMap{S:CO}{v:AV}{l:List Int}(h:Cl S v l){m:Nat}{t:TypeId}{es:List (AV×AV)}(hm:S.heap.get m=some (.map t es)):EQ v≠some m:=fun e=>by
 rcases h with⟨_,rfl⟩ | ⟨j,q,cap,rfl,_,hl⟩
 ·cases e
 ·injection e with e
  subst e
  rw[hm]at hl
  cases hl
section
variable{E:Dw}(hE:Cn E){L:LG}{O:List Nat}{f p md mk ms:Nat}(hS:L.S.length<99990){t:Tm}{x:Int}(ht:Tn L.S t x)
include hE hS ht
theorem fY(hsp:∀y∈Ew L.S t,WW E L O f p md mk ms y∧y<x){S0:CO}{Sn D Kk:List Int}(hpre:∀m∈Sn,m≤x→iR L Sn D Kk m){v y2 y3 y5 y10 y11:AV}{Q:Da→Prop}
    (hq:∀S' Sn' D' Kk' y4 y9,Lx S' p L O→Eb [md,mk,ms] S0 S'→Fs S' L O f p md mk ms Sn' D' Kk'→Cl S' v (Ew L.S t)→(∀m∈Sn,m∈Sn')→(∀m∈D,m∈D')→(∀m∈Kk,m∈Kk')→x∈Sn'→(∀y∈Ew L.S t,y∈Sn')→(∀m∈Sn',m∈Sn∨m=x∨iR L Sn' D' Kk' m)→Q ⟨.normal,[.ptr (some (f,0)),iv x,y2,y3,y4,y5,v,iv ((Ew L.S t).length:Int),iv ((Ew L.S t).length:Int),y9,y10,y11],[],S'⟩):
    ∀ (rest done:List Int) (S:CO) (Sn1 D1 Kk1:List Int) (y4 y9:AV),Ew L.S t=done++rest→Lx S p L O→Eb [md,mk,ms] S0 S→Fs S L O f p md mk ms Sn1 D1 Kk1→Cl S v (Ew L.S t)→(∀m∈Sn,m∈Sn1)→(∀m∈D,m∈D1)→(∀m∈Kk,m∈Kk1)→x∈Sn1→(∀y∈done,y∈Sn1)→(∀m∈Sn1,m∈Sn∨m=x∨iR L Sn1 D1 Kk1 m) →
      WC E none (Ck.loop Wy) (Cs 0 Q) [.ptr (some (f,0)),iv x,y2,y3,y4,y5,v,iv ((Ew L.S t).length:Int),iv (done.length:Int),y9,y10,y11] [] S:=by
  intro rest
  induction rest with
  | nil =>
    intro done S Sn1 D1 Kk1 y4 y9 hdn hx hfr hs hrd h1 h2 h3 h4 h5 h6
    have hdn:Ew L.S t=done:=by simpa using hdn
    refine WC.loop' ?_
    rw[← hdn]
    simp only[Wy,ls,A8l,A9a,Qa,Qb,QS]
    rw[if_pos trivial]
    exact hq S Sn1 D1 Kk1 _ _ hx hfr hs hrd h1 h2 h3 h4 (by rw[hdn];exact h5) h6
  | cons y rest ih =>
    intro done S Sn1 D1 Kk1 y4 y9 hdn hx hfr hs hrd h1 h2 h3 h4 h5 h6
    refine WC.loop' ?_
    obtain⟨V,hV⟩:∃V,V=Ck.loop Wy:=⟨_,rfl⟩
    rw[← hV]
    have hlt:((done.length:Int)<((Ew L.S t).length:Int)):=by rw[hdn];simp;omega
    have hltn:done.length<(Ew L.S t).length:=by omega
    have hat:(Ew L.S t)[done.length]? = some y:=by rw[hdn];simp
    have hym:=A8a hat
    obtain⟨r,o,cap,hve,hr1,hl1⟩:=hrd.at hat
    have e1:=Cj (P:=prog) (cap:=cap) (i:=r) (o:=o) underlying30 HC hltn
    have hadd:i64 ((done.length:Int)+1):=by
      have:(Ew L.S t).length≤3:=by rw[GK];cases t<;>simp[Tm.kids]
      unfold i64;omega
    obtain⟨hsy,hyx⟩:=hsp y hym
    simp only[Wy,ls,yS,yT,hlt,A9Z,Qa,Qb,QS,hve,e1,Ee,hl1,A8S,Wg]
    refine hsy S Sn1 D1 Kk1 _ hx hs (fun m hm hle=>?_) fun S' Sn2 D2 Kk2 f2 s2 i1 i2 i3 i4 i5=>?_
    · rcases h6 m hm with h | h | h
      · exact(hpre m h (by omega)).mono h1 h2 h3
      · omega
      · exact h
    simp only[yU,Db _ _ _ _ hadd,Qb,QS]
    have hrd':Cl S' v (Ew L.S t):=hrd.fx f2 fun j hj hm=>by
      simp only[A8I,A8K,A9V]at hm
      rcases hm with rfl | rfl | rfl
      · exact hrd.noMap hs.gd hj
      · exact hrd.noMap hs.gk hj
      · exact hrd.noMap hs.gs hj
    have:=ih (done++[y]) S' Sn2 D2 Kk2 (iv y) (.bool true) (by rw[hdn];simp) (hx.maps hs f2) (hfr.tr f2) s2 hrd' (fun m hm=>i1 m (h1 m hm)) (fun m hm=>i2 m (h2 m hm)) (fun m hm=>i3 m (h3 m hm)) (i1 _ h4) (fun z hz=>by
      rcases A8q.1 hz with hz | hz
      · exact i1 z (h5 z hz)
      · rw[A9E.1 hz];exact i4) (fun m hm=>by
      rcases i5 m hm with h | h
      · rcases h6 m h with h | h | h
        · exact .inl h
        · exact .inr (.inl h)
        · exact .inr (.inr (h.mono i1 i2 i3))
      · exact .inr (.inr h))
    rw[← hV,show(done++[y]).length=done.length+1 from by simp,hve]at this
    exact this
end
theorem Oz{E:Dw}(hE:Cn E){L:LG}{O:List Nat}{f p md mk ms:Nat}(hS:L.S.length<99990):∀ (n:Nat)(t:Tm)(x:Int),Tn L.S t x→x<(n:Int)→WW E L O f p md mk ms x
  | 0,t,x,ht,hn=>by have:=ht.rg;omega
  | n + 1, t, x, ht, hn => by
    intro S Sn D Kk K hx hs hpre hK
    have ih:=fun t x h k=>Oz hE (O:=O) (f:=f) (p:=p) (md:=md) (mk:=mk) (ms:=ms) hS n t x h k
    have hrg:=ht.rg
    have hx64:i64 x:=by unfold i64;omega
    have hok:=A6X hE hx hS
    refine hE.go A2D (by decide) rfl ?_
    have hlk:Dy prog S 57 (.map (some ms)) (iv x) true=some (.tuple [.agg [],.bool (decide (x∈Sn))]):=by
      have rm:Gw S 3 ms=some (Cy Sn):=by unfold Gw;rw[hs.gs];simp[CU]
      unfold Dy
      simp only[underlying57,Sf,Do hx64,EB,rm,Option.bind_some,I1]
      by_cases hm:x∈Sn<;>simp[hm,iJ]
    generalize hb:S.next=b
    have hs0:S=ext S []:=(Ca S).symm
    have gf:(ext S []).heap.get f=some (R 117 0 false [.ptr (some (p,0)),.map (some md),.map (some mk),.map (some ms)]):=by rw[Ca];exact hs.hf
    have hlk':Dy prog (ext S []) 57 (.map (some ms)) (iv x) true=some (.tuple [.agg [],.bool (decide (x∈Sn))]):=by rw[Ca];exact hlk
    rw[hs0]
    simp only[A7a,yN,yO,gf,dO,Pn,hlk',F4,iJ,A3a,hb,Qa,Qb,QS,Wg]
    have o1:DL S.next S (ext S [R 63 0 false []]):=Ci
    generalize ext S [R 63 0 false []]=S1 at o1
    have s1:=hs.old o1
    have x1:=hx.old o1
    by_cases hm:x∈Sn
    · simp only[hm,A9Z,QS]
      exact hK S1 Sn D Kk (o1.frO _) s1 (fun _ h=>h) (fun _ h=>h) (fun _ h=>h) hm (fun m h=>.inl h)
    · have u1 := GF          (k := x) s1.gs hx64
      have g1:=s1.hf
      simp only[hm,A9a,yP,g1,dO,Pn,M5,u1,Qb,QS,Wg]
      have s2:=s1.seen ht
      have f2:Eb [md,mk,ms] S1 (setObj S1 ms (.map 3 (Cy (FO Sn x)))):=Eb.setm _ (by simp)
      generalize setObj S1 ms (.map 3 (Cy (FO Sn x)))=S2 at s2 f2
      have x2:=x1.maps s1 f2
      have g2:=s2.hf
      simp only[yQ,g2,GZ,Dt,Qb,QS,Wg]
      refine LQ hE x2 ?_
      simp only[QS]
      refine oI hE x2 hS ht fun v S3 o3 hkid=>?_
      have s3:=s2.old o3
      have x3:=x2.old o3
      have hlen:=hkid.len
      simp only[yR,hlen,Qb,QS]
      refine fY hE hS ht (S0:=S3) (Sn:=Sn) (D:=D) (Kk:=Kk) (fun y hy=>?_) hpre ?_ (Ew L.S t) [] S3 (FO Sn x) D Kk _ _ rfl x3 (Eb.refl _ _) s3 hkid (fun m hm=>EU.2 (.inl hm)) (fun _ h=>h) (fun _ h=>h) (EU.2 (.inr rfl)) (by simp) (fun m hm=>(EU.1 hm).imp id .inl)
      · obtain ⟨u, hu, rfl⟩ := List.mem_map.1 hy
        obtain⟨k1,k2⟩:=hok.kid ht.mem hu
        have hxn:=ht.num
        exact⟨ih u _ ⟨k1,rfl⟩ (by omega),by omega⟩
      · intro S4 Sn4 D4 Kk4 y4 y9 x4 f4 s4 hrd4 i1 i2 i3 i4 i5 i6
        have f04:Eb [md,mk,ms] S S4:=((o1.frO _).tr f2).tr ((o3.frO _).tr f4)
        have hlen4:=hrd4.len
        have fin:∀ (S5:CO) (D5 Kk5:List Int),Lx S5 p L O→Eb [md,mk,ms] S S5→Fs S5 L O f p md mk ms Sn4 D5 Kk5→(∀m∈D4,m∈D5)→(∀m∈Kk4,m∈Kk5)→(∀a b r,t.kids=a::b::r→(ix L.S a:Int)∈D5∧(ix L.S b:Int)∈Kk5) →
            ∀ (y2 y3 y4 y5 y6 y7 y8 y9 y10 y11:AV),Qb E ZS (fun v s'=>KU (Hw v 11) (fun x x_3 x_4=>Qb E ZT (fun v s'=>Jj (EL s' x_3) fun s'=>K (.tuple []) s') [] x x_4) (fun x x_3 x_4=>Jj (EL x_4 x_3) fun s'=>K (.tuple []) s') v [] s') [] [.ptr (some (f,0)),iv x,y2,y3,y4,y5,y6,y7,y8,y9,y10,y11] S5:=by
          intro S5 D5 Kk5 x5 f5 s5 j2 j3 j4 y2 y3 y4 y5 y6 y7 y8 y9 y10 y11
          have g5:=s5.hf
          simp only[ZS,g5,GZ,Dt,Qb,QS,Wg]
          refine LQ hE x5 ?_
          simp only[QS]
          refine A0j hE x5 hS ht fun S6 o6=>?_
          have s6:=s5.old o6
          have hxk:∀k∈t.kids,(ix L.S k:Int)∈Sn4:=fun k hk=>i5 _ (List.mem_map.2 ⟨k,hk,rfl⟩)
          by_cases hu:t.kind=4
          · have g6 := s6.hf
            have u6:=GF (k:=x) s6.gd hx64
            simp only[Wd,hu,A9Z,ZT,g6,dN,Pn,M5,u6,Qb,QS,Wg]
            refine hK _ Sn4 (FO D5 x) Kk5 ((f5.tr (o6.frO _)).tr (Eb.setm _ (by simp))) (s6.dict ht) i1 (fun m hm=>EU.2 (.inl (j2 m (i2 m hm)))) (fun m hm=>j3 m (i3 m hm)) i4 fun m hm=>?_
            rcases i6 m hm with h | h | h
            · exact .inl h
            · refine .inr ⟨t,by rw[h];exact ht,hxk,fun a b r e=>⟨EU.2 (.inl (j4 a b r e).1),(j4 a b r e).2⟩,fun _=>by rw[h];exact EU.2 (.inr rfl)⟩
            · exact .inr (h.mono (fun _ h=>h) (fun m hm=>EU.2 (.inl (j2 m hm))) j3)
          · simp only[Wd,hu,A9a,QS]
            refine hK S6 Sn4 D5 Kk5 (f5.tr (o6.frO _)) s6 i1 (fun m hm=>j2 m (i2 m hm)) (fun m hm=>j3 m (i3 m hm)) i4 fun m hm=>?_
            rcases i6 m hm with h | h | h
            · exact .inl h
            · exact .inr ⟨t,by rw[h];exact ht,hxk,j4,fun e=>absurd e hu⟩
            · exact .inr (h.mono (fun _ h=>h) j2 j3)
        cases hk:t.kids with
        | nil =>
          have h0:(Ew L.S t).length=0:=by rw[GK,hk];rfl
          simp only[ZR,hlen4,Wa,h0,Int.natCast_zero,A8l,A9a,Qb,QS]
          exact fin S4 D4 Kk4 x4 f04 s4 (fun _ h=>h) (fun _ h=>h) (fun a b r e=>by rw[hk]at e;cases e) _ _ _ _ _ _ _ _ _ _
        | cons a r1 =>
          obtain⟨c,r,hr⟩:∃c r,r1=c::r:=by
            cases t with
            | sel d k=>exact⟨k,[],by simp[Tm.kids]at hk;exact hk.2.symm⟩
            | upd d k a=>exact⟨k,[a],by simp[Tm.kids]at hk;exact hk.2.symm⟩
            | _=>simp[Tm.kids]at hk
          subst hr
          have hkl:Ew L.S t=(ix L.S a:Int)::(ix L.S c:Int)::r.map fun u=>(ix L.S u:Int):=by unfold Ew;rw[hk];rfl
          have hpos:(0:Int)<((Ew L.S t).length:Int):=by rw[hkl];simp;omega
          have hpos2:1<(Ew L.S t).length:=by rw[hkl];simp
          obtain⟨j0,q0,cap0,hv0,hj0,hl0⟩:=hrd4.at (k:=0) (by rw[hkl];rfl)
          obtain⟨j1,q1,cap1,hv1,hj1,hl1⟩:=hrd4.at (k:=1) (by rw[hkl];rfl)
          have e0:=Cj (P:=prog) (cap:=cap0) (i:=j0) (o:=q0) underlying30 HC (show 0<(Ew L.S t).length by omega)
          have e1:=Cj (P:=prog) (cap:=cap1) (i:=j1) (o:=q1) underlying30 HC hpos2
          rw[← hv0]at e0
          rw[← hv1]at e1
          have e0':CQ prog 30 v (.int .i64 0)=_:=e0
          have e1':CQ prog 30 v (.int .i64 1)=_:=e1
          have hka:=hok.kid ht.mem (k:=a) (by rw[hk];simp)
          have hkc:=hok.kid ht.mem (k:=c) (by rw[hk];simp)
          simp only[ZR,lr,hlen4,Wa,hpos,A9Z,e0',e1',Ee,hl0,hl1,A8S,Qb,QS,Wg]
          refine tT hE x4 s4 hS ⟨hka.1,rfl⟩ ⟨hkc.1,rfl⟩ fun S5 f5 s5=>?_
          simp only[QS]
          exact fin S5 _ _ (x4.maps s4 f5) (f04.tr f5) s5 (fun m hm=>EU.2 (.inl hm)) (fun m hm=>EU.2 (.inl hm)) (fun a' b' r' e=>by
            rw[hk]at e
            injection e with e1 e2
            injection e2 with e2 e3
            subst e1;subst e2
            exact⟨EU.2 (.inr rfl),EU.2 (.inr rfl)⟩) _ _ _ _ _ _ _ _ _ _
theorem sw:D8 prog 57=some 3:=by kernel_rfl
theorem eK(a:Option (Nat×Nat))(b c d:Option Nat):C8 prog 117 (zipIdx [0,1,2,3] [.ptr a,.map b,.map c,.map d])=some (.agg [.ptr a,.map b,.map c,.map d]):=by kernel_rfl
theorem ie{s:CO}{j:Nat}{a b:Int}(hg:s.heap.get j=some (R 3 1 true (Dv [a,b]))):DE prog s [30,30] [.slice (some (j,0)) 2 none,.slice none 0 (some 0)]=some (.slice (some (j,0)) 2 none,s):=by
 rw[HI (m:=0) (add:=[]) (e:=3) (size:=1) underlying30 HC A6H (by omega) WO rfl rfl (by omega) (by omega)]
 have hr:rowAt s j=th (some (R 3 1 true (Dv [a,b]))):=by rw[Hc,hg]
 show(rowAt s j).bind _=_
 rw[hr]
 rfl
section
variable{E:Dw}(hE:Cn E){s:CO}{p:Nat}{L:LG}{O:List Nat}(h:Lx s p L O)(hS:L.S.length<99990){x:Int}(hx:0≤x∧x<L.F.length)(hk:6≤(CP L.F x).kind∧(CP L.F x).kind<8)(hkids:(CP L.F x).kids=[])(hix:(IH L.F (CP L.F x).key:Int)=x)(hF:L.F.length<1000000)
  {t1 t2:Tm} (ht1:Tn L.S t1 (CP L.F x).p0) (ht2:Tn L.S t2 (CP L.F x).p1) {v:AV} (hv:Cl s v [x]) {K:AV→CO→Prop}
include hE h hS hx hk hkids hix hF ht1 ht2 hv
theorem mh(hK:∀s' f md mk ms Sn D Kk,DL s.next s s'→Lx s' p L O→Fs s' L O f p md mk ms Sn D Kk→s.next≤f→(∀m∈Sn,iR L Sn D Kk m)→(CP L.F x).p0∈Sn→(CP L.F x).p1∈Sn→K (.ptr (some (f,0))) s'):WF E 29 [.ptr (some (p,0)),v] K s:=by
  refine hE.go A1f (by decide) rfl ?_
  obtain⟨r,o,cap,hve,hr1,hl1⟩:=hv.at (k:=0) rfl
  subst hve
  have hlen:=hv.len
  have hx64:i64 x:=by unfold i64;omega
  generalize hb:s.next=b
  have hs0:s=ext s []:=(Ca s).symm
  rw[hs0]
  have hlen':∀s',D9 prog s' 30 (.slice (some (r,o)) 1 cap)=some (iv 1):=hlen
  simp only[A7C,vy,vz,wA,sw,eK,hb,hlen',Qa,Qb,QS,Wg,Nat.reduceAdd]
  have o1:DL s.next s (ext s [.map 3 [],.map 3 [],.map 3 [],R 117 0 false [.ptr (some (p,0)),.map (some (nid b 0)),.map (some (nid b 1)),.map (some (nid b 2))]]):=Ci
  have n1:(ext s [.map 3 [],.map 3 [],.map 3 [],R 117 0 false [.ptr (some (p,0)),.map (some (nid b 0)),.map (some (nid b 1)),.map (some (nid b 2))]]).next=b+4:=by rw[Ce,hb,CN];rfl
  have ga:∀i,i<4→(ext s [.map 3 [],.map 3 [],.map 3 [],R 117 0 false [.ptr (some (p,0)),.map (some (nid b 0)),.map (some (nid b 1)),.map (some (nid b 2))]]).heap.get (nid b i)=[Cg.map 3 [],.map 3 [],.map 3 [],R 117 0 false [.ptr (some (p,0)),.map (some (nid b 0)),.map (some (nid b 1)),.map (some (nid b 2))]][i]? := fun i hi=>CR hb (by simpa using hi)
  generalize ext s [.map 3 [],.map 3 [],.map 3 [],R 117 0 false _]=s1 at o1 n1 ga
  have x1:=h.old o1
  have fresh:∀i,nid b i ∉ O:=fun i=>h.fresh (by rw[CN];omega)
  have f1:Fs s1 L O (nid b 3) p (nid b 0) (nid b 1) (nid b 2) [] [] []:=⟨ga 3 (by omega),ga 0 (by omega),ga 1 (by omega),ga 2 (by omega),⟨by rw[CN];omega,by rw[CN];omega,by rw[CN];omega,by rw[CN];omega⟩,⟨by simp only[CN];omega,by simp only[CN];omega,by simp only[CN];omega⟩,⟨fresh 3,fresh 0,fresh 1,fresh 2⟩,JQ.nil _,JQ.nil _,JQ.nil _⟩
  have h01:decide ((0:Int)<1)=true:=rfl
  have h11:decide ((1:Int)<1)=false:=rfl
  have h02:decide ((0:Int)<2)=true:=rfl
  have h12:decide ((1:Int)<2)=true:=rfl
  have h22:decide ((2:Int)<2)=false:=rfl
  have a01:(0:Int)+1=1:=rfl
  have a12:(1:Int)+1=2:=rfl
  have i1:i64 ((0:Int)+1):=by unfold i64;omega
  have i2:i64 ((1:Int)+1):=by unfold i64;omega
  have b1:Ch prog .add 3 (.int .i64 0) (.int .i64 1)=some (iv 1):=Db _ _ 0 1 i1
  have b2:Ch prog .add 3 (.int .i64 1) (.int .i64 1)=some (iv 2):=Db _ _ 1 1 i2
  have e1:CQ prog 30 (.slice (some (r,o)) 1 cap) (.int .i64 0)=some (.ptr (some (r,o+0 * 1))):=Cj (P:=prog) (cap:=cap) (i:=r) (o:=o) underlying30 HC (show 0<1 by omega)
  have hl1':DY (s1.heap.get r) o=some (iv x):=by rw[o1.2 r hr1];exact hl1
  refine WC.loop' ?_
  obtain⟨V20,hV20⟩:∃V,V=Ck.loop U5:=⟨_,rfl⟩
  rw[← hV20]
  simp only[U5,lJ,wB,wC,Rz,h01,e1,Ee,A9H,A8f,hl1',Qa,Qb,QS,Wg]
  refine Z8 hE x1.at_ (by omega) (by omega) hx ⟨by omega,by omega⟩ hkids hix fun va s2 o2 hva=>?_
  have x2:=x1.old o2
  have f2:=f1.old o2
  obtain⟨ra,oa,capa,hvea,hra1,hla1⟩:=hva.at (k:=0) rfl
  subst hvea
  have hlena:∀s',D9 prog s' 30 (.slice (some (ra,oa)) 1 capa)=some (iv 1):=hva.len
  have e2:CQ prog 30 (.slice (some (ra,oa)) 1 capa) (.int .i64 0)=some (.ptr (some (ra,oa+0 * 1))):=Cj (P:=prog) (cap:=capa) (i:=ra) (o:=oa) underlying30 HC (show 0<1 by omega)
  have hla1':DY (s2.heap.get ra) oa=some (iv x):=hla1
  simp only[hlena,A8P,A8b,A8V,QS]
  refine WC.loop' ?_
  obtain⟨V18,hV18⟩:∃V,V=Ck.loop U4:=⟨_,rfl⟩
  rw[← hV18]
  simp only[U4,lK,wD,wE,Rz,h01,e2,Ee,A9H,A8f,hla1',Qa,Qb,QS,Wg]
  have r1:=ht1.rg
  have r2:=ht2.rg
  refine Z7 hE x2.at_ (by omega) hx64 hk.1 r1.1 r2.1 fun j s3 o3 gj hj1 hj2=>?_
  have x3:=x2.old o3
  have f3:=f2.old o3
  simp only[wF,Qb,QS]
  refine oM hE x3.at_ (by omega) hx64 fun dd s4 o4=>?_
  have x4:=x3.old o4
  have f4:=f3.old o4
  have gj4:=(o4.2 j hj2).trans gj
  have hap:=ie gj4
  have hlen2:∀s',D9 prog s' 30 (.slice (some (j,0)) 2 none)=some (iv 2):=fun s'=>DQ underlying30
  simp only[A3D,hap,hlen2,List.getElem?_cons_succ,List.getElem?_cons_zero,QS]
  have hn2:=o2.1
  have hn3:=o3.1
  have hn4:=o4.1
  have jno:∀ {S:CO},Eb [nid b 0,nid b 1,nid b 2] s4 S→S.heap.get j=some (R 3 1 true (Dv [(CP L.F x).p0,(CP L.F x).p1])):=fun {S} k=>(k.2 j (by omega) (by simp only[A8I,A8K,A9V,CN];omega)).trans gj4
  have i0:CQ prog 30 (.slice (some (j,0)) 2 none) (.int .i64 0)=some (.ptr (some (j,0+0 * 1))):=Cj (P:=prog) (cap:=none) (i:=j) (o:=0) underlying30 HC (show 0<2 by omega)
  have i1:CQ prog 30 (.slice (some (j,0)) 2 none) (.int .i64 1)=some (.ptr (some (j,0+1 * 1))):=Cj (P:=prog) (cap:=none) (i:=j) (o:=0) underlying30 HC (show 1<2 by omega)
  have ld:∀ {S:CO},S.heap.get j=some (R 3 1 true (Dv [(CP L.F x).p0,(CP L.F x).p1]))→DY (S.heap.get j) 0=some (iv (CP L.F x).p0)∧DY (S.heap.get j) 1=some (iv (CP L.F x).p1):=fun {S} hg=>by rw[hg];exact⟨F9 0 rfl,F9 1 rfl⟩
  have l0:=(ld gj4).1
  refine WC.loop' ?_
  obtain⟨V14,hV14⟩:∃V,V=Ck.loop QX:=⟨_,rfl⟩
  rw[← hV14]
  simp only[QX,U6,ZG,ZH,Rz,h02,i0,Ee,A9H,A8f,l0,Qa,Qb,QS,Wg]
  refine Oz hE hS L.S.length t1 _ ht1 r1.2 s4 [] [] [] _ x4 f4 (by simp) fun s5 Sn5 D5 K5 k5 f5 _ _ _ m5 c5=>?_
  have x5:=x4.maps f4 k5
  have l1:=(ld (jno k5)).2
  simp only[ZI,b1,Qb,QS]
  rw[hV14]
  refine WC.loop' ?_
  rw[← hV14]
  simp only[QX,U6,ZG,ZH,Rz,h12,i1,Ee,Nat.one_mul,A8V,l1,Qa,Qb,QS,Wg]
  refine Oz hE hS L.S.length t2 _ ht2 r2.2 s5 Sn5 D5 K5 _ x5 f5 (fun m hm _=>(c5 m hm).elim (fun h=>by cases h) id) fun s6 Sn6 D6 K6 k6 f6 m61 m62 m63 m6 c6=>?_
  have x6:=x5.maps f5 k6
  simp only[ZI,b2,Qb,QS]
  rw[hV14]
  refine WC.loop' ?_
  rw[← hV14]
  simp only[QX,U6,Rz,h22,Qa,Qb,QS]
  rw[if_pos trivial]
  simp only[lF,Qb,QS]
  refine Tx hE x6.at_ (by omega) hx64 fun s7 o7=>?_
  have f7:=f6.old o7
  have x7:=x6.old o7
  have hk8:¬ (CP L.F x).kind=8:=by omega
  simp only[Wd,hk8,A9a,lG,b1,Qb,QS]
  rw[hV18]
  refine WC.loop' ?_
  rw[← hV18]
  simp only[U4,lK,Rz,h11,Qa,Qb,QS]
  rw[if_pos trivial]
  simp only[lH,b1,Qb,QS]
  rw[hV20]
  refine WC.loop' ?_
  rw[← hV20]
  simp only[U5,lJ,Rz,h11,Qa,Qb,QS]
  rw[if_pos trivial]
  simp only[lI,Qb,QS]
  have kk:Eb [nid b 0,nid b 1,nid b 2] s4 s7:=(k5.tr k6).tr (o7.frO _)
  have o14:DL s.next s s4:=o1.trans ((o2.trans ((o3.trans (o4.mono o3.1)).mono o2.1)).mono o1.1)
  refine hK s7 (nid b 3) (nid b 0) (nid b 1) (nid b 2) Sn6 D6 K6 ⟨by have:=kk.1;omega,fun k hk=>?_⟩ x7 f7 (by rw[CN];omega) (fun m hm=>?_) (m61 _ m5) m6
  · rw[kk.2 k (by omega) (by simp only[A8I,A8K,A9V,CN];omega)]
    exact o14.2 k hk
  · rcases c6 m hm with h | h
    · rcases c5 m h with h | h
      · cases h
      · exact h.mono m61 m62 m63
    · exact h
end
theorem YG(m:Nat):MM (some (.map (some m))) (.map (some m))=true:=by simp[MM,IG]
theorem Mc{E:Dw}(hE:Cn E){s:CO}{m:Nat}{K:AV→CO→Prop}(hK:∀s',DL s.next s s'→s'.heap.get (nid s.next 0)=some (R 57 0 false [.map (some m)])→s'.next=s.next+1→K (.func 74 [] [.ptr (some (nid s.next 0,0))]) s'):WF E 33 [.map (some m)] K s:=by
 refine hE.go mU (by decide) rfl ?_
 generalize hs:s.next=b at hK
 have hs0:s=ext s []:=(Ca s).symm
 rw[hs0]
 simp only[A6M,lL,lM,hs,List.take,List.drop,Qa,Qb,QS,Wg]
 refine hK _ (by rw[← hs];exact Ci) ?_ (by rw[Ce,hs,CN];rfl)
 rw[CR hs (by simp)];rfl
section
variable{E:Dw}(hE:Cn E){s:CO}{L:LG}{O:List Nat}{f p md mk ms:Nat}{Sn D Kk:List Int}(hs:Fs s L O f p md mk ms Sn D Kk)(hS:L.S.length<99990){K:AV→CO→Prop}
include hE hs hS
theorem sG(hK:∀s' b1 b2 b3 dv kv,DL s.next s s'→s'.heap.get b1=some (R 30 0 false [dv])→s'.heap.get b2=some (R 30 0 false [kv])→s'.heap.get b3=some (R 60 0 false [.ptr (some (f,0))])→(s.next≤b1∧b1<s'.next)→(s.next≤b2∧b2<s'.next)→(s.next≤b3∧b3<s'.next) →
  Cl s' dv (DS D)→(∀j,EQ dv=some j→s.next≤j∧j<s'.next)→Cl s' kv (DS Kk)→(∀j,EQ kv=some j→s.next≤j∧j<s'.next)→K (.func 67 [] [.ptr (some (b1,0)),.ptr (some (b2,0)),.ptr (some (b3,0))]) s'):WF E 30 [.ptr (some (f,0))] K s:=by
 have sl:∀ {S:CO} {v:AV} {l:List Int},Cl S v l→∀j,EQ v=some j→j<S.next:=fun {S v l} h j hj=>by
  rcases h with⟨_,rfl⟩ | ⟨j',q,cap,rfl,hlt,_⟩
  ·cases hj
  ·injection hj with hj;omega
 refine hE.go A1g (by decide) rfl ?_
 generalize hb:s.next=b
 have hs0:s=ext s []:=(Ca s).symm
 rw[hs0]
 have hf:=hs.lt.1
 have gf:∀os,(ext s os).heap.get f=some (R 117 0 false [.ptr (some (p,0)),.map (some md),.map (some mk),.map (some ms)]):=fun os=>by rw[Cm hf];exact hs.hf
 simp only[A7D,wG,wH,gf,dN,sW,Pn,GU,A3k,F4,hb,Qa,Qb,QS,Wg,Nat.reduceAdd]
 have o1:DL s.next s (ext s [R 60 0 false [.ptr (some (f,0))],R 30 0 false [.slice none 0 (some 0)],R 30 0 false [.slice none 0 (some 0)]]):=Ci
 have n1:(ext s [R 60 0 false [.ptr (some (f,0))],R 30 0 false [.slice none 0 (some 0)],R 30 0 false [.slice none 0 (some 0)]]).next=b+3:=by rw[Ce,hb,CN];rfl
 have g0:(ext s [R 60 0 false [.ptr (some (f,0))],R 30 0 false [.slice none 0 (some 0)],R 30 0 false [.slice none 0 (some 0)]]).heap.get (nid b 0)=some (R 60 0 false [.ptr (some (f,0))]):=by rw[CR hb (by simp)];rfl
 have g1:(ext s [R 60 0 false [.ptr (some (f,0))],R 30 0 false [.slice none 0 (some 0)],R 30 0 false [.slice none 0 (some 0)]]).heap.get (nid b 1)=some (R 30 0 false [.slice none 0 (some 0)]):=by rw[CR hb (by simp)];rfl
 have g2:(ext s [R 60 0 false [.ptr (some (f,0))],R 30 0 false [.slice none 0 (some 0)],R 30 0 false [.slice none 0 (some 0)]]).heap.get (nid b 2)=some (R 30 0 false [.slice none 0 (some 0)]):=by rw[CR hb (by simp)];rfl
 generalize ext s [R 60 0 false [.ptr (some (f,0))],R 30 0 false [.slice none 0 (some 0)],R 30 0 false [.slice none 0 (some 0)]]=s1 at o1 n1 g0 g1 g2
 have f1:=hs.old o1
 refine Mc hE fun s2 o2 q2 n2=>?_
 have f2:=f1.old o2
 have k0:=(o2.2 (nid b 0) (by rw[CN];omega)).trans g0
 have gf2:=f2.hf
 simp only[k0,gf2,Pn,GU,Cq,Cw,YG,A9U,A9S,QS,Wg]
 refine IB hE q2 f2.gd (by have:=hs.tD.len;omega) fun dv s3 o3 d3 e3=>?_
 have f3:=f2.old o3
 have o13:=o2.trans (o3.mono o2.1)
 have k0:=(o13.2 (nid b 0) (by rw[CN];omega)).trans g0
 have gf3:=f3.hf
 simp only[k0,gf3,Pn,GU,Cq,Cw,YG,A9U,A9S,QS,Wg]
 refine Mc hE fun s4 o4 q4 n4=>?_
 have f4:=f3.old o4
 have d4:=d3.old o4
 simp only[QS]
 refine IB hE q4 f4.gk (by have:=hs.tK.len;omega) fun kv s5 o5 d5 e5=>?_
 have D5:=d4.old o5
 have o15:DL s1.next s1 s5:=o13.trans ((o4.trans (o5.mono o4.1)).mono o13.1)
 have k0:=(o15.2 (nid b 0) (by rw[CN];omega)).trans g0
 have k1:=(o15.2 (nid b 1) (by rw[CN];omega)).trans g1
 have k2:=(o15.2 (nid b 2) (by rw[CN];omega)).trans g2
 have cell:∀ {S:CO} {v:AV} {l:List Int},Cl S v l→v.cells=[v]∧v.isCell=true:=fun {S v l} h=>by
  rcases h with⟨_,rfl⟩ | ⟨j',q,cap,rfl,hlt,_⟩<;>exact⟨rfl,rfl⟩
 have cd:=cell D5
 have ck:=cell d5
 have h21:nid b 2≠nid b 1:=by simp only[CN];omega
 have hn:=o15.1
 have hn2:=o2.1
 have hn3:=o3.1
 have hn4:=o4.1
 have hn5:=o5.1
 have gk2:(setObj s5 (nid b 1) (R 30 0 false [dv])).heap.get (nid b 2)=some (R 30 0 false [.slice none 0 (some 0)]):=by rw[CS _ h21];exact k2
 simp only[k1,gk2,cd.1,cd.2,ck.1,ck.2,aw,wI,List.take,List.drop,Qb,QS,Wg]
 have keep:∀j,j<s.next∨s1.next≤j→(setObj (setObj s5 (nid b 1) (R 30 0 false [dv])) (nid b 2) (R 30 0 false [kv])).heap.get j=s5.heap.get j:=fun j hj=>by
  rw[CS _ (by rw[CN];omega),CS _ (by rw[CN];omega)]
 have hnx:(setObj (setObj s5 (nid b 1) (R 30 0 false [dv])) (nid b 2) (R 30 0 false [kv])).next=s5.next:=rfl
 have rdk:∀ {v:AV} {l:List Int},Cl s5 v l→(∀j,EQ v=some j→s1.next≤j)→Cl (setObj (setObj s5 (nid b 1) (R 30 0 false [dv])) (nid b 2) (R 30 0 false [kv])) v l:=fun {v l} h hge=>h.fx (W:=[nid b 1,nid b 2]) ⟨by rw[hnx];exact A8H _,fun j hj hn=>by
   simp only[A8I,A8K,A9V,not_or]at hn
   rw[CS _ hn.2,CS _ hn.1]⟩ fun j hj hm=>by
   have:=hge j hj
   simp only[A8I,A8K,A9V,CN]at hm
   omega
 refine hK _ (nid b 1) (nid b 2) (nid b 0) dv kv ⟨by rw[hnx];omega,fun j hj=>?_⟩ ?_ ?_ ?_ ?_ ?_ ?_ ?_ ?_ ?_ ?_
 ·rw[keep j (.inl hj),o15.2 j (by omega),o1.2 j hj]
 ·rw[CS _ (Ne.symm h21),Co]
 ·rw[Co]
 ·rw[CS _ (by simp only[CN];omega),CS _ (by simp only[CN];omega)];exact k0
 ·rw[hnx,CN];omega
 ·rw[hnx,CN];omega
 ·rw[hnx,CN];omega
 ·exact rdk D5 fun j hj=>by have:=e3 j hj;omega
 ·exact fun j hj=>⟨by have:=e3 j hj;omega,by rw[hnx];exact sl D5 j hj⟩
 ·exact rdk d5 fun j hj=>by have:=e5 j hj;omega
 ·exact fun j hj=>⟨by have:=e5 j hj;omega,by rw[hnx];exact sl d5 j hj⟩
end
end
end Go.Proofs.YtoaaclpjkelofaaGreatDoor.Am
