/- Long division: the guess of a digit; conditions: none. Plain Lean: no program in sight. -/
import Derived.Test.YtoaaclpjkelofaaGreatDoorAmM05
set_option linter.unusedVariables false
namespace Go.Proofs.YtoaaclpjkelofaaGreatDoor.Am
noncomputable section
theorem Yv{U V T v1 v2 q g left top u2:Nat}{P:Nat}(hU:U<(top * LB+u2+1) * P)(hV:(v1 * LB+v2) * P≤V)(hq:q * V≤U)(hg:g * v1+left=top)(hgt:left * LB+u2<g * v2):q<g:=by
 rcases tL q g with h | h
 ·exact h
 ·exfalso
  have h1:g * V≤U:=tN (td V h) hq
  have h2:g * ((v1 * LB+v2) * P)≤U:=tN (tt g hV) h1
  have h3:g * (v1 * LB+v2)=g * v1 * LB+g * v2:=by rw[th,tb]
  have h4:top * LB=g * v1 * LB+left * LB:=by rw[← hg,tj]
  have h5:top * LB+u2+1≤g * (v1 * LB+v2):=by omega
  have h6:(top * LB+u2+1) * P≤g * (v1 * LB+v2) * P:=td P h5
  rw[← tb]at h2
  omega
theorem U5{U V v1 v2 q g left top u2:Nat}{P:Nat}(hP:0<P)(hU:(top * LB+u2) * P≤U)(hV:V<(v1 * LB+v2+1) * P)(hq:U<(q+1) * V)(hg:g * v1+left=top)(hle:g * v2≤left * LB+u2)(hgB:g<LB)(hv1:1≤v1):g≤q+1:=by
 rcases tL (q+1) g with h | h
 ·exfalso
  have h0:q+1≤g - 1:=by omega
  have h1:U<(g - 1) * ((v1 * LB+v2+1) * P):=by
   have a1:(q+1) * V≤(g - 1) * V:=td V h0
   have a2:(g - 1) * V≤(g - 1) * ((v1 * LB+v2+1) * P):=tt _ (Nat.le_of_lt hV)
   omega
  rw[← tb]at h1
  have h2:(top * LB+u2) * P<(g - 1) * (v1 * LB+v2+1) * P:=uH hU h1
  have h3:top * LB+u2<(g - 1) * (v1 * LB+v2+1):=ue h2
  have h4:top * LB=g * v1 * LB+left * LB:=by rw[← hg,tj]
  have h5:g * (v1 * LB+v2)=g * v1 * LB+g * v2:=by rw[th,tb]
  have h6:(g - 1) * (v1 * LB+v2+1)=(g - 1) * (v1 * LB+v2)+(g - 1):=by rw[th,tT]
  have h7:g * (v1 * LB+v2)=(g - 1) * (v1 * LB+v2)+(v1 * LB+v2):=by
   obtain⟨k,rfl⟩:∃k,g=k+1:=⟨g - 1,by omega⟩
   rw[uq,tw]
  have h8:LB≤v1 * LB:=Nat.le_mul_of_pos_left LB hv1
  omega
 ·exact h
def Bv(q:Nat):List (Nat×Nat)→Nat→Nat→List Nat×Nat×Nat
 | [],c,br=>([],c,br)
 | p::P,c,br =>
  let r:=Bv q P ((c+q * p.2) / LB) (if p.1<(c+q * p.2) % LB+br then 1 else 0)
  ((p.1+LB - (c+q * p.2) % LB - br) % LB::r.1,r.2.1,r.2.2)
theorem Pb(q:Nat):∀ (P:List (Nat×Nat))(c br:Nat),(∀p∈P,p.1<LB)→br≤1 →
  AC (P.map Prod.fst)+LB ^ P.length * ((Bv q P c br).2.1+(Bv q P c br).2.2)=AC (Bv q P c br).1+q * AC (P.map Prod.snd)+c+br
 | [],c,br,_,_=>by simp[Bv,AC]
 | p::P,c,br,h,hb=>by
  have hp:=h p tS
  have hB:LB=4294967296:=rfl
  generalize hc1:c+q * p.2=c1
  have hm:c1 % LB<LB:=ti _ A7
  have hdm:=uo c1 LB
  generalize hd:(if p.1<c1 % LB+br then 1 else 0)=d
  have Tz:d≤1:=by rw[← hd];split<;>omega
  have ih:=Pb q P (c1 / LB) d (fun q hq=>h q (tW _ hq)) Tz
  have h2:(p.1+LB - c1 % LB - br) % LB+c1 % LB+br=p.1+LB * d:=by
   rw[← hd]
   generalize c1 % LB=m at hm
   rw[hB]at hp hm ⊢
   split<;>omega
  show p.1+LB * AC (P.map Prod.fst)+LB ^ (P.length+1) * ((Bv q P ((c+q * p.2) / LB) (if p.1<(c+q * p.2) % LB+br then 1 else 0)).2.1+(Bv q P ((c+q * p.2) / LB) (if p.1<(c+q * p.2) % LB+br then 1 else 0)).2.2)=(p.1+LB - (c+q * p.2) % LB - br) % LB+LB * AC (Bv q P ((c+q * p.2) / LB) (if p.1<(c+q * p.2) % LB+br then 1 else 0)).1+q * (p.2+LB * AC (P.map Prod.snd))+c+br
  rw[hc1,hd]
  have h3:∀z,LB ^ (P.length+1) * z=LB * (LB ^ P.length * z):=fun z=>by rw[uF,tU (LB ^ P.length) LB,tb]
  rw[h3]
  have h4:=congrArg (LB * ·) ih
  simp only[th]at h4 ⊢
  have h5:q * (LB * AC (P.map Prod.snd))=LB * (q * AC (P.map Prod.snd)):=by rw[Nat.mul_left_comm]
  rw[h5]
  omega
def Fv(x:Nat):List (Nat×Nat)→Nat→List Nat×Nat
 | [],c=>([],c)
 | p::P,c=>((c+(x * p.1+p.2)) % LB::(Fv x P ((c+(x * p.1+p.2)) / LB)).1,(Fv x P ((c+(x * p.1+p.2)) / LB)).2)
theorem S9(x:Nat):∀ (P:List (Nat×Nat))(c:Nat),AC (Fv x P c).1+LB ^ P.length * (Fv x P c).2=x * AC (P.map Prod.fst)+AC (P.map Prod.snd)+c
 | [],c=>by simp[Fv,AC]
 | p::P,c=>by
  have ih:=S9 x P ((c+(x * p.1+p.2)) / LB)
  have hdm:=uo (c+(x * p.1+p.2)) LB
  show(c+(x * p.1+p.2)) % LB+LB * AC (Fv x P ((c+(x * p.1+p.2)) / LB)).1+LB ^ (P.length+1) * (Fv x P ((c+(x * p.1+p.2)) / LB)).2=x * (p.1+LB * AC (P.map Prod.fst))+(p.2+LB * AC (P.map Prod.snd))+c
  have h3:∀z,LB ^ (P.length+1) * z=LB * (LB ^ P.length * z):=fun z=>by rw[uF,tU (LB ^ P.length) LB,tb]
  rw[h3]
  have h4:=congrArg (LB * ·) ih
  simp only[th]at h4 ⊢
  have h5:x * (LB * AC (P.map Prod.fst))=LB * (x * AC (P.map Prod.fst)):=by rw[Nat.mul_left_comm]
  rw[h5]
  omega
theorem NN(x:Nat):∀ (P:List (Nat×Nat))(c:Nat),(Fv x P c).1.length=P.length
 | [],_=>rfl
 | p::P,c=>by show(Fv x P _).1.length+1=P.length+1;rw[NN x P]
theorem IY{x:Nat}(hx:x<LB):∀ {P:List (Nat×Nat)}{c:Nat},(∀p∈P,p.1<LB∧p.2<LB)→c<LB→(Fv x P c).2<LB∧BZ (Fv x P c).1
 | [],c,_,hc=>⟨hc,fun y hy=>by cases hy⟩
 | p::P,c,h,hc=>by
  obtain⟨h1,h2⟩:=h p tS
  have hd:(c+(x * p.1+p.2)) / LB<LB:=by
   rw[uD A7]
   have:x * p.1≤(LB - 1) * (LB - 1):=uW (by omega) (by omega)
   have hB:LB=4294967296:=rfl
   rw[hB]at this hc h2 ⊢
   omega
  obtain⟨i1,i2⟩:=IY (P:=P) (c:=(c+(x * p.1+p.2)) / LB) hx (fun r hr=>h r (tW _ hr)) hd
  refine⟨i1,fun y hy=>?_⟩
  rcases uT.1 hy with e | e
  ·rw[e];exact ti _ A7
  ·exact i2 y e
def A6(x:Nat):List Nat→List Nat×Nat
 | []=>([],0)
 | y::l=>(((A6 x l).2 * LB+y) / x::(A6 x l).1,((A6 x l).2 * LB+y) % x)
theorem Cz{x:Nat}(hx:0<x):∀l:List Nat,AC l=x * AC (A6 x l).1+(A6 x l).2∧(A6 x l).2<x∧(A6 x l).1.length=l.length
 | []=>⟨by simp[A6,AC],hx,rfl⟩
 | y::l=>by
  obtain⟨i1,i2,i3⟩:=Cz hx l
  have hdm:=uo ((A6 x l).2 * LB+y) x
  refine⟨?_,ti _ hx,by show(A6 x l).1.length+1=l.length+1;rw[i3]⟩
  show y+LB * AC l=x * (((A6 x l).2 * LB+y) / x+LB * AC (A6 x l).1)+((A6 x l).2 * LB+y) % x
  rw[i1]
  simp only[th]
  have h5:x * (LB * AC (A6 x l).1)=LB * (x * AC (A6 x l).1):=by rw[Nat.mul_left_comm]
  have h6:LB * (A6 x l).2=(A6 x l).2 * LB:=tU _ _
  rw[h5,h6]
  omega
theorem Er{x:Nat}(hx:0<x):∀ {l:List Nat},BZ l→BZ (A6 x l).1
 | [],_=>fun y hy=>by cases hy
 | y::l,h=>by
  obtain⟨i1,i2,i3⟩:=Cz hx l
  have hy:=h y tS
  intro z hz
  rcases uT.1 hz with e | e
  ·rw[e,uD hx]
   have:((A6 x l).2+1) * LB≤x * LB:=td LB i2
   rw[tw]at this
   rw[tU LB x]
   omega
  ·exact Er hx h.tail z e
theorem Zd{U V g D N br:Nat}(hV:0<V)(h1:U / V≤g)(h2:g≤U / V+1)(hD:D<N)(hbr:br≤1)(he:U+N * br=D+g * V):
  (br=0→g=U / V∧D=U % V)∧(br=1→g=U / V+1∧D+V=N+U % V):=by
 have hdm:=Nat.div_add_mod U V
 have hlt:=ti U hV
 have hc:V * (U / V)=U / V * V:=tU _ _
 generalize hq:U / V=q at *
 generalize U % V=r at *
 refine⟨fun h0=>?_,fun h0=>?_⟩
 ·subst h0
  rcases tL q g with h | h
  ·exfalso
   have:g=q+1:=by omega
   rw[this,tw]at he
   omega
  ·have:g=q:=by omega
   refine⟨this,?_⟩
   rw[this]at he
   omega
 ·subst h0
  rcases tL q g with h | h
  ·have:g=q+1:=by omega
   refine⟨this,?_⟩
   rw[this,tw]at he
   omega
  ·exfalso
   have:g=q:=by omega
   rw[this]at he
   omega
theorem Us{V Q R u:Nat}{W:Nat}(hV:0<V)(hR:R<V)(hW:W=Q * V+R):(W * LB+u) / V=Q * LB+(R * LB+u) / V∧(W * LB+u) % V=(R * LB+u) % V:=by
 have e:W * LB+u=(R * LB+u)+V * (Q * LB):=by
  rw[hW,tj,tb,Nat.mul_left_comm]
  omega
 rw[e]
 constructor
 ·rw[Nat.add_mul_div_left _ _ hV];omega
 ·rw[Nat.add_mul_mod_self_left]
end
end Go.Proofs.YtoaaclpjkelofaaGreatDoor.Am
set_option linter.unusedVariables false
set_option linter.unusedSimpArgs false
namespace Go.Proofs.YtoaaclpjkelofaaGreatDoor.Am
noncomputable section
theorem BZ.append{a b:List Nat}(ha:BZ a)(hb:BZ b):BZ (a++b):=fun x hx=>(uu.1 hx).elim (ha x) (hb x)
theorem Jk(lo:List Nat)(x y:Nat):AC (lo++[x,y])=AC lo+LB ^ lo.length * (y * LB+x):=by
 rw[BE]
 show _+_ * (x+LB * (y+LB * 0))=_
 rw[uI,tZ,tU LB y,Nat.add_comm x]
theorem NL(lo:List Nat)(x y z:Nat):AC (lo++[x,y,z])=AC lo+LB ^ lo.length * ((z * LB+y) * LB+x):=by
 rw[BE]
 show _+_ * (x+LB * (y+LB * (z+LB * 0)))=_
 have:x+LB * (y+LB * (z+LB * 0))=(z * LB+y) * LB+x:=by
  rw[uI,tZ,tU LB z,Nat.add_comm y,tU LB,Nat.add_comm x]
 rw[this]
structure Gf(plo vlo:List Nat)(u2 u1 u0 v2 v1:Nat)(g left:Nat):Prop where
 len:plo.length=vlo.length
 sp:BZ plo
 sv:BZ vlo
 b2:u2<LB
 b1:u1<LB
 c2:v2<LB
 c1:v1<LB
 big:LB≤2 * v1
 lt:AC (plo++[u2,u1,u0])<AC (vlo++[v2,v1]) * LB
 sum:g * v1+left=u0 * LB+u1
 low:AC (plo++[u2,u1,u0]) / AC (vlo++[v2,v1])≤g
section
variable{plo vlo:List Nat}{u2 u1 u0 v2 v1 g left:Nat}
theorem Gf.v_pos(h:Gf plo vlo u2 u1 u0 v2 v1 g left):0<AC (vlo++[v2,v1]):=by
 rw[Jk]
 have h1:=h.big
 have:LB=4294967296:=rfl
 have h2:0<v1 * LB+v2:=by have:=Nat.mul_pos (show 0<v1 by omega) A7;omega
 have:=Nat.mul_pos (uJ A7 (n:=vlo.length)) h2
 omega
theorem Gf.bounds(h:Gf plo vlo u2 u1 u0 v2 v1 g left):
  AC (plo++[u2,u1,u0])<((u0 * LB+u1) * LB+u2+1) * LB ^ vlo.length∧((u0 * LB+u1) * LB+u2) * LB ^ vlo.length≤AC (plo++[u2,u1,u0]) ∧
  AC (vlo++[v2,v1])<(v1 * LB+v2+1) * LB ^ vlo.length∧(v1 * LB+v2) * LB ^ vlo.length≤AC (vlo++[v2,v1]):=by
 have h1:=CP h.sp
 have h2:=CP h.sv
 rw[h.len]at h1
 rw[NL,Jk,h.len]
 generalize LB ^ vlo.length=P at *
 generalize (u0 * LB+u1) * LB+u2=X
 generalize v1 * LB+v2=Y
 have e1:(X+1) * P=P * X+P:=by rw[tw,tU]
 have e2:(Y+1) * P=P * Y+P:=by rw[tw,tU]
 have e3:X * P=P * X:=tU _ _
 have e4:Y * P=P * Y:=tU _ _
 omega
theorem Gf.start(len:plo.length=vlo.length)(sp:BZ plo)(sv:BZ vlo)(b2:u2<LB)(b1:u1<LB)(c2:v2<LB)(c1:v1<LB)(big:LB≤2 * v1)
  (lt:AC (plo++[u2,u1,u0])<AC (vlo++[v2,v1]) * LB):Gf plo vlo u2 u1 u0 v2 v1 ((u0 * LB+u1) / v1) ((u0 * LB+u1) % v1):=by
 have hB:LB=4294967296:=rfl
 have hv1:0<v1:=by omega
 have hs:(u0 * LB+u1) / v1 * v1+(u0 * LB+u1) % v1=u0 * LB+u1:=by rw[tU];exact Nat.div_add_mod _ _
 have h0:Gf plo vlo u2 u1 u0 v2 v1 (AC (plo++[u2,u1,u0]) / AC (vlo++[v2,v1])) (u0 * LB+u1 - AC (plo++[u2,u1,u0]) / AC (vlo++[v2,v1]) * v1)∨True:=.inr trivial
 refine⟨len,sp,sv,b2,b1,c2,c1,big,lt,hs,?_⟩
 have hP:0<LB ^ vlo.length:=uJ A7
 have h1:=CP sp
 rw[len]at h1
 have hV:v1 * LB * LB ^ vlo.length≤AC (vlo++[v2,v1]):=by
  rw[Jk,tU (v1 * LB),th]
  omega
 rw[Nat.le_div_iff_mul_le hv1]
 generalize hq:AC (plo++[u2,u1,u0]) / AC (vlo++[v2,v1])=q
 have hqV:q * AC (vlo++[v2,v1])≤AC (plo++[u2,u1,u0]):=by rw[← hq];exact Nat.div_mul_le_self _ _
 have h2:q * (v1 * LB * LB ^ vlo.length)≤AC (plo++[u2,u1,u0]):=tN (tt q hV) hqV
 have h3:AC (plo++[u2,u1,u0])<((u0 * LB+u1) * LB+LB) * LB ^ vlo.length:=by
  rw[NL,len]
  have h4:(u0 * LB+u1) * LB+u2+1≤(u0 * LB+u1) * LB+LB:=by omega
  have h5:=td (LB ^ vlo.length) h4
  rw[tw,tU _ (LB ^ vlo.length)]at h5
  omega
 have h6:q * v1 * LB * LB ^ vlo.length<((u0 * LB+u1) * LB+LB) * LB ^ vlo.length:=by
  have e:q * (v1 * LB * LB ^ vlo.length)=q * v1 * LB * LB ^ vlo.length:=by rw[tb,tb,tb]
  omega
 have h7:q * v1 * LB<(u0 * LB+u1) * LB+LB:=ue h6
 have h8:q * v1 * LB<(u0 * LB+u1+1) * LB:=by rw[tw];exact h7
 have:=ue h8
 omega
theorem Gf.dec(h:Gf plo vlo u2 u1 u0 v2 v1 g left)(hc:LB≤g∨left * LB+u2<g * v2):1≤g∧Gf plo vlo u2 u1 u0 v2 v1 (g - 1) (left+v1):=by
 obtain⟨b1,b2,b3,b4⟩:=h.bounds
 have hlt:AC (plo++[u2,u1,u0]) / AC (vlo++[v2,v1])<g:=by
  rcases hc with hc | hc
  ·exact tO ((uD h.v_pos).2 (by rw[tU];exact h.lt)) hc
  ·exact Yv (T:=0) b1 b4 (Nat.div_mul_le_self _ _) h.sum hc
 have hle:AC (plo++[u2,u1,u0]) / AC (vlo++[v2,v1])≤g - 1:=Nat.le_sub_one_of_lt hlt
 have hg1:1≤g:=uH (tV _) hlt
 refine⟨hg1,⟨h.len,h.sp,h.sv,h.b2,h.b1,h.c2,h.c1,h.big,h.lt,?_,hle⟩⟩
 clear hle hlt b1 b2 b3 b4
 obtain⟨k,rfl⟩:∃k,g=k+1:=⟨g - 1,by omega⟩
 have:=h.sum
 rw[tw]at this
 rw[uq]
 omega
theorem Gf.done(h:Gf plo vlo u2 u1 u0 v2 v1 g left)(hg:g<LB)(hc:g * v2≤left * LB+u2):g≤AC (plo++[u2,u1,u0]) / AC (vlo++[v2,v1])+1:=by
 obtain⟨b1,b2,b3,b4⟩:=h.bounds
 have hq:AC (plo++[u2,u1,u0])<(AC (plo++[u2,u1,u0]) / AC (vlo++[v2,v1])+1) * AC (vlo++[v2,v1]):=by
  have:=Nat.div_add_mod (AC (plo++[u2,u1,u0])) (AC (vlo++[v2,v1]))
  have h2:=ti (AC (plo++[u2,u1,u0])) h.v_pos
  rw[tw,tU]
  omega
 have hv1:1≤v1:=by have:=h.big;have:LB=4294967296:=rfl;omega
 exact U5 (uJ A7) b2 b3 hq h.sum hc hg hv1
theorem Gf.top(h:Gf plo vlo u2 u1 u0 v2 v1 g left):u0≤v1:=by
 obtain⟨b1,b2,b3,b4⟩:=h.bounds
 have hP:0<LB ^ vlo.length:=uJ A7
 have h1:((u0 * LB+u1) * LB+u2) * LB ^ vlo.length<(v1 * LB+v2+1) * LB ^ vlo.length * LB:=by
  have:=h.lt
  have h2:AC (vlo++[v2,v1]) * LB≤(v1 * LB+v2+1) * LB ^ vlo.length * LB:=td LB (Nat.le_of_lt b3)
  omega
 have h3:(v1 * LB+v2+1) * LB ^ vlo.length * LB=(v1 * LB+v2+1) * LB * LB ^ vlo.length:=by rw[tb,tU (LB ^ _),← tb]
 rw[h3]at h1
 have h4:=ue h1
 have h5:(v1 * LB+v2+1) * LB≤(v1+1) * LB * LB:=td LB (by rw[tw];have:=h.c2;omega)
 have h6:u0 * LB * LB≤(u0 * LB+u1) * LB:=td LB (by omega)
 have h7:u0 * LB * LB<(v1+1) * LB * LB:=by omega
 have h8:=ue (ue h7)
 omega
end
theorem J5{q:Nat}(hq:q<LB){x:Nat}:∀ {P:List (Nat×Nat)}{c br:Nat},(∀p∈P,p.2<LB)→c<LB→(Bv q (P++[(x,0)]) c br).2.1=0
 | [],c,br,_,hc=>by
  show(c+q * 0) / LB=0
  rw[uI,tZ,uP hc]
 | p::P,c,br,h,hc=>by
  have hp:=h p tS
  have hd:(c+q * p.2) / LB<LB:=by
   rw[uD A7]
   have:q * p.2≤(LB - 1) * (LB - 1):=uW (by omega) (by omega)
   have hB:LB=4294967296:=rfl
   rw[hB]at this hc ⊢
   omega
  exact J5 (P:=P) (c:=(c+q * p.2) / LB) hq (fun r hr=>h r (tW _ hr)) hd
theorem HF(q:Nat):∀ (P:List (Nat×Nat))(c br:Nat),BZ (Bv q P c br).1
 | [],_,_=>fun x hx=>by cases hx
 | p::P,c,br=>fun x hx=>by
  rcases uT.1 hx with e | e
  ·rw[e];exact ti _ A7
  ·exact HF q P _ _ x e
theorem Kp(q:Nat):∀ (P:List (Nat×Nat))(c br:Nat),(Bv q P c br).1.length=P.length
 | [],_,_=>rfl
 | p::P,c,br=>by show(Bv q P _ _).1.length+1=P.length+1;rw[Kp q P]
theorem Ts(q:Nat):∀ (P:List (Nat×Nat))(c br:Nat),br≤1→(Bv q P c br).2.2≤1
 | [],_,_,h=>h
 | p::P,c,br,h=>Ts q P _ _ (by split<;>omega)
theorem R6{a b:List Nat}(h:a.length=b.length):(a.zip b).map Prod.fst=a:=by
 rw[List.map_fst_zip];omega
theorem R7{a b:List Nat}(h:a.length=b.length):(a.zip b).map Prod.snd=b:=by
 rw[List.map_snd_zip];omega
theorem PA(v:List Nat):AC (v++[0])=AC v:=by
 rw[BE]
 show _+_ * (0+LB * 0)=_
 simp
theorem fB       {p v : List Nat} (hl : p.length = v.length + 1) (hp : BZ  p) (hv : BZ  v) (hV : 0 < AC   v) {g : Nat} (h1 : AC   p / AC   v ≤ g) (h2 : g ≤ AC   p / AC   v + 1) (hg : g < LB) :
    ((Bv g (p.zip (v++[0])) 0 0).2.2=0→g=AC p / AC v∧AC (Bv g (p.zip (v++[0])) 0 0).1=AC p % AC v) ∧
    ((Bv g (p.zip (v++[0])) 0 0).2.2≠0→g=AC p / AC v+1∧AC (EI ((Bv g (p.zip (v++[0])) 0 0).1.zip (v++[0])) 0).1=AC p % AC v):=by
  have hlz:p.length=(v++[0]).length:=by rw[tX];exact hl
  have hsm:∀q∈p.zip (v++[0]),q.1<LB∧q.2<LB:=fun q hq=>by
    have hz:=List.of_mem_zip (a:=q.1) (b:=q.2) hq
    refine⟨hp _ hz.1,?_⟩
    rcases uu.1 hz.2 with h | h
    · exact hv _ h
    · rw[ul.1 h];exact A7
  have hc:(Bv g (p.zip (v++[0])) 0 0).2.1=0:=by
    obtain⟨pl,x,rfl⟩:∃pl x,p=pl++[x]:=by
      rcases List.eq_nil_or_concat p with h | ⟨pl,x,h⟩
      · rw[h]at hl;simp at hl
      · exact⟨pl,x,by rw[h];simp⟩
    have hpl:pl.length=v.length:=by rw[tX]at hl;simpa using hl
    rw[List.zip_append hpl]
    exact J5 hg (fun q hq=>hv _ (List.of_mem_zip (a:=q.1) (b:=q.2) hq).2) A7
  have hval:=Pb g (p.zip (v++[0])) 0 0 (fun q hq=>(hsm q hq).1) (tV _)
  have hbr:=Ts g (p.zip (v++[0])) 0 0 (tV _)
  have hlen:(p.zip (v++[0])).length=v.length+1:=by rw[uf,← hlz,Nat.min_self,hl]
  have hDl:=Kp g (p.zip (v++[0])) 0 0
  have hDs:=HF g (p.zip (v++[0])) 0 0
  rw[R6 hlz,R7 hlz,PA,hc,hlen]at hval
  generalize Bv g (p.zip (v++[0])) 0 0=T at *
  obtain⟨D,c,br⟩:=T
  simp only at *
  rw[hlen]at hDl
  have hD:=CP hDs
  rw[hDl]at hD
  have hVl:=CP hv
  have hPow:LB ^ v.length≤LB ^ (v.length+1):=uX A7 (t7 _)
  have key:=Zd (U:=AC p) (V:=AC v) (g:=g) (D:=AC D) (N:=LB ^ (v.length+1)) (br:=br) hV h1 h2 hD hbr (by
    generalize g * AC v=z at *
    generalize LB ^ (v.length+1)=N at *
    rw[tR]at hval
    omega)
  refine⟨fun h=>key.1 h,fun h=>?_⟩
  have hb1:br=1:=by omega
  obtain⟨k1,k2⟩:=key.2 hb1
  refine⟨k1,?_⟩
  have hlz2:D.length=(v++[0]).length:=by rw[tX,hDl];rfl
  have ha:=MO (D.zip (v++[0])) 0
  rw[R6 hlz2,R7 hlz2,PA,uf,← hlz2,Nat.min_self,hDl]at ha
  have hs:=CP (F9 (D.zip (v++[0])) 0)
  rw[Ip,uf,← hlz2,Nat.min_self,hDl]at hs
  have hr:=ti (AC p) hV
  generalize AC (EI (D.zip (v++[0])) 0).1=O at *
  generalize (EI (D.zip (v++[0])) 0).2=c2 at *
  generalize hN:LB ^ (v.length+1)=N at *
  have hc2:c2=1:=by
    rcases tL c2 1 with h | h
    · have:c2=0:=by omega
      rw[this,uI]at ha
      omega
    · rcases tL           1 c2 with h' | h'
      · have:=tt N h'
        omega
      · omega
  rw[hc2,tT]at ha
  omega
structure T3(u0 v cu qs:List Nat)(i:Nat):Prop where
 len:cu.length=u0.length
 low:cu.take i=u0.take i
 sm:BZ cu
 rem:AC (cu.drop i)=AC (u0.drop i) % AC v
 qsm:BZ qs
 quo:AC (qs.drop i)=AC (u0.drop i) / AC v
theorem Fq{l:List Nat}{i x:Nat}(h:l[i]? = some x):AC (l.drop i)=x+LB * AC (l.drop (i+1)):=by
 have hi:i<l.length:=by
  rcases tL i l.length with h' | h'
  ·exact h'
  ·rw[tY h']at h;cases h
 rw[t8 hi]
 have:l[i]=x:=by rw[tQ hi]at h;exact Option.some.inj h
 rw[this];rfl
theorem BZ.drop{l:List Nat}(h:BZ l)(i:Nat):BZ (l.drop i):=fun x hx=>h x (List.mem_of_mem_drop hx)
theorem BZ.take{l:List Nat}(h:BZ l)(i:Nat):BZ (l.take i):=fun x hx=>h x (List.mem_of_mem_take hx)
theorem T3.part{u0 v cu qs:List Nat}{i:Nat}(h:T3 u0 v cu qs (i+1))(hv:BZ v)(hV:0<AC v)(hi:i+v.length+1≤cu.length):
  AC ((cu.drop i).take (v.length+1))=AC (cu.drop i)∧AC (cu.drop i)<AC v * LB∧AC (cu.drop (i+v.length+1))=0:=by
 have hx:cu[i]? = some cu[i]:=tQ (by omega)
 generalize cu[i]=x at hx
 have hxs:=h.sm x (tf hx)
 have e1:=Fq hx
 have hr:=ti (AC (u0.drop (i+1))) hV
 rw[← h.rem]at hr
 have hVl:=CP hv
 have hsplit:cu.drop (i+1)=(cu.drop (i+1)).take v.length++cu.drop (i+v.length+1):=by
  have:=(ur v.length (cu.drop (i+1))).symm
  rw[uM]at this
  rw[show i+v.length+1=i+1+v.length by omega]
  exact this
 have hval:=congrArg AC hsplit
 rw[BE]at hval
 have htl:((cu.drop (i+1)).take v.length).length=v.length:=by rw[tp,uN];omega
 rw[htl]at hval
 have hz:AC (cu.drop (i+v.length+1))=0:=by
  rcases uL (AC (cu.drop (i+v.length+1)))with h0 | h0
  ·exact h0
  ·exfalso
   have:=tt (LB ^ v.length) h0
   omega
 refine⟨?_,?_,hz⟩
 ·rw[e1]
  have hd:cu.drop i=x::cu.drop (i+1):=by
   rw[t8 (show i<cu.length by omega)]
   have:cu[i]=x:=by rw[tQ (by omega)]at hx;exact Option.some.inj hx
   rw[this]
  rw[hd,List.take_succ_cons]
  show x+LB * _=_
  rw[hval,hz]
  simp
 ·rw[e1]
  have:LB * (AC (cu.drop (i+1))+1)≤LB * AC v:=tt LB hr
  rw[tU (AC v)]
  rw[th]at this
  omega
theorem T3.step{u0 v cu qs:List Nat}{i:Nat}(h:T3 u0 v cu qs (i+1))(hv:BZ v)(hV:0<AC v)(hi:i+v.length+1≤cu.length)(hq:i<qs.length){D:List Nat}(hD:D.length=v.length+1)(hDs:BZ D)
  (hDv:AC D=AC ((cu.drop i).take (v.length+1)) % AC v) {x:Nat} (hx:x=AC ((cu.drop i).take (v.length+1)) / AC v):T3 u0 v (cu.take i++D++cu.drop (i+v.length+1)) (qs.set i x) i:=by
 obtain⟨p1,p2,p3⟩:=h.part hv hV hi
 rw[p1]at hDv hx
 have hu:cu[i]? = some cu[i]:=tQ (by omega)
 generalize cu[i]=y at hu
 have hys:=h.sm y (tf hu)
 have hu0:u0[i]? = some y:=by
  have:=congrArg (fun l=>l[i]?) h.low
  simp only[uZ (show i<i+1 by omega)]at this
  rw[← this];exact hu
 have e1:=Fq hu
 have e2:=Fq hu0
 have hR:=ti (AC (u0.drop (i+1))) hV
 have hW:AC (u0.drop (i+1))=AC (u0.drop (i+1)) / AC v * AC v+AC (u0.drop (i+1)) % AC v:=by
  have:=Nat.div_add_mod (AC (u0.drop (i+1))) (AC v)
  rw[tU]at this
  exact this.symm
 have hds:=Us (V:=AC v) (Q:=AC (u0.drop (i+1)) / AC v) (R:=AC (u0.drop (i+1)) % AC v) (u:=y) hV hR hW
 rw[← h.rem]at hds
 have e3:AC (u0.drop (i+1)) * LB+y=AC (u0.drop i):=by rw[e2,tU];omega
 have e4:AC (cu.drop (i+1)) * LB+y=AC (cu.drop i):=by rw[e1,tU];omega
 rw[e3,e4]at hds
 have htl:(cu.take i).length=i:=by rw[tp];omega
 have hxs:x<LB:=by
  rw[hx,uD hV,tU]
  exact p2
 refine⟨?_,?_,?_,?_,?_,?_⟩
 ·simp only[tX,tp,uN,hD]
  have:=h.len
  omega
 ·rw[tg,List.take_left' htl]
  have:=congrArg (List.take i) h.low
  rw[List.take_take,List.take_take,ua (t7 i)]at this
  exact this
 ·exact((h.sm.take i).append hDs).append (h.sm.drop _)
 ·rw[tg,List.drop_left' htl,BE,p3,uI,tZ,hDv]
  exact hds.2.symm
 ·intro z hz
  rcases List.mem_or_eq_of_mem_set hz with h' | h'
  ·exact h.qsm z h'
  ·rw[h'];exact hxs
 ·have hqi:(qs.set i x)[i]? = some x:=by rw[uw hq]
  rw[Fq hqi]
  have:(qs.set i x).drop (i+1)=qs.drop (i+1):=by
   rw[List.drop_set]
   simp
  rw[this,h.quo,hx,hds.1,tU LB]
  omega
theorem It(x:Nat):∀ (l:List Nat)(c:Nat),(Lq l x c).length=l.length+1
 | [],_=>rfl
 | y::l,c=>by show(Lq l x _).length+1=_;rw[It x l];rfl
theorem Fm{x:Nat}(hx:x<LB):∀ {l:List Nat}{c:Nat},BZ l→c<LB→BZ (Lq l x c)
  | [],c,_,hc=>fun z hz=>by rw[ul.1 hz];exact hc
  | y::l,c,hl,hc=>fun z hz=>by
    have hy:=hl y tS
    rcases uT.1 hz with e | e
    · rw[e];exact ti _ A7
    · refine Fm        hx hl.tail ?_ z e
      rw[uD A7]
      have:x * y≤(LB - 1) * (LB - 1):=uW (by omega) (by omega)
      have hB:LB=4294967296:=rfl
      rw[hB]at this hc ⊢
      omega
theorem FZ{l:List Nat}{n:Nat}(h:l.length=n+1):∃lo t,l=lo++[t]∧lo.length=n:=by
 refine⟨l.take n,l[n]'(by omega),?_,by rw[tp];omega⟩
 have h1:=(ur n l).symm
 rw[t8 (by omega),uK (by omega)]at h1
 exact h1
theorem DB(lo:List Nat)(t:Nat):AC (lo++[t])=AC lo+LB ^ lo.length * t:=by
 rw[BE]
 show _+_ * (t+LB * 0)=_
 simp
theorem pX{lo:List Nat}{bt n:Nat}(hs:BZ (lo++[bt]))(hn:n≤31)(h1:2147483648≤bt * 2 ^ n)(h2:bt * 2 ^ n<4294967296):
  AC ((Lq (lo++[bt]) (2 ^ n) 0).take (lo.length+1))=AC (lo++[bt]) * 2 ^ n∧∃vlo v1,(Lq (lo++[bt]) (2 ^ n) 0).take (lo.length+1)=vlo++[v1]∧vlo.length=lo.length∧2147483648≤v1:=by
 have hLB:LB=4294967296:=rfl
 have e32:(2:Nat) ^ 32=4294967296:=by decide
 have h2n:0<2 ^ n:=uJ (by decide)
 have hn32:2 ^ n<LB:=by
  rw[hLB,← e32]
  exact Nat.pow_lt_pow_right (by decide) (by omega)
 have hbt:(bt+1) * 2 ^ n≤4294967296:=by
  have e:(4294967296:Nat)=2 ^ (32 - n) * 2 ^ n:=by rw[← Nat.pow_add,show 32 - n+n=32 by omega]
  rw[e]at h2 ⊢
  exact td _ (ue h2)
 have hval:=Lw (lo++[bt]) (2 ^ n) 0
 have hlen:=It (2 ^ n) (lo++[bt]) 0
 have hsm:=Fm hn32 hs (show 0<LB from A7)
 have hll:(lo++[bt]).length=lo.length+1:=by simp
 rw[hll]at hlen
 generalize Lq (lo++[bt]) (2 ^ n) 0=W at *
 obtain⟨V,t,rfl,hV⟩:=FZ hlen
 have hlo:BZ lo:=fun x hx=>hs x (ug _ hx)
 have hvl:=CP hlo
 have hsV:BZ V:=fun x hx=>hsm x (ug _ hx)
 rw[DB,hV]at hval
 have hup:AC (lo++[bt]) * 2 ^ n<LB ^ (lo.length+1):=by
  rw[DB]
  have g1:AC lo+LB ^ lo.length * bt<LB ^ lo.length * (bt+1):=by rw[th,tT];omega
  have g2:(AC lo+LB ^ lo.length * bt) * 2 ^ n<LB ^ lo.length * (bt+1) * 2 ^ n:=u4 g1 h2n
  have g3:LB ^ lo.length * (bt+1) * 2 ^ n≤LB ^ (lo.length+1):=by
   rw[uF,tb]
   exact tt _ (by rw[hLB];exact hbt)
  omega
 have ht:t=0:=by
  rcases uL t with h | h
  ·exact h
  ·exfalso
   have:=tt (LB ^ (lo.length+1)) h
   omega
 have htk:(V++[t]).take (lo.length+1)=V:=by rw[← hV];simp
 rw[htk]
 rw[ht,uI,tZ,tZ]at hval
 refine⟨hval,?_⟩
 obtain⟨vlo,v1,rfl,hvlo⟩:=FZ hV
 refine⟨vlo,v1,rfl,hvlo,?_⟩
 have hvs:BZ vlo:=fun x hx=>hsV x (ug _ hx)
 have hvv:=CP hvs
 rw[DB,hvlo,DB]at hval
 rw[hvlo]at hvv
 have g4:LB ^ lo.length * 2147483648≤(AC lo+LB ^ lo.length * bt) * 2 ^ n:=by
  rw[tj,tb]
  exact tN (tt _ h1) (Nat.le_add_left _ _)
 rcases tL v1 2147483648 with h | h
 ·exfalso
  have:=tt (LB ^ lo.length) (show v1+1≤2147483648 from h)
  rw[th,tT]at this
  omega
 ·exact h
theorem pW{la vlo:List Nat}{v1 n:Nat}(hs:BZ la)(hn:n≤31)(hv1:2147483648≤v1)(hlen:vlo.length+1≤la.length):
  AC ((Lq la (2 ^ n) 0).drop (la.length - vlo.length))<AC (vlo++[v1]):=by
 have hLB:LB=4294967296:=rfl
 have e31:(2:Nat) ^ 31=2147483648:=by decide
 have h2n:2 ^ n≤2147483648:=by rw[← e31];exact uX (by decide) hn
 have hval:=Lw la (2 ^ n) 0
 have hl:=It (2 ^ n) la 0
 have hsm:=Fm (show 2 ^ n<LB by rw[hLB];omega) hs (show 0<LB from A7)
 generalize Lq la (2 ^ n) 0=W at *
 obtain⟨U,t,rfl,hU⟩:=FZ hl
 rw[DB,hU,tZ]at hval
 have hA:=CP hs
 have ht:t<2 ^ n:=by
  rcases tL t (2 ^ n)with h | h
  ·exact h
  ·exfalso
   have g1:=tt (LB ^ la.length) h
   have g2:AC la * 2 ^ n<LB ^ la.length * 2 ^ n:=u4 hA (uJ (by decide))
   omega
 have hd:(U++[t]).drop (la.length - vlo.length)=U.drop (la.length - vlo.length)++[t]:=by
  rw[List.drop_append_of_le_length (by omega)]
 rw[hd,DB,DB]
 have hsU:BZ U:=fun x hx=>hsm x (ug _ hx)
 have h3:=CP (hsU.drop (la.length - vlo.length))
 have hdl:(U.drop (la.length - vlo.length)).length=vlo.length:=by rw[uN];omega
 rw[hdl]at h3 ⊢
 have g1:LB ^ vlo.length * (t+1)≤LB ^ vlo.length * v1:=tt _ (by omega)
 rw[th,tT]at g1
 omega
theorem HJ:∀ (l w:List Nat),(l.take w.length).zip w=l.zip w
 | [],w=>by simp
 | _::_,[]=>by simp
 | x::l,y::w=>by
  rw[tq,List.take_succ_cons,uh,uh,HJ l w]
theorem iw{d w:List Nat}(h:d.length=w.length)(x:List Nat):(d++x).zip w=d.zip w:=by
 have:=HJ (d++x) w
 rw[← h,List.take_left]at this
 exact this.symm
end
end Go.Proofs.YtoaaclpjkelofaaGreatDoor.Am
set_option linter.unusedVariables false
set_option linter.unusedSimpArgs false
set_option maxRecDepth 12000
namespace Go.Proofs.YtoaaclpjkelofaaGreatDoor.Am
open Go Go.Proofs
noncomputable section
def nN:List FuncId:=[32,5,86,59,26,27,53,85,73,206,66]
structure Ak(E:Ck):Prop where
 P:E.P=Tryz.prog
 nat:∀ (f:FuncId) (xs:List AV) (s:AD),f ∉ nN→E.nat f xs s=none
theorem Ak.go{E:Ck}(hE:Ak E){f:FuncId}{xs:List AV}{cf:Au}{K:AV→AD→Prop}{s:AD}(hf:AS Tryz.prog f=some cf)(hne:f ∉ nN)(ha:xs.length=cf.na)(h:Qa E none cf.body (Ends Tryz.prog cf.results K) (Ql xs cf.nv) [] s):WF E f xs K s:=
 WF.body' (hE.nat f xs s hne) (by rw[hE.P];exact hf) ha (by rw[hE.P];exact h)
def Pm(s:AD)(a:Option (Nat×Nat))(cap:Option Nat)(n:Nat):Prop:=
 (∃c,cap=some c∧n≤c∧(a=none→c=0))∨(cap=none∧∃i o r,a=some (i,o)∧i<s.next∧s.heap.get i=some (.row r)∧r.sz=1∧o+n≤r.n)
theorem Pm.old{s s':AD}{a:Option (Nat×Nat)}{cap:Option Nat}{n:Nat}(h:Pm s a cap n)(k:A9 s.next s s'):Pm s' a cap n:=by
 rcases h with h | ⟨h1,i,o,r,h3,h4,h5,h6⟩
 ·exact .inl h
 ·exact .inr ⟨h1,i,o,r,h3,tO h4 k.1,by rw[k.2 i h4];exact h5,h6⟩
theorem Pm.less{s:AD}{a:Option (Nat×Nat)}{cap:Option Nat}{n k:Nat}(h:Pm s a cap n)(hk:k≤n):Pm s a cap k:=by
 rcases h with⟨c,h1,h2,h3⟩ | ⟨h1,i,o,r,h3,h4,h5,h6,h7⟩
 ·exact .inl ⟨c,h1,by omega,h3⟩
 ·exact .inr ⟨h1,i,o,r,h3,h4,h5,h6,by omega⟩
theorem eu{t e:TypeId}(ht:Tryz.prog.underlying t=some (.slice e))(hs:A1 Tryz.prog e=some 1){s:AD}{a:Option (Nat×Nat)}{cap:Option Nat}{n k:Nat}(hc:Pm s a cap n)(hk:k≤n):
    Bn Tryz.prog t false true false s [.slice a n cap,iv (k:Int)]=some (.slice a k cap):=by
  show Bl Tryz.prog s t (.slice a n cap) none (some (iv (k:Int))) none=_
  rcases hc with⟨c,rfl,h1,h2⟩ | ⟨rfl,i,o,r,rfl,h3,h4,h5,h6⟩
  · have hb:BY (iv (k:Int)) c=some k:=by simp[BY,IB,AF,CC (show k≤c by omega),Fw]
    cases a with
    | none=>simp[Bl,ht,hs,hb]
    | some io=>obtain⟨i,o⟩:=io;cases hb2:Nat.beq c 0<;>simp[Bl,ht,hs,hb]
  · have hrow : rowAt s i = some r := by unfold rowAt; rw [h4]
    have hb:BY (iv (k:Int)) ((r.n - o) / 1)=some k:=by simp[BY,IB,AF,CC (show k≤r.n - o by omega),Fw]
    have hsz:Nat.beq 1 r.sz=true:=EU h5.symm
    simp only[Bl,ht,hs,hrow,hsz,AF,hb,CC (show o≤r.n by omega),show Nat.beq 1 0=false from rfl,Option.bind_some,Bool.true_and,Bool.and_true,Bool.not_false,cond_true]
    simp
def Cl(s:AD)(v:AV)(l:List Nat):Prop:=∃a cap,v=.slice a l.length cap∧Pm s a cap l.length∧Aj s.next s a (us l)
theorem Cl.old{s s':AD}{v:AV}{l:List Nat}(h:Cl s v l)(k:A9 s.next s s'):Cl s' v l:=by
 obtain⟨a,cap,h1,h2,h3⟩:=h
 exact⟨a,cap,h1,h2.old k,(h3.old k (tJ _)).mono k.1⟩
theorem Cl.at{s:AD}{a:Option (Nat×Nat)}{l:List Nat}(h:Aj s.next s a (us l)){k x:Nat}(hk:l[k]? = some x):∃i o,a=some (i,o)∧i<s.next∧B1 s i (o+k)=some (BS x):=h k _ (DT hk)
theorem Cl.take{s:AD}{a:Option (Nat×Nat)}{cap:Option Nat}{l:List Nat}(h2:Pm s a cap l.length)(h3:Aj s.next s a (us l)){k:Nat}(hk:k≤l.length):Cl s (.slice a k cap) (l.take k):=by
 have hl:(l.take k).length=k:=by rw[tp];omega
 refine⟨a,cap,by rw[hl],by rw[hl];exact h2.less hk,fun j u hu=>?_⟩
 rw[YO,List.getElem?_take]at hu
 split at hu
 ·exact h3 j u hu
 ·cases hu
def sN(s:AD)(v:AV)(l:List Nat):Prop:=∃i,v=.slice (some (i,0)) l.length none∧i<s.next∧CH s i (us l) none
def NR(b:Nat)(s:AD)(v:AV)(l:List Nat):Prop:=∃O,Cg 185 s v l.length 1 (us l) O∧(∀j∈O,b≤j)∧(∀j,Ci v=some j→b≤j)∧(l≠[]→sN s v l)
theorem Cg.n32{s:AD}{v:AV}{l O:List Nat}(h1:Cg 185 s v l.length 1 (us l) O):Cl s v l:=by
 obtain⟨a,cap,rfl,hc⟩:=h1.cells
 refine⟨a,cap,rfl,?_,hc⟩
 rcases h1 with⟨a',e,_,_,h4,_⟩ | ⟨i,p,e,h2,_⟩
 ·injection e with e1 e2 e3
  subst e1;subst e3
  exact .inl ⟨_,rfl,tJ _,h4⟩
 ·injection e with e1 e2 e3
  subst e1;subst e3
  rcases h2.ex with⟨e',_⟩ | ⟨_,_,k2,_,r,k4,k5,_,_,k8,_⟩
  ·cases e'
  ·exact .inr ⟨rfl,i,0,r,rfl,k2,k4,k8,by rw[k5.1,Ca];omega⟩
theorem NR.n32{b:Nat}{s:AD}{v:AV}{l:List Nat}(h:NR b s v l):Cl s v l:=by
 obtain⟨O,h1,_,_⟩:=h
 exact h1.n32
theorem NR.mono{b b':Nat}{s:AD}{v:AV}{l:List Nat}(h:NR b s v l)(k:b'≤b):NR b' s v l:=by
 obtain⟨O,h1,h2,h3,h4⟩:=h
 exact⟨O,h1,fun j hj=>tN k (h2 j hj),fun j hj=>tN k (h3 j hj),h4⟩
theorem NR.nil(b:Nat)(s:AD):NR b s (.slice none 0 (some 0)) []:=⟨[],Cg.nil s 1,fun j hj=>(by cases hj),fun j hj=>(by cases hj),fun h=>absurd rfl h⟩
theorem NR.old{b:Nat}{s s':AD}{v:AV}{l:List Nat}(h:NR b s v l)(k:A9 s.next s s'):NR b s' v l:=by
 obtain⟨O,h1,h2,h3,h4⟩:=h
 refine⟨O,h1.frame k.1 (fun j hj=>?_),h2,h3,fun hne=>by obtain⟨i,q1,q2,q3⟩:=h4 hne;exact⟨i,q1,tO q2 k.1,q3.keep (k.2 i q2)⟩⟩
 refine k.2 j ?_
 rcases h1 with⟨a,rfl,_,_,_,h5⟩ | ⟨i,p,rfl,h6,_⟩
 ·cases a with
  | none=>cases hj
  | some io=>obtain⟨i,o⟩:=io;injection hj with hj;subst hj;exact(h5 i o rfl).1
 ·injection hj with hj
  subst hj
  rcases h6.ex with⟨e',_⟩ | ⟨_,_,k2,_⟩
  ·cases e'
  ·exact k2
theorem YV:Bp Tryz.prog 77=true:=by kernel_rfl
theorem R8:Cj Tryz.prog 185 1=true:=by kernel_rfl
theorem lG:An Tryz.prog 77 0 (zipIdx [] [])=some (R 185 1 false []):=by kernel_rfl
theorem GZ(x:Int):An Tryz.prog 77 1 (zipIdx [0] [.int .u32 x])=some (R 185 1 false [.int .u32 x]):=by kernel_rfl
theorem RY(x y:Int):An Tryz.prog 77 2 (zipIdx [0,1] [.int .u32 x,.int .u32 y])=some (R 185 1 false [.int .u32 x,.int .u32 y]):=by kernel_rfl
theorem ik(l:List Nat):Ag (us l)=true:=by
 induction l with
 | nil=>rfl
 | cons x l ih=>show((BS x).isCell && Ag (us l))=true;rw[ih];rfl
theorem iS{s:AD}{a:Option (Nat×Nat)}{cap:Option Nat}{l:List Nat}(h:Aj s.next s a (us l)):B4 Tryz.prog s 185 1 (.slice a l.length cap)=some (l.length,us l):=by
 cases l with
 | nil =>
  cases a with
  | none=>rfl
  | some io=>obtain⟨i,o⟩:=io;rfl
 | cons x l =>
  obtain⟨i,o,rfl,_,_⟩:=h 0 _ rfl
  have hld:=kf (o:=s.heap.get i) (us (x::l)) o (fun j u hj=>by
   obtain⟨i',o',e,_,h3⟩:=h j u hj
   injection e with e
   injection e with e1 e2
   subst e1;subst e2
   exact h3) (by simp[us])
  rw[Ca]at hld
  show(Vn s i o (x::l).length 1).bind _=_
  rw[show Vn s i o (x::l).length 1=BG s i o ((x::l).length * 1)from by unfold Vn;rw[Cs (show(x::l).length≠0 by simp)];rfl,tT,Ji,hld]
  rfl
theorem SG{s:AD}{i o:Nat}(hz:BG s i o 0=some []){ax:Option (Nat×Nat)}{m:Nat}{cx:Option Nat}{add:List AV}(hsrc:B4 Tryz.prog s 185 1 (.slice ax m cx)=some (m,add))(ha:add.length=m)(hc:Ag add=true)(hm:0<m)(hml:m≤100000000000):
  Ay Tryz.prog s [77,77] [.slice (some (i,o)) 0 (some 0),.slice ax m cx]=some (.slice (some (s.next,0)) m none,newObj s (R 185 1 true add)):=by
 rw[D1 Tryz.underlying77 Bs SN (by omega) YV hsrc hc (by omega) (by omega)]
 simp only[appTo,Gk,tR,Lv hm,cond_false,Nat.zero_mul,hz,Option.bind_some,CB,AF,R8,cond_true,uv]
 rfl
section
variable{E:Ck}{s:AD}
theorem Mi(hE:Ak E){v:AV}{l:List Nat}(hv:Cl s v l)(hl:l.length≤100000000000){K:AV→AD→Prop}(hK:∀s' v',A9 s.next s s'→NR s.next s' v' l→K v' s'):WF E 227 [v] K s:=by
  obtain⟨a,cap,rfl,hcap,hc⟩:=hv
  refine hE.go W7 (by decide) rfl ?_
  by_cases hnil:a=none
  · subst hnil
    have hl0:l=[]:=by
      cases l with
      | nil=>rfl
      | cons x l=>obtain⟨_,_,e,_⟩:=hc 0 _ rfl;cases e
    subst hl0
    have e1:AP Tryz.prog .eql 77 (.slice none 0 cap) (.slice none 0 (some 0))=some (.bool true):=by kernel_rfl
    simp only[jM,QA,QB,UZ,uV,e1,Qa,Qb,Qc,Qd,Qf,Qh,Qi,Qj,Ql,Qm,Qn,true_and,Qo,Qp,Qq,Qr,Qs,Qu,Qy,Ra,Rb,Rg,Ri,Rj,Rk,Rm,Yc]
    exact hK s _ (A9.refl _ _) (NR.nil _ _)
  · obtain⟨⟨i,o⟩,rfl⟩:∃io,a=some io:=by cases a with | none=>exact absurd rfl hnil | some io=>exact⟨io,rfl⟩
    have e1:∀n,AP Tryz.prog .eql 77 (.slice (some (i,o)) n cap) (.slice none 0 (some 0))=some (.bool false):=fun n=>by kernel_rfl
    have ho:=A9.new s (R 185 1 false [])
    have hd:Cg 185 (newObj s (R 185 1 false [])) (.slice (some (s.next,0)) 0 (some 0)) 0 1 [] []:=.inl ⟨some (s.next,0),rfl,rfl,rfl,fun e=>(by cases e),fun i o e=>by
      injection e with e
      injection e with e1 e2
      subst e1;subst e2
      exact⟨t6 _,by rw[Ji,AQ,if_pos rfl];rfl⟩⟩
    have hc2:Aj (newObj s (R 185 1 false [])).next (newObj s (R 185 1 false [])) (some (i,o)) (us l):=(hc.old ho (tJ _)).mono ho.1
    obtain⟨v',s',O',happ,hd',hn1,hn2,hf,hO,hsl⟩:=hd.append (xt:=77) Tryz.underlying77 Bs SN (by omega) YV R8 (iS (cap:=cap) hc2) (by rw[Ca];omega) (ik l) (by omega) (by omega)
    simp only[jM,QA,QB,cX,e1,lG,Xd,happ,Qa,Qb,Qc,Qd,Qf,Qh,Qi,Qj,Qk,Ql,Qm,Qn,true_and,Qo,Qp,Qq,Qr,Qs,Qu,Qz,Ra,Rb,Rg,Ri,Rj,Rk,Rm,Yc]
    have hsn:(newObj s (R 185 1 false [])).next=s.next+1:=rfl
    refine hK s' v' ⟨by omega,fun j hj=>by rw[hf j (by omega) (by simp),AQ,if_neg (by omega)]⟩ ⟨O',by simpa using hd',fun j hj=>?_,fun j hj=>?_,fun hne=>?_⟩
    · rcases hO j hj with h | h
      · cases h
      · omega
    · rcases hsl j hj with h | h
      · injection h with h;omega
      · omega
    · have hlp : 0 < l.length := List.length_pos_iff.2 hne
      have h2:=SG (i:=s.next) (o:=0) (s:=newObj s (R 185 1 false [])) (by rw[Ji,AQ,if_pos rfl];rfl) (iS (cap:=cap) hc2) (Ca l) (ik l) hlp (by omega)
      rw[h2]at happ
      injection happ with happ
      injection happ with e5 e6
      rw[← e5,← e6]
      exact⟨_,rfl,t6 _,CH.of_R (by rw[AQ,if_pos rfl])⟩
theorem N3(l:List Nat)(x:Nat):DR (l++[x])=if x=0 then DR l else l++[x]:=by
 induction l with
 | nil=>by_cases h:x=0<;>simp[DR,h]
 | cons y l ih =>
  show(if y=0∧DR (l++[x])=[]then []else y::DR (l++[x]))=_
  rw[ih]
  by_cases h:x=0
  ·simp only[h,if_true];rfl
  ·simp[h]
theorem Pd{a:Option (Nat×Nat)}{cap:Option Nat}{l:List Nat}(hc:Aj s.next s a (us l))(hl:l.length≤100000000000){Q:Ax→Prop}(x1:AV)
  (hq:∀ (k:Nat) (y3:AV),k≤l.length→DR l=l.take k→Q ⟨.exit 0,[.slice a l.length cap,x1,iv (k:Int),y3],[],s⟩):
  ∀ (k:Nat) (x3:AV),k≤l.length→DR l=DR (l.take k)→WC E none (.loop KF) Q [.slice a l.length cap,x1,iv (k:Int),x3] [] s:=by
 intro k
 induction k with
 | zero =>
  intro x3 hk ht
  have d0:decide ((0:Int)<((0:Nat):Int))=false:=rfl
  refine WC.loop' ?_
  simp only[KF,P3,Ry,d0,Qa,Qb,Qc,Qd,Qf,Qg,Qh,Qi,Qj,Qk,Qm,Qn,true_and,Qo,Qp,Qq,Qr,Qs,Qt,Qu,Qv,Qw,Qz,Ra,Rc,Rd,Rq,Rt,Ru,Ry]
  exact hq 0 _ hk (by rw[ht];rfl)
 | succ k ih =>
  intro x3 hk ht
  have hx:l[k]? = some l[k]:=tQ (by omega)
  generalize l[k]=x at hx
  obtain⟨i,o,rfl,_,hload⟩:=Cl.at hc hx
  have htk:l.take (k+1)=l.take k++[x]:=by rw[List.take_add_one,hx];rfl
  have d0:decide ((0:Int)<((k+1:Nat):Int))=true:=decide_eq_true (by omega)
  have e1:=B0 Tryz.prog 3 ((k+1:Nat):Int) 1 ⟨by omega,by omega⟩
  have e2:((k+1:Nat):Int) - 1=(k:Int):=by omega
  have e3:=Aw (cap:=cap) (i:=i) (o:=o) Tryz.underlying77 Bs (show k<l.length by omega)
  have e4:AG Tryz.prog s 185 (.ptr (some (i,o+k * 1)))=some (BS x):=CK FP (by rw[tT];exact hload)
  have e5:AP Tryz.prog .eql 185 (BS x) (.int .u32 0)=some (.bool (decide (x=0))):=nZ Tryz.prog 185 (b:=0) .u32
  refine WC.loop' ?_
  generalize hW:WC E none (Aa.loop KF) Q=WW
  by_cases h0:x=0
  ·have d1:decide (x=0)=true:=decide_eq_true h0
   simp only[KF,P3,bJ,Ry,d0,e1,e2,e3,e4,e5,d1,Qa,Qb,Qc,Qd,Qf,Qg,Qh,Qi,Qj,Qk,Qm,Qn,true_and,Qo,Qp,Qq,Qr,Qs,Qu,Qv,Qw,Qy,Ra,Rc,Rd,Rq,Rt,Ru,Ry]
   rw[← hW]
   exact ih _ (by omega) (by rw[ht,htk,N3,if_pos h0])
  ·have d1:decide (x=0)=false:=decide_eq_false h0
   simp only[KF,P3,Ry,d0,e1,e2,e3,e4,e5,d1,Qa,Qb,Qc,Qd,Qf,Qg,Qh,Qi,Qj,Qk,Qm,Qn,true_and,Qo,Qp,Qq,Qr,Qs,Qu,Qv,Qw,Qz,Ra,Rc,Rd,Rq,Rt,Ru,Ry]
   exact hq (k+1) _ hk (by rw[ht,htk,N3,if_neg h0])
theorem D9(l:List Nat):(DR l).length≤l.length:=by
 induction l with
 | nil=>exact tJ _
 | cons x l ih=>unfold DR;split<;>simp<;>omega
theorem CA(hE:Ak E){v:AV}{l:List Nat}(hv:Cl s v l)(hl:l.length≤100000000000){K:AV→AD→Prop}(hK:∀s' v',A9 s.next s s'→NR s.next s' v' (DR l)→K v' s'):WF E 202 [v] K s:=by
 obtain⟨a,cap,rfl,hcap,hc⟩:=hv
 refine hE.go W5 (by decide) rfl ?_
 simp only[nk,UP,UQ,AW Tryz.underlying77,Qa,Qb,Qc,Qd,Qf,Qh,Qi,Qj,Qk,Ql,Qm,Qn,true_and,Qo,Qp,Qq,Qs,Qu,Ra,Rg,Rj,Rk,Rm,Yc]
 refine Pd hc hl _ (fun k y3 hk ht=>?_) l.length _ (tJ _) (by rw[List.take_length])
 have e1:=eu Tryz.underlying77 Bs hcap hk
 simp only[UR,e1,if_true,Qb,Qc,Qd,Qf,Qh,Qj,Qk,Qm,Qn,true_and,Qq,Qr,Qs,Qu,Ra,Rc,Rf,Ri]
 refine Mi hE (Cl.take hcap hc hk) (by rw[tp];omega) fun s' v' h1 h2=>?_
 simp only[Qd,Qn,true_and,Qo,Qp,Qq,Qr]
 rw[← ht]at h2
 exact hK s' v' h1 h2
theorem Ym(hE:Ak E){K:AV→AD→Prop}(hK:K (.slice none 0 (some 0)) s):WF E 227 [.slice none 0 (some 0)] K s:=by
 refine hE.go W7 (by decide) rfl ?_
 have e1:AP Tryz.prog .eql 77 (.slice none 0 (some 0)) (.slice none 0 (some 0))=some (.bool true):=by kernel_rfl
 simp only[jM,QA,QB,UZ,e1,Qa,Qb,Qc,Qd,Qf,Qh,Qi,Qj,Ql,Qm,Qn,true_and,Qo,Qp,Qq,Qr,Qs,Qu,Qy,Ra,Rb,Rg,Ri,Rj,Rk,Rm,Yc]
 exact hK
theorem ib(hE:Ak E){K:AV→AD→Prop}(hK:K (.slice none 0 (some 0)) s):WF E 202 [.slice none 0 (some 0)] K s:=by
 refine hE.go W5 (by decide) rfl ?_
 have hn:=(NR.nil 0 s).n32
 obtain⟨a,cap,e,hcap,hc⟩:=hn
 injection e with e1 e2 e3
 subst e1;subst e3
 simp only[nk,UP,UQ,AW Tryz.underlying77,Qa,Qb,Qc,Qd,Qf,Qh,Qi,Qj,Qk,Ql,Qm,Qn,true_and,Qo,Qp,Qq,Qs,Qu,Ra,Rg,Rj,Rk,Rm,Yc]
 refine Pd (l:=[]) hc (by simp) _ (fun k y3 hk ht=>?_) 0 _ (tJ _) rfl
 have hk0:k=0:=by simpa using hk
 subst hk0
 have e1:=eu Tryz.underlying77 Bs hcap (tJ 0)
 simp only[uV]at e1
 simp only[UR,uV,e1,if_true,Qb,Qc,Qd,Qf,Qh,Qj,Qk,Qm,Qn,true_and,Qq,Qr,Qs,Qu,Ra,Rc,Rf,Ri]
 refine Ym hE ?_
 simp only[Qd,Qn,true_and,Qo,Qp,Qq,Qr]
 exact hK
end
theorem Bj{s:AD}{n:Nat}:Ac Tryz.prog s 187 185 (AU n)=some (BS (n % 4294967296)):=by
 have:Ac Tryz.prog s 187 185 (AU n)=some (.int .u32 (Cb .u32 (n:Int))):=by
  simp[Ac,Tryz.underlying187,Tryz.underlying185]
 rw[this,Zh]
 rfl
theorem BU{s:AD}{n:Nat}(h:n<4294967296):Ac Tryz.prog s 185 187 (BS n)=some (AU n):=by
 have:Ac Tryz.prog s 185 187 (BS n)=some (.int .u64 (Cb .u64 (n:Int))):=by
  simp[Ac,Tryz.underlying187,Tryz.underlying185]
 rw[this,N5 (by omega)]
theorem Js      {s : AD}  {v : AV} {l : List Nat} {O : List Nat} (hd : Cg   185 s v l.length 1 (us l) O) (x : Nat) (hl : l.length ≤ 100000000000) :
    ∃v' s' O',Ay Tryz.prog (newObj s (R 185 1 false [BS x])) [77,77] [v,.slice (some (s.next,0)) 1 (some 1)]=some (v',s')∧Cg 185 s' v' (l++[x]).length 1 (us (l++[x])) O'∧s.next≤s'.next ∧
      (∀j,j<s.next→j ∉ O→s'.heap.get j=s.heap.get j)∧(∀j∈O',j∈O∨s.next≤j)∧(∀j,Ci v'=some j→Ci v=some j∨s.next≤j):=by
  have hsn:(newObj s (R 185 1 false [BS x])).next=s.next+1:=rfl
  have U7:Cg 185 (newObj s (R 185 1 false [BS x])) v l.length 1 (us l) O:=hd.frame (by omega) (fun j hj=>by
    rw[AQ,if_neg]
    intro e
    subst e
    rcases hd with⟨a,rfl,_,_,_,h5⟩ | ⟨i,p,rfl,h6,_⟩
    · cases a with
      | none=>cases hj
      | some io =>
        obtain⟨i,o⟩:=io
        injection hj with hj
        have:=(h5 i o rfl).1
        omega
    · injection hj with hj
      rcases h6.ex with⟨e',_⟩ | ⟨_,_,k2,_⟩
      · cases e'
      · omega)
  have hsrc:B4 Tryz.prog (newObj s (R 185 1 false [BS x])) 185 1 (.slice (some (s.next,0)) 1 (some 1))=some (1,[BS x]):=Rz 185 1 (by rw[AQ,if_pos rfl];rfl) rfl
  obtain⟨v',s',O',happ,hd',hn1,hn2,hf,hO,hsl⟩:=U7.append (xt:=77) Tryz.underlying77 Bs SN (by omega) YV R8 hsrc rfl rfl (by omega) (by omega)
  refine⟨v',s',O',happ,?_,by omega,fun j hj hjO=>by rw[hf j (by omega) hjO,AQ,if_neg (by omega)],fun j hj=>(hO j hj).imp id (fun h=>by omega),fun j hj=>(hsl j hj).imp id (fun h=>by omega)⟩
  rw[Ph,tX]
  exact hd'
theorem Gg.dest{s:AD}{v:AV}{n:Nat}{cs:List AV}{O:List Nat}(h:Gg 185 1 s v n cs O):Cg 185 s v n 1 cs O:=by
 rcases h with⟨rfl,rfl,rfl,rfl⟩ | ⟨i,p,h1,h2,h3⟩
 ·exact Cg.nil s 1
 ·exact .inr ⟨i,p,h1,h2,h3⟩
def NW(b:Nat)(s:AD)(v:AV)(l:List Nat):Prop:=∃O,Gg 185 1 s v l.length (us l) O∧∀j∈O,b≤j
theorem NW.n32'{b:Nat}{s:AD}{v:AV}{l:List Nat}(h:NW b s v l):Cl s v l:=by
 obtain⟨O,h1,h2⟩:=h
 exact h1.dest.n32
theorem NW.own{b:Nat}{s:AD}{v:AV}{l:List Nat}(h:NW b s v l)(h0:l≠[]):∃i p,v=.slice (some (i,0)) l.length none∧b≤i∧i<s.next∧CH s i (us l) p∧∀q,p=some q→b≤q∧q<s.next∧q≠i:=by
  obtain⟨O,h1,h2⟩:=h
  rcases h1 with⟨_,h3,_⟩ | ⟨i,p,rfl,h3,rfl⟩
  · exact absurd (uQ h3) h0
  · rcases h3.ex with ⟨e, _⟩ | ⟨_, _, k2, k3, r, k4, k5, _, k7, k8, k9, _⟩
    · cases e
    · refine⟨i,p,rfl,h2 i (by simp),k2,⟨r,k4,k5,by rw[k7];rfl,k8,.inr k9⟩,fun q hq=>?_⟩
      obtain⟨_,q2,q3⟩:=k3 q hq
      exact⟨h2 q (by simp[hq]),q2,q3⟩
theorem TP{s:AD}{v:AV}{l:List Nat}{O:List Nat}(hd:Gg 185 1 s v l.length (us l) O)(x:Nat)(hl:l.length≤100000000000):
  ∃v' s' O',Ay Tryz.prog (newObj s (R 185 1 false [BS x])) [77,77] [v,.slice (some (s.next,0)) 1 (some 1)]=some (v',s')∧Gg 185 1 s' v' (l++[x]).length (us (l++[x])) O'∧s.next≤s'.next ∧
   (∀j,j<s.next→j ∉ O→s'.heap.get j=s.heap.get j)∧(∀j∈O',j∈O∨s.next≤j)∧(∀j,Ci v'=some j→Ci v=some j∨s.next≤j):=by
 have hsn:(newObj s (R 185 1 false [BS x])).next=s.next+1:=rfl
 have U7:=hd.frame (s':=newObj s (R 185 1 false [BS x])) (by omega) (fun j hj=>by rw[AQ,if_neg (by have:=hd.lt j hj;omega)])
 have hsrc:B4 Tryz.prog (newObj s (R 185 1 false [BS x])) 185 1 (.slice (some (s.next,0)) 1 (some 1))=some (1,[BS x]):=Rz 185 1 (by rw[AQ,if_pos rfl];rfl) rfl
 obtain⟨v',s',O',happ,hb',hn',hf,hO,hsl⟩:=U7.append (xt:=77) (m:=1) Tryz.underlying77 Bs SN (by omega) YV R8 (by omega) hsrc rfl rfl (by omega) (by omega)
 refine⟨v',s',O',happ,?_,by omega,fun j hj hjO=>by rw[hf j (by omega) hjO,AQ,if_neg (by omega)],fun j hj=>(hO j hj).imp id (fun h=>by omega),fun j hj=>?_⟩
 ·rw[Ph,tX]
  exact hb'
 ·rw[hsl]at hj
  injection hj with hj
  exact .inr (by omega)
section
variable{E:Ck}{s:AD}
theorem Y8(n:Nat):AC [n % 4294967296,n / 4294967296]=n:=by
 show n % 4294967296+LB * (n / 4294967296+LB * 0)=n
 rw[show LB=4294967296 from rfl]
 omega
theorem X1(hE:Ak E){n:Nat}(hn:n<18446744073709551616){K:AV→AD→Prop}(hK:∀s' v',A9 s.next s s'→NR s.next s' v' (AK n)→K v' s'):WF E 216 [AU n] K s:=by
 refine hE.go jq (by decide) rfl ?_
 have e1:=Ll Tryz.prog 187 hn
 have e2:=J8 Tryz.prog 187 (a:=n) (k:=.u64) (n:=32) (by decide)
 have e2:AP Tryz.prog .shr 187 (AU n) (.int .u64 32)=some (AU (n / 4294967296)):=e2
 have e3:n % 4294967296 % 4294967296=n % 4294967296:=uj _ _
 have e4:n / 4294967296 % 4294967296=n / 4294967296:=tr (by omega)
 have hrow:Cl (newObj s (R 185 1 false [BS (n % 4294967296),BS (n / 4294967296)])) (.slice (some (s.next,0)) 2 (some 2)) [n % 4294967296,n / 4294967296]:=by
  refine⟨some (s.next,0),some 2,rfl,.inl ⟨2,rfl,tJ _,fun e=>by cases e⟩,?_⟩
  exact QL (e:=185) (sz:=1) (sp:=false) (by rw[AQ,if_pos rfl];rfl) (t6 _)
 simp only[qr,cP,cQ,e1,e2,Bj,e3,e4,RY,Xd,Qa,Qb,Qc,Qd,Qf,Qh,Qi,Qj,Qk,Ql,Qm,Qn,true_and,Qo,Qp,Qq,Qr,Qs,Qu,Ra,Rg,Ri,Rj,Rk,Rm,Yc]
 refine CA hE hrow (by simp) fun s' v' h1 h2=>?_
 have hs:BZ [n % 4294967296,n / 4294967296]:=fun x hx=>by
  have hB:LB=4294967296:=rfl
  simp only[uT,List.not_mem_nil,or_false]at hx
  rcases hx with rfl | rfl
  ·exact ti _ (by decide)
  ·omega
 rw[BN hs,Y8]at h2
 simp only[Qd,Qn,true_and,Qo,Qp,Qq,Qr]
 exact hK s' v' ((A9.new s _).trans (h1.mono (t7 _))) (h2.mono (t7 _))
theorem jL{x:Nat}(hx:x<4294967296){a:Option (Nat×Nat)}{cap:Option Nat}{l:List Nat}{b:Nat}(hc:Aj b s a (us l))(hb:b≤s.next)(hl:l.length≤10000000000)(hs:BZ l){T:List Nat}{Q:Ax→Prop}(x0 x3:AV)
  (hq:∀ (s':AD) (c:Nat) (v4:AV) (d O:List Nat) (y5 y8 y9:AV),A9 s.next s s'→c<4294967296→d++[c]=T→Gg 185 1 s' v4 d.length (us d) O→(∀j∈O,s.next≤j)→(∀j,Ci v4=some j→s.next≤j) →
   Q ⟨.exit 0,[x0,AU x,AU c,x3,v4,y5,.slice a l.length cap,iv (l.length:Int),y8,y9],[],s'⟩):
  ∀ (r:List Nat) (k:Nat) (s':AD) (c:Nat) (v4:AV) (d O:List Nat) (x5 x9:AV),l.drop k=r→k≤l.length→d.length=k→A9 s.next s s'→c<4294967296→d++Lq r x c=T→Gg 185 1 s' v4 d.length (us d) O→(∀j∈O,s.next≤j)→(∀j,Ci v4=some j→s.next≤j) →
   WC E none (.loop MV) Q [x0,AU x,AU c,x3,v4,x5,.slice a l.length cap,iv (l.length:Int),iv (k:Int),x9] [] s':=by
 intro r
 induction r with
 | nil =>
  intro k s' c v4 d O x5 x9 hd hk hdl ho hc' hT hD hO hsl
  have hkl:k=l.length:=by
   have:=congrArg List.length hd
   simp at this
   omega
  subst hkl
  refine WC.loop' ?_
  simp only[MV,UO,Rx,Int.lt_irrefl,decide_false,Qa,Qb,Qc,Qd,Qf,Qh,Qj,Qm,Qn,true_and,Qo,Qp,Qq,Qr,Qs,Qu,Qz,Ra,Rc,Rd,Rx]
  exact hq s' c v4 d O _ _ _ ho hc' hT hD hO hsl
 | cons y r ih =>
  intro k s' c v4 d O x5 x9 hd hk hdl ho hc' hT hD hO hsl
  have hlt:k<l.length:=by
   rcases tL k l.length with h' | h'
   ·exact h'
   ·rw[uK h']at hd;cases hd
  have hy:l[k]? = some y:=by
   have:=congrArg (fun l=>l[0]?) hd
   simpa using this
  have hd':l.drop (k+1)=r:=by
   have:=congrArg (List.drop 1) hd
   simpa[uM]using this
  have hys:y<4294967296:=hs y (tf hy)
  obtain⟨i,o,rfl,hi,hload⟩:=hc k _ (DT hy)
  have hkk:decide ((k:Int)<(l.length:Int))=true:=decide_eq_true (by omega)
  have e1:=Aw (cap:=cap) (i:=i) (o:=o) Tryz.underlying77 Bs hlt
  have e2:AG Tryz.prog s' 185 (.ptr (some (i,o+k * 1)))=some (BS y):=CK FP (by rw[tT,EN (ho.2 i (by omega))];exact hload)
  have hxy:x * y≤4294967295 * 4294967295:=uW (by omega) (by omega)
  have e3:=Tv Tryz.prog 187 (a:=x) (b:=y) (by omega)
  have e4:=HG Tryz.prog 187 (a:=c) (b:=x * y) (by omega)
  have e5:=Ll Tryz.prog 187 (a:=c+x * y) (by omega)
  have e6:(c+x * y) % 4294967296 % 4294967296=(c+x * y) % 4294967296:=uj _ _
  have e7:AP Tryz.prog .shr 187 (AU (c+x * y)) (.int .u64 32)=some (AU ((c+x * y) / 4294967296)):=J8 Tryz.prog 187 (k:=.u64) (n:=32) (by decide)
  have e8:=Bz Tryz.prog 3 (k:Int) 1 ⟨by omega,by omega⟩
  have e8':((k:Int)+1)=((k+1:Nat):Int):=by omega
  obtain⟨v',s2,O',happ,hD',hn',hf',hO',hsl'⟩:=TP hD ((c+x * y) % 4294967296) (by omega)
  refine WC.loop' ?_
  generalize hW:WC E none (Aa.loop MV) Q=WW
  simp only[MV,UO,bE,bF,bG,bH,bI,Rx,hkk,e1,e2,BU hys,e3,e4,e5,Bj,e6,GZ,Xd,happ,e7,e8,e8',Qa,Qb,Qc,Qd,Qf,Qh,Qi,Qj,Qk,Qm,Qn,true_and,Qo,Qp,Qq,Qr,Qs,Qu,Qy,Ra,Rc,Rd,Yc,Rx]
  rw[← hW]
  refine ih (k+1) s2 ((c+x * y) / 4294967296) v' (d++[(c+x * y) % 4294967296]) O' _ _ hd' hlt (by rw[tX,hdl];rfl) ⟨by have:=ho.1;omega,fun j hj=>by rw[hf' j (by have:=ho.1;omega) (fun hjO=>by have:=hO j hjO;omega)];exact ho.2 j hj⟩ (by omega) ?_ hD' (fun j hj=>(hO' j hj).elim (hO j) (fun h=>by have:=ho.1;omega)) (fun j hj=>(hsl' j hj).elim (hsl j) (fun h=>by have:=ho.1;omega))
  rw[← hT,tg]
  rfl
theorem qJ(hE:Ak E){v:AV}{l:List Nat}(hv:Cl s v l)(hl:l.length≤10000000000)(hs:BZ l){x c:Nat}(hx:x<4294967296)(hc:c<4294967296){K:AV→AD→Prop}(hK:∀s' v',A9 s.next s s'→NW s.next s' v' (Lq l x c)→K v' s'):
  WF E 201 [v,AU x,AU c] K s:=by
 obtain⟨a,cap,rfl,hcap,hcc⟩:=hv
 refine hE.go je (by decide) rfl ?_
 simp only[qX,bB,bC,bD,AW Tryz.underlying77,Qa,Qb,Qc,Qd,Qf,Qh,Qi,Qj,Ql,Qm,Qn,true_and,Qo,Qp,Qq,Qr,Qs,Qu,Ra,Rg,Rj,Rk,Rm,Yc]
 refine jL hx hcc (tJ _) hl hs (T:=Lq l x c) _ _ (fun s' c' v4 d O y5 y8 y9 ho hc' hT hD hO hsl=>?_) l 0 s c _ [] [] _ _ rfl (tV _) rfl (A9.refl _ _) hc rfl (Gg.nil _ _ s) (fun j hj=>(by cases hj)) (fun j hj=>(by cases hj))
 have hdl:d.length=l.length:=by
  have:=congrArg List.length hT
  have h2:∀ (l:List Nat) (c:Nat),(Lq l x c).length=l.length+1:=by
   intro l
   induction l with
   | nil=>intro c;rfl
   | cons y l ih=>intro c;show(Lq l x _).length+1=_;rw[ih];rfl
  rw[tX,h2]at this
  simpa using this
 obtain⟨v',s2,O',happ,hD',hn',hf',hO',hsl'⟩:=TP hD c' (by omega)
 have e6:c' % 4294967296=c':=tr hc'
 simp only[WB,Bj,e6,GZ,Xd,happ,if_true,Qb,Qc,Qd,Qf,Qh,Qj,Qk,Qm,Qn,true_and,Qo,Qp,Qq,Qr,Qs,Qu,Ra,Rc,Rf,Ri,Yc]
 rw[hT]at hD'
 refine hK s2 v' ⟨by have:=ho.1;omega,fun j hj=>by rw[hf' j (by have:=ho.1;omega) (fun hjO=>by have:=hO j hjO;omega)];exact ho.2 j hj⟩ ⟨O',hD',fun j hj=>(hO' j hj).elim (hO j) (fun h=>by have:=ho.1;omega)⟩
theorem nc(hE:Ak E){v:AV}{l:List Nat}(hv:Cl s v l)(hl:l.length≤10000000000)(hs:BZ l){n:Nat}(hn:n<32){K:AV→AD→Prop}(hK:∀s' v',A9 s.next s s'→NW s.next s' v' (Lq l (2 ^ n) 0)→K v' s'):WF E 234 [v,AU n] K s:=by
 have h2:2 ^ n≤2 ^ 31:=uX (by decide) (by omega)
 have e31:(2:Nat) ^ 31=2147483648:=by decide
 rw[e31]at h2
 have e1:AP Tryz.prog .shl 187 (.int .u64 1) (AU n)=some (AU (2 ^ n)):=by
  have:=Pf Tryz.prog 187 (a:=1) (k:=.u64) (n:=n) (by omega) (by rw[Nat.one_mul];omega)
  rw[Nat.one_mul]at this
  exact this
 refine hE.go jz (by decide) rfl ?_
 simp only[q7,dJ,dK,e1,Qa,Qb,Qc,Qd,Qf,Qh,Qi,Qj,Qk,Ql,Qm,Qn,true_and,Qo,Qp,Qq,Qr,Qs,Qu,Ra,Rg,Ri,Rj,Rk,Rm,Yc]
 refine qJ hE hv hl hs (show 2 ^ n<4294967296 by omega) (show 0<4294967296 by decide) fun s' v' h1 h2=>?_
 simp only[Qd,Qn,true_and,Qo,Qp,Qq,Qr]
 exact hK s' v' h1 h2
end
def Hh(a b:Nat):Int:=if a<b then -1 else if b<a then 1 else 0
theorem NF:∀ (n:Nat),n≠0→LB ^ ((AK n).length - 1)≤n:=by
  intro n
  induction n using Nat.strongRecOn with
  | _ n ih =>
    intro h
    rw[Ew h,tq,uq]
    by_cases h2:n / LB=0
    · rw[h2,BC]
      show LB ^ 0≤n
      rw[Nat.pow_zero];omega
    · have := ih (n / LB) (Nat.div_lt_self (by omega) (by decide)) h2
      have hne:(AK (n / LB)).length≠0:=fun e=>Cp h2 (uQ e)
      obtain⟨m,hm⟩:∃m,(AK (n / LB)).length=m+1:=⟨(AK (n / LB)).length - 1,by omega⟩
      rw[hm,uq]at this
      rw[hm,uF]
      exact tN (td LB this) (Nat.div_mul_le_self n LB)
theorem gH(n:Nat):n<LB ^ (AK n).length:=by
 have:=CP (AT n)
 rw[AZ]at this
 exact this
theorem DN{a b:Nat}(h:(AK a).length<(AK b).length):a<b:=by
 have hb:b≠0:=fun e=>by subst e;rw[BC]at h;simp at h
 have h1:=gH a
 have h2:=NF b hb
 have:LB ^ (AK a).length≤LB ^ ((AK b).length - 1):=uX A7 (by omega)
 omega
theorem S6{la lb:List Nat}{k x y:Nat}(hl:la.length=lb.length)(ha:BZ la)(hb:BZ lb)(hx:la[k]? = some x)(hy:lb[k]? = some y)(hd:la.drop (k+1)=lb.drop (k+1))(h:x<y):AC la<AC lb:=by
 have hka:k<la.length:=by
  rcases tL k la.length with h' | h'
  ·exact h'
  ·rw[tY h']at hx;cases hx
 have e:∀ (l:List Nat) (z:Nat),l[k]? = some z→k<l.length→AC l=AC (l.take k)+LB ^ k * (z+LB * AC (l.drop (k+1))):=by
  intro l z hz hkl
  have h1:=BE (l.take k) (l.drop k)
  rw[ur,tp,ua (by omega),Fq hz]at h1
  exact h1
 rw[e la x hx hka,e lb y hy (by omega),hd]
 have h1:=CP (ha.take k)
 rw[tp,ua (by omega)]at h1
 generalize LB * AC (lb.drop (k+1))=z
 have h2:LB ^ k * (x+z+1)≤LB ^ k * (y+z):=tt _ (by omega)
 rw[th,tT]at h2
 omega
section
variable{E:Ck}{s:AD}
theorem eh       {a b : Option (Nat × Nat)} {ca cb : Option Nat} {la lb : List Nat} (hl : la.length = lb.length) (ha : BZ  la) (hb : BZ  lb) (hca : Aj      s.next s a (us la)) (hcb : Aj      s.next s b (us lb)) (h63 : la.length ≤ 100000000000) {Q : Ax   → Prop} (x2 x4 x5 : AV)
    (hq:la=lb→∀y3 y6 y7 y8,Q ⟨.exit 1,[.slice a la.length ca,.slice b lb.length cb,x2,y3,x4,x5,y6,y7,y8],[],s⟩)
    (hr:∀z y3 y6 y7 y8,z=Hh (AC la) (AC lb)→Q ⟨.ret,[.slice a la.length ca,.slice b lb.length cb,iv z,y3,x4,x5,y6,y7,y8],[],s⟩):
    ∀ (k:Nat) (x6 x7 x8:AV),k≤la.length→la.drop k=lb.drop k→WC E none (.loop GE) Q [.slice a la.length ca,.slice b lb.length cb,x2,iv ((k:Int) - 1),x4,x5,x6,x7,x8] [] s:=by
  intro k
  induction k with
  | zero =>
    intro x6 x7 x8 hk hd
    refine WC.loop' ?_
    have d0:decide ((0:Int)≤((0:Nat):Int) - 1)=false:=rfl
    simp only[GE,MY,Wa,d0,Qa,Qb,Qc,Qd,Qf,Qh,Qi,Qj,Qm,Qn,true_and,Qo,Qp,Qq,Qr,Qs,Qu,Qz,Ra,Rb,Rc,Rd,Re,Wa]
    exact hq (by simpa using hd) _ _ _ _
  | succ k ih =>
    intro x6 x7 x8 hk hd
    have hx:la[k]? = some la[k]:=tQ (by omega)
    generalize la[k]=x at hx
    have hy:lb[k]? = some (lb[k]'(by omega)):=tQ (by omega)
    generalize lb[k]'(by omega)=y at hy
    obtain⟨i,o,rfl,_,hload⟩:=hca k _ (DT hx)
    obtain⟨i2,o2,rfl,_,hload2⟩:=hcb k _ (DT hy)
    have e0:((k+1:Nat):Int) - 1=(k:Int):=by omega
    have d0:decide ((0:Int)≤(k:Int))=true:=decide_eq_true (by omega)
    have e1:=Aw (cap:=ca) (i:=i) (o:=o) Tryz.underlying77 Bs (show k<la.length by omega)
    have e2:AG Tryz.prog s 185 (.ptr (some (i,o+k * 1)))=some (BS x):=CK FP (by rw[tT];exact hload)
    have e3:=Aw (cap:=cb) (i:=i2) (o:=o2) Tryz.underlying77 Bs (show k<lb.length by omega)
    have e4:AG Tryz.prog s 185 (.ptr (some (i2,o2+k * 1)))=some (BS y):=CK FP (by rw[tT];exact hload2)
    have e5:=sF Tryz.prog 185 (a:=x) (b:=y) .u32
    have e6:=Pe Tryz.prog 185 (a:=x) (b:=y) .u32
    have e7:=B0 Tryz.prog 3 (k:Int) 1 ⟨by omega,by omega⟩
    refine WC.loop' ?_
    generalize hW:WC E none (Aa.loop GE) Q=WW
    rw[e0]
    by_cases h1:x<y
    · have d1:decide (x<y)=true:=decide_eq_true h1
      simp only[GE,MY,QE,dI,Wa,d0,e1,e2,e3,e4,e5,d1,Qa,Qb,Qc,Qd,Qf,Qh,Qi,Qj,Qk,Qm,Qn,true_and,Qo,Qp,Qq,Qr,Qs,Qu,Qy,Ra,Rb,Rc,Rd,Re,Wa]
      refine hr _ _ _ _ _ ?_
      have:=S6 hl ha hb hx hy hd h1
      unfold Hh
      rw[if_pos this]
    · have d1:decide (x<y)=false:=decide_eq_false h1
      by_cases h2:y<x
      · have d2:decide (y<x)=true:=decide_eq_true h2
        simp only[GE,MY,QE,QC,WQ,Wa,d0,e1,e2,e3,e4,e5,e6,d1,d2,Qa,Qb,Qc,Qd,Qf,Qh,Qi,Qj,Qk,Qm,Qn,true_and,Qo,Qp,Qq,Qr,Qs,Qu,Qy,Qz,Ra,Rb,Rc,Rd,Re,Wa]
        refine hr _ _ _ _ _ ?_
        have:=S6 hl.symm hb ha hy hx hd.symm h2
        unfold Hh
        rw[if_neg (by omega),if_pos this]
      · have d2 : decide (y < x) = false := decide_eq_false h2
        have hxy:x=y:=by omega
        simp only[GE,MY,QE,QC,WS,Wa,d0,e1,e2,e3,e4,e5,e6,d1,d2,e7,Qa,Qb,Qc,Qd,Qf,Qh,Qi,Qj,Qk,Qm,Qn,true_and,Qo,Qp,Qq,Qr,Qs,Qu,Qy,Qz,Ra,Rb,Rc,Rd,Re,Wa]
        rw[← hW]
        refine ih _ _ _ (by omega) ?_
        rw[t8 (show k<la.length by omega),t8 (show k<lb.length by omega),hd]
        have g1:la[k]=x:=by rw[tQ (by omega)]at hx;exact Option.some.inj hx
        have g2:lb[k]'(by omega)=y:=by rw[tQ (by omega)]at hy;exact Option.some.inj hy
        rw[g1,g2,hxy]
theorem em     (hE : Ak    E) {va vb : AV} {la lb : List Nat} (ha : Cl  s va la) (hb : Cl  s vb lb) (hla : la.length ≤ 100000000000) (hlb : lb.length ≤ 100000000000) (hsa : BZ  la) (hsb : BZ  lb) {K : AV → AD  → Prop}
    (hK:∀s',A9 s.next s s'→K (iv (Hh (AC la) (AC lb))) s'):WF E 233 [va,vb] K s:=by
  refine hE.go jy (by decide) rfl ?_
  simp only[qz,dD,dE,Qa,Qb,Qc,Qd,Qf,Qh,Qi,Qj,Qk,Ql,Qm,Qn,true_and,Qo,Qp,Qq,Qs,Qu,Ra,Rb,Rd,Re,Rg,Rj,Rk,Rm,Yc]
  refine CA hE ha hla fun s1 v1 o1 r1=>?_
  simp only[Qd,Qn,true_and,Qq,Qr]
  refine CA hE (hb.old o1) hlb fun s2 v2 o2 r2=>?_
  have n1:=r1.n32.old o2
  have n2:=r2.n32
  have hend:=hK s2 (o1.trans (o2.mono o1.1))
  have t1:=D9 la
  have t2:=D9 lb
  rw[BN hsa]at n1 t1
  rw[BN hsb]at n2 t2
  generalize AC la=A at *
  generalize AC lb=B at *
  obtain⟨a,ca,rfl,_,hca⟩:=n1
  obtain⟨b,cb,rfl,_,hcb⟩:=n2
  by_cases h1:(AK A).length<(AK B).length
  · have d1 : decide (((AK    A).length : Int) < ((AK    B).length : Int)) = true := decide_eq_true (by omega)
    have e:Hh A B=-1:=by unfold Hh;rw[if_pos (DN h1)]
    rw[e]at hend
    simp only[QD,dF,AW Tryz.underlying77,Rx,d1,Qb,Qc,Qd,Qf,Qh,Qi,Qj,Qk,Qm,Qn,true_and,Qo,Qp,Qq,Qr,Qs,Qu,Qy,Ri,Rx]
    exact hend
  · have d1:decide (((AK A).length:Int)<((AK B).length:Int))=false:=decide_eq_false (by omega)
    by_cases h2:(AK B).length<(AK A).length
    · have d2 : decide (((AK    B).length : Int) < ((AK    A).length : Int)) = true := decide_eq_true (by omega)
      have hlt:=DN h2
      have e:Hh A B=1:=by unfold Hh;rw[if_neg (by omega),if_pos hlt]
      rw[e]at hend
      simp only[QD,Uc,dG,AW Tryz.underlying77,Rx,Ry,d1,d2,Qb,Qc,Qd,Qf,Qh,Qi,Qj,Qk,Qm,Qn,true_and,Qo,Qp,Qq,Qr,Qs,Qu,Qy,Qz,Ri,Rx,Ry]
      exact hend
    · have d2 : decide (((AK    B).length : Int) < ((AK    A).length : Int)) = false := decide_eq_false (by omega)
      have hl:(AK A).length=(AK B).length:=by omega
      have e7:=B0 Tryz.prog 3 ((AK A).length:Int) 1 ⟨by omega,by omega⟩
      simp only[QD,Uc,dH,AW Tryz.underlying77,Rx,Ry,d1,d2,e7,Qb,Qc,Qd,Qf,Qh,Qi,Qj,Qk,Qm,Qn,true_and,Qo,Qp,Qq,Qr,Qs,Qu,Qz,Rx,Ry]
      refine eh hl (AT A) (AT B) hca hcb (by omega) _ _ _ (fun heq y3 y6 y7 y8=>?_) (fun z y3 y6 y7 y8 hz=>?_) (AK A).length _ _ _ (tJ _) (by rw[List.drop_length,hl,List.drop_length])
      · have:A=B:=Y5 heq
        subst this
        have e:Hh A A=0:=by unfold Hh;rw[if_neg (Nat.lt_irrefl _),if_neg (Nat.lt_irrefl _)]
        rw[e]at hend
        simp only[WT,if_true,Qb,Qc,Qd,Qf,Qh,Qi,Qm,Qn,true_and,Qo,Qp,Qq,Qr,Qs,Qu,Ra,Rc,Rf,Ri]
        exact hend
      · rw[AZ,AZ]at hz
        subst hz
        simp only[Qj,Qm,Qq,Qr,Rb,Re,Rg,Ri,Rj,Rk,Rm,Yc]
        exact hend
end
theorem pe(n:Nat):VV [AV.int .u32 0] n=us (List.replicate n 0):=by
 induction n with
 | zero=>rfl
 | succ n ih=>show [AV.int .u32 0]++VV [AV.int .u32 0] n=_;rw[ih];rfl
theorem RC(n:Nat)(h:n≤100000000000):B6 Tryz.prog 77 (iv (n:Int)) (iv (n:Int))=some (R 185 1 false (us (List.replicate n 0)),.slice n):=by
 have e:B6 Tryz.prog 77 (.int .i64 (.ofNat n)) (.int .i64 (.ofNat n))=some (G7 185 1 (VV [AV.int .u32 0] n),.slice n):=by
  simp[B6,Tryz.underlying77,SN,Bs,sI,AF,CC (show 4 * n≤1099511627776 by omega),CC (show n≤1099511627776 by omega),AV.cells]
 rw[pe]at e
 exact e
structure N6(s s':AD)(i:Nat):Prop where
 next:s'.next=s.next
 get:∀j,j≠i→s'.heap.get j=s.heap.get j
theorem N6.refl(s:AD)(i:Nat):N6 s s i:=⟨rfl,fun _ _=>rfl⟩
theorem N6.set{s s':AD}{i:Nat}(h:N6 s s' i)(o:AI):N6 s (setObj s' i o) i:=⟨h.next,fun j hj=>(Ww o hj).trans (h.get j hj)⟩
theorem N6.old{s s':AD}{i b:Nat}(h:N6 s s' i)(hb:b≤i):A9 b s s':=⟨tu h.next.symm,fun j hj=>h.get j (by omega)⟩
section
variable{E:Ck}{s:AD}
theorem Vh{s1:AD}{x:Nat}(hx:0<x)(hxB:x≤4294967296){a:Option (Nat×Nat)}{cap:Option Nat}{l:List Nat}{b qi:Nat}(hc:Aj b s1 a (us l))(hb:b≤qi)(hl:l.length≤100000000000)(hs:BZ l){Q:Ax→Prop}
  (hq:∀ (s':AD) (y4 y5:AV),N6 s1 s' qi→s'.heap.get qi=some (R 185 1 false (us (A6 x l).1))→Q ⟨.exit 0,[.slice a l.length cap,AU x,.slice (some (qi,0)) l.length (some l.length),AU (A6 x l).2,y4,y5],[],s'⟩):
  ∀ (k:Nat) (s':AD) (x5:AV),k≤l.length→N6 s1 s' qi→s'.heap.get qi=some (R 185 1 false (us (List.replicate k 0++(A6 x (l.drop k)).1))) →
   WC E none (.loop MW) Q [.slice a l.length cap,AU x,.slice (some (qi,0)) l.length (some l.length),AU (A6 x (l.drop k)).2,iv ((k:Int) - 1),x5] [] s':=by
 intro k
 induction k with
 | zero =>
  intro s' x5 hk ho hg
  have d0:decide ((0:Int)≤((0:Nat):Int) - 1)=false:=rfl
  refine WC.loop' ?_
  simp only[MW,US,Wa,d0,Qa,Qb,Qc,Qd,Qf,Qh,Qi,Qj,Qm,Qn,true_and,Qo,Qp,Qq,Qr,Qs,Qu,Qz,Ra,Rc,Rd,Wa]
  exact hq s' _ _ ho hg
 | succ k ih =>
  intro s' x5 hk ho hg
  have hy:l[k]? = some l[k]:=tQ (by omega)
  have hdk:l.drop k=l[k]::l.drop (k+1):=t8 (by omega)
  generalize l[k]=y at hy hdk
  have hys:y<4294967296:=hs y (tf hy)
  obtain⟨i,o,rfl,hi,hload⟩:=hc k _ (DT hy)
  obtain⟨_,v2,v3⟩:=Cz hx (l.drop (k+1))
  have hsl:A6 x (l.drop k)=(((A6 x (l.drop (k+1))).2 * LB+y) / x::(A6 x (l.drop (k+1))).1,((A6 x (l.drop (k+1))).2 * LB+y) % x):=by rw[hdk];rfl
  have hLB:LB=4294967296:=rfl
  rw[hLB]at hsl
  rw[hsl]at ih
  generalize A6 x (l.drop (k+1))=T at *
  obtain⟨q,r⟩:=T
  simp only at *
  have hqlt:(r * 4294967296+y) / x<4294967296:=by
   rw[uD hx]
   have:(r+1) * 4294967296≤x * 4294967296:=td _ v2
   rw[tw]at this
   rw[tU _ x]
   omega
  have e0:((k+1:Nat):Int) - 1=(k:Int):=by omega
  have d0:decide ((0:Int)≤(k:Int))=true:=decide_eq_true (by omega)
  have e1:AP Tryz.prog .shl 187 (AU r) (.int .u64 32)=some (AU (r * 4294967296)):=Pf Tryz.prog 187 (k:=.u64) (n:=32) (by decide) (by show r * 4294967296<_;omega)
  have e2:=Aw (cap:=cap) (i:=i) (o:=o) Tryz.underlying77 Bs (show k<l.length by omega)
  have e3:AG Tryz.prog s' 185 (.ptr (some (i,o+k * 1)))=some (BS y):=CK FP (by rw[tT,EN (ho.get i (by omega))];exact hload)
  have e4:=lS Tryz.prog 187 (a:=r) (b:=y) (by omega) hys
  have e5:=ig Tryz.prog 187 (a:=r * 4294967296+y) (b:=x) (by omega) (by omega)
  have e6:(r * 4294967296+y) / x % 4294967296=(r * 4294967296+y) / x:=tr hqlt
  have e7:=Aw (cap:=some l.length) (i:=qi) (o:=0) Tryz.underlying77 Bs (show k<l.length by omega)
  rw[tT,tR]at e7
  have hlen:k<(us (List.replicate (k+1) 0++q)).length:=by rw[Ca,tX,List.length_replicate];omega
  have e8:=Cr (P:=Tryz.prog) (t:=185) (v:=BS ((r * 4294967296+y) / x)) Bs hg hlen rfl
  have e9:=ii Tryz.prog 187 (a:=r * 4294967296+y) (b:=x) (by omega)
  have e10:=B0 Tryz.prog 3 (k:Int) 1 ⟨by omega,by omega⟩
  have hrow:(us (List.replicate (k+1) 0++q)).set k (BS ((r * 4294967296+y) / x))=us (List.replicate k 0++((r * 4294967296+y) / x::q)):=by
   rw[Kr]
   congr 1
   rw[List.replicate_succ',tg,List.set_append_right _ _ (by simp)]
   simp
  rw[hrow]at e8
  refine WC.loop' ?_
  generalize hW:WC E none (Aa.loop MW) Q=WW
  rw[e0]
  simp only[MW,US,bQ,bR,bS,bT,Wa,d0,e1,e2,e3,BU hys,e4,e5,Bj,e6,e7,e8,e9,e10,Xx,Xz,Qa,Qb,Qc,Qd,Qf,Qh,Qi,Qj,Qk,Qm,Qn,true_and,Qo,Qp,Qq,Qr,Qs,Qu,Qy,Ra,Rc,Rd,Wa]
  rw[← hW]
  exact ih _ _ (by omega) (ho.set _) (Wv _ _ _)
theorem Nw(hE:Ak E){v:AV}{l:List Nat}(hv:Cl s v l)(hl:l.length≤10000000000)(hs:BZ l){x:Nat}(hx:0<x)(hxB:x≤4294967296){K:AV→AD→Prop}(hK:∀s' v',A9 s.next s s'→NR s.next s' v' (DR (A6 x l).1)→K (.tuple [v',AU (A6 x l).2]) s'):
  WF E 204 [v,AU x] K s:=by
 obtain⟨a,cap,rfl,hcap,hc⟩:=hv
 have e1:=RC l.length (by omega)
 have e2:=B0 Tryz.prog 3 (l.length:Int) 1 ⟨by omega,by omega⟩
 have ho:=A9.new s (R 185 1 false (us (List.replicate l.length 0)))
 refine hE.go jg (by decide) rfl ?_
 simp only[qZ,bN,bO,bP,AW Tryz.underlying77,e1,e2,Xx,Xd,Qa,Qb,Qc,Qd,Qf,Qh,Qi,Qj,Qk,Ql,Qm,Qn,true_and,Qo,Qp,Qq,Qs,Qu,Ra,Rg,Rj,Rk,Ro,Yc]
 have hg0:(newObj s (R 185 1 false (us (List.replicate l.length 0)))).heap.get s.next=some (R 185 1 false (us (List.replicate l.length 0++(A6 x (l.drop l.length)).1))):=by
  rw[AQ,if_pos rfl,List.drop_length]
  simp[A6]
 have h0:AV.int .u64 0=AU (A6 x (l.drop l.length)).2:=by rw[List.drop_length];rfl
 rw[h0]
 refine Vh (s1:=newObj s (R 185 1 false (us (List.replicate l.length 0)))) hx hxB (hc.old ho (tJ _)) (tJ s.next) (by omega) hs (fun s' y4 y5 o' hg'=>?_) l.length _ _ (tJ _) (N6.refl _ _) hg0
 obtain⟨v1,v2,v3⟩:=Cz hx l
 have hsn:s'.next=s.next+1:=o'.next
 have hq:Cl s' (.slice (some (s.next,0)) l.length (some l.length)) (A6 x l).1:=
  ⟨some (s.next,0),some l.length,by rw[v3],.inl ⟨l.length,rfl,by omega,fun e=>by cases e⟩,QL hg' (by omega)⟩
 simp only[bU,if_true,Qb,Qc,Qd,Qf,Qh,Qj,Qk,Qm,Qn,true_and,Qq,Qr,Qs,Qu,Ra,Rc,Rf,Ri]
 refine CA hE hq (by omega) fun s2 v2 o2 r2=>?_
 simp only[Qd,Qn,true_and,Qo,Qp,Qq,Qr]
 exact hK s2 v2 (ho.trans ((o'.old (tJ _)).trans (o2.mono (by omega)))) (r2.mono (by omega))
end
def F3(cu:List Nat)(off:Nat)(d:List Nat):List Nat:=cu.take off++d++cu.drop (off+d.length)
theorem RF(cu:List Nat)(off:Nat):F3 cu off []=cu:=by simp[F3,ur]
theorem HS{cu:List Nat}{off:Nat}{d:List Nat}(h:off+d.length≤cu.length):(F3 cu off d).length=cu.length:=by
 unfold F3
 simp only[tX,tp,uN]
 omega
theorem RE{cu:List Nat}{off:Nat}{d:List Nat}(h:off+d.length<cu.length):(F3 cu off d)[off+d.length]? = cu[off+d.length]? := by
 unfold F3
 rw[uC (by simp;omega)]
 simp only[tX,tp]
 rw[uk]
 congr 1
 omega
theorem MC{cu:List Nat}{off:Nat}{d:List Nat}(h:off+d.length<cu.length)(x:Nat):(F3 cu off d).set (off+d.length) x=F3 cu off (d++[x]):=by
 unfold F3
 have hl:(cu.take off++d).length=off+d.length:=by simp;omega
 rw[List.set_append_right _ _ (by omega),hl,Nat.sub_self]
 rw[t8 h]
 simp[tg,tv]
section
variable{E:Ck}{s:AD}
theorem Zc{s1:AD}{q:Nat}(hq32:q<4294967296){ui off:Nat}{capu:Option Nat}{pp:Option Nat}{cu w:List Nat}(hcu:off+w.length≤cu.length)(hsu:BZ cu)(hsw:BZ w){a9:Option (Nat×Nat)}{c9:Option Nat}{b:Nat}(hc9:Aj b s1 a9 (us w))(h9:∀i o,a9=some (i,o)→i≠ui∧some i≠pp)
    (hwl:w.length≤100000000000) {D:List Nat} {cf bf:Nat} {Q:Ax→Prop} (x1 x3:AV)
    (hq:∀ (s':AD) (c br:Nat) (d:List Nat) (y6 y7 y8 y11 y12:AV),Cm s1 s' ui pp→d=D→br=bf→CH s' ui (us (F3 cu off d)) pp →
      Q ⟨.exit 0,[.slice (some (ui,off)) w.length capu,x1,AU q,x3,AU c,AU br,y6,y7,y8,.slice a9 w.length c9,iv (w.length:Int),y11,y12],[],s'⟩):
    ∀ (r : List Nat) (s' : AD)  (c br : Nat) (d : List Nat) (x6 x7 x8 x12 : AV), w.drop d.length = r → d.length ≤ w.length → Cm    s1 s' ui pp → c < 4294967296 → br ≤ 1 →
      (d++(Bv q ((cu.drop (off+d.length)).zip r) c br).1,(Bv q ((cu.drop (off+d.length)).zip r) c br).2)=(D,cf,bf)→CH s' ui (us (F3 cu off d)) pp →
      WC E none (.loop Iy) Q [.slice (some (ui,off)) w.length capu,x1,AU q,x3,AU c,AU br,x6,x7,x8,.slice a9 w.length c9,iv (w.length:Int),iv (d.length:Int),x12] [] s':=by
  intro r
  induction r with
  | nil =>
    intro s' c br d x6 x7 x8 x12 hd hk ho hc hb hT hg
    have hkl:d.length=w.length:=by
      have:=congrArg List.length hd
      simp at this
      omega
    rw[List.zip_nil_right]at hT
    simp only[Bv,ud,Prod.mk.injEq]at hT
    have dd:decide ((d.length:Int)<(w.length:Int))=false:=decide_eq_false (by omega)
    refine WC.loop' ?_
    simp only[Iy,Ud,Rx,dd,Qa,Qb,Qc,Qd,Qf,Qh,Qj,Qm,Qn,true_and,Qo,Qp,Qq,Qr,Qs,Qu,Qz,Ra,Rc,Rd,Rx]
    exact hq s' c br d _ _ _ _ _ ho hT.1 hT.2.2 hg
  | cons y r ih =>
    intro s' c br d x6 x7 x8 x12 hd hk ho hc hb hT hg
    have hlt:d.length<w.length:=by
      rcases tL d.length w.length with h' | h'
      · exact h'
      · rw[uK h']at hd;cases hd
    have hy:w[d.length]? = some y:=by
      have:=congrArg (fun l=>l[0]?) hd
      simpa using this
    have hd':w.drop (d.length+1)=r:=by
      have:=congrArg (List.drop 1) hd
      simpa[uM]using this
    have hys:y<4294967296:=hsw y (tf hy)
    have hlu:off+d.length<cu.length:=by omega
    have hu:cu[off+d.length]? = some cu[off+d.length]:=tQ hlu
    have hdu:cu.drop (off+d.length)=cu[off+d.length]::cu.drop (off+(d.length+1)):=t8 hlu
    generalize cu[off+d.length]=u at hu hdu
    have hus:u<4294967296:=hsu u (tf hu)
    rw[hdu,uh]at hT
    simp only[Bv]at hT
    obtain⟨i,o,rfl,hi,hload⟩:=hc9 d.length _ (DT hy)
    have hne:=h9 i o rfl
    have hkk:decide ((d.length:Int)<(w.length:Int))=true:=decide_eq_true (by omega)
    have e1:=Aw (cap:=c9) (i:=i) (o:=o) Tryz.underlying77 Bs hlt
    have e2:AG Tryz.prog s' 185 (.ptr (some (i,o+d.length * 1)))=some (BS y):=CK FP (by rw[tT,EN (ho.get i hne.1 hne.2)];exact hload)
    have hqy:q * y≤4294967295 * 4294967295:=uW (by omega) (by omega)
    have e3:=Tv Tryz.prog 187 (a:=q) (b:=y) (by omega)
    have e4:=HG Tryz.prog 187 (a:=c) (b:=q * y) (by omega)
    have e5:=Aw (cap:=capu) (i:=ui) (o:=off) Tryz.underlying77 Bs hlt
    have hcell:(us (F3 cu off d))[off+d.length * 1]? = some (BS u):=by rw[tT];exact DT ((RE hlu).trans hu)
    have e6:=G6 (P:=Tryz.prog) (t:=185) FP hg hcell
    have hLB:LB=4294967296:=rfl
    rw[hLB]at hT
    generalize hc1:c+q * y=c1 at hT e4
    have hc1b:c1<18446744073709551616:=by omega
    have e7:=Ll Tryz.prog 187 hc1b
    have hm:c1 % 4294967296<4294967296:=ti _ (by decide)
    generalize hmm:c1 % 4294967296=m at hT e7 hm
    have e8:=Pg Tryz.prog 187 (a:=u) (b:=m) (by omega)
    have e9:=Pg Tryz.prog 187 (a:=(u+18446744073709551616 - m) % 18446744073709551616) (b:=br) (by omega)
    generalize hdd:((u+18446744073709551616 - m) % 18446744073709551616+18446744073709551616 - br) % 18446744073709551616=dd at e9
    have hddb:dd<18446744073709551616:=by rw[← hdd];exact ti _ (by decide)
    have e10:=Ll Tryz.prog 187 hddb
    have e11:dd % 4294967296 % 4294967296=dd % 4294967296:=uj _ _
    have e12:dd % 4294967296=(u+4294967296 - m - br) % 4294967296:=by omega
    have e13:AP Tryz.prog .shr 187 (AU dd) (.int .u64 63)=some (AU (dd / 9223372036854775808)):=J8 Tryz.prog 187 (k:=.u64) (n:=63) (by decide)
    have e14:dd / 9223372036854775808=if u<m+br then 1 else 0:=by split<;>omega
    have e15:AP Tryz.prog .shr 187 (AU c1) (.int .u64 32)=some (AU (c1 / 4294967296)):=J8 Tryz.prog 187 (k:=.u64) (n:=32) (by decide)
    rw[e12]at e10 e11
    generalize hx:(u+4294967296 - m - br) % 4294967296=x at hT e10 e11 e12
    have hlm:off+d.length * 1<(us (F3 cu off d)).length:=by rw[Ca,HS (by omega)];omega
    obtain⟨s2,e16,w1,w2,w3⟩:=D8 (P:=Tryz.prog) (t:=185) (v:=BS x) Bs hg hlm rfl
    rw[tT]at e16
    rw[tT,Kr,MC hlu]at w1
    rw[tT]at e5 e6
    have e17:=Bz Tryz.prog 3 (d.length:Int) 1 ⟨by omega,by omega⟩
    have e17':((d.length:Int)+1)=((d.length+1:Nat):Int):=by omega
    refine WC.loop' ?_
    generalize hW:WC E none (Aa.loop Iy) Q=WW
    simp only[Iy,Ud,dT,dU,dV,dW,dX,dY,WU,Rx,hkk,e1,e2,BU hys,e3,e4,e5,e6,BU hus,e7,e8,e9,e10,Bj,e11,e16,e15,e13,e14,e17,e17',Xx,Xz,Qa,Qb,Qc,Qd,Qf,Qh,Qi,Qj,Qk,Qm,Qn,true_and,Qo,Qp,Qq,Qr,Qs,Qu,Qy,Ra,Rc,Rd,Rx]
    rw[← hW]
    have hlen1:(d++[x]).length=d.length+1:=by rw[tX];rfl
    have key:=ih s2 (c1 / 4294967296) (if u<m+br then 1 else 0) (d++[x])
    rw[hlen1]at key
    exact key _ _ _ _ hd' hlt (ho.step w2 w3) (by omega) (by split<;>omega) (by rw[tg];exact hT) w1
theorem lM(hE:Ak E){q:Nat}(hq32:q<4294967296){ui off:Nat}{capu:Option Nat}{pp:Option Nat}{cu vl:List Nat}(hui:ui<s.next)(hpp:∀q,pp=some q→q<s.next)(hg:CH s ui (us cu) pp)(hcu:off+(vl.length+1)≤cu.length)(hsu:BZ cu)(hsv:BZ vl){vv:AV}(hv:Cl s vv vl)(hvl:vl.length≤10000000000){K:AV→AD→Prop}
  (hK:∀s',s.next≤s'.next→(∀j,j<s.next→j≠ui→some j≠pp→s'.heap.get j=s.heap.get j)→CH s' ui (us (F3 cu off (Bv q ((cu.drop off).zip (vl++[0])) 0 0).1)) pp →
   K (.bool (decide (0<(Bv q ((cu.drop off).zip (vl++[0])) 0 0).2.2))) s'):WF E 236 [.slice (some (ui,off)) (vl.length+1) capu,vv,AU q] K s:=by
 refine hE.go j5 (by decide) rfl ?_
 simp only[q9,dQ,dR,dS,Qa,Qb,Qc,Qd,Qf,Qh,Qi,Qj,Qk,Ql,Qm,Qn,true_and,Qo,Qp,Qq,Qr,Qs,Qu,Ra,Rg,Rj,Rk,Rm,Yc]
 refine Mi hE hv (by omega) fun s1 v1 o1 r1=>?_
 obtain⟨O,hD,hO,hsl,_⟩:=r1
 obtain⟨v2,s2,O2,happ,hD2,hn2,hf2,hO2,hsl2⟩:=Js hD 0 (by omega)
 have hn12:s.next≤s2.next:=by have:=o1.1;omega
 have hkeep:∀j,j<s.next→s2.heap.get j=s.heap.get j:=fun j hj=>by rw[hf2 j (by have:=o1.1;omega) (fun h=>by have:=hO j h;omega)];exact o1.2 j hj
 obtain⟨a9,c9,rfl,hc9⟩:=hD2.cells
 have hids:∀i o,a9=some (i,o)→i≠ui∧some i≠pp:=fun i o e=>by
  subst e
  have hge:s.next≤i:=by
   rcases hsl2 i rfl with h | h
   ·exact hsl i h
   ·have:=o1.1;omega
  exact⟨by omega,fun e=>by have:=hpp i e.symm;omega⟩
 have hw:(vl++[0]).length=vl.length+1:=by rw[tX];rfl
 have happ':Ay Tryz.prog (newObj s1 (R 185 1 false [.int .u32 0])) [77,77] [v1,.slice (some (s1.next,0)) 1 (some 1)]=some (.slice a9 (vl++[0]).length c9,s2):=happ
 simp only[GZ,Xd,happ',AW Tryz.underlying77,Qd,Qm,Qn,true_and,Qo,Qp,Qq,Qr,Yc]
 have hsw:BZ (vl++[0]):=hsv.append (fun x hx=>by rw[ul.1 hx];exact A7)
 rw[← hw]
 refine Zc (s1:=s2) hq32 (w:=vl++[0]) (by rw[hw];exact hcu) hsu hsw hc9 hids (by rw[hw];omega) (D:=(Bv q ((cu.drop off).zip (vl++[0])) 0 0).1) (cf:=(Bv q ((cu.drop off).zip (vl++[0])) 0 0).2.1) (bf:=(Bv q ((cu.drop off).zip (vl++[0])) 0 0).2.2) _ _
  (fun s' c br d y6 y7 y8 y11 y12 ho hd hbr hg'=>?_) (vl++[0]) s2 0 0 [] _ _ _ _ rfl (tV _) (Cm.refl _ _ _) (by decide) (by decide) rfl (by rw[RF];exact hg.keep (hkeep ui hui))
 subst hd;subst hbr
 have e1:AP Tryz.prog .gtr 187 (AU (Bv q ((cu.drop off).zip (vl++[0])) 0 0).2.2) (.int .u64 0)=some (.bool (decide (0<(Bv q ((cu.drop off).zip (vl++[0])) 0 0).2.2))):=Pe Tryz.prog 187 (b:=0) .u64
 simp only[WV,e1,if_true,Qb,Qc,Qd,Qf,Qh,Qi,Qj,Qk,Qm,Qn,true_and,Qo,Qp,Qq,Qr,Qs,Qu,Ra,Rc,Rf,Ri]
 exact hK s' (by have:=ho.next;omega) (fun j hj hne hnp=>(ho.get j hne hnp).trans (hkeep j hj)) hg'
theorem Yf{s1:AD}{ui off:Nat}{capu:Option Nat}{pp:Option Nat}{cu w:List Nat}(hcu:off+w.length≤cu.length)(hsu:BZ cu)(hsw:BZ w){a9:Option (Nat×Nat)}{c9:Option Nat}{b:Nat}(hc9:Aj b s1 a9 (us w))(h9:∀i o,a9=some (i,o)→i≠ui∧some i≠pp)
  (hwl:w.length≤100000000000) {D:List Nat} {Q:Ax→Prop} (x1:AV)
  (hq:∀ (s':AD) (d:List Nat) (y2 y3 y4 y7 y8:AV),Cm s1 s' ui pp→d=D→CH s' ui (us (F3 cu off d)) pp →
   Q ⟨.exit 0,[.slice (some (ui,off)) w.length capu,x1,y2,y3,y4,.slice a9 w.length c9,iv (w.length:Int),y7,y8],[],s'⟩):
  ∀ (r:List Nat) (s':AD) (c:Nat) (d:List Nat) (x3 x4 x8:AV),w.drop d.length=r→d.length≤w.length→Cm s1 s' ui pp→c≤1 →
   d++(EI ((cu.drop (off+d.length)).zip r) c).1=D→CH s' ui (us (F3 cu off d)) pp →
   WC E none (.loop Mc) Q [.slice (some (ui,off)) w.length capu,x1,AU c,x3,x4,.slice a9 w.length c9,iv (w.length:Int),iv (d.length:Int),x8] [] s':=by
 intro r
 induction r with
 | nil =>
  intro s' c d x3 x4 x8 hd hk ho hc hT hg
  have hkl:d.length=w.length:=by
   have:=congrArg List.length hd
   simp at this
   omega
  rw[List.zip_nil_right]at hT
  simp only[EI,ud]at hT
  have dd:decide ((d.length:Int)<(w.length:Int))=false:=decide_eq_false (by omega)
  refine WC.loop' ?_
  simp only[Mc,Ue,Rx,dd,Qa,Qb,Qc,Qd,Qf,Qh,Qj,Qm,Qn,true_and,Qo,Qp,Qq,Qr,Qs,Qu,Qz,Ra,Rc,Rd,Rx]
  exact hq s' d _ _ _ _ _ ho hT hg
 | cons y r ih =>
  intro s' c d x3 x4 x8 hd hk ho hc hT hg
  have hlt:d.length<w.length:=by
   rcases tL d.length w.length with h' | h'
   ·exact h'
   ·rw[uK h']at hd;cases hd
  have hy:w[d.length]? = some y:=by
   have:=congrArg (fun l=>l[0]?) hd
   simpa using this
  have hd':w.drop (d.length+1)=r:=by
   have:=congrArg (List.drop 1) hd
   simpa[uM]using this
  have hys:y<4294967296:=hsw y (tf hy)
  have hlu:off+d.length<cu.length:=by omega
  have hu:cu[off+d.length]? = some cu[off+d.length]:=tQ hlu
  have hdu:cu.drop (off+d.length)=cu[off+d.length]::cu.drop (off+(d.length+1)):=t8 hlu
  generalize cu[off+d.length]=u at hu hdu
  have hus:u<4294967296:=hsu u (tf hu)
  rw[hdu,uh]at hT
  simp only[EI]at hT
  obtain⟨i,o,rfl,hi,hload⟩:=hc9 d.length _ (DT hy)
  have hne:=h9 i o rfl
  have hkk:decide ((d.length:Int)<(w.length:Int))=true:=decide_eq_true (by omega)
  have e1:=Aw (cap:=c9) (i:=i) (o:=o) Tryz.underlying77 Bs hlt
  have e2:AG Tryz.prog s' 185 (.ptr (some (i,o+d.length * 1)))=some (BS y):=CK FP (by rw[tT,EN (ho.get i hne.1 hne.2)];exact hload)
  have e5:=Aw (cap:=capu) (i:=ui) (o:=off) Tryz.underlying77 Bs hlt
  have hcell:(us (F3 cu off d))[off+d.length * 1]? = some (BS u):=by rw[tT];exact DT ((RE hlu).trans hu)
  have e6:=G6 (P:=Tryz.prog) (t:=185) FP hg hcell
  have e3:=HG Tryz.prog 187 (a:=u) (b:=y) (by omega)
  have e4:=HG Tryz.prog 187 (a:=c) (b:=u+y) (by omega)
  have hLB:LB=4294967296:=rfl
  rw[hLB,show u+y+c=c+(u+y) by omega]at hT
  generalize hc1:c+(u+y)=c1 at hT e4
  have hc1b:c1<18446744073709551616:=by omega
  have e7:=Ll Tryz.prog 187 hc1b
  have e11:c1 % 4294967296 % 4294967296=c1 % 4294967296:=uj _ _
  have e15:AP Tryz.prog .shr 187 (AU c1) (.int .u64 32)=some (AU (c1 / 4294967296)):=J8 Tryz.prog 187 (k:=.u64) (n:=32) (by decide)
  generalize hx:c1 % 4294967296=x at hT e7 e11
  have hlm:off+d.length * 1<(us (F3 cu off d)).length:=by rw[Ca,HS (by omega)];omega
  obtain⟨s2,e16,w1,w2,w3⟩:=D8 (P:=Tryz.prog) (t:=185) (v:=BS x) Bs hg hlm rfl
  rw[tT]at e16
  rw[tT,Kr,MC hlu]at w1
  rw[tT]at e5 e6
  have e17:=Bz Tryz.prog 3 (d.length:Int) 1 ⟨by omega,by omega⟩
  have e17':((d.length:Int)+1)=((d.length+1:Nat):Int):=by omega
  refine WC.loop' ?_
  generalize hW:WC E none (Aa.loop Mc) Q=WW
  simp only[Mc,Ue,de,df,dg,dh,di,Rx,hkk,e1,e2,e5,e6,BU hus,BU hys,e3,e4,e7,Bj,e11,e16,e15,e17,e17',Xx,Xz,Qa,Qb,Qc,Qd,Qf,Qh,Qi,Qj,Qk,Qm,Qn,true_and,Qo,Qp,Qq,Qr,Qs,Qu,Qy,Ra,Rc,Rd,Rx]
  rw[← hW]
  have hlen1:(d++[x]).length=d.length+1:=by rw[tX];rfl
  have key:=ih s2 (c1 / 4294967296) (d++[x])
  rw[hlen1]at key
  exact key _ _ _ hd' hlt (ho.step w2 w3) (by omega) (by rw[tg];exact hT) w1
theorem jB(hE:Ak E){ui off:Nat}{capu:Option Nat}{pp:Option Nat}{cu vl:List Nat}(hui:ui<s.next)(hpp:∀q,pp=some q→q<s.next)(hg:CH s ui (us cu) pp)(hcu:off+(vl.length+1)≤cu.length)(hsu:BZ cu)(hsv:BZ vl){vv:AV}(hv:Cl s vv vl)(hvl:vl.length≤10000000000){K:AV→AD→Prop}
  (hK:∀s' r,s.next≤s'.next→(∀j,j<s.next→j≠ui→some j≠pp→s'.heap.get j=s.heap.get j)→CH s' ui (us (F3 cu off (EI ((cu.drop off).zip (vl++[0])) 0).1)) pp→K r s'):WF E 237 [.slice (some (ui,off)) (vl.length+1) capu,vv] K s:=by
 refine hE.go j6 (by decide) rfl ?_
 simp only[rA,dZ,dc,Qa,Qb,Qc,Qd,Qf,Qh,Qi,Qj,Qk,Ql,Qm,Qn,true_and,Qo,Qp,Qq,Qr,Qs,Qu,Ra]
 refine Mi hE hv (by omega) fun s1 v1 o1 r1=>?_
 obtain⟨O,hD,hO,hsl,_⟩:=r1
 obtain⟨v2,s2,O2,happ,hD2,hn2,hf2,hO2,hsl2⟩:=Js hD 0 (by omega)
 have hn12:s.next≤s2.next:=by have:=o1.1;omega
 have hkeep:∀j,j<s.next→s2.heap.get j=s.heap.get j:=fun j hj=>by rw[hf2 j (by have:=o1.1;omega) (fun h=>by have:=hO j h;omega)];exact o1.2 j hj
 obtain⟨a9,c9,rfl,hc9⟩:=hD2.cells
 have hids:∀i o,a9=some (i,o)→i≠ui∧some i≠pp:=fun i o e=>by
  subst e
  have hge:s.next≤i:=by
   rcases hsl2 i rfl with h | h
   ·exact hsl i h
   ·have:=o1.1;omega
  exact⟨by omega,fun e=>by have:=hpp i e.symm;omega⟩
 have hw:(vl++[0]).length=vl.length+1:=by rw[tX];rfl
 have happ':Ay Tryz.prog (newObj s1 (R 185 1 false [.int .u32 0])) [77,77] [v1,.slice (some (s1.next,0)) 1 (some 1)]=some (.slice a9 (vl++[0]).length c9,s2):=happ
 simp only[GZ,Xd,happ',AW Tryz.underlying77,Qd,Qm,Qn,true_and,Qo,Qp,Qq,Qr,Yc]
 have hsw:BZ (vl++[0]):=hsv.append (fun x hx=>by rw[ul.1 hx];exact A7)
 rw[← hw]
 refine Yf (s1:=s2) (w:=vl++[0]) (by rw[hw];exact hcu) hsu hsw hc9 hids (by rw[hw];omega) (D:=(EI ((cu.drop off).zip (vl++[0])) 0).1) _
  (fun s' d y2 y3 y4 y7 y8 ho hd hg'=>?_) (vl++[0]) s2 0 [] _ _ _ rfl (tV _) (Cm.refl _ _ _) (by decide) rfl (by rw[RF];exact hg.keep (hkeep ui hui))
 subst hd
 simp only[if_true,Qm,Rf,Rh,Ri,Rj,Rn]
 exact hK s' _ (by have:=ho.next;omega) (fun j hj hne hnp=>(ho.get j hne hnp).trans (hkeep j hj)) hg'
end
section
variable{E:Ck}{s:AD}
theorem EE{a:Option (Nat×Nat)}{l:List Nat}{b:Nat}(hc:Aj b s a (us l)){n k x:Nat}{cap:Option Nat}(hk:k<n)(hx:l[k]? = some x):
  ∃p,AR Tryz.prog 77 (.slice a n cap) (iv (k:Int))=some p∧AG Tryz.prog s 185 p=some (BS x):=by
 obtain⟨i,o,rfl,_,hload⟩:=hc k _ (DT hx)
 exact⟨_,Aw Tryz.underlying77 Bs hk,CK FP (by rw[tT];exact hload)⟩
theorem U6         {plo vlo : List Nat} {u2 u1 u0 v2 v1 : Nat} {ap av : Option (Nat × Nat)} {cp cv : Option Nat} (hp : Aj      s.next s ap (us (plo ++ [u2, u1, u0]))) (hv : Aj      s.next s av (us (vlo ++ [v2, v1]))) (hlen : plo.length = vlo.length) (hml : vlo.length ≤ 10000000000) {Q : Ax   → Prop} (x2 x4 : AV)
    (hq:∀ (g:Nat) (y6 y7 y8:AV),g<4294967296→AC (plo++[u2,u1,u0]) / AC (vlo++[v2,v1])≤g→g≤AC (plo++[u2,u1,u0]) / AC (vlo++[v2,v1])+1 →
      Q ⟨.exit 0,[.slice ap (vlo.length+3) cp,.slice av (vlo.length+2) cv,x2,iv ((vlo.length+2:Nat):Int),x4,AU g,y6,y7,y8],[],s⟩):
    ∀ (g left:Nat) (x7 x8:AV),Gf plo vlo u2 u1 u0 v2 v1 g left→left<4294967296→g≤4294967297 →
      WC E none (.loop IT) Q [.slice ap (vlo.length+3) cp,.slice av (vlo.length+2) cv,x2,iv ((vlo.length+2:Nat):Int),x4,AU g,AU left,x7,x8] [] s:=by
  have hLB:LB=4294967296:=rfl
  intro g
  induction g with
  | zero =>
    intro left x7 x8 hI hl hg
    have hc2:=hI.c2
    have hc1:=hI.c1
    have hb2:=hI.b2
    rw[hLB]at hc2 hc1 hb2
    have s1:=B0 Tryz.prog 3 ((vlo.length+2:Nat):Int) 1 ⟨by omega,by omega⟩
    have s1':((vlo.length+2:Nat):Int) - 1=((vlo.length+1:Nat):Int):=by omega
    have s2:=B0 Tryz.prog 3 ((vlo.length+2:Nat):Int) 2 ⟨by omega,by omega⟩
    have s2':((vlo.length+2:Nat):Int) - 2=((vlo.length:Nat):Int):=by omega
    obtain⟨p1,i1,l1⟩:=EE (cap:=cv) (n:=vlo.length+2) hv (show vlo.length<vlo.length+2 by omega) (x:=v2) (by simp)
    obtain⟨p2,i2,l2⟩:=EE (cap:=cp) (n:=vlo.length+3) hp (k:=vlo.length) (by omega) (x:=u2) (by rw[← hlen];simp)
    have d0:AP Tryz.prog .gtr 187 (AU 0) (.int .u64 4294967295)=some (.bool false):=by kernel_rfl
    have m1:=Tv Tryz.prog 187 (a:=0) (b:=v2) (by omega)
    have m2:AP Tryz.prog .shl 187 (AU left) (.int .u64 32)=some (AU (left * 4294967296)):=Pf Tryz.prog 187 (k:=.u64) (n:=32) (by decide) (by show left * 4294967296<_;omega)
    have m3:=lS Tryz.prog 187 (a:=left) (b:=u2) (by omega) hb2
    have m4:=Pe Tryz.prog 187 (a:=0 * v2) (b:=left * 4294967296+u2) .u64
    have m5:decide (left * 4294967296+u2<0 * v2)=false:=decide_eq_false (by omega)
    refine WC.loop' ?_
    simp only[IT,KJ,d0,s2,s2',i1,l1,BU hc2,m1,m2,i2,l2,BU hb2,m3,m4,m5,Qa,Qb,Qc,Qd,Qf,Qg,Qh,Qi,Qj,Qk,Qm,Qn,true_and,Qo,Qp,Qq,Qr,Qs,Qu,Qv,Qw,Qz,Ra,Rc,Rd,Rf,Rs,Yb,Rt,Ru]
    exact hq 0 _ _ _ (by decide) hI.low (hI.done (by decide) (by omega))
  | succ g ih =>
    intro left x7 x8 hI hl hg
    have hc2:=hI.c2
    have hc1:=hI.c1
    have hb2:=hI.b2
    have hb1:=hI.b1
    have htop:=hI.top
    have hsum:=hI.sum
    rw[hLB]at hc2 hc1 hb2 hb1 hsum
    have s1:=B0 Tryz.prog 3 ((vlo.length+2:Nat):Int) 1 ⟨by omega,by omega⟩
    have s1':((vlo.length+2:Nat):Int) - 1=((vlo.length+1:Nat):Int):=by omega
    have s2:=B0 Tryz.prog 3 ((vlo.length+2:Nat):Int) 2 ⟨by omega,by omega⟩
    have s2':((vlo.length+2:Nat):Int) - 2=((vlo.length:Nat):Int):=by omega
    obtain⟨p1,i1,l1⟩:=EE (cap:=cv) (n:=vlo.length+2) hv (show vlo.length<vlo.length+2 by omega) (x:=v2) (by simp)
    obtain⟨p2,i2,l2⟩:=EE (cap:=cp) (n:=vlo.length+3) hp (k:=vlo.length) (by omega) (x:=u2) (by rw[← hlen];simp)
    obtain⟨p3,i3,l3⟩:=EE (cap:=cv) (n:=vlo.length+2) hv (show vlo.length+1<vlo.length+2 by omega) (x:=v1) (by simp)
    have m6:AP Tryz.prog .sub 187 (AU (g+1)) (.int .u64 1)=some (AU g):=by
      have:=Pg Tryz.prog 187 (a:=g+1) (b:=1) (by decide)
      rw[show(g+1+18446744073709551616 - 1) % 18446744073709551616=g by omega]at this
      exact this
    have m7:=HG Tryz.prog 187 (a:=left) (b:=v1) (by omega)
    have m8:AP Tryz.prog .gtr 187 (AU (left+v1)) (.int .u64 4294967295)=some (.bool (decide (4294967295<left+v1))):=Pe Tryz.prog 187 (b:=4294967295) .u64
    have down:(4294967296≤g+1∨left * 4294967296+u2<(g+1) * v2)→Qa E none (.block 1 (.seq (.ops MZ) (.seq (.ops Ma) (.seq (.ops Mb) (.cond (.var 8) (.exit 0) .skip))))) (Nr (WC E none (.loop IT) Q) Q) [.slice ap (vlo.length+3) cp,.slice av (vlo.length+2) cv,x2,iv ((vlo.length+2:Nat):Int),x4,AU (g+1),AU left,.bool true,x8] [] s:=by
      intro hc
      obtain⟨_,hI'⟩:=hI.dec (by rw[hLB];exact hc)
      rw[uq]at hI'
      generalize hW:WC E none (Aa.loop IT) Q=WW
      by_cases hbk:4294967295<left+v1
      · have db : decide (4294967295 < left + v1) = true := decide_eq_true hbk
        have hgB:g<4294967296:=by
          rcases tL g 4294967296 with h | h
          · exact h
          · exfalso
            have h1:4294967297 * v1≤(g+1) * v1:=td v1 (by omega)
            have h2:u0 * 4294967296≤v1 * 4294967296:=td _ htop
            omega
        have hle:g * v2≤4294967295 * 4294967295:=uW (by omega) (by omega)
        have hdone:=hI'.done (by rw[hLB];exact hgB) (by rw[hLB];omega)
        simp only[MZ,Ma,Mb,m6,s1,s1',i3,l3,BU hc1,m7,m8,db,Qa,Qb,Qc,Qd,Qf,Qh,Qi,Qj,Qk,Qm,Qn,true_and,Qo,Qp,Qq,Qr,Qs,Qu,Qy,Ra,Rc,Rd,Rf]
        exact hq g _ _ _ hgB hI'.low hdone
      · have db:decide (4294967295<left+v1)=false:=decide_eq_false hbk
        simp only[MZ,Ma,Mb,m6,s1,s1',i3,l3,BU hc1,m7,m8,db,Qa,Qb,Qc,Qd,Qf,Qh,Qi,Qj,Qk,Qm,Qn,true_and,Qo,Qp,Qq,Qr,Qs,Qu,Qz,Ra,Rc,Rd,Rf]
        rw[← hW]
        exact ih (left+v1) _ _ hI' (by omega) (by omega)
    have d0:AP Tryz.prog .gtr 187 (AU (g+1)) (.int .u64 4294967295)=some (.bool (decide (4294967295<g+1))):=Pe Tryz.prog 187 (b:=4294967295) .u64
    refine WC.loop' ?_
    generalize hW:WC E none (Aa.loop IT) Q=WW
    rw[hW]at down
    generalize hB:Aa.block 1 (.seq (.ops MZ) (.seq (.ops Ma) (.seq (.ops Mb) (.cond (.var 8) (.exit 0) .skip))))=BB at down
    have hl8:IT=.seq (.seq (.ops KJ) (.cond (.var 7) .skip (.exit 0))) BB:=by rw[← hB];rfl
    by_cases hgB:4294967295<g+1
    · have db:decide (4294967295<g+1)=true:=decide_eq_true hgB
      rw[hl8]
      generalize hBW:Qa E none BB (Nr WW Q)=BW at down
      simp only[KJ,d0,db,hBW,Qa,Qb,Qc,Qd,Qf,Qg,Qh,Qi,Qj,Qk,Qm,Qn,true_and,Qo,Qp,Qq,Qr,Qs,Qt,Qu,Qv,Qw,Qy,Ra,Rc,Rs,Ya,Rt,Ru]
      exact down (.inl (by omega))
    · have db : decide (4294967295 < g + 1) = false := decide_eq_false hgB
      have hgv:(g+1) * v2≤4294967295 * 4294967295:=uW (by omega) (by omega)
      have m1:=Tv Tryz.prog 187 (a:=g+1) (b:=v2) (by omega)
      have m2:AP Tryz.prog .shl 187 (AU left) (.int .u64 32)=some (AU (left * 4294967296)):=Pf Tryz.prog 187 (k:=.u64) (n:=32) (by decide) (by show left * 4294967296<_;omega)
      have m3:=lS Tryz.prog 187 (a:=left) (b:=u2) (by omega) hb2
      have m4:=Pe Tryz.prog 187 (a:=(g+1) * v2) (b:=left * 4294967296+u2) .u64
      by_cases hc:left * 4294967296+u2<(g+1) * v2
      · have m5:decide (left * 4294967296+u2<(g+1) * v2)=true:=decide_eq_true hc
        rw[hl8]
        generalize hBW:Qa E none BB (Nr WW Q)=BW at down
        simp only[KJ,d0,db,s2,s2',i1,l1,BU hc2,m1,m2,i2,l2,BU hb2,m3,m4,m5,hBW,Qa,Qb,Qc,Qd,Qf,Qg,Qh,Qi,Qj,Qk,Qm,Qn,true_and,Qo,Qp,Qq,Qr,Qs,Qu,Qv,Qw,Qy,Ra,Rc,Rs,Yb,Rt,Ru]
        exact down (.inr hc)
      · have m5:decide (left * 4294967296+u2<(g+1) * v2)=false:=decide_eq_false hc
        rw[hl8]
        generalize hBW:Qa E none BB (Nr WW Q)=BW at down
        simp only[KJ,d0,db,s2,s2',i1,l1,BU hc2,m1,m2,i2,l2,BU hb2,m3,m4,m5,hBW,Qa,Qb,Qc,Qd,Qf,Qg,Qh,Qi,Qj,Qk,Qm,Qn,true_and,Qo,Qp,Qq,Qr,Qs,Qu,Qv,Qw,Qz,Ra,Rc,Rs,Yb,Rt,Ru]
        exact hq (g+1) _ _ _ (by omega) hI.low (hI.done (by rw[hLB];omega) (by rw[hLB];omega))
theorem fy(hE:Ak E){plo vlo:List Nat}{u2 u1 u0 v2 v1:Nat}{vp vv:AV}(hp:Cl s vp (plo++[u2,u1,u0]))(hv:Cl s vv (vlo++[v2,v1]))(hI:Gf plo vlo u2 u1 u0 v2 v1 ((u0 * LB+u1) / v1) ((u0 * LB+u1) % v1))(hml:vlo.length≤10000000000)(hu0:u0<4294967296){K:AV→AD→Prop}
  (hK:∀g,g<4294967296→AC (plo++[u2,u1,u0]) / AC (vlo++[v2,v1])≤g→g≤AC (plo++[u2,u1,u0]) / AC (vlo++[v2,v1])+1→K (AU g) s):WF E 235 [vp,vv] K s:=by
 have hLB:LB=4294967296:=rfl
 have hlen:=hI.len
 obtain⟨ap,cp,rfl,_,hcp⟩:=hp
 obtain⟨av,cv,rfl,_,hcv⟩:=hv
 have hc1:=hI.c1
 have hb1:=hI.b1
 have hbig:=hI.big
 have htop:=hI.top
 rw[hLB]at hc1 hb1 hbig
 have hlp:(plo++[u2,u1,u0]).length=vlo.length+3:=by simp[hlen]
 have hlv:(vlo++[v2,v1]).length=vlo.length+2:=by simp
 rw[hlp,hlv]
 have s1:=B0 Tryz.prog 3 ((vlo.length+2:Nat):Int) 1 ⟨by omega,by omega⟩
 have s1':((vlo.length+2:Nat):Int) - 1=((vlo.length+1:Nat):Int):=by omega
 obtain⟨p1,i1,l1⟩:=EE (cap:=cp) (n:=vlo.length+3) hcp (k:=vlo.length+2) (by omega) (x:=u0) (by rw[← hlen];simp)
 obtain⟨p2,i2,l2⟩:=EE (cap:=cp) (n:=vlo.length+3) hcp (k:=vlo.length+1) (by omega) (x:=u1) (by rw[← hlen];simp)
 obtain⟨p3,i3,l3⟩:=EE (cap:=cv) (n:=vlo.length+2) hcv (show vlo.length+1<vlo.length+2 by omega) (x:=v1) (by simp)
 have m2:AP Tryz.prog .shl 187 (AU u0) (.int .u64 32)=some (AU (u0 * 4294967296)):=Pf Tryz.prog 187 (k:=.u64) (n:=32) (by decide) (by show u0 * 4294967296<_;omega)
 have m3:=lS Tryz.prog 187 (a:=u0) (b:=u1) (by omega) hb1
 have m4:=ig Tryz.prog 187 (a:=u0 * 4294967296+u1) (b:=v1) (by omega) (by omega)
 have m5:=ii Tryz.prog 187 (a:=u0 * 4294967296+u1) (b:=v1) (by omega)
 rw[hLB]at hI
 have hsum:=hI.sum
 rw[hLB]at hsum
 have hl:(u0 * 4294967296+u1) % v1<v1:=ti _ (by omega)
 have hgle:(u0 * 4294967296+u1) / v1≤4294967297:=by
  rw[← Nat.lt_succ_iff,uD (by omega)]
  have:u0 * 4294967296≤v1 * 4294967296:=td _ htop
  show _<4294967298 * v1
  omega
 refine hE.go j4 (by decide) rfl ?_
 simp only[q8,dL,dM,dN,dO,AW Tryz.underlying77,s1,s1',i1,l1,i2,l2,i3,l3,BU hu0,BU hb1,BU hc1,m2,m3,m4,m5,Qa,Qb,Qc,Qd,Qf,Qh,Qi,Qj,Qk,Ql,Qm,Qn,true_and,Qo,Qp,Qq,Qr,Qs,Qu,Ra,Rg,Rj,Rk,Rm,Yc]
 refine U6 hcp hcv hlen hml _ _ (fun g y6 y7 y8 g1 g2 g3=>?_) _ _ _ _ hI (by omega) hgle
 simp only[dP,if_true,Qb,Qc,Qd,Qf,Qh,Qj,Qm,Qn,true_and,Qo,Qp,Qq,Qr,Qs,Qu,Ra,Rc,Rf,Ri]
 exact hK g g1 g2 g3
end
theorem Cl.keep{s s':AD}{v:AV}{l:List Nat}(h:Cl s v l)(hn:s.next≤s'.next)(hf:∀j,Ci v=some j→j<s.next→s'.heap.get j=s.heap.get j):Cl s' v l:=by
  obtain⟨a,cap,rfl,h2,h3⟩:=h
  refine⟨a,cap,rfl,?_,fun k u hu=>?_⟩
  · rcases h2 with h2 | ⟨g1, i, o, r, rfl, g3, g4, g5⟩
    · exact .inl h2
    · exact .inr ⟨g1,i,o,r,rfl,by omega,by rw[hf i rfl g3];exact g4,g5⟩
  · obtain⟨i,o,rfl,g2,g3⟩:=h3 k u hu
    exact⟨i,o,rfl,by omega,by rw[EN (hf i rfl g2)];exact g3⟩
theorem kF{s:AD}{i lo hi n:Nat}{cs:List AV}{p:Option Nat}(h:CH s i cs p)(hi':i<s.next)(h1:lo≤hi)(h2:hi≤cs.length):
  Bn Tryz.prog 77 true true false s [.slice (some (i,0)) n none,iv (lo:Int),iv (hi:Int)]=some (.slice (some (i,lo)) (hi - lo) none):=by
 obtain⟨r,g1,g2,_,g4,_⟩:=h
 have hrow:rowAt s i=some r:=by unfold rowAt;rw[g1]
 have hrn:r.n=cs.length:=g2.1
 show Bl Tryz.prog s 77 (.slice (some (i,0)) n none) (some (iv (lo:Int))) (some (iv (hi:Int))) none=_
 have hb1:BY (iv (hi:Int)) ((r.n - 0) / 1)=some hi:=by simp[BY,IB,AF,CC (show hi≤r.n by omega),Fw]
 have hb2:BY (iv (lo:Int)) hi=some lo:=by simp[BY,IB,AF,CC h1,Fw]
 have hsz:Nat.beq 1 r.sz=true:=EU g4.symm
 simp only[Bl,Tryz.underlying77,Bs,hrow,hsz,AF,hb1,hb2,CC (tV r.n),show Nat.beq 1 0=false from rfl,Option.bind_some,Bool.true_and,Bool.and_true,Bool.not_false,cond_true]
 simp
theorem TN{s:AD}{i lo m:Nat}{cu:List Nat}{p:Option Nat}(h:CH s i (us cu) p)(hi':i<s.next)(h2:lo+m≤cu.length):Cl s (.slice (some (i,lo)) m none) ((cu.drop lo).take m):=by
 have hc:=KK h hi'
 obtain⟨r,g1,g2,_,g4,_⟩:=h
 have hrn:r.n=cu.length:=by rw[g2.1,Ca]
 have hl:((cu.drop lo).take m).length=m:=by rw[tp,uN];omega
 refine⟨some (i,lo),none,by rw[hl],.inr ⟨rfl,i,lo,r,rfl,hi',g1,g4,by rw[hl];omega⟩,fun k u hu=>?_⟩
 have hk:k<m:=by
  rcases tL k m with h' | h'
  ·exact h'
  ·rw[tY (by rw[Ca,hl];exact h')]at hu;cases hu
 have hu':(us cu)[lo+k]? = some u:=by
  rw[YO,uZ hk]at hu
  unfold us at hu ⊢
  rw[List.map_drop,uk]at hu
  exact hu
 obtain⟨i',o',e,q2,q3⟩:=hc (lo+k) u hu'
 injection e with e
 injection e with e1 e2
 subst e1;subst e2
 rw[tR]at q3
 exact⟨i,lo,rfl,q2,q3⟩
section
variable{E:Ck}{s:AD}
structure sX(s0:AD)(ui qi:Nat)(pp:Option Nat)(U0 V:List Nat)(S:AD)(cu qs:List Nat)(k:Nat):Prop where
 next:s0.next≤S.next
 keep:∀j,j<s0.next→j≠ui→some j≠pp→j≠qi→S.heap.get j=s0.heap.get j
 u:CH S ui (us cu) pp
 q:CH S qi (us qs) none
 inv:T3 U0 V cu qs k
 qlen:qs.length+V.length=U0.length
set_option maxHeartbeats 1000000 in
theorem fC       (hE : Ak    E) {s0 : AD}  {ui qi : Nat} {pp : Option Nat} (hui : ui < s0.next) (hqi : qi < s0.next) (hne : ui ≠ qi) (hpp : ∀ q, pp = some q → q < s0.next ∧ q ≠ qi) {U0 vlo : List Nat} {v2 v1 : Nat} (hsV : BZ  (vlo ++ [v2, v1])) (hv1 : 2147483648 ≤ v1) (hul : U0.length ≤ 10000000000)
    {vv:AV} (hvv:Cl s0 vv (vlo++[v2,v1])) (hvs:∀j,Ci vv=some j→j≠ui∧some j≠pp∧j≠qi) {Q:Ax→Prop} (a0 a1 a3 a4 a5 a6 a7 a13 a14 a15 a16:AV)
    (hq:∀ (S:AD) (cu qs:List Nat) (y10 y11 y12 y17 y18:AV),sX s0 ui qi pp U0 (vlo++[v2,v1]) S cu qs 0 →
      Q ⟨.exit 3,[a0,a1,.slice (some (qi,0)) (U0.length - (vlo.length+2)) (some (U0.length - (vlo.length+2))),a3,a4,a5,a6,a7,.slice (some (ui,0)) U0.length none,vv,y10,y11,y12,a13,a14,a15,a16,y17,y18],[],S⟩):
    ∀ (k:Nat) (S:AD) (cu qs:List Nat) (x11 x12 x17 x18:AV),sX s0 ui qi pp U0 (vlo++[v2,v1]) S cu qs k→k+(vlo.length+2)≤U0.length →
      WC E none (.loop HL) Q [a0,a1,.slice (some (qi,0)) (U0.length - (vlo.length+2)) (some (U0.length - (vlo.length+2))),a3,a4,a5,a6,a7,.slice (some (ui,0)) U0.length none,vv,iv ((k:Int) - 1),x11,x12,a13,a14,a15,a16,x17,x18] [] S:=by
  have hLB:LB=4294967296:=rfl
  have hVl:(vlo++[v2,v1]).length=vlo.length+2:=by simp
  have hv1b:v1<LB:=hsV v1 (by simp)
  have hv2b:v2<LB:=hsV v2 (by simp)
  have hVpos:0<AC (vlo++[v2,v1]):=by
    rw[Jk]
    have h2:0<v1 * LB+v2:=by have:=Nat.mul_pos (show 0<v1 by omega) A7;omega
    have:=Nat.mul_pos (uJ A7 (n:=vlo.length)) h2
    omega
  intro k
  induction k with
  | zero =>
    intro S cu qs x11 x12 x17 x18 hS hk
    have d0:decide ((0:Int)≤((0:Nat):Int) - 1)=false:=rfl
    refine WC.loop' ?_
    simp only[HL,P6,Wa,d0,Qa,Qb,Qc,Qd,Qf,Qh,Qi,Qj,Qm,Qn,true_and,Qo,Qp,Qq,Qr,Qs,Qu,Qz,Ra,Rc,Rd,Wa]
    exact hq S cu qs _ _ _ _ _ hS
  | succ k ih =>
    intro S cu qs x11 x12 x17 x18 hS hk
    have hcl:cu.length=U0.length:=hS.inv.len
    have hql:qs.length=U0.length - (vlo.length+2):=by have:=hS.qlen;rw[hVl]at this;omega
    have hkq:k<qs.length:=by omega
    obtain⟨p1,p2,p3⟩:=hS.inv.part hsV hVpos (by rw[hVl];omega)
    have hw1:((vlo++[v2,v1])++[0]).length=(vlo++[v2,v1]).length+1:=by rw[tX];rfl
    have hpl:((cu.drop k).take ((vlo++[v2,v1]).length+1)).length=vlo.length+3:=by rw[tp,uN,hVl];omega
    have hps:BZ ((cu.drop k).take ((vlo++[v2,v1]).length+1)):=(hS.inv.sm.drop k).take _
    have hplt:AC ((cu.drop k).take ((vlo++[v2,v1]).length+1))<AC (vlo++[v2,v1]) * LB:=by rw[p1];exact p2
    have hpart:=TN hS.u (tO hui hS.next) (lo:=k) (m:=(vlo++[v2,v1]).length+1) (by rw[hVl];omega)
    have hzip:=HJ (cu.drop k) ((vlo++[v2,v1])++[0])
    rw[hw1]at hzip
    have hdig:=fun g h1 h2 h3=>fB (p:=(cu.drop k).take ((vlo++[v2,v1]).length+1)) (v:=vlo++[v2,v1]) (by rw[hpl,hVl]) hps hsV hVpos (g:=g) h1 h2 h3
    rw[hzip]at hdig
    have hstep:∀D:List Nat,D.length=(vlo++[v2,v1]).length+1→BZ D→AC D=AC ((cu.drop k).take ((vlo++[v2,v1]).length+1)) % AC (vlo++[v2,v1])→∀x:Nat,x=AC ((cu.drop k).take ((vlo++[v2,v1]).length+1)) / AC (vlo++[v2,v1]) →
        T3 U0 (vlo++[v2,v1]) (F3 cu k D) (qs.set k x) k:=fun D hD hDs hDv x hx=>by
      have:=hS.inv.step hsV hVpos (by rw[hVl];omega) hkq hD hDs hDv hx
      unfold F3
      rw[hD,← tv]
      exact this
    have hxB:AC ((cu.drop k).take ((vlo++[v2,v1]).length+1)) / AC (vlo++[v2,v1])<4294967296:=by
      rw[← hLB,uD hVpos,tU]
      exact hplt
    have hDl:=fun g=>Kp g ((cu.drop k).zip ((vlo++[v2,v1])++[0])) 0 0
    have hDs:=fun g=>HF g ((cu.drop k).zip ((vlo++[v2,v1])++[0])) 0 0
    have hzl:((cu.drop k).zip ((vlo++[v2,v1])++[0])).length=(vlo++[v2,v1]).length+1:=by rw[uf,hw1,uN,hVl];omega
    obtain⟨plo,u2,u1,u0,hpe,hplo⟩:∃plo u2 u1 u0,(cu.drop k).take ((vlo++[v2,v1]).length+1)=plo++[u2,u1,u0]∧plo.length=vlo.length:=by
      obtain⟨l1,t1,e1,f1⟩:=FZ (n:=vlo.length+2) (by rw[hpl])
      obtain⟨l2,t2,e2,f2⟩:=FZ (n:=vlo.length+1) f1
      obtain⟨l3,t3,e3,f3⟩:=FZ (n:=vlo.length) f2
      exact⟨l3,t3,t2,t1,by rw[e1,e2,e3];simp,f3⟩
    have hu0:u0<LB:=by rw[hpe]at hps;exact hps u0 (by simp)
    have hG:Gf plo vlo u2 u1 u0 v2 v1 ((u0 * LB+u1) / v1) ((u0 * LB+u1) % v1):=by
      rw[hpe]at hps hplt
      exact Gf.start (u0:=u0) hplo (fun x hx=>hps x (ug _ hx)) (fun x hx=>hsV x (ug _ hx)) (hps u2 (by simp)) (hps u1 (by simp)) hv2b hv1b (by rw[hLB];omega) hplt
    have hvS:Cl S vv (vlo++[v2,v1]):=hvv.keep hS.next fun j hj hjl=>by
      obtain⟨g1,g2,g3⟩:=hvs j hj
      exact hS.keep j hjl g1 g2 g3
    have hguess:=fun K hK=>fy (s:=S) (K:=K) (vp:=.slice (some (ui,k)) ((vlo++[v2,v1]).length+1) none) hE (by rw[← hpe];exact hpart) hvS hG (by omega) (by rw[← hLB];exact hu0) hK
    rw[← hpe]at hguess
    obtain⟨av,cv,rfl,_,_⟩:=id hvv
    have e0:((k+1:Nat):Int) - 1=(k:Int):=by omega
    have d0:decide ((0:Int)≤(k:Int))=true:=decide_eq_true (by omega)
    have i1:=Bz Tryz.prog 3 (k:Int) (((vlo++[v2,v1]).length:Nat):Int) ⟨by omega,by omega⟩
    have i2:=Bz Tryz.prog 3 ((k:Int)+(((vlo++[v2,v1]).length:Nat):Int)) 1 ⟨by omega,by omega⟩
    have i2':(k:Int)+(((vlo++[v2,v1]).length:Nat):Int)+1=((k+((vlo++[v2,v1]).length+1):Nat):Int):=by omega
    have i3:=kF (n:=U0.length) hS.u (tO hui hS.next) (lo:=k) (hi:=k+((vlo++[v2,v1]).length+1)) (by omega) (by rw[Ca];omega)
    have i3':k+((vlo++[v2,v1]).length+1) - k=(vlo++[v2,v1]).length+1:=by omega
    rw[i3']at i3
    have e10:=B0 Tryz.prog 3 (k:Int) 1 ⟨by omega,by omega⟩
    have e11:=Aw (cap:=some (U0.length - (vlo.length+2))) (i:=qi) (o:=0) Tryz.underlying77 Bs (show k<U0.length - (vlo.length+2) by omega)
    rw[tT,tR]at e11
    have hpS:∀q,pp=some q→q<S.next:=fun q hq=>tO (hpp q hq).1 hS.next
    have last:∀ (S2:AD) (D:List Nat) (x:Nat) (y18:AV),S.next≤S2.next→(∀j,j<S.next→j≠ui→some j≠pp→S2.heap.get j=S.heap.get j)→CH S2 ui (us (F3 cu k D)) pp→D.length=(vlo++[v2,v1]).length+1→BZ D →
        AC D=AC ((cu.drop k).take ((vlo++[v2,v1]).length+1)) % AC (vlo++[v2,v1])→x=AC ((cu.drop k).take ((vlo++[v2,v1]).length+1)) / AC (vlo++[v2,v1]) →
        Qb E P7 (fun v s'=>Qb E P8 (fun v s'=>WC E none (.loop HL) Q v [] s') [] v s') [] [a0,a1,.slice (some (qi,0)) (U0.length - (vlo.length+2)) (some (U0.length - (vlo.length+2))),a3,a4,a5,a6,a7,.slice (some (ui,0)) U0.length none,.slice av (vlo++[v2,v1]).length cv,iv (k:Int),.slice (some (ui,k)) ((vlo++[v2,v1]).length+1) none,AU x,a13,a14,a15,a16,.bool true,y18] S2:=by
      intro S2 D x y18 n2 f2 o2 hDl hDs hDv hx
      have hxb:x<4294967296:=by rw[hx];exact hxB
      have hq2:CH S2 qi (us qs) none:=hS.q.keep (f2 qi (tO hqi hS.next) (Ne.symm hne) (fun e=>(hpp qi e.symm).2 rfl))
      obtain⟨S3,st,w1,w2,w3⟩:=D8 (P:=Tryz.prog) (t:=185) (v:=BS x) (o:=k) Bs hq2 (by rw[Ca];exact hkq) rfl
      rw[Kr]at w1
      have ex:x % 4294967296=x:=tr hxb
      simp only[P7,P8,Bj,ex,e11,st,e10,Xx,Xz,Qb,Qc,Qd,Qf,Qh,Qi,Qj,Qk,Qm,Qn,true_and,Qo,Qp,Qq,Qr,Qs,Qu]
      refine ih S3 (F3 cu k D) (qs.set k x) _ _ _ _ ⟨by have:=hS.next;omega,fun j hj j1 j2 j3=>?_,?_,w1,hstep D hDl hDs hDv x hx,by rw[ub];exact hS.qlen⟩ (by omega)
      · rw[w3 j j3 (fun e=>by cases e),f2 j (tO hj hS.next) j1 j2]
        exact hS.keep j hj j1 j2 j3
      · exact o2.keep (w3 ui hne (fun e=>by cases e))
    refine WC.loop' ?_
    generalize hW:WC E none (Aa.loop HL) Q=WW
    rw[hW]at last
    rw[e0]
    simp only[HL,P6,WJ,WK,Wa,d0,AW Tryz.underlying77,i1,i2,i2',i3,Qa,Qb,Qc,Qd,Qf,Qh,Qi,Qj,Qk,Qm,Qn,true_and,Qo,Qp,Qq,Qr,Qs,Qu,Qy,Ra,Rc,Rd,Wa]
    refine hguess _ fun g g1 g2 g3=>?_
    obtain⟨dg1,dg2⟩:=hdig g g2 g3 (by rw[hLB];exact g1)
    have hDl:=hDl g
    have hDs:=hDs g
    rw[hzl]at hDl
    simp only[WL,Qb,Qc,Qd,Qf,Qh,Qj,Qn,true_and,Qo,Qp,Qq,Qr,Qs,Qu]
    refine lM hE g1 (tO hui hS.next) hpS hS.u (off:=k) (vl:=vlo++[v2,v1]) (by rw[hVl];omega) hS.inv.sm hsV hvS (by rw[hVl];omega) fun S2 n2 f2 o2=>?_
    generalize Bv g ((cu.drop k).zip ((vlo++[v2,v1])++[0])) 0 0=T at *
    obtain⟨D,c,br⟩:=T
    simp only at *
    by_cases hbr:br=0
    · obtain⟨r1,r2⟩:=dg1 hbr
      have db:decide (0<br)=false:=decide_eq_false (by omega)
      simp only[db,Qd,Qn,true_and,Qo,Qp,Qq,Qr,Qz]
      exact last S2 D g (.bool false) n2 f2 o2 hDl hDs r2 r1
    · obtain⟨r1,r2⟩:=dg2 hbr
      have db:decide (0<br)=true:=decide_eq_true (by omega)
      have hg1:1≤g:=tN (Nat.succ_le_succ (tV _)) (tu r1.symm)
      have hvS2:Cl S2 (.slice av (vlo++[v2,v1]).length cv) (vlo++[v2,v1]):=hvS.keep n2 fun j hj hjl=>by
        obtain⟨q1,q2,q3⟩:=hvs j hj
        exact f2 j hjl q1 q2
      have hml:(F3 cu k D).length=cu.length:=HS (by rw[hDl,hVl];omega)
      have hms:BZ (F3 cu k D):=((hS.inv.sm.take k).append hDs).append (hS.inv.sm.drop _)
      have hmd:((F3 cu k D).drop k).zip ((vlo++[v2,v1])++[0])=D.zip ((vlo++[v2,v1])++[0]):=by
        unfold F3
        rw[tg,List.drop_left' (by rw[tp];omega)]
        exact iw (by rw[hDl,hw1]) _
      have m6:AP Tryz.prog .sub 187 (AU g) (.int .u64 1)=some (AU (g - 1)):=by
        have:=Pg Tryz.prog 187 (a:=g) (b:=1) (by decide)
        rw[show(g+18446744073709551616 - 1) % 18446744073709551616=g - 1 by omega]at this
        exact this
      simp only[db,WM,Qb,Qc,Qd,Qf,Qh,Qj,Qn,true_and,Qo,Qp,Qq,Qr,Qs,Qu,Qy]
      refine jB hE (tO hui (tN hS.next n2)) (fun q hq=>tO (hpS q hq) n2) o2 (off:=k) (vl:=vlo++[v2,v1]) (by rw[hVl];omega) hms hsV hvS2 (by rw[hVl];omega) fun S3 y n3 f3 o3=>?_
      rw[hmd]at o3
      have hOl:=Ip (D.zip ((vlo++[v2,v1])++[0])) 0
      have hOs:=F9 (D.zip ((vlo++[v2,v1])++[0])) 0
      rw[uf,hw1,hDl,Nat.min_self]at hOl
      generalize (EI (D.zip ((vlo++[v2,v1])++[0])) 0).1=O at *
      have hmm:F3 (F3 cu k D) k O=F3 cu k O:=by
        unfold F3
        have htk:(cu.take k).length=k:=by rw[tp];omega
        have e1:(cu.take k++D++cu.drop (k+D.length)).take k=cu.take k:=by rw[tg,List.take_left' htk]
        have e2:(cu.take k++D++cu.drop (k+D.length)).drop (k+O.length)=cu.drop (k+O.length):=by
          rw[hOl,← hDl]
          rw[List.drop_left' (by rw[tX,htk])]
        rw[e1,e2]
      rw[hmm]at o3
      simp only[WN,m6,Qb,Qc,Qd,Qf,Qh,Qi,Qj,Qk,Qm,Qn,true_and,Qo,Qp,Qq,Qr,Qs,Qu]
      exact last S3 O (g - 1) (.bool true) (tN n2 n3) (fun j hj j1 j2=>(f3 j (tO hj n2) j1 j2).trans (f2 j hj j1 j2)) o3 hOl hOs r2 (by rw[r1,uq])
end
section
variable(P:Program)(t:TypeId){a:Nat}
theorem lP{k:IntKind}{n:Nat}(hn:n≤32):AP P .shl t (BS a) (.int k (n:Int))=some (BS (a * 2 ^ n % 4294967296)):=by
 show(DQ P (Op.shift .shl .u32 (a:Int) k (n:Int))).bind ofValue=_
 unfold Op.shift
 rw[if_neg (by omega)]
 show some (AV.int .u32 (IntKind.wrap .u32 ((a:Int) * 2 ^ min (n:Int).toNat 32)))=_
 rw[show min (n:Int).toNat 32=n by omega,O7]
 congr 2
theorem lQ{k:IntKind}{n:Nat}(hn:n≤32):AP P .shr t (BS a) (.int k (n:Int))=some (BS (a / 2 ^ n)):=by
 show(DQ P (Op.shift .shr .u32 (a:Int) k (n:Int))).bind ofValue=_
 unfold Op.shift
 rw[if_neg (by omega)]
 show some (AV.int .u32 ((a:Int).fdiv (2 ^ min (n:Int).toNat 32)))=_
 rw[show min (n:Int).toNat 32=n by omega]
 congr 2
 rw[show((2:Int) ^ n)=((2 ^ n:Nat):Int) by push_cast;rfl]
 exact(Int.ofNat_fdiv a (2 ^ n)).symm
end
theorem Vz{s:AD}{loc var:List AV}(f:AD→List AV→Option AV)(xs:List CX)(a:CX):GB s loc var ⟨none,.r f,xs,a⟩=TX (f s (Qh loc var xs)) (Cc loc var a):=by
 have:∀l:List CX,DE loc var l=Qh loc var l:=by
  intro l
  induction l with
  | nil=>rfl
  | cons x l ih=>show Cc loc var x::DE loc var l=Cc loc var x::Qh loc var l;rw[ih]
 show(!BO loc var none || TX (Ei (.r f) (DE loc var xs) s) (Cc loc var a))=_
 rw[this]
 rfl
theorem No(u v:AV):TX (some u) v=FT u v:=rfl
theorem fh(n:Int):FT (iv n) (iv n)=true:=by simp[FT,GI,Bu]
section
variable{E:Ck}{s:AD}
theorem ZC{b:Option (Nat×Nat)}{cb:Option Nat}{lo:List Nat}{bt:Nat}(hc:Aj s.next s b (us (lo++[bt])))(hbt:0<bt)(hb:bt<4294967296)(hl:lo.length≤10000000000){Q:Ax→Prop}(a0 a2 a3 a4 a5 a6 a8 a9 a10 a11 a12 a13 a14 a15 a17 a18:AV)
  (hq:∀ (n:Nat) (y16:AV),n≤31→2147483648≤bt * 2 ^ n→bt * 2 ^ n<4294967296→Q ⟨.exit 1,[a0,.slice b (lo.length+1) cb,a2,a3,a4,a5,a6,AU n,a8,a9,a10,a11,a12,a13,a14,a15,y16,a17,a18],[],s⟩):
  ∀ (m n:Nat) (x16:AV),n+m=32→bt * 2 ^ n<4294967296→WC E none (.loop Ix) Q [a0,.slice b (lo.length+1) cb,a2,a3,a4,a5,a6,AU n,a8,a9,a10,a11,a12,a13,a14,a15,x16,a17,a18] [] s:=by
 intro m
 induction m with
 | zero =>
  intro n x16 hn hlt
  exfalso
  have:n=32:=by omega
  subst this
  have e:(2:Nat) ^ 32=4294967296:=by decide
  rw[e]at hlt
  have:=td 4294967296 hbt
  omega
 | succ m ih =>
  intro n x16 hn hlt
  have s1:=B0 Tryz.prog 3 ((lo.length+1:Nat):Int) 1 ⟨by omega,by omega⟩
  have s1':((lo.length+1:Nat):Int) - 1=(lo.length:Int):=by omega
  obtain⟨p1,i1,l1⟩:=EE (cap:=cb) (n:=lo.length+1) hc (k:=lo.length) (by omega) (x:=bt) (by simp)
  have m1:=lP Tryz.prog 185 (a:=bt) (k:=.u64) (n:=n) (by omega)
  rw[tr hlt]at m1
  have m2:AP Tryz.prog .shr 185 (BS (bt * 2 ^ n)) (.int .u64 31)=some (BS (bt * 2 ^ n / 2147483648)):=lQ Tryz.prog 185 (k:=.u64) (n:=31) (by decide)
  have m3:AP Tryz.prog .eql 185 (BS (bt * 2 ^ n / 2147483648)) (.int .u32 0)=some (.bool (decide (bt * 2 ^ n / 2147483648=0))):=nZ Tryz.prog 185 (b:=0) .u32
  have m4:AP Tryz.prog .add 143 (AU n) (.int .u64 1)=some (AU (n+1)):=HG Tryz.prog 143 (b:=1) (by omega)
  refine WC.loop' ?_
  generalize hW:WC E none (Aa.loop Ix) Q=WW
  by_cases h:2147483648≤bt * 2 ^ n
  ·have db:decide (bt * 2 ^ n / 2147483648=0)=false:=decide_eq_false (by omega)
   simp only[Ix,P5,AW Tryz.underlying77,s1,s1',i1,l1,m1,m2,m3,db,Qa,Qb,Qc,Qd,Qf,Qh,Qi,Qj,Qk,Qm,Qn,true_and,Qo,Qp,Qq,Qr,Qs,Qu,Qz,Ra,Rc,Rd]
   exact hq n _ (by omega) h hlt
  ·have db:decide (bt * 2 ^ n / 2147483648=0)=true:=decide_eq_true (by omega)
   simp only[Ix,P5,WD,AW Tryz.underlying77,s1,s1',i1,l1,m1,m2,m3,db,m4,Qa,Qb,Qc,Qd,Qf,Qh,Qi,Qj,Qk,Qm,Qn,true_and,Qo,Qp,Qq,Qr,Qs,Qu,Qy,Ra,Rc,Rd]
   rw[← hW]
   exact ih (n+1) _ (by omega) (by rw[uF,← tb];omega)
theorem W9      (hE : Ak    E) {va vb : AV} {la lb : List Nat} (ha : Cl  s va la) (hb : Cl  s vb lb) (hla : la.length ≤ 1000000000) (hlb : lb.length ≤ 1000000000) (hsa : BZ  la) (hsb : BZ  lb) {K : AV → AD  → Prop}
    (hK0:AC lb=0→∀s',A9 s.next s s'→K (.tuple [.slice none 0 (some 0),.slice none 0 (some 0),iv 3]) s')
    (hK1:AC lb≠0→∀s' vq vr,A9 s.next s s'→NR s.next s' vq (AK (AC la / AC lb))→NR s.next s' vr (AK (AC la % AC lb))→(AC la<AC lb→vq=.slice none 0 (some 0))→K (.tuple [vq,vr,iv 0]) s'):WF E 213 [va,vb] K s:=by
  have hLB:LB=4294967296:=rfl
  refine hE.go jn (by decide) rfl ?_
  simp only[ql,bv,bw,Qa,Qb,Qc,Qd,Qf,Qh,Qi,Qj,Qk,Ql,Qm,Qn,true_and,Qo,Qp,Qq,Qs,Qu,Ra,Rb,Rd,Re,Rg,Rj,Rk,Ro,Yc]
  refine CA hE ha (by omega) fun s1 v1 o1 r1=>?_
  simp only[Qd,Qn,true_and,Qq,Qr]
  refine CA hE (hb.old o1) (by omega) fun s2 v2 o2 r2=>?_
  have t1:=D9 la
  have t2:=D9 lb
  have R1:NR s.next s2 v1 (AK (AC la)):=by have:=r1.old o2;rw[BN hsa]at this;exact this
  have R2:NR s.next s2 v2 (AK (AC lb)):=by have:=r2.mono o1.1;rw[BN hsb]at this;exact this
  rw[BN hsa]at t1
  rw[BN hsb]at t2
  have oS:A9 s.next s s2:=o1.trans (o2.mono o1.1)
  have n1:=R1.n32
  have n2:=R2.n32
  clear r1 r2 o1 o2 ha hb hsa hsb
  generalize AC la=A at *
  generalize AC lb=B at *
  have hsA:=AT A
  have hsB:=AT B
  have hvA:=AZ A
  have hvB:=AZ B
  obtain⟨b,cb,rfl,hcapb,hcb⟩:=id n2
  by_cases hB0:B=0
  · subst hB0
    have hl0:(AK 0).length=0:=by rw[BC];rfl
    have d0:decide (((AK 0).length:Int)=0)=true:=decide_eq_true (by omega)
    simp only[UV,bz,AW Tryz.underlying77,Wb,d0,Qb,Qc,Qd,Qf,Qh,Qi,Qj,Qk,Qm,Qn,true_and,Qo,Qp,Qq,Qr,Qs,Qu,Qy,Ri,Wb]
    exact hK0 rfl s2 oS
  · have hBl : (AK    B).length ≠ 0 := fun e => Cp       hB0 (uQ                            e)
    have d0:decide (((AK B).length:Int)=0)=false:=decide_eq_false (by omega)
    simp only[UV,b8,AW Tryz.underlying77,Wb,d0,Qb,Qc,Qd,Qf,Qh,Qi,Qj,Qk,Qm,Qn,true_and,Qo,Qp,Qq,Qr,Qs,Qu,Qz,Wb]
    refine em hE n1 n2 (by omega) (by omega) hsA hsB fun s3 o3=>?_
    rw[hvA,hvB]
    have oS3:A9 s.next s s3:=oS.trans (o3.mono oS.1)
    have R1':=R1.old o3
    have n1':=n1.old o3
    have n2':=n2.old o3
    by_cases hlt:A<B
    · have ec : Hh   A B = -1 := by unfold Hh;   rw [if_pos hlt]
      have d1:decide ((-1:Int)<0)=true:=by decide
      simp only[ec,Rx,d1,cC,Qb,Qc,Qd,Qf,Qh,Qi,Qj,Qm,Qn,true_and,Qo,Qp,Qq,Qr,Qs,Qu,Qy,Ri,Rx]
      refine hK1 hB0 s3 _ _ oS3 ?_ ?_ (fun _=>rfl)
      · rw[uP hlt,BC];exact NR.nil _ _
      · rw[tr hlt];exact R1'
    · have d1:decide (Hh A B<0)=false:=by
        unfold Hh
        rw[if_neg hlt]
        split<;>decide
      by_cases h1:(AK B).length=1
      · have d2:decide (((AK B).length:Int)=1)=true:=decide_eq_true (by omega)
        obtain⟨y,hy⟩:∃y,AK B=[y]:=by
          match hlb:AK B,h1 with
          | [y],_=>exact⟨y,rfl⟩
        have hyB:y=B:=by
          have:=hvB
          rw[hy]at this
          show y=B
          have e:AC [y]=y:=by show y+LB * 0=y;omega
          rw[e]at this;exact this
        subst hyB
        have hy32:y<4294967296:=by have:=hsB y (by rw[hy];simp);exact this
        obtain⟨p1,i1,l1⟩:=EE (cap:=cb) (n:=(AK y).length) (hcb.old o3 (tJ _)) (k:=0) (by omega) (x:=y) (by rw[hy];rfl)
        have i1':AR Tryz.prog 77 (.slice b (AK y).length cb) (.int .i64 0)=some p1:=i1
        simp only[Rx,d1,UW,cE,AW Tryz.underlying77,Wb,d2,i1',l1,BU hy32,Qb,Qc,Qd,Qf,Qh,Qi,Qj,Qk,Qm,Qn,true_and,Qo,Qp,Qq,Qr,Qs,Qu,Qy,Qz,Ri,Za,Rx,Wb]
        refine Nw hE n1' (by omega) hsA (x:=y) (by omega) (by omega) fun s4 vq o4 r4=>?_
        obtain⟨w1,w2,w3⟩:=Cz (show 0<y by omega) (AK A)
        rw[hvA]at w1
        have hsq:=Er (show 0<y by omega) hsA
        generalize A6 y (AK A)=T at *
        have hq:AC T.1=A / y:=by
          rw[w1,Nat.mul_add_div (by omega),uP w2,tZ]
        have hr:T.2=A % y:=by
          rw[w1,Nat.mul_add_mod,tr w2]
        rw[BN hsq,hq]at r4
        rw[hr]
        simp only[cF,Qb,Qc,Qd,Qf,Qh,Qi,Qj,Qk,Qm,Qn,true_and,Qo,Qp,Qq,Qr,Qs,Qu,Yd,Ye]
        refine X1 hE (n:=A % y) (by have:=ti A (show 0<y by omega);omega) fun s5 vr o5 r5=>?_
        simp only[Qd,Qn,true_and,Qo,Qp,Qq,Qr]
        exact hK1 hB0 s5 vq vr (oS3.trans ((o4.mono oS3.1).trans (o5.mono (tN oS3.1 o4.1)))) ((r4.old o5).mono oS3.1) (r5.mono (tN oS3.1 o4.1)) (fun h=>absurd h hlt)
      · have d2:decide (((AK B).length:Int)=1)=false:=decide_eq_false (by omega)
        obtain⟨lo,bt,hlo,hlol⟩:=FZ (n:=(AK B).length - 1) (l:=AK B) (by omega)
        obtain⟨m,hm⟩:∃m,lo.length=m+1:=⟨lo.length - 1,by omega⟩
        have hbt32:bt<4294967296:=hsB bt (by rw[hlo];simp)
        have hbt0:0<bt:=by
          rcases uL bt with h | h
          · exfalso
            have e1:=NF B hB0
            have e2:=CP (fun x hx=>hsB x (by rw[hlo];exact ug _ hx):BZ lo)
            rw[hlo,DB,h,uI,tZ]at hvB
            rw[hlol]at e2
            omega
          · exact h
        simp only[Rx,d1,UW,cG,AW Tryz.underlying77,Wb,d2,Qb,Qc,Qd,Qf,Qh,Qi,Qj,Qk,Qm,Qn,true_and,Qo,Qp,Qq,Qr,Qs,Qu,Qz,Rx,Wb]
        have hcb3:Aj s3.next s3 b (us (lo++[bt])):=by rw[← hlo];exact(hcb.old o3 (tJ _)).mono o3.1
        have hbl:(AK B).length=lo.length+1:=by rw[hlo];simp
        rw[hbl]
        refine ZC hcb3 hbt0 hbt32 (by omega) _ _ _ _ _ _ _ _ _ _ _ _ _ _ _ _ (fun n y16 hn31 hn1 hn2=>?_) 32 0 _ rfl (by simpa using hbt32)
        have hnv:=pX (lo:=lo) (bt:=bt) (by rw[← hlo];exact hsB) hn31 hn1 hn2
        obtain⟨hV,vlo0,v1',hVe,hvlo0,hv1'⟩:=hnv
        rw[← hlo,hvB]at hV
        rw[← hlo]at hVe
        obtain⟨vlo,v2',hvloe,hvlol⟩:=FZ (n:=m) (by rw[hvlo0,hm])
        have hVe2:(Lq (AK B) (2 ^ n) 0).take (lo.length+1)=vlo++[v2',v1']:=by rw[hVe,hvloe];simp
        have h2n:2 ^ n<LB:=by
          rw[hLB]
          have e32:(2:Nat) ^ 32=4294967296:=by decide
          rw[← e32]
          exact Nat.pow_lt_pow_right (by decide) (by omega)
        have hsU:=Fm h2n hsA A7
        have hsW:=Fm h2n hsB A7
        have hUl:=It (2 ^ n) (AK A) 0
        have hWl:=It (2 ^ n) (AK B) 0
        have hUv:=Lw (AK A) (2 ^ n) 0
        rw[hvA,tZ]at hUv
        have hAB:lo.length+1≤(AK A).length:=by
          rcases tL (AK A).length (lo.length+1)with h | h
          · rw[← hbl]at h
            exact absurd (DN h) hlt
          · exact h
        have hnu:=pW (vlo:=vlo0) hsA hn31 hv1' (by omega)
        rw[← hVe,hvlo0]at hnu
        have hsV:BZ (vlo++[v2',v1']):=by rw[← hVe2];exact hsW.take _
        rw[hVe2]at hV hnu
        simp only[if_true,WE,AW Tryz.underlying77,Qb,Qc,Qd,Qf,Qh,Qj,Qk,Qm,Qn,true_and,Qq,Qr,Qs,Qu,Ra,Rc,Rf]
        have n2'':Cl s3 (.slice b (lo.length+1) cb) (AK B):=by rw[← hbl];exact n2'
        refine nc hE n1' (by omega) hsA (n:=n) (by omega) fun s4 vu o4 r4=>?_
        simp only[Vz,AW Tryz.underlying77,No,fh,Qd,Qh,Qj,Qk,Qn,true_and,and_true,Qq,Qr]
        refine nc hE (n2''.old o4) (by omega) hsB (n:=n) (by omega) fun s5 vw o5 r5=>?_
        have nw:=r5.n32'
        obtain⟨ui,pu,rfl,hu1,hu2,hu3,hu4⟩:=r4.own (by intro e;rw[e]at hUl;simp at hUl)
        obtain⟨wi,pw,rfl,hw1,hw2,hw3,hw4⟩:=r5.own (by intro e;rw[e]at hWl;simp at hWl)
        obtain⟨aw,cw,ew,hcapw,hcw⟩:=nw
        injection ew with ew1 ew2 ew3
        subst ew1;subst ew3
        have e1:=eu Tryz.underlying77 Bs hcapw (k:=lo.length+1) (by rw[hWl];omega)
        have nV:=Cl.take hcapw hcw (k:=lo.length+1) (by rw[hWl];omega)
        rw[hVe2]at nV
        have e2:=B0 Tryz.prog 3 (((Lq (AK A) (2 ^ n) 0).length:Nat):Int) ((lo.length+1:Nat):Int) ⟨by omega,by omega⟩
        have e2':(((Lq (AK A) (2 ^ n) 0).length:Nat):Int) - ((lo.length+1:Nat):Int)=(((Lq (AK A) (2 ^ n) 0).length - (lo.length+1):Nat):Int):=by omega
        have e3:=RC ((Lq (AK A) (2 ^ n) 0).length - (lo.length+1)) (by omega)
        have e4:=B0 Tryz.prog 3 (((Lq (AK A) (2 ^ n) 0).length - (lo.length+1):Nat):Int) 1 ⟨by omega,by omega⟩
        simp only[Vz,AW Tryz.underlying77,No,fh,e1,WG,WH,e2,e2',Xx,e3,Xd,e4,Qb,Qc,Qd,Qf,Qh,Qi,Qj,Qk,Qm,Qn,true_and,and_true,Qo,Qp,Qq,Qr,Qs,Qu]
        generalize hU0:Lq (AK A) (2 ^ n) 0=U0 at *
        have hml:m=vlo.length:=hvlol.symm
        have hll:lo.length+1=vlo.length+2:=by omega
        rw[hll]at nV
        rw[hll]at *
        have hn5:s5.next<(newObj s5 (R 185 1 false (us (List.replicate (U0.length - (vlo.length+2)) 0)))).next:=t6 _
        have o6:=A9.new s5 (R 185 1 false (us (List.replicate (U0.length - (vlo.length+2)) 0)))
        have hVl:(vlo++[v2',v1']).length=vlo.length+2:=by simp
        generalize hs6:newObj s5 (R 185 1 false (us (List.replicate (U0.length - (vlo.length+2)) 0)))=s6 at *
        have hq6:s6.heap.get s5.next=some (R 185 1 false (us (List.replicate (U0.length - (vlo.length+2)) 0))):=by rw[← hs6,AQ,if_pos rfl]
        have o46:A9 s4.next s4 s6:=o5.trans (o6.mono o5.1)
        have hu6:CH s6 ui (us U0) pu:=hu3.keep (o46.2 ui hu2)
        refine fC hE (s0:=s6) (U0:=U0) (ui:=ui) (qi:=s5.next) (pp:=pu) (tO hu2 o46.1) hn5 (by have:=o5.1;omega) (fun q hq=>⟨by have:=(hu4 q hq).2.1;have:=o46.1;omega,by have:=(hu4 q hq).2.1;have:=o5.1;omega⟩) hsV hv1' (by omega)
          (nV.old o6) (fun j hj=>?_) _ _ _ _ _ _ _ _ _ _ _ (fun S cu qs y10 y11 y12 y17 y18 hS=>?_) (U0.length - (vlo.length+2)) s6 U0 (List.replicate (U0.length - (vlo.length+2)) 0) _ _ _ _ ⟨tJ _,fun j _ _ _ _=>rfl,hu6,CH.of_R hq6,?_,?_⟩ (by omega)
        · injection hj with hj
          subst hj
          exact⟨by omega,fun e=>by have:=(hu4 wi e.symm).2.1;omega,by omega⟩
        ·
          have hVpos:0<AC (vlo++[v2',v1']):=by
            rw[hV]
            exact Nat.mul_pos (by omega) (uJ (by decide))
          have hrem:=hS.inv.rem
          have hquo:=hS.inv.quo
          rw[uY,uY,hUv,hV]at hrem hquo
          rw[Nat.mul_div_mul_right _ _ (uJ (by decide))]at hquo
          rw[Nat.mul_mod_mul_right]at hrem
          have hcl:=hS.inv.len
          have hql:qs.length=U0.length - (vlo.length+2):=by have:=hS.qlen;rw[hVl]at this;omega
          have huiS:ui<S.next:=by have:=hS.next;have:=o46.1;omega
          have nu:=TN hS.u huiS (lo:=0) (m:=cu.length) (by omega)
          rw[uY,List.take_length,hcl]at nu
          have p31:2 ^ n≤2147483648:=by
            have e31:(2:Nat) ^ 31=2147483648:=by decide
            rw[← e31]
            exact uX (by decide) hn31
          have p0:0<2 ^ n:=uJ (by decide)
          have es:AP Tryz.prog .shl 187 (.int .u64 1) (AU n)=some (AU (2 ^ n)):=by
            have:=Pf Tryz.prog 187 (a:=1) (k:=.u64) (n:=n) (by omega) (by rw[Nat.one_mul];omega)
            rw[Nat.one_mul]at this
            exact this
          simp only[if_true,WO,es,Qb,Qc,Qd,Qf,Qh,Qi,Qj,Qk,Qm,Qn,true_and,Qq,Qr,Qs,Qu,Ra,Rc,Rf,Ri,Za]
          refine Nw hE nu (by omega) hS.inv.sm p0 (by omega) fun s8 vr o8 r8=>?_
          obtain⟨w1,w2,w3⟩:=Cz p0 cu
          have hss:=Er p0 hS.inv.sm
          rw[hrem]at w1
          generalize A6 (2 ^ n) cu=T at *
          have hr:AC T.1=A % B:=by
            have e1:2 ^ n * AC T.1+T.2=2 ^ n * (A % B):=by rw[← w1,tU]
            have e2:(2 ^ n * AC T.1+T.2) / 2 ^ n=2 ^ n * (A % B) / 2 ^ n:=by rw[e1]
            rw[Nat.mul_add_div p0,uP w2,tZ,Nat.mul_div_cancel_left _ p0]at e2
            exact e2
          rw[BN hss,hr]at r8
          have hqiS:s5.next<S.next:=by have:=hS.next;omega
          have hq8:=hS.q.keep (o8.2 s5.next hqiS)
          have nq:Cl s8 (.slice (some (s5.next,0)) (U0.length - (vlo.length+2)) (some (U0.length - (vlo.length+2)))) qs:=
            ⟨some (s5.next,0),some (U0.length - (vlo.length+2)),by rw[hql],.inl ⟨_,rfl,by omega,fun e=>by cases e⟩,KK hq8 (tO hqiS o8.1)⟩
          simp only[WP,Qb,Qc,Qd,Qf,Qh,Qi,Qj,Qk,Qm,Qn,true_and,Qo,Qp,Qq,Qr,Qs,Qu,Yd,Ye]
          refine CA hE nq (by omega) fun s9 vq o9 r9=>?_
          rw[BN hS.inv.qsm,hquo]at r9
          have hbase:s.next≤S.next:=by have:=oS3.1;have:=o4.1;have:=o46.1;have:=hS.next;omega
          have oSS:A9 s.next s S:=⟨hbase,fun j hj=>by
            have h3:j<s3.next:=tO hj oS3.1
            have h4:j<s4.next:=tO h3 o4.1
            rw[hS.keep j (tO h4 o46.1) (by omega) (fun e=>by have:=(hu4 j e.symm).1;omega) (by have:=o5.1;omega),o46.2 j h4,o4.2 j h3]
            exact oS3.2 j hj⟩
          simp only[Qd,Qn,true_and,Qo,Qp,Qq,Qr]
          exact hK1 hB0 s9 vq vr (oSS.trans ((o8.mono hbase).trans (o9.mono (tN hbase o8.1)))) (r9.mono (tN hbase o8.1)) ((r8.old o9).mono hbase) (fun h=>absurd h hlt)
        · have hd:AC (U0.drop (U0.length - (vlo.length+2)))<AC (vlo++[v2',v1']):=by
            have:U0.length - (vlo.length+2)=(AK A).length - lo.length:=by omega
            rw[this];exact hnu
          refine⟨rfl,rfl,hsU,(tr hd).symm,fun x hx=>?_,?_⟩
          · rw[List.eq_of_mem_replicate hx];exact A7
          · rw [uP               hd, uK                     (by simp)]
            rfl
        · rw[List.length_replicate,hVl];omega
theorem fD(hE:Ak E){va vb:AV}{la lb:List Nat}(ha:Cl s va la)(hb:Cl s vb lb)(hla:la.length≤1000000000)(hlb:lb.length≤1000000000)(hsa:BZ la)(hsb:BZ lb){K:AV→AD→Prop}
  (hK0:AC lb=0→∀s',A9 s.next s s'→K (.tuple [.slice none 0 (some 0),.slice none 0 (some 0),iv 3]) s')
  (hK1:AC lb≠0→∀s' vq vr,A9 s.next s s'→NR s.next s' vq (AK (AC la / AC lb))→NR s.next s' vr (AK (AC la % AC lb))→K (.tuple [vq,vr,iv 0]) s'):WF E 213 [va,vb] K s:=
 W9 hE ha hb hla hlb hsa hsb hK0 fun h s' vq vr o r1 r2 _=>hK1 h s' vq vr o r1 r2
end
theorem GQ{a b:Nat}(h:a≤b):(AK a).length≤(AK b).length:=by
 rcases tL (AK b).length (AK a).length with h' | h'
 ·have:=DN h';omega
 ·exact h'
section
variable{E:Ck}{s:AD}
theorem fu(hE:Ak E){b:Nat}{Q:Ax→Prop}(x2:AV):
    ∀ (n A B : Nat) (S : AD)  (va vb x3 x4 : AV), B < n → A9  b s S → b ≤ S.next → NR b S va (AK    A) → NR b S vb (AK    B) → (AK    A).length ≤ 1000000000 → (AK    B).length ≤ 1000000000 →
      (∀ (S:AD) (va vb y3 y4:AV),A9 b s S→NR b S va (AK (Nat.gcd A B))→Q ⟨.exit 0,[va,vb,x2,y3,y4],[],S⟩) →
      WC E none (.loop MX) Q [va,vb,x2,x3,x4] [] S:=by
  intro n
  induction n with
  | zero=>intro A B S va vb x3 x4 hB;omega
  | succ n ih =>
    intro A B S va vb x3 x4 hB ho hbS ha hb hla hlb hq
    have nb:=hb.n32
    have hlen:Bb Tryz.prog S 77 vb=some (iv ((AK B).length:Int)):=by
      obtain⟨a,cap,rfl,_,_⟩:=nb
      exact AW Tryz.underlying77
    refine WC.loop' ?_
    generalize hW:WC E none (Aa.loop MX) Q=WW
    by_cases h0:B=0
    · subst h0
      have dd:decide ((0:Int)<((AK 0).length:Int))=false:=by rw[BC];rfl
      simp only[MX,UU,hlen,Ry,dd,Qa,Qb,Qc,Qd,Qf,Qh,Qi,Qj,Qk,Qm,Qn,true_and,Qo,Qp,Qq,Qr,Qs,Qu,Qz,Ra,Rc,Rd,Ry]
      refine hq S va vb _ _ ho ?_
      rw[Nat.gcd_zero_right]
      exact ha
    · have hpos : 0 < (AK    B).length := List.length_pos_iff.2 (Cp       h0)
      have dd:decide ((0:Int)<((AK B).length:Int))=true:=decide_eq_true (by omega)
      simp only[MX,UU,bo,hlen,Ry,dd,Qa,Qb,Qc,Qd,Qf,Qh,Qi,Qj,Qk,Qm,Qn,true_and,Qo,Qp,Qq,Qr,Qs,Qu,Qy,Ra,Rc,Rd,Za,Ry]
      refine fD hE ha.n32 nb hla hlb (AT A) (AT B) (fun e=>absurd (by rw[AZ]at e;exact e) h0) fun _ s' vq vr o' rq rr=>?_
      rw[AZ,AZ]at rr
      have hlt:A % B<B:=ti _ (by omega)
      simp only[bp,Qb,Qc,Qd,Qf,Qh,Qj,Qk,Qm,Qn,true_and,Qo,Qp,Qq,Qr,Qs,Qu,Yd,Ye]
      rw[← hW]
      have e:Nat.gcd A B=Nat.gcd B (A % B):=by rw[Nat.gcd_comm,Nat.gcd_rec,Nat.gcd_comm]
      rw[e]at hq
      refine ih B (A % B) s' vb vr _ _ (by omega) (ho.trans (o'.mono hbS)) (tN hbS o'.1) (hb.old o') (rr.mono hbS) hlb (tN (GQ (Nat.le_of_lt hlt)) hlb) hq
theorem pN(hE:Ak E){va vb:AV}{la lb:List Nat}(ha:Cl s va la)(hb:Cl s vb lb)(hla:la.length≤1000000000)(hlb:lb.length≤1000000000)(hsa:BZ la)(hsb:BZ lb){K:AV→AD→Prop}
  (hK:∀s' v,A9 s.next s s'→NR s.next s' v (AK (Nat.gcd (AC la) (AC lb)))→K v s'):WF E 212 [va,vb] K s:=by
 refine hE.go jm (by decide) rfl ?_
 simp only[qk,bk,bl,Qa,Qb,Qc,Qd,Qf,Qh,Qi,Qj,Qk,Ql,Qm,Qn,true_and,Qo,Qp,Qq,Qs,Qu,Ra,Rg,Rj,Rk,Rm,Yc]
 refine CA hE ha (by omega) fun s1 v1 o1 r1=>?_
 simp only[Qd,Qn,true_and,Qq,Qr]
 refine CA hE (hb.old o1) (by omega) fun s2 v2 o2 r2=>?_
 have t1:=D9 la
 have t2:=D9 lb
 have R1:NR s.next s2 v1 (AK (AC la)):=by have:=r1.old o2;rw[BN hsa]at this;exact this
 have R2:NR s.next s2 v2 (AK (AC lb)):=by have:=r2.mono o1.1;rw[BN hsb]at this;exact this
 rw[BN hsa]at t1
 rw[BN hsb]at t2
 have o12:=o1.trans (o2.mono o1.1)
 simp only[Qd,Qn,true_and,Qo,Qp,Qq,Qr]
 refine fu (s:=s) hE _ (AC lb+1) _ _ s2 v1 v2 _ _ (t6 _) o12 o12.1 R1 R2 (by omega) (by omega) fun S va vb y3 y4 hS hr=>?_
 simp only[bu,if_true,Qb,Qc,Qd,Qf,Qh,Qj,Qm,Qn,true_and,Qo,Qp,Qq,Qr,Qs,Qu,Ra,Rc,Rf,Ri]
 exact hK S va hS hr
end
theorem Pl:∀ (l w:List Nat),l.zip (w.take l.length)=l.zip w
 | [],w=>by simp
 | x::l,[]=>by simp
 | x::l,y::w=>by rw[tq,List.take_succ_cons,uh,uh,Pl l w]
structure YW(la lb cu:List Nat)(i:Nat):Prop where
 len:cu.length=la.length+lb.length
 sm:BZ cu
 val:AC cu=AC (la.take i) * AC lb
 zero:cu.drop (i+lb.length)=List.replicate (la.length - i) 0
theorem YW.step{la lb cu:List Nat}{i x:Nat}(h:YW la lb cu i)(hx:la[i]? = some x)(hxs:x<LB)(hb:BZ lb):
  YW la lb (F3 cu i ((Fv x (lb.zip (cu.drop i)) 0).1++[(Fv x (lb.zip (cu.drop i)) 0).2])) (i+1):=by
 obtain⟨h1,h2,h3,h4⟩:=h
 have hi:i<la.length:=(List.getElem?_eq_some_iff.1 hx).1
 have hz:lb.zip (cu.drop i)=lb.zip ((cu.drop i).take lb.length):=(Pl _ _).symm
 rw[hz]
 have hwl:((cu.drop i).take lb.length).length=lb.length:=by rw[tp,uN];omega
 have hv:=S9 x (lb.zip ((cu.drop i).take lb.length)) 0
 have hl:=NN x (lb.zip ((cu.drop i).take lb.length)) 0
 have hzl:(lb.zip ((cu.drop i).take lb.length)).length=lb.length:=by rw[uf,hwl,Nat.min_self]
 obtain⟨c1,c2⟩:=IY (x:=x) (P:=lb.zip ((cu.drop i).take lb.length)) (c:=0) hxs (fun p hp=>by
  have:=List.of_mem_zip (a:=p.1) (b:=p.2) hp
  exact⟨hb _ this.1,(h2.drop i).take lb.length _ this.2⟩) A7
 rw[R6 hwl.symm,R7 hwl.symm,hzl]at hv
 rw[hzl]at hl
 generalize Fv x (lb.zip ((cu.drop i).take lb.length)) 0=T at *
 obtain⟨T1,T2⟩:=T
 simp only at *
 have hdl:(T1++[T2]).length=lb.length+1:=by rw[tX,hl];rfl
 have hd0:cu.drop (i+(lb.length+1))=List.replicate (la.length - (i+1)) 0:=by
  rw[← tv,← uM,h4,List.drop_replicate]
  congr 1
 have hcu:AC cu=AC (cu.take i)+LB ^ i * AC ((cu.drop i).take lb.length):=by
  have e1:cu=cu.take i++((cu.drop i).take lb.length++cu.drop (i+lb.length)):=by
   rw[← uM,ur,ur]
  have e2:=congrArg AC e1
  rw[BE,h4,BE,Hf,uI,tZ,tp,ua (by omega)]at e2
  exact e2
 have hta:AC (la.take (i+1))=AC (la.take i)+LB ^ i * x:=by
  rw[List.take_add_one,hx,BE,tp,ua (by omega)]
  simp[AC]
 refine⟨?_,?_,?_,?_⟩
 ·rw[HS (by rw[hdl];omega)];exact h1
 ·unfold F3
  refine((h2.take i).append (c2.append fun y hy=>?_)).append (h2.drop _)
  rw[ul.1 hy];exact c1
 ·unfold F3
  rw[hdl,hd0,BE,Hf,uI,tZ,BE,BE,hl,hta,tp,ua (by omega)]
  have e3:AC [T2]=T2:=by simp[AC]
  rw[e3,hv,tj,← h3,hcu,tZ,th,tb]
  omega
 ·unfold F3
  rw[show i+1+lb.length=(cu.take i++(T1++[T2])).length by simp[hl];omega,List.drop_left,hdl]
  exact hd0
section
variable{E:Ck}{s:AD}
theorem iJ{s1:AD}{x:Nat}(hxs:x<4294967296){ui off N:Nat}{cu w:List Nat}(hN:N=cu.length)(hcu:off+w.length≤cu.length)(hcl:cu.length≤100000000000)(hsu:BZ cu)(hsw:BZ w){a9:Option (Nat×Nat)}{c9:Option Nat}{b:Nat}(hc9:Aj b s1 a9 (us w))(h9:b≤ui)
    {T:List Nat×Nat} {Q:Ax→Prop} (y0 y1 y2 y9 y10 y11 y12:AV)
    (hq:∀ (s':AD) (y7 y8 y15 y16:AV),Cm s1 s' ui none→CH s' ui (us (F3 cu off T.1)) none →
      Q ⟨.exit 2,[y0,y1,y2,.slice (some (ui,0)) N (some N),iv (off:Int),BS x,AU T.2,y7,y8,y9,y10,y11,y12,.slice a9 w.length c9,iv (w.length:Int),y15,y16],[],s'⟩):
    ∀ (r : List Nat) (s' : AD)  (c : Nat) (d : List Nat) (x7 x8 x16 : AV), w.drop d.length = r → d.length ≤ w.length → Cm    s1 s' ui none → c < 4294967296 →
      (d++(Fv x (r.zip (cu.drop (off+d.length))) c).1,(Fv x (r.zip (cu.drop (off+d.length))) c).2)=T→CH s' ui (us (F3 cu off d)) none →
      WC E none (.loop Iv) Q [y0,y1,y2,.slice (some (ui,0)) N (some N),iv (off:Int),BS x,AU c,x7,x8,y9,y10,y11,y12,.slice a9 w.length c9,iv (w.length:Int),iv (d.length:Int),x16] [] s':=by
  subst hN
  intro r
  induction r with
  | nil =>
    intro s' c d x7 x8 x16 hd hk ho hc hT hg
    have hkl:d.length=w.length:=by
      have:=congrArg List.length hd
      simp at this
      omega
    rw[List.zip_nil_left]at hT
    simp only[Fv,ud]at hT
    have dd:decide ((d.length:Int)<(w.length:Int))=false:=decide_eq_false (by omega)
    refine WC.loop' ?_
    simp only[Iv,UN,Rx,dd,Qa,Qb,Qc,Qd,Qf,Qh,Qj,Qm,Qn,true_and,Qo,Qp,Qq,Qr,Qs,Qu,Qz,Ra,Rc,Rd,Rx]
    subst hT
    exact hq s' _ _ _ _ ho hg
  | cons y r ih =>
    intro s' c d x7 x8 x16 hd hk ho hc hT hg
    have hlt:d.length<w.length:=by
      rcases tL d.length w.length with h' | h'
      · exact h'
      · rw[uK h']at hd;cases hd
    have hy:w[d.length]? = some y:=by
      have:=congrArg (fun l=>l[0]?) hd
      simpa using this
    have hd':w.drop (d.length+1)=r:=by
      have:=congrArg (List.drop 1) hd
      simpa[uM]using this
    have hys:y<4294967296:=hsw y (tf hy)
    have hlu:off+d.length<cu.length:=by omega
    have hu:cu[off+d.length]? = some cu[off+d.length]:=tQ hlu
    have hdu:cu.drop (off+d.length)=cu[off+d.length]::cu.drop (off+(d.length+1)):=t8 hlu
    generalize cu[off+d.length]=u at hu hdu
    have hus:u<4294967296:=hsu u (tf hu)
    rw[hdu,uh]at hT
    simp only[Fv]at hT
    obtain⟨i,o,rfl,hi,hload⟩:=hc9 d.length _ (DT hy)
    have hne:i≠ui:=by omega
    have hkk:decide ((d.length:Int)<(w.length:Int))=true:=decide_eq_true (by omega)
    have e1:=Aw (cap:=c9) (i:=i) (o:=o) Tryz.underlying77 Bs hlt
    have e2:AG Tryz.prog s' 185 (.ptr (some (i,o+d.length * 1)))=some (BS y):=CK FP (by rw[tT,EN (ho.get i hne (by simp))];exact hload)
    have e0:=Bz Tryz.prog 3 (off:Int) (d.length:Int) ⟨by omega,by omega⟩
    have e0':((off:Int)+(d.length:Int))=((off+d.length:Nat):Int):=by omega
    have e5:=Aw (cap:=some cu.length) (i:=ui) (o:=0) Tryz.underlying77 Bs hlu
    have hcell:(us (F3 cu off d))[0+(off+d.length) * 1]? = some (BS u):=by rw[tT,tR];exact DT ((RE hlu).trans hu)
    have e6:=G6 (P:=Tryz.prog) (t:=185) FP hg hcell
    have hxy:x * y≤4294967295 * 4294967295:=uW (by omega) (by omega)
    have e3:=Tv Tryz.prog 187 (a:=x) (b:=y) (by omega)
    have e3':=HG Tryz.prog 187 (a:=x * y) (b:=u) (by omega)
    have e4:=HG Tryz.prog 187 (a:=c) (b:=x * y+u) (by omega)
    have hLB:LB=4294967296:=rfl
    rw[hLB]at hT
    generalize hc1:c+(x * y+u)=c1 at hT e4
    have hc1b:c1<18446744073709551616:=by omega
    have e7:=Ll Tryz.prog 187 hc1b
    have e11:c1 % 4294967296 % 4294967296=c1 % 4294967296:=uj _ _
    have e15:AP Tryz.prog .shr 187 (AU c1) (.int .u64 32)=some (AU (c1 / 4294967296)):=J8 Tryz.prog 187 (k:=.u64) (n:=32) (by decide)
    have hcq:c1 / 4294967296<4294967296:=by omega
    generalize hx:c1 % 4294967296=z at hT e7 e11
    have hlm:0+(off+d.length) * 1<(us (F3 cu off d)).length:=by rw[Ca,HS (by omega)];omega
    obtain⟨s2,e16,w1,w2,w3⟩:=D8 (P:=Tryz.prog) (t:=185) (v:=BS z) Bs hg hlm rfl
    rw[tT,tR]at e16
    rw[tT,tR,Kr,MC hlu]at w1
    rw[tT,tR]at e5 e6
    have e17:=Bz Tryz.prog 3 (d.length:Int) 1 ⟨by omega,by omega⟩
    have e17':((d.length:Int)+1)=((d.length+1:Nat):Int):=by omega
    refine WC.loop' ?_
    generalize hW:WC E none (Aa.loop Iv) Q=WW
    simp only[Iv,UN,aq,ar,V5,V6,V7,Rx,hkk,e0,e0',e1,e2,e5,e6,BU hus,BU hys,BU hxs,e3,e3',e4,e7,Bj,e11,e16,e15,e17,e17',Xx,Xz,Qa,Qb,Qc,Qd,Qf,Qh,Qi,Qj,Qk,Qm,Qn,true_and,Qo,Qp,Qq,Qr,Qs,Qu,Qy,Ra,Rc,Rd,Rx]
    rw[← hW]
    have hlen1:(d++[z]).length=d.length+1:=by rw[tX];rfl
    have key:=ih s2 (c1 / 4294967296) (d++[z])
    rw[hlen1]at key
    exact key _ _ _ hd' hlt (ho.step w2 w3) hcq (by rw[tg];exact hT) w1
end
end
end Go.Proofs.YtoaaclpjkelofaaGreatDoor.Am
