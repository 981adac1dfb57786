/- Sums of variables: Whole's rounds, walked; conditions: none. -/
import Derived.Test.YtjnkfbpadpmakaaGreatDoorAmM10
import Derived.Test.YtjnkfbpadpmakaaGreatDoorAmM05
set_option linter.unusedVariables false
set_option linter.unusedSimpArgs false
set_option maxRecDepth 16000
namespace Go.Proofs.YtjnkfbpadpmakaaGreatDoor.Am
open Go Go.Proofs
noncomputable section
def GF:List (Int×Rat)→Nat→Nat
 | [],u=>u
 | p::L,u=>GF L (Nat.gcd u p.2.num.natAbs)
def Ku:List (Int×Rat)→Nat→Nat
 | [],d=>d
 | p::L,d=>Ku L (d * (p.2.den / Nat.gcd p.2.den d))
theorem GC:∀ (L:List (Int×Rat))(p:Int×Rat)(u:Nat),GF (L++[p]) u=Nat.gcd (GF L u) p.2.num.natAbs
 | [],p,u=>rfl
 | q::L,p,u=>GC L p _
theorem Jc:∀ (L:List (Int×Rat))(p:Int×Rat)(d:Nat),Ku (L++[p]) d=Ku L d * (p.2.den / Nat.gcd p.2.den (Ku L d))
 | [],p,d=>rfl
 | q::L,p,d=>Jc L p _
theorem NR.keepU{b:Nat}{s s':AE}{v:AV}{l:List Nat}(h:NR b s v l)(h0:l=[]→v=.slice none 0 (some 0))(hn:s.next≤s'.next)(hf:∀j,j<s.next→U8 s j→s'.heap.get j=s.heap.get j):NR b s' v l:=by
 by_cases hl:l=[]
 ·rw[h0 hl,hl];exact NR.nil b s'
 ·exact h.keep hn fun j hj=>hf j (h.lt hj).2 (h.u32 hl hj)
theorem iI:Ag Tryz.prog 22=some (R 22 0 false [.slice none 0 (some 0)],.ptr):=by kernel_rfl
def IT (v0:AV) (b1 b2 bp bu bd:Nat) (x6 x7 fn x9 x10 x11:AV) (mk:Nat):Df:=
 Hi 16 [v0,.ptr (some (b1,0)),.ptr (some (b2,0)),.ptr (some (bp,0)),.ptr (some (bu,0)),.ptr (some (bd,0)),x6,x7,fn,x9,x10,x11] #[16,17] bJ bK mk
structure tq(lo:Df)(bu bd l k b:Nat)(done:List (Int×Rat))(O:List Nat)(S:AE):Prop where
 lp:Bb S l=some lo
 ll:l<S.next
 o:O=[bu,bd,l]
 eu:∃vu,S.heap.get bu=some (R 22 0 false [vu])∧NR b S vu (AJ (GF done 0))∧(GF done 0=0→vu=.slice none 0 (some 0))
 ed:∃vd,S.heap.get bd=some (R 22 0 false [vd])∧NR b S vd (AJ (Ku done 1))
 hu:GF done 0<LB ^ k
 hd:0<Ku done 1∧Ku done 1<LB ^ (1+done.length * k)
 hz:done≠[]→0<GF done 0
theorem tq.stab{lo:Df}{bu bd l k b:Nat}{done:List (Int×Rat)}{O:List Nat}{S S':AE}(h:tq lo bu bd l k b done O S)(hb:bu<l)(hb':bd<l)(o:Af S.next S S'):tq lo bu bd l k b done O S':=by
 obtain⟨h1,h2,h3,⟨vu,gu,ru,zu⟩,⟨vd,gd,rd⟩,h6,h7,h8⟩:=h
 exact⟨(Dy (o.2 l h2)).trans h1,xi h2 o.1,h3,⟨vu,(o.2 bu (by omega)).trans gu,ru.old o,zu⟩,⟨vd,(o.2 bd (by omega)).trans gd,rd.old o⟩,h6,h7,h8⟩
section
variable{E:CU}
theorem gy(hE:GoodN E){v0 x6 x7 fn x9 x10 x11:AV}{b1 b2 bp bu bd mk l k b:Nat}(hbu:bu<bd)(hbd:bd<l)(hk1:1≤k){n:Int}{q:Rat}{vq:AV}{done:List (Int×Rat)}{O:List Nat}{S:AE}(hbS:b≤S.next)
  (hsz:2+(done.length+2) * k≤1000000000) (hI:tq (IT v0 b1 b2 bp bu bd x6 x7 fn x9 x10 x11 mk) bu bd l k b done O S) (hq:QR 0 S vq q) (hq0:q≠0) (hqh:QH q k) {K:AV→AE→Prop}
  (hK:∀S' O',tq (IT v0 b1 b2 bp bu bd x6 x7 fn x9 x10 x11 mk) bu bd l k b (done++[(n,q)]) O' S'→S.next≤S'.next→(∀j,j<S.next→j ∉ O→S'.heap.get j=S.heap.get j)→(∀j∈O',j∈O∨S.next≤j)→K (.bool true) S'):WR E l [iv n,vq] K S:=by
 obtain⟨hlp,hll,hO,⟨vu,gu,ru,zu⟩,⟨vd,gd,rd⟩,hu,⟨hd0,hd⟩,hz0⟩:=hI
 obtain⟨xx,aa,nn,kk,bb,mm,ee,evq⟩:=hq.shape
 subst evq
 have hz:DY (De E.P 16) (IT v0 b1 b2 bp bu bd x6 x7 fn x9 x10 x11 mk).var [16,17] [iv n,.agg [.bool xx,.slice aa nn kk,.slice bb mm ee]]=some [v0,.ptr (some (b1,0)),.ptr (some (b2,0)),.ptr (some (bp,0)),.ptr (some (bu,0)),.ptr (some (bd,0)),x6,x7,fn,iv n,.agg [.bool xx,.slice aa nn kk,.slice bb mm ee],x11]:=by
  rw[hE.P,bQ];rfl
 refine WR.round hlp hz (by rw[hE.P];exact rL) (by rw[hE.P];exact rM) ?_
 refine EY ?_
 obtain⟨n2,o2,g2⟩:=CC S ZQ
 have st:=Ak (P:=Tryz.prog) (t:=26) (cs:=[.bool xx,.slice aa nn kk,.slice bb mm ee]) A9 g2 rfl rfl rfl (by simp)
 simp only[bO,kh,CE,Xc,st,Xy,Za,Qa,Qb,Qc,Qd,Qf,Qh,Qj,Qm,Qo,true_and,Qp,Qq,Qr,Qs,Qt,Qv]
 generalize hs2:setObj (newObj S ZQ) S.next (R 26 0 false [.bool xx,.slice aa nn kk,.slice bb mm ee])=s2 at *
 have os2:Af S.next S s2:=by rw[← hs2];exact o2.set (xZ _) _
 have n3:s2.next=S.next+1:=by rw[← hs2];exact n2
 have g3:s2.heap.get S.next=some (BQ xx (.slice aa nn kk) (.slice bb mm ee)):=by rw[← hs2,Ww]
 refine⟨_,(Dy (os2.2 l hll)).trans hlp,rfl,EY ?_⟩
 generalize hs4:setObj s2 l _=s4
 have n4:s4.next=s2.next:=by rw[← hs4];rfl
 have f4:∀j,j≠l→s4.heap.get j=s2.heap.get j:=fun j hj=>by rw[← hs4,Wx _ hj]
 have l4:Bb s4 l=some { IT v0 b1 b2 bp bu bd x6 x7 fn x9 x10 x11 mk with state:=.busy }:=by rw[← hs4,DO]
 have hSl:l<S.next:=hll
 have hnl:∀ {j},U8 S j→j≠l:=fun hj=>by
  rintro rfl
  obtain⟨r,h1,_⟩:=hj
  have:=Dt hlp
  rw[this]at h1;cases h1
 have fS4:∀j,j<S.next→U8 S j→s4.heap.get j=S.heap.get j:=fun j hj hu'=>by rw[f4 j (hnl hu'),os2.2 j hj]
 have gu4:s4.heap.get bu=some (R 22 0 false [vu]):=by rw[f4 bu (by omega),os2.2 bu (by omega)];exact gu
 have gd4:s4.heap.get bd=some (R 22 0 false [vd]):=by rw[f4 bd (by omega),os2.2 bd (by omega)];exact gd
 have gc4:s4.heap.get S.next=some (BQ xx (.slice aa nn kk) (.slice bb mm ee)):=by rw[f4 _ (by omega)];exact g3
 have hq4:QR 0 s4 (.agg [.bool xx,.slice aa nn kk,.slice bb mm ee]) q:=hq.keepS (by omega) fun j hj hu'=>fS4 j hj hu'
 have ru4:NR b s4 vu (AJ (GF done 0)):=ru.keepU (fun e=>zu (by
  rcases yX (GF done 0)with h | h
  ·exact h
  ·exact absurd e (Br (by omega)))) (by omega) fS4
 have rd4:NR b s4 vd (AJ (Ku done 1)):=rd.keepU (fun e=>absurd e (Br (by omega))) (by omega) fS4
 obtain⟨m',d',e,hm',hd',hdj,hmz⟩:=hq4
 injection e with e
 injection e with e1 e
 injection e with e2 e
 injection e with e3 _
 subst e2;subst e3
 have hnum:q.num≠0:=fun h=>hq0 (Rat.num_eq_zero.1 h)
 have hnum':0<q.num.natAbs:=by omega
 have hk0:k≤(done.length+2) * k:=zM _ (by omega)
 have hdk:(done.length+2) * k=done.length * k+k+k:=by rw[yH];omega
 have lu:=AI (P:=Tryz.prog) (t:=22) (o:=0) CA gu4 rfl
 have lm:=AI (P:=Tryz.prog) (t:=22) (o:=0+0+1) CA gc4 rfl
 simp only[bP,ki,lu,lm,Dr,CR,Qa,Qb,Qc,Qd,Qf,Qh,Qj,Qk,Qm,Qo,true_and,Qr,Qs,Qt,Qv,Rb,Re]
 have lenu:=Ai hu
 have lenm:=Ai hqh.1
 refine UG hE ru4.n32 hm'.n32 (by omega) (by omega) (AK _) (AK _) fun s5 vg o5 rg=>?_
 rw[AR,AR]at rg
 have h5:=o5.1
 obtain⟨ag,ng,cg,evg⟩:=rg.n32.shape
 have st5:=Bn (P:=Tryz.prog) (t:=22) (o:=0) (v:=vg) P1 ((o5.2 bu (by omega)).trans gu4) (by simp) (by rw[evg];rfl)
 generalize hs6:setObj s5 bu _=s6 at st5
 have n6:s6.next=s5.next:=by rw[← hs6];rfl
 have f6:∀j,j≠bu→s6.heap.get j=s5.heap.get j:=fun j hj=>by rw[← hs6,Wx _ hj]
 have gu6:s6.heap.get bu=some (R 22 0 false [vg]):=by rw[← hs6,Ww];rfl
 have f46:∀j,j<s4.next→j≠bu→s6.heap.get j=s4.heap.get j:=fun j hj hne=>by rw[f6 j hne,o5.2 j hj]
 have hubu:∀ {j},U8 s4 j→j≠bu:=fun hj=>FV gu4 (by decide) hj
 have hd6:NR 0 s6 (.slice bb mm ee) (AJ q.den):=hd'.keepU (fun e=>absurd e (Br q.den_nz)) (by omega) fun j hj hu'=>f46 j hj (hubu hu')
 have rd6:NR b s6 vd (AJ (Ku done 1)):=rd4.keepU (fun e=>absurd e (Br (by omega))) (by omega) fun j hj hu'=>f46 j hj (hubu hu')
 have rg6:NR s4.next s6 vg (AJ (Nat.gcd (GF done 0) q.num.natAbs)):=by rw[← hs6];exact rg.set (by omega) _
 have gc6:=(f46 S.next (by omega) (by omega)).trans gc4
 have gd6:=(f46 bd (by omega) (by omega)).trans gd4
 have ld:=AI (P:=Tryz.prog) (t:=22) (o:=0+2) CA gc6 rfl
 have ldn:=AI (P:=Tryz.prog) (t:=22) (o:=0) CA gd6 rfl
 have lend:=Ai hqh.2
 have lenD:=Ai hd
 simp only[st5,kj,ld,ldn,G5,Xy,Za,Qb,Qc,Qd,Qf,Qh,Qj,Qk,Qm,Qo,true_and,Qr,Qs,Qt,Qv,Zb]
 refine UG hE hd6.n32 rd6.n32 (by omega) (by omega) (AK _) (AK _) fun s7 vh o7 rh=>?_
 rw[AR,AR]at rh
 have h7:=o7.1
 have ld7:=AI (P:=Tryz.prog) (t:=22) (o:=0+2) CA ((o7.2 S.next (by omega)).trans gc6) rfl
 refine⟨⟨As (by simp only[Qk,Qr,Qs];exact ld7) (by simp only[Qk,Qr,Qs];exact BJ _ _ _),trivial⟩,?_⟩
 have hg0:0<Nat.gcd q.den (Ku done 1):=Nat.gcd_pos_of_pos_right _ hd0
 have hgd:Nat.gcd q.den (Ku done 1)≤q.den:=Nat.gcd_le_left _ (A0M q.den_nz)
 have lenh:=Ai (yM hgd hqh.2)
 simp only[Qr,Qs]
 refine UB hE (hd6.old o7).n32 rh.n32 (by omega) (by omega) (AK _) (AK _) (fun h0=>absurd h0 (by rw[AR];omega)) fun _ s8 vx vr o8 rx rr=>?_
 rw[AR,AR]at rx
 have h8:=o8.1
 simp only[Qd,Qm,Qo,true_and,Qp,Qq,Qr,Yd,Ye]
 have gd8:=(o8.2 bd (by omega)).trans ((o7.2 bd (by omega)).trans gd6)
 have ldn8:=AI (P:=Tryz.prog) (t:=22) (o:=0) CA gd8 rfl
 have hqx:q.den / Nat.gcd q.den (Ku done 1)<LB ^ k:=yM (yj _ _) hqh.2
 have lenx:=Ai hqx
 simp only[km,ldn8,Qb,Qc,Qd,Qf,Qh,Qj,Qk,Qm,Qo,true_and,Qr,Qs,Qt,Qv]
 refine Pc hE ((rd6.old o7).old o8).n32 rx.n32 (by omega) (by omega) (AK _) (AK _) fun s9 vy o9 ry=>?_
 rw[AR,AR]at ry
 have h9:=o9.1
 obtain⟨ay,ny,cy,evy⟩:=ry.n32.shape
 have st10:=Bn (P:=Tryz.prog) (t:=22) (o:=0) (v:=vy) P1 ((o9.2 bd (by omega)).trans gd8) (by simp) (by rw[evy];rfl)
 generalize hs10:setObj s9 bd _=s10 at st10
 have n10:s10.next=s9.next:=by rw[← hs10];rfl
 have f10:∀j,j≠bd→s10.heap.get j=s9.heap.get j:=fun j hj=>by rw[← hs10,Wx _ hj]
 have gd10:s10.heap.get bd=some (R 22 0 false [vy]):=by rw[← hs10,Ww];rfl
 have f69:∀j,j<s6.next→s9.heap.get j=s6.heap.get j:=fun j hj=>by rw[o9.2 j (by omega),o8.2 j (by omega),o7.2 j hj]
 have o69:Af s6.next s6 s9:=⟨by omega,f69⟩
 have gu10:s10.heap.get bu=some (R 22 0 false [vg]):=by rw[f10 bu (by omega),f69 bu (by omega)];exact gu6
 have l10:Bb s10 l=some { IT v0 b1 b2 bp bu bd x6 x7 fn x9 x10 x11 mk with state:=.busy }:=by
  refine(Dy ?_).trans l4
  rw[f10 l (by omega),f69 l (by omega),f46 l (by omega) (by omega)]
 simp only[st10,Xy,Za,Qd,Qm,Qo,true_and,Qr,Qs]
 have hgcd0:0<Nat.gcd (GF done 0) q.num.natAbs:=Nat.gcd_pos_of_pos_right _ hnum'
 refine⟨_,l10,hK _ O ⟨?_,?_,hO,⟨vg,?_,?_,fun h=>?_⟩,⟨vy,?_,?_⟩,?_,⟨?_,?_⟩,fun _=>?_⟩ ?_ (fun j hj hjO=>?_) (fun j hj=>.inl hj)⟩
 ·rw[DO];rfl
 ·show l<s10.next;omega
 ·rw[Wx _ (by omega)];exact gu10
 ·rw[GC]
  have r1:NR s4.next s10 vg (AJ (Nat.gcd (GF done 0) q.num.natAbs)):=by rw[← hs10];exact(rg6.old o69).set (by omega) _
  exact(r1.set (by omega) _).mono (by omega)
 ·rw[GC]at h;exact absurd h (Nat.ne_of_gt hgcd0)
 ·rw[Wx _ (by omega)];exact gd10
 ·rw[Jc]
  have r1:NR s8.next s10 vy (AJ (Ku done 1 * (q.den / Nat.gcd q.den (Ku done 1)))):=by rw[← hs10];exact ry.set (by omega) _
  exact(r1.set (by omega) _).mono (by omega)
 ·rw[GC]
  exact yM (Nat.gcd_le_right _ hnum') hqh.1
 ·rw[Jc]
  exact zA hd0 (Nat.div_pos hgd hg0)
 ·rw[Jc,xp,show 1+(done.length+[(n,q)].length) * k=(1+done.length * k)+k by rw[show [(n,q)].length=1 from rfl,yH];omega,zO]
  exact Nat.mul_lt_mul'' hd hqx
 ·rw[GC];exact hgcd0
 ·show S.next≤s10.next;omega
 ·rw[hO]at hjO
  simp only[List.mem_cons,List.not_mem_nil,or_false,not_or]at hjO
  rw[Wx _ hjO.2.2,f10 j hjO.2.1,f69 j (by omega),f46 j (by omega) hjO.1,f4 j hjO.2.2,os2.2 j hj]
end
theorem La(x:Bool)(a b:Option (Nat×Nat))(n m:Nat)(c d:Option Nat):BT Tryz.prog 30 (zipIdx [0] [.agg [.bool x,.slice a n c,.slice b m d]])=some (.agg [.bool x,.slice a n c,.slice b m d,.slice none 0 (some 0),.slice none 0 (some 0)]):=by kernel_rfl
theorem Gy(a:Option (Nat×Nat))(n:Nat)(c:Option Nat):BT Tryz.prog 24 (zipIdx [1] [.slice a n c])=some (.agg [.bool false,.slice a n c]):=by kernel_rfl
theorem RG(sz:Nat)(s:AE):EC sz s none (some 0) 0:=.inl ⟨0,rfl,xZ _,fun _=>rfl⟩
theorem LI.const{s:AE}{x:Bool}{a b:Option (Nat×Nat)}{n m:Nat}{c d:Option Nat}{q:Rat}{k:Nat}(h:QI s (.agg [.bool x,.slice a n c,.slice b m d]) q k):LI s (.agg [.bool x,.slice a n c,.slice b m d,.slice none 0 (some 0),.slice none 0 (some 0)]) q [] [] k:=
 ⟨x,a,n,c,b,m,d,none,some 0,none,some 0,[],rfl,h,AU.nil,fun n hn=>(by cases hn),⟨rfl,AU.nil,fun i r hi=>(by simp at hi)⟩,RG 1 s,RG 3 s⟩
theorem LR.keepB{b:Nat}{s s':AE}{v:AV}{C:Rat}{L:List (Int×Rat)}(h:LR b s v C L)(hn:s.next≤s'.next)(hf:∀j,b≤j→j<s.next→s'.heap.get j=s.heap.get j):LR b s' v C L:=by
 obtain⟨x,a,n,ca,d,m,cd,vv,cv,D,O1,O2,h1,hq,hL,hD,hp,b1,b2,h3,h4,h5⟩:=h
 exact⟨x,a,n,ca,d,m,cd,vv,cv,D,O1,O2,h1,hq.keep hn hf,hL,fun t ht=>⟨(hD t ht).1.keep hn hf,(hD t ht).2⟩,hp,b1.frame hn fun j hj=>hf j (h3 j hj).1 (b1.lt j hj),b2.frame hn fun j hj=>hf j (h4 j hj) (b2.lt j hj),h3,h4,h5⟩
theorem eT(T:List Co):min ((Bu T).map (·.2)).length ((Bu T).map (·.1)).length=(Bu T).length:=by
 rw[yE,yE,zt]
section
variable{E:CU}{s:AE}
theorem eY(hE:KM E){v:AV}{q:Rat}{k:Nat}(hv:QI s v q k)(hk:1≤k)(hk':2 * (1+2 * (k+2))+1≤1000000000){K:AV→AE→Prop}(hK:∀s' w,Af s.next s s'→LR s.next s' w q (Bu [])→K w s'):WF E 23 [v] K s:=by
 have hv0:=hv
 obtain⟨x,a,n,c,b,m,d,rfl⟩:=hv.shape
 refine hE.go rX (by decide) rfl ?_
 obtain⟨n1,o1,g1,g2⟩:=EO s (BQ x (.slice a n c) (.slice b m d)) ZL
 simp only[wT,lJ,Xa,Xh,El,Xc,Aq,Qa,Qb,Qc,Qd,Qf,Qh,Qj,Ql,Qm,Qo,true_and,Qp,Qq,Qr,Qt,Qv,Rb,Rh,Rj]
 generalize newObj (newObj s (BQ x (.slice a n c) (.slice b m d))) ZL=s1 at *
 have l1:=AT (P:=Tryz.prog) (t:=26) Bt A9 g1 rfl
 simp only[lK,l1,La,Qb,Qc,Qd,Qf,Qh,Qj,Qk,Qm,Qo,true_and,Qr,Qs,Qt,Qv]
 refine qp hE.toGoodN (LI.const (hv0.old o1)) hk hk' fun s2 v2 mi T o2 r2 hT=>?_
 have hT0:T=[]:=by cases hT<;>rfl
 subst hT0
 have h1:=o1.1
 have h2:=o2.1
 simp only[Qd,Qo,true_and,Qr]
 refine UQ hE r2 h2 (by show 1+(0+1) * (k+2)≤1000000000;omega) (by decide) fun s3 w o3 r3=>?_
 obtain⟨x7,a7,n7,c7,b7,m7,d7,av7,nv7,cv7,ac7,nc7,cc7,rfl⟩:=r3.shape
 have g3:s3.heap.get (s.next+1)=some ZL:=by rw[o3.2 _ (by omega),o2.2 _ (by omega)];exact g2
 obtain⟨st4,ld4⟩:=CF (cs0:=[.bool false,.slice none 0 (some 0),.slice none 0 (some 0),.slice none 0 (some 0),.slice none 0 (some 0)]) rfl (x:=x7) (a:=a7) (n:=n7) (c:=c7) (b:=b7) (m:=m7) (d:=d7) (av:=av7) (nv:=nv7) (cv:=cv7) (ac:=ac7) (nc:=nc7) (cc:=cc7) g3
 simp only[st4,ld4,AQ,Xy,Za,Qd,Qj,Qm,Qo,true_and,Qr,Qs,Rk,Rn,Yc]
 have o12:=o1.trans (o2.mono h1)
 have o13:=o12.trans (o3.mono o12.1)
 exact hK _ _ (o13.set (by omega) _) ((r3.set (by omega) _).mono (by omega))
def vY(C:Rat)(vs:List Int)(cs:List Rat)(C':Rat)(T:List Co):Prop:=∃T0,Gs 1 vs cs [] T0∧(BM T0).Nodup ∧
  ((Bu T0=[]∧C'=((ES C.num:Int):Rat)∧T=[]) ∨
   (Bu T0≠[]∧C'=C * Cb false (Ku (Bu T0) 1) (GF (Bu T0) 0)∧Gs (Cb false (Ku (Bu T0) 1) (GF (Bu T0) 0)) ((Bu T0).map (·.1)) ((Bu T0).map (·.2)) [] T))
theorem hJ(hE:KM E){vl:AV}{C:Rat}{vs:List Int}{cs:List Rat}{kl M k1 kr:Nat}(hl:LI s vl C vs cs kl)(hkl:1≤kl)(hM:min cs.length vs.length=M)(hM6:M≤1000000)(hk1:k1=1+(M+1) * (kl+2))(hkr:kr=1+M * k1+k1)
    (hb:2 * (1+(M+2) * (k1+kr+1))+1≤1000000000) {K:AV→AE→Prop}
    (hK:∀s' w C' T,Af s.next s s'→LR s.next s' w C' (Bu T)→vY C vs cs C' T→QH C' (1+(M+1) * (k1+kr+1))→(∀t∈T,QH t.2.1 (1+(M+1) * (k1+kr+1)))→(BM T).Nodup→T.length≤M→K w s'):WF E 16 [vl] K s:=by
  have hl0:=hl
  obtain⟨x1,a1,n1,c1,b1,m1,d1,xv,nv,xcv,xc,nc,xcc,ea⟩:=hl.shape
  subst ea
  have hMk:k1+kr+1≤(M+1) * (k1+kr+1):=zM _ (by omega)
  have hM2:(M+2) * (k1+kr+1)=(M+1) * (k1+kr+1)+(k1+kr+1):=yN _ _
  have hMl:(M+2) * (kl+2)=(M+1) * (kl+2)+(kl+2):=yN _ _
  have hMlk:kl+2≤(M+1) * (kl+2):=zM _ (by omega)
  refine hE.go rU (by decide) rfl ?_
  obtain⟨nn1,o1,g1,g2⟩:=EO s (BL x1 (.slice a1 n1 c1) (.slice b1 m1 d1) (.slice xv nv xcv) (.slice xc nc xcc)) ZL
  simp only[wQ,kZ,Xa,Xh,El,Xc,Aq,Qa,Qb,Qc,Qd,Qf,Qh,Qj,Ql,Qm,Qo,true_and,Qp,Qq,Qr,Qt,Qv,Rb,Rc,Rh]
  generalize newObj (newObj s (BL x1 (.slice a1 n1 c1) (.slice b1 m1 d1) (.slice xv nv xcv) (.slice xc nc xcc))) ZL=s1 at *
  have h1:=o1.1
  have l1:=AT (P:=Tryz.prog) (t:=30) GJ Fk g1 rfl
  simp only[ke,l1,Qb,Qc,Qd,Qf,Qh,Qj,Qk,Qm,Qo,true_and,Qr,Qs,Qt,Qv]
  refine qp hE.toGoodN (hl0.old o1) hkl (by rw[hM];omega) fun s2 v2 mi T o2 r2 hT=>?_
  rw[hM,← hk1]at r2
  have h2:=o2.1
  have hTl:=hT.len
  rw[hM]at hTl
  simp only[zY,xu]at hTl
  have r2':=r2
  obtain⟨x,a,n,ca,d,m,cd,rfl,hP⟩:=r2
  obtain⟨n5,o5,g5⟩:=CC s2 ZP
  have st:=QT (cs0:=[.bool false,.slice none 0 (some 0),.slice none 0 (some 0),.map none]) rfl (x:=x) (a:=a) (n:=n) (c:=ca) (b:=d) (m:=m) (d:=cd) (mi:=mi) g5
  simp only[Iq,Xc,st,Xy,Za,Qd,Qm,Qo,true_and,Qp,Qq,Qr,Qs]
  generalize hs4:setObj (newObj s2 ZP) s2.next (BP x (.slice a n ca) (.slice d m cd) mi)=s4
  have o24:Af s2.next s2 s4:=by rw[← hs4];exact o5.set (xZ _) _
  have n6:s4.next=s2.next+1:=by rw[← hs4];exact n5
  have q4:s4.heap.get s2.next=some (BP x (.slice a n ca) (.slice d m cd) mi):=by rw[← hs4,Ww]
  simp only[kf,Qb,Qc,Qd,Qf,Qh,Qi,Qj,Qk,Qo,true_and,Qs,Qt,Qv]
  refine PN hE.toGoodN (n:=1) (by decide) fun s5 vd o45 rd=>?_
  have h45:=o45.1
  obtain⟨n7,o57,gu0,gd0⟩:=EO s5 (R 22 0 false [.slice none 0 (some 0)]) (R 22 0 false [.slice none 0 (some 0)])
  simp only[iI,Xc,Aq,Qd,Qm,Qo,true_and,Qp,Qq,Qr,Qs]
  generalize newObj (newObj s5 (R 22 0 false [.slice none 0 (some 0)])) (R 22 0 false [.slice none 0 (some 0)])=s7 at *
  obtain⟨ad,nd,cdd,evd⟩:=rd.n32.shape
  have st8:=Bn (P:=Tryz.prog) (t:=22) (o:=0) (v:=.slice none 0 (some 0)) P1 gu0 (by simp) rfl
  generalize hs8:setObj s7 s5.next _=s8 at st8
  have n8:s8.next=s7.next:=by rw[← hs8];rfl
  have gu8:s8.heap.get s5.next=some (R 22 0 false [.slice none 0 (some 0)]):=by rw[← hs8,Ww];rfl
  have f8:∀j,j≠s5.next→s8.heap.get j=s7.heap.get j:=fun j hj=>by rw[← hs8,Wx _ hj]
  have st9:=Bn (P:=Tryz.prog) (t:=22) (o:=0) (v:=vd) P1 ((f8 (s5.next+1) (by omega)).trans gd0) (by simp) (by rw[evd];rfl)
  generalize hs9:setObj s8 (s5.next+1) _=s9 at st9
  have n9:s9.next=s8.next:=by rw[← hs9];rfl
  have gd9:s9.heap.get (s5.next+1)=some (R 22 0 false [vd]):=by rw[← hs9,Ww];rfl
  have f9:∀j,j≠s5.next+1→s9.heap.get j=s8.heap.get j:=fun j hj=>by rw[← hs9,Wx _ hj]
  have gu9:=(f9 s5.next (by omega)).trans gu8
  have o59:Af s5.next s5 s9:=⟨by omega,fun j hj=>by rw[f9 j (by omega),f8 j (by omega),o57.2 j hj]⟩
  have o29:Af s2.next s2 s9:=(o24.trans (o45.mono o24.1)).trans (o59.mono (by omega))
  have q9:=(o59.2 s2.next (by omega)).trans ((o45.2 s2.next (by omega)).trans q4)
  have l9:=AT (P:=Tryz.prog) (t:=56) QE Kt q9 rfl
  simp only[st8,st9,kg,l9,Xy,Za,Qb,Qc,Qd,Qf,Qh,Qj,Qk,Qm,Qo,true_and,Qr,Qs,Qt,Qv]
  refine YP hE.toGoodN fun s10 nn10 o910 g10=>?_
  simp only[Qd,Qo,true_and,Qp,Qq]
  refine WC.range rfl ?_
  show WF E 77 [.yield (s10.next+1),.ptr (some (s9.next,0))] _ (newObj (newObj s10 .mark) (.loop (IT _ s.next (s.next+1) s2.next s5.next (s5.next+1) _ _ _ _ _ _ s10.next)))
  generalize hlo:IT _ s.next (s.next+1) s2.next s5.next (s5.next+1) _ _ _ _ _ _ s10.next=lo
  have hm1:(newObj s10 .mark).next=s10.next+1:=rfl
  generalize hs11:newObj (newObj s10 .mark) (.loop lo)=s11
  have n11:s11.next=s10.next+2:=by rw[← hs11];rfl
  have f11:∀j,j<s10.next→s11.heap.get j=s10.heap.get j:=fun j hj=>by rw[← hs11,AW,if_neg (by omega),AW,if_neg (by omega)]
  have hmk11:s11.heap.get s10.next=some .mark:=by rw[← hs11,AW,if_neg (by omega),AW,if_pos rfl]
  have hlp11:Bb s11 (s10.next+1)=some lo:=by
    unfold Bb
    rw[← hs11,AW,if_pos hm1.symm]
  have o1011:Af s10.next s10 s11:=⟨by omega,f11⟩
  have o911:Af s9.next s9 s11:=o910.trans (o1011.mono o910.1)
  have o211:Af s2.next s2 s11:=o29.trans (o911.mono o29.1)
  have hrd11:NR s2.next s11 vd (AJ 1):=((rd.old o59).old o911).mono (by omega)
  have hMk1:M * k1≤(M+1) * (k1+kr+1):=by
    have:M * k1≤kr:=by omega
    omega
  refine VC hE (sA:=s2) (pb:=s9.next) (l:=s10.next+1) hP.map (by omega) (by omega) o211 ((f11 _ (by omega)).trans g10) (by omega) (O0:=[s5.next,s5.next+1,s10.next+1]) (by simp;omega) (fun j hj=>by simp at hj;omega)
    (tq lo s5.next (s5.next+1) (s10.next+1) k1 s2.next) (fun done O S S' h o=>h.stab (by omega) (by omega) o) (fun done O S h j hj=>by have h1:=h.ll;rw[h.o]at hj;simp at hj;omega) (fun done n' q vq O S K2 hI hoS hq hmem hdl hK2=>?_)
    ⟨hlp11,by omega,rfl,⟨_,(o911.2 s5.next (by omega)).trans gu9,by show NR _ _ _ (AJ 0);rw[A8];exact NR.nil _ _,fun _=>rfl⟩,⟨vd,(o911.2 (s5.next+1) (by omega)).trans gd9,hrd11⟩,yt BO,⟨Nat.one_pos,by show 1<LB ^ (1+0 * k1);rw[yo];decide⟩,fun h=>absurd rfl h⟩ fun v S O hoS hnS hfS hI=>?_
  · subst hlo
    obtain⟨e1,e2,_⟩:=(hP.map.old hoS).ent _ hmem
    have hS:=hoS.1
    have hdk:(done.length+2) * k1≤(M+2) * (k1+kr+1):=yh (by omega) (by omega)
    exact gy hE.toGoodN (by omega) (by omega) (by omega) hS (by omega) hI (e1.mono (xg _)) hq e2 hK2
  obtain⟨hlp,hll,hO,⟨vu,gu,ru,zu⟩,⟨vd',gd,rd'⟩,hu,⟨hd0,hd⟩,hz⟩:=hI
  refine⟨lo,hlp,by rw[← hlo];rfl,?_⟩
  have hpd:lo.pending=none:=by rw[← hlo];rfl
  rw[hpd]
  generalize hs12:setObj S (s10.next+1) _=s12
  have n12:s12.next=S.next:=by rw[← hs12];rfl
  have f12:∀j,j≠s10.next+1→s12.heap.get j=S.heap.get j:=fun j hj=>by rw[← hs12,Wx _ hj]
  have hSn:=hoS.1
  have o212:Af s2.next s2 s12:=by rw[← hs12];exact hoS.set (by omega) _
  have gu12:=(f12 s5.next (by omega)).trans gu
  have gd12:=(f12 (s5.next+1) (by omega)).trans gd
  have hnl:∀ {j},U8 S j→j≠s10.next+1:=fun hj=>by
    rintro rfl
    obtain⟨r,h1,_⟩:=hj
    have:=Dt hlp
    rw[this]at h1;cases h1
  have ru12:NR s2.next s12 vu (AJ (GF (Bu T) 0)):=ru.keepU (fun e=>zu (by
    rcases yX (GF (Bu T) 0)with h | h
    · exact h
    · exact absurd e (Br (by omega)))) (by omega) fun j hj hu'=>f12 j (hnl hu')
  have rd12:NR s2.next s12 vd' (AJ (Ku (Bu T) 1)):=rd'.keepU (fun e=>absurd e (Br (by omega))) (by omega) fun j hj hu'=>f12 j (hnl hu')
  have hmk12:s12.heap.get s10.next=some .mark:=by rw[f12 _ (by omega),hfS _ (by omega) (by simp;omega)];exact hmk11
  have gp12:s12.heap.get s2.next=some (BP x (.slice a n ca) (.slice d m cd) mi):=by
    rw[f12 _ (by omega),hfS _ (by omega) (by simp;omega),f11 _ (by omega),o910.2 _ (by omega)];exact q9
  have gz12:s12.heap.get (s.next+1)=some ZL:=by
    rw[o212.2 _ (by omega),o2.2 _ (by omega)];exact g2
  have o02:Af s.next s s2:=o1.trans (o2.mono h1)
  have o012:Af s.next s s12:=o02.trans (o212.mono o02.1)
  obtain⟨au,capu,evu,_,_⟩:=ru12.n32
  obtain⟨ad',capd,evd',_,_⟩:=rd12.n32
  have lu:=AI (P:=Tryz.prog) (t:=22) (o:=0) CA gu12 rfl
  have ldn:=AI (P:=Tryz.prog) (t:=22) (o:=0) CA gd12 rfl
  have hcl:=eS T
  by_cases hc:Bu T=[]
  · have hU0 : GF  (Bu   T) 0 = 0 := by rw [hc]; rfl
    have hvu:=zu hU0
    subst hvu
    have hlen0:(AJ (GF (Bu T) 0)).length=0:=by rw[hU0,A8];rfl
    have lC:AC Tryz.prog s12 26 (.ptr (some (s2.next,0+0)))=some (.agg [.bool x,.slice a n ca,.slice d m cd]):=Av (o:=0) (n:=3) Bt A9 gp12 (by simp)
    simp only[KO,bN,lu,AH Tryz.underlying22,Wc,show decide (((0:Nat):Int)=0)=true from rfl,bL,lC,PI,Qb,Qc,Qd,Qf,Qh,Qi,Qj,Qk,Qm,Qo,true_and,Qp,Qq,Qr,Qs,Qt,Qv,Qz,Rb,Re,Wc]
    have hCQ:QI s12 (.agg [.bool x,.slice a n ca,.slice d m cd]) C k1:=(hP.cq.old o212).qi hP.ch
    refine SU hE.toGoodN hCQ (by omega) fun s13 o13=>?_
    simp only[Qd,Qo,true_and,Qr]
    have hsg:ES C.num=0∨ES C.num=1∨ES C.num=-1:=by
      rcases Gc C.num with⟨_,h⟩ | ⟨_,h⟩ | ⟨_,h⟩
      · exact .inr (.inr h)
      · exact .inl h
      · exact .inr (.inl h)
    refine JL hE.toGoodN hsg fun s14 v14 o14 r14=>?_
    have hsq:QH ((ES C.num:Int):Rat) 1:=by
      rcases hsg with h | h | h<;>rw[h]<;>exact⟨by decide,by decide⟩
    simp only[Qd,Qo,true_and,Qr]
    refine eY hE (r14.qi hsq) (by decide) (by decide) fun s15 w o15 r15=>?_
    have h13:=o13.1
    have h14:=o14.1
    have h15:=o15.1
    obtain⟨x7,a7,n7',c7,b7,m7,d7,av7,nv7,cv7,ac7,nc7,cc7,rfl⟩:=r15.shape
    have f1215:∀j,j<s12.next→s15.heap.get j=s12.heap.get j:=fun j hj=>by rw[o15.2 j (by omega),o14.2 j (by omega),o13.2 j hj]
    have gz15:s15.heap.get (s.next+1)=some ZL:=(f1215 _ (by omega)).trans gz12
    obtain⟨st16,_⟩:=CF (cs0:=[.bool false,.slice none 0 (some 0),.slice none 0 (some 0),.slice none 0 (some 0),.slice none 0 (some 0)]) rfl (x:=x7) (a:=a7) (n:=n7') (c:=c7) (b:=b7) (m:=m7) (d:=d7) (av:=av7) (nv:=nv7) (cv:=cv7) (ac:=ac7) (nc:=nc7) (cc:=cc7) gz15
    generalize hs16:setObj s15 (s.next+1) (BL x7 (.slice a7 n7' c7) (.slice b7 m7 d7) (.slice av7 nv7 cv7) (.slice ac7 nc7 cc7))=s16 at st16
    have f16:∀j,j≠s.next+1→s16.heap.get j=s15.heap.get j:=fun j hj=>by rw[← hs16,Wx _ hj]
    have g16:s16.heap.get (s.next+1)=some (BL x7 (.slice a7 n7' c7) (.slice b7 m7 d7) (.slice av7 nv7 cv7) (.slice ac7 nc7 cc7)):=by rw[← hs16,Ww]
    have n16:s16.next=s15.next:=by rw[← hs16];rfl
    obtain⟨s17,u1,u2,u3⟩:=FF [s10.next] s16 (by simp) (fun m h=>by rw[A0H.1 h,f16 _ (by omega),f1215 _ (by omega)];exact hmk12)
    have u3':∀j,j≠s10.next→s17.heap.get j=s16.heap.get j:=fun j hj=>u3 j (by simpa using hj)
    have l17:=AT (P:=Tryz.prog) (t:=30) GJ Fk ((u3' (s.next+1) (by omega)).trans g16) rfl
    simp only[st16,u1,l17,AQ,Xy,Za,Qd,Qj,Qm,Qo,true_and,Qr,Qs,Rk,Rn,Yc]
    have r17:LR s14.next s17 (.agg [.bool x7,.slice a7 n7' c7,.slice b7 m7 d7,.slice av7 nv7 cv7,.slice ac7 nc7 cc7]) ((ES C.num:Int):Rat) (Bu []):=by
      have r16:=r15.set (show s.next+1<s14.next by omega) (BL x7 (.slice a7 n7' c7) (.slice b7 m7 d7) (.slice av7 nv7 cv7) (.slice ac7 nc7 cc7))
      rw[hs16]at r16
      exact r16.keepB (by omega) fun j hj _=>u3' j (by omega)
    exact hK s17 _ _ [] ⟨by omega,fun j hj=>by rw[u3' j (by omega),f16 j (by omega),f1215 j (by omega),o012.2 j hj]⟩ (r17.mono (by omega)) ⟨T,hT,hP.map.nd,.inl ⟨hc,rfl,rfl⟩⟩ (hsq.le (by omega)) (fun t ht=>by cases ht) (by simp[BM]) (xg _)
  · have hU0 := hz hc
    have hlen0:decide (((AJ (GF (Bu T) 0)).length:Int)=0)=false:=decide_eq_false (by
      have:=List.length_pos_iff.2 (Br (show GF (Bu T) 0≠0 by omega))
      omega)
    subst evu;subst evd'
    have l12:=AT (P:=Tryz.prog) (t:=56) QE Kt gp12 rfl
    simp only[KO,bN,lu,AH Tryz.underlying22,Wc,hlen0,bM,ldn,l12,Gy,Kx,Qb,Qc,Qd,Qf,Qh,Qi,Qj,Qk,Qm,Qo,true_and,Qp,Qq,Qr,Qs,Qt,Qv,Ra,Rb,Re,Wc]
    have hPV12:PV s1.next s12 (.agg [.bool x,.slice a n ca,.slice d m cd,.map (some mi)]) mi C T k1:=⟨_,_,_,_,_,_,_,rfl,hP.old o212⟩
    refine UQ hE hPV12 (by omega) (by omega) (by omega) fun s13 w o13 r13=>?_
    have h13:=o13.1
    have lu13:=AI (P:=Tryz.prog) (t:=22) (o:=0) CA ((o13.2 s5.next (by omega)).trans gu12) rfl
    have ld13:=AI (P:=Tryz.prog) (t:=22) (o:=0) CA ((o13.2 (s5.next+1) (by omega)).trans gd12) rfl
    refine⟨⟨As (by simp only[Qj,Qk,Qr,Qs];exact lu13) (by simp only[Qk,Qr,Qs];exact BJ _ _ _),As (by simp only[Qj,Qk,Qr,Qs];exact ld13) (by simp only[Qk,Qr,Qs];exact BJ _ _ _),trivial⟩,?_⟩
    have hTk:∀p∈Bu T,QH p.2 k1:=Vj (by omega) fun t ht=>(hP.map.ent t ht).2.1
    have hwL:=r13.li hP.ch hTk
    have lenu:=Ai hu
    have lend:=Ai hd
    have hdk:(Bu T).length * k1≤M * k1:=yA _ (by omega)
    have hr:QI s13 (.agg [.bool false,.slice ad' (AJ (Ku (Bu T) 1)).length capd,.slice au (AJ (GF (Bu T) 0)).length capu]) (Cb false (Ku (Bu T) 1) (GF (Bu T) 0)) kr:=
      ⟨false,_,_,AJ (Ku (Bu T) 1),AJ (GF (Bu T) 0),rfl,(rd12.old o13).n32,(ru12.old o13).n32,AK _,AK _,by omega,by omega,by rw[AR,AR]⟩
    have hmm:=eT T
    have hm2:(min ((Bu T).map (·.2)).length ((Bu T).map (·.1)).length+2) * (k1+kr+1)≤(M+2) * (k1+kr+1):=yA _ (by omega)
    have hm1':(min ((Bu T).map (·.2)).length ((Bu T).map (·.1)).length+1) * (k1+kr+1)≤(M+1) * (k1+kr+1):=yA _ (by omega)
    simp only[Qr,Qs]
    refine Xx hE hwL hr (by omega) (by omega) (by omega) (by omega) fun s15 w15 T' o15 r15 t1 hc15 hT15 hnd15=>?_
    have h15:=o15.1
    have hT'l:=t1.len
    simp only[zY,xu]at hT'l
    obtain⟨x7,a7,n7',c7,b7,m7,d7,av7,nv7,cv7,ac7,nc7,cc7,rfl⟩:=r15.shape
    have f1215:∀j,j<s12.next→s15.heap.get j=s12.heap.get j:=fun j hj=>by rw[o15.2 j (by omega),o13.2 j hj]
    have gz15:s15.heap.get (s.next+1)=some ZL:=(f1215 _ (by omega)).trans gz12
    obtain⟨st16,_⟩:=CF (cs0:=[.bool false,.slice none 0 (some 0),.slice none 0 (some 0),.slice none 0 (some 0),.slice none 0 (some 0)]) rfl (x:=x7) (a:=a7) (n:=n7') (c:=c7) (b:=b7) (m:=m7) (d:=d7) (av:=av7) (nv:=nv7) (cv:=cv7) (ac:=ac7) (nc:=nc7) (cc:=cc7) gz15
    generalize hs16:setObj s15 (s.next+1) (BL x7 (.slice a7 n7' c7) (.slice b7 m7 d7) (.slice av7 nv7 cv7) (.slice ac7 nc7 cc7))=s16 at st16
    have f16:∀j,j≠s.next+1→s16.heap.get j=s15.heap.get j:=fun j hj=>by rw[← hs16,Wx _ hj]
    have g16:s16.heap.get (s.next+1)=some (BL x7 (.slice a7 n7' c7) (.slice b7 m7 d7) (.slice av7 nv7 cv7) (.slice ac7 nc7 cc7)):=by rw[← hs16,Ww]
    have n16:s16.next=s15.next:=by rw[← hs16];rfl
    obtain⟨s17,u1,u2,u3⟩:=FF [s10.next] s16 (by simp) (fun m h=>by rw[A0H.1 h,f16 _ (by omega),f1215 _ (by omega)];exact hmk12)
    have u3':∀j,j≠s10.next→s17.heap.get j=s16.heap.get j:=fun j hj=>u3 j (by simpa using hj)
    have l17:=AT (P:=Tryz.prog) (t:=30) GJ Fk ((u3' (s.next+1) (by omega)).trans g16) rfl
    simp only[st16,u1,l17,AQ,Xy,Za,Qd,Qj,Qm,Qo,true_and,Qr,Qs,Rk,Rn,Yc]
    have r17:LR s13.next s17 (.agg [.bool x7,.slice a7 n7' c7,.slice b7 m7 d7,.slice av7 nv7 cv7,.slice ac7 nc7 cc7]) (C * Cb false (Ku (Bu T) 1) (GF (Bu T) 0)) (Bu T'):=by
      have r16:=r15.set (show s.next+1<s13.next by omega) (BL x7 (.slice a7 n7' c7) (.slice b7 m7 d7) (.slice av7 nv7 cv7) (.slice ac7 nc7 cc7))
      rw[hs16]at r16
      exact r16.keepB (by omega) fun j hj _=>u3' j (by omega)
    exact hK s17 _ _ T' ⟨by omega,fun j hj=>by rw[u3' j (by omega),f16 j (by omega),f1215 j (by omega),o012.2 j hj]⟩ (r17.mono (by omega)) ⟨T,hT,hP.map.nd,.inr ⟨hc,rfl,t1⟩⟩ (hc15.le (by omega)) (fun t ht=>(hT15 t ht).le (by omega)) hnd15 (by omega)
end
end
end Go.Proofs.YtjnkfbpadpmakaaGreatDoor.Am
set_option linter.unusedVariables false
set_option linter.unusedSimpArgs false
set_option maxRecDepth 100000
namespace Go.Proofs.YtjnkfbpadpmakaaGreatDoor.Am
open Go Go.Proofs
noncomputable section
def Z7:List AA:=[
 ⟨none,.p1 some,[(.const (.slice none 0 (some 0)))],(.set 1),[]⟩]
def Ou:List AA:=[
 ⟨none,.r (fun s l=>match l with | [x]=>A6 Tryz.prog s 124 x | _=>none),[.var 0],.push,[]⟩,
 ⟨none,.p2 (AL Tryz.prog .gtr 3),[(.loc 0),(.const (.int .i64 (0)))],.push,[]⟩,
 ⟨(some ((.loc 0),true)),.p1 some,[.var 0],.push,[]⟩,
 ⟨(some ((.loc 1),true)),.p1 some,[.var 0],.push,[]⟩,
 ⟨(some ((.loc 2),true)),.r (fun s l=>match l with | [x]=>A6 Tryz.prog s 124 x | _=>none),[.loc 0],.push,[]⟩,
 ⟨(some ((.loc 3),true)),.p2 (AL Tryz.prog .sub 3),[(.loc 0),(.const (.int .i64 (1)))],.push,[]⟩,
 ⟨(some ((.loc 4),true)),.p2 (AM Tryz.prog 124),[.loc 3,.loc 0],.push,[]⟩,
 ⟨(some ((.loc 5),true)),.r1 (fun s a=>AC Tryz.prog s 4 a),[.loc 0],.push,[]⟩,
 ⟨(some ((.loc 6),true)),.p1 (WT Tryz.prog Go.UnOp.not),[.loc 0],.push,[]⟩,
 ⟨none,.p Ru,[(.loc 7),(.loc 0),(.const (.bool false))],(.set 2),[]⟩]
def Z8:List AA:=[
 ⟨none,.p1 some,[.var 0],.push,[]⟩,
 ⟨none,.p1 some,[.var 0],.push,[]⟩,
 ⟨none,.r (fun s l=>match l with | [x]=>A6 Tryz.prog s 124 x | _=>none),[.loc 0],.push,[]⟩,
 ⟨none,.p2 (AL Tryz.prog .sub 3),[(.loc 0),(.const (.int .i64 (1)))],.push,[]⟩,
 ⟨none,.r (At Tryz.prog 124 false true false),[.loc 3,.loc 0],.push,[]⟩,
 ⟨none,.p1 some,[.loc 0],(.set 0),[]⟩]
def Jl:Aa:=(.seq (.seq (.ops Ou) (.cond (.var 2)
 .skip
 (.exit 0))) (.block 1 (.ops Z8)))
def Z9:List AA:=[
 ⟨none,.p1 some,[.var 0],(.set 1),[]⟩]
def uY:Ah:=⟨1,3,(.seq (.ops Z7) (.seq (.block 0 (.loop Jl)) (.seq (.ops Z9) .ret))),[((.var 1),none)]⟩
def Yv:List AA:=[
 ⟨none,.p1 some,[(.const (.slice none 0 (some 0)))],(.set 1),[]⟩]
def Yw:List AA:=[
 ⟨none,.p1 some,[(.const (.slice none 0 (some 0)))],(.set 2),[]⟩]
def Yx:List AA:=[
 ⟨none,.p1 some,[(.const (.int .i64 (0)))],(.set 3),[]⟩]
def TQ:List AA:=[
 ⟨none,.r (fun s l=>match l with | [x]=>A6 Tryz.prog s 22 x | _=>none),[.var 0],.push,[]⟩,
 ⟨none,.p2 (AL Tryz.prog .lss 3),[.var 3,.loc 0],(.set 5),[]⟩]
def Yy:List AA:=[
 ⟨none,.p1 some,[(.const (.int .i64 (0)))],(.set 4),[]⟩]
def TR:List AA:=[
 ⟨none,.p2 (AL Tryz.prog .lss 3),[(.var 4),(.const (.int .i64 (32)))],(.set 6),[]⟩]
def Yz:List AA:=[
 ⟨none,.p1 some,[.var 2],.push,[]⟩,
 ⟨none,.p2 (AM Tryz.prog 22),[.var 0,.var 3],.push,[]⟩,
 ⟨none,.r1 (fun s a=>AC Tryz.prog s 76 a),[.loc 0],.push,[]⟩,
 ⟨none,.p2 (AL Tryz.prog .shr 76),[.loc 0,.var 4],.push,[]⟩,
 ⟨none,.p2 (AL Tryz.prog .and 76),[(.loc 0),(.const (.int .u32 (1)))],.push,[]⟩,
 ⟨none,.p2 (AL Tryz.prog .eql 76),[(.loc 0),(.const (.int .u32 (1)))],.push,[]⟩,
 ⟨none,.mk (fun l=>(Ad Tryz.prog 124 1 (zipIdx [0] l)).bind fun r=>some (r,.slice 1)),[.loc 0],.push,[]⟩,
 ⟨none,.e (fun s l=>Ar Tryz.prog s [124,124] l),[.loc 6,.loc 0],.push,[]⟩,
 ⟨none,.p1 some,[.loc 0],(.set 2),[]⟩]
def Y0:List AA:=[
 ⟨none,.p1 some,[.var 4],.push,[]⟩,
 ⟨none,.p2 (AL Tryz.prog .add 3),[(.loc 0),(.const (.int .i64 (1)))],.push,[]⟩,
 ⟨none,.p1 some,[.loc 0],(.set 4),[]⟩]
def Le:Aa:=(.seq (.seq (.ops TR) (.cond (.var 6)
 .skip
 (.exit 2))) (.seq (.block 3 (.ops Yz)) (.ops Y0)))
def Y1:List AA:=[
 ⟨none,.p1 some,[.var 3],.push,[]⟩,
 ⟨none,.p2 (AL Tryz.prog .add 3),[(.loc 0),(.const (.int .i64 (1)))],.push,[]⟩,
 ⟨none,.p1 some,[.loc 0],(.set 3),[]⟩]
def Iv:Aa:=(.seq (.seq (.ops TQ) (.cond (.var 5)
 .skip
 (.exit 0))) (.seq (.block 1 (.seq (.ops Yy) (.block 2 (.loop Le)))) (.ops Y1)))
def VR:List AA:=[
 ⟨none,.call 138,[.var 2],.push,[]⟩,
 ⟨none,.p1 some,[.loc 0],(.set 1),[]⟩]
def uF:Ah:=⟨1,7,(.seq (.ops Yv) (.seq (.ops Yw) (.seq (.seq (.ops Yx) (.block 0 (.loop Iv))) (.seq (.ops VR) .ret)))),[((.var 1),none)]⟩
def Yl:List AA:=[
 ⟨none,.p1 some,[(.const (.slice none 0 (some 0)))],(.set 1),[]⟩]
def Ym:List AA:=[
 ⟨none,.p1 some,[.var 0],.push,[]⟩,
 ⟨none,.call 138,[.loc 0],.push,[]⟩,
 ⟨none,.p1 some,[.loc 0],(.set 0),[]⟩]
def Yn:List AA:=[
 ⟨none,.p1 some,[(.const (.slice none 0 (some 0)))],(.set 2),[]⟩]
def Yo:List AA:=[
 ⟨none,.p1 some,[(.const (.int .i64 (0)))],(.set 3),[]⟩]
def Ol:List AA:=[
 ⟨none,.r (fun s l=>match l with | [x]=>A6 Tryz.prog s 124 x | _=>none),[.var 0],.push,[]⟩,
 ⟨none,.p2 (AL Tryz.prog .lss 3),[.var 3,.loc 0],(.set 4),[]⟩]
def TL:List AA:=[
 ⟨none,.p2 (AL Tryz.prog .rem 3),[(.var 3),(.const (.int .i64 (32)))],.push,[]⟩,
 ⟨none,.p2 (AL Tryz.prog .eql 3),[(.loc 0),(.const (.int .i64 (0)))],(.set 5),[]⟩]
def Yp:List AA:=[
 ⟨none,.p1 some,[.var 2],.push,[]⟩,
 ⟨none,.mk (fun l=>(Ad Tryz.prog 22 1 (zipIdx [0] l)).bind fun r=>some (r,.slice 1)),[(.const (.int .u32 (0)))],.push,[]⟩,
 ⟨none,.e (fun s l=>Ar Tryz.prog s [22,22] l),[.loc 1,.loc 0],.push,[]⟩,
 ⟨none,.p1 some,[.loc 0],(.set 2),[]⟩]
def Om:List AA:=[
 ⟨none,.p2 (AM Tryz.prog 124),[.var 0,.var 3],.push,[]⟩,
 ⟨none,.r1 (fun s a=>AC Tryz.prog s 4 a),[.loc 0],(.set 6),[]⟩]
def TM:List AA:=[
 ⟨none,.p2 (AL Tryz.prog .quo 3),[(.var 3),(.const (.int .i64 (32)))],.push,[]⟩,
 ⟨none,.p2 (AL Tryz.prog .quo 3),[(.var 3),(.const (.int .i64 (32)))],.push,[]⟩,
 ⟨none,.p2 (AM Tryz.prog 22),[.var 2,.loc 0],.push,[]⟩,
 ⟨none,.r1 (fun s a=>AC Tryz.prog s 76 a),[.loc 0],.push,[]⟩,
 ⟨none,.p2 (AL Tryz.prog .rem 3),[(.var 3),(.const (.int .i64 (32)))],.push,[]⟩,
 ⟨none,.p2 (AL Tryz.prog .shl 76),[(.const (.int .u32 (1))),(.loc 0)],.push,[]⟩,
 ⟨none,.p2 (AL Tryz.prog .or 76),[.loc 2,.loc 0],.push,[]⟩,
 ⟨none,.p2 (AM Tryz.prog 22),[.var 2,.loc 6],.push,[]⟩,
 ⟨none,.e (fun s=>Xy (fun a x=>Za (AS Tryz.prog s 76 a x))),[.loc 0,.loc 1],.push,[]⟩]
def On:List AA:=[
 ⟨none,.p1 some,[.var 3],.push,[]⟩,
 ⟨none,.p2 (AL Tryz.prog .add 3),[(.loc 0),(.const (.int .i64 (1)))],.push,[]⟩,
 ⟨none,.p1 some,[.loc 0],(.set 3),[]⟩]
def HY:Aa:=(.seq (.seq (.ops Ol) (.cond (.var 4)
 .skip
 (.exit 0))) (.seq (.block 1 (.seq (.seq (.ops TL) (.cond (.var 5)
 (.ops Yp)
 .skip)) (.seq (.ops Om) (.cond (.var 6)
 (.ops TM)
 .skip)))) (.ops On)))
def VH:List AA:=[
 ⟨none,.p1 some,[.var 2],(.set 1),[]⟩]
def uD:Ah:=⟨1,7,(.seq (.ops Yl) (.seq (.ops Ym) (.seq (.ops Yn) (.seq (.seq (.ops Yo) (.block 0 (.loop HY))) (.seq (.ops VH) .ret))))),[((.var 1),none)]⟩
def Tf:List AA:=[
 ⟨none,.p1 some,[(.const (.bool false))],(.set 2),[]⟩]
def Tg:List AA:=[
 ⟨none,.r (fun s l=>match l with | [x]=>A6 Tryz.prog s 124 x | _=>none),[.var 0],.push,[]⟩,
 ⟨none,.p2 (AL Tryz.prog .lss 3),[.var 1,.loc 0],.push,[]⟩,
 ⟨(some ((.loc 0),true)),.p1 some,[.var 0],.push,[]⟩,
 ⟨(some ((.loc 1),true)),.p1 some,[.var 1],.push,[]⟩,
 ⟨(some ((.loc 2),true)),.p2 (AM Tryz.prog 124),[.loc 1,.loc 0],.push,[]⟩,
 ⟨(some ((.loc 3),true)),.r1 (fun s a=>AC Tryz.prog s 4 a),[.loc 0],.push,[]⟩,
 ⟨none,.p Ru,[(.loc 4),(.loc 0),(.const (.bool false))],.push,[]⟩,
 ⟨none,.p1 some,[.loc 0],(.set 2),[]⟩]
def rK:Ah:=⟨2,3,(.seq (.ops Tf) (.seq (.ops Tg) .ret)),[((.var 2),none)]⟩
def ae:List AA:=[
 ⟨none,.p1 some,[(.const (.slice none 0 (some 0)))],(.set 2),[]⟩]
def af:List AA:=[
 ⟨none,.p1 some,[(.const (.slice none 0 (some 0)))],(.set 3),[]⟩]
def ah:List AA:=[
 ⟨none,.p1 some,[(.const (.bool false))],(.set 4),[]⟩]
def ai:List AA:=[
 ⟨none,.p1 some,[(.const (.int .i64 (0)))],(.set 5),[]⟩]
def Jm:List AA:=[
 ⟨none,.r (fun s l=>match l with | [x]=>A6 Tryz.prog s 124 x | _=>none),[.var 0],.push,[]⟩,
 ⟨none,.p2 (AL Tryz.prog .lss 3),[.var 5,.loc 0],.push,[]⟩,
 ⟨(some ((.loc 0),false)),.p1 some,[.var 5],.push,[]⟩,
 ⟨(some ((.loc 1),false)),.p1 some,[.var 1],.push,[]⟩,
 ⟨(some ((.loc 2),false)),.r (fun s l=>match l with | [x]=>A6 Tryz.prog s 124 x | _=>none),[.loc 0],.push,[]⟩,
 ⟨(some ((.loc 3),false)),.p2 (AL Tryz.prog .lss 3),[.loc 2,.loc 0],.push,[]⟩,
 ⟨none,.p Ru,[(.loc 4),(.const (.bool true)),(.loc 0)],.push,[]⟩,
 ⟨(some ((.loc 0),false)),.p1 some,[.var 4],.push,[]⟩,
 ⟨none,.p Ru,[(.loc 1),(.const (.bool true)),(.loc 0)],(.set 8),[]⟩]
def GN:List AA:=[
 ⟨none,.call 152,[.var 0,.var 5],.push,[]⟩,
 ⟨none,.call 152,[.var 1,.var 5],.push,[]⟩,
 ⟨none,.p1 some,[.loc 1],(.set 6),[]⟩,
 ⟨none,.p1 some,[.loc 0],(.set 7),[]⟩]
def GO:List AA:=[
 ⟨none,.p1 some,[.var 3],.push,[]⟩,
 ⟨none,.p2 (AL Tryz.prog .neq 4),[.var 6,.var 7],.push,[]⟩,
 ⟨none,.p2 (AL Tryz.prog .neq 4),[.loc 0,.var 4],.push,[]⟩,
 ⟨none,.mk (fun l=>(Ad Tryz.prog 124 1 (zipIdx [0] l)).bind fun r=>some (r,.slice 1)),[.loc 0],.push,[]⟩,
 ⟨none,.e (fun s l=>Ar Tryz.prog s [124,124] l),[.loc 3,.loc 0],.push,[]⟩,
 ⟨none,.p1 some,[.loc 0],(.set 3),[]⟩]
def GP:List AA:=[
 ⟨(some ((.var 6),true)),.p1 some,[.var 7],.push,[]⟩,
 ⟨none,.p Ru,[(.var 6),(.loc 0),(.const (.bool false))],.push,[]⟩,
 ⟨(some ((.loc 0),false)),.p1 some,[.var 4],.push,[]⟩,
 ⟨(some ((.loc 1),false)),.p1 some,[.loc 0],.push,[]⟩,
 ⟨(some ((.loc 0),true)),.p1 some,[.var 6],.push,[]⟩,
 ⟨(some ((.loc 1),true)),.p1 some,[.loc 0],.push,[]⟩,
 ⟨(some ((.loc 0),false)),.p1 some,[.var 7],.push,[]⟩,
 ⟨(some ((.loc 3),true)),.p Ru,[(.loc 1),(.const (.bool true)),(.loc 0)],.push,[]⟩,
 ⟨(some ((.loc 6),false)),.p Ru,[(.loc 4),(.loc 0),(.const (.bool false))],.push,[]⟩,
 ⟨none,.p Ru,[(.loc 7),(.const (.bool true)),(.loc 0)],.push,[]⟩,
 ⟨none,.p1 some,[.loc 0],(.set 4),[]⟩]
def GQ:List AA:=[
 ⟨none,.p1 some,[.var 5],.push,[]⟩,
 ⟨none,.p2 (AL Tryz.prog .add 3),[(.loc 0),(.const (.int .i64 (1)))],.push,[]⟩,
 ⟨none,.p1 some,[.loc 0],(.set 5),[]⟩]
def GM:Aa:=(.seq (.seq (.ops Jm) (.cond (.var 8)
 .skip
 (.exit 0))) (.seq (.block 1 (.seq (.ops GN) (.seq (.ops GO) (.ops GP)))) (.ops GQ)))
def VW:List AA:=[
 ⟨none,.p1 some,[.var 3],(.set 2),[]⟩]
def uc:Ah:=⟨2,9,(.seq (.ops ae) (.seq (.ops af) (.seq (.ops ah) (.seq (.seq (.ops ai) (.block 0 (.loop GM))) (.seq (.ops VW) .ret))))),[((.var 2),none)]⟩
def aC:List AA:=[
 ⟨none,.p1 some,[(.const (.bool false))],(.set 2),[]⟩]
def aE:List AA:=[
 ⟨none,.p1 some,[.var 0],.push,[]⟩,
 ⟨none,.call 138,[.loc 0],.push,[]⟩,
 ⟨none,.p1 some,[.loc 0],(.set 0),[]⟩]
def aF:List AA:=[
 ⟨none,.p1 some,[.var 1],.push,[]⟩,
 ⟨none,.call 138,[.loc 0],.push,[]⟩,
 ⟨none,.p1 some,[.loc 0],(.set 1),[]⟩]
def Ta:List AA:=[
 ⟨none,.r (fun s l=>match l with | [x]=>A6 Tryz.prog s 124 x | _=>none),[.var 0],.push,[]⟩,
 ⟨none,.r (fun s l=>match l with | [x]=>A6 Tryz.prog s 124 x | _=>none),[.var 1],.push,[]⟩,
 ⟨none,.p2 (AL Tryz.prog .neq 3),[.loc 1,.loc 0],(.set 4),[]⟩]
def aG:List AA:=[
 ⟨none,.r (fun s l=>match l with | [x]=>A6 Tryz.prog s 124 x | _=>none),[.var 0],.push,[]⟩,
 ⟨none,.r (fun s l=>match l with | [x]=>A6 Tryz.prog s 124 x | _=>none),[.var 1],.push,[]⟩,
 ⟨none,.p2 (AL Tryz.prog .lss 3),[.loc 1,.loc 0],.push,[]⟩,
 ⟨none,.p1 some,[.loc 0],(.set 2),[]⟩]
def aH:List AA:=[
 ⟨none,.r (fun s l=>match l with | [x]=>A6 Tryz.prog s 124 x | _=>none),[.var 0],.push,[]⟩,
 ⟨none,.p2 (AL Tryz.prog .sub 3),[(.loc 0),(.const (.int .i64 (1)))],.push,[]⟩,
 ⟨none,.p1 some,[.loc 0],(.set 3),[]⟩]
def Ov:List AA:=[
 ⟨none,.p2 (AL Tryz.prog .geq 3),[(.var 3),(.const (.int .i64 (0)))],(.set 5),[]⟩]
def Tb:List AA:=[
 ⟨none,.p2 (AM Tryz.prog 124),[.var 0,.var 3],.push,[]⟩,
 ⟨none,.r1 (fun s a=>AC Tryz.prog s 4 a),[.loc 0],.push,[]⟩,
 ⟨none,.p2 (AM Tryz.prog 124),[.var 1,.var 3],.push,[]⟩,
 ⟨none,.r1 (fun s a=>AC Tryz.prog s 4 a),[.loc 0],.push,[]⟩,
 ⟨none,.p2 (AL Tryz.prog .neq 4),[.loc 2,.loc 0],(.set 6),[]⟩]
def aI:List AA:=[
 ⟨none,.p2 (AM Tryz.prog 124),[.var 1,.var 3],.push,[]⟩,
 ⟨none,.r1 (fun s a=>AC Tryz.prog s 4 a),[.loc 0],.push,[]⟩,
 ⟨none,.p1 some,[.loc 0],(.set 2),[]⟩]
def aJ:List AA:=[
 ⟨none,.p1 some,[.var 3],.push,[]⟩,
 ⟨none,.p2 (AL Tryz.prog .sub 3),[(.loc 0),(.const (.int .i64 (1)))],.push,[]⟩,
 ⟨none,.p1 some,[.loc 0],(.set 3),[]⟩]
def HZ:Aa:=(.seq (.seq (.ops Ov) (.cond (.var 5)
 .skip
 (.exit 0))) (.seq (.block 1 (.seq (.ops Tb) (.cond (.var 6)
 (.seq (.ops aI) .ret)
 .skip))) (.ops aJ)))
def VU:List AA:=[
 ⟨none,.p1 some,[(.const (.bool false))],(.set 2),[]⟩]
def uZ:Ah:=⟨2,7,(.seq (.ops aC) (.seq (.ops aE) (.seq (.ops aF) (.seq (.seq (.ops Ta) (.cond (.var 4)
 (.seq (.ops aG) .ret)
 .skip)) (.seq (.seq (.ops aH) (.block 0 (.loop HZ))) (.seq (.ops VU) .ret)))))),[((.var 2),none)]⟩
def aK:List AA:=[
 ⟨none,.p1 some,[(.const (.slice none 0 (some 0)))],(.set 2),[]⟩]
def aL:List AA:=[
 ⟨none,.p1 some,[(.const (.slice none 0 (some 0)))],(.set 3),[]⟩]
def aM:List AA:=[
 ⟨none,.p1 some,[(.const (.bool false))],(.set 4),[]⟩]
def aN:List AA:=[
 ⟨none,.p1 some,[(.const (.int .i64 (0)))],(.set 5),[]⟩]
def Tc:List AA:=[
 ⟨none,.r (fun s l=>match l with | [x]=>A6 Tryz.prog s 124 x | _=>none),[.var 0],.push,[]⟩,
 ⟨none,.p2 (AL Tryz.prog .lss 3),[.var 5,.loc 0],(.set 8),[]⟩]
def aO:List AA:=[
 ⟨none,.p2 (AM Tryz.prog 124),[.var 0,.var 5],.push,[]⟩,
 ⟨none,.r1 (fun s a=>AC Tryz.prog s 4 a),[.loc 0],.push,[]⟩,
 ⟨none,.call 152,[.var 1,.var 5],.push,[⟨none,.r1 (fun s a=>AC Tryz.prog s 4 a),[.loc 2],(.loc 1)⟩]⟩,
 ⟨none,.p1 some,[.loc 1],(.set 6),[]⟩,
 ⟨none,.p1 some,[.loc 0],(.set 7),[]⟩]
def aP:List AA:=[
 ⟨none,.p1 some,[.var 3],.push,[]⟩,
 ⟨none,.p2 (AL Tryz.prog .neq 4),[.var 6,.var 7],.push,[]⟩,
 ⟨none,.p2 (AL Tryz.prog .neq 4),[.loc 0,.var 4],.push,[]⟩,
 ⟨none,.mk (fun l=>(Ad Tryz.prog 124 1 (zipIdx [0] l)).bind fun r=>some (r,.slice 1)),[.loc 0],.push,[]⟩,
 ⟨none,.e (fun s l=>Ar Tryz.prog s [124,124] l),[.loc 3,.loc 0],.push,[]⟩,
 ⟨none,.p1 some,[.loc 0],(.set 3),[]⟩]
def aQ:List AA:=[
 ⟨none,.p1 (WT Tryz.prog Go.UnOp.not),[.var 6],.push,[]⟩,
 ⟨(some ((.loc 0),true)),.p1 some,[.var 7],.push,[]⟩,
 ⟨(some ((.loc 1),true)),.p1 some,[.loc 0],.push,[]⟩,
 ⟨(some ((.loc 0),false)),.p1 some,[.var 4],.push,[]⟩,
 ⟨(some ((.loc 3),true)),.p Ru,[(.loc 1),(.const (.bool true)),(.loc 0)],.push,[]⟩,
 ⟨none,.p Ru,[(.loc 4),(.loc 0),(.const (.bool false))],.push,[]⟩,
 ⟨(some ((.loc 0),false)),.p1 some,[.var 6],.push,[]⟩,
 ⟨(some ((.loc 1),false)),.p1 some,[.loc 0],.push,[]⟩,
 ⟨(some ((.loc 0),true)),.p1 some,[.var 7],.push,[]⟩,
 ⟨(some ((.loc 3),false)),.p Ru,[(.loc 1),(.loc 0),(.const (.bool false))],.push,[]⟩,
 ⟨(some ((.loc 4),false)),.p1 some,[.loc 0],.push,[]⟩,
 ⟨(some ((.loc 0),true)),.p1 some,[.var 4],.push,[]⟩,
 ⟨(some ((.loc 6),false)),.p Ru,[(.loc 1),(.loc 0),(.const (.bool false))],.push,[]⟩,
 ⟨none,.p Ru,[(.loc 7),(.const (.bool true)),(.loc 0)],.push,[]⟩,
 ⟨none,.p1 some,[.loc 0],(.set 4),[]⟩]
def aR:List AA:=[
 ⟨none,.p1 some,[.var 5],.push,[]⟩,
 ⟨none,.p2 (AL Tryz.prog .add 3),[(.loc 0),(.const (.int .i64 (1)))],.push,[]⟩,
 ⟨none,.p1 some,[.loc 0],(.set 5),[]⟩]
def Lh:Aa:=(.seq (.seq (.ops Tc) (.cond (.var 8)
 .skip
 (.exit 0))) (.seq (.block 1 (.seq (.ops aO) (.seq (.ops aP) (.ops aQ)))) (.ops aR)))
def VV:List AA:=[
 ⟨none,.call 138,[.var 3],.push,[]⟩,
 ⟨none,.p1 some,[.loc 0],(.set 2),[]⟩]
def ua:Ah:=⟨2,9,(.seq (.ops aK) (.seq (.ops aL) (.seq (.ops aM) (.seq (.seq (.ops aN) (.block 0 (.loop Lh))) (.seq (.ops VV) .ret))))),[((.var 2),none)]⟩
def Yq:List AA:=[
 ⟨none,.p1 some,[(.const (.slice none 0 (some 0)))],(.set 2),[]⟩]
def Yr:List AA:=[
 ⟨none,.r (fun s l=>match l with | [x]=>A6 Tryz.prog s 124 x | _=>none),[.var 0],.push,[]⟩,
 ⟨none,.r (fun s l=>match l with | [x]=>A6 Tryz.prog s 124 x | _=>none),[.var 1],.push,[]⟩,
 ⟨none,.p2 (AL Tryz.prog .add 3),[.loc 1,.loc 0],.push,[]⟩,
 ⟨none,.mk (Xy (BV Tryz.prog 27)),[.loc 0,.loc 0],.push,[]⟩,
 ⟨none,.p1 some,[.loc 0],(.set 3),[]⟩]
def Ys:List AA:=[
 ⟨none,.p1 some,[(.const (.int .i64 (0)))],(.set 4),[]⟩]
def TN:List AA:=[
 ⟨none,.r (fun s l=>match l with | [x]=>A6 Tryz.prog s 124 x | _=>none),[.var 0],.push,[]⟩,
 ⟨none,.p2 (AL Tryz.prog .lss 3),[.var 4,.loc 0],(.set 9),[]⟩]
def Yt:List AA:=[
 ⟨none,.p1 some,[(.const (.int .i64 (0)))],(.set 5),[]⟩]
def Jj:List AA:=[
 ⟨none,.p2 (AM Tryz.prog 124),[.var 0,.var 4],.push,[]⟩,
 ⟨none,.r1 (fun s a=>AC Tryz.prog s 4 a),[.loc 0],.push,[]⟩,
 ⟨(some ((.loc 0),true)),.p1 some,[.var 5],.push,[]⟩,
 ⟨(some ((.loc 1),true)),.p1 some,[.var 1],.push,[]⟩,
 ⟨(some ((.loc 2),true)),.r (fun s l=>match l with | [x]=>A6 Tryz.prog s 124 x | _=>none),[.loc 0],.push,[]⟩,
 ⟨(some ((.loc 3),true)),.p2 (AL Tryz.prog .lss 3),[.loc 2,.loc 0],.push,[]⟩,
 ⟨none,.p Ru,[(.loc 4),(.loc 0),(.const (.bool false))],(.set 10),[]⟩]
def TO:List AA:=[
 ⟨none,.p2 (AM Tryz.prog 124),[.var 1,.var 5],.push,[]⟩,
 ⟨none,.r1 (fun s a=>AC Tryz.prog s 4 a),[.loc 0],(.set 11),[]⟩]
def Yu:List AA:=[
 ⟨none,.p2 (AL Tryz.prog .add 3),[.var 4,.var 5],.push,[]⟩,
 ⟨none,.p2 (AM Tryz.prog 27),[.var 3,.loc 0],.push,[]⟩,
 ⟨none,.r1 (fun s a=>AC Tryz.prog s 3 a),[.loc 0],.push,[]⟩,
 ⟨none,.p2 (AL Tryz.prog .add 3),[(.loc 0),(.const (.int .i64 (1)))],.push,[]⟩,
 ⟨none,.p2 (AM Tryz.prog 27),[.var 3,.loc 3],.push,[]⟩,
 ⟨none,.e (fun s=>Xy (fun a x=>Za (AS Tryz.prog s 3 a x))),[.loc 0,.loc 1],.push,[]⟩]
def TP:List AA:=[
 ⟨none,.p1 some,[.var 5],.push,[]⟩,
 ⟨none,.p2 (AL Tryz.prog .add 3),[(.loc 0),(.const (.int .i64 (1)))],.push,[]⟩,
 ⟨none,.p1 some,[.loc 0],(.set 5),[]⟩]
def Gz:Aa:=(.seq (.seq (.ops Jj) (.cond (.var 10)
 .skip
 (.exit 2))) (.seq (.block 3 (.seq (.ops TO) (.cond (.var 11)
 (.ops Yu)
 .skip))) (.ops TP)))
def VI:List AA:=[
 ⟨none,.p1 some,[.var 4],.push,[]⟩,
 ⟨none,.p2 (AL Tryz.prog .add 3),[(.loc 0),(.const (.int .i64 (1)))],.push,[]⟩,
 ⟨none,.p1 some,[.loc 0],(.set 4),[]⟩]
def It:Aa:=(.seq (.seq (.ops TN) (.cond (.var 9)
 .skip
 (.exit 0))) (.seq (.block 1 (.seq (.ops Yt) (.block 2 (.loop Gz)))) (.ops VI)))
def VJ:List AA:=[
 ⟨none,.p1 some,[(.const (.slice none 0 (some 0)))],(.set 6),[]⟩]
def VK:List AA:=[
 ⟨none,.p1 some,[(.const (.int .i64 (0)))],(.set 7),[]⟩]
def VL:List AA:=[
 ⟨none,.p1 some,[(.const (.int .i64 (0)))],(.set 8),[]⟩]
def Oo:List AA:=[
 ⟨none,.r (fun s l=>match l with | [x]=>A6 Tryz.prog s 27 x | _=>none),[.var 3],.push,[]⟩,
 ⟨none,.p2 (AL Tryz.prog .lss 3),[.var 8,.loc 0],(.set 12),[]⟩]
def VM:List AA:=[
 ⟨none,.p1 some,[.var 7],.push,[]⟩,
 ⟨none,.p2 (AM Tryz.prog 27),[.var 3,.var 8],.push,[]⟩,
 ⟨none,.r1 (fun s a=>AC Tryz.prog s 3 a),[.loc 0],.push,[]⟩,
 ⟨none,.p2 (AL Tryz.prog .add 3),[.loc 2,.loc 0],.push,[]⟩,
 ⟨none,.p1 some,[.loc 0],(.set 7),[]⟩]
def VN:List AA:=[
 ⟨none,.p1 some,[.var 6],.push,[]⟩,
 ⟨none,.p2 (AL Tryz.prog .rem 3),[(.var 7),(.const (.int .i64 (2)))],.push,[]⟩,
 ⟨none,.p2 (AL Tryz.prog .eql 3),[(.loc 0),(.const (.int .i64 (1)))],.push,[]⟩,
 ⟨none,.mk (fun l=>(Ad Tryz.prog 124 1 (zipIdx [0] l)).bind fun r=>some (r,.slice 1)),[.loc 0],.push,[]⟩,
 ⟨none,.e (fun s l=>Ar Tryz.prog s [124,124] l),[.loc 3,.loc 0],.push,[]⟩,
 ⟨none,.p1 some,[.loc 0],(.set 6),[]⟩]
def VO:List AA:=[
 ⟨none,.p1 some,[.var 7],.push,[]⟩,
 ⟨none,.p2 (AL Tryz.prog .quo 3),[(.loc 0),(.const (.int .i64 (2)))],.push,[]⟩,
 ⟨none,.p1 some,[.loc 0],(.set 7),[]⟩]
def VP:List AA:=[
 ⟨none,.p1 some,[.var 8],.push,[]⟩,
 ⟨none,.p2 (AL Tryz.prog .add 3),[(.loc 0),(.const (.int .i64 (1)))],.push,[]⟩,
 ⟨none,.p1 some,[.loc 0],(.set 8),[]⟩]
def Iu:Aa:=(.seq (.seq (.ops Oo) (.cond (.var 12)
 .skip
 (.exit 4))) (.seq (.block 5 (.seq (.ops VM) (.seq (.ops VN) (.ops VO)))) (.ops VP)))
def VQ:List AA:=[
 ⟨none,.call 138,[.var 6],.push,[]⟩,
 ⟨none,.p1 some,[.loc 0],(.set 2),[]⟩]
def uE:Ah:=⟨2,13,(.seq (.ops Yq) (.seq (.ops Yr) (.seq (.seq (.ops Ys) (.block 0 (.loop It))) (.seq (.ops VJ) (.seq (.ops VK) (.seq (.seq (.ops VL) (.block 4 (.loop Iu))) (.seq (.ops VQ) .ret))))))),[((.var 2),none)]⟩
def Y2:List AA:=[
 ⟨none,.p1 some,[(.const (.slice none 0 (some 0)))],(.set 2),[]⟩,
 ⟨none,.p1 some,[(.const (.slice none 0 (some 0)))],(.set 3),[]⟩]
def Y3:List AA:=[
 ⟨none,.r (fun s l=>match l with | [x]=>A6 Tryz.prog s 124 x | _=>none),[.var 0],.push,[]⟩,
 ⟨none,.mk (Xy (BV Tryz.prog 124)),[.loc 0,.loc 0],.push,[]⟩,
 ⟨none,.p1 some,[.loc 0],(.set 4),[]⟩]
def Y4:List AA:=[
 ⟨none,.p1 some,[(.const (.slice none 0 (some 0)))],(.set 5),[]⟩]
def Y5:List AA:=[
 ⟨none,.r (fun s l=>match l with | [x]=>A6 Tryz.prog s 124 x | _=>none),[.var 0],.push,[]⟩,
 ⟨none,.p2 (AL Tryz.prog .sub 3),[(.loc 0),(.const (.int .i64 (1)))],.push,[]⟩,
 ⟨none,.p1 some,[.loc 0],(.set 6),[]⟩]
def TS:List AA:=[
 ⟨none,.p2 (AL Tryz.prog .geq 3),[(.var 6),(.const (.int .i64 (0)))],(.set 7),[]⟩]
def Y6:List AA:=[
 ⟨none,.p2 (AM Tryz.prog 124),[.var 0,.var 6],.push,[]⟩,
 ⟨none,.r1 (fun s a=>AC Tryz.prog s 4 a),[.loc 0],.push,[]⟩,
 ⟨none,.mk (fun l=>(Ad Tryz.prog 124 1 (zipIdx [0] l)).bind fun r=>some (r,.slice 1)),[.loc 0],.push,[]⟩,
 ⟨none,.p1 some,[.var 5],.push,[]⟩,
 ⟨none,.e (fun s l=>Ar Tryz.prog s [124,124] l),[.loc 1,.loc 0],.push,[]⟩,
 ⟨none,.call 138,[.loc 0],.push,[]⟩,
 ⟨none,.p1 some,[.loc 0],(.set 5),[]⟩]
def Y7:List AA:=[
 ⟨none,.call 139,[.var 5,.var 1],.push,[]⟩,
 ⟨none,.p1 (WT Tryz.prog Go.UnOp.not),[.loc 0],(.set 8),[]⟩]
def Y8:List AA:=[
 ⟨none,.p1 some,[.var 5],.push,[]⟩,
 ⟨none,.call 140,[.loc 0,.var 1],.push,[]⟩,
 ⟨none,.p1 some,[.loc 0],(.set 5),[]⟩]
def Y9:List AA:=[
 ⟨none,.p2 (AM Tryz.prog 124),[.var 4,.var 6],.push,[]⟩,
 ⟨none,.e (fun s=>Xy (fun a x=>Za (AS Tryz.prog s 4 a x))),[(.loc 0),(.const (.bool true))],.push,[]⟩]
def TT:List AA:=[
 ⟨none,.p1 some,[.var 6],.push,[]⟩,
 ⟨none,.p2 (AL Tryz.prog .sub 3),[(.loc 0),(.const (.int .i64 (1)))],.push,[]⟩,
 ⟨none,.p1 some,[.loc 0],(.set 6),[]⟩]
def Iw:Aa:=(.seq (.seq (.ops TS) (.cond (.var 7)
 .skip
 (.exit 0))) (.seq (.block 1 (.seq (.ops Y6) (.seq (.ops Y7) (.cond (.var 8)
 (.seq (.ops Y8) (.ops Y9))
 .skip)))) (.ops TT)))
def VS:List AA:=[
 ⟨none,.call 138,[.var 4],.push,[]⟩,
 ⟨none,.p1 some,[.loc 0],(.set 2),[]⟩,
 ⟨none,.p1 some,[.var 5],(.set 3),[]⟩]
def uG:Ah:=⟨2,9,(.seq (.ops Y2) (.seq (.ops Y3) (.seq (.ops Y4) (.seq (.seq (.ops Y5) (.block 0 (.loop Iw))) (.seq (.ops VS) .ret))))),[((.var 2),none),((.var 3),none)]⟩
def Zu:List AA:=[
 ⟨none,.p1 some,[(.const (.slice none 0 (some 0)))],(.set 1),[]⟩]
def Zv:List AA:=[
 ⟨none,.call 104,[.var 0],.push,[]⟩,
 ⟨none,.call 102,[.loc 0],.push,[]⟩,
 ⟨none,.p1 some,[.loc 0],(.set 1),[]⟩]
def uV:Ah:=⟨1,2,(.seq (.ops Zu) (.seq (.ops Zv) .ret)),[((.var 1),none)]⟩
def Zj:List AA:=[
 ⟨none,.p1 some,[(.const (.slice none 0 (some 0)))],(.set 2),[]⟩]
def Zk:List AA:=[
 ⟨none,.call 104,[.var 0],.push,[]⟩,
 ⟨none,.call 104,[.var 1],.push,[]⟩,
 ⟨none,.call 145,[.loc 1,.loc 0],.push,[]⟩,
 ⟨none,.call 102,[.loc 0],.push,[]⟩,
 ⟨none,.p1 some,[.loc 0],(.set 2),[]⟩]
def uS:Ah:=⟨2,3,(.seq (.ops Zj) (.seq (.ops Zk) .ret)),[((.var 2),none)]⟩
def Zr:List AA:=[
 ⟨none,.p1 some,[(.const (.slice none 0 (some 0)))],(.set 2),[]⟩,
 ⟨none,.p1 some,[(.const (.bool false))],(.set 3),[]⟩]
def Zs:List AA:=[
 ⟨none,.call 104,[.var 0],.push,[]⟩,
 ⟨none,.call 104,[.var 1],.push,[]⟩,
 ⟨none,.call 139,[.loc 1,.loc 0],(.set 4),[]⟩]
def rJ:List AA:=[
 ⟨none,.p1 some,[(.const (.slice none 0 (some 0)))],(.set 2),[]⟩,
 ⟨none,.p1 some,[(.const (.bool false))],(.set 3),[]⟩]
def Zt:List AA:=[
 ⟨none,.call 104,[.var 0],.push,[]⟩,
 ⟨none,.call 104,[.var 1],.push,[]⟩,
 ⟨none,.call 140,[.loc 1,.loc 0],.push,[]⟩,
 ⟨none,.call 102,[.loc 0],.push,[]⟩,
 ⟨none,.p1 some,[.loc 0],(.set 2),[]⟩,
 ⟨none,.p1 some,[(.const (.bool true))],(.set 3),[]⟩]
def uU:Ah:=⟨2,5,(.seq (.ops Zr) (.seq (.seq (.ops Zs) (.cond (.var 4)
 (.seq (.ops rJ) .ret)
 .skip)) (.seq (.ops Zt) .ret))),[((.var 2),none),((.var 3),none)]⟩
def nX:List AA:=[
 ⟨none,.p1 some,[(.const (.slice none 0 (some 0)))],(.set 2),[]⟩]
def nY:List AA:=[
 ⟨none,.call 104,[.var 0],.push,[]⟩,
 ⟨none,.call 104,[.var 1],.push,[]⟩,
 ⟨none,.call 103,[.loc 1,.loc 0],.push,[]⟩,
 ⟨none,.call 102,[.loc 0],.push,[]⟩,
 ⟨none,.p1 some,[.loc 0],(.set 2),[]⟩]
def w8:Ah:=⟨2,3,(.seq (.ops nX) (.seq (.ops nY) .ret)),[((.var 2),none)]⟩
def Zf:List AA:=[
 ⟨none,.p1 some,[(.const (.slice none 0 (some 0)))],(.set 2),[]⟩,
 ⟨none,.p1 some,[(.const (.slice none 0 (some 0)))],(.set 3),[]⟩,
 ⟨none,.p1 some,[(.const (.int .i64 (0)))],(.set 4),[]⟩]
def Zg:List AA:=[
 ⟨none,.call 104,[.var 1],.push,[]⟩,
 ⟨none,.r (fun s l=>match l with | [x]=>A6 Tryz.prog s 124 x | _=>none),[.loc 0],.push,[]⟩,
 ⟨none,.p2 (AL Tryz.prog .eql 3),[(.loc 0),(.const (.int .i64 (0)))],(.set 7),[]⟩]
def rI:List AA:=[
 ⟨none,.p1 some,[(.const (.slice none 0 (some 0)))],(.set 2),[]⟩,
 ⟨none,.p1 some,[(.const (.slice none 0 (some 0)))],(.set 3),[]⟩,
 ⟨none,.p1 some,[(.const (.int .i64 (3)))],(.set 4),[]⟩]
def Zh:List AA:=[
 ⟨none,.call 104,[.var 0],.push,[]⟩,
 ⟨none,.call 104,[.var 1],.push,[]⟩,
 ⟨none,.call 105,[.loc 1,.loc 0],.push,[]⟩,
 ⟨none,.p1 (fun x=>Zb x 0),[.loc 0],.push,[]⟩,
 ⟨none,.p1 (fun x=>Zb x 1),[.loc 1],.push,[]⟩,
 ⟨none,.p1 some,[.loc 1],(.set 5),[]⟩,
 ⟨none,.p1 some,[.loc 0],(.set 6),[]⟩]
def Zi:List AA:=[
 ⟨none,.call 102,[.var 5],.push,[]⟩,
 ⟨none,.call 102,[.var 6],.push,[]⟩,
 ⟨none,.p1 some,[.loc 1],(.set 2),[]⟩,
 ⟨none,.p1 some,[.loc 0],(.set 3),[]⟩,
 ⟨none,.p1 some,[(.const (.int .i64 (0)))],(.set 4),[]⟩]
def uR:Ah:=⟨2,8,(.seq (.ops Zf) (.seq (.seq (.ops Zg) (.cond (.var 7)
 (.seq (.ops rI) .ret)
 .skip)) (.seq (.ops Zh) (.seq (.ops Zi) .ret)))),[((.var 2),none),((.var 3),none),((.var 4),none)]⟩
def nZ:List AA:=[
 ⟨none,.p1 some,[(.const (.slice none 0 (some 0)))],(.set 2),[]⟩]
def ne:List AA:=[
 ⟨none,.call 104,[.var 0],.push,[]⟩,
 ⟨none,.call 104,[.var 1],.push,[]⟩,
 ⟨none,.p1 some,[.loc 1],(.set 3),[]⟩,
 ⟨none,.p1 some,[.loc 0],(.set 4),[]⟩]
def dY:List AA:=[
 ⟨none,.r (fun s l=>match l with | [x]=>A6 Tryz.prog s 124 x | _=>none),[.var 4],.push,[]⟩,
 ⟨none,.p2 (AL Tryz.prog .gtr 3),[(.loc 0),(.const (.int .i64 (0)))],(.set 6),[]⟩]
def nf:List AA:=[
 ⟨none,.call 105,[.var 3,.var 4],.push,[]⟩,
 ⟨none,.p1 (fun x=>Zb x 0),[.loc 0],.push,[]⟩,
 ⟨none,.p1 (fun x=>Zb x 1),[.loc 1],.push,[]⟩,
 ⟨none,.p1 some,[.loc 1],.push,[]⟩,
 ⟨none,.p1 some,[.loc 1],(.set 5),[]⟩]
def nh:List AA:=[
 ⟨none,.p1 some,[.var 4],(.set 3),[]⟩]
def ni:List AA:=[
 ⟨none,.p1 some,[.var 5],(.set 4),[]⟩]
def Q5:Aa:=(.seq (.seq (.ops dY) (.cond (.var 6)
 .skip
 (.exit 0))) (.block 1 (.seq (.ops nf) (.seq (.ops nh) (.ops ni)))))
def nj:List AA:=[
 ⟨none,.call 102,[.var 3],.push,[]⟩,
 ⟨none,.p1 some,[.loc 0],(.set 2),[]⟩]
def xA:Ah:=⟨2,7,(.seq (.ops nZ) (.seq (.ops ne) (.seq (.block 0 (.loop Q5)) (.seq (.ops nj) .ret)))),[((.var 2),none)]⟩
def Zl:List AA:=[
 ⟨none,.p1 some,[(.const (.int .i64 (0)))],(.set 2),[]⟩]
def Zm:List AA:=[
 ⟨none,.call 104,[.var 0],.push,[]⟩,
 ⟨none,.call 104,[.var 1],.push,[]⟩,
 ⟨none,.call 139,[.loc 1,.loc 0],(.set 3),[]⟩]
def Zn:List AA:=[
 ⟨none,.p1 some,[(.const (.int .i64 (-1)))],(.set 2),[]⟩]
def Zo:List AA:=[
 ⟨none,.call 104,[.var 1],.push,[]⟩,
 ⟨none,.call 104,[.var 0],.push,[]⟩,
 ⟨none,.call 139,[.loc 1,.loc 0],(.set 4),[]⟩]
def Zp:List AA:=[
 ⟨none,.p1 some,[(.const (.int .i64 (1)))],(.set 2),[]⟩]
def Zq:List AA:=[
 ⟨none,.p1 some,[(.const (.int .i64 (0)))],(.set 2),[]⟩]
def uT:Ah:=⟨2,5,(.seq (.ops Zl) (.seq (.seq (.ops Zm) (.cond (.var 3)
 (.seq (.ops Zn) .ret)
 .skip)) (.seq (.seq (.ops Zo) (.cond (.var 4)
 (.seq (.ops Zp) .ret)
 .skip)) (.seq (.ops Zq) .ret)))),[((.var 2),none)]⟩
theorem jL:AO Tryz.prog 138=some uY:=by kernel_rfl
theorem iu:AO Tryz.prog 104=some uF:=by kernel_rfl
theorem ip:AO Tryz.prog 102=some uD:=by kernel_rfl
theorem jQ:AO Tryz.prog 152=some rK:=by kernel_rfl
theorem jP:AO Tryz.prog 145=some uc:=by kernel_rfl
theorem jM:AO Tryz.prog 139=some uZ:=by kernel_rfl
theorem jN:AO Tryz.prog 140=some ua:=by kernel_rfl
theorem iq:AO Tryz.prog 103=some uE:=by kernel_rfl
theorem iw:AO Tryz.prog 105=some uG:=by kernel_rfl
theorem jI:AO Tryz.prog 127=some uV:=by kernel_rfl
theorem jF:AO Tryz.prog 124=some uS:=by kernel_rfl
theorem jH:AO Tryz.prog 126=some uU:=by kernel_rfl
theorem sP:AO Tryz.prog 56=some w8:=by kernel_rfl
theorem jE:AO Tryz.prog 123=some uR:=by kernel_rfl
theorem sQ:AO Tryz.prog 57=some xA:=by kernel_rfl
theorem jG:AO Tryz.prog 125=some uT:=by kernel_rfl
end
end Go.Proofs.YtjnkfbpadpmakaaGreatDoor.Am
set_option linter.unusedVariables false
set_option linter.unusedSimpArgs false
namespace Go.Proofs.YtjnkfbpadpmakaaGreatDoor.Am
open Go
noncomputable section
def bv:List Bool→Nat
 | []=>0
 | b::l=>b.toNat+2 * bv l
def FR:List Bool→List Bool
 | []=>[]
 | b::l=>if b=false∧FR l=[]then []else b::FR l
def Au(n:Nat):List Bool:=if h:n=0 then []else decide (n % 2=1)::Au (n / 2)
termination_by n
decreasing_by exact zT (by omega) (by decide)
theorem B8:Au 0=[]:=by rw[Au];rfl
theorem E6{n:Nat}(h:n≠0):Au n=decide (n % 2=1)::Au (n / 2):=by rw[Au,dif_neg h]
theorem Ir{n:Nat}(h:n≠0):Au n≠[]:=by rw[E6 h];exact fun e=>by cases e
theorem KJ(n:Nat):(decide (n % 2=1)).toNat=n % 2:=by
 by_cases h:n % 2=1
 ·rw[decide_eq_true h,h];rfl
 ·rw[decide_eq_false h,show n % 2=0 by omega];rfl
theorem BH(n:Nat):bv (Au n)=n:=by
 induction n using Nat.strongRecOn with
 | _ n ih =>
  by_cases h:n=0
  ·subst h;rw[B8];rfl
  ·rw[E6 h]
   show(decide (n % 2=1)).toNat+2 * bv (Au (n / 2))=n
   rw[KJ,ih (n / 2) (zT (by omega) (by decide))]
   omega
theorem Ky(b:Bool):b.toNat<2:=by cases b<;>decide
theorem Ec:∀l:List Bool,bv l<2 ^ l.length
 | []=>by decide
 | b::l=>by
  have h1:=Ec l
  have h2:=Ky b
  show b.toNat+2 * bv l<2 ^ (l.length+1)
  rw[yJ];omega
theorem Ht        : ∀ l : List Bool, FR    l = Au    (bv l)
  | []=>by rw[FR,bv,B8]
  | b::l=>by
    have ih:=Ht l
    have hb:=Ky b
    show(if b=false∧FR l=[]then []else b::FR l)=Au (b.toNat+2 * bv l)
    by_cases h0:bv l=0
    · rw[ih,h0,B8]
      cases b with
      | false=>rw[if_pos ⟨rfl,rfl⟩];exact B8.symm
      | true =>
        rw[if_neg (fun h=>by cases h.1)]
        show [true]=Au 1
        rw[E6 (by decide)]
        show [true]=decide (1 % 2=1)::Au (1 / 2)
        rw[show 1 / 2=0 from rfl,B8];rfl
    · have hne:FR l≠[]:=by rw[ih];exact Ir h0
      rw[if_neg (fun h=>hne h.2),E6 (by omega),ih]
      congr 1
      · cases b with
        | false=>show false=decide ((0+2 * bv l) % 2=1);rw[decide_eq_false (by omega)]
        | true=>show true=decide ((1+2 * bv l) % 2=1);rw[decide_eq_true (by omega)]
      · congr 1;omega
theorem Ji:∀a b:List Bool,bv (a++b)=bv a+2 ^ a.length * bv b
 | [],b=>by show bv b=0+1 * bv b;omega
 | x::a,b=>by
  show x.toNat+2 * bv (a++b)=x.toNat+2 * bv a+2 ^ (a.length+1) * bv b
  rw[Ji a b,yJ,yB,xy (2 ^ a.length) 2,xw];omega
theorem GK(a:List Bool)(b:Bool):bv (a++[b])=bv a+2 ^ a.length * b.toNat:=by rw[Ji];rfl
theorem FI{n k:Nat}(h:n<2 ^ k):(Au n).length≤k:=by
  induction k generalizing n with
  | zero => have : n = 0 := by simpa using h
            rw[this,B8];exact xZ _
  | succ k ih =>
    by_cases h0:n=0
    · rw[h0,B8];exact xg _
    · rw[E6 h0,yU]
      have:=ih (n:=n / 2) (by rw[yJ]at h;omega)
      omega
theorem Uw(l:List Bool):FR (l++[false])=FR l:=by
 rw[Ht,Ht,GK];rfl
theorem OM:∀l:List Bool,FR (l++[true])=l++[true]
 | []=>rfl
 | b::l=>by
  show(if b=false∧FR (l++[true])=[]then []else b::FR (l++[true]))=b::(l++[true])
  rw[OM l,if_neg (fun h=>by cases l<;>cases h.2)]
theorem W1{n:Nat}(h:n≠0):∃m,Au n=m++[true]:=by
 induction n using Nat.strongRecOn with
 | _ n ih =>
  rw[E6 h]
  by_cases h2:n / 2=0
  ·have:n=1:=by omega
   subst this
   refine⟨[],?_⟩
   rw[show 1 / 2=0 from rfl,B8];rfl
  ·obtain⟨m,e⟩:=ih (n / 2) (zT (by omega) (by decide)) h2
   rw[e];exact⟨_::m,rfl⟩
theorem Og{n:Nat}(h:n≠0):2 ^ ((Au n).length - 1)≤n:=by
 obtain⟨m,e⟩:=W1 h
 have:=BH n
 rw[e,GK]at this
 rw[e,xp,show [true].length=1 from rfl,zH]
 have h1:2 ^ m.length * (true).toNat=2 ^ m.length:=by show _ * 1=_;omega
 omega
end
end Go.Proofs.YtjnkfbpadpmakaaGreatDoor.Am
set_option linter.unusedVariables false
set_option linter.unusedSimpArgs false
set_option maxRecDepth 16000
namespace Go.Proofs.YtjnkfbpadpmakaaGreatDoor.Am
open Go Go.Proofs
noncomputable section
def Gj(l:List Bool):List AV:=l.map AV.bool
theorem Oj(l:List Bool):(Gj l).length=l.length:=by simp[Gj]
theorem Kz{l:List Bool}{k:Nat}{x:Bool}(h:l[k]? = some x):(Gj l)[k]? = some (.bool x):=by simp[Gj,h]
def Da(s:AE)(v:AV)(l:List Bool):Prop:=∃a cap,v=.slice a l.length cap∧EC 1 s a cap l.length∧AU s.next s a (Gj l)
theorem Da.old{s s':AE}{v:AV}{l:List Bool}(h:Da s v l)(o:Af s.next s s'):Da s' v l:=by
 obtain⟨a,cap,h1,h2,h3⟩:=h
 exact⟨a,cap,h1,h2.old o,(h3.old o (xZ _)).mono o.1⟩
theorem Da.keep{s s':AE}{v:AV}{l:List Bool}(h:Da s v l)(hn:s.next≤s'.next)(hf:∀j,By v=some j→j<s.next→s'.heap.get j=s.heap.get j):Da s' v l:=by
  obtain⟨a,cap,rfl,h2,h3⟩:=h
  refine⟨a,cap,rfl,?_,fun k u hu=>?_⟩
  · rcases h2 with h2 | ⟨g1, i, o, r, rfl, g3, g4, g5⟩
    · exact .inl h2
    · exact .inr ⟨g1,i,o,r,rfl,by omega,by rw[hf i rfl g3];exact g4,g5⟩
  · obtain⟨i,o,rfl,g1,g2⟩:=h3 k u hu
    exact⟨i,o,rfl,by omega,by rw[B6 (hf i rfl g1)];exact g2⟩
theorem Da.nil(s:AE):Da s (.slice none 0 (some 0)) []:=⟨none,some 0,rfl,.inl ⟨0,rfl,xZ _,fun _=>rfl⟩,AU.nil⟩
theorem Da.load{s:AE}{a:Option (Nat×Nat)}{l:List Bool}(h:AU s.next s a (Gj l)){k:Nat}{x:Bool}(hk:l[k]? = some x):∃i o,a=some (i,o)∧i<s.next∧AC Tryz.prog s 4 (.ptr (some (i,o+k * 1)))=some (.bool x):=by
 obtain⟨i,o,e,h1,h2⟩:=h k _ (Kz hk)
 exact⟨i,o,e,h1,Bd Gp (by rw[xj];exact h2)⟩
theorem Da.pre{s:AE}{a:Option (Nat×Nat)}{cap:Option Nat}{m l:List Bool}(h1:EC 1 s a cap (m++l).length)(h2:AU s.next s a (Gj (m++l))):Da s (.slice a m.length cap) m:=
 ⟨a,cap,rfl,h1.less (by simp),fun k u hu=>h2 k u (by
  have:Gj (m++l)=Gj m++Gj l:=by simp[Gj]
  rw[this]
  have hk:k<(Gj m).length:=by
   rcases xf k (Gj m).length with h' | h'
   ·exact h'
   ·rw[xr h']at hu;cases hu
  rw[yf hk];exact hu)⟩
section
variable{E:CU}{s:AE}
theorem Ul{Q:Ay→Prop}{y1:AV}{a:Option (Nat×Nat)}{cap:Option Nat}{l0:List Bool}(hq:∀l y2,FR l0=l→Da s (.slice a l.length cap) l→Q ⟨.exit 0,[.slice a l.length cap,y1,y2],[],s⟩):
  ∀ (n:Nat) (l:List Bool) (y2:AV),l.length=n→n≤1000000000000→FR l=FR l0→Da s (.slice a l.length cap) l→WC E none (.loop Jl) Q [.slice a l.length cap,y1,y2] [] s:=by
 intro n
 induction n with
 | zero =>
  intro l y2 hl hn ht hb
  have:l=[]:=zN hl
  subst this
  refine WC.loop' ?_
  simp only[Jl,Ou,AH Tryz.underlying124,Rz,show decide (((([]:List Bool).length:Nat):Int) > 0)=false from rfl,Qa,Qb,Qc,Qd,Qf,Qg,Qh,Qi,Qj,Qk,Qm,Qo,true_and,Qp,Qq,Qr,Qs,Qt,Qu,Qv,Qw,Qx,Ra,Rb,Rd,Re,Rs,Ru,Rw,Rz]
  exact hq [] _ ht.symm hb
 | succ n ih =>
  intro l y2 hl hn ht hb
  obtain⟨m,b,rfl⟩:∃m b,l=m++[b]:=by
   rcases List.eq_nil_or_concat l with rfl | ⟨m,b,e⟩
   ·cases hl
   ·exact⟨m,b,by simpa using e⟩
  have hml:m.length=n:=by simpa using hl
  have hb0:=hb
  obtain⟨a',cap',e,hcap,hc⟩:=hb
  injection e with e1 _ e2
  subst e1;subst e2
  have hk:(m++[b])[m.length]? = some b:=by simp
  obtain⟨i,o,rfl,_,ld⟩:=Da.load hc hk
  have hlen:(m++[b]).length=m.length+1:=by simp
  have ix:=Ae (cap:=cap) (i:=i) (o:=o) (n:=1) (k:=m.length) (len:=(m++[b]).length) Tryz.underlying124 TB (by omega)
  have d0:decide (((m++[b]).length:Int) > 0)=true:=decide_eq_true (by omega)
  have es:=CP Tryz.prog 3 ((m++[b]).length:Int) 1 ⟨by omega,by omega⟩
  have es':(((m++[b]).length:Int) - 1)=(m.length:Int):=by omega
  refine WC.loop' ?_
  generalize hW:WC E none (Aa.loop Jl) Q=WW
  cases b with
  | true =>
   simp only[Jl,Ou,AH Tryz.underlying124,Rz,d0,es,es',ix,ld,We,Bool.not_true,Qa,Qb,Qc,Qd,Qf,Qg,Qh,Qi,Qj,Qk,Qm,Qo,true_and,Qp,Qq,Qr,Qs,Qt,Qv,Qw,Qx,Ra,Rb,Rd,Re,Rs,Ya,Ru,Rw,Rz,We]
   exact hq _ _ (by rw[← ht,OM]) hb0
  | false =>
   have cut:=Na Tryz.underlying124 TB (by decide) hcap (show m.length≤(m++[false]).length by omega)
   simp only[Jl,Ou,Z8,AH Tryz.underlying124,Rz,d0,es,es',ix,ld,cut,We,Bool.not_false,Qa,Qb,Qc,Qd,Qf,Qg,Qh,Qi,Qj,Qk,Qm,Qo,true_and,Qp,Qq,Qr,Qs,Qt,Qv,Qw,Qx,Qz,Rb,Rd,Re,Rs,Yb,Ru,Rw,Rz,We]
   rw[← hW]
   exact ih m _ hml (by omega) (by rw[← ht,Uw]) (Da.pre hcap hc)
theorem KC(hE:GoodN E){v:AV}{l:List Bool}(hv:Da s v l)(hl:l.length≤1000000000000){K:AV→AE→Prop}(hK:∀w,Da s w (Au (bv l))→(∀j,By w=some j→By v=some j)→K w s):WF E 138 [v] K s:=by
 have hv0:=hv
 obtain⟨a,cap,rfl,_⟩:=hv
 refine hE.go jL (by decide) rfl ?_
 simp only[uY,Z7,Qa,Qb,Qc,Qd,Qf,Qh,Qi,Qj,Ql,Qm,Qo,true_and,Qp,Qq,Qt,Qv,Rb,Rh,Rk,Rm,Rn,Yc]
 refine Ul (l0:=l) (fun l' y2 ht hb=>?_) l.length l _ rfl hl rfl hv0
 simp only[Z9,if_true,Qb,Qc,Qd,Qf,Qh,Qj,Qm,Qo,true_and,Qp,Qq,Qr,Qs,Qt,Qv,Rb,Rd,Rg,Rj]
 rw[Ht]at ht
 subst ht
 refine hK _ hb fun j hj=>?_
 cases a with
 | none=>cases hj
 | some io=>obtain⟨i,o⟩:=io;exact hj
theorem F8(hE:GoodN E){v:AV}{l:List Bool}(hv:Da s v l)(hl:l.length≤1000000000000){K:AV→AE→Prop}(hK:∀w,Da s w (Au (bv l))→K w s):WF E 138 [v] K s:=
 KC hE hv hl fun w h _=>hK w h
theorem Pl(hE:GoodN E){v:AV}{l:List Bool}(hv:Da s v l){i:Nat}{K:AV→AE→Prop}(hK:K (.bool (l.getD i false)) s):WF E 152 [v,iv (i:Int)] K s:=by
  obtain⟨a,cap,rfl,_,hc⟩:=hv
  refine hE.go jQ (by decide) rfl ?_
  by_cases hi:i<l.length
  · have hx:l[i]? = some l[i]:=xe hi
    obtain⟨ia,oa,rfl,_,ld⟩:=Da.load hc hx
    have ix:=Ae (cap:=cap) (i:=ia) (o:=oa) (n:=1) Tryz.underlying124 TB hi
    have d0:decide ((i:Int)<(l.length:Int))=true:=decide_eq_true (by omega)
    have eg:l.getD i false=l[i]:=by rw[zG,hx];rfl
    rw[eg]at hK
    simp only[rK,Tf,Tg,AH Tryz.underlying124,Ry,d0,ix,ld,Ru,Qa,Qb,Qc,Qd,Qf,Qg,Qh,Qi,Qj,Qk,Ql,Qm,Qo,true_and,Qp,Qq,Qr,Qs,Qt,Qv,Qw,Qx,Rb,Rh,Rj,Rk,Rm,Rn,Rs,Yc,Ru,Rw,Ry]
    exact hK
  · have d0 : decide ((i : Int) < (l.length : Int)) = false := decide_eq_false (by omega)
    have eg:l.getD i false=false:=by rw[zG,xr (by omega)];rfl
    rw[eg]at hK
    simp only[rK,Tf,Tg,AH Tryz.underlying124,Ry,d0,Ru,Qa,Qb,Qc,Qd,Qf,Qg,Qh,Qi,Qj,Qk,Ql,Qm,Qo,true_and,Qp,Qq,Qr,Qs,Qt,Qu,Qv,Qw,Qx,Rb,Rh,Rj,Rk,Rm,Rn,Rs,Yc,Ru,Rw,Ry]
    exact hK
end
section
variable(P:Program)(t:TypeId){a:Nat}
theorem vQ{k:IntKind}{n:Nat}(hn:n≤32):AL P .shr t (Aw a) (.int k (n:Int))=some (Aw (a / 2 ^ n)):=by
 show(DI P (Op.shift .shr .u32 (a:Int) k (n:Int))).bind ofValue=_
 unfold Op.shift
 rw[if_neg (by omega)]
 show some (AV.int .u32 ((a:Int).fdiv (2 ^ min (n:Int).toNat 32)))=_
 rw[show min (n:Int).toNat 32=n by omega]
 congr 2
 rw[show((2:Int) ^ n)=((2 ^ n:Nat):Int) by push_cast;rfl]
 exact(Int.ofNat_fdiv a (2 ^ n)).symm
theorem vP{k:IntKind}{n:Nat}(hn:n<32):AL P .shl t (.int .u32 1) (.int k (n:Int))=some (Aw (2 ^ n)):=by
 have h2:2 ^ n<2 ^ 32:=Nat.pow_lt_pow_right (by decide) hn
 show(DI P (Op.shift .shl .u32 1 k (n:Int))).bind ofValue=_
 unfold Op.shift
 rw[if_neg (by omega)]
 show some (AV.int .u32 (IntKind.wrap .u32 (1 * 2 ^ min (n:Int).toNat 32)))=_
 rw[show min (n:Int).toNat 32=n by omega,Fv,Int.one_mul]
 congr 2
 rw[show((2:Int) ^ n)=((2 ^ n:Nat):Int) by push_cast;rfl]
 have e32:(2:Nat) ^ 32=4294967296:=by decide
 rw[e32]at h2
 have h5:((2 ^ n:Nat):Int)<4294967296:=Int.ofNat_lt.2 h2
 exact Int.emod_eq_of_lt (Int.natCast_nonneg _) h5
theorem tj(h:a<4294967296):AL P .and t (Aw a) (.int .u32 1)=some (Aw (a % 2)):=by
 show(DI P (Op.intBits .and .u32 (a:Int) 1)).bind ofValue=_
 show some (AV.int .u32 (IntKind.wrap .u32 ((BitVec.ofInt 32 (a:Int) &&& BitVec.ofInt 32 1).toNat:Int)))=_
 rw[Fv]
 congr 2
 have:(BitVec.ofInt 32 (a:Int) &&& BitVec.ofInt 32 1).toNat=a % 2:=by
  rw[BitVec.ofInt_natCast,show BitVec.ofInt 32 1=BitVec.ofNat 32 1 from(by decide),BitVec.toNat_and,BitVec.toNat_ofNat,BitVec.toNat_ofNat]
  rw[yS (show a<2 ^ 32 by omega),show 1 % 2 ^ 32=2 ^ 1 - 1 by decide,Nat.and_two_pow_sub_one_eq_mod]
 rw[this]
 omega
theorem wJ{n:Nat}(hn:n<32)(h:a<2 ^ n):AL P .or t (Aw a) (Aw (2 ^ n))=some (Aw (a+2 ^ n)):=by
 have h2:2 ^ n * 2≤2 ^ 32:=by rw[← yJ];exact yT (by decide) hn
 have e32:(2:Nat) ^ 32=4294967296:=by decide
 show(DI P (Op.intBits .or .u32 (a:Int) ((2 ^ n:Nat):Int))).bind ofValue=_
 show some (AV.int .u32 (IntKind.wrap .u32 ((BitVec.ofInt 32 (a:Int) ||| BitVec.ofInt 32 ((2 ^ n:Nat):Int)).toNat:Int)))=_
 rw[Fv]
 congr 2
 have:(BitVec.ofInt 32 (a:Int) ||| BitVec.ofInt 32 ((2 ^ n:Nat):Int)).toNat=a+2 ^ n:=by
  rw[BitVec.ofInt_natCast,BitVec.ofInt_natCast,BitVec.toNat_or,BitVec.toNat_ofNat,BitVec.toNat_ofNat]
  rw[yS (show a<2 ^ 32 by omega),yS (show 2 ^ n<2 ^ 32 by omega)]
  have:=Nat.two_pow_add_eq_or_of_lt h 1
  rw[xj]at this
  rw[Nat.or_comm,← this,zI]
 rw[this]
 omega
end
theorem Mv(b:Bool):Ad Tryz.prog 124 1 (zipIdx [0] [.bool b])=some (R 4 1 false [.bool b]):=by kernel_rfl
theorem S9:Bv Tryz.prog 124=true:=by kernel_rfl
theorem Wn:DF Tryz.prog 4 1=true:=by kernel_rfl
def Fa(b:Nat)(s:AE)(v:AV)(l:List Bool):Prop:=∃O,E5 4 1 s v l.length (Gj l) O∧∀j∈O,b≤j
theorem Fa.nil(b:Nat)(s:AE):Fa b s (.slice none 0 (some 0)) []:=⟨[],E5.nil _ _ _,fun j h=>by cases h⟩
theorem Fa.rd{b:Nat}{s:AE}{v:AV}{l:List Bool}(h:Fa b s v l):Da s v l:=by
 obtain⟨O,h1,_⟩:=h
 obtain⟨a,cap,rfl,h2,h3⟩:=h1.capZ
 exact⟨a,cap,rfl,h3,h2⟩
theorem Fa.push{b:Nat}{s:AE}{v:AV}{l:List Bool}(h:Fa b s v l)(hb:b≤s.next)(hl:l.length≤1000000000)(x:Bool):
    ∃v' s',Ar Tryz.prog (newObj s (R 4 1 false [.bool x])) [124,124] [v,.slice (some (s.next,0)) 1 (some 1)]=some (v',s')∧Fa b s' v' (l++[x])∧Af b s s':=by
  obtain⟨O,h1,h2⟩:=h
  obtain⟨n1,o1,g1⟩:=CC s (R 4 1 false [.bool x])
  generalize hs1:newObj s (R 4 1 false [.bool x])=s1 at *
  obtain⟨v8,s8,O8,happ8,b8,n8,f8,hO8⟩:=HM Tryz.underlying124 TB vf (by decide) S9 Wn (by decide) (h1.frame o1.1 fun j hj=>o1.2 j (h1.lt j hj)) g1 rfl rfl hl
  refine⟨v8,s8,happ8,⟨O8,?_,fun j hj=>?_⟩,by omega,fun j hj=>?_⟩
  · have e:Gj (l++[x])=Gj l++[.bool x]:=by simp[Gj]
    rw[e,xp]
    exact b8
  · rcases hO8 j hj with hj | hj
    · exact h2 j hj
    · omega
  · rw[f8 j (by omega) (fun h=>by have:=h2 j h;omega),o1.2 j (by omega)]
theorem MR{l:List Nat}:∀ {i:Nat}{x:Nat},l[i]? = some x→AG (l.take (i+1))=AG (l.take i)+LB ^ i * x:=by
 induction l with
 | nil=>intro i x h;cases h
 | cons y l ih =>
  intro i x h
  cases i with
  | zero =>
   injection h with h
   subst h
   show y+LB * AG []=0+1 * y
   show y+LB * 0=_
   omega
  | succ i =>
   have:=ih (i:=i) (x:=x) h
   show y+LB * AG (l.take (i+1))=y+LB * AG (l.take i)+LB ^ (i+1) * x
   rw[this,yB,yJ,xy (LB ^ i) LB,xw]
   omega
theorem OX(i:Nat):LB ^ i=2 ^ (32 * i):=by rw[Nat.pow_mul];rfl
section
variable{E:CU}{s:AE}
theorem iN{s0:AE}{a:Option (Nat×Nat)}{cap:Option Nat}{la:List Nat}(hc:AU s0.next s0 a (us la))(hs:Be la){i x:Nat}(hx:la[i]? = some x)(hl:la.length≤10000000){Q:Ay→Prop}{y1 y5:AV}
  (hq:∀S v out y6,Af s0.next s0 S→Fa s0.next S v out→out.length=32 * i+32→bv out=AG (la.take (i+1))→Q ⟨.exit 2,[.slice a la.length cap,y1,v,iv (i:Int),iv (32:Int),y5,y6],[],S⟩):
  ∀ (r k:Nat) (S:AE) (v:AV) (out:List Bool) (y6:AV),32 - k=r→k≤32→Af s0.next s0 S→Fa s0.next S v out→out.length=32 * i+k→bv out=AG (la.take i)+LB ^ i * (x % 2 ^ k)→WC E none (.loop Le) Q [.slice a la.length cap,y1,v,iv (i:Int),iv (k:Int),y5,y6] [] S:=by
 have hil:i<la.length:=by
  rcases xf i la.length with h' | h'
  ·exact h'
  ·rw[xr h']at hx;cases hx
 have hxl:=hs x (yG hx)
 have e32:(2:Nat) ^ 32=4294967296:=by decide
 have hLB:LB=4294967296:=rfl
 intro r
 induction r with
 | zero =>
  intro k S v out y6 hk hk' ho hO hlen hval
  have e:k=32:=by omega
  subst e
  refine WC.loop' ?_
  simp only[Le,TR,Ry,show decide (((32:Nat):Int)<32)=false from rfl,Qa,Qb,Qc,Qd,Qf,Qh,Qi,Qj,Qm,Qo,true_and,Qp,Qq,Qr,Qs,Qt,Qv,Ra,Rb,Rd,Re,Ry]
  refine hq S v out _ ho hO hlen ?_
  rw[hval,MR hx,yS (by rw[e32];omega)]
 | succ r ih =>
  intro k S v out y6 hk hk' ho hO hlen hval
  have hk2:k<32:=by omega
  have d0:decide ((k:Int)<32)=true:=decide_eq_true (by omega)
  have e17:=Az Tryz.prog 3 (k:Int) 1 ⟨by omega,by omega⟩
  have e17':((k:Int)+1)=((k+1:Nat):Int):=by omega
  obtain⟨i0,o0,rfl,hi0,g0⟩:=hc i _ (DE hx)
  have ix:=Ae (cap:=cap) (i:=i0) (o:=o0) Tryz.underlying22 Cx hil
  have ld:AC Tryz.prog S 76 (.ptr (some (i0,o0+i * 1)))=some (Aw x):=Bd Gq (by rw[xj,B6 (ho.2 i0 hi0)];exact g0)
  have hsh:AL Tryz.prog .shr 76 (Aw x) (iv (k:Int))=some (Aw (x / 2 ^ k)):=vQ _ _ (by omega)
  have hdv:x / 2 ^ k≤x:=yj _ _
  have han:AL Tryz.prog .and 76 (Aw (x / 2 ^ k)) (.int .u32 1)=some (Aw (x / 2 ^ k % 2)):=tj _ _ (by omega)
  have heq:AL Tryz.prog .eql 76 (Aw (x / 2 ^ k % 2)) (.int .u32 1)=some (.bool (decide (x / 2 ^ k % 2=1))):=gn _ _ .u32
  obtain⟨v',S',happ,hO',ho'⟩:=hO.push ho.1 (by omega) (decide (x / 2 ^ k % 2=1))
  refine WC.loop' ?_
  generalize hW:WC E none (Aa.loop Le) Q=WW
  simp only[Le,TR,Yz,Ry,d0,ix,ld,hsh,han,heq,Mv,Xe,happ,Y0,e17,e17',Qa,Qb,Qc,Qd,Qf,Qh,Qi,Qj,Qk,Qm,Qo,true_and,Qp,Qq,Qr,Qs,Qt,Qv,Qz,Rb,Rd,Re,Yc,Ry]
  rw[← hW]
  refine ih (k+1) S' v' _ _ (by omega) (by omega) (ho.trans ho') hO' (by rw[xp,hlen];rfl) ?_
  rw[GK,hval,hlen,KJ,Nat.mod_pow_succ,zO,← OX,yB,xw]
  omega
theorem YV{s0:AE}{a:Option (Nat×Nat)}{cap:Option Nat}{la:List Nat}(hc:AU s0.next s0 a (us la))(hs:Be la)(hl:la.length≤10000000){Q:Ay→Prop}{y1:AV}
  (hq:∀S v out y3 y4 y5 y6,Af s0.next s0 S→Fa s0.next S v out→out.length=32 * la.length→bv out=AG la→Q ⟨.exit 0,[.slice a la.length cap,y1,v,y3,y4,y5,y6],[],S⟩):
  ∀ (r i:Nat) (S:AE) (v:AV) (out:List Bool) (y4 y5 y6:AV),la.length - i=r→i≤la.length→Af s0.next s0 S→Fa s0.next S v out→out.length=32 * i→bv out=AG (la.take i)→WC E none (.loop Iv) Q [.slice a la.length cap,y1,v,iv (i:Int),y4,y5,y6] [] S:=by
 intro r
 induction r with
 | zero =>
  intro i S v out y4 y5 y6 hi hi' ho hO hlen hval
  have d0:decide ((i:Int)<(la.length:Int))=false:=decide_eq_false (by omega)
  refine WC.loop' ?_
  simp only[Iv,TQ,AH Tryz.underlying22,Ry,d0,Qa,Qb,Qc,Qd,Qf,Qh,Qj,Qk,Qm,Qo,true_and,Qp,Qq,Qr,Qs,Qt,Qv,Ra,Rb,Rd,Ry]
  exact hq S v out _ _ _ _ ho hO (by omega) (by rw[hval,yq (by omega)])
 | succ r ih =>
  intro i S v out y4 y5 y6 hi hi' ho hO hlen hval
  have hlt:i<la.length:=by omega
  have d0:decide ((i:Int)<(la.length:Int))=true:=decide_eq_true (by omega)
  have e17:=Az Tryz.prog 3 (i:Int) 1 ⟨by omega,by omega⟩
  have e17':((i:Int)+1)=((i+1:Nat):Int):=by omega
  have hx:la[i]? = some la[i]:=xe hlt
  refine WC.loop' ?_
  generalize hW:WC E none (Aa.loop Iv) Q=WW
  simp only[Iv,TQ,Yy,AH Tryz.underlying22,Ry,d0,Qa,Qb,Qc,Qd,Qf,Qh,Qi,Qj,Qk,Qm,Qo,true_and,Qp,Qq,Qr,Qs,Qt,Qv,Qz,Rb,Rd,Ry]
  refine iN (s0:=s0) hc hs hx hl (fun S' v' out' y6' ho' hO' hlen' hval'=>?_) 32 0 S v out _ rfl (by decide) ho hO (by rw[hlen];rfl) (by rw[hval,Nat.pow_zero,Nat.mod_one,yO,yF])
  simp only[Y1,if_true,e17,e17',Qb,Qc,Qd,Qf,Qh,Qi,Qj,Qk,Qm,Qo,true_and,Qp,Qq,Qr,Qs,Qt,Qv,Rb,Rd,Re,Rg]
  rw[← hW]
  exact ih (i+1) S' v' out' _ _ _ (by omega) (by omega) ho' hO' (by omega) hval'
theorem CZ(hE:GoodN E){v:AV}{l:List Nat}(hv:Bo s v l)(hs:Be l)(hl:l.length≤10000000){K:AV→AE→Prop}(hK:∀s' w,Af s.next s s'→Da s' w (Au (AG l))→K w s'):WF E 104 [v] K s:=by
 obtain⟨a,cap,rfl,_,hc⟩:=hv
 refine hE.go iu (by decide) rfl ?_
 simp only[uF,Yv,Yw,Yx,Qa,Qb,Qc,Qd,Qf,Qh,Qi,Qj,Ql,Qm,Qo,true_and,Qp,Qq,Qt,Qv,Rb,Rh,Rk,Rm,Rn,Yc]
 refine YV hc hs hl (fun S v out y3 y4 y5 y6 ho hO hlen hval=>?_) l.length 0 s _ [] _ _ _ rfl (xg _) (Af.refl _ _) (Fa.nil _ _) rfl rfl
 simp only[VR,if_true,Qb,Qc,Qd,Qf,Qh,Qj,Qk,Qm,Qo,true_and,Qr,Qs,Qt,Qv,Rb,Rd,Rg,Rj]
 refine F8 hE hO.rd (by omega) fun w hw=>?_
 simp only[Qd,Qo,true_and,Qp,Qq,Qr,Qs]
 rw[hval]at hw
 exact hK S w ho hw
end
theorem E5.store1  {e : TypeId} {P : Program} {s : AE}  {v : AV} {n k t : Nat} {cs : List AV} {O : List Nat} {u : AV} (hs : BG    P t = some 1) (h : E5  e 1 s v n cs O) (hk : k < n) (hu : u.isCell = true) :
    ∃i s',v=.slice (some (i,0)) n none∧i∈O∧AS P s t (.ptr (some (i,k))) u=some s'∧(∃O',E5 e 1 s' v n (cs.set k u) O'∧∀j∈O',j∈O)∧s'.next=s.next∧∀j,j ∉ O→s'.heap.get j=s.heap.get j:=by
  have hlen:=h.len
  rcases h with⟨_,h2,_⟩ | ⟨i,p,rfl,h1,h2⟩
  · omega
  · rcases h1.ex with ⟨e', _⟩ | ⟨_, k2, k3, k4, r, k5, k6, k7, k8, k9, k10, k11⟩
    · cases e'
    · have hc : u.cells = [u] := by cases u <;> first | rfl | cases hu
      have hrow:rowAt s i=some r:=by unfold rowAt;rw[k5]
      have hb:Nat.ble (k+1) r.n=true:=CQ (by rw[k6.1];omega)
      have hal:An [u]=true:=by simp[An,hu]
      have est:AS P s t (.ptr (some (i,k))) u=some (setObj (BS s i r) i (.row { r with c:=r.c.fill k [u],par:=none })):=by
        rw[Wh,hs,hc]
        show AP (decide (1=1)) (Cv s i k [u])=_
        show(rowAt s i).bind _=_
        rw[hrow]
        show AP (D8 r.mode && Nat.ble (k+1) r.n && An [u]) _=_
        rw[k8,hb,hal]
        rfl
      have hun:(BS s i r).next=s.next∧∀j,j ∉ O→(BS s i r).heap.get j=s.heap.get j:=by
        unfold BS
        rw[k10]
        cases p with
        | none=>exact⟨rfl,fun j _=>rfl⟩
        | some q =>
          simp only
          cases hbq:Nat.beq q i with
          | true=>exact⟨rfl,fun j _=>rfl⟩
          | false =>
            refine⟨rfl,fun j hj=>?_⟩
            show(Cc s q).heap.get j=_
            rw[G8,if_neg]
            intro e
            exact hj (by rw[h2,e];simp)
      have hiO:i∈O:=by rw[h2];exact yC
      refine⟨i,_,rfl,hiO,est,⟨[i],.inr ⟨i,none,rfl,⟨by rw[yz];exact h1.len,.inr ⟨rfl,k2,by show i<(BS s i r).next;rw[hun.1];exact k3,fun q hq=>(by cases hq),{ r with c:=r.c.fill k [u],par:=none },Ww _ _ _,⟨by show r.n=_;rw[k6.1,yz],fun m w hw=>?_⟩,k7,k8,k9,rfl,k11⟩⟩,rfl⟩,fun j hj=>by rw[A0H.1 hj];exact hiO⟩,hun.1,fun j hj=>?_⟩
      · show(r.c.fill k [u]).get m=some w
        rw[AZ.get_fill]
        by_cases hm:m=k
        · subst hm
          rw[A0J (by omega)]at hw
          rw[if_pos ⟨xZ _,by simp⟩,zi]
          exact hw
        · rw [zR                   (Ne.symm hm)] at hw
          rw[if_neg (by simp;omega)]
          exact k6.2 m w hw
      · rw[Wx _ (fun e=>hj (by rw[e];exact hiO))];exact hun.2 j hj
def In(b:Nat)(s:AE)(v:AV)(l:List Nat):Prop:=∃O,E5 76 1 s v l.length (us l) O∧∀j∈O,b≤j
theorem In.nil(b:Nat)(s:AE):In b s (.slice none 0 (some 0)) []:=⟨[],E5.nil _ _ _,fun j h=>by cases h⟩
theorem In.n32{b:Nat}{s:AE}{v:AV}{l:List Nat}(h:In b s v l):Bo s v l:=by
 obtain⟨O,h1,_⟩:=h
 obtain⟨a,cap,rfl,h2,h3⟩:=h1.capZ
 refine⟨a,cap,rfl,?_,h2⟩
 rcases h3 with h3 | ⟨h3,i,o,r,h4,h5,h6,h7,h8⟩
 ·exact .inl h3
 ·exact .inr ⟨h3,i,o,r,h4,h5,h6,h7,by omega⟩
theorem Pu(x:Nat):Ad Tryz.prog 22 1 (zipIdx [0] [Aw x])=some (R 76 1 false [Aw x]):=by kernel_rfl
theorem In.push{b:Nat}{s:AE}{v:AV}{l:List Nat}(h:In b s v l)(hb:b≤s.next)(hl:l.length≤1000000000)(x:Nat):
    ∃v' s',Ar Tryz.prog (newObj s (R 76 1 false [Aw x])) [22,22] [v,.slice (some (s.next,0)) 1 (some 1)]=some (v',s')∧In b s' v' (l++[x])∧Af b s s':=by
  obtain⟨O,h1,h2⟩:=h
  obtain⟨n1,o1,g1⟩:=CC s (R 76 1 false [Aw x])
  generalize hs1:newObj s (R 76 1 false [Aw x])=s1 at *
  obtain⟨v8,s8,O8,happ8,b8,n8,f8,hO8⟩:=HM Tryz.underlying22 Cx W4 (by decide) TA ND (by decide) (h1.frame o1.1 fun j hj=>o1.2 j (h1.lt j hj)) g1 rfl rfl hl
  refine⟨v8,s8,happ8,⟨O8,?_,fun j hj=>?_⟩,by omega,fun j hj=>?_⟩
  · have e:us (l++[x])=us l++[Aw x]:=by simp[us]
    rw[e,xp]
    exact b8
  · rcases hO8 j hj with hj | hj
    · exact h2 j hj
    · omega
  · rw[f8 j (by omega) (fun h=>by have:=h2 j h;omega),o1.2 j (by omega)]
theorem In.set{b:Nat}{s:AE}{v:AV}{l:List Nat}(h:In b s v l){k:Nat}(hk:k<l.length)(y:Nat):
  ∃i s',v=.slice (some (i,0)) l.length none∧AC Tryz.prog s 76 (.ptr (some (i,0+k * 1)))=some (Aw l[k])∧AS Tryz.prog s 76 (.ptr (some (i,0+k * 1))) (Aw y)=some s'∧In b s' v (l.set k y)∧Af b s s':=by
 obtain⟨O,h1,h2⟩:=h
 obtain⟨a',cap',ev',hc'⟩:=h1.slice
 obtain⟨i,s',ev,hiO,st,⟨O',hb',hO'⟩,hn,hf⟩:=h1.store1 (P:=Tryz.prog) (t:=76) (u:=Aw y) Cx hk rfl
 rw[ev]at ev'
 injection ev' with e1 _ _
 subst e1
 obtain⟨i1,o1,e2,_,g⟩:=hc' k (Aw l[k]) (DE (xe hk))
 injection e2 with e2
 injection e2 with e2 e3
 subst e2;subst e3
 refine⟨_,s',ev,Bd Gq (by rw[xj];exact g),by rw[xj,xu];exact st,⟨O',?_,fun j hj=>h2 j (hO' j hj)⟩,by omega,fun j hj=>hf j fun h=>by have:=h2 j h;omega⟩
 rw[Im,yz]at *
 exact hb'
theorem Sw:∀ {lo:List Nat}{h:Nat},h≠0→DH (lo++[h])=lo++[h]
 | [],h,h0=>by show(if h=0∧DH []=[]then []else h::DH [])=[h];rw[if_neg (fun e=>h0 e.1)];rfl
 | x::lo,h,h0=>by
  show(if x=0∧DH (lo++[h])=[]then []else x::DH (lo++[h]))=x::(lo++[h])
  rw[Sw h0,if_neg (fun e=>by cases lo<;>cases e.2)]
theorem QO(P:Program)(t:TypeId)(a b:Nat)(hb:b≠0):AL P .rem t (iv (a:Int)) (.int .i64 (b:Int))=some (iv ((a % b:Nat):Int)):=by
 show(DI P (Op.intDiv .rem .i64 (a:Int) (b:Int))).bind ofValue=_
 have hb':¬ ((b:Int)=0):=by omega
 unfold Op.intDiv
 rw[if_neg hb']
 rfl
theorem YU(P:Program)(t:TypeId)(a b:Nat)(hb:b≠0)(ha:a≤4000000000000):AL P .quo t (iv (a:Int)) (.int .i64 (b:Int))=some (iv ((a / b:Nat):Int)):=by
 show(DI P (Op.intDiv .quo .i64 (a:Int) (b:Int))).bind ofValue=_
 have hb':¬ ((b:Int)=0):=by omega
 unfold Op.intDiv
 rw[if_neg hb']
 show some (AV.int .i64 (IntKind.wrap .i64 ((a:Int).tdiv (b:Int))))=_
 rw[show(a:Int).tdiv (b:Int)=((a / b:Nat):Int)from rfl,← FS,HU]
 have:a / b≤a:=yj a b
 generalize a / b=q at this ⊢
 exact⟨by omega,by omega⟩
def iG(b:List Bool)(i:Nat)(out:List Nat):Prop:=(i=0∧out=[])∨(0<i∧∃lo h,out=lo++[h]∧lo.length=(i - 1) / 32∧Be lo∧h<2 ^ (i - 32 * ((i - 1) / 32))∧AG out=bv (b.take i))
theorem DV{b:List Bool}{i:Nat}{x:Bool}(h:b[i]? = some x):bv (b.take (i+1))=bv (b.take i)+2 ^ i * x.toNat:=by
 have hi:i<b.length:=by
  rcases xf i b.length with h' | h'
  ·exact h'
  ·rw[xr h']at h;cases h
 have e:b.take (i+1)=b.take i++[x]:=by rw[List.take_add_one,h];rfl
 rw[e,GK,xz,yv (by omega)]
theorem iG.end   {n : Nat} {out : List Nat} (h : iG   (Au    n) (Au    n).length out) : out = AJ    n := by
  rcases h with⟨h1,rfl⟩ | ⟨h0,lo,h,rfl,h1,h2,h3,h4⟩
  · by_cases hn : n = 0
    · rw[hn,A8]
    · exact absurd (zN h1) (Ir hn)
  · rw[zP,BH]at h4
    have hn:n≠0:=by
      rintro rfl
      rw[B8]at h0
      simp at h0
    have hge:=Og hn
    have hh:h≠0:=by
      rintro rfl
      rw[Ce,yO,yF]at h4
      have h5:=CN h2
      rw[h4,OX]at h5
      have:2 ^ (32 * lo.length)≤2 ^ ((Au n).length - 1):=yT (by decide) (by omega)
      omega
    have hl:Be (lo++[h]):=fun x hx=>by
      rcases zx.1 hx with hx | hx
      · exact h2 x hx
      · rw[A0H.1 hx]
        have:2 ^ ((Au n).length - 32 * (((Au n).length - 1) / 32))≤2 ^ 32:=yT (by decide) (by omega)
        have e32:(2:Nat) ^ 32=LB:=by decide
        omega
    rw[← h4,← B0 hl,Sw hh]
section
variable{E:CU}{s:AE}
theorem UP         {s0 : AE}  {a : Option (Nat × Nat)} {cap : Option Nat} {b : List Bool} (hc : AU      s0.next s0 a (Gj  b)) (hl : b.length ≤ 1000000000) {Q : Ay   → Prop} {y1 : AV}
    (hq:∀S v out y3 y4 y5 y6,Af s0.next s0 S→In s0.next S v out→iG b b.length out→Q ⟨.exit 0,[.slice a b.length cap,y1,v,y3,y4,y5,y6],[],S⟩):
    ∀ (r i:Nat) (S:AE) (v:AV) (out:List Nat) (y4 y5 y6:AV),b.length - i=r→i≤b.length→Af s0.next s0 S→In s0.next S v out→iG b i out→WC E none (.loop HY) Q [.slice a b.length cap,y1,v,iv (i:Int),y4,y5,y6] [] S:=by
  intro r
  induction r with
  | zero =>
    intro i S v out y4 y5 y6 hi hi' ho hO hI
    have d0:decide ((i:Int)<(b.length:Int))=false:=decide_eq_false (by omega)
    refine WC.loop' ?_
    simp only[HY,Ol,AH Tryz.underlying124,Ry,d0,Qa,Qb,Qc,Qd,Qf,Qh,Qj,Qk,Qm,Qo,true_and,Qp,Qq,Qr,Qs,Qt,Qv,Ra,Rb,Rd,Re,Ry]
    exact hq S v out _ _ _ _ ho hO (by rw[show b.length=i by omega];exact hI)
  | succ r ih =>
    intro i S v out y4 y5 y6 hi hi' ho hO hI
    have hlt:i<b.length:=by omega
    have d0:decide ((i:Int)<(b.length:Int))=true:=decide_eq_true (by omega)
    have e17:=Az Tryz.prog 3 (i:Int) 1 ⟨by omega,by omega⟩
    have e17':((i:Int)+1)=((i+1:Nat):Int):=by omega
    have erem:AL Tryz.prog .rem 3 (iv (i:Int)) (.int .i64 32)=some (iv ((i % 32:Nat):Int)):=QO _ _ i 32 (by decide)
    have equo:AL Tryz.prog .quo 3 (iv (i:Int)) (.int .i64 32)=some (iv ((i / 32:Nat):Int)):=YU _ _ i 32 (by decide) (by omega)
    have hx:b[i]? = some b[i]:=xe hlt
    generalize hbi:b[i]=x at hx
    obtain⟨i0,o0,rfl,hi0,ld0⟩:=Da.load hc hx
    have ix:=Ae (cap:=cap) (i:=i0) (o:=o0) (n:=1) Tryz.underlying124 TB hlt
    have e232:(2:Nat) ^ 32=4294967296:=by decide
    have hLB:LB=4294967296:=rfl
    refine WC.loop' ?_
    generalize hW:WC E none (Aa.loop HY) Q=WW
    have key:∀ (S:AE) (v:AV) (lo:List Nat) (h:Nat) (y4 y5 y6:AV),Af s0.next s0 S→In s0.next S v (lo++[h])→lo.length=i / 32→Be lo→h<2 ^ (i % 32)→AG (lo++[h])=bv (b.take i) →
        Qa E none (.seq (.ops Om) (.cond (.var 6) (.ops TM) .skip)) (Eu 1 (If (fun v m s'=>Qa E none (.ops On) (If WW Q) v m s') (If WW Q))) [.slice (some (i0,o0)) b.length cap,y1,v,iv (i:Int),y4,y5,y6] [] S:=by
      intro S v lo h y4 y5 y6 ho hO hlo hls hh hval
      have ld:=EL Gp ho hi0 ld0
      have hp:2 ^ (i % 32) * 2≤2 ^ 32:=by rw[← yJ];exact yT (by decide) (by omega)
      cases x with
      | false =>
        simp only[Om,On,ix,ld,e17,e17',Qa,Qb,Qc,Qd,Qf,Qh,Qi,Qj,Qk,Qm,Qo,true_and,Qp,Qq,Qr,Qs,Qt,Qv,Ra,Rb,Re]
        rw[← hW]
        refine ih (i+1) S v (lo++[h]) _ _ _ (by omega) (by omega) ho hO (.inr ⟨by omega,lo,h,rfl,by rw[hlo,zH],hls,xi hh (yT (by decide) (by omega)),?_⟩)
        rw[hval,DV hx];rfl
      | true =>
        have hk:i / 32<(lo++[h]).length:=by rw[xp,hlo];show _<_+1;omega
        obtain⟨ir,S',rfl,lr,sr,hO',ho'⟩:=hO.set hk (h+2 ^ (i % 32))
        have hget:(lo++[h])[i / 32]=h:=by
          rw[List.getElem_append_right (by omega)];simp[hlo]
        rw[hget]at lr
        have hset:(lo++[h]).set (i / 32) (h+2 ^ (i % 32))=lo++[h+2 ^ (i % 32)]:=by
          rw[← hlo,List.set_append_right _ _ (xZ _),zi];rfl
        rw[hset]at hO'
        have ixr:=Ae (cap:=none) (i:=ir) (o:=0) (n:=1) Tryz.underlying22 Cx hk
        have esh:AL Tryz.prog .shl 76 (.int .u32 1) (iv ((i % 32:Nat):Int))=some (Aw (2 ^ (i % 32))):=vP _ _ (by omega)
        have eor:AL Tryz.prog .or 76 (Aw h) (Aw (2 ^ (i % 32)))=some (Aw (h+2 ^ (i % 32))):=wJ _ _ (by omega) hh
        simp only[Om,TM,On,ix,ld,equo,ixr,lr,erem,esh,eor,sr,e17,e17',Xy,Za,Qa,Qb,Qc,Qd,Qf,Qh,Qi,Qj,Qk,Qm,Qo,true_and,Qp,Qq,Qr,Qs,Qt,Qv,Qz,Rb,Re]
        rw[← hW]
        have ev:AV.slice (some (ir,0)) (lo++[h]).length none=.slice (some (ir,0)) (lo++[h+2 ^ (i % 32)]).length none:=by rw[xp,xp];rfl
        rw[ev]at hO' ⊢
        refine ih (i+1) S' _ (lo++[h+2 ^ (i % 32)]) _ _ _ (by omega) (by omega) (ho.trans ho') hO' (.inr ⟨by omega,lo,h+2 ^ (i % 32),rfl,by rw[hlo,zH],hls,?_,?_⟩)
        · have:2 ^ (i % 32+1)≤2 ^ (i+1 - 32 * ((i+1 - 1) / 32)):=yT (by decide) (by omega)
          rw[yJ]at this
          omega
        · rw [Ce]        at hval
          rw[Ce,DV hx,← hval,yB,OX,← zO,show 32 * lo.length+i % 32=i by omega]
          show _=_+2 ^ i * 1
          omega
    by_cases hm:i % 32=0
    · have dm : decide (((i % 32 : Nat) : Int) = 0) = true := decide_eq_true (by omega)
      have hlo:out.length=i / 32∧Be out∧AG out=bv (b.take i):=by
        rcases hI with⟨rfl,rfl⟩ | ⟨h0,lo,h,rfl,h1,h2,h3,h4⟩
        · exact⟨rfl,fun x hx=>(by cases hx),rfl⟩
        · refine ⟨by rw [xp,                 h1]; show _ + 1 = _; omega, fun y hy => ?_, h4⟩
          rcases zx.1 hy with hy | hy
          · exact h2 y hy
          · rw[A0H.1 hy]
            have:2 ^ (i - 32 * ((i - 1) / 32))≤2 ^ 32:=yT (by decide) (by omega)
            omega
      obtain⟨v',S',happ,hO',ho'⟩:=hO.push ho.1 (by omega) 0
      have er:Ad Tryz.prog 22 1 (zipIdx [0] [.int .u32 0])=some (R 76 1 false [Aw 0]):=Pu 0
      have hk:=key S' v' out 0 (.bool true) (.bool true) y6 (ho.trans ho') hO' hlo.1 hlo.2.1 (yt (by decide)) (by rw[Ce,yO,yF];exact hlo.2.2)
      simp only[HY,Ol,TL,Yp,AH Tryz.underlying124,Ry,Wc,d0,erem,dm,er,Xe,happ,Qa,Qb,Qc,Qd,Qf,Qh,Qi,Qj,Qk,Qm,Qo,true_and,Qp,Qq,Qr,Qs,Qt,Qv,Qz,Rb,Rd,Re,Yc,Ry,Wc]at hk ⊢
      exact hk
    · have dm:decide (((i % 32:Nat):Int)=0)=false:=decide_eq_false (by omega)
      rcases hI with⟨rfl,rfl⟩ | ⟨h0,lo,h,rfl,h1,h2,h3,h4⟩
      · exact absurd rfl hm
      · have hk:=key S v lo h (.bool true) (.bool false) y6 ho hO (by omega) h2 (by rw[show i % 32=i - 32 * ((i - 1) / 32) by omega];exact h3) h4
        simp only[HY,Ol,TL,AH Tryz.underlying124,Ry,Wc,d0,erem,dm,Qa,Qb,Qc,Qd,Qf,Qh,Qi,Qj,Qk,Qm,Qo,true_and,Qp,Qq,Qr,Qs,Qt,Qv,Qz,Ra,Rb,Rd,Re,Ry,Wc]at hk ⊢
        exact hk
theorem IR(hE:GoodN E){v:AV}{l:List Bool}(hv:Da s v l)(hl:l.length≤1000000000){K:AV→AE→Prop}(hK:∀s' w,Af s.next s s'→Bo s' w (AJ (bv l))→(∀j,By w=some j→s.next≤j∧j<s'.next)→K w s'):WF E 102 [v] K s:=by
 refine hE.go ip (by decide) rfl ?_
 simp only[uD,Yl,Ym,Qa,Qb,Qc,Qd,Qf,Qh,Qi,Qj,Qk,Ql,Qm,Qo,true_and,Qp,Qq,Qr,Qt,Qv,Rb,Rh,Rk,Rm,Rn,Yc]
 refine F8 hE hv (by omega) fun w hw=>?_
 obtain⟨a,cap,rfl,_,hc⟩:=hw
 have htl:=FI (Ec l)
 simp only[Yn,Yo,Qb,Qc,Qd,Qf,Qh,Qi,Qm,Qo,true_and,Qp,Qq,Qr,Qt,Qv]
 refine UP hc (by omega) (fun S v out y3 y4 y5 y6 ho hO hI=>?_) (Au (bv l)).length 0 s _ [] _ _ _ rfl (xg _) (Af.refl _ _) (In.nil _ _) (.inl ⟨rfl,rfl⟩)
 simp only[VH,if_true,Qb,Qc,Qd,Qf,Qh,Qj,Qm,Qo,true_and,Qp,Qq,Qr,Qs,Qt,Qv,Rb,Rd,Rg,Rj]
 have e:=hI.end
 have hn:=hO.n32
 rw[e]at hn
 refine hK S _ ho hn fun j hj=>?_
 obtain⟨O,h1,h2⟩:=hO
 exact⟨h2 j (h1.slotO hj),h1.lt j (h1.slotO hj)⟩
theorem Fy(hE:GoodN E){v:AV}{l:List Bool}(hv:Da s v l)(hl:l.length≤1000000000){K:AV→AE→Prop}(hK:∀s' w,Af s.next s s'→Bo s' w (AJ (bv l))→K w s'):WF E 102 [v] K s:=IR hE hv hl fun s' w o h _=>hK s' w o h
end
theorem GL(l:List Bool)(i:Nat):bv (l.take (i+1))=bv (l.take i)+2 ^ i * (l.getD i false).toNat:=by
 rcases xf i l.length with h | h
 ·have hx:l[i]? = some l[i]:=xe h
  rw[DV hx,zG,hx];rfl
 ·rw[yq (by omega),yq h,zG,xr h]
  show _=_+2 ^ i * 0
  omega
theorem Lc(l:List Bool)(i:Nat):bv l=bv (l.take i)+2 ^ i * bv (l.drop i):=by
 rcases xf l.length i with h | h
 ·rw[yq (by omega),yQ (by omega)]
  show _=_+2 ^ i * 0
  omega
 ·have:=Ji (l.take i) (l.drop i)
  rw[zB,xz,yv h]at this
  exact this
def ii(x y c:Bool):Bool:=(x && y) || (c && (x || y))
def iR(x y c:Bool):Bool:=(!x && (y || c)) || (x && y && c)
theorem ij(x y c:Bool):((x != y) != c).toNat+2 * (ii x y c).toNat=x.toNat+y.toNat+c.toNat:=by cases x<;>cases y<;>cases c<;>rfl
theorem iS(x y c:Bool):((x != y) != c).toNat+y.toNat+c.toNat=x.toNat+2 * (iR x y c).toNat:=by cases x<;>cases y<;>cases c<;>rfl
section
variable{E:CU}{s:AE}
theorem Xn        (hE : GoodN E) {s0 : AE}  {va vb : AV} {a b : List Bool} (ha : Da  s0 va a) (hb : Da  s0 vb b) (hal : a.length ≤ 100000000) (hbl : b.length ≤ 100000000) {Q : Ay   → Prop} {y2 : AV}
    (hq:∀S v out y4 y5 y6 y7 y8,Af s0.next s0 S→Fa s0.next S v out→out.length≤200000000→bv out=bv a+bv b→Q ⟨.exit 0,[va,vb,y2,v,y4,y5,y6,y7,y8],[],S⟩):
    ∀ (r i:Nat) (S:AE) (v:AV) (out:List Bool) (c:Bool) (y6 y7 y8:AV),max a.length b.length+1 - i=r→i≤max a.length b.length+1→Af s0.next s0 S→Fa s0.next S v out→out.length=i→bv out+2 ^ i * c.toNat=bv (a.take i)+bv (b.take i)→WC E none (.loop GM) Q [va,vb,y2,v,.bool c,iv (i:Int),y6,y7,y8] [] S:=by
  obtain⟨aa,ca,rfl,hca,hcca⟩:=ha
  obtain⟨ab,cb,rfl,hcb,hccb⟩:=hb
  intro r
  induction r with
  | zero =>
    intro i S v out c y6 y7 y8 hr hi ho hO hl hv
    have ei:i=max a.length b.length+1:=by omega
    have hta:a.take i=a:=yq (by omega)
    have htb:b.take i=b:=yq (by omega)
    have h1:=Ec a
    have h2:=Ec b
    have h3:2 ^ a.length≤2 ^ (i - 1):=yT (by decide) (by omega)
    have h4:2 ^ b.length≤2 ^ (i - 1):=yT (by decide) (by omega)
    have h5:2 ^ i=2 ^ (i - 1) * 2:=by rw[← yJ];congr 1;omega
    have hc:c=false:=by
      cases c with
      | false=>rfl
      | true =>
        rw[hta,htb]at hv
        have:2 ^ i * (true).toNat=2 ^ i:=by show _ * 1=_;omega
        omega
    subst hc
    have d1:decide ((i:Int)<(a.length:Int))=false:=decide_eq_false (by omega)
    have d2:decide ((i:Int)<(b.length:Int))=false:=decide_eq_false (by omega)
    refine WC.loop' ?_
    simp only[GM,Jm,AH Tryz.underlying124,Ry,d1,d2,Ru,Qa,Qb,Qc,Qd,Qf,Qg,Qh,Qi,Qj,Qk,Qm,Qo,true_and,Qp,Qq,Qr,Qs,Qt,Qv,Qw,Qx,Ra,Rb,Rd,Re,Rt,Yb,Ru,Rw,Ry]
    refine hq S v out _ _ _ _ _ ho hO (by omega) ?_
    rw[hta,htb]at hv
    exact hv
  | succ r ih =>
    intro i S v out c y6 y7 y8 hr hi ho hO hl hv
    have hi2:i≤max a.length b.length:=by omega
    have e17:=Az Tryz.prog 3 (i:Int) 1 ⟨by omega,by omega⟩
    have e17':((i:Int)+1)=((i+1:Nat):Int):=by omega
    have hba:Da S (.slice aa a.length ca) a:=Da.old ⟨aa,ca,rfl,hca,hcca⟩ ho
    have hbb:Da S (.slice ab b.length cb) b:=Da.old ⟨ab,cb,rfl,hcb,hccb⟩ ho
    by_cases hstop:a.length≤i∧b.length≤i∧c=false
    · obtain⟨q1,q2,rfl⟩:=hstop
      have d1:decide ((i:Int)<(a.length:Int))=false:=decide_eq_false (by omega)
      have d2:decide ((i:Int)<(b.length:Int))=false:=decide_eq_false (by omega)
      refine WC.loop' ?_
      simp only[GM,Jm,AH Tryz.underlying124,Ry,d1,d2,Ru,Qa,Qb,Qc,Qd,Qf,Qg,Qh,Qi,Qj,Qk,Qm,Qo,true_and,Qp,Qq,Qr,Qs,Qt,Qv,Qw,Qx,Ra,Rb,Rd,Re,Rt,Yb,Ru,Rw,Ry]
      refine hq S v out _ _ _ _ _ ho hO (by omega) ?_
      rw[yq q1,yq q2]at hv
      exact hv
    · have rest:Qa E none (.seq (.block 1 (.seq (.ops GN) (.seq (.ops GO) (.ops GP)))) (.ops GQ)) (If (WC E none (.loop GM) Q) Q) [.slice aa a.length ca,.slice ab b.length cb,y2,v,.bool c,iv (i:Int),y6,y7,.bool true] [] S:=by
        generalize hW:WC E none (Aa.loop GM) Q=WW
        simp only[GN,Qa,Qb,Qc,Qd,Qf,Qh,Qj,Qk,Qm,Qo,true_and,Qr,Qs,Qt,Qv,Rb,Re]
        refine Pl hE hba ?_
        simp only[Qd,Qo,true_and,Qr,Qs]
        refine Pl hE hbb ?_
        have hva:=GL a i
        have hvb:=GL b i
        generalize a.getD i false=x at hva ⊢
        generalize b.getD i false=y at hvb ⊢
        obtain⟨v',S',happ,hO',ho'⟩:=hO.push ho.1 (by omega) ((x != y) != c)
        have hn1:AL Tryz.prog .neq 4 (.bool x) (.bool y)=some (.bool (x != y)):=Ef x y
        have hn2:AL Tryz.prog .neq 4 (.bool (x != y)) (.bool c)=some (.bool ((x != y) != c)):=Ef _ _
        simp only[GO,hn1,hn2,Mv,Xe,happ,Qb,Qc,Qd,Qf,Qh,Qj,Qk,Qm,Qo,true_and,Qp,Qq,Qr,Qs,Qt,Qv,Yc]
        have fin:∀ (w:AV) (y8:AV),w=.bool (ii x y c)→WW [.slice aa a.length ca,.slice ab b.length cb,y2,v',w,iv ((i+1:Nat):Int),.bool x,.bool y,y8] [] S':=fun w y8 hw=>by
          subst hw
          rw[← hW]
          refine ih (i+1) S' v' _ (ii x y c) _ _ _ (by omega) (by omega) (ho.trans ho') hO' (by rw[xp,hl];rfl) ?_
          rw[GK,hl,hva,hvb,yJ]
          have hcv:=ij x y c
          have e1:2 ^ i * ((x != y) != c).toNat+2 ^ i * 2 * (ii x y c).toNat=2 ^ i * x.toNat+2 ^ i * y.toNat+2 ^ i * c.toNat:=by
            rw[xw,← yB,hcv,yB,yB]
          omega
        cases x<;>cases y<;>cases c<;>(simp only[GP,GQ,e17,e17',Ru,Qb,Qc,Qd,Qf,Qg,Qh,Qi,Qj,Qk,Qm,Qo,true_and,Qp,Qq,Qr,Qs,Qt,Qu,Qv,Qw,Qx,Qy,Rq,Rs,Rt,Ya,Yb,Ru,Rw];exact fin _ _ rfl)
      refine WC.loop' ?_
      by_cases q1:i<a.length
      · have d1:decide ((i:Int)<(a.length:Int))=true:=decide_eq_true (by omega)
        simp only[GN,GO,GP,GQ,Qa,Qb,Qc,Qd,Qf,Qg,Qh,Qi,Qj,Qk,Qm,Qo,true_and,Qr,Qs,Qt,Qv,Qw,Rb,Re,Ru,Rw]at rest
        simp only[GM,Jm,GN,GO,GP,GQ,AH Tryz.underlying124,Ry,d1,Ru,Qa,Qb,Qc,Qd,Qf,Qg,Qh,Qi,Qj,Qk,Qm,Qo,true_and,Qp,Qq,Qr,Qs,Qt,Qu,Qv,Qw,Qx,Qz,Rb,Rd,Re,Rt,Ya,Ru,Rw,Ry]
        exact rest
      · have d1:decide ((i:Int)<(a.length:Int))=false:=decide_eq_false (by omega)
        by_cases q2:i<b.length
        · have d2:decide ((i:Int)<(b.length:Int))=true:=decide_eq_true (by omega)
          simp only[GN,GO,GP,GQ,Qa,Qb,Qc,Qd,Qf,Qg,Qh,Qi,Qj,Qk,Qm,Qo,true_and,Qr,Qs,Qt,Qv,Qw,Rb,Re,Ru,Rw]at rest
          simp only[GM,Jm,GN,GO,GP,GQ,AH Tryz.underlying124,Ry,d1,d2,Ru,Qa,Qb,Qc,Qd,Qf,Qg,Qh,Qi,Qj,Qk,Qm,Qo,true_and,Qp,Qq,Qr,Qs,Qt,Qu,Qv,Qw,Qx,Qz,Rb,Rd,Re,Rt,Ya,Yb,Ru,Rw,Ry]
          exact rest
        · have d2 : decide ((i : Int) < (b.length : Int)) = false := decide_eq_false (by omega)
          have hc:c=true:=by
            cases c with
            | true=>rfl
            | false=>exact absurd ⟨by omega,by omega,rfl⟩ hstop
          subst hc
          simp only[GN,GO,GP,GQ,Qa,Qb,Qc,Qd,Qf,Qg,Qh,Qi,Qj,Qk,Qm,Qo,true_and,Qr,Qs,Qt,Qv,Qw,Rb,Re,Ru,Rw]at rest
          simp only[GM,Jm,GN,GO,GP,GQ,AH Tryz.underlying124,Ry,d1,d2,Ru,Qa,Qb,Qc,Qd,Qf,Qg,Qh,Qi,Qj,Qk,Qm,Qo,true_and,Qp,Qq,Qr,Qs,Qt,Qv,Qw,Qx,Qz,Rb,Rd,Re,Rt,Yb,Ru,Rw,Ry]
          exact rest
theorem j8(hE:GoodN E){va vb:AV}{a b:List Bool}(ha:Da s va a)(hb:Da s vb b)(hal:a.length≤100000000)(hbl:b.length≤100000000){K:AV→AE→Prop}(hK:∀s' w out,Af s.next s s'→Da s' w out→out.length≤200000000→bv out=bv a+bv b→K w s'):WF E 145 [va,vb] K s:=by
 refine hE.go jP (by decide) rfl ?_
 simp only[uc,ae,af,ah,ai,Qa,Qb,Qc,Qd,Qf,Qh,Qi,Qj,Ql,Qm,Qo,true_and,Qp,Qq,Qt,Qv,Rb,Rh,Rk,Rm,Rn,Yc]
 refine Xn hE ha hb hal hbl (fun S v out y4 y5 y6 y7 y8 ho hO hl hv=>?_) (max a.length b.length+1) 0 s _ [] false _ _ _ rfl (xg _) (Af.refl _ _) (Fa.nil _ _) rfl rfl
 simp only[VW,if_true,Qb,Qc,Qd,Qf,Qh,Qj,Qm,Qo,true_and,Qp,Qq,Qr,Qs,Qt,Qv,Rb,Rd,Rg,Rj]
 exact hK S v out ho hO.rd hl hv
end
theorem rE{a b t:List Bool}{i:Nat}{x y:Bool}(ha:i≤a.length)(hb:i≤b.length)(hda:a.drop i=x::t)(hdb:b.drop i=y::t)(hxy:x≠y):decide (bv a<bv b)=y:=by
  have h1:=Lc a i
  have h2:=Lc b i
  have h3:=Ec (a.take i)
  have h4:=Ec (b.take i)
  rw[xz,yv ha]at h3
  rw[xz,yv hb]at h4
  rw[hda,show bv (x::t)=x.toNat+2 * bv t from rfl,yB]at h1
  rw[hdb,show bv (y::t)=y.toNat+2 * bv t from rfl,yB]at h2
  generalize 2 ^ i * (2 * bv t)=z at h1 h2
  cases x<;>cases y
  · exact absurd rfl hxy
  · have e1 : 2 ^ i * (false).toNat = 0 := yO           _
    have e2:2 ^ i * (true).toNat=2 ^ i:=xj _
    exact decide_eq_true (by omega)
  · have e1 : 2 ^ i * (false).toNat = 0 := yO           _
    have e2:2 ^ i * (true).toNat=2 ^ i:=xj _
    exact decide_eq_false (by omega)
  · exact absurd rfl hxy
section
variable{E:CU}{s:AE}
theorem Uj{aa ab:Option (Nat×Nat)}{ca cb:Option Nat}{a b:List Bool}(hca:AU s.next s aa (Gj a))(hcb:AU s.next s ab (Gj b))(hab:a.length=b.length)(hl:a.length≤1000000000){Q:Ay→Prop}{y2 y4:AV}
    (hq0:a=b→∀y3 y5 y6,Q ⟨.exit 0,[.slice aa a.length ca,.slice ab b.length cb,y2,y3,y4,y5,y6],[],s⟩)
    (hq1:∀y3 y5 y6,Q ⟨.ret,[.slice aa a.length ca,.slice ab b.length cb,.bool (decide (bv a<bv b)),y3,y4,y5,y6],[],s⟩):
    ∀ (i:Nat) (y5 y6:AV),i≤a.length→a.drop i=b.drop i→WC E none (.loop HZ) Q [.slice aa a.length ca,.slice ab b.length cb,y2,iv ((i:Int) - 1),y4,y5,y6] [] s:=by
  intro i
  induction i with
  | zero =>
    intro y5 y6 _ hd
    refine WC.loop' ?_
    simp only[HZ,Ov,Wb,show decide ((((0:Nat):Int) - 1)≥0)=false from rfl,Qa,Qb,Qc,Qd,Qf,Qh,Qi,Qj,Qm,Qo,true_and,Qp,Qq,Qr,Qs,Qt,Qv,Ra,Rb,Rc,Rd,Re,Rf,Wb]
    exact hq0 (by simpa using hd) _ _ _
  | succ i ih =>
    intro y5 y6 hi hd
    have e0:(((i+1:Nat):Int) - 1)=(i:Int):=by omega
    rw[e0]
    have d0:decide ((i:Int)≥0)=true:=decide_eq_true (by omega)
    have es:=CP Tryz.prog 3 (i:Int) 1 ⟨by omega,by omega⟩
    have hxa:a[i]? = some (a[i]'(by omega)):=xe (by omega)
    have hxb:b[i]? = some (b[i]'(by omega)):=xe (by omega)
    generalize a[i]'(by omega)=x at hxa
    generalize b[i]'(by omega)=y at hxb
    obtain⟨ia,oa,rfl,_,lda⟩:=Da.load hca hxa
    obtain⟨ib,ob,rfl,_,ldb⟩:=Da.load hcb hxb
    have ixa:=Ae (cap:=ca) (i:=ia) (o:=oa) (n:=1) (len:=a.length) (k:=i) Tryz.underlying124 TB (by omega)
    have ixb:=Ae (cap:=cb) (i:=ib) (o:=ob) (n:=1) (len:=b.length) (k:=i) Tryz.underlying124 TB (by omega)
    have hne:AL Tryz.prog .neq 4 (.bool x) (.bool y)=some (.bool (x != y)):=Ef x y
    have hda:a.drop i=x::a.drop (i+1):=by
      have hlt:i<a.length:=by omega
      rw[yV hlt]
      rw[xe hlt]at hxa
      injection hxa with hxa
      rw[hxa]
    have hdb:b.drop i=y::b.drop (i+1):=by
      have hlt:i<b.length:=by omega
      rw[yV hlt]
      rw[xe hlt]at hxb
      injection hxb with hxb
      rw[hxb]
    refine WC.loop' ?_
    generalize hW:WC E none (Aa.loop HZ) Q=WW
    by_cases hxy:x=y
    · subst hxy
      simp only[HZ,Ov,Tb,aJ,Wb,d0,ixa,ixb,lda,ldb,hne,bne_self_eq_false,es,Qa,Qb,Qc,Qd,Qf,Qh,Qi,Qj,Qk,Qm,Qo,true_and,Qp,Qq,Qr,Qs,Qt,Qv,Qz,Ra,Rb,Rc,Rd,Re,Rf,Wb]
      rw[← hW]
      exact ih _ _ (by omega) (by rw[hda,hdb,hd])
    · have hb : (x != y) = true := by cases x <;> cases y <;> first | rfl | exact absurd rfl hxy
      have hlt:decide (bv a<bv b)=y:=rE (by omega) (by omega) hda (by rw[hdb,hd]) hxy
      simp only[HZ,Ov,Tb,aI,Wb,d0,ixa,ixb,lda,ldb,hne,hb,Qa,Qb,Qc,Qd,Qf,Qh,Qi,Qj,Qk,Qm,Qo,true_and,Qp,Qq,Qr,Qs,Qt,Qv,Qz,Rb,Rc,Rd,Re,Rf,Wb]
      rw[← hlt]
      exact hq1 _ _ _
theorem JO(hE:GoodN E){va vb:AV}{a b:List Bool}(ha:Da s va a)(hb:Da s vb b)(hal:a.length≤1000000000)(hbl:b.length≤1000000000){K:AV→AE→Prop}(hK:K (.bool (decide (bv a<bv b))) s):WF E 139 [va,vb] K s:=by
  refine hE.go jM (by decide) rfl ?_
  simp only[uZ,aC,aE,Qa,Qb,Qc,Qd,Qf,Qh,Qi,Qj,Qk,Ql,Qm,Qo,true_and,Qp,Qq,Qr,Qt,Qv,Rb,Rc,Rh,Rk,Rm,Rn,Yc]
  refine F8 hE ha (by omega) fun wa hwa=>?_
  simp only[aF,Qb,Qc,Qd,Qf,Qh,Qj,Qk,Qm,Qo,true_and,Qp,Qr,Qs,Qt,Qv]
  refine F8 hE hb (by omega) fun wb hwb=>?_
  have hla:=FI (Ec a)
  have hlb:=FI (Ec b)
  have hva:=BH (bv a)
  have hvb:=BH (bv b)
  have hga:=@Og (bv a)
  have hgb:=@Og (bv b)
  have ha2:=Ec (Au (bv a))
  have hb2:=Ec (Au (bv b))
  rw[hva]at ha2
  rw[hvb]at hb2
  rw[← hva,← hvb]at hK
  have hza:bv a=0→(Au (bv a)).length=0:=fun h=>by rw[h,B8];rfl
  have hzb:bv b=0→(Au (bv b)).length=0:=fun h=>by rw[h,B8];rfl
  have hlen:(Au (bv a)).length≠(Au (bv b)).length→decide (((Au (bv a)).length:Int)<((Au (bv b)).length:Int))=decide (bv (Au (bv a))<bv (Au (bv b))):=fun hne=>by
    rw[hva,hvb]
    rcases xf (Au (bv a)).length (Au (bv b)).length with h | h
    · rw[decide_eq_true (show((Au (bv a)).length:Int)<((Au (bv b)).length:Int) by omega)]
      have hb0:bv b≠0:=fun h0=>by have:=hzb h0;omega
      have h1:=hgb hb0
      have h2:2 ^ (Au (bv a)).length≤2 ^ ((Au (bv b)).length - 1):=yT (by decide) (by omega)
      exact(decide_eq_true (by omega)).symm
    · rw[decide_eq_false (show ¬ ((Au (bv a)).length:Int)<((Au (bv b)).length:Int) by omega)]
      have ha0:bv a≠0:=fun h0=>by have:=hza h0;omega
      have h1:=hga ha0
      have h2:2 ^ (Au (bv b)).length≤2 ^ ((Au (bv a)).length - 1):=yT (by decide) (by omega)
      exact(decide_eq_false (by omega)).symm
  clear hga hgb ha2 hb2 hza hzb hva hvb
  generalize Au (bv a)=a' at *
  generalize Au (bv b)=b' at *
  obtain⟨aa,ca,rfl,_,hca⟩:=hwa
  obtain⟨ab,cb,rfl,_,hcb⟩:=hwb
  by_cases hab:a'.length=b'.length
  · have dne : decide ((a'.length : Int) ≠ (b'.length : Int)) = false := decide_eq_false (by omega)
    have es:=CP Tryz.prog 3 (a'.length:Int) 1 ⟨by omega,by omega⟩
    simp only[Ta,aH,AH Tryz.underlying124,Wd,dne,es,Qb,Qc,Qd,Qf,Qh,Qi,Qj,Qk,Qm,Qo,true_and,Qp,Qq,Qr,Qs,Qt,Qv,Ra,Wd]
    refine Uj hca hcb hab (by omega) (fun e y3 y5 y6=>?_) (fun y3 y5 y6=>?_) a'.length _ _ (xZ _) (by rw[yQ (xZ _),yQ (by omega)])
    · subst e
      simp only[VU,if_true,Qb,Qc,Qd,Qf,Qh,Qi,Qm,Qo,true_and,Qp,Qq,Qr,Qs,Qt,Qv,Rb,Rd,Rg,Rj]
      rw[show decide (bv a'<bv a')=false from decide_eq_false (Nat.lt_irrefl _)]at hK
      exact hK
    · simp only[Qj,Qm,Qr,Qs,Rc,Rf,Rh,Rj,Rk,Rm,Rn,Yc]
      exact hK
  · have dne:decide ((a'.length:Int)≠(b'.length:Int))=true:=decide_eq_true (by omega)
    simp only[Ta,aG,AH Tryz.underlying124,Wd,dne,Ry,Qb,Qc,Qd,Qf,Qh,Qj,Qk,Qm,Qo,true_and,Qp,Qq,Qr,Qs,Qt,Qv,Qz,Rj,Ry,Wd]
    rw[hlen hab]
    exact hK
theorem Xv        (hE : GoodN E) {s0 : AE}  {va vb : AV} {a b : List Bool} (ha : Da  s0 va a) (hb : Da  s0 vb b) (hal : a.length ≤ 1000000000) {Q : Ay   → Prop} {y2 : AV}
    (hq:∀S v out c y5 y6 y7 y8,Af s0.next s0 S→Fa s0.next S v out→out.length=a.length→bv out+bv (b.take a.length)=bv a+2 ^ a.length * Bool.toNat c→Q ⟨.exit 0,[va,vb,y2,v,.bool c,y5,y6,y7,y8],[],S⟩):
    ∀ (r i:Nat) (S:AE) (v:AV) (out:List Bool) (c:Bool) (y6 y7 y8:AV),a.length - i=r→i≤a.length→Af s0.next s0 S→Fa s0.next S v out→out.length=i→bv out+bv (b.take i)=bv (a.take i)+2 ^ i * c.toNat→WC E none (.loop Lh) Q [va,vb,y2,v,.bool c,iv (i:Int),y6,y7,y8] [] S:=by
  obtain⟨aa,ca,rfl,hca,hcca⟩:=ha
  obtain⟨ab,cb,rfl,hcb,hccb⟩:=hb
  intro r
  induction r with
  | zero =>
    intro i S v out c y6 y7 y8 hr hi ho hO hl hv
    have d1:decide ((i:Int)<(a.length:Int))=false:=decide_eq_false (by omega)
    have e:i=a.length:=by omega
    refine WC.loop' ?_
    simp only[Lh,Tc,AH Tryz.underlying124,Ry,d1,Qa,Qb,Qc,Qd,Qf,Qh,Qj,Qk,Qm,Qo,true_and,Qp,Qq,Qr,Qs,Qt,Qv,Ra,Rb,Rd,Re,Ry]
    refine hq S v out c _ _ _ _ ho hO (by omega) ?_
    rw[e,yq (xZ a.length)]at hv
    exact hv
  | succ r ih =>
    intro i S v out c y6 y7 y8 hr hi ho hO hl hv
    have hlt:i<a.length:=by omega
    have d1:decide ((i:Int)<(a.length:Int))=true:=decide_eq_true (by omega)
    have e17:=Az Tryz.prog 3 (i:Int) 1 ⟨by omega,by omega⟩
    have e17':((i:Int)+1)=((i+1:Nat):Int):=by omega
    have hbb:Da S (.slice ab b.length cb) b:=Da.old ⟨ab,cb,rfl,hcb,hccb⟩ ho
    have hx:a[i]? = some a[i]:=xe hlt
    have hva:=DV hx
    generalize a[i]=x at hx hva
    obtain⟨ia,oa,rfl,hia,lda0⟩:=Da.load hcca hx
    have lda:=EL Gp ho hia lda0
    have ixa:=Ae (cap:=ca) (i:=ia) (o:=oa) (n:=1) Tryz.underlying124 TB hlt
    refine WC.loop' ?_
    generalize hW:WC E none (Aa.loop Lh) Q=WW
    simp only[Lh,Tc,aO,AH Tryz.underlying124,Ry,d1,ixa,lda,Qa,Qb,Qc,Qd,Qf,Qh,Qj,Qk,Qm,Qo,true_and,Qp,Qq,Qr,Qs,Qt,Qv,Qz,Rb,Rd,Re,Ry]
    refine Pl hE hbb ?_
    refine⟨⟨As (by simp only[Qk,Qr,Qs];exact lda) (by simp only[Qk,Qr,Qs];exact Ed _),trivial⟩,?_⟩
    have hvb:=GL b i
    generalize b.getD i false=y at hvb ⊢
    obtain⟨v',S',happ,hO',ho'⟩:=hO.push ho.1 (by omega) ((x != y) != c)
    have hn1:AL Tryz.prog .neq 4 (.bool x) (.bool y)=some (.bool (x != y)):=Ef x y
    have hn2:AL Tryz.prog .neq 4 (.bool (x != y)) (.bool c)=some (.bool ((x != y) != c)):=Ef _ _
    simp only[aP,hn1,hn2,Mv,Xe,happ,Qb,Qc,Qd,Qf,Qh,Qj,Qk,Qm,Qo,true_and,Qp,Qq,Qr,Qs,Qt,Qv,Yc]
    have fin:∀ (w:AV) (y8:AV),w=.bool (iR x y c)→WW [.slice (some (ia,oa)) a.length ca,.slice ab b.length cb,y2,v',w,iv ((i+1:Nat):Int),.bool x,.bool y,y8] [] S':=fun w y8 hw=>by
      subst hw
      rw[← hW]
      refine ih (i+1) S' v' _ (iR x y c) _ _ _ (by omega) (by omega) (ho.trans ho') hO' (by rw[xp,hl];rfl) ?_
      rw[GK,hl,hva,hvb,yJ]
      have hcv:=iS x y c
      have e1:2 ^ i * ((x != y) != c).toNat+2 ^ i * y.toNat+2 ^ i * c.toNat=2 ^ i * x.toNat+2 ^ i * 2 * (iR x y c).toNat:=by
        rw[← yB,← yB,hcv,yB,xw]
      omega
    cases x<;>cases y<;>cases c<;>(simp only[aQ,aR,e17,e17',Ru,We,Bool.not_true,Bool.not_false,Qb,Qc,Qd,Qf,Qg,Qh,Qi,Qj,Qk,Qm,Qo,true_and,Qp,Qq,Qr,Qs,Qt,Qu,Qv,Qw,Qx,Qy,Rq,Rs,Rt,Ya,Yb,Ru,Rw,We];exact fin _ _ rfl)
theorem Sf(hE:GoodN E){va vb:AV}{a b:List Bool}(ha:Da s va a)(hb:Da s vb b)(hal:a.length≤1000000000)(hle:bv b≤bv a){K:AV→AE→Prop}(hK:∀s' w,Af s.next s s'→Da s' w (Au (bv a - bv b))→(∀j,By w=some j→s.next≤j)→K w s'):WF E 140 [va,vb] K s:=by
 refine hE.go jN (by decide) rfl ?_
 simp only[ua,aK,aL,aM,aN,Qa,Qb,Qc,Qd,Qf,Qh,Qi,Qj,Ql,Qm,Qo,true_and,Qp,Qq,Qt,Qv,Rb,Rh,Rk,Rm,Rn,Yc]
 refine Xv hE ha hb hal (fun S v out c y5 y6 y7 y8 ho hO hl hv=>?_) a.length 0 s _ [] false _ _ _ rfl (xg _) (Af.refl _ _) (Fa.nil _ _) rfl rfl
 simp only[VV,if_true,Qb,Qc,Qd,Qf,Qh,Qj,Qk,Qm,Qo,true_and,Qr,Qs,Qt,Qv,Rb,Rd,Rg,Rj]
 refine KC hE hO.rd (by omega) fun w hw hsl=>?_
 simp only[Qd,Qo,true_and,Qp,Qq,Qr,Qs]
 have h1:=Lc b a.length
 have h2:=Ec a
 have h3:=Ec out
 rw[hl]at h3
 have h4:bv (b.drop a.length)=0:=by
  rcases yX (bv (b.drop a.length))with h | h
  ·exact h
  ·have:2 ^ a.length * 1≤2 ^ a.length * bv (b.drop a.length):=yZ _ h
   omega
 rw[h4,yO]at h1
 have h5:bv out=bv a - bv b:=by
  cases c with
  | false=>have:2 ^ a.length * (false).toNat=0:=yO _;omega
  | true=>have:2 ^ a.length * (true).toNat=2 ^ a.length:=xj _;omega
 rw[h5]at hw
 exact hK S w ho hw fun j hj=>by
  obtain⟨O,h1',h2'⟩:=hO
  exact h2' j (h1'.slotO (hsl j hj))
theorem kE(hE:GoodN E){va vb:AV}{a b:List Bool}(ha:Da s va a)(hb:Da s vb b)(hal:a.length≤1000000000)(hle:bv b≤bv a){K:AV→AE→Prop}(hK:∀s' w,Af s.next s s'→Da s' w (Au (bv a - bv b))→K w s'):WF E 140 [va,vb] K s:=
 Sf hE ha hb hal hle fun s' w o h _=>hK s' w o h
end
def Nb:List Nat→Nat
 | []=>0
 | x::l=>x+2 * Nb l
def ns(l:List Nat):List AV:=l.map fun(n:Nat)=>iv (n:Int)
theorem tP(l:List Nat):(ns l).length=l.length:=by simp[ns]
theorem fw{l:List Nat}{k x:Nat}(h:l[k]? = some x):(ns l)[k]? = some (iv (x:Int)):=by simp[ns,h]
theorem tQ(l:List Nat)(k x:Nat):(ns l).set k (iv (x:Int))=ns (l.set k x):=by simp[ns,List.map_set]
theorem em:∀ {l:List Nat}{k x:Nat},l[k]? = some x→Nb (l.set k (x+1))=Nb l+2 ^ k
 | y::l,0,x,h=>by
  injection h with h
  subst h
  show y+1+2 * Nb l=y+2 * Nb l+1
  omega
 | y::l,k+1,x,h=>by
  show y+2 * Nb (l.set k (x+1))=y+2 * Nb l+2 ^ (k+1)
  rw[em (l:=l) (k:=k) h,yJ];omega
theorem tC(n:Nat):Nb (List.replicate n 0)=0:=by
 induction n with
 | zero=>rfl
 | succ n ih=>show 0+2 * Nb (List.replicate n 0)=0;rw[ih]
theorem Vt:∀ {l:List Nat}{k x:Nat},l[k]? = some x→Nb (l.take (k+1))=Nb (l.take k)+2 ^ k * x
 | y::l,0,x,h=>by
  injection h with h
  subst h
  show y+2 * 0=0+1 * y
  omega
 | y::l,k+1,x,h=>by
  show y+2 * Nb (l.take (k+1))=y+2 * Nb (l.take k)+2 ^ (k+1) * x
  rw[Vt (l:=l) (k:=k) h,yB,yJ,← xw,xy 2 (2 ^ k)];omega
theorem tX(n:Nat):NL [AV.int .i64 0] n=ns (List.replicate n 0):=by
  induction n with
  | zero=>rfl
  | succ n ih =>
    show [AV.int .i64 0]++NL [AV.int .i64 0] n=iv ((0:Nat):Int)::ns (List.replicate n 0)
    rw[ih];rfl
theorem XW(n:Nat)(h:n≤100000000000):BV Tryz.prog 27 (iv (n:Int)) (iv (n:Int))=some (R 3 1 false (ns (List.replicate n 0)),.slice n):=by
 have e:BV Tryz.prog 27 (.int .i64 (.ofNat n)) (.int .i64 (.ofNat n))=some (F2 3 1 (NL [AV.int .i64 0] n),.slice n):=by
  simp[BV,Tryz.underlying27,ve,OJ,zr3,AP,CQ (show 8 * n≤1099511627776 by omega),CQ (show n≤1099511627776 by omega),AV.cells]
 rw[tX]at e
 exact e
theorem YT(P:Program)(t:TypeId)(a b:Nat)(hb:b≠0)(ha:a≤4000000000000000000):AL P .quo t (iv (a:Int)) (.int .i64 (b:Int))=some (iv ((a / b:Nat):Int)):=by
 show(DI P (Op.intDiv .quo .i64 (a:Int) (b:Int))).bind ofValue=_
 have hb':¬ ((b:Int)=0):=by omega
 unfold Op.intDiv
 rw[if_neg hb']
 show some (AV.int .i64 (IntKind.wrap .i64 ((a:Int).tdiv (b:Int))))=_
 rw[show(a:Int).tdiv (b:Int)=((a / b:Nat):Int)from rfl,← FS,HU]
 have:a / b≤a:=yj a b
 generalize a / b=q at this ⊢
 exact⟨by omega,by omega⟩
section
variable{E:CU}{s:AE}
theorem kA      {q N V B i : Nat} {aa ab : Option (Nat × Nat)} {ca cb : Option Nat} {a b : List Bool} (hca : AU      q s aa (Gj  a)) (hcb : AU      q s ab (Gj  b)) {x : Bool} (hx : a[i]? = some x) (hN : N = a.length + b.length) (hNl : N ≤ 400000000) (hB : B + b.length ≤ 1000000000000000000) {Q : Ay   → Prop} {y2 y6 y7 y8 y9 y12 : AV}
    (hq:∀S n y5 y10 y11,II s S q→Cf S q (ns n) none→n.length=N→Nb n=V+2 ^ i * (x.toNat * bv b)→(∀y∈n,y≤B+b.length)→Q ⟨.exit 2,[.slice aa a.length ca,.slice ab b.length cb,y2,.slice (some (q,0)) N (some N),iv (i:Int),y5,y6,y7,y8,y9,y10,y11,y12],[],S⟩):
    ∀ (r k:Nat) (S:AE) (n:List Nat) (y10 y11:AV),b.length - k=r→k≤b.length→(x=false→k=0)→II s S q→Cf S q (ns n) none→n.length=N→Nb n=V+2 ^ i * (x.toNat * bv (b.take k))→(∀y∈n,y≤B+k)→WC E none (.loop Gz) Q [.slice aa a.length ca,.slice ab b.length cb,y2,.slice (some (q,0)) N (some N),iv (i:Int),iv (k:Int),y6,y7,y8,y9,y10,y11,y12] [] S:=by
  have hil:i<a.length:=by
    rcases xf i a.length with h' | h'
    · exact h'
    · rw[xr h']at hx;cases hx
  have ldx:∀ (S:AE),II s S q→∃ia oa,aa=some (ia,oa)∧AC Tryz.prog S 4 (.ptr (some (ia,oa+i * 1)))=some (.bool x):=fun S ho=>by
    obtain⟨ia,oa,e,h1,h2⟩:=hca i _ (Kz hx)
    exact⟨ia,oa,e,Bd Gp (by rw[xj,B6 (ho.get ia (by omega))];exact h2)⟩
  intro r
  induction r with
  | zero =>
    intro k S n y10 y11 hr hk hxk ho hown hn hv hbd
    have ek:k=b.length:=by omega
    obtain⟨ia,oa,rfl,lda⟩:=ldx S ho
    have ixa:=Ae (cap:=ca) (i:=ia) (o:=oa) (n:=1) Tryz.underlying124 TB hil
    have d1:decide ((k:Int)<(b.length:Int))=false:=decide_eq_false (by omega)
    have hv':Nb n=V+2 ^ i * (x.toNat * bv b):=by rw[hv,ek,yq (xZ _)]
    refine WC.loop' ?_
    cases x with
    | true =>
      simp only[Gz,Jj,ixa,lda,AH Tryz.underlying124,Ry,d1,Ru,Qa,Qb,Qc,Qd,Qf,Qg,Qh,Qi,Qj,Qk,Qm,Qo,true_and,Qp,Qq,Qr,Qs,Qt,Qv,Qw,Qx,Ra,Rb,Rd,Re,Rs,Ru,Rw,Ry]
      exact hq S n _ _ _ ho hown hn hv' (fun y hy=>by have:=hbd y hy;omega)
    | false =>
      simp only[Gz,Jj,ixa,lda,Ru,Qa,Qb,Qc,Qd,Qf,Qg,Qh,Qi,Qj,Qk,Qm,Qo,true_and,Qp,Qq,Qr,Qs,Qt,Qu,Qv,Qw,Qx,Ra,Rb,Rd,Re,Rs,Ru,Rw]
      exact hq S n _ _ _ ho hown hn hv' (fun y hy=>by have:=hbd y hy;omega)
  | succ r ih =>
    intro k S n y10 y11 hr hk hxk ho hown hn hv hbd
    have hlt:k<b.length:=by omega
    obtain⟨ia,oa,rfl,lda⟩:=ldx S ho
    have ixa:=Ae (cap:=ca) (i:=ia) (o:=oa) (n:=1) Tryz.underlying124 TB hil
    have d1:decide ((k:Int)<(b.length:Int))=true:=decide_eq_true (by omega)
    have e17:=Az Tryz.prog 3 (k:Int) 1 ⟨by omega,by omega⟩
    have e17':((k:Int)+1)=((k+1:Nat):Int):=by omega
    cases x with
    | false =>
      refine WC.loop' ?_
      simp only[Gz,Jj,ixa,lda,Ru,Qa,Qb,Qc,Qd,Qf,Qg,Qh,Qi,Qj,Qk,Qm,Qo,true_and,Qp,Qq,Qr,Qs,Qt,Qu,Qv,Qw,Qx,Ra,Rb,Rd,Re,Rs,Ru,Rw]
      refine hq S n _ _ _ ho hown hn ?_ (fun y hy=>by have:=hbd y hy;omega)
      rw[hv]
      show _+2 ^ i * (0 * _)=_+2 ^ i * (0 * _)
      rw[yo,yo]
    | true =>
      have hxb:b[k]? = some b[k]:=xe hlt
      have hvb:=DV hxb
      generalize b[k]=z at hxb hvb
      obtain⟨ib,ob,rfl,hib,gb⟩:=hcb k _ (Kz hxb)
      have ldb:AC Tryz.prog S 4 (.ptr (some (ib,ob+k * 1)))=some (.bool z):=Bd Gp (by rw[xj,B6 (ho.get ib (by omega))];exact gb)
      have ixb:=Ae (cap:=cb) (i:=ib) (o:=ob) (n:=1) Tryz.underlying124 TB hlt
      refine WC.loop' ?_
      generalize hW:WC E none (Aa.loop Gz) Q=WW
      cases z with
      | false =>
        simp only[Gz,Jj,TO,TP,ixa,lda,ixb,ldb,AH Tryz.underlying124,Ry,d1,Ru,e17,e17',Qa,Qb,Qc,Qd,Qf,Qg,Qh,Qi,Qj,Qk,Qm,Qo,true_and,Qp,Qq,Qr,Qs,Qt,Qv,Qw,Qx,Qz,Ra,Rb,Rd,Re,Rs,Ru,Rw,Ry]
        rw[← hW]
        refine ih (k+1) S n _ _ (by omega) (by omega) (fun h=>by cases h) ho hown hn ?_ (fun y hy=>by have:=hbd y hy;omega)
        rw[hv,hvb,show 2 ^ k * (false).toNat=0 from yO _,yF]
      | true =>
        have hik:i+k<n.length:=by omega
        have hnk:n[i+k]? = some n[i+k]:=xe hik
        have hle:=hbd n[i+k] (zQ hik)
        generalize n[i+k]=w at hnk hle
        have eik:=Az Tryz.prog 3 (i:Int) (k:Int) ⟨by omega,by omega⟩
        have eik':((i:Int)+(k:Int))=((i+k:Nat):Int):=by omega
        have ixn:=Ae (cap:=some N) (i:=q) (o:=0) (n:=1) (len:=N) (k:=i+k) Tryz.underlying27 OJ (by omega)
        have ldn:AC Tryz.prog S 3 (.ptr (some (q,0+(i+k) * 1)))=some (iv (w:Int)):=HH t7 hown (by rw[xj,xu];exact fw hnk)
        have einc:=Az Tryz.prog 3 (w:Int) 1 ⟨by omega,by omega⟩
        have einc':((w:Int)+1)=((w+1:Nat):Int):=by omega
        obtain⟨S',e1,e2,e3,e4⟩:=EU (P:=Tryz.prog) (t:=3) (o:=0+(i+k) * 1) (v:=iv ((w+1:Nat):Int)) OJ hown (by rw[tP];omega) rfl
        rw[show 0+(i+k) * 1=i+k by omega,tQ]at e2
        simp only[Gz,Jj,TO,Yu,TP,ixa,lda,ixb,ldb,AH Tryz.underlying124,Ry,d1,Ru,eik,eik',ixn,ldn,einc,einc',e1,e17,e17',Xy,Za,Qa,Qb,Qc,Qd,Qf,Qg,Qh,Qi,Qj,Qk,Qm,Qo,true_and,Qp,Qq,Qr,Qs,Qt,Qv,Qw,Qx,Qz,Rb,Rd,Re,Rs,Ru,Rw,Ry]
        rw[← hW]
        refine ih (k+1) S' _ _ _ (by omega) (by omega) (fun h=>by cases h) ⟨by rw[e3];exact ho.next,fun j hj=>by rw[e4 j hj (by simp),ho.get j hj]⟩ e2 (by rw[yz];exact hn) ?_ fun y hy=>?_
        · rw[em hnk,hv,hvb,show 2 ^ k * (true).toNat=2 ^ k from xj _,yB,yB,← yR,zO,show(true).toNat * 2 ^ k=2 ^ k from ye _]
        · rcases List.mem_or_eq_of_mem_set hy with h | h
          · have:=hbd y h;omega
          · omega
theorem gK{q N:Nat}{aa ab:Option (Nat×Nat)}{ca cb:Option Nat}{a b:List Bool}(hca:AU q s aa (Gj a))(hcb:AU q s ab (Gj b))(hN:N=a.length+b.length)(hNl:N≤400000000){Q:Ay→Prop}{y2 y6 y7 y8 y12:AV}
  (hq:∀S n y4 y5 y9 y10 y11,II s S q→Cf S q (ns n) none→n.length=N→Nb n=bv a * bv b→(∀y∈n,y≤a.length * b.length)→Q ⟨.exit 0,[.slice aa a.length ca,.slice ab b.length cb,y2,.slice (some (q,0)) N (some N),y4,y5,y6,y7,y8,y9,y10,y11,y12],[],S⟩):
  ∀ (r i:Nat) (S:AE) (n:List Nat) (y5 y9 y10 y11:AV),a.length - i=r→i≤a.length→II s S q→Cf S q (ns n) none→n.length=N→Nb n=bv (a.take i) * bv b→(∀y∈n,y≤i * b.length)→WC E none (.loop It) Q [.slice aa a.length ca,.slice ab b.length cb,y2,.slice (some (q,0)) N (some N),iv (i:Int),y5,y6,y7,y8,y9,y10,y11,y12] [] S:=by
 have hab:a.length * b.length≤400000000 * 400000000:=yh (by omega) (by omega)
 intro r
 induction r with
 | zero =>
  intro i S n y5 y9 y10 y11 hr hi ho hown hn hv hbd
  have e:i=a.length:=by omega
  have d1:decide ((i:Int)<(a.length:Int))=false:=decide_eq_false (by omega)
  refine WC.loop' ?_
  simp only[It,TN,AH Tryz.underlying124,Ry,d1,Qa,Qb,Qc,Qd,Qf,Qh,Qj,Qk,Qm,Qo,true_and,Qp,Qq,Qr,Qs,Qt,Qv,Ra,Rb,Rd,Ry]
  refine hq S n _ _ _ _ _ ho hown hn (by rw[hv,e,yq (xZ _)]) (by rw[← e];exact hbd)
 | succ r ih =>
  intro i S n y5 y9 y10 y11 hr hi ho hown hn hv hbd
  have hlt:i<a.length:=by omega
  have d1:decide ((i:Int)<(a.length:Int))=true:=decide_eq_true (by omega)
  have e17:=Az Tryz.prog 3 (i:Int) 1 ⟨by omega,by omega⟩
  have e17':((i:Int)+1)=((i+1:Nat):Int):=by omega
  have hx:a[i]? = some a[i]:=xe hlt
  have hva:=DV hx
  have hib:i * b.length≤a.length * b.length:=yA _ (by omega)
  refine WC.loop' ?_
  generalize hW:WC E none (Aa.loop It) Q=WW
  simp only[It,TN,Yt,AH Tryz.underlying124,Ry,d1,Qa,Qb,Qc,Qd,Qf,Qh,Qi,Qj,Qk,Qm,Qo,true_and,Qp,Qq,Qr,Qs,Qt,Qv,Qz,Rb,Rd,Ry]
  refine kA (s:=s) (V:=bv (a.take i) * bv b) (B:=i * b.length) hca hcb hx hN hNl (by omega) (fun S' n' y5' y10' y11' ho' hown' hn' hv' hbd'=>?_) b.length 0 S n _ _ rfl (xg _) (fun _=>rfl) ho hown hn (by rw[hv,zD];show _=_+2 ^ i * (_ * 0);rw[yO,yO,yF]) (fun y hy=>by have:=hbd y hy;omega)
  simp only[VI,if_true,e17,e17',Qb,Qc,Qd,Qf,Qh,Qi,Qj,Qk,Qm,Qo,true_and,Qp,Qq,Qr,Qs,Qt,Qv,Rb,Rd,Re,Rg]
  rw[← hW]
  refine ih (i+1) S' n' _ _ _ _ (by omega) (by omega) ho' hown' hn' ?_ (fun y hy=>by have:=hbd' y hy;rw[yN];exact this)
  rw[hv',hva,yH,xw]
theorem gJ{s0:AE}{q N B:Nat}{n:List Nat}(hown:Cf s0 q (ns n) none)(hq0:q<s0.next)(hn:n.length=N)(hNl:N≤400000000)(hB:∀y∈n,y≤B)(hBl:B≤100000000000000000){Q:Ay→Prop}{y0 y1 y2 y4 y5 y9 y10 y11:AV}
  (hq:∀S v out (c:Nat) y7 y8 y12,Af s0.next s0 S→Fa s0.next S v out→out.length=N→bv out+2 ^ N * c=Nb n→Q ⟨.exit 4,[y0,y1,y2,.slice (some (q,0)) N (some N),y4,y5,v,y7,y8,y9,y10,y11,y12],[],S⟩):
  ∀ (r i:Nat) (S:AE) (v:AV) (out:List Bool) (c:Nat) (y12:AV),N - i=r→i≤N→Af s0.next s0 S→Fa s0.next S v out→out.length=i→c≤B→bv out+2 ^ i * c=Nb (n.take i)→WC E none (.loop Iu) Q [y0,y1,y2,.slice (some (q,0)) N (some N),y4,y5,v,iv (c:Int),iv (i:Int),y9,y10,y11,y12] [] S:=by
 intro r
 induction r with
 | zero =>
  intro i S v out c y12 hr hi ho hO hl hc hv
  have e:i=N:=by omega
  have d1:decide ((i:Int)<(N:Int))=false:=decide_eq_false (by omega)
  refine WC.loop' ?_
  simp only[Iu,Oo,AH Tryz.underlying27,Ry,d1,Qa,Qb,Qc,Qd,Qf,Qh,Qj,Qk,Qm,Qo,true_and,Qp,Qq,Qr,Qs,Qt,Qv,Ra,Rb,Rd,Re,Ry]
  refine hq S v out c _ _ _ ho hO (by omega) ?_
  rw[e,yq (by omega)]at hv
  exact hv
 | succ r ih =>
  intro i S v out c y12 hr hi ho hO hl hc hv
  have hlt:i<n.length:=by omega
  have d1:decide ((i:Int)<(N:Int))=true:=decide_eq_true (by omega)
  have e17:=Az Tryz.prog 3 (i:Int) 1 ⟨by omega,by omega⟩
  have e17':((i:Int)+1)=((i+1:Nat):Int):=by omega
  have hx:n[i]? = some n[i]:=xe hlt
  have hxb:=hB n[i] (zQ hlt)
  have hct:=Vt hx
  generalize n[i]=w at hx hxb hct
  have ixn:=Ae (cap:=some N) (i:=q) (o:=0) (n:=1) (len:=N) (k:=i) Tryz.underlying27 OJ (by omega)
  have ld:AC Tryz.prog S 3 (.ptr (some (q,0+i * 1)))=some (iv (w:Int)):=HH t7 (hown.keep (ho.2 q hq0)) (by rw[xj,xu];exact fw hx)
  have ecw:=Az Tryz.prog 3 (c:Int) (w:Int) ⟨by omega,by omega⟩
  have ecw':((c:Int)+(w:Int))=((c+w:Nat):Int):=by omega
  have erem:AL Tryz.prog .rem 3 (iv ((c+w:Nat):Int)) (.int .i64 2)=some (iv (((c+w) % 2:Nat):Int)):=QO _ _ (c+w) 2 (by decide)
  have equo:AL Tryz.prog .quo 3 (iv ((c+w:Nat):Int)) (.int .i64 2)=some (iv (((c+w) / 2:Nat):Int)):=YT _ _ (c+w) 2 (by decide) (by omega)
  have dm:decide ((((c+w) % 2:Nat):Int)=1)=decide ((c+w) % 2=1):=by
   by_cases h:(c+w) % 2=1
   ·rw[decide_eq_true h,decide_eq_true (by omega)]
   ·rw[decide_eq_false h,decide_eq_false (by omega)]
  obtain⟨v',S',happ,hO',ho'⟩:=hO.push ho.1 (by omega) (decide ((c+w) % 2=1))
  refine WC.loop' ?_
  generalize hW:WC E none (Aa.loop Iu) Q=WW
  simp only[Iu,Oo,VM,VN,VO,VP,AH Tryz.underlying27,Ry,Wc,d1,ixn,ld,ecw,ecw',erem,dm,Mv,Xe,happ,equo,e17,e17',Qa,Qb,Qc,Qd,Qf,Qh,Qi,Qj,Qk,Qm,Qo,true_and,Qp,Qq,Qr,Qs,Qt,Qv,Qz,Rb,Rd,Re,Yc,Ry,Wc]
  rw[← hW]
  refine ih (i+1) S' v' _ _ _ (by omega) (by omega) (ho.trans ho') hO' (by rw[xp,hl];rfl) (by omega) ?_
  rw[GK,hl,KJ,hct,← hv,yJ,xw,yR,← yB,show(c+w) % 2+2 * ((c+w) / 2)=c+w by omega,yB,yR]
theorem kB(hE:GoodN E){va vb:AV}{a b:List Bool}(ha:Da s va a)(hb:Da s vb b)(hal:a.length≤100000000)(hbl:b.length≤100000000){K:AV→AE→Prop}(hK:∀s' w,Af s.next s s'→Da s' w (Au (bv a * bv b))→K w s'):WF E 103 [va,vb] K s:=by
 obtain⟨aa,ca,rfl,_,hca⟩:=ha
 obtain⟨ab,cb,rfl,_,hcb⟩:=hb
 refine hE.go iq (by decide) rfl ?_
 have esum:=Az Tryz.prog 3 (a.length:Int) (b.length:Int) ⟨by omega,by omega⟩
 have esum':((a.length:Int)+(b.length:Int))=((a.length+b.length:Nat):Int):=by omega
 have hmk:=XW (a.length+b.length) (by omega)
 obtain⟨n1,o1,g1⟩:=CC s (R 3 1 false (ns (List.replicate (a.length+b.length) 0)))
 have hown:Cf (newObj s (R 3 1 false (ns (List.replicate (a.length+b.length) 0)))) s.next (ns (List.replicate (a.length+b.length) 0)) none:=Cf.of_R g1
 simp only[uE,Yq,Yr,Ys,AH Tryz.underlying124,esum,esum',Xy,hmk,Xe,Qa,Qb,Qc,Qd,Qf,Qh,Qi,Qj,Qk,Ql,Qm,Qo,true_and,Qp,Qq,Qr,Qs,Qt,Qv,Rb,Rh,Rk,Rm,Rn,Yc]
 generalize newObj s (R 3 1 false (ns (List.replicate (a.length+b.length) 0)))=s1 at *
 refine gK (s:=s1) (q:=s.next) (hca.old o1 (xZ _)) (hcb.old o1 (xZ _)) rfl (by omega) (fun S n y4 y5 y9 y10 y11 hon hown' hn hv hbd=>?_) a.length 0 s1 _ _ _ _ _ rfl (xg _) ⟨rfl,fun _ _=>rfl⟩ hown (by simp) (by rw[tC,zD];exact(yo _).symm) (fun y hy=>by rw[List.eq_of_mem_replicate hy];exact xg _)
 have hnx:=hon.next
 have hab:a.length * b.length≤100000000 * 100000000:=yh hal hbl
 simp only[VJ,VK,VL,if_true,Qb,Qc,Qd,Qf,Qh,Qi,Qm,Qo,true_and,Qp,Qq,Qt,Qv,Rb,Rd,Rg]
 refine gJ (s0:=S) hown' (by omega) hn (by omega) hbd (by omega) (fun S2 v out c y7 y8 y12 ho hO hl hv2=>?_) (a.length+b.length) 0 S _ [] 0 _ rfl (xg _) (Af.refl _ _) (Fa.nil _ _) rfl (xg _) rfl
 simp only[VQ,if_true,Qb,Qc,Qd,Qf,Qh,Qj,Qk,Qm,Qo,true_and,Qr,Qs,Qt,Qv,Rb,Rd,Rg,Rj]
 refine F8 hE hO.rd (by omega) fun w hw=>?_
 simp only[Qd,Qo,true_and,Qp,Qq,Qr,Qs]
 have h1:=Ec a
 have h2:=Ec b
 have hpr:bv a * bv b<2 ^ (a.length+b.length):=by
  rw[zO]
  exact Nat.mul_lt_mul'' h1 h2
 have hc0:c=0:=by
  rcases yX c with h | h
  ·exact h
  ·have:2 ^ (a.length+b.length) * 1≤2 ^ (a.length+b.length) * c:=yZ _ h
   omega
 rw[hc0,yO,yF,hv]at hv2
 rw[hv2]at hw
 refine hK S2 w ⟨by have:=ho.1;omega,fun j hj=>?_⟩ hw
 rw[ho.2 j (by omega),hon.get j (by omega),o1.2 j hj]
end
end
end Go.Proofs.YtjnkfbpadpmakaaGreatDoor.Am
