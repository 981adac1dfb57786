/- What the program's clean computes of a row of literals; conditions: twelve at most, each of which may hold. -/
import Derived.Test.YtilhhmkdcoajnaaAmM32
set_option linter.unusedVariables false
set_option linter.unusedSimpArgs false
namespace Go.Proofs.Ytilhhmkdcoajnaa.Am
open Go Go.Proofs
noncomputable section
theorem Gt{s:ASt}{i o:Nat}{u:AV}(h:load1 s i o=some u):∃r,BA s i=some r∧o<r.n∧r.c.get o=some u:=by
  unfold load1 at h
  simp only[oE]at h
  obtain⟨r,h1,h2⟩:=h
  cases hb:Nat.blt o r.n with
  | true=>rw[hb]at h2;exact⟨r,h1,by simpa[oq]using hb,h2⟩
  | false=>rw[hb]at h2;cases h2
theorem A8.loadN{b:Nat}{s:ASt}{i o:Nat}{cs:List AV}(h:A8 b s (some (i,o)) cs)(hne:cs≠[]):loadN s i o cs.length=some cs:=by
  have hp:∀k u,cs[k]? = some u→load1 s i (o+k)=some u:=by
    intro k u hk
    obtain⟨i',o',e,_,h2⟩:=h k u hk
    injection e with e;injection e with e1 e2;subst e1;subst e2
    exact h2
  have hpos:0<cs.length:=List.length_pos_iff.2 hne
  obtain⟨r,h1,h2,_⟩:=Gt (hp (cs.length - 1) cs[cs.length - 1] (oM (by omega)))
  unfold Go.Proofs.Ytilhhmkdcoajnaa.Am.loadN
  rw[h1]
  have hb:Nat.ble (o+cs.length) r.n=true:=A1 (by omega)
  simp only[Option.bind_some,AF,hb,cond_true]
  refine KM _ _ fun j u hj=>?_
  obtain⟨r',g1,_,g3⟩:=Gt (hp j u hj)
  rw[h1]at g1;injection g1 with g1;subst g1
  exact g3
theorem AM.src{b:Nat}{s:ASt}{a:Option (Nat×Nat)}{n:Nat}{cap:Option Nat}{cs:List AV}(h:A8 b s a cs)(hn:cs.length=n)(h0:0<n){e:TypeId}:Bg Try.prog s e 1 (.slice a n cap)=some (n,cs):=by
  subst hn
  have hne:cs≠[]:=List.length_pos_iff.1 h0
  cases a with
  | none =>
    obtain⟨i,o,e,_⟩:=h 0 cs[0] (oM h0)
    cases e
  | some io =>
    obtain⟨i,o⟩:=io
    have:=JV (size:=1) (by rw[oV];exact h.loadN hne)
    simp[Bg,this]
theorem K6{a:Option (Nat×Nat)}{n:Nat}{cap:Option Nat}:AI Try.prog .eql 23 (.slice a n cap) (.slice none 0 (some 0))=some (.bool a.isNone):=by
  have h:EK Try.prog 23=true:=by simp[EK,Try.underlying23]
  cases a<;>simp[AI,eqV,AF,h]
set_option maxRecDepth 8000 in
theorem GZ       {E : Env} (hE : An   E) {b : Nat} {s : ASt} {v : AV} {L : List Int} (hb : b ≤ s.next) (h : AM      b s v (ivs L)) (hL : L.length ≤ 1000000) :
    WF E 60 [v] (fun r s'=>CC s.next s' r L∧Old s.next s s') s:=by
  obtain⟨a,cap,rfl,hc⟩:=h
  rw[Ce]at *
  refine hE.go kZ (by decide) rfl ?_
  cases ha:a with
  | none =>
    subst ha
    have hL0:L=[]:=by
      cases L with
      | nil=>rfl
      | cons x L=>obtain⟨i,o,e,_⟩:=hc 0 (iv x) rfl;cases e
    subst hL0
    simp only[c60,TZ,Ta,fe,K6,Option.isNone_none,Qa,Qb,Qc,Qd,Qe,Qf,Qg,Qh,Qi,Qj,Qk,Ql,Qm,Qn,true_and,and_true,Qo,Qp,Qq,Qr,Qs,Qt,Qu,Qv,Qw,Qx,Qy,Qz,Ra,Rb,Rc,Rd,Re,Rf,Rg,Rh,Ri,Rj,Rk,Rl,Rm,Ya,Yb,Yc,Rn,Ro,Rp,Yd,Ye,Rq,Rs,Rt,Ru,Rv,Rw,Rx]
    exact⟨.inl ⟨none,rfl,rfl⟩,Old.refl _ _⟩
  | some io =>
    obtain⟨i,o⟩:=io
    subst ha
    have b0:=OY (P:=Try.prog) (t:=23) Try.underlying23 sz3 zr3 rfl
    have hmv:∀ (m:Nat) (i:Nat),Bv.val i (.slice m)=.slice (some (i,0)) m (some m):=fun _ _=>rfl
    generalize hs1:AH s (AP 3 1 [])=s1
    have n1:s1.next=s.next+1:=by rw[← hs1];rfl
    have o1:Old s.next s s1:=by rw[← hs1];exact Old.new s _
    have hld:loadN s1 s.next 0 (0 * 1)=some []:=by
      obtain⟨r,h1,h2,_⟩:=Bo 3 1 []
      exact Da (s:=s1) (i:=s.next) (by rw[← hs1,AO,if_pos rfl,h1]) h2 0 [] (oD _) (fun j u hj=>by simp at hj)
    have hx:A9 Try.prog 23=true:=JW 23 3 Try.underlying23
    cases hLc:L with
    | nil =>
      subst hLc
      have hsrc:Bg Try.prog s1 3 1 (.slice (some (i,o)) 0 cap)=some (0,[]):=rfl
      have happ:AY Try.prog s1 [23,23] [.slice (some (s.next,0)) 0 (some 0),.slice (some (i,o)) 0 cap]=some (.slice (some (s.next,0)) 0 (some 0),s1):=by
        rw[BO Try.underlying23 sz3 by3 (by decide) hx hsrc rfl (by omega) (by omega)]
        rfl
      simp only[c60,TZ,Ta,X4,K6,Option.isNone_some,pH,b0,hs1,hmv,happ,Qa,Qb,Qc,Qd,Qe,Qf,Qg,Qh,Qi,Qj,Qk,Ql,Qm,Qn,true_and,and_true,Qo,Qp,Qq,Qr,Qs,Qt,Qu,Qv,Qw,Qx,Qy,Qz,Ra,Rb,Rc,Rd,Re,Rf,Rg,Rh,Ri,Rj,Rk,Rl,Rm,Ya,Yb,Yc,Rn,Ro,Rp,Yd,Ye,Rq,Rs,Rt,Ru,Rv,Rw,Rx]
      exact⟨.inl ⟨_,rfl,rfl⟩,o1⟩
    | cons x T =>
      rw[← hLc]
      have hne:0<L.length:=by rw[hLc];simp
      have hc1:A8 b s1 (some (i,o)) (ivs L):=hc.old o1 hb
      have hsrc:=AM.src (e:=3) (cap:=cap) hc1 (Ce L) hne
      have happ:AY Try.prog s1 [23,23] [.slice (some (s.next,0)) 0 (some 0),.slice (some (i,o)) L.length cap]=some (.slice (some (s1.next,0)) L.length none,AH s1 (B6 3 1 (Aj.fill .leaf 0 (ivs L)) (ivs L).length none)):=by
        rw[BO Try.underlying23 sz3 by3 (by decide) hx hsrc (Ma L) (by omega) (by omega)]
        simp only[appTo,Cw,show Nat.ble (0+L.length) 0=false from Ej (by omega),oN,show Nat.ble L.length 0=false from Ej (by omega),cond_false,hld,Option.bind_some,BV,AF,Ip,cond_true,oz,oN]
      simp only[c60,TZ,Ta,X4,K6,Option.isNone_some,b0,hs1,hmv,happ,Qa,Qb,Qc,Qd,Qe,Qf,Qg,Qh,Qi,Qj,Qk,Ql,Qm,Qn,true_and,and_true,Qo,Qp,Qq,Qr,Qs,Qt,Qu,Qv,Qw,Qx,Qy,Qz,Ra,Rb,Rc,Rd,Re,Rf,Rg,Rh,Ri,Rj,Rk,Rl,Rm,Ya,Yb,Yc,Rn,Ro,Rp,Yd,Ye,Rq,Rs,Rt,Ru,Rv,Rw,Rx]
      refine⟨.inr ⟨s1.next,rfl,by omega,pF _,_,by rw[AO,if_pos rfl];rfl,⟨rfl,?_⟩,rfl,rfl,rfl⟩,o1.trans ((Old.new s1 _).mono (by omega))⟩
      intro k u hk
      have hlt:=Ab hk
      show(Aj.fill .leaf 0 (ivs L)).get k=some u
      rw[Aj.get_fill,if_pos ⟨oK _,by omega⟩]
      simpa using hk
theorem CC.slice{lo:Nat}{s:ASt}{v:AV}{L:List Int}(h:CC lo s v L):AM s.next s v (ivs L):=by
  rcases h with⟨a,rfl,rfl⟩ | ⟨i,rfl,h1,h2,h3⟩
  · exact⟨a,some 0,rfl,A8.nil⟩
  · exact⟨some (i,0),none,by simp,fun k u hk=>⟨i,0,rfl,h2,by rw[oN];exact h3.load1 hk⟩⟩
theorem dB{E:Env}(hE:An E){s:ASt}(x:Int)(hx:i64 x)(hn:Dd x=false):WF E 86 [iv x] (fun r s'=>r=.bool false∧s=s') s:=by
  refine hE.go lB (by decide) rfl ?_
  have h0:decide ((Bl x).2=0)=false:=by
    refine decide_eq_false ?_
    unfold Dd at hn
    have hn':=of_decide_eq_false hn
    unfold Bl
    split
    · simp
    · split
      · simp
      · exact fun _=>hn' (by omega)
  simp only[c86,iP,iQ,Qa,Qb,Qc,Qd,Qe,Qf,Qg,Qh,Qi,Qj,Qk,Ql,Qm,Qn,true_and,and_true,Qo,Qp,Qq,Qr,Qs,Qt,Qu,Qv,Qw,Qx,Qy,Qz,Ra,Rb,Rc,Rd,Re,Rf,Rg,Rh,Ri,Rj,Rk,Rl,Rm,Ya,Yb,Yc,Rn,Ro,Rp,Yd,Ye,Rq,Rs,Rt,Ru,Rv,Rw,Rx]
  refine(KL hE x s hx).mono ?_
  rintro _ _ ⟨rfl,rfl⟩
  simp only[iR,h0,Qa,Qb,Qc,Qd,Qe,Qf,Qg,Qh,Qi,Qj,Qk,Ql,Qm,Qn,true_and,and_true,Qo,Qp,Qq,Qr,Qs,Qt,Qu,Qv,Qw,Qx,Qy,Qz,Ra,Rb,Rc,Rd,Re,Rf,Rg,Rh,Ri,Rj,Rk,Rl,Rm,Ya,Yb,Yc,Rn,Ro,Rp,Yd,Ye,Rq,Rs,Rt,Ru,Rv,Rw,Rx]
set_option maxRecDepth 8000 in
theorem SQ{E:Env}(hE:An E){s:ASt}{b:Nat}{L:List Int}(hL:C0 L)(hnn:∀x∈L,Dd x=false)(hlen:L.length<9223372036854775808){a:Option (Nat×Nat)}{cap:Option Nat}(hc:A8 b s a (ivs L)){Q:A6→Prop}(x2:AV):
    ∀ (l : List Int) (k : Nat) (x3 x6 x7 : AV), L.drop k = l → k ≤ L.length →
      (∀ (y3 y5 y6 y7:AV),Q ⟨.exit 0,[.slice a L.length cap,.func 86 [] [],x2,y3,iv (L.length:Int),y5,y6,y7],[],s⟩) →
      WC E none (.loop IC) Q [.slice a L.length cap,.func 86 [] [],x2,x3,iv (L.length:Int),iv (k:Int),x6,x7] [] s:=by
  intro l
  induction l with
  | nil =>
    intro k x3 x6 x7 hd hk hq
    have:=Ck hd hk
    subst this
    refine WC.loop' ?_
    simp only[IC,Ou,om,decide_false,Qa,Qb,Qc,Qd,Qe,Qf,Qg,Qh,Qi,Qj,Qk,Ql,Qm,Qn,true_and,and_true,Qo,Qp,Qq,Qr,Qs,Qt,Qu,Qv,Qw,Qx,Qy,Qz,Ra,Rb,Rc,Rd,Re,Rf,Rg,Rh,Ri,Rj,Rk,Rl,Rm,Ya,Yb,Yc,Rn,Ro,Rp,Yd,Ye,Rq,Rs,Rt,Ru,Rv,Rw,Rx]
    exact hq _ _ _ _
  | cons x l ih =>
    intro k x3 x6 x7 hd hk hq
    obtain⟨hlt,hx,hd'⟩:=Bk hd
    obtain⟨i,o,rfl,hi,hload⟩:=hc k _ (A2 hx)
    have hxm:x∈L:=oG hx
    have e1:=Aw (cap:=cap) (i:=i) (o:=o) Try.underlying23 sz3 hlt
    have e2:AD Try.prog s 3 (.ptr (some (i,o+k * 1)))=some (iv x):=A7 ag3 (by rw[oV];exact hload)
    have hkk:decide ((k:Int)<(L.length:Int))=true:=decide_eq_true (by omega)
    have e3:=Aq Try.prog 3 (k:Int) 1 ⟨by omega,by omega⟩
    have e3':((k:Int)+1)=((k+1:Nat):Int):=by omega
    refine WC.loop' ?_
    generalize hW:WC E none (AX.loop IC) Q=WW
    simp only[IC,Ou,Y4,Y5,hkk,e1,e2,oz,pQ,Qa,Qb,Qc,Qd,Qe,Qf,Qg,Qh,Qi,Qj,Qk,Ql,Qm,Qn,true_and,and_true,Qo,Qp,Qq,Qr,Qs,Qt,Qu,Qv,Qw,Qx,Qy,Qz,Ra,Rb,Rc,Rd,Re,Rf,Rg,Rh,Ri,Rj,Rk,Rl,Rm,Ya,Yb,Yc,Rn,Ro,Rp,Yd,Ye,Rq,Rs,Rt,Ru,Rv,Rw,Rx]
    refine(dB hE x (hL x hxm) (hnn x hxm)).mono ?_
    rintro _ _ ⟨rfl,rfl⟩
    simp only[Y6,e3,e3',Qa,Qb,Qc,Qd,Qe,Qf,Qg,Qh,Qi,Qj,Qk,Ql,Qm,Qn,true_and,and_true,Qo,Qp,Qq,Qr,Qs,Qt,Qu,Qv,Qw,Qx,Qy,Qz,Ra,Rb,Rc,Rd,Re,Rf,Rg,Rh,Ri,Rj,Rk,Rl,Rm,Ya,Yb,Yc,Rn,Ro,Rp,Yd,Ye,Rq,Rs,Rt,Ru,Rv,Rw,Rx]
    rw[← hW]
    exact ih (k+1) _ _ _ hd' hlt hq
theorem ZW{E:Env}(hE:An E){s:ASt}{b:Nat}{L:List Int}(hL:C0 L)(hnn:∀x∈L,Dd x=false)(hlen:L.length<9223372036854775808){v:AV}(hv:AM b s v (ivs L)):
    WF E 94 [v,.func 86 [] []] (fun r s'=>r=iv (-1)∧s=s') s:=by
  obtain⟨a,cap,rfl,hc⟩:=hv
  rw[Ce]
  refine hE.go ZG (by decide) rfl ?_
  simp only[c94,Y2,Y3,AZ Try.underlying23,Qa,Qb,Qc,Qd,Qe,Qf,Qg,Qh,Qi,Qj,Qk,Ql,Qm,Qn,true_and,and_true,Qo,Qp,Qq,Qr,Qs,Qt,Qu,Qv,Qw,Qx,Qy,Qz,Ra,Rb,Rc,Rd,Re,Rf,Rg,Rh,Ri,Rj,Rk,Rl,Rm,Ya,Yb,Yc,Rn,Ro,Rp,Yd,Ye,Rq,Rs,Rt,Ru,Rv,Rw,Rx]
  refine SQ hE hL hnn hlen hc _ L 0 _ _ _ rfl (oK _) ?_
  intro y3 y5 y6 y7
  simp only[Y7,if_true,Qa,Qb,Qc,Qd,Qe,Qf,Qg,Qh,Qi,Qj,Qk,Ql,Qm,Qn,true_and,and_true,Qo,Qp,Qq,Qr,Qs,Qt,Qu,Qv,Qw,Qx,Qy,Qz,Ra,Rb,Rc,Rd,Re,Rf,Rg,Rh,Ri,Rj,Rk,Rl,Rm,Ya,Yb,Yc,Rn,Ro,Rp,Yd,Ye,Rq,Rs,Rt,Ru,Rv,Rw,Rx]
theorem UW{E:Env}(hE:An E){s:ASt}{b:Nat}{L:List Int}(hL:C0 L)(hnn:∀x∈L,Dd x=false)(hlen:L.length<9223372036854775808){v:AV}(hv:AM b s v (ivs L)):
    WF E 85 [v,.func 86 [] []] (fun r s'=>r=v∧s=s') s:=by
  refine hE.go lA (by decide) rfl ?_
  simp only[c85,iL,iM,Qa,Qb,Qc,Qd,Qe,Qf,Qg,Qh,Qi,Qj,Qk,Ql,Qm,Qn,true_and,and_true,Qo,Qp,Qq,Qr,Qs,Qt,Qu,Qv,Qw,Qx,Qy,Qz,Ra,Rb,Rc,Rd,Re,Rf,Rg,Rh,Ri,Rj,Rk,Rl,Rm,Ya,Yb,Yc,Rn,Ro,Rp,Yd,Ye,Rq,Rs,Rt,Ru,Rv,Rw,Rx]
  refine(ZW hE hL hnn hlen hv).mono ?_
  rintro _ _ ⟨rfl,rfl⟩
  simp only[iN,iO,decide_true,Qa,Qb,Qc,Qd,Qe,Qf,Qg,Qh,Qi,Qj,Qk,Ql,Qm,Qn,true_and,and_true,Qo,Qp,Qq,Qr,Qs,Qt,Qu,Qv,Qw,Qx,Qy,Qz,Ra,Rb,Rc,Rd,Re,Rf,Rg,Rh,Ri,Rj,Rk,Rl,Rm,Ya,Yb,Yc,Rn,Ro,Rp,Yd,Ye,Rq,Rs,Rt,Ru,Rv,Rw,Rx]
theorem HE(L:List Int):(CV L).length=L.length:=by
  have:∀ (R q:List Int),(R.foldl (fun q x=>El x q) q).length=q.length+R.length:=by
    intro R
    induction R with
    | nil=>intro q;rfl
    | cons y R ih=>intro q;simp only[pE,ih,Gb,oZ];omega
  unfold CV
  rw[List.length_reverse,this];simp
theorem Kx{E:Env}(hE:An E){s:ASt}{b:Nat}{L:List Int}(hL:C0 L)(hnn:∀x∈L,Dd x=false)(hlen:L.length≤12)(hb:b≤s.next){v:AV}(hv:AM b s v (ivs L)):
    WF E 56 [v] (fun r s'=>AM s'.next s' r (ivs (Dw (CV L)))∧Old s.next s s'∧eqA r r=true) s:=by
  refine hE.go kY (by decide) rfl ?_
  simp only[c56,fZ,fa,Qa,Qb,Qc,Qd,Qe,Qf,Qg,Qh,Qi,Qj,Qk,Ql,Qm,Qn,true_and,and_true,Qo,Qp,Qq,Qr,Qs,Qt,Qu,Qv,Qw,Qx,Qy,Qz,Ra,Rb,Rc,Rd,Re,Rf,Rg,Rh,Ri,Rj,Rk,Rl,Rm,Ya,Yb,Yc,Rn,Ro,Rp,Yd,Ye,Rq,Rs,Rt,Ru,Rv,Rw,Rx]
  refine(GZ hE hb hv (by omega)).mono ?_
  rintro v1 s1 ⟨h1,h2⟩
  simp only[Qa,Qb,Qc,Qd,Qe,Qf,Qg,Qh,Qi,Qj,Qk,Ql,Qm,Qn,true_and,and_true,Qo,Qp,Qq,Qr,Qs,Qt,Qu,Qv,Qw,Qx,Qy,Qz,Ra,Rb,Rc,Rd,Re,Rf,Rg,Rh,Ri,Rj,Rk,Rl,Rm,Ya,Yb,Yc,Rn,Ro,Rp,Yd,Ye,Rq,Rs,Rt,Ru,Rv,Rw,Rx]
  refine(UW hE hL hnn (by omega) h1.slice).mono ?_
  rintro _ _ ⟨rfl,rfl⟩
  simp only[fb,Qa,Qb,Qc,Qd,Qe,Qf,Qg,Qh,Qi,Qj,Qk,Ql,Qm,Qn,true_and,and_true,Qo,Qp,Qq,Qr,Qs,Qt,Qu,Qv,Qw,Qx,Qy,Qz,Ra,Rb,Rc,Rd,Re,Rf,Rg,Rh,Ri,Rj,Rk,Rl,Rm,Ya,Yb,Yc,Rn,Ro,Rp,Yd,Ye,Rq,Rs,Rt,Ru,Rv,Rw,Rx]
  refine(dR hE h1 hlen).mono ?_
  rintro r2 s2 ⟨h3,h4,h5⟩
  simp only[fc,Qa,Qb,Qc,Qd,Qe,Qf,Qg,Qh,Qi,Qj,Qk,Ql,Qm,Qn,true_and,and_true,Qo,Qp,Qq,Qr,Qs,Qt,Qu,Qv,Qw,Qx,Qy,Qz,Ra,Rb,Rc,Rd,Re,Rf,Rg,Rh,Ri,Rj,Rk,Rl,Rm,Ya,Yb,Yc,Rn,Ro,Rp,Yd,Ye,Rq,Rs,Rt,Ru,Rv,Rw,Rx]
  refine(cR hE h3 ?_).mono ?_
  · rw[HE];omega
  rintro v3 s3 ⟨h6,h7,h8,h9,h10⟩
  simp only[Qa,Qb,Qc,Qd,Qe,Qf,Qg,Qh,Qi,Qj,Qk,Ql,Qm,Qn,true_and,and_true,Qo,Qp,Qq,Qr,Qs,Qt,Qu,Qv,Qw,Qx,Qy,Qz,Ra,Rb,Rc,Rd,Re,Rf,Rg,Rh,Ri,Rj,Rk,Rl,Rm,Ya,Yb,Yc,Rn,Ro,Rp,Yd,Ye,Rq,Rs,Rt,Ru,Rv,Rw,Rx]
  exact⟨h6,h2.trans (h4.trans h8),h10⟩
abbrev OR(l:List Int):Prop:=l.Pairwise (·<·)
def ins(x:Int):List Int→List Int
  | []=>[x]
  | y::l=>if y<x then y::ins x l else if y=x then y::l else x::y::l
theorem LO(x:Int):∀L,Ul x L=ins x L
  | []=>rfl
  | y::l=>by
    have ih:=LO x l
    unfold Ul at ih ⊢
    unfold ins atV
    by_cases h:y<x
    · rw[if_pos h,if_pos h,List.getElem?_cons_succ,← ih]
      split
      · rfl
      · rfl
    · rw[if_neg h,if_neg h]
      by_cases h2:y=x
      · subst h2;simp
      · rw[if_neg (by simpa using h2),if_neg h2];rfl
theorem Nr      (x z : Int) : ∀ L, z ∈ ins x L ↔ z = x ∨ z ∈ L
  | []=>by simp[ins]
  | y::l=>by
    have ih:=Nr x z l
    unfold ins
    split
    · simp only[ov,ih]
      constructor
      · rintro (h | h | h)
        · exact .inr (.inl h)
        · exact .inl h
        · exact .inr (.inr h)
      · rintro (h | h | h)
        · exact .inr (.inl h)
        · exact .inl h
        · exact .inr (.inr h)
    · split
      · rename_i h2;subst h2;simp only[ov]
        constructor
        · intro h;exact .inr h
        · rintro (h | h)
          · exact .inl h
          · exact h
      · simp only[ov]
theorem PH       {x : Int} : ∀ {L}, OR   L → OR   (ins x L)
  | [],_=>by simp[ins]
  | y::l,h=>by
    obtain⟨h1,h2⟩:=List.pairwise_cons.1 h
    unfold ins
    split
    · rename_i hlt
      refine List.pairwise_cons.2 ⟨fun z hz=>?_,PH h2⟩
      rcases(Nr x z l).1 hz with rfl | hz
      · exact hlt
      · exact h1 z hz
    · split
      · exact h
      · rename_i hn1 hn2
        refine List.pairwise_cons.2 ⟨fun z hz=>?_,h⟩
        rcases ov.1 hz with rfl | hz
        · omega
        · have:=h1 z hz;omega
theorem EG:∀ (l:List Int){out:List Int},OR out→OR (Ae out l)
  | [],_,h=>h
  | x::l,out,h=>by
    unfold Ae
    split
    · exact EG l h
    · rw[LO];exact EG l (PH h)
theorem FJ          : ∀ (l : List Int) {out : List Int} (z : Int), z ∈ Ae     out l ↔ z ∈ out ∨ (z ∈ l ∧ Dd    z = false)
  | [],out,z=>by simp[Ae]
  | x::l,out,z=>by
    unfold Ae
    cases hx:Dd x with
    | true =>
      rw[if_pos rfl,FJ l]
      constructor
      · rintro (h | ⟨h, k⟩)
        · exact .inl h
        · exact .inr ⟨oJ _ h,k⟩
      · rintro (h | ⟨h, k⟩)
        · exact .inl h
        · rcases ov.1            h with rfl | h
          · rw[hx]at k;cases k
          · exact .inr ⟨h,k⟩
    | false =>
      rw[if_neg (by simp),FJ l,LO,Nr]
      constructor
      · rintro ((rfl | h) | ⟨h, k⟩)
        · exact .inr ⟨oH,hx⟩
        · exact .inl h
        · exact .inr ⟨oJ _ h,k⟩
      · rintro (h | ⟨h, k⟩)
        · exact .inl (.inr h)
        · rcases ov.1            h with rfl | h
          · exact .inl (.inl rfl)
          · exact .inr ⟨h,k⟩
theorem T6      : ∀ {A B : List Int}, OR   A → OR   B → (∀ z, z ∈ A ↔ z ∈ B) → A = B
  | [],[],_,_,_=>rfl
  | [],b::B,_,_,h=>by have:=(h b).2 oH;simp at this
  | a::A,[],_,_,h=>by have:=(h a).1 oH;simp at this
  | a::A,b::B,hA,hB,h=>by
    obtain⟨a1,a2⟩:=List.pairwise_cons.1 hA
    obtain⟨b1,b2⟩:=List.pairwise_cons.1 hB
    have e:a=b:=by
      rcases ov.1 ((h a).1 oH)with e | e
      · exact e
      · rcases ov.1            ((h b).2 oH)                 with e' | e'
        · exact e'.symm
        · have:=b1 a e;have:=a1 b e';omega
    subst e
    rw[T6 a2 b2 fun z=>?_]
    constructor
    · intro hz
      rcases ov.1 ((h z).1 (oJ _ hz))with e | e
      · subst e;have:=a1 z hz;omega
      · exact e
    · intro hz
      rcases ov.1 ((h z).2 (oJ _ hz))with e | e
      · subst e;have:=b1 z hz;omega
      · exact e
abbrev ah(l:List Int):Prop:=l.Pairwise (fun a b=>b≤a)
theorem K4       (x z : Int) : ∀ q, z ∈ El   x q ↔ z = x ∨ z ∈ q
  | []=>by simp[El]
  | y::q=>by
    have ih:=K4 x z q
    unfold El
    split
    · simp only[ov,ih]
      constructor
      · rintro (h | h | h)
        · exact .inr (.inl h)
        · exact .inl h
        · exact .inr (.inr h)
      · rintro (h | h | h)
        · exact .inr (.inl h)
        · exact .inl h
        · exact .inr (.inr h)
    · simp only[ov]
theorem Mf{x:Int}:∀ {q},ah q→ah (El x q)
  | [],_=>by simp[El]
  | y::q,h=>by
    obtain⟨h1,h2⟩:=List.pairwise_cons.1 h
    unfold El
    split
    · rename_i hlt
      refine List.pairwise_cons.2 ⟨fun z hz=>?_,Mf h2⟩
      rcases(K4 x z q).1 hz with rfl | hz
      · omega
      · exact h1 z hz
    · rename_i hn
      refine List.pairwise_cons.2 ⟨fun z hz=>?_,h⟩
      rcases ov.1 hz with rfl | hz
      · omega
      · have:=h1 z hz;omega
theorem IN:∀ (R:List Int){q:List Int},ah q→ah (R.foldl (fun q x=>El x q) q)∧∀z,z∈R.foldl (fun q x=>El x q) q↔z∈q∨z∈R
  | [],q,h=>⟨h,fun z=>by simp⟩
  | x::R,q,h=>by
    obtain⟨h1,h2⟩:=IN R (Mf (x:=x) h)
    refine⟨h1,fun z=>?_⟩
    rw[pE,h2,K4,ov]
    constructor
    · rintro ((h | h) | h)
      · exact .inr (.inl h)
      · exact .inl h
      · exact .inr (.inr h)
    · rintro (h | h | h)
      · exact .inl (.inr h)
      · exact .inl (.inl h)
      · exact .inr h
theorem J9      : ∀ (l : List Int) (p : Int), (p :: l).Pairwise (· ≤ ·) → OR   (p :: dd p l) ∧ ∀ z, z ∈ p :: dd p l ↔ z ∈ p :: l
  | [],p,_=>⟨by simp[dd],fun z=>by simp[dd]⟩
  | x::l,p,h=>by
    obtain⟨h1,h2⟩:=List.pairwise_cons.1 h
    unfold dd
    split
    · rename_i e
      subst e
      obtain⟨k1,k2⟩:=J9 l x h2
      refine⟨k1,fun z=>?_⟩
      rw[k2,ov,ov,ov]
      constructor
      · rintro (h | h)
        · exact .inl h
        · exact .inr (.inr h)
      · rintro (h | h | h)
        · exact .inl h
        · exact .inl h
        · exact .inr h
    · rename_i hne
      obtain⟨k1,k2⟩:=J9 l x h2
      refine⟨List.pairwise_cons.2 ⟨fun z hz=>?_,k1⟩,fun z=>?_⟩
      · have hpx:=h1 x oH
        rcases ov.1 ((k2 z).1 hz)with rfl | hz'
        · omega
        · have:=(List.pairwise_cons.1 h2).1 z hz';omega
      · rw[ov,k2,ov (l:=x::l)]
theorem Kw{L:List Int}(hnn:∀x∈L,Dd x=false):Dw (CV L)=Ae [] L:=by
  obtain⟨h1,h2⟩:=IN L (q:=[]) .nil
  have hs:(CV L).Pairwise (·≤·):=by
    unfold CV
    rw[List.pairwise_reverse]
    exact h1
  have hm:∀z,z∈CV L↔z∈L:=by
    intro z;unfold CV;rw[List.mem_reverse,h2];simp
  have hc:OR (Dw (CV L))∧∀z,z∈Dw (CV L)↔z∈CV L:=by
    cases hl:CV L with
    | nil=>exact⟨by simp[Dw],fun z=>by simp[Dw]⟩
    | cons p l=>rw[hl]at hs;exact J9 l p hs
  refine T6 hc.1 (EG L .nil) fun z=>?_
  rw[hc.2,hm,FJ]
  constructor
  · intro h;exact .inr ⟨h,hnn z h⟩
  · rintro (h | h)
    · cases h
    · exact h.1
def Fd(Q:A6→Prop)(var:List AV)(marks:List Nat)(s:ASt)(pd:Option Code):Prop:=match pd with
  | none=>Q ⟨.normal,var,marks,s⟩
  | some .ret=>Q ⟨.ret,var,marks,s⟩
  | some (.exit id)=>Q ⟨.exit id,var,marks,s⟩
  | some _=>False
theorem Z4{Q:A6→Prop}{var:List AV}{marks:List Nat}{s:ASt}{pd:Option Code}(h:Fd Q var marks s pd):∃r,GV var marks s pd=some r∧Q r:=by
  unfold Fd at h
  unfold GV
  split at h
  · exact⟨_,rfl,h⟩
  · exact⟨_,rfl,h⟩
  · exact⟨_,rfl,h⟩
  · exact h.elim
def G9(fn:FuncId)(var:List AV)(ps:Array Tmp)(a b:Code)(dfr:Nat):FE:={ state:=.ready,pending:=none,fn,var,params:=ps,assign:=a,body:=b,dfr }
theorem WC.range{E:Env}{Q:A6→Prop}{var:List AV}{marks:List Nat}{s:ASt}{fn:FuncId}{f:CX}{ps:Array Tmp}{a b:Code}{g:FuncId}{first cap:List AV}(hf:cev [] var f=.func g first cap)
    (h:WF E g (first++([.yield (s.next+1)]++cap)) (fun _ s'=>∃r,A3 s' (s.next+1)=some r∧LP r.state=false∧Fd Q var (s.next::marks) (setObj s' (s.next+1) (.loop { r with state:=.exhausted })) r.pending)
      (AH (AH s .mark) (.loop (G9 fn var ps a b s.next)))):WC E none (.rangeFunc fn f ps a b) Q var marks s:=by
  obtain⟨n,p,h1,r,h2,h3,h4⟩:=h
  obtain⟨res,h5,h6⟩:=Z4 h4
  refine⟨n+1,res,?_,h6⟩
  show DC (D9 E n) none (.rangeFunc fn f ps a b) var marks s=some res
  simp only[DC,Kt,FI,G0,hf,GY]
  have e:(AH s .mark).next=s.next+1:=rfl
  rw[e]
  have h1':=h1
  unfold G9 at h1'
  rw[h1']
  simp only[Option.bind_some,h2,h3,cond_false,h5]
theorem WR.round{E:Env}{K:AV→ASt→Prop}{l:Nat}{xs:List AV}{s:ASt}{r:FE}{var:List AV}{ca cb:AX}(h1:A3 s l=some r)(h2:DA (DV E.P r.fn) r.var r.params.toList xs=some var)
    (h3:E0 E.P r.fn r.assign=some ca) (h4:E0 E.P r.fn r.body=some cb)
    (h:WC E (some l) ca (fun q=>q.exit=.normal∧∃r',A3 q.st l=some r'∧KD r'.state=true ∧
      WC E (some l) cb (fun q2=>∃r'',A3 q2.st l=some r''∧K (.bool (DG q2.exit).isNone) (setObj q2.st l (.loop { r'' with state:=HF (DG q2.exit),pending:=DG q2.exit }))) q.var q.marks (setObj q.st l (.loop { r' with state:=.busy }))) var [] s):WR E l xs K s:=by
  obtain⟨n,q,g1,g2,r',g3,g4,m,q2,g5,r'',g6,g7⟩:=h
  refine⟨max n m+1,(_,_),?_,g7⟩
  show Jq E (D9 E (max n m)) l xs s=_
  simp only[Jq,h1,Option.bind_some,h2,h3,h4,HD,(F8 E (Nat.le_max_left n m)).code g1,g2,IT,cond_true,g3,g4,Ii,(F8 E (Nat.le_max_right n m)).code g5,g6]
  rfl
def DY:Code→Option (Code×Code)
  | .seq x y=>match DY x with
    | some p=>some p
    | none=>DY y
  | .cond _ x y=>match DY x with
    | some p=>some p
    | none=>DY y
  | .block _ c=>DY c
  | .loop c=>DY c
  | .scope c=>DY c
  | .rangeFunc _ _ a b=>some (a,b)
  | _=>none
def HC (f:FuncId):Code×Code:=(((Try.prog.funcs[f]?).bind fun fn=>fn.body.bind DY)).getD (.skip,.skip)
def iC:List AA:=[
  ⟨none,.mk (fun l=>match l with | [v]=>CL 22 v | _=>none),[.var 0],(.set 2),[]⟩,
  ⟨none,.mk (fun l=>match l with | []=>BE Try.prog 22 | _=>none),[],(.set 3),[]⟩]
def iD:List AA:=[
  ⟨none,.call 56,[.var 1],.push,[]⟩,
  ⟨none,.mk (fun l=>match l with | []=>BE Try.prog 23 | _=>none),[],(.set 4),[]⟩,
  ⟨none,.e (fun s=>on2 (fun a x=>AT (AN Try.prog s 23 a x))),[.var 4,.loc 0],.push,[]⟩]
def iE:List AA:=[
  ⟨none,.r1 (fun s a=>AD Try.prog s 22 a),[.var 2],.push,[]⟩,
  ⟨none,.call 104,[.loc 0],(.set 7),[]⟩]
def iF:List AA:=[
  ⟨none,.p1 some,[.var 8],(.set 5),[]⟩]
def iG:List AA:=[
  ⟨none,.p1 some,[.var 9],(.set 6),[]⟩]
def iH:List AA:=[
  ⟨none,.r1 (fun s a=>AD Try.prog s 23 a),[.var 4],.push,[]⟩,
  ⟨none,.call 56,[.var 6],.push,[⟨none,.r1 (fun s a=>AD Try.prog s 23 a),[.var 4],(.loc 1)⟩]⟩,
  ⟨none,.call 105,[.loc 0,.loc 1],(.set 10),[]⟩]
def iI:List AA:=[
  ⟨none,.r1 (fun s a=>AD Try.prog s 22 a),[.var 2],.push,[]⟩,
  ⟨none,.call 107,[.loc 0],.push,[]⟩,
  ⟨none,.p2 (AI Try.prog .add 3),[(.var 5),(.const (.int .i64 (1)))],.push,[]⟩,
  ⟨none,.call 106,[.loc 1,.var 5,.loc 0],.push,[]⟩,
  ⟨none,.e (fun s=>on2 (fun a x=>AT (AN Try.prog s 22 a x))),[.var 3,.loc 0],.push,[]⟩]
def nV:AX:=(.seq (.ops iF) (.ops iG))
def nW:AX:=(.block 1 (.seq (.ops iH) (.cond (.var 10)
  (.seq (.ops iI) .ret)
  .skip)))
def a83:Code:=(HC 83).1
def b83:Code:=(HC 83).2
def iJ:List AA:=[
  ⟨none,.r1 (fun s a=>AD Try.prog s 22 a),[.var 2],.push,[]⟩,
  ⟨none,.e (fun s=>on2 (fun a x=>AT (AN Try.prog s 22 a x))),[.var 3,.loc 0],.push,[]⟩]
def c83:Ar:=⟨2,11,(.seq (.ops iC) (.seq (.ops iD) (.seq (.seq (.ops iE) (.block 0 (.rangeFunc 83 (.var 7) #[12,13] a83 b83))) (.seq (.ops iJ) .ret)))),[((.var 3),some 22)]⟩
theorem ky:AQ Try.prog 83=some c83:=by kernel_rfl
theorem la:DV Try.prog 83=[0,1,2,4,5,6,7,11,12,13,17]:=by kernel_rfl
theorem ca83:E0 Try.prog 83 a83=some nV:=by kernel_rfl
theorem cb83:E0 Try.prog 83 b83=some nW:=by kernel_rfl
def d9:List AA:=[
  ⟨none,.mk (fun l=>match l with | [v]=>CL 22 v | _=>none),[.var 0],(.set 2),[]⟩,
  ⟨none,.mk (fun l=>match l with | [v]=>CL 33 v | _=>none),[.var 1],(.set 3),[]⟩,
  ⟨none,.mk (fun l=>match l with | []=>BE Try.prog 3 | _=>none),[],(.set 4),[]⟩,
  ⟨none,.mk (fun l=>match l with | []=>BE Try.prog 4 | _=>none),[],(.set 5),[]⟩]
def eA:List AA:=[
  ⟨none,.r1 (fun s a=>AD Try.prog s 33 a),[.var 3],.push,[]⟩,
  ⟨none,.call 54,[.loc 0],(.set 8),[]⟩]
def XN:List AA:=[
  ⟨none,.p1 some,[.var 9],(.set 6),[]⟩]
def XO:List AA:=[
  ⟨none,.p1 some,[.var 10],(.set 7),[]⟩]
def TV:List AA:=[
  ⟨none,.r1 (fun s a=>AD Try.prog s 33 a),[.var 3],.push,[]⟩,
  ⟨none,.r (fun s l=>match l with | [x]=>Ao Try.prog s 33 x | _=>none),[.loc 0],.push,[]⟩,
  ⟨none,.p2 (AI Try.prog .eql 3),[.var 6,.loc 0],.push,[]⟩,
  ⟨(some ((.loc 0),false)),.r1 (fun s a=>AD Try.prog s 33 a),[.var 3],.push,[]⟩,
  ⟨(some ((.loc 1),false)),.p1 some,[.var 6],.push,[]⟩,
  ⟨(some ((.loc 2),false)),.p2 (AC Try.prog 33),[.loc 1,.loc 0],.push,[]⟩,
  ⟨(some ((.loc 3),false)),.p1 (fun x=>AB Try.prog 27 x 0),[.loc 0],.push,[]⟩,
  ⟨(some ((.loc 4),false)),.r1 (fun s a=>AD Try.prog s 4 a),[.loc 0],.push,[]⟩,
  ⟨none,.p Rn,[(.loc 5),(.const (.bool true)),(.loc 0)],(.set 11),[]⟩]
def eB:List AA:=[
  ⟨none,.r1 (fun s a=>AD Try.prog s 22 a),[.var 2],.push,[]⟩,
  ⟨none,.mk (fun l=>(Ad Try.prog 110 2 (zipIdx [0,1] l)).bind fun r=>some (r,.slice 2)),[.loc 0,.var 7],.push,[]⟩,
  ⟨none,.r1 (fun s a=>AD Try.prog s 33 a),[.var 3],.push,[]⟩,
  ⟨none,.p2 (AC Try.prog 33),[.loc 0,.var 6],.push,[]⟩,
  ⟨none,.p1 (fun x=>AB Try.prog 27 x 1),[.loc 0],.push,[]⟩,
  ⟨none,.r1 (fun s a=>AD Try.prog s 23 a),[.loc 0],.push,[]⟩,
  ⟨none,.call 55,[.loc 4],.push,[⟨none,.r1 (fun s a=>AD Try.prog s 23 a),[.loc 2],(.loc 1)⟩,⟨none,.r1 (fun s a=>AD Try.prog s 33 a),[.var 3],(.loc 4)⟩]⟩,
  ⟨none,.call 17,[.loc 0,.loc 1],.push,[]⟩,
  ⟨none,.p1 (unA Try.prog Go.UnOp.not),[.loc 0],(.set 12),[]⟩]
def eC:List AA:=[
  ⟨none,.e (fun s=>on2 (fun a x=>AT (AN Try.prog s 3 a x))),[.var 4,.var 6],.push,[]⟩,
  ⟨none,.e (fun s=>on2 (fun a x=>AT (AN Try.prog s 4 a x))),[(.var 5),(.const (.bool false))],.push,[]⟩]
def eD:List AA:=[
  ⟨none,.r1 (fun s a=>AD Try.prog s 33 a),[.var 3],.push,[]⟩,
  ⟨none,.p2 (AC Try.prog 33),[.loc 0,.var 6],.push,[]⟩,
  ⟨none,.p1 (fun x=>AB Try.prog 27 x 1),[.loc 0],.push,[]⟩,
  ⟨none,.r1 (fun s a=>AD Try.prog s 23 a),[.loc 0],.push,[]⟩,
  ⟨none,.call 56,[.loc 0],.push,[]⟩,
  ⟨none,.r (fun s l=>match l with | [x]=>Ao Try.prog s 23 x | _=>none),[.loc 0],.push,[]⟩,
  ⟨none,.p2 (AI Try.prog .eql 3),[(.loc 0),(.const (.int .i64 (0)))],(.set 13),[]⟩]
def eE:List AA:=[
  ⟨none,.e (fun s=>on2 (fun a x=>AT (AN Try.prog s 3 a x))),[.var 4,.var 6],.push,[]⟩,
  ⟨none,.e (fun s=>on2 (fun a x=>AT (AN Try.prog s 4 a x))),[(.var 5),(.const (.bool true))],.push,[]⟩]
def kA:AX:=(.seq (.ops XN) (.ops XO))
def bs:AX:=(.block 1 (.seq (.seq (.ops TV) (.cond (.var 11)
  (.exit 1)
  .skip)) (.seq (.seq (.ops eB) (.cond (.var 12)
  (.seq (.ops eC) .ret)
  .skip)) (.seq (.ops eD) (.cond (.var 13)
  (.seq (.ops eE) .ret)
  .skip)))))
def a24:Code:=(HC 24).1
def b24:Code:=(HC 24).2
def XM:List AA:=[
  ⟨none,.r1 (fun s a=>AD Try.prog s 33 a),[.var 3],.push,[]⟩,
  ⟨none,.r (fun s l=>match l with | [x]=>Ao Try.prog s 33 x | _=>none),[.loc 0],.push,[]⟩,
  ⟨none,.e (fun s=>on2 (fun a x=>AT (AN Try.prog s 3 a x))),[.var 4,.loc 0],.push,[]⟩,
  ⟨none,.e (fun s=>on2 (fun a x=>AT (AN Try.prog s 4 a x))),[(.var 5),(.const (.bool false))],.push,[]⟩]
def c24:Ar:=⟨2,14,(.seq (.ops d9) (.seq (.seq (.ops eA) (.block 0 (.rangeFunc 24 (.var 8) #[10,11] a24 b24))) (.seq (.ops XM) .ret))),[((.var 4),some 3),((.var 5),some 4)]⟩
theorem kJ:AQ Try.prog 24=some c24:=by kernel_rfl
theorem ac:DV Try.prog 24=[0,1,2,3,4,5,6,7,9,10,11,22,33,42]:=by kernel_rfl
theorem ni:E0 Try.prog 24 a24=some kA:=by kernel_rfl
theorem nj:E0 Try.prog 24 b24=some bs:=by kernel_rfl
def Al(s:ASt)(j:Nat)(c:AV):Prop:=∃r,s.heap.get j=some (.row r)∧HN r [c]∧r.mode=.own∧r.par=none
theorem Al.keep{s s':ASt}{j:Nat}{c:AV}(h:Al s j c)(k:s'.heap.get j=s.heap.get j):Al s' j c:=by
  obtain⟨r,h1,h2⟩:=h
  exact⟨r,k.trans h1,h2⟩
theorem Al.load{s:ASt}{j:Nat}{c:AV}(h:Al s j c){t:TypeId}(ht:Ey Try.prog t=some false):AD Try.prog s t (.ptr (some (j,0)))=some c:=by
  obtain⟨r,h1,h2,_⟩:=h
  exact A7 ht (BW h1 (by rw[h2.1];simp) (h2.2 0 c rfl))
theorem Al.store{s:ASt}{j:Nat}{c d:AV}(h:Al s j c){t:TypeId}(ht:BB Try.prog t=some 1)(h1:d.isCell=true)(h2:d.cells=[d]):
    ∃s',AN Try.prog s t (.ptr (some (j,0))) d=some s'∧Al s' j d∧s'.next=s.next∧∀x,x≠j→s'.heap.get x=s.heap.get x:=by
  obtain⟨r,g1,g2,g3,g4⟩:=h
  refine⟨setObj s j (.row { r with c:=r.c.fill 0 [d],par:=none }),?_,⟨{ r with c:=r.c.fill 0 [d],par:=none },by rw[Ai,if_pos rfl],⟨g2.1,?_⟩,g3,rfl⟩,rfl,fun x hx=>by rw[Ai,if_neg hx]⟩
  · simp[AN,ht,h2,AF,Hs (vs:=[d]) (o:=0) g1 g3 g4 (by simp) (by rw[g2.1];simp) (by simp[Af,h1])]
  · intro k u hk
    have:=Ab hk
    show(Aj.fill r.c 0 [d]).get k=some u
    rw[Aj.get_fill,if_pos ⟨oK _,by simpa using this⟩]
    simpa using hk
theorem Al.new{s:ASt}{t:TypeId}{c:AV}:Al (AH s (AP t 0 [c])) s.next c:=by
  obtain⟨r,h1,h2,_,_,h5,h6⟩:=Bo t 0 [c]
  exact⟨r,by rw[AO,if_pos rfl,h1],h2,h5,h6⟩
theorem GB{s:ASt}{i:Nat}(h:s.heap.get i=some .mark):unmark s [i]=some (Bc s i):=by simp[unmark,h]
section
theorem dC{t e:TypeId}(ht:Try.prog.underlying t=some (.slice e))(hs:BB Try.prog e=some 1){s:ASt}{i n k:Nat}{cs:List AV}(h:BD s i cs)(hk:k≤n):AW Try.prog t true false false s [.slice (some (i,0)) n none,iv (k:Int)]=some (.slice (some (i,0+k * 1)) (n - k) none):=by
  obtain⟨r,h1,h2,h3,h4,h5⟩:=h
  have hb:At (iv (k:Int)) n=some k:=by simp[At,Cu,BX,AF,A1 hk]
  show Ap Try.prog s t (.slice (some (i,0)) n none) (some (iv (k:Int))) none none=_
  simp[Ap,ht,hs,BA,h1,h5,AF,hb,A1 (oK r.n),show Nat.beq 1 0=false from rfl]
theorem T3{t e:TypeId}(ht:Try.prog.underlying t=some (.slice e))(hs:BB Try.prog e=some 1){s:ASt}{i n k:Nat}{cs:List AV}(h:BD s i cs)(hk:k≤cs.length):AW Try.prog t false true false s [.slice (some (i,0)) n none,iv (k:Int)]=some (.slice (some (i,0)) k none):=by
  obtain⟨r,h1,h2,h3,h4,h5⟩:=h
  have hb:At (iv (k:Int)) r.n=some k:=by simp[At,Cu,BX,AF,h2.1,A1 hk]
  show Ap Try.prog s t (.slice (some (i,0)) n none) none (some (iv (k:Int))) none=_
  simp[Ap,ht,hs,BA,h1,h5,AF,hb,A1 (oK r.n),show Nat.beq 1 0=false from rfl]
theorem U6{t e:TypeId}(ht:Try.prog.underlying t=some (.slice e))(hs:BB Try.prog e=some 1){s:ASt}{i n k m:Nat}{cs:List AV}(h:BD s i cs)(hk:k≤m)(hm:m≤cs.length):AW Try.prog t true true false s [.slice (some (i,0)) n none,iv (k:Int),iv (m:Int)]=some (.slice (some (i,0+k * 1)) (m - k) none):=by
  obtain⟨r,h1,h2,h3,h4,h5⟩:=h
  have hb:At (iv (m:Int)) r.n=some m:=by simp[At,Cu,BX,AF,h2.1,A1 hm]
  have hb2:At (iv (k:Int)) m=some k:=by simp[At,Cu,BX,AF,A1 hk]
  show Ap Try.prog s t (.slice (some (i,0)) n none) (some (iv (k:Int))) (some (iv (m:Int))) none=_
  simp[Ap,ht,hs,BA,h1,h5,AF,hb,hb2,A1 (oK r.n),show Nat.beq 1 0=false from rfl]
theorem Z1{t e:TypeId}(ht:Try.prog.underlying t=some (.slice e))(hs:BB Try.prog e=some 1){s:ASt}{i n k m:Nat}{cs:List AV}(h:BD s i cs)(hk:k≤m)(hm:m≤n)(hn:n≤cs.length)(h0:0<n):∃w,AW Try.prog t true true true s [.slice (some (i,0)) n none,iv (k:Int),iv (m:Int),iv (n:Int)]=some w:=by
  obtain⟨r,h1,h2,h3,h4,h5⟩:=h
  have hb0:At (iv (n:Int)) r.n=some n:=by simp[At,Cu,BX,AF,h2.1,A1 hn]
  have hb:At (iv (m:Int)) n=some m:=by simp[At,Cu,BX,AF,A1 hm]
  have hb2:At (iv (k:Int)) m=some k:=by simp[At,Cu,BX,AF,A1 hk]
  show ∃w,Ap Try.prog s t (.slice (some (i,0)) n none) (some (iv (k:Int))) (some (iv (m:Int))) (some (iv (n:Int)))=some w
  simp[Ap,ht,hs,BA,h1,h5,AF,hb0,hb,hb2,A1 (oK r.n),show Nat.beq 1 0=false from rfl,show Nat.blt 0 r.n=true from NP (by rw[h2.1];omega)]
theorem Sk{t e:TypeId}(ht:Try.prog.underlying t=some (.slice e)){z:AV}(hz:B9 Try.prog e=some z)(hzc:z.cells=[z])(hz1:z.isCell=true){s:ASt}{i k:Nat}{A:List AV}{b:AV}(h:BD s i (A++[b]))(hA:A.length=k):
    ∃s',Ez Try.prog s [t] [.slice (some (i,0+k * 1)) 1 none]=some (Au,s')∧BD s' i (A++[z])∧s'.next=s.next∧∀x,x≠i→s'.heap.get x=s.heap.get x:=by
  subst hA
  obtain⟨s',g1,g2,g3,g4⟩:=h.fill (o:=A.length) (vs:=[z]) (by simp) (by simp) (by simp[Af,hz1])
  refine⟨s',?_,?_,g3,g4⟩
  · simp[Ez,ht,hz,hzc,rep,g1]
  · have e':(A++[b]).take A.length++[z]++(A++[b]).drop (A.length+[z].length)=A++[z]:=by
      rw[List.take_left' rfl,po (by simp)];simp
    rw[e']at g2
    exact g2
end
def lk(lo:Nat)(s:ASt)(v:AV)(us:List AV):Prop:=(∃a,v=.slice a 0 (some 0)∧us=[])∨∃i,v=.slice (some (i,0)) us.length none∧lo≤i∧i<s.next∧BD s i us
theorem K5{a:Option (Nat×Nat)}{n:Nat}{cap:Option Nat}:AI Try.prog .eql 22 (.slice a n cap) (.slice none 0 (some 0))=some (.bool a.isNone):=by
  have h:EK Try.prog 22=true:=by simp[EK,Try.underlying22]
  cases a<;>simp[AI,eqV,AF,h]
set_option maxRecDepth 8000 in
theorem R9         {E : Env} (hE : An   E) {b : Nat} {s : ASt} {v : AV} {us : List AV} (hb : b ≤ s.next) (h : AM      b s v us) (hcell : Af       us = true) (hL : us.length ≤ 1000000) :
    WF E 107 [v] (fun r s'=>lk s.next s' r us∧Old s.next s s') s:=by
  obtain⟨a,cap,rfl,hc⟩:=h
  refine hE.go cG (by decide) rfl ?_
  cases ha:a with
  | none =>
    subst ha
    have hL0:us=[]:=by
      cases us with
      | nil=>rfl
      | cons x L=>obtain⟨i,o,e,_⟩:=hc 0 x rfl;cases e
    subst hL0
    simp only[bP,NS,NT,WO,K5,Option.isNone_none,Qa,Qb,Qc,Qd,Qe,Qf,Qg,Qh,Qi,Qj,Qk,Ql,Qm,Qn,true_and,and_true,Qo,Qp,Qq,Qr,Qs,Qt,Qu,Qv,Qw,Qx,Qy,Qz,Ra,Rb,Rc,Rd,Re,Rf,Rg,Rh,Ri,Rj,Rk,Rl,Rm,Ya,Yb,Yc,Rn,Ro,Rp,Yd,Ye,Rq,Rs,Rt,Ru,Rv,Rw,Rx]
    exact⟨.inl ⟨none,rfl,rfl⟩,Old.refl _ _⟩
  | some io =>
    obtain⟨i,o⟩:=io
    subst ha
    have b0:=OY (P:=Try.prog) (t:=22) Try.underlying22 BU TD rfl
    have hmv:∀ (m:Nat) (i:Nat),Bv.val i (.slice m)=.slice (some (i,0)) m (some m):=fun _ _=>rfl
    generalize hs1:AH s (AP 23 1 [])=s1
    have n1:s1.next=s.next+1:=by rw[← hs1];rfl
    have o1:Old s.next s s1:=by rw[← hs1];exact Old.new s _
    have hld:loadN s1 s.next 0 (0 * 1)=some []:=by
      obtain⟨r,h1,h2,_⟩:=Bo 23 1 []
      exact Da (s:=s1) (i:=s.next) (by rw[← hs1,AO,if_pos rfl,h1]) h2 0 [] (oD _) (fun j u hj=>by simp at hj)
    have hx:A9 Try.prog 22=true:=JW 22 23 Try.underlying22
    cases hLc:us with
    | nil =>
      subst hLc
      have hsrc:Bg Try.prog s1 23 1 (.slice (some (i,o)) 0 cap)=some (0,[]):=rfl
      have happ:AY Try.prog s1 [22,22] [.slice (some (s.next,0)) 0 (some 0),.slice (some (i,o)) 0 cap]=some (.slice (some (s.next,0)) 0 (some 0),s1):=by
        rw[BO Try.underlying22 BU OZ (by decide) hx hsrc rfl (by omega) (by omega)]
        rfl
      simp only[bP,NS,NT,QG,K5,Option.isNone_some,pH,b0,hs1,hmv,happ,Qa,Qb,Qc,Qd,Qe,Qf,Qg,Qh,Qi,Qj,Qk,Ql,Qm,Qn,true_and,and_true,Qo,Qp,Qq,Qr,Qs,Qt,Qu,Qv,Qw,Qx,Qy,Qz,Ra,Rb,Rc,Rd,Re,Rf,Rg,Rh,Ri,Rj,Rk,Rl,Rm,Ya,Yb,Yc,Rn,Ro,Rp,Yd,Ye,Rq,Rs,Rt,Ru,Rv,Rw,Rx]
      exact⟨.inl ⟨_,rfl,rfl⟩,o1⟩
    | cons x T =>
      rw[← hLc]
      have hne:0<us.length:=by rw[hLc];simp
      have hc1:A8 b s1 (some (i,o)) us:=hc.old o1 hb
      have hsrc:=AM.src (e:=23) (cap:=cap) hc1 rfl hne
      have happ:AY Try.prog s1 [22,22] [.slice (some (s.next,0)) 0 (some 0),.slice (some (i,o)) us.length cap]=some (.slice (some (s1.next,0)) us.length none,AH s1 (B6 23 1 (Aj.fill .leaf 0 us) us.length none)):=by
        rw[BO Try.underlying22 BU OZ (by decide) hx hsrc hcell (by omega) (by omega)]
        simp only[appTo,Cw,oN,show Nat.ble us.length 0=false from Ej (by omega),cond_false,hld,Option.bind_some,BV,AF,OP,cond_true,oz,oN]
      simp only[bP,NS,NT,QG,K5,Option.isNone_some,b0,hs1,hmv,happ,Qa,Qb,Qc,Qd,Qe,Qf,Qg,Qh,Qi,Qj,Qk,Ql,Qm,Qn,true_and,and_true,Qo,Qp,Qq,Qr,Qs,Qt,Qu,Qv,Qw,Qx,Qy,Qz,Ra,Rb,Rc,Rd,Re,Rf,Rg,Rh,Ri,Rj,Rk,Rl,Rm,Ya,Yb,Yc,Rn,Ro,Rp,Yd,Ye,Rq,Rs,Rt,Ru,Rv,Rw,Rx]
      refine⟨.inr ⟨s1.next,rfl,by omega,pF _,_,by rw[AO,if_pos rfl];rfl,⟨rfl,?_⟩,rfl,rfl,rfl⟩,o1.trans ((Old.new s1 _).mono (by omega))⟩
      intro k u hk
      have hlt:=Ab hk
      show(Aj.fill .leaf 0 us).get k=some u
      rw[Aj.get_fill,if_pos ⟨oK _,by omega⟩]
      simpa using hk
set_option maxRecDepth 8000 in
theorem O4          {E : Env} (hE : An   E) {s : ASt} {i k : Nat} {us : List AV} (hr : BD    s i us) (hk : k < us.length) (hcell : Af       us = true) (hL : us.length ≤ 1000000) :
    WF E 106 [.slice (some (i,0)) us.length none,iv (k:Int),iv ((k+1:Nat):Int)] (fun r s'=>∃Z,Z≠[]∧r=.slice (some (i,0)) (us.take k++us.drop (k+1)).length none∧BD s' i ((us.take k++us.drop (k+1))++Z)∧s'.next=s.next∧∀x,x≠i→s'.heap.get x=s.heap.get x) s:=by
  refine hE.go cF (by decide) rfl ?_
  have hn':(us.take k++us.drop (k+1)).length=us.length - 1:=by simp;omega
  obtain⟨w,hw⟩:=Z1 Try.underlying22 BU (n:=us.length) (k:=k) (m:=k+1) hr (by omega) (by omega) (oD _) (by omega)
  have h1:=T3 Try.underlying22 BU (n:=us.length) (k:=k) hr (by omega)
  have h2:=dC Try.underlying22 BU (n:=us.length) (k:=k+1) hr (by omega)
  have hne:decide ((k:Int)=((k+1:Nat):Int))=false:=decide_eq_false (by omega)
  have hsp:us=us.take k++us[k]::us.drop (k+1):=by rw[List.getElem_cons_drop,pp]
  have happ:∃s1 b,AY Try.prog s [22,22] [.slice (some (i,0)) k none,.slice (some (i,0+(k+1) * 1)) (us.length - (k+1)) none]=some (.slice (some (i,0)) (us.length - 1) none,s1)∧BD s1 i ((us.take k++us.drop (k+1))++[b])∧s1.next=s.next∧∀x,x≠i→s1.heap.get x=s.heap.get x:=by
    have hx:A9 Try.prog 22=true:=JW 22 23 Try.underlying22
    have hdl:(us.drop (k+1)).length=us.length - (k+1):=by simp
    have hcd:Af (us.drop (k+1))=true:=by
      have:∀ {a b:List AV},Af (a++b)=true→Af b=true:=by
        intro a b
        induction a with
        | nil=>intro h;exact h
        | cons x a ih=>intro h;simp only[pW,Af,Bool.and_eq_true]at h;exact ih h.2
      exact this (a:=us.take (k+1)) (by rw[pp];exact hcell)
    obtain⟨r,q1,q2,q3,q4,q5⟩:=hr
    have hrow:BA s i=some r:=by simp[BA,q1]
    have hr:BD s i us:=⟨r,q1,q2,q3,q4,q5⟩
    have hsrc:Bg Try.prog s 23 1 (.slice (some (i,0+(k+1) * 1)) (us.length - (k+1)) none)=some (us.length - (k+1),us.drop (k+1)):=by
      have:=Da q1 q2 (0+(k+1) * 1) (us.drop (k+1)) (by simp;omega) (fun j u hj=>by
        rw[pD]at hj
        rw[← hj];congr 1;omega)
      rw[hdl]at this
      simp only[Bg]
      rw[JV (size:=1) (by rw[oV (us.length - (k+1))];exact this)]
      rfl
    rw[BO Try.underlying22 BU OZ (by decide) hx hsrc hcd (by omega) (by omega)]
    have hfit:Nat.ble (0+(k+(us.length - (k+1))) * 1) r.n=true:=A1 (by rw[q2.1];omega)
    have hlen:k+(us.length - (k+1))=us.length - 1:=by omega
    simp only[appTo,hrow,Option.bind_some,C2,q5,Dl rfl,AF,cond_true,hfit]
    rw[hlen]
    cases hd:us.drop (k+1)with
    | nil =>
      refine⟨s,us[k],rfl,?_,rfl,fun _ _=>rfl⟩
      rw[pQ]
      rw[hd]at hsp
      rw[← hsp]
      exact hr
    | cons y T =>
      rw[← hd]
      have hlast:us.drop (us.length - 1)=[us[us.length - 1]]:=by
        rw[pz (by omega),po (by omega)]
      obtain⟨s1,g1,g2,g3,g4⟩:=hr.fill (o:=0+k * 1) (vs:=us.drop (k+1)) (by rw[hd];simp) (by rw[hdl];omega) hcd
      refine⟨s1,us[us.length - 1],by rw[g1];rfl,?_,g3,g4⟩
      have e1:0+k * 1=k:=by omega
      have e2:k+(us.length - (k+1))=us.length - 1:=by omega
      rw[e1,hdl,e2,hlast]at g2
      exact g2
  obtain⟨s1,b,g1,g2,g3,g4⟩:=happ
  have h3:=U6 Try.underlying22 BU (n:=us.length - 1) (k:=us.length - 1) (m:=us.length) g2 (by omega) (by simp;omega)
  obtain⟨s2,k1,k2,k3,k4⟩:=Sk Try.underlying22 TD rfl rfl (k:=us.length - 1) g2 hn'
  have hone:us.length - (us.length - 1)=1:=by omega
  rw[hone]at h3
  simp only[mT,WE,WG,WH,WJ,WK,WM,WN,AZ Try.underlying22,hw,h1,h2,hne,g1,h3,k1,J5,Az,Qa,Qb,Qc,Qd,Qe,Qf,Qg,Qh,Qi,Qj,Qk,Ql,Qm,Qn,true_and,and_true,Qo,Qp,Qq,Qr,Qs,Qt,Qu,Qv,Qw,Qx,Qy,Qz,Ra,Rb,Rc,Rd,Re,Rf,Rg,Rh,Ri,Rj,Rk,Rl,Rm,Ya,Yb,Yc,Rn,Ro,Rp,Yd,Ye,Rq,Rs,Rt,Ru,Rv,Rw,Rx]
  refine⟨_,(fun h=>by cases h),by rw[hn'],k2,by omega,fun x hx=>(k4 x hx).trans (g4 x hx)⟩
set_option maxRecDepth 8000 in
theorem SM{E:Env}(hE:An E){s:ASt}{b:Nat}{A B:List Int}(hl:A.length=B.length)(hA:A.length≤1000000){a1 a2:Option (Nat×Nat)}{cap1 cap2:Option Nat}(hc1:A8 b s a1 (ivs A))(hc2:A8 b s a2 (ivs B)){Q:A6→Prop}(x4:AV):
    ∀ (l m : List Int) (k : Nat) (x3 x7 x8 : AV), A.drop k = l → B.drop k = m → k ≤ A.length →
      (∀ (e:Ja) (y2 y3 y6 y7 y8:AV),(e=.ret∧l≠m∧y2=.bool false∨e=.exit 0∧l=m)→Q ⟨e,[.slice a1 A.length cap1,.slice a2 A.length cap2,y2,y3,x4,iv (A.length:Int),y6,y7,y8],[],s⟩) →
      WC E none (.loop Iy) Q [.slice a1 A.length cap1,.slice a2 A.length cap2,.bool false,x3,x4,iv (A.length:Int),iv (k:Int),x7,x8] [] s:=by
  intro l
  induction l with
  | nil =>
    intro m k x3 x7 x8 hd hd2 hk hq
    have:=Ck hd hk
    subst this
    have hm:m=[]:=by rw[← hd2,hl];simp
    refine WC.loop' ?_
    simp only[Iy,NR,om,decide_false,Qa,Qb,Qc,Qd,Qe,Qf,Qg,Qh,Qi,Qj,Qk,Ql,Qm,Qn,true_and,and_true,Qo,Qp,Qq,Qr,Qs,Qt,Qu,Qv,Qw,Qx,Qy,Qz,Ra,Rb,Rc,Rd,Re,Rf,Rg,Rh,Ri,Rj,Rk,Rl,Rm,Ya,Yb,Yc,Rn,Ro,Rp,Yd,Ye,Rq,Rs,Rt,Ru,Rv,Rw,Rx]
    exact hq _ _ _ _ _ _ (.inr ⟨rfl,hm.symm⟩)
  | cons x l ih =>
    intro m k x3 x7 x8 hd hd2 hk hq
    obtain⟨hlt,hx,hd'⟩:=Bk hd
    obtain⟨y,hy⟩:∃y,B[k]? = some y:=⟨B[k]'(by omega),oM (by omega)⟩
    have hm:m=y::B.drop (k+1):=by
      rw[← hd2,pz (by omega)]
      rw[oM (by omega)]at hy
      injection hy with hy
      rw[hy]
    subst hm
    obtain⟨i,o,rfl,hi,hload⟩:=hc1 k _ (A2 hx)
    obtain⟨i',o',rfl,hi',hload'⟩:=hc2 k _ (A2 hy)
    have e1:=Aw (cap:=cap1) (i:=i) (o:=o) Try.underlying23 sz3 hlt
    have e2:AD Try.prog s 3 (.ptr (some (i,o+k * 1)))=some (iv x):=A7 ag3 (by rw[oV];exact hload)
    have e1':=Aw (cap:=cap2) (i:=i') (o:=o') Try.underlying23 sz3 hlt
    have e2':AD Try.prog s 3 (.ptr (some (i',o'+k * 1)))=some (iv y):=A7 ag3 (by rw[oV];exact hload')
    have hkk:decide ((k:Int)<(A.length:Int))=true:=decide_eq_true (by omega)
    have e3:=Aq Try.prog 3 (k:Int) 1 ⟨by omega,by omega⟩
    have e3':((k:Int)+1)=((k+1:Nat):Int):=by omega
    refine WC.loop' ?_
    generalize hW:WC E none (AX.loop Iy) Q=WW
    by_cases h:x=y
    · subst h
      simp only[Iy,NR,QE,QF,WD,hkk,e1,e2,e1',e2',e3,e3',ne_eq,not_true,decide_false,Qa,Qb,Qc,Qd,Qe,Qf,Qg,Qh,Qi,Qj,Qk,Ql,Qm,Qn,true_and,and_true,Qo,Qp,Qq,Qr,Qs,Qt,Qu,Qv,Qw,Qx,Qy,Qz,Ra,Rb,Rc,Rd,Re,Rf,Rg,Rh,Ri,Rj,Rk,Rl,Rm,Ya,Yb,Yc,Rn,Ro,Rp,Yd,Ye,Rq,Rs,Rt,Ru,Rv,Rw,Rx]
      rw[← hW]
      refine ih (B.drop (k+1)) (k+1) _ _ _ hd' rfl hlt ?_
      intro e y2 y3 y6 y7 y8 he
      refine hq e y2 y3 y6 y7 y8 ?_
      rcases he with⟨h1,h2,h3⟩ | ⟨h1,h2⟩
      · exact .inl ⟨h1,fun e=>h2 (by injection e),h3⟩
      · exact .inr ⟨h1,by rw[h2]⟩
    · simp only[Iy,NR,QE,QF,WB,hkk,e1,e2,e1',e2',h,ne_eq,not_false_eq_true,decide_true,Qa,Qb,Qc,Qd,Qe,Qf,Qg,Qh,Qi,Qj,Qk,Ql,Qm,Qn,true_and,and_true,Qo,Qp,Qq,Qr,Qs,Qt,Qu,Qv,Qw,Qx,Qy,Qz,Ra,Rb,Rc,Rd,Re,Rf,Rg,Rh,Ri,Rj,Rk,Rl,Rm,Ya,Yb,Yc,Rn,Ro,Rp,Yd,Ye,Rq,Rs,Rt,Ru,Rv,Rw,Rx]
      exact hq _ _ _ _ _ _ (.inl ⟨rfl,fun e=>h (by injection e),rfl⟩)
theorem ZO{E:Env}(hE:An E){s:ASt}{b:Nat}{A B:List Int}(hA:A.length≤1000000){v u:AV}(hv:AM b s v (ivs A))(hu:AM b s u (ivs B)):
    WF E 105 [v,u] (fun r s'=>r=.bool (decide (A=B))∧s=s') s:=by
  obtain⟨a1,cap1,rfl,hc1⟩:=hv
  obtain⟨a2,cap2,rfl,hc2⟩:=hu
  rw[Ce,Ce]
  refine hE.go cE (by decide) rfl ?_
  by_cases hl:A.length=B.length
  · have hd:decide (¬ ((A.length:Int)=(B.length:Int)))=false:=decide_eq_false (by omega)
    simp only[jL,QC,QD,WA,AZ Try.underlying23,ne_eq,hd,Qa,Qb,Qc,Qd,Qe,Qf,Qg,Qh,Qi,Qj,Qk,Ql,Qm,Qn,true_and,and_true,Qo,Qp,Qq,Qr,Qs,Qt,Qu,Qv,Qw,Qx,Qy,Qz,Ra,Rb,Rc,Rd,Re,Rf,Rg,Rh,Ri,Rj,Rk,Rl,Rm,Ya,Yb,Yc,Rn,Ro,Rp,Yd,Ye,Rq,Rs,Rt,Ru,Rv,Rw,Rx]
    rw[← hl]
    refine SM hE hl hA hc1 hc2 _ A B 0 _ _ _ rfl rfl (oK _) ?_
    rintro e y2 y3 y6 y7 y8 (⟨rfl,h,rfl⟩ | ⟨rfl,h⟩)
    · simp only[h,decide_false,Qa,Qb,Qc,Qd,Qe,Qf,Qg,Qh,Qi,Qj,Qk,Ql,Qm,Qn,true_and,and_true,Qo,Qp,Qq,Qr,Qs,Qt,Qu,Qv,Qw,Qx,Qy,Qz,Ra,Rb,Rc,Rd,Re,Rf,Rg,Rh,Ri,Rj,Rk,Rl,Rm,Ya,Yb,Yc,Rn,Ro,Rp,Yd,Ye,Rq,Rs,Rt,Ru,Rv,Rw,Rx]
    · simp only[TT,h,decide_true,if_true,Qa,Qb,Qc,Qd,Qe,Qf,Qg,Qh,Qi,Qj,Qk,Ql,Qm,Qn,true_and,and_true,Qo,Qp,Qq,Qr,Qs,Qt,Qu,Qv,Qw,Qx,Qy,Qz,Ra,Rb,Rc,Rd,Re,Rf,Rg,Rh,Ri,Rj,Rk,Rl,Rm,Ya,Yb,Yc,Rn,Ro,Rp,Yd,Ye,Rq,Rs,Rt,Ru,Rv,Rw,Rx]
  · have hd : decide (¬ ((A.length : Int) = (B.length : Int))) = true := decide_eq_true (by omega)
    have hne:A≠B:=fun e=>hl (by rw[e])
    simp only[jL,QC,QD,V9,AZ Try.underlying23,ne_eq,hd,hne,decide_false,Qa,Qb,Qc,Qd,Qe,Qf,Qg,Qh,Qi,Qj,Qk,Ql,Qm,Qn,true_and,and_true,Qo,Qp,Qq,Qr,Qs,Qt,Qu,Qv,Qw,Qx,Qy,Qz,Ra,Rb,Rc,Rd,Re,Rf,Rg,Rh,Ri,Rj,Rk,Rl,Rm,Ya,Yb,Yc,Rn,Ro,Rp,Yd,Ye,Rq,Rs,Rt,Ru,Rv,Rw,Rx]
def H0(L:List Int):Prop:=C0 L∧(∀x∈L,Dd x=false)∧L.length≤12
theorem Dc{s s':ASt}{l:Nat}(h:s'.heap.get l=s.heap.get l):A3 s' l=A3 s l:=by unfold A3;rw[h]
theorem B7(s:ASt)(l:Nat)(r:FE):A3 (setObj s l (.loop r)) l=some r:=by unfold A3;rw[Ai,if_pos rfl]
theorem BR(s:ASt)(loc var:List AV)(f:ASt→AV→Option AV)(x a:CX):Fw s loc var ⟨none,.r1 f,[x],a⟩=T8 (f s (cev loc var x)) (cev loc var a):=rfl
def KN (v u:AV) (n0 q:Nat) (x5 x6 x8 x9 x10:AV):List AV:=[v,u,.ptr (some (n0,0)),.ptr (some (n0+1,0)),.ptr (some (q,0)),x5,x6,.func 116 [] [.ptr (some (q+1,0))],x8,x9,x10]
def E7 (v u:AV) (n0 q:Nat) (x5 x6 x8 x9 x10:AV):FE:=G9 83 (KN v u n0 q x5 x6 x8 x9 x10) #[12,13] a83 b83 (q+2)
set_option maxRecDepth 16000 in
theorem SF{E:Env}(hE:An E){s0 s8:ASt}{n0 q b:Nat}{v u w d:AV}{us:List AV}{cs:List (List Int)}{c:List Int}{x5 x6 x8 x9 x10:AV}(hn0:s0.next=n0)(hq:n0+2≤q)(hb:b≤n0)
    (hv:AM n0 s0 v us) (hr:Ah b s0 us cs) (hcs:∀L∈cs,H0 L) (hlen:us.length≤1000) (h8:Old n0 s0 s8)
    (hbx:Al s8 n0 v) (hrb:Al s8 (n0+1) d) (hwb:Al s8 q w) (hw:AM q s8 w (ivs (Ae [] c))) (heq:eqA w w=true) (hmk:s8.heap.get (q+2)=some .mark)
    {k:Nat} {s:ASt} {K:AV→ASt→Prop} (hold:Old (q+3) s8 s) (hlp:A3 s (q+3)=some (E7 v u n0 q x5 x6 x8 x9 x10)) (hnx:q+3<s.next) {uk:AV} {L:List Int} (huk:us[k]? = some uk) (hLk:cs[k]? = some L)
    (hmiss:Ae [] L≠Ae [] c→∀s',Old (q+3) s8 s'→A3 s' (q+3)=some (E7 v u n0 q x5 x6 x8 x9 x10)→q+3<s'.next→K (.bool true) s')
    (hhit:Ae [] L=Ae [] c→∀s' i Z,Z≠[]→Old n0 s0 s'→Al s' (n0+1) (.slice (some (i,0)) (us.take k++us.drop (k+1)).length none)→q+3<i→i<s'.next→BD s' i ((us.take k++us.drop (k+1))++Z)→s'.heap.get (q+2)=some .mark →
      A3 s' (q+3)=some { E7 v u n0 q x5 x6 x8 x9 x10 with state:=.done,pending:=some .ret }→K (.bool false) s'):
    WR E (q+3) [iv (k:Int),uk] K s:=by
  have hk:k<us.length:=Ab huk
  have hz:DA (DV E.P 83) (KN v u n0 q x5 x6 x8 x9 x10) [12,13] [iv (k:Int),uk]=some (KN v u n0 q x5 x6 (iv (k:Int)) uk x10):=by
    rw[hE.P,la];rfl
  refine WR.round hlp hz (by rw[hE.P];exact ca83) (by rw[hE.P];exact cb83) ?_
  refine EE ?_
  simp only[nV,iF,iG,KN,Qa,Qb,Qc,Qd,Qe,Qf,Qg,Qh,Qi,Qj,Qk,Ql,Qm,Qn,true_and,and_true,Qo,Qp,Qq,Qr,Qs,Qt,Qu,Qv,Qw,Qx,Qy,Qz,Ra,Rb,Rc,Rd,Re,Rf,Rg,Rh,Ri,Rj,Rk,Rl,Rm,Ya,Yb,Yc,Rn,Ro,Rp,Yd,Ye,Rq,Rs,Rt,Ru,Rv,Rw,Rx]
  refine⟨_,hlp,rfl,EE ?_⟩
  have hLp:H0 L:=hcs L (oG hLk)
  obtain⟨uk',huk',hLs⟩:=hr.2 k L hLk
  rw[huk]at huk'
  injection huk' with huk'
  subst huk'
  generalize hs1:setObj s (q+3) _=s1
  have n1:s1.next=s.next:=by rw[← hs1];rfl
  have l1:A3 s1 (q+3)=some { E7 v u n0 q x5 x6 x8 x9 x10 with state:=.busy }:=by rw[← hs1,B7]
  have o1:∀x,x≠q+3→s1.heap.get x=s.heap.get x:=fun x hx=>by rw[← hs1,Ai,if_neg hx]
  have hold1:Old (q+3) s8 s1:=hold.trans ⟨by omega,fun x hx=>o1 x (by omega)⟩
  have h81:Old n0 s0 s1:=h8.trans (hold1.mono (by omega))
  have hnx0:=hold.1
  have w1:Al s1 q w:=hwb.keep (hold1.2 q (by omega))
  have ld:=w1.load C1
  simp only[nW,iH,ld,Qa,Qb,Qc,Qd,Qe,Qf,Qg,Qh,Qi,Qj,Qk,Ql,Qm,Qn,true_and,and_true,Qo,Qp,Qq,Qr,Qs,Qt,Qu,Qv,Qw,Qx,Qy,Qz,Ra,Rb,Rc,Rd,Re,Rf,Rg,Rh,Ri,Rj,Rk,Rl,Rm,Ya,Yb,Yc,Rn,Ro,Rp,Yd,Ye,Rq,Rs,Rt,Ru,Rv,Rw,Rx]
  refine(Kx hE hLp.1 hLp.2.1 hLp.2.2 (b:=b) (by omega) (hLs.old h81 hb)).mono ?_
  rintro v2 s2 ⟨hv2,ho2,_⟩
  rw[Kw hLp.2.1]at hv2
  have hold2:Old (q+3) s8 s2:=hold1.trans (ho2.mono (by omega))
  have l2:A3 s2 (q+3)=some { E7 v u n0 q x5 x6 x8 x9 x10 with state:=.busy }:=by rw[Dc (ho2.2 _ (by omega))];exact l1
  have ld2:=(hwb.keep (hold2.2 q (by omega))).load C1
  have hws:AM q s2 w (ivs (Ae [] c)):=hw.old (hold2.mono (by omega)) (oD _)
  simp only[BR,Az,ld2,heq,Qa,Qb,Qc,Qd,Qe,Qf,Qg,Qh,Qi,Qj,Qk,Ql,Qm,Qn,true_and,and_true,Qo,Qp,Qq,Qr,Qs,Qt,Qu,Qv,Qw,Qx,Qy,Qz,Ra,Rb,Rc,Rd,Re,Rf,Rg,Rh,Ri,Rj,Rk,Rl,Rm,Ya,Yb,Yc,Rn,Ro,Rp,Yd,Ye,Rq,Rs,Rt,Ru,Rv,Rw,Rx]
  refine(ZO hE ?_ hv2 (hws.mono (by have:=ho2.1;omega))).mono ?_
  · have := Hi         L []
    have:=hLp.2.2
    simp at *;omega
  rintro _ _ ⟨rfl,rfl⟩
  by_cases h:Ae [] L=Ae [] c
  · have hk1 := Aq      Try.prog 3 (k : Int) 1 ⟨by omega, by omega⟩
    have hk1':((k:Int)+1)=((k+1:Nat):Int):=by omega
    have ldx:=(hbx.keep (hold2.2 n0 (by omega))).load MB
    simp only[h,decide_true,iI,ldx,Qa,Qb,Qc,Qd,Qe,Qf,Qg,Qh,Qi,Qj,Qk,Ql,Qm,Qn,true_and,and_true,Qo,Qp,Qq,Qr,Qs,Qt,Qu,Qv,Qw,Qx,Qy,Qz,Ra,Rb,Rc,Rd,Re,Rf,Rg,Rh,Ri,Rj,Rk,Rl,Rm,Ya,Yb,Yc,Rn,Ro,Rp,Yd,Ye,Rq,Rs,Rt,Ru,Rv,Rw,Rx]
    have h82:Old n0 s0 s2:=h8.trans (hold2.mono (by omega))
    refine(R9 hE (b:=n0) (by have:=ho2.1;omega) (hv.old h82 (oD _)) hr.cells (by omega)).mono ?_
    rintro v3 s3 ⟨hv3,ho3⟩
    have hold3:Old (q+3) s8 s3:=hold2.trans (ho3.mono (by have:=hold2.1;have:=ho2.1;omega))
    have l3:A3 s3 (q+3)=some { E7 v u n0 q x5 x6 x8 x9 x10 with state:=.busy }:=by rw[Dc (ho3.2 _ (by have:=ho2.1;omega))];exact l2
    rcases hv3 with⟨a,rfl,e⟩ | ⟨i,rfl,hi1,hi2,hi3⟩
    · subst e;simp at hk
    simp only[hk1,hk1',Qa,Qb,Qc,Qd,Qe,Qf,Qg,Qh,Qi,Qj,Qk,Ql,Qm,Qn,true_and,and_true,Qo,Qp,Qq,Qr,Qs,Qt,Qu,Qv,Qw,Qx,Qy,Qz,Ra,Rb,Rc,Rd,Re,Rf,Rg,Rh,Ri,Rj,Rk,Rl,Rm,Ya,Yb,Yc,Rn,Ro,Rp,Yd,Ye,Rq,Rs,Rt,Ru,Rv,Rw,Rx]
    refine(O4 hE hi3 hk hr.cells (by omega)).mono ?_
    rintro _ s4 ⟨Z,hZ,rfl,hz4,n4,o4⟩
    have hin:q+3<i:=by have:=ho2.1;omega
    obtain⟨s5,g1,g2,g3,g4⟩:=(hrb.keep ((o4 (n0+1) (by omega)).trans (hold3.2 (n0+1) (by omega)))).store (d:=.slice (some (i,0)) (us.take k++us.drop (k+1)).length none) aW rfl rfl
    simp only[on2,g1,AT,Qa,Qb,Qc,Qd,Qe,Qf,Qg,Qh,Qi,Qj,Qk,Ql,Qm,Qn,true_and,and_true,Qo,Qp,Qq,Qr,Qs,Qt,Qu,Qv,Qw,Qx,Qy,Qz,Ra,Rb,Rc,Rd,Re,Rf,Rg,Rh,Ri,Rj,Rk,Rl,Rm,Ya,Yb,Yc,Rn,Ro,Rp,Yd,Ye,Rq,Rs,Rt,Ru,Rv,Rw,Rx]
    have l5:A3 s5 (q+3)=some { E7 v u n0 q x5 x6 x8 x9 x10 with state:=.busy }:=by rw[Dc ((g4 _ (by omega)).trans (o4 _ (by omega)))];exact l3
    refine⟨_,l5,?_⟩
    refine hhit h _ i Z hZ ?_ ?_ hin ?_ ?_ ?_ ?_
    · refine (h8.trans ((hold3.mono (by omega)))).trans ⟨by show s3.next ≤ s5.next; omega, fun x hx => ?_⟩
      rw[Ai,if_neg (by omega),g4 x (by omega),o4 x (by omega)]
    · exact g2.keep (by rw[Ai,if_neg (by omega)])
    · show i<s5.next;omega
    · exact(hz4.keep (g4 i (by omega))).keep (by rw[Ai,if_neg (by omega)])
    · rw[Ai,if_neg (by omega),g4 _ (by omega),o4 _ (by omega),hold3.2 _ (by omega)];exact hmk
    · rw[B7];rfl
  · simp only[h,decide_false,Qa,Qb,Qc,Qd,Qe,Qf,Qg,Qh,Qi,Qj,Qk,Ql,Qm,Qn,true_and,and_true,Qo,Qp,Qq,Qr,Qs,Qt,Qu,Qv,Qw,Qx,Qy,Qz,Ra,Rb,Rc,Rd,Re,Rf,Rg,Rh,Ri,Rj,Rk,Rl,Rm,Ya,Yb,Yc,Rn,Ro,Rp,Yd,Ye,Rq,Rs,Rt,Ru,Rv,Rw,Rx]
    refine⟨_,l2,?_⟩
    refine hmiss h _ ?_ ?_ ?_
    · exact hold2.trans ⟨oD _,fun x hx=>by rw[Ai,if_neg (by omega)]⟩
    · rw[B7];rfl
    · show q+3<s2.next
      have:=ho2.1;omega
set_option maxRecDepth 16000 in
theorem UK        {E : Env} (hE : An   E) {s0 s8 : ASt} {n0 q b : Nat} {v u w d : AV} {us : List AV} {cs : List (List Int)} {c : List Int} {x5 x6 x8 x9 x10 : AV} (hn0 : s0.next = n0) (hq : n0 + 2 ≤ q) (hb : b ≤ n0)
    (hv:AM n0 s0 v us) (hr:Ah b s0 us cs) (hcs:∀L∈cs,H0 L) (hlen:us.length≤1000) (h8:Old n0 s0 s8)
    (hbx:Al s8 n0 v) (hrb:Al s8 (n0+1) d) (hwb:Al s8 q w) (hw:AM q s8 w (ivs (Ae [] c))) (heq:eqA w w=true) (hmk:s8.heap.get (q+2)=some .mark) (hbb:Al s8 (q+1) v) {Q:A6→Prop}:
    ∀ (k : Nat) (s : ASt) (x3 x4 : AV), k ≤ cs.length → Old (q + 3) s8 s → A3     s (q + 3) = some (E7     v u n0 q x5 x6 x8 x9 x10) → q + 3 < s.next → IY    cs c cs.length = IY    cs c k →
      (IY cs c cs.length=none→∀s' y2 y3 y4,Old (q+3) s8 s'→A3 s' (q+3)=some (E7 v u n0 q x5 x6 x8 x9 x10)→q+3<s'.next→Q ⟨.exit 0,[.yield (q+3),.ptr (some (q+1,0)),y2,y3,y4],[],s'⟩) →
      (∀k,k<us.length→IY cs c cs.length=some k→∀s' i Z y2 y3 y4,Z≠[]→Old n0 s0 s'→Al s' (n0+1) (.slice (some (i,0)) (us.take k++us.drop (k+1)).length none)→q+3<i→i<s'.next→BD s' i ((us.take k++us.drop (k+1))++Z)→s'.heap.get (q+2)=some .mark →
        A3 s' (q+3)=some { E7 v u n0 q x5 x6 x8 x9 x10 with state:=.done,pending:=some .ret }→Q ⟨.ret,[.yield (q+3),.ptr (some (q+1,0)),y2,y3,y4],[],s'⟩) →
      WC E none (.loop Kb) Q [.yield (q+3),.ptr (some (q+1,0)),iv ((k:Int) - 1),x3,x4] [] s:=by
  intro k
  induction k with
  | zero =>
    intro s x3 x4 hk hold hlp hnx hl hend hhit
    refine WC.loop' ?_
    simp only[Kb,QU,show((0:Nat):Int) - 1=-1 from rfl,show decide ((0:Int)≤-1)=false from rfl,Qa,Qb,Qc,Qd,Qe,Qf,Qg,Qh,Qi,Qj,Qk,Ql,Qm,Qn,true_and,and_true,Qo,Qp,Qq,Qr,Qs,Qt,Qu,Qv,Qw,Qx,Qy,Qz,Ra,Rb,Rc,Rd,Re,Rf,Rg,Rh,Ri,Rj,Rk,Rl,Rm,Ya,Yb,Yc,Rn,Ro,Rp,Yd,Ye,Rq,Rs,Rt,Ru,Rv,Rw,Rx]
    exact hend hl s _ _ _ hold hlp hnx
  | succ k ih =>
    intro s x3 x4 hk hold hlp hnx hl hend hhit
    have hL:cs[k]? = some cs[k]:=oM hk
    obtain⟨uk,huk,hus⟩:=hr.2 k _ hL
    have hkl:k<us.length:=Ab huk
    have hgd:cs.getD k []=cs[k]:=by simp[og,hL]
    have hk1:((k+1:Nat):Int) - 1=(k:Int):=by omega
    have hge:decide ((0:Int)≤(k:Int))=true:=decide_eq_true (by omega)
    have e3:=CD Try.prog 3 (k:Int) 1 ⟨by omega,by omega⟩
    have ld:=(hbb.keep (hold.2 (q+1) (by omega))).load MB
    obtain⟨a,cap,hve,hcells⟩:=hv
    have hcells':A8 n0 s a us:=hcells.old (h8.trans (hold.mono (by omega))) (oD _)
    obtain⟨i,o,hae,hi,hload⟩:=hcells' k uk huk
    have e1:AC Try.prog 22 v (iv (k:Int))=some (.ptr (some (i,o+k * 1))):=by rw[hve,hae];exact Aw Try.underlying22 BU hkl
    have e2:AD Try.prog s 23 (.ptr (some (i,o+k * 1)))=some uk:=A7 C1 (by rw[oV];exact hload)
    refine WC.loop' ?_
    generalize hW:WC E none (AX.loop Kb) Q=WW
    rw[hk1]
    simp only[Kb,QU,Wm,hge,ld,e1,e2,Qa,Qb,Qc,Qd,Qe,Qf,Qg,Qh,Qi,Qj,Qk,Ql,Qm,Qn,true_and,and_true,Qo,Qp,Qq,Qr,Qs,Qt,Qu,Qv,Qw,Qx,Qy,Qz,Ra,Rb,Rc,Rd,Re,Rf,Rg,Rh,Ri,Rj,Rk,Rl,Rm,Ya,Yb,Yc,Rn,Ro,Rp,Yd,Ye,Rq,Rs,Rt,Ru,Rv,Rw,Rx]
    refine SF hE hn0 hq hb ⟨a,cap,hve,hcells⟩ hr hcs hlen h8 hbx hrb hwb hw heq hmk hold hlp hnx huk hL ?_ ?_
    · intro hne s' g1 g2 g3
      simp only[Wn,e3,Qa,Qb,Qc,Qd,Qe,Qf,Qg,Qh,Qi,Qj,Qk,Ql,Qm,Qn,true_and,and_true,Qo,Qp,Qq,Qr,Qs,Qt,Qu,Qv,Qw,Qx,Qy,Qz,Ra,Rb,Rc,Rd,Re,Rf,Rg,Rh,Ri,Rj,Rk,Rl,Rm,Ya,Yb,Yc,Rn,Ro,Rp,Yd,Ye,Rq,Rs,Rt,Ru,Rv,Rw,Rx]
      rw[← hW]
      refine ih s' _ _ (by omega) g1 g2 g3 ?_ hend hhit
      rw[hl]
      show(if Ae [] (cs.getD k [])=Ae [] c then some k else IY cs c k)=IY cs c k
      rw[hgd,if_neg hne]
    · intro he s' i Z g0 g1 g2 g3 g4 g5 g6 g7
      simp only[Qa,Qb,Qc,Qd,Qe,Qf,Qg,Qh,Qi,Qj,Qk,Ql,Qm,Qn,true_and,and_true,Qo,Qp,Qq,Qr,Qs,Qt,Qu,Qv,Qw,Qx,Qy,Qz,Ra,Rb,Rc,Rd,Re,Rf,Rg,Rh,Ri,Rj,Rk,Rl,Rm,Ya,Yb,Yc,Rn,Ro,Rp,Yd,Ye,Rq,Rs,Rt,Ru,Rv,Rw,Rx]
      refine hhit k hkl ?_ s' i Z _ _ _ g0 g1 g2 g3 g4 g5 g6 g7
      rw[hl]
      show(if Ae [] (cs.getD k [])=Ae [] c then some k else IY cs c k)=some k
      rw[hgd,if_pos he]
theorem ay{E:Env}(hE:An E){s:ASt}{v:AV}(hv:v.cells=[v]):WF E 104 [v] (fun r s'=>r=.func 116 [] [.ptr (some (s.next,0))]∧s'=AH s (AP 22 0 [v])) s:=by
  refine hE.go cD (by decide) rfl ?_
  have hptr:∀i,Bv.val i .ptr=.ptr (some (i,0)):=fun _=>rfl
  have hbox:CL 22 v=some (AP 22 0 [v],.ptr):=by simp[CL,hv]
  simp only[mS,V7,V8,hbox,hptr,pU,pP,Qa,Qb,Qc,Qd,Qe,Qf,Qg,Qh,Qi,Qj,Qk,Ql,Qm,Qn,true_and,and_true,Qo,Qp,Qq,Qr,Qs,Qt,Qu,Qv,Qw,Qx,Qy,Qz,Ra,Rb,Rc,Rd,Re,Rf,Rg,Rh,Ri,Rj,Rk,Rl,Rm,Ya,Yb,Yc,Rn,Ro,Rp,Yd,Ye,Rq,Rs,Rt,Ru,Rv,Rw,Rx]
theorem C8(P:Program)(s:ASt)(v:List AV)(x:CX)(t:TypeId)(l:List (CX×Option TypeId)):Br P s v ((x,some t)::l)=(AD P s t (cev [] v x)).bind fun u=>(Br P s v l).bind fun r=>some (u::r):=rfl
theorem ao:BE Try.prog 22=some (AP 22 0 [.slice none 0 (some 0)],.ptr):=by simp[BE,oB,AV.cells]
theorem NK:BE Try.prog 23=some (AP 23 0 [.slice none 0 (some 0)],.ptr):=by simp[BE,TD,AV.cells]
set_option maxRecDepth 16000 in
theorem SG{E:Env}(hE:An E){s:ASt}{b:Nat}{v u:AV}{us:List AV}{cs:List (List Int)}{c:List Int}(hb:b≤s.next)(hv:AM s.next s v us)(hr:Ah b s us cs)(hcs:∀L∈cs,H0 L)(hlen:us.length≤1000)(hc:H0 c)(hu:AM b s u (ivs c)):
    WF E 83 [v,u] (fun r s'=>∃us',Ah b s' us' (Mg cs c)∧(r=v∧us'=us∨∃i Z,r=.slice (some (i,0)) us'.length none∧BD s' i (us'++Z)∧Z≠[]∧s.next≤i∧i<s'.next)∧Old s.next s s') s:=by
  have hvc:=hv.isCell
  have hptr:∀i,Bv.val i .ptr=.ptr (some (i,0)):=fun _=>rfl
  have hbox:CL 22 v=some (AP 22 0 [v],.ptr):=by simp[CL,hvc.2]
  refine hE.go ky (by decide) rfl ?_
  generalize hn0:s.next=n0 at hv
  generalize hs1:AH s (AP 22 0 [v])=s1
  have n1:s1.next=n0+1:=by rw[← hs1,← hn0];rfl
  have o1:Old n0 s s1:=by rw[← hs1,← hn0];exact Old.new s _
  have b1:Al s1 n0 v:=by rw[← hs1,← hn0];exact Al.new
  generalize hs2:AH s1 (AP 22 0 [.slice none 0 (some 0)])=s2
  have n2:s2.next=n0+2:=by rw[← hs2];show s1.next+1=_;omega
  have o2:Old (n0+1) s1 s2:=by rw[← hs2,← n1];exact Old.new s1 _
  have b2:Al s2 (n0+1) (.slice none 0 (some 0)):=by rw[← hs2,← n1];exact Al.new
  simp only[c83,iC,iD,hbox,hn0,hs1,hptr,ao,hs2,n1,Qa,Qb,Qc,Qd,Qe,Qf,Qg,Qh,Qi,Qj,Qk,Ql,Qm,Qn,true_and,and_true,Qo,Qp,Qq,Qr,Qs,Qt,Qu,Qv,Qw,Qx,Qy,Qz,Ra,Rb,Rc,Rd,Re,Rf,Rg,Rh,Ri,Rj,Rk,Rl,Rm,Ya,Yb,Yc,Rn,Ro,Rp,Yd,Ye,Rq,Rs,Rt,Ru,Rv,Rw,Rx]
  refine(Kx hE hc.1 hc.2.1 hc.2.2 (b:=b) (by omega) (hu.old (o1.trans (o2.mono (by omega))) (by omega))).mono ?_
  rintro w s3 ⟨hw,o3,heq⟩
  rw[Kw hc.2.1]at hw
  have n3:n0+2≤s3.next:=by have:=o3.1;omega
  generalize hq:s3.next=q at n3 hw
  generalize hs4:AH s3 (AP 23 0 [.slice none 0 (some 0)])=s4
  have n4:s4.next=q+1:=by rw[← hs4,← hq];rfl
  have o4:Old q s3 s4:=by rw[← hs4,← hq];exact Old.new s3 _
  have b4:Al s4 q (.slice none 0 (some 0)):=by rw[← hs4,← hq];exact Al.new
  obtain⟨s5,g1,g2,g3,g4⟩:=b4.store (d:=w) BU hw.isCell.1 hw.isCell.2
  have o5:Old q s3 s5:=o4.trans ⟨by omega,fun x hx=>g4 x (by omega)⟩
  have b1':Al s5 n0 v:=((b1.keep (o2.2 n0 (by omega))).keep (o3.2 n0 (by omega))).keep (o5.2 n0 (by omega))
  have b2':Al s5 (n0+1) (.slice none 0 (some 0)):=(b2.keep (o3.2 _ (by omega))).keep (o5.2 _ (by omega))
  simp only[iE,NK,hq,hs4,on2,g1,AT,b1'.load MB,hptr,Qa,Qb,Qc,Qd,Qe,Qf,Qg,Qh,Qi,Qj,Qk,Ql,Qm,Qn,true_and,and_true,Qo,Qp,Qq,Qr,Qs,Qt,Qu,Qv,Qw,Qx,Qy,Qz,Ra,Rb,Rc,Rd,Re,Rf,Rg,Rh,Ri,Rj,Rk,Rl,Rm,Ya,Yb,Yc,Rn,Ro,Rp,Yd,Ye,Rq,Rs,Rt,Ru,Rv,Rw,Rx]
  refine(ay hE hvc.2).mono ?_
  rintro _ _ ⟨rfl,rfl⟩
  rw[show s5.next=q+1 by omega]
  simp only[Qa,Qb,Qc,Qd,Qe,Qf,Qg,Qh,Qi,Qj,Qk,Ql,Qm,Qn,true_and,and_true,Qo,Qp,Qq,Qr,Qs,Qt,Qu,Qv,Qw,Qx,Qy,Qz,Ra,Rb,Rc,Rd,Re,Rf,Rg,Rh,Ri,Rj,Rk,Rl,Rm,Ya,Yb,Yc,Rn,Ro,Rp,Yd,Ye,Rq,Rs,Rt,Ru,Rv,Rw,Rx]
  generalize hs6:AH s5 (AP 22 0 [v])=s6
  have n6:s6.next=q+2:=by rw[← hs6];show s5.next+1=_;omega
  have o6:Old (q+1) s5 s6:=by rw[← hs6,show q+1=s5.next by omega];exact Old.new s5 _
  have b6:Al s6 (q+1) v:=by rw[← hs6,show q+1=s5.next by omega];exact Al.new
  refine WC.range rfl ?_
  rw[n6]
  generalize hs7:AH s6 .mark=s7
  have n7:s7.next=q+3:=by rw[← hs7];show s6.next+1=_;omega
  have o7:Old (q+2) s6 s7:=by rw[← hs7,← n6];exact Old.new s6 _
  have m7:s7.heap.get (q+2)=some .mark:=by rw[← hs7,AO,if_pos n6.symm]
  generalize hs8:AH s7 _=s8
  have n8:s8.next=q+4:=by rw[← hs8];show s7.next+1=_;omega
  have o8:Old (q+3) s7 s8:=by rw[← hs8,← n7];exact Old.new s7 _
  have l8:A3 s8 (q+3)=some (E7 v u n0 q Au Au Au Au Au):=by
    unfold A3;rw[← hs8,AO,if_pos n7.symm];rfl
  have o58:Old (q+1) s5 s8:=o6.trans ((o7.mono (by omega)).trans (o8.mono (by omega)))
  have h8:Old n0 s s8:=(o1.trans (o2.mono (by omega))).trans ((o3.mono (by omega)).trans ((o5.mono (by omega)).trans (o58.mono (by omega))))
  have hbx:=b1'.keep (o58.2 n0 (by omega))
  have hrb:=b2'.keep (o58.2 (n0+1) (by omega))
  have hwb:=g2.keep (o58.2 q (by omega))
  have hbb:=(b6.keep (o7.2 (q+1) (by omega))).keep (o8.2 (q+1) (by omega))
  have hmk:s8.heap.get (q+2)=some .mark:=by rw[o8.2 _ (by omega)];exact m7
  have hw8:AM q s8 w (ivs (Ae [] c)):=hw.old (o5.trans (o58.mono (by omega))) (oD _)
  have hlv:Ao Try.prog s8 22 v=some (iv (us.length:Int)):=by obtain⟨a,cap,rfl,_⟩:=hv;exact AZ Try.underlying22
  have hsub:=CD Try.prog 3 (us.length:Int) 1 ⟨by omega,by omega⟩
  have huc:us.length=cs.length:=hr.1
  refine hE.go cM (by decide) rfl ?_
  simp only[mY,Wl,oz,pW,hbb.load MB,hlv,hsub,Qa,Qb,Qc,Qd,Qe,Qf,Qg,Qh,Qi,Qj,Qk,Ql,Qm,Qn,true_and,and_true,Qo,Qp,Qq,Qr,Qs,Qt,Qu,Qv,Qw,Qx,Qy,Qz,Ra,Rb,Rc,Rd,Re,Rf,Rg,Rh,Ri,Rj,Rk,Rl,Rm,Ya,Yb,Yc,Rn,Ro,Rp,Yd,Ye,Rq,Rs,Rt,Ru,Rv,Rw,Rx]
  rw[huc]
  refine UK hE hn0 n3 (by omega) hv hr hcs hlen h8 hbx hrb hwb hw8 heq hmk hbb cs.length s8 _ _ (oD _) (Old.refl _ _) l8 (by omega) rfl ?_ ?_
  · intro hnone s' y2 y3 y4 h1 h2 h3
    have hdr:Mg cs c=cs:=by unfold Mg;rw[hnone];rfl
    simp only[if_true,Qa,Qb,Qc,Qd,Qe,Qf,Qg,Qh,Qi,Qj,Qk,Ql,Qm,Qn,true_and,and_true,Qo,Qp,Qq,Qr,Qs,Qt,Qu,Qv,Qw,Qx,Qy,Qz,Ra,Rb,Rc,Rd,Re,Rf,Rg,Rh,Ri,Rj,Rk,Rl,Rm,Ya,Yb,Yc,Rn,Ro,Rp,Yd,Ye,Rq,Rs,Rt,Ru,Rv,Rw,Rx]
    refine⟨_,h2,rfl,?_⟩
    generalize hs9:setObj s' (q+3) _=s9
    have n9:s9.next=s'.next:=by rw[← hs9];rfl
    have o9:Old (q+3) s8 s9:=h1.trans ⟨by omega,fun x hx=>by rw[← hs9,Ai,if_neg (by omega)]⟩
    obtain⟨t1,k1,k2,k3,k4⟩:=(hrb.keep (o9.2 (n0+1) (by omega))).store (d:=v) aW hvc.1 hvc.2
    have mk1:t1.heap.get (q+2)=some .mark:=by rw[k4 _ (by omega),o9.2 _ (by omega)];exact hmk
    show Fd _ _ _ _ none
    simp only[Fd,iJ,(hbx.keep (o9.2 n0 (by omega))).load MB,on2,k1,AT,GB mk1,Qa,Qb,Qc,Qd,Qe,Qf,Qg,Qh,Qi,Qj,Qk,Ql,Qm,Qn,true_and,and_true,Qo,Qp,Qq,Qr,Qs,Qt,Qu,Qv,Qw,Qx,Qy,Qz,Ra,Rb,Rc,Rd,Re,Rf,Rg,Rh,Ri,Rj,Rk,Rl,Rm,Ya,Yb,Yc,Rn,Ro,Rp,Yd,Ye,Rq,Rs,Rt,Ru,Rv,Rw,Rx]
    have k2':Al (Bc t1 (q+2)) (n0+1) v:=k2.keep (by rw[Bi,if_neg (by omega)])
    simp only[C8,k2'.load MB,Qa,Qb,Qc,Qd,Qe,Qf,Qg,Qh,Qi,Qj,Qk,Ql,Qm,Qn,true_and,and_true,Qo,Qp,Qq,Qr,Qs,Qt,Qu,Qv,Qw,Qx,Qy,Qz,Ra,Rb,Rc,Rd,Re,Rf,Rg,Rh,Ri,Rj,Rk,Rl,Rm,Ya,Yb,Yc,Rn,Ro,Rp,Yd,Ye,Rq,Rs,Rt,Ru,Rv,Rw,Rx]
    have hfin:Old n0 s (Bc t1 (q+2)):=h8.trans ((o9.mono (by omega)).trans ⟨by show s9.next≤t1.next;omega,fun x hx=>by rw[Bi,if_neg (by omega),k4 x (by omega)]⟩)
    exact⟨us,by rw[hdr];exact hr.old (hfin.mono (by omega)),.inl (by simp),hfin⟩
  · intro k hk hsome s' i Z y2 y3 y4 hZ h1 h2 h3 h4 h5 h6 h7
    have hdr:Mg cs c=cs.take k++cs.drop (k+1):=by unfold Mg;rw[hsome];rfl
    simp only[Qa,Qb,Qc,Qd,Qe,Qf,Qg,Qh,Qi,Qj,Qk,Ql,Qm,Qn,true_and,and_true,Qo,Qp,Qq,Qr,Qs,Qt,Qu,Qv,Qw,Qx,Qy,Qz,Ra,Rb,Rc,Rd,Re,Rf,Rg,Rh,Ri,Rj,Rk,Rl,Rm,Ya,Yb,Yc,Rn,Ro,Rp,Yd,Ye,Rq,Rs,Rt,Ru,Rv,Rw,Rx]
    refine⟨_,h7,rfl,?_⟩
    generalize hs9:setObj s' (q+3) _=s9
    have n9:s9.next=s'.next:=by rw[← hs9];rfl
    have e9:∀x,x≠q+3→s9.heap.get x=s'.heap.get x:=fun x hx=>by rw[← hs9,Ai,if_neg hx]
    have mk1:s9.heap.get (q+2)=some .mark:=by rw[e9 _ (by omega)];exact h6
    show Fd _ _ _ _ (some .ret)
    simp only[Fd,GB mk1,Qa,Qb,Qc,Qd,Qe,Qf,Qg,Qh,Qi,Qj,Qk,Ql,Qm,Qn,true_and,and_true,Qo,Qp,Qq,Qr,Qs,Qt,Qu,Qv,Qw,Qx,Qy,Qz,Ra,Rb,Rc,Rd,Re,Rf,Rg,Rh,Ri,Rj,Rk,Rl,Rm,Ya,Yb,Yc,Rn,Ro,Rp,Yd,Ye,Rq,Rs,Rt,Ru,Rv,Rw,Rx]
    have k2':Al (Bc s9 (q+2)) (n0+1) _:=(h2.keep (e9 _ (by omega))).keep (by rw[Bi,if_neg (by omega)])
    simp only[C8,k2'.load MB,Qa,Qb,Qc,Qd,Qe,Qf,Qg,Qh,Qi,Qj,Qk,Ql,Qm,Qn,true_and,and_true,Qo,Qp,Qq,Qr,Qs,Qt,Qu,Qv,Qw,Qx,Qy,Qz,Ra,Rb,Rc,Rd,Re,Rf,Rg,Rh,Ri,Rj,Rk,Rl,Rm,Ya,Yb,Yc,Rn,Ro,Rp,Yd,Ye,Rq,Rs,Rt,Ru,Rv,Rw,Rx]
    have hfin:Old n0 s (Bc s9 (q+2)):=h1.trans ⟨by show s'.next≤s9.next;omega,fun x hx=>by rw[Bi,if_neg (by omega),e9 x (by omega)]⟩
    have hr9:BD (Bc s9 (q+2)) i ((us.take k++us.drop (k+1))++Z):=(h5.keep (e9 i (by omega))).keep (by rw[Bi,if_neg (by omega)])
    refine⟨us.take k++us.drop (k+1),?_,.inr ⟨i,Z,rfl,hr9,hZ,by omega,by show i<s9.next;omega⟩,hfin⟩
    rw[hdr]
    have:=hr.old (hfin.mono (show b≤n0 by omega))
    exact(this.take k).append (this.drop (k+1))
end
end Go.Proofs.Ytilhhmkdcoajnaa.Am
