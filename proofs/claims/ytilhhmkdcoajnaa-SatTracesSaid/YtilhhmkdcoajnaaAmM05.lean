/- What the library's Compact computes of a row of whole numbers; conditions: its length fits. -/
import Derived.Test.YtilhhmkdcoajnaaAmM04
import Derived.WideKeyArgs
set_option linter.unusedVariables false
set_option linter.unusedSimpArgs false
namespace Go.Proofs.Ytilhhmkdcoajnaa.Am
open Go Go.Proofs
noncomputable section
theorem BP.loadAt{s:AF}{i k a:Nat}{cs:List AV}{u:AV}(h:BP s i cs)(hk:cs[k]? = some u)(ha:a=k):AD Try.prog s 3 (.ptr (some (i,a)))=some u:=by
 subst ha;exact A4 Dg (h.load1 hk)
theorem bt{s:AF}{i n k:Nat}{cs:List AV}(h:BP s i cs)(hn:n≤cs.length)(hk:k≤n):Ad Try.prog 23 true false false s [.slice (some (i,0)) n none,iv (k:Int)]=some (.slice (some (i,0+k * 1)) (n - k) none):=by
 obtain⟨r,h1,h2,h3,h4,h5⟩:=h
 have hb:BD (iv (k:Int)) n=some k:=by simp[BD,Eb,Cc,AI,BS hk]
 show Ar Try.prog s 23 (.slice (some (i,0)) n none) (some (iv (k:Int))) none none=_
 simp[Ar,Try.underlying23,Bt,rowAt,h1,h5,AI,hb,BS (qO r.n),show Nat.beq 1 0=false from rfl]
theorem me{s:AF}{i n k:Nat}{cs:List AV}(h:BP s i cs)(hk:k≤cs.length):Ad Try.prog 23 false true false s [.slice (some (i,0)) n none,iv (k:Int)]=some (.slice (some (i,0)) k none):=by
 obtain⟨r,h1,h2,h3,h4,h5⟩:=h
 have hb:BD (iv (k:Int)) r.n=some k:=by simp[BD,Eb,Cc,AI,h2.1,BS hk]
 show Ar Try.prog s 23 (.slice (some (i,0)) n none) none (some (iv (k:Int))) none=_
 simp[Ar,Try.underlying23,Bt,rowAt,h1,h5,AI,hb,BS (qO r.n),show Nat.beq 1 0=false from rfl]
theorem bn(m:Nat):Jx (AV.cells (.int .i64 0)) m=Ax (List.replicate m 0):=by
 induction m with
 | zero=>rfl
 | succ m ih=>show iv 0::Jx _ m=_;rw[ih];rfl
theorem V8        {s : AF}  {i m k : Nat} {A B : List AV} (h : BP    s i (A ++ B)) (hA : A.length = k) (hB : B.length = m) :
    ∃s' Z,Dj Try.prog s [23] [.slice (some (i,0+k * 1)) m none]=some (BJ,s')∧Z.length=m∧BP s' i (A++Z)∧s'.next=s.next∧∀x,x≠i→s'.heap.get x=s.heap.get x:=by
  subst hA;subst hB
  cases B with
  | nil=>exact⟨s,[],by simp[Dj,Try.underlying23],rfl,h,rfl,fun _ _=>rfl⟩
  | cons b B =>
    obtain⟨s',g1,g2,g3,g4⟩:=h.fill (o:=A.length) (vs:=Ax (List.replicate (B.length+1) 0)) (by simp[rt]) (by simp) (NG _)
    refine⟨s',Ax (List.replicate (B.length+1) 0),?_,by simp,?_,g3,g4⟩
    · have hz:CY Try.prog 3=some (.int .i64 0):=RN
      simp only[Dj,Try.underlying23,qh,hz,Option.bind_some,bn,qU,qa,g1]
    · have e:(A++b::B).take A.length++Ax (List.replicate (B.length+1) 0)++(A++b::B).drop (A.length+(Ax (List.replicate (B.length+1) 0)).length)=A++Ax (List.replicate (B.length+1) 0):=by
        rw[List.take_left' rfl,rz (by simp)];simp
      rw[e]at g2
      exact g2
def dd(p:Int):List Int→List Int
 | []=>[]
 | x::r=>if x=p then dd p r else x::dd x r
def KE:List Int→List Int
 | []=>[]
 | x::r=>x::dd x r
set_option maxRecDepth 8000 in
theorem eA      {E : BN}  (hE : Good E) {lo i n k0 : Nat} (hlo : lo ≤ i) (hn : n ≤ 1000) (hk0 : 0 < k0) {Q : A0   → Prop} (x1 x5 x6 x7 : AV) :
    ∀ (S W G : List Int) (p : Int) (s : AF)  (k2 : Nat) (x8 x9 : AV), 0 < k2 → k0 + k2 = W.length + G.length + 1 → n = W.length + G.length + 1 + S.length → k0 ≤ n → BP    s i (Ax  (W ++ (G ++ p :: S))) →
      (∀s' W' G' y4 y8 y9,W'=W++dd p S→W'.length+G'.length=n→BP s' i (Ax (W'++G'))→s'.next=s.next→(∀z,z≠i→s'.heap.get z=s.heap.get z)→Q ⟨.exit 2,[.slice (some (i,0)) n none,x1,iv (W'.length:Int),.slice (some (i,0+k0 * 1)) (n - k0) none,y4,x5,x6,x7,y8,y9],[],s'⟩) →
      WC E none (.loop JU) Q [.slice (some (i,0)) n none,x1,iv (W.length:Int),.slice (some (i,0+k0 * 1)) (n - k0) none,iv (k2:Int),x5,x6,x7,x8,x9] [] s:=by
  intro S
  induction S with
  | nil =>
    intro W G p s k2 x8 x9 hk2 hk hnn hkn hr hq
    have hlt:decide (((k2:Nat):Int)<((n - k0:Nat):Int))=false:=decide_eq_false (by simp at hnn;omega)
    refine WC.loop' ?_
    simp only[JU,Ud,AW Try.underlying23,hlt,Qa,Qb,Qc,Qd,Qf,Qh,Qj,Qk,Qm,Qn,true_and,Qo,Qp,Qq,Qr,Qs,Qv,Qw,Qy,Qz,Rq]
    exact hq s W (G++[p]) _ _ _ (by simp[dd]) (by simp at hnn ⊢;omega) hr rfl fun _ _=>rfl
  | cons x T ih =>
    intro W G p s k2 x8 x9 hk2 hk hnn hkn hr hq
    have hS:(x::T).length=T.length+1:=rfl
    rw[hS]at hnn
    have hlt:decide (((k2:Nat):Int)<((n - k0:Nat):Int))=true:=decide_eq_true (by omega)
    have a1:AC Try.prog 23 (.slice (some (i,0+k0 * 1)) (n - k0) none) (iv (k2:Int))=some (.ptr (some (i,0+k0 * 1+k2 * 1))):=Al Try.underlying23 Bt (by omega)
    have hs:=DZ Try.prog 3 (k2:Int) 1 ⟨by omega,by omega⟩
    have hs1:((k2:Int) - 1)=((k2 - 1:Nat):Int):=by omega
    rw[hs1]at hs
    have a0:AC Try.prog 23 (.slice (some (i,0+k0 * 1)) (n - k0) none) (iv ((k2 - 1:Nat):Int))=some (.ptr (some (i,0+k0 * 1+(k2 - 1) * 1))):=Al Try.underlying23 Bt (by omega)
    have aw:AC Try.prog 23 (.slice (some (i,0)) n none) (iv (W.length:Int))=some (.ptr (some (i,0+W.length * 1))):=Al Try.underlying23 Bt (by omega)
    have c1:Ax (W++(G++p::x::T))=Ax (W++G++[p])++iv x::Ax T:=by simp
    have c0:Ax (W++(G++p::x::T))=Ax (W++G)++iv p::Ax (x::T):=by simp
    have l1:AD Try.prog s 3 (.ptr (some (i,0+k0 * 1+k2 * 1)))=some (iv x):=hr.loadAt (k:=W.length+G.length+1) (by rw[c1];exact Ff (by simp;omega)) (by omega)
    have l0:AD Try.prog s 3 (.ptr (some (i,0+k0 * 1+(k2 - 1) * 1)))=some (iv p):=hr.loadAt (k:=W.length+G.length) (by rw[c0];exact Ff (by simp)) (by omega)
    have e3:=Ai Try.prog 3 (k2:Int) 1 ⟨by omega,by omega⟩
    have e3':((k2:Int)+1)=((k2+1:Nat):Int):=by omega
    have e4:=Ai Try.prog 3 (W.length:Int) 1 ⟨by omega,by omega⟩
    have e4':((W.length:Int)+1)=((W.length+1:Nat):Int):=by omega
    refine WC.loop' ?_
    generalize hW:WC E none (Ac.loop JU) Q=WW
    by_cases h:x=p
    · subst h
      simp only[JU,Ud,Z1,TB,AW Try.underlying23,hlt,a1,a0,l1,hs,l0,e3,e3',ne_eq,not_true,decide_false,Qa,Qb,Qc,Qd,Qf,Qh,Qi,Qj,Qk,Qm,Qn,true_and,Qo,Qp,Qq,Qr,Qs,Qu,Qv,Qw,Qy,Qz,Rq,Rw]
      rw[← hW]
      have hc:W++(G++x::x::T)=W++((G++[x])++x::T):=by simp
      rw[hc]at hr
      refine ih W (G++[x]) x s (k2+1) _ _ (by omega) (by simp;omega) (by simp;omega) hkn hr ?_
      intro s' W' G' y4 y8 y9 f1 f2 f3 f4 f5
      exact hq s' W' G' y4 y8 y9 (by rw[f1];simp[dd]) f2 f3 f4 f5
    · have hd:dd p (x::T)=x::dd x T:=by simp[dd,h]
      obtain⟨g0,tl,htl,hG⟩:∃g0 tl,G++p::x::T=g0::tl∧∃G1,tl=G1++x::T∧G1.length=G.length:=by
        cases G with
        | nil=>exact⟨p,x::T,rfl,[],rfl,rfl⟩
        | cons g G=>exact⟨g,G++p::x::T,rfl,G++[p],by simp,by simp⟩
      obtain⟨G1,rfl,hG1⟩:=hG
      have cw:Ax (W++(G++p::x::T))=Ax W++iv g0::Ax (G1++x::T):=by rw[htl];simp
      have hr2:=hr
      rw[cw]at hr2
      obtain⟨s1,g1,g2,g3,g4⟩:=hr2.store (k:=W.length) (u:=iv x) (by simp) rfl rfl
      simp only[JU,Ud,Z1,Zx,Zy,TB,AW Try.underlying23,hlt,a1,a0,aw,l1,hs,l0,e3,e3',e4,e4',h,ne_eq,not_false_eq_true,decide_true,BV,g1,AU,Qa,Qb,Qc,Qd,Qf,Qh,Qi,Qj,Qk,Qm,Qn,true_and,Qo,Qp,Qq,Qr,Qs,Qu,Qw,Qy,Qz,Rq,Rw]
      rw[← hW]
      have hr3:BP s1 i (Ax ((W++[x])++(G1++x::T))):=by
        have:Ax ((W++[x])++(G1++x::T))=Ax W++iv x::Ax (G1++x::T):=by simp
        rw[this];exact g2
      have hwl:(W++[x]).length=W.length+1:=by simp
      have:=ih (W++[x]) G1 x s1 (k2+1) (.bool true) (.bool true) (by omega) (by rw[hwl];omega) (by rw[hwl];omega) hkn hr3 ?_
      · rw[hwl]at this
        exact this
      · intro s' W' G' y4 y8 y9 f1 f2 f3 f4 f5
        exact hq s' W' G' y4 y8 y9 (by rw[f1,hd];simp) f2 f3 (by omega) fun z hz=>(f5 z hz).trans (g4 z hz)
set_option maxRecDepth 8000 in
theorem aP       {E : BN}  (hE : Good E) {lo i n : Nat} (hlo : lo ≤ i) (hn : n ≤ 1000) {Q : A0   → Prop} (x1 x5 : AV) :
    ∀ (R A : List Int) (y : Int) (s : AF)  (x3 x4 x6 x7 x8 x9 : AV), n = A.length + 1 + R.length → BP    s i (Ax  (A ++ y :: R)) →
      (∀e s' W' (G':List AV) y1 y2 y3 y4 y6 y7 y8 y9,(e=.ret∧y1=.slice (some (i,0)) W'.length none∨e=.exit 0∧y1=x1∧W'.length=n)→W'=A++y::dd y R→BP s' i (Ax W'++G')→s'.next=s.next→(∀z,z≠i→s'.heap.get z=s.heap.get z) →
        Q ⟨e,[.slice (some (i,0)) n none,y1,y2,y3,y4,x5,y6,y7,y8,y9],[],s'⟩) →
      WC E none (.loop JV) Q [.slice (some (i,0)) n none,x1,iv ((A.length+1:Nat):Int),x3,x4,x5,x6,x7,x8,x9] [] s:=by
  intro R
  induction R with
  | nil =>
    intro A y s x3 x4 x6 x7 x8 x9 hnn hr hq
    have hlt:decide (((A.length+1:Nat):Int)<(n:Int))=false:=decide_eq_false (by simp at hnn;omega)
    refine WC.loop' ?_
    simp only[JV,Uc,AW Try.underlying23,hlt,Qa,Qb,Qc,Qd,Qf,Qh,Qj,Qk,Qm,Qn,true_and,Qo,Qp,Qq,Qr,Qs,Qv,Qw,Qx,Qy,Qz,Ra,Rq]
    exact hq _ s (A++[y]) [] _ _ _ _ _ _ _ _ (.inr ⟨rfl,rfl,by simp at hnn ⊢;omega⟩) (by simp[dd]) (by simpa using hr) rfl fun _ _=>rfl
  | cons x T ih =>
    intro A y s x3 x4 x6 x7 x8 x9 hnn hr hq
    have hS:(x::T).length=T.length+1:=rfl
    rw[hS]at hnn
    have hlt:decide (((A.length+1:Nat):Int)<(n:Int))=true:=decide_eq_true (by omega)
    have a1:AC Try.prog 23 (.slice (some (i,0)) n none) (iv ((A.length+1:Nat):Int))=some (.ptr (some (i,0+(A.length+1) * 1))):=Al Try.underlying23 Bt (by omega)
    have hs:=DZ Try.prog 3 ((A.length+1:Nat):Int) 1 ⟨by omega,by omega⟩
    have hs1:(((A.length+1:Nat):Int) - 1)=((A.length:Nat):Int):=by omega
    rw[hs1]at hs
    have a0:AC Try.prog 23 (.slice (some (i,0)) n none) (iv ((A.length:Nat):Int))=some (.ptr (some (i,0+A.length * 1))):=Al Try.underlying23 Bt (by omega)
    have c1:Ax (A++y::x::T)=Ax (A++[y])++iv x::Ax T:=by simp
    have c0:Ax (A++y::x::T)=Ax A++iv y::Ax (x::T):=by simp
    have l1:AD Try.prog s 3 (.ptr (some (i,0+(A.length+1) * 1)))=some (iv x):=hr.loadAt (k:=A.length+1) (by rw[c1];exact Ff (by simp)) (by omega)
    have l0:AD Try.prog s 3 (.ptr (some (i,0+A.length * 1)))=some (iv y):=hr.loadAt (k:=A.length) (by rw[c0];exact Ff (by simp)) (by omega)
    have e3:=Ai Try.prog 3 ((A.length+1:Nat):Int) 1 ⟨by omega,by omega⟩
    have e3':(((A.length+1:Nat):Int)+1)=((A.length+2:Nat):Int):=by omega
    refine WC.loop' ?_
    generalize hW:WC E none (Ac.loop JV) Q=WW
    by_cases h:x=y
    · subst h
      have hlen:(Ax (A++x::x::T)).length=n:=by simp;omega
      have s1:=bt (n:=n) (k:=A.length+1) hr (by omega) (by omega)
      simp only[JV,Uc,Z0,ja,jb,AW Try.underlying23,hlt,a1,a0,l1,hs,l0,s1,decide_true,Qa,Qb,Qc,Qd,Qf,Qh,Qi,Qj,Qk,Qm,Qn,true_and,Qo,Qp,Qq,Qr,Qs,Qu,Qw,Qx,Qy,Qz,Ra,Rq,Rv]
      have hc:A++x::x::T=(A++[x])++([]++x::T):=by simp
      rw[hc]at hr
      have hwl:(A++[x]).length=A.length+1:=by simp
      have:=eA hE (n:=n) (k0:=A.length+1) hlo hn (by omega) (Q:=Cy 2 (Gk (Qa E none (.seq (.ops TC) (.seq (.ops TD) .ret)) (Cy 1 (Gk (Qa E none (.ops OU) (Gk WW Q)) (Gk WW Q)))) (Cy 1 (Gk (Qa E none (.ops OU) (Gk WW Q)) (Gk WW Q))))) x1 x5 (.bool true) (.bool true) T (A++[x]) [] x s 1 x8 x9 (by omega) (by rw[hwl];simp) (by rw[hwl];simp;omega) (by omega) hr ?_
      · rw[hwl]at this
        simp only[Qa,Qw,Qx,Ra]at this
        exact this
      · intro s' W' G' y4 y8 y9 f1 f2 f3 f4 f5
        have hlen':(Ax (W'++G')).length=n:=by simp;omega
        have t1:=bt (n:=n) (k:=W'.length) f3 (by omega) (by omega)
        rw[TZ]at f3
        obtain⟨s2,Z,g1,g2,g3,g4,g5⟩:=V8 f3 (k:=W'.length) (m:=n - W'.length) (by simp) (by simp;omega)
        have t2:=me (n:=n) (k:=W'.length) g3 (by simp)
        simp only[TC,TD,t1,g1,t2,if_true,Qa,Qb,Qc,Qd,Qf,Qh,Qj,Qk,Qm,Qn,true_and,Qo,Qp,Qq,Qr,Qs,Qw,Qx,Qy,Ra,Rb]
        have hd:dd x (x::T)=dd x T:=by simp[dd]
        exact hq _ s2 W' Z _ _ _ _ _ _ _ _ (.inl ⟨rfl,rfl⟩) (by rw[f1,hd];simp) g3 (by omega) fun z hz=>(g5 z hz).trans (f5 z hz)
    · simp only[JV,Uc,Z0,OU,AW Try.underlying23,hlt,a1,a0,l1,hs,l0,e3,e3',h,decide_false,Qa,Qb,Qc,Qd,Qf,Qh,Qi,Qj,Qk,Qm,Qn,true_and,Qo,Qp,Qq,Qr,Qs,Qu,Qv,Qw,Qx,Qy,Qz,Ra,Rq,Rv]
      rw[← hW]
      have hwl:(A++[y]).length=A.length+1:=by simp
      have hc:A++y::x::T=(A++[y])++x::T:=by simp
      rw[hc]at hr
      have:=ih (A++[y]) x s x3 x4 (.bool true) (.bool false) x8 x9 (by rw[hwl];omega) hr ?_
      · rw[hwl]at this
        exact this
      · intro e s' W' G' y1 y2 y3 y4 y6 y7 y8 y9 f1 f2 f3 f4 f5
        exact hq e s' W' G' y1 y2 y3 y4 y6 y7 y8 y9 f1 (by rw[f2];simp[dd,h]) f3 f4 f5
theorem HI{s:AF}{i o:Nat}{u:AV}(h:load1 s i o=some u):∃r,rowAt s i=some r∧o<r.n∧r.c.get o=some u:=by
 unfold load1 at h
 simp only[qJ]at h
 obtain⟨r,h1,h2⟩:=h
 cases hb:Nat.blt o r.n with
 | true=>rw[hb]at h2;exact⟨r,h1,by simpa[qj]using hb,h2⟩
 | false=>rw[hb]at h2;cases h2
theorem Ay.loadN{b:Nat}{s:AF}{i o:Nat}{cs:List AV}(h:Ay b s (some (i,o)) cs)(hne:cs≠[]):loadN s i o cs.length=some cs:=by
 have hp:∀k u,cs[k]? = some u→load1 s i (o+k)=some u:=by
  intro k u hk
  obtain⟨i',o',e,_,h2⟩:=h k u hk
  injection e with e;injection e with e1 e2;subst e1;subst e2
  exact h2
 have hpos:0<cs.length:=List.length_pos_iff.2 hne
 obtain⟨r,h1,h2,_⟩:=HI (hp (cs.length - 1) cs[cs.length - 1] (qP (by omega)))
 unfold Go.Proofs.Ytilhhmkdcoajnaa.Am.loadN
 rw[h1]
 have hb:Nat.ble (o+cs.length) r.n=true:=BS (by omega)
 simp only[Option.bind_some,AI,hb,cond_true]
 refine He _ _ fun j u hj=>?_
 obtain⟨r',g1,_,g3⟩:=HI (hp j u hj)
 rw[h1]at g1;injection g1 with g1;subst g1
 exact g3
theorem AX.src{b:Nat}{s:AF}{a:Option (Nat×Nat)}{n:Nat}{cap:Option Nat}{cs:List AV}(h:Ay b s a cs)(hn:cs.length=n)(h0:0<n){e:TypeId}:BZ Try.prog s e 1 (.slice a n cap)=some (n,cs):=by
 subst hn
 have hne:cs≠[]:=List.length_pos_iff.1 h0
 cases a with
 | none =>
  obtain⟨i,o,e,_⟩:=h 0 cs[0] (qP h0)
  cases e
 | some io =>
  obtain⟨i,o⟩:=io
  have:=ET (size:=1) (by rw[qa];exact h.loadN hne)
  simp[BZ,this]
theorem Lj{a:Option (Nat×Nat)}{n:Nat}{cap:Option Nat}:AL Try.prog .eql 23 (.slice a n cap) (.slice none 0 (some 0))=some (.bool a.isNone):=by
 have h:F7 Try.prog 23=true:=by simp[F7,Try.underlying23]
 cases a<;>simp[AL,cX,AI,h]
set_option maxRecDepth 8000 in
theorem Gz       {E : BN}  (hE : Good E) {b : Nat} {s : AF}  {v : AV} {L : List Int} (hb : b ≤ s.next) (h : AX      b s v (Ax  L)) (hL : L.length ≤ 1000000) :
    WF E 60 [v] (fun r s'=>De s.next s' r L∧BG s.next s s') s:=by
  obtain⟨a,cap,rfl,hc⟩:=h
  rw[EW]at *
  refine hE.go lY (by decide) rfl ?_
  cases ha:a with
  | none =>
    subst ha
    have hL0:L=[]:=by
      cases L with
      | nil=>rfl
      | cons x L=>obtain⟨i,o,e,_⟩:=hc 0 (iv x) rfl;cases e
    subst hL0
    simp only[oT,UV,UW,gy,Lj,Option.isNone_none,Qa,Qb,Qc,Qd,Qf,Qh,Qi,Qj,Ql,Qm,Qn,true_and,Qo,Qp,Qq,Qr,Qs,Qu,Qw,Qx,Rc,Re,Rf,Rg,Rh,Yc]
    exact⟨.inl ⟨none,rfl,rfl⟩,BG.refl _ _⟩
  | some io =>
    obtain⟨i,o⟩:=io
    subst ha
    have b0:=K2 (P:=Try.prog) (t:=23) Try.underlying23 Bt RN rfl
    have hmv:∀ (m:Nat) (i:Nat),Made.val i (.slice m)=.slice (some (i,0)) m (some m):=fun _ _=>rfl
    generalize hs1:newObj s (AO 3 1 [])=s1
    have n1:s1.next=s.next+1:=by rw[← hs1];rfl
    have o1:BG s.next s s1:=by rw[← hs1];exact BG.new s _
    have hld:loadN s1 s.next 0 (0 * 1)=some []:=by
      obtain⟨r,h1,h2,_⟩:=Br 3 1 []
      exact Dq (s:=s1) (i:=s.next) (by rw[← hs1,AQ,if_pos rfl,h1]) h2 0 [] (qI _) (fun j u hj=>by simp at hj)
    have hx:BI Try.prog 23=true:=Ke 23 3 Try.underlying23
    cases hLc:L with
    | nil =>
      subst hLc
      have hsrc:BZ Try.prog s1 3 1 (.slice (some (i,o)) 0 cap)=some (0,[]):=rfl
      have happ:Af Try.prog s1 [23,23] [.slice (some (s.next,0)) 0 (some 0),.slice (some (i,o)) 0 cap]=some (.slice (some (s.next,0)) 0 (some 0),s1):=by
        rw[CB Try.underlying23 Bt W0 (by decide) hx hsrc rfl (by omega) (by omega)]
        rfl
      simp only[oT,UV,UW,Y4,Lj,Option.isNone_some,rC,b0,hs1,hmv,happ,Qa,Qb,Qc,Qd,Qf,Qh,Qi,Qj,Qk,Ql,Qm,Qn,true_and,Qo,Qp,Qq,Qr,Qs,Qv,Qw,Qx,Rc,Re,Rf,Rg,Rh,Yc]
      exact⟨.inl ⟨_,rfl,rfl⟩,o1⟩
    | cons x T =>
      rw[← hLc]
      have hne:0<L.length:=by rw[hLc];simp
      have hc1:Ay b s1 (some (i,o)) (Ax L):=hc.old o1 hb
      have hsrc:=AX.src (e:=3) (cap:=cap) hc1 (EW L) hne
      have happ:Af Try.prog s1 [23,23] [.slice (some (s.next,0)) 0 (some 0),.slice (some (i,o)) L.length cap]=some (.slice (some (s1.next,0)) L.length none,newObj s1 (Cp 3 1 (Aj.fill .leaf 0 (Ax L)) (Ax L).length none)):=by
        rw[CB Try.underlying23 Bt W0 (by decide) hx hsrc (NG L) (by omega) (by omega)]
        simp only[appTo,DP,qU,show Nat.ble L.length 0=false from GL (by omega),cond_false,hld,Option.bind_some,Bv,AI,JA,cond_true,qo,qU]
      simp only[oT,UV,UW,Y4,Lj,Option.isNone_some,b0,hs1,hmv,happ,Qa,Qb,Qc,Qd,Qf,Qh,Qi,Qj,Qk,Ql,Qm,Qn,true_and,Qo,Qp,Qq,Qr,Qs,Qv,Qw,Qx,Rc,Re,Rf,Rg,Rh,Yc]
      refine⟨.inr ⟨s1.next,rfl,by omega,qn _,_,by rw[AQ,if_pos rfl];rfl,⟨rfl,?_⟩,rfl,rfl,rfl⟩,o1.trans ((BG.new s1 _).mono (by omega))⟩
      intro k u hk
      have hlt:=Ag hk
      show(Aj.fill .leaf 0 (Ax L)).get k=some u
      rw[Aj.get_fill,if_pos ⟨qO _,by omega⟩]
      simpa using hk
theorem De.slice{lo:Nat}{s:AF}{v:AV}{L:List Int}(h:De lo s v L):AX s.next s v (Ax L):=by
 rcases h with⟨a,rfl,rfl⟩ | ⟨i,rfl,h1,h2,h3⟩
 ·exact⟨a,some 0,rfl,Ay.nil⟩
 ·exact⟨some (i,0),none,by simp,fun k u hk=>⟨i,0,rfl,h2,by rw[qU];exact h3.load1 hk⟩⟩
theorem J5(L:List Int):(Ge L).length=L.length:=by
 have:∀ (R q:List Int),(R.foldl (fun q x=>FJ x q) q).length=q.length+R.length:=by
  intro R
  induction R with
  | nil=>intro q;rfl
  | cons y R ih=>intro q;simp only[q0,ih,IZ,qh];omega
 unfold Ge
 rw[List.length_reverse,this];simp
abbrev oh(l:List Int):Prop:=l.Pairwise (·<·)
abbrev cd(l:List Int):Prop:=l.Pairwise (fun a b=>b≤a)
theorem Lh       (x z : Int) : ∀ q, z ∈ FJ   x q ↔ z = x ∨ z ∈ q
  | []=>by simp[FJ]
  | y::q=>by
    have ih:=Lh x z q
    unfold FJ
    split
    · simp only[qp,ih]
      constructor
      · rintro (h | h | h)
        · exact .inr (.inl h)
        · exact .inl h
        · exact .inr (.inr h)
      · rintro (h | h | h)
        · exact .inr (.inl h)
        · exact .inl h
        · exact .inr (.inr h)
    · simp only[qp]
theorem NL{x:Int}:∀ {q},cd q→cd (FJ x q)
  | [],_=>by simp[FJ]
  | y::q,h=>by
    obtain⟨h1,h2⟩:=sD.1 h
    unfold FJ
    split
    · rename_i hlt
      refine sD.2 ⟨fun z hz=>?_,NL h2⟩
      rcases(Lh x z q).1 hz with rfl | hz
      · omega
      · exact h1 z hz
    · rename_i hn
      refine sD.2 ⟨fun z hz=>?_,h⟩
      rcases qp.1 hz with rfl | hz
      · omega
      · have:=h1 z hz;omega
theorem Lx:∀ (R:List Int){q:List Int},cd q→cd (R.foldl (fun q x=>FJ x q) q)∧∀z,z∈R.foldl (fun q x=>FJ x q) q↔z∈q∨z∈R
  | [],q,h=>⟨h,fun z=>by simp⟩
  | x::R,q,h=>by
    obtain⟨h1,h2⟩:=Lx R (NL (x:=x) h)
    refine⟨h1,fun z=>?_⟩
    rw[q0,h2,Lh,qp]
    constructor
    · rintro ((h | h) | h)
      · exact .inr (.inl h)
      · exact .inl h
      · exact .inr (.inr h)
    · rintro (h | h | h)
      · exact .inl (.inr h)
      · exact .inl (.inl h)
      · exact .inr h
theorem OX      : ∀ (l : List Int) (p : Int), (p :: l).Pairwise (· ≤ ·) → oh   (p :: dd p l) ∧ ∀ z, z ∈ p :: dd p l ↔ z ∈ p :: l
  | [],p,_=>⟨by simp[dd],fun z=>by simp[dd]⟩
  | x::l,p,h=>by
    obtain⟨h1,h2⟩:=sD.1 h
    unfold dd
    split
    · rename_i e
      subst e
      obtain⟨k1,k2⟩:=OX l x h2
      refine⟨k1,fun z=>?_⟩
      rw[k2,qp,qp,qp]
      constructor
      · rintro (h | h)
        · exact .inl h
        · exact .inr (.inr h)
      · rintro (h | h | h)
        · exact .inl h
        · exact .inl h
        · exact .inr h
    · rename_i hne
      obtain⟨k1,k2⟩:=OX l x h2
      refine⟨sD.2 ⟨fun z hz=>?_,k1⟩,fun z=>?_⟩
      · have hpx:=h1 x qR
        rcases qp.1 ((k2 z).1 hz)with rfl | hz'
        · omega
        · have:=(sD.1 h2).1 z hz';omega
      · rw[qp,k2,qp (l:=x::l)]
def PN(Q:A0→Prop)(var:List AV)(marks:List Nat)(s:AF)(pd:Option Code):Prop:=match pd with
 | none=>Q ⟨.normal,var,marks,s⟩
 | some .ret=>Q ⟨.ret,var,marks,s⟩
 | some (.exit id)=>Q ⟨.exit id,var,marks,s⟩
 | some _=>False
theorem bc{Q:A0→Prop}{var:List AV}{marks:List Nat}{s:AF}{pd:Option Code}(h:PN Q var marks s pd):∃r,Gv var marks s pd=some r∧Q r:=by
 unfold PN at h
 unfold Gv
 split at h
 ·exact⟨_,rfl,h⟩
 ·exact⟨_,rfl,h⟩
 ·exact⟨_,rfl,h⟩
 ·exact h.elim
def Kr(fn:FuncId)(var:List AV)(ps:Array Tmp)(a b:Code)(dfr:Nat):Gm:={ state:=.ready,pending:=none,fn,var,params:=ps,assign:=a,body:=b,dfr }
theorem WC.range{E:BN}{Q:A0→Prop}{var:List AV}{marks:List Nat}{s:AF}{fn:FuncId}{f:CX}{ps:Array Tmp}{a b:Code}{g:FuncId}{first cap:List AV}(hf:Du [] var f=.func g first cap)
  (h:WF E g (first++([.yield (s.next+1)]++cap)) (fun _ s'=>∃r,B2 s' (s.next+1)=some r∧TX r.state=false∧PN Q var (s.next::marks) (setObj s' (s.next+1) (.loop { r with state:=.exhausted })) r.pending)
   (newObj (newObj s .mark) (.loop (Kr fn var ps a b s.next)))):WC E none (.rangeFunc fn f ps a b) Q var marks s:=by
 obtain⟨n,p,h1,r,h2,h3,h4⟩:=h
 obtain⟨res,h5,h6⟩:=bc h4
 refine⟨n+1,res,?_,h6⟩
 show DL (Eh E n) none (.rangeFunc fn f ps a b) var marks s=some res
 simp only[DL,LZ,Fe,HQ,hf,Gy]
 have e:(newObj s .mark).next=s.next+1:=rfl
 rw[e]
 have h1':=h1
 unfold Kr at h1'
 rw[h1']
 simp only[Option.bind_some,h2,h3,cond_false,h5]
theorem WR.round{E:BN}{K:AV→AF→Prop}{l:Nat}{xs:List AV}{s:AF}{r:Gm}{var:List AV}{ca cb:Ac}(h1:B2 s l=some r)(h2:FC (Fx E.P r.fn) r.var r.params.toList xs=some var)
  (h3:Hw E.P r.fn r.assign=some ca) (h4:Hw E.P r.fn r.body=some cb)
  (h:WC E (some l) ca (fun q=>q.exit=.normal∧∃r',B2 q.st l=some r'∧Ko r'.state=true ∧
   WC E (some l) cb (fun q2=>∃r'',B2 q2.st l=some r''∧K (.bool (DT q2.exit).isNone) (setObj q2.st l (.loop { r'' with state:=Hb (DT q2.exit),pending:=DT q2.exit }))) q.var q.marks (setObj q.st l (.loop { r' with state:=.busy }))) var [] s):WR E l xs K s:=by
 obtain⟨n,q,g1,g2,r',g3,g4,m,q2,g5,r'',g6,g7⟩:=h
 refine⟨max n m+1,(_,_),?_,g7⟩
 show KT E (Eh E (max n m)) l xs s=_
 simp only[KT,h1,Option.bind_some,h2,h3,h4,Ha,(GV E (Nat.le_max_left n m)).code g1,g2,Ik,cond_true,g3,g4,Iy,(GV E (Nat.le_max_right n m)).code g5,g6]
 rfl
def Do:Code→Option (Code×Code)
 | .seq x y=>match Do x with
  | some p=>some p
  | none=>Do y
 | .cond _ x y=>match Do x with
  | some p=>some p
  | none=>Do y
 | .block _ c=>Do c
 | .loop c=>Do c
 | .scope c=>Do c
 | .rangeFunc _ _ a b=>some (a,b)
 | _=>none
def U1 (f:FuncId):Code×Code:=(((Try.prog.funcs[f]?).bind fun fn=>fn.body.bind Do)).getD (.skip,.skip)
def As(s:AF)(j:Nat)(c:AV):Prop:=∃r,s.heap.get j=some (.row r)∧IJ r [c]∧r.mode=.own∧r.par=none
theorem As.keep{s s':AF}{j:Nat}{c:AV}(h:As s j c)(k:s'.heap.get j=s.heap.get j):As s' j c:=by
 obtain⟨r,h1,h2⟩:=h
 exact⟨r,k.trans h1,h2⟩
theorem As.load{s:AF}{j:Nat}{c:AV}(h:As s j c){t:TypeId}(ht:Fp Try.prog t=some false):AD Try.prog s t (.ptr (some (j,0)))=some c:=by
 obtain⟨r,h1,h2,_⟩:=h
 exact A4 ht (B1 h1 (by rw[h2.1];simp) (h2.2 0 c rfl))
theorem As.store{s:AF}{j:Nat}{c d:AV}(h:As s j c){t:TypeId}(ht:BC Try.prog t=some 1)(h1:d.isCell=true)(h2:d.cells=[d]):
  ∃s',AM Try.prog s t (.ptr (some (j,0))) d=some s'∧As s' j d∧s'.next=s.next∧∀x,x≠j→s'.heap.get x=s.heap.get x:=by
 obtain⟨r,g1,g2,g3,g4⟩:=h
 refine⟨setObj s j (.row { r with c:=r.c.fill 0 [d],par:=none }),?_,⟨{ r with c:=r.c.fill 0 [d],par:=none },by rw[BL,if_pos rfl],⟨g2.1,?_⟩,g3,rfl⟩,rfl,fun x hx=>by rw[BL,if_neg hx]⟩
 ·simp[AM,ht,h2,AI,H9 (vs:=[d]) (o:=0) g1 g3 g4 (by simp) (by rw[g2.1];simp) (by simp[Ak,h1])]
 ·intro k u hk
  have:=Ag hk
  show(Aj.fill r.c 0 [d]).get k=some u
  rw[Aj.get_fill,if_pos ⟨qO _,by simpa using this⟩]
  simpa using hk
theorem As.new{s:AF}{t:TypeId}{c:AV}:As (newObj s (AO t 0 [c])) s.next c:=by
 obtain⟨r,h1,h2,_,_,h5,h6⟩:=Br t 0 [c]
 exact⟨r,by rw[AQ,if_pos rfl,h1],h2,h5,h6⟩
section
end
theorem Vn{s s':AF}{l:Nat}(h:s'.heap.get l=s.heap.get l):B2 s' l=B2 s l:=by unfold B2;rw[h]
theorem MF(s:AF)(l:Nat)(r:Gm):B2 (setObj s l (.loop r)) l=some r:=by unfold B2;rw[BL,if_pos rfl]
theorem BX(s:AF)(loc var:List AV)(f:AF→AV→Option AV)(x a:CX):GJ s loc var ⟨none,.r1 f,[x],a⟩=U6 (f s (Du loc var x)) (Du loc var a):=rfl
theorem Ix(P:Program)(s:AF)(v:List AV)(x:CX)(t:TypeId)(l:List (CX×Option TypeId)):B7 P s v ((x,some t)::l)=(AD P s t (Du [] v x)).bind fun u=>(B7 P s v l).bind fun r=>some (u::r):=rfl
theorem UL:Bi Try.prog 23=some (AO 23 0 [.slice none 0 (some 0)],.ptr):=by simp[Bi,Wd,AV.cells]
def Fd(b:Nat)(s:AF)(v:AV)(T:Ba):Prop:=∃a cap,v=.slice a T.length cap∧∀k d L,T[k]? = some (d,L) →
 ∃i o u,a=some (i,o)∧i<b∧load1 s i (o+k * 2)=some (.bool d)∧load1 s i (o+k * 2+1)=some u∧AX b s u (Ax L)
theorem Fd.old{b b':Nat}{s s':AF}{v:AV}{T:Ba}(h:Fd b s v T)(k:BG b' s s')(hb:b≤b'):Fd b s' v T:=by
 obtain⟨a,cap,hv,hc⟩:=h
 refine⟨a,cap,hv,fun j d L hj=>?_⟩
 obtain⟨i,o,u,h1,h2,h3,h4,h5⟩:=hc j d L hj
 exact⟨i,o,u,h1,h2,by rw[CO (k.2 i (by omega))];exact h3,by rw[CO (k.2 i (by omega))];exact h4,h5.old k hb⟩
theorem P8{s:AF}{i o:Nat}{c0 c1:AV}(h0:load1 s i o=some c0)(h1:load1 s i (o+1)=some c1):loadN s i o 2=some [c0,c1]:=by
 unfold load1 at h0 h1
 cases hr:rowAt s i with
 | none=>rw[hr]at h0;cases h0
 | some r =>
  rw[hr]at h0 h1
  simp only[Option.bind_some]at h0 h1
  obtain⟨g0,h0⟩:=AJ h0
  obtain⟨g1,h1⟩:=AJ h1
  have hlt:o+1<r.n:=by simpa[qj]using g1
  simp[loadN,hr,AI,BS (show o+2≤r.n by omega),Aj.take,h0,h1]
theorem bi{s:AF}{v:AV}{n:Nat}{us:List AV}{O:List Nat}(hd:B8 s v n 1 us O)(hl:n≤1000000000){x:AV}(hc:x.isCell=true):
  ∃v' s' O',Af Try.prog (newObj s (AO 23 1 [x])) [22,22] [v,.slice (some (s.next,0)) 1 (some 1)]=some (v',s')∧B8 s' v' (n+1) 1 (us++[x]) O'∧s.next≤s'.next ∧
   (∀j,j<s.next→j ∉ O→s'.heap.get j=s.heap.get j)∧(∀j∈O',j∈O∨s.next<j)∧(∀j,Cn v'=some j→Cn v=some j∨s.next<j):=by
 have c1:=GY (P:=Try.prog) (e:=23) (s:=newObj s (AO 23 1 [x])) (n:=1) (cap:=some 1) (sz:=1) 23 1 (by rw[AQ,if_pos rfl]) rfl
 obtain⟨v',s',O',h1,h2,h3,h4,h5,h6,h7⟩:=(hd.new (AO 23 1 [x])).append (P:=Try.prog) (st:=22) (xt:=22) Try.underlying22 CL Wz (by decide) (Ke 22 23 Try.underlying22) Ms c1 rfl (by simp[Ak,hc]) (by omega) (by omega)
 have hn:(newObj s (AO 23 1 [x])).next=s.next+1:=rfl
 refine⟨v',s',O',h1,h2,by omega,?_,?_,?_⟩
 ·intro j hj ho
  rw[h5 j (by omega) ho,AQ,if_neg (by omega)]
 ·intro j hj
  exact(h6 j hj).imp id (fun h=>by omega)
 ·intro j hj
  exact(h7 j hj).imp id (fun h=>by omega)
theorem mX{b c:Nat}{s:AF}{v:AV}{us:List AV}{cs:List (List Int)}(h:AX c s v us)(hr:An b s us cs)(hb:b≤c):N6 c s v cs:=by
 obtain⟨a,cap,rfl,hc⟩:=h
 exact⟨a,cap,by rw[hr.1],hr.rows hc hb⟩
def Lit(x:Int):Prop:=x≠0∧-9223372036854775808<x∧x<9223372036854775808
theorem qH:Try.prog.cellsOf 5=1:=by kernel_rfl
section
variable{H:Type}{enc:TypeId×Value→H}{w:World}{held:Bool}
theorem cT{n:Int}(h:(Lit.int .u8 n).wf=true):u8 n:=by
 simp only[Lit.wf,Bool.and_eq_true,decide_eq_true_eq]at h
 exact h
def bY(f:Int→AV)(q:Int→Prop)(_:AF)(us:List AV)(x:Int):Prop:=us=[f x]∧q x
theorem bZ(f:Int→AV)(q:Int→Prop)(s s':AF)(us:List AV)(x:Int)(h:bY f q s us x)(_:BG s.next s s'):bY f q s' us x:=h
theorem NO{t:TypeId}{k:IntKind}(ht:Try.prog.underlying t=some (.int k)){q:Int→Prop}(hq:∀n,(Lit.int k n).wf=true→q n)(n:Nat)(cs:List Value)(y:DataW H×List MemPlace)
  (h:DataW.trod enc Try.prog w 0 (fun _=>true) held n t cs=some y) (ρ:Bp) (s:AF) (hd:Gn Try.prog w ρ s):PL Try.prog w (bY (fun n=>.int k n) q) cs ρ s:=by
 obtain⟨m,rfl,_,h3⟩:=DataW.trod_int ht h
 exact⟨ρ,s,[.int k m],m,hd,Bp.le_refl ρ,BG.refl _ _,.cons (.int k m) .nil,rfl,hq m h3⟩
theorem Li{t e:TypeId}{k:IntKind}(ht:Try.prog.underlying t=some (.slice e))(he:Try.prog.underlying e=some (.int k))(hc:Try.prog.cellsOf e=1){q:Int→Prop}(hq:∀n,(Lit.int k n).wf=true→q n){n:Nat}{cs:List Value}{y:DataW H×List MemPlace}
  (h:DataW.trod enc Try.prog w 0 (fun _=>true) held n t cs=some y) (hw:∀a,cs=[.slice (some a) 0 0]→0<w.heap.size) {ρ:Bp} {s:AF} (hd:Gn Try.prog w ρ s):PL Try.prog w (N7 (bY (fun n=>.int k n) q) 1) cs ρ s:=
 Pq (bZ _ _) ht hc (by decide) (fun _ n cs y h _=>NO he hq n cs y h) h hw hd
theorem MZ{f:Int→AV}{q:Int→Prop}{s:AF}{us:List AV}{L:List Int}(h:N7 (bY f q) 1 s us L):∃u,us=[u]∧AX s.next s u (L.map f)∧(∀x∈L,q x)∧L.length<9223372036854775808:=by
  obtain⟨a,cap,rfl,hl,hcap,h2⟩:=h
  have hm:maxLen=9223372036854775807:=rfl
  refine⟨_,rfl,⟨a,cap,by rw[qK],fun k u hk=>?_⟩,fun x hx=>?_,by omega⟩
  · rw[qs]at hk
    cases hx:L[k]? with
    | none=>rw[hx]at hk;cases hk
    | some x =>
      rw[hx]at hk
      injection hk with hk
      subst hk
      obtain⟨i,o,vs,g1,g2,g3,g4,g5,g6⟩:=h2 k x hx
      subst g5
      exact⟨i,o,g1,g2,by simpa using g4 0 (f x) rfl⟩
  · obtain ⟨k, hk⟩ := List.mem_iff_getElem?.1 hx
    obtain⟨i,o,vs,g1,g2,g3,g4,g5,g6⟩:=h2 k x hk
    exact g6
set_option maxRecDepth 16000
theorem Q3{t e:TypeId}(ht:Try.prog.underlying t=some (.slice e)){W:World}{base:Nat}{v:Value}(h:Value.okWide Try.prog W .any base t v)(a:Addr)(ha:v.cells.toList=[.slice (some a) 0 0]):0<W.heap.size:=by
 have hv:v=.slice (some a) 0 0:=by
  cases v with
  | agg cs =>
   simp[Value.okWide,ht,Cell.okWide,Cell.ok]at h
  | _ =>
   simp[Value.cells]at ha
   try (obtain⟨e1,e2,e3⟩:=ha;rw[e1,e2,e3])
 subst hv
 simp only[Value.okWide,ht,Cell.okWide,Cell.ok]at h
 obtain⟨_,_,_,_,row,cells,hs,_⟩:=h
 unfold World.shape? at hs
 cases hb:W.heap[a.block]? with
 | none=>rw[hb]at hs;cases hs
 | some o =>
  rcases qN a.block W.heap.size with h' | h'
  ·omega
  ·rw[Array.getElem?_eq_none h']at hb;cases hb
end
end
end Go.Proofs.Ytilhhmkdcoajnaa.Am
set_option linter.unusedVariables false
set_option linter.unusedSimpArgs false
set_option maxRecDepth 16000
namespace Go.Proofs.Ytilhhmkdcoajnaa.Am
open Go Go.Proofs
noncomputable section
theorem VH{W:World}{ρ:Bp}{s:AF}{f:FuncId}{xs:List AV}{args:Array Value}(hd:Gn Try.prog W ρ s)(ha:AY ρ xs args.toList)(h:WF oD f xs (fun r _=>r=.bool true) s):
  Calls Try.prog f args W fun e W'=>e=.returned (.bool true)∧Mv W W':=by
 obtain⟨n,p,h1,h2⟩:=h
 have:=((pP MN (Hy Jr) rfl eV n).call ρ s W f xs p.1 p.2 args h1 hd.inv hd.fresh ha).2
 refine callsIn_wide.1 (CallsIn.mono this ?_)
 intro e w' he
 cases e with
 | panicked c=>exact he.elim
 | outgrown=>exact he.elim
 | returned v' =>
  obtain⟨ρ',k1,k2,k3⟩:=he
  rw[h2]at k1
  cases k1
  exact⟨rfl,Uu k3 hd.notOwned⟩
theorem UN{t e:TypeId}(ht:Try.prog.underlying t=some (.slice e)){W:World}{base:Nat}{v:Value}(h:Value.okWide Try.prog W .any base t v){ρ:Bp}{a:AV}(hr:AY ρ [a] v.cells.toList):Aa ρ a v:=by
 have hv:v.cells.toList=[v]:=by
  cases v with
  | agg cs=>simp[Value.okWide,ht,Cell.okWide,Cell.ok]at h
  | _=>rfl
 rw[hv]at hr
 cases hr with
 | cons h _=>exact h
theorem reads_again{H:Type}{enc:TypeId×Value→H}{P:Program}{t:TypeId}(hl:laidOutB P=true)(hr:P.readableRec t=true)(hrow:t<P.types.size){W W':World}{v:Value}{d:DataW H}{ps:List MemPlace}{sp:Nat→Bool}
  (h:DataW.Trod enc P W 0 (fun _=>true) true t v d ps) (hk:Mv W W') (hlt:∀x∈ps,x.block<W.heap.size) (hs:∀x∈ps,sp x.block=true):DataW.Trod enc P W' 0 sp true t v d ps:=
 WideElems.Trod_stays hl hr hrow h (fun x hx=>by
  have:=hlt x hx
  cases x with
  | cell b o=>exact World.cell?_of_block (w:=W) (hk.heap b this)
  | map b=>exact hk.heap b this) hs
end
end Go.Proofs.Ytilhhmkdcoajnaa.Am
set_option linter.unusedVariables false
set_option linter.unusedSimpArgs false
namespace Go.Proofs.Ytilhhmkdcoajnaa.Am
open Go Go.Proofs
noncomputable section
theorem Dy:Fp Try.prog 44=some false:=by kernel_rfl
theorem mg:BC Try.prog 88=some 1:=by kernel_rfl
theorem nM:Fp Try.prog 88=some false:=by kernel_rfl
theorem I6:BC Try.prog 89=some 1:=by kernel_rfl
theorem ou:CQ Try.prog 89=some 24:=by kernel_rfl
theorem Kb:Fp Try.prog 89=some false:=by kernel_rfl
theorem oO:CY Try.prog 89=some (.slice none 0 (some 0)):=by kernel_rfl
theorem pT:CY Try.prog 91=some (.agg [(.slice none 0 (some 0)),(.slice none 0 (some 0)),(.slice none 0 (some 0)),(.slice none 0 (some 0)),(.slice none 0 (some 0)),(.slice none 0 (some 0)),(.slice none 0 (some 0)),(.slice none 0 (some 0)),(.slice none 0 (some 0)),(.int .i64 (0)),(.bool false),(.slice none 0 (some 0)),(.slice none 0 (some 0)),(.int .i64 (0)),(.int .i64 (0))]):=by kernel_rfl
theorem E5:BC Try.prog 92=some 1:=by kernel_rfl
theorem W1:CQ Try.prog 92=some 8:=by kernel_rfl
theorem K0:Fp Try.prog 92=some false:=by kernel_rfl
theorem UE:CY Try.prog 92=some (.ptr none):=by kernel_rfl
theorem kP:CY Try.prog 104=some (.agg [(.slice none 0 (some 0)),(.bool false),(.bool false)]):=by kernel_rfl
theorem oL:BC Try.prog 115=some 1:=by kernel_rfl
theorem PP:Fp Try.prog 115=some false:=by kernel_rfl
theorem oN:CY Try.prog 115=some (.map none):=by kernel_rfl
theorem oM:BC Try.prog 119=some 0:=by kernel_rfl
theorem cW:CY Try.prog 119=some (.agg []):=by kernel_rfl
def jc:List AA:=[
 ⟨none,.p1 some,[(.const (.int .i64 (0)))],(.set 1),[]⟩]
def je:List AA:=[
 ⟨none,.p1 (GZ Try.prog Go.UnOp.neg),[.var 0],.push,[]⟩,
 ⟨none,.p (fun l=>match l with | v::l=>EO true v l | []=>none),[.var 0,.loc 0],.push,[]⟩,
 ⟨none,.p1 some,[.loc 0],(.set 1),[]⟩]
def qA:Aw:=⟨1,2,(.seq (.ops jc) (.seq (.ops je) .ret)),[((.var 1),none)]⟩
def Z2:List AA:=[
 ⟨none,.p1 some,[(.const (.int .i64 (0)))],(.set 1),[]⟩]
def Z3:List AA:=[
 ⟨none,.p2 (AL Try.prog .lss 3),[(.var 0),(.const (.int .i64 (0)))],(.set 2),[]⟩]
def jf:List AA:=[
 ⟨none,.p2 (AL Try.prog .mul 3),[(.const (.int .i64 (2))),(.var 0)],.push,[]⟩,
 ⟨none,.p2 (AL Try.prog .sub 3),[(.const (.int .i64 (1))),(.loc 0)],.push,[]⟩,
 ⟨none,.p1 some,[.loc 0],(.set 1),[]⟩]
def jg:List AA:=[
 ⟨none,.p2 (AL Try.prog .mul 3),[(.const (.int .i64 (2))),(.var 0)],.push,[]⟩,
 ⟨none,.p1 some,[.loc 0],(.set 1),[]⟩]
def pH:Aw:=⟨1,3,(.seq (.ops Z2) (.seq (.seq (.ops Z3) (.cond (.var 2)
 (.seq (.ops jf) .ret)
 .skip)) (.seq (.ops jg) .ret))),[((.var 1),none)]⟩
def ZU:List AA:=[
 ⟨none,.p1 some,[(.const (.int .i64 (0)))],(.set 2),[]⟩]
def ZV:List AA:=[
 ⟨none,.p2 (AL Try.prog .lss 3),[(.var 1),(.const (.int .i64 (0)))],(.set 3),[]⟩]
def jH:List AA:=[
 ⟨none,.p1 AE,[.var 0],.push,[]⟩,
 ⟨none,.p1 (fun x=>AB Try.prog 91 x 2),[.loc 0],.push,[]⟩,
 ⟨none,.r1 (fun s a=>AD Try.prog s 23 a),[.loc 0],.push,[]⟩,
 ⟨none,.p1 (GZ Try.prog Go.UnOp.neg),[.var 1],.push,[]⟩,
 ⟨none,.p2 (AC Try.prog 23),[.loc 1,.loc 0],.push,[]⟩,
 ⟨none,.r1 (fun s a=>AD Try.prog s 3 a),[.loc 0],.push,[]⟩,
 ⟨none,.p1 (GZ Try.prog Go.UnOp.neg),[.loc 0],.push,[]⟩,
 ⟨none,.p1 some,[.loc 0],(.set 2),[]⟩]
def jI:List AA:=[
 ⟨none,.p1 AE,[.var 0],.push,[]⟩,
 ⟨none,.p1 (fun x=>AB Try.prog 91 x 2),[.loc 0],.push,[]⟩,
 ⟨none,.r1 (fun s a=>AD Try.prog s 23 a),[.loc 0],.push,[]⟩,
 ⟨none,.p2 (AC Try.prog 23),[.loc 0,.var 1],.push,[]⟩,
 ⟨none,.r1 (fun s a=>AD Try.prog s 3 a),[.loc 0],.push,[]⟩,
 ⟨none,.p1 some,[.loc 0],(.set 2),[]⟩]
def pE:Aw:=⟨2,4,(.seq (.ops ZU) (.seq (.seq (.ops ZV) (.cond (.var 3)
 (.seq (.ops jH) .ret)
 .skip)) (.seq (.ops jI) .ret))),[((.var 2),none)]⟩
def ip:List AA:=[
 ⟨none,.call 90,[.var 1],.push,[]⟩,
 ⟨none,.p1 some,[.loc 0],(.set 3),[]⟩]
def iq:List AA:=[
 ⟨none,.p1 AE,[.var 0],.push,[]⟩,
 ⟨none,.p1 (fun x=>AB Try.prog 91 x 2),[.loc 0],.push,[]⟩,
 ⟨none,.r1 (fun s a=>AD Try.prog s 23 a),[.loc 0],.push,[]⟩,
 ⟨none,.p1 AE,[.var 0],.push,[]⟩,
 ⟨none,.p1 (fun x=>AB Try.prog 91 x 3),[.loc 0],.push,[]⟩,
 ⟨none,.r1 (fun s a=>AD Try.prog s 23 a),[.loc 0],.push,[]⟩,
 ⟨none,.p1 AE,[.var 0],.push,[]⟩,
 ⟨none,.p1 (fun x=>AB Try.prog 91 x 4),[.loc 0],.push,[]⟩,
 ⟨none,.r1 (fun s a=>AD Try.prog s 89 a),[.loc 0],.push,[]⟩,
 ⟨none,.p2 (AL Try.prog .quo 3),[.var 1,.var 3],.push,[]⟩,
 ⟨none,.p1 AE,[.var 0],.push,[]⟩,
 ⟨none,.p1 (fun x=>AB Try.prog 91 x 8),[.loc 0],.push,[]⟩,
 ⟨none,.r1 (fun s a=>AD Try.prog s 23 a),[.loc 0],.push,[]⟩,
 ⟨none,.r (fun s l=>match l with | [x]=>Aq Try.prog s 23 x | _=>none),[.loc 0],.push,[]⟩,
 ⟨none,.p2 (AC Try.prog 23),[.loc 11,.var 3],.push,[]⟩,
 ⟨none,.e (fun s=>BV (fun a x=>AU (AM Try.prog s 3 a x))),[.loc 0,.loc 5],.push,[⟨none,.r (fun s l=>match l with | [x]=>Aq Try.prog s 23 x | _=>none),[.loc 3],(.loc 2)⟩]⟩,
 ⟨none,.p2 (AC Try.prog 23),[.loc 10,.var 3],.push,[]⟩,
 ⟨none,.e (fun s=>BV (fun a x=>AU (AM Try.prog s 3 a x))),[.loc 0,.loc 3],.push,[]⟩,
 ⟨none,.p2 (AC Try.prog 89),[.loc 9,.var 3],.push,[]⟩,
 ⟨none,.e (fun s=>BV (fun a x=>AU (AM Try.prog s 92 a x))),[.loc 0,.var 2],.push,[]⟩]
def ir:List AA:=[
 ⟨none,.p1 AE,[.var 0],.push,[]⟩,
 ⟨none,.p1 (fun x=>AB Try.prog 91 x 7),[.loc 0],.push,[]⟩,
 ⟨none,.r1 (fun s a=>AD Try.prog s 23 a),[.loc 0],.push,[]⟩,
 ⟨none,.mk (fun l=>(Ae Try.prog 23 1 (zipIdx [0] l)).bind fun r=>some (r,.slice 1)),[.var 1],.push,[]⟩,
 ⟨none,.e (fun s l=>Af Try.prog s [23,23] l),[.loc 1,.loc 0],.push,[]⟩,
 ⟨none,.p1 AE,[.var 0],.push,[]⟩,
 ⟨none,.p1 (fun x=>AB Try.prog 91 x 7),[.loc 0],.push,[]⟩,
 ⟨none,.e (fun s=>BV (fun a x=>AU (AM Try.prog s 23 a x))),[.loc 0,.loc 2],.push,[]⟩]
def pq:Aw:=⟨3,4,(.seq (.ops ip) (.seq (.ops iq) (.ops ir))),[]⟩
def jJ:List AA:=[
 ⟨none,.p1 AE,[.var 1],.push,[]⟩,
 ⟨none,.p1 (fun x=>AB Try.prog 104 x 0),[.loc 0],.push,[]⟩,
 ⟨none,.r1 (fun s a=>AD Try.prog s 23 a),[.loc 0],.push,[]⟩,
 ⟨none,.r (Ad Try.prog 23 false true false),[(.loc 0),(.const (.int .i64 (2)))],(.set 3),[]⟩,
 ⟨none,.r (fun s l=>match l with | [x]=>Aq Try.prog s 23 x | _=>none),[.var 3],(.set 4),[]⟩,
 ⟨none,.p1 some,[(.const (.int .i64 (0)))],(.set 5),[]⟩]
def Ua:List AA:=[
 ⟨none,.p2 (AL Try.prog .lss 3),[.var 5,.var 4],(.set 6),[]⟩]
def ZW:List AA:=[
 ⟨none,.p2 (AC Try.prog 23),[.var 3,.var 5],.push,[]⟩,
 ⟨none,.r1 (fun s a=>AD Try.prog s 3 a),[.loc 0],.push,[]⟩,
 ⟨none,.p1 some,[.loc 0],(.set 2),[]⟩]
def ZX:List AA:=[
 ⟨none,.p1 AE,[.var 0],.push,[]⟩,
 ⟨none,.p1 (fun x=>AB Try.prog 91 x 0),[.loc 0],.push,[]⟩,
 ⟨none,.r1 (fun s a=>AD Try.prog s 88 a),[.loc 0],.push,[]⟩,
 ⟨none,.p1 AE,[.var 0],.push,[]⟩,
 ⟨none,.p1 (fun x=>AB Try.prog 91 x 0),[.loc 0],.push,[]⟩,
 ⟨none,.r1 (fun s a=>AD Try.prog s 88 a),[.loc 0],.push,[]⟩,
 ⟨none,.mk (fun l=>(Ae Try.prog 89 1 (zipIdx [0] l)).bind fun r=>some (r,.slice 1)),[.var 1],.push,[]⟩,
 ⟨none,.call 91,[.var 2],.push,[⟨none,.r1 (fun s a=>AD Try.prog s 88 a),[.loc 3],(.loc 2)⟩,⟨none,.r1 (fun s a=>AD Try.prog s 88 a),[.loc 6],(.loc 5)⟩]⟩,
 ⟨none,.call 91,[.var 2],.push,[⟨none,.r1 (fun s a=>AD Try.prog s 88 a),[.loc 4],(.loc 3)⟩,⟨none,.r1 (fun s a=>AD Try.prog s 88 a),[.loc 7],(.loc 6)⟩]⟩,
 ⟨none,.p2 (AC Try.prog 88),[.loc 3,.loc 0],.push,[]⟩,
 ⟨none,.r1 (fun s a=>AD Try.prog s 89 a),[.loc 0],.push,[]⟩,
 ⟨none,.e (fun s l=>Af Try.prog s [89,89] l),[.loc 0,.loc 4],.push,[⟨none,.r1 (fun s a=>AD Try.prog s 88 a),[.loc 10],(.loc 9)⟩]⟩,
 ⟨none,.p2 (AC Try.prog 88),[.loc 9,.loc 4],.push,[]⟩,
 ⟨none,.e (fun s=>BV (fun a x=>AU (AM Try.prog s 89 a x))),[.loc 0,.loc 1],.push,[]⟩]
def ZY:List AA:=[
 ⟨none,.p2 (AL Try.prog .add 3),[(.var 5),(.const (.int .i64 (1)))],.push,[]⟩,
 ⟨none,.p1 some,[.loc 0],(.set 5),[]⟩]
def NF:Ac:=(.seq (.ops Ua) (.seq (.cond (.var 6)
 .skip
 (.exit 0)) (.seq (.block 1 (.seq (.ops ZW) (.ops ZX))) (.ops ZY))))
def px:Aw:=⟨2,7,(.seq (.ops jJ) (.block 0 (.loop NF))),[]⟩
def Y5:List AA:=[
 ⟨none,.p1 AE,[.var 0],.push,[]⟩,
 ⟨none,.p1 (fun x=>AB Try.prog 91 x 8),[.loc 0],.push,[]⟩,
 ⟨none,.r1 (fun s a=>AD Try.prog s 23 a),[.loc 0],.push,[]⟩,
 ⟨none,.r (fun s l=>match l with | [x]=>Aq Try.prog s 23 x | _=>none),[.loc 0],.push,[]⟩,
 ⟨none,.p2 (AL Try.prog .leq 3),[.loc 0,.var 1],(.set 5),[]⟩]
def gz:List AA:=[
 ⟨none,.p1 AE,[.var 0],.push,[]⟩,
 ⟨none,.p1 (fun x=>AB Try.prog 91 x 8),[.loc 0],.push,[]⟩,
 ⟨none,.r1 (fun s a=>AD Try.prog s 23 a),[.loc 0],.push,[]⟩,
 ⟨none,.p2 (AC Try.prog 23),[.loc 0,.var 1],.push,[]⟩,
 ⟨none,.r1 (fun s a=>AD Try.prog s 3 a),[.loc 0],.push,[]⟩,
 ⟨none,.p1 some,[.loc 0],(.set 2),[]⟩]
def hH:List AA:=[
 ⟨none,.p1 AE,[.var 0],.push,[]⟩,
 ⟨none,.p1 (fun x=>AB Try.prog 91 x 7),[.loc 0],.push,[]⟩,
 ⟨none,.r1 (fun s a=>AD Try.prog s 23 a),[.loc 0],.push,[]⟩,
 ⟨none,.r (Ad Try.prog 23 true false false),[.loc 0,.var 2],(.set 6),[]⟩,
 ⟨none,.r (fun s l=>match l with | [x]=>Aq Try.prog s 23 x | _=>none),[.var 6],(.set 7),[]⟩,
 ⟨none,.p1 some,[(.const (.int .i64 (0)))],(.set 8),[]⟩]
def Y6:List AA:=[
 ⟨none,.p2 (AL Try.prog .lss 3),[.var 8,.var 7],(.set 9),[]⟩]
def hY:List AA:=[
 ⟨none,.p2 (AC Try.prog 23),[.var 6,.var 8],.push,[]⟩,
 ⟨none,.r1 (fun s a=>AD Try.prog s 3 a),[.loc 0],.push,[]⟩,
 ⟨none,.p1 some,[.loc 0],(.set 3),[]⟩]
def hZ:List AA:=[
 ⟨none,.call 90,[.var 3],.push,[]⟩,
 ⟨none,.p1 some,[.loc 0],(.set 4),[]⟩]
def iA:List AA:=[
 ⟨none,.p1 AE,[.var 0],.push,[]⟩,
 ⟨none,.p1 (fun x=>AB Try.prog 91 x 6),[.loc 0],.push,[]⟩,
 ⟨none,.r1 (fun s a=>AD Try.prog s 23 a),[.loc 0],.push,[]⟩,
 ⟨none,.p1 AE,[.var 0],.push,[]⟩,
 ⟨none,.p1 (fun x=>AB Try.prog 91 x 2),[.loc 0],.push,[]⟩,
 ⟨none,.r1 (fun s a=>AD Try.prog s 23 a),[.loc 0],.push,[]⟩,
 ⟨none,.p1 AE,[.var 0],.push,[]⟩,
 ⟨none,.p1 (fun x=>AB Try.prog 91 x 4),[.loc 0],.push,[]⟩,
 ⟨none,.r1 (fun s a=>AD Try.prog s 89 a),[.loc 0],.push,[]⟩,
 ⟨none,.p1 AE,[.var 0],.push,[]⟩,
 ⟨none,.p1 (fun x=>AB Try.prog 91 x 2),[.loc 0],.push,[]⟩,
 ⟨none,.r1 (fun s a=>AD Try.prog s 23 a),[.loc 0],.push,[]⟩,
 ⟨none,.p2 (AC Try.prog 23),[.loc 0,.var 4],.push,[]⟩,
 ⟨none,.r1 (fun s a=>AD Try.prog s 3 a),[.loc 0],.push,[]⟩,
 ⟨none,.p2 (AC Try.prog 23),[.loc 11,.var 4],.push,[]⟩,
 ⟨none,.e (fun s=>BV (fun a x=>AU (AM Try.prog s 3 a x))),[.loc 0,.loc 1],.push,[]⟩,
 ⟨none,.p2 (AC Try.prog 23),[.loc 10,.var 4],.push,[]⟩,
 ⟨none,.e (fun s=>BV (fun a x=>AU (AM Try.prog s 3 a x))),[(.loc 0),(.const (.int .i64 (0)))],.push,[]⟩,
 ⟨none,.p2 (AC Try.prog 89),[.loc 9,.var 4],.push,[]⟩,
 ⟨none,.e (fun s=>BV (fun a x=>AU (AM Try.prog s 92 a x))),[(.loc 0),(.const (.ptr none))],.push,[]⟩]
def iB:List AA:=[
 ⟨none,.p2 (AL Try.prog .add 3),[(.var 8),(.const (.int .i64 (1)))],.push,[]⟩,
 ⟨none,.p1 some,[.loc 0],(.set 8),[]⟩]
def Pf:Ac:=(.seq (.ops Y6) (.seq (.cond (.var 9)
 .skip
 (.exit 0)) (.seq (.block 1 (.seq (.ops hY) (.seq (.ops hZ) (.ops iA)))) (.ops iB))))
def iC:List AA:=[
 ⟨none,.p1 AE,[.var 0],.push,[]⟩,
 ⟨none,.p1 (fun x=>AB Try.prog 91 x 7),[.loc 0],.push,[]⟩,
 ⟨none,.r1 (fun s a=>AD Try.prog s 23 a),[.loc 0],.push,[]⟩,
 ⟨none,.r (Ad Try.prog 23 false true false),[.loc 0,.var 2],.push,[]⟩,
 ⟨none,.p1 AE,[.var 0],.push,[]⟩,
 ⟨none,.p1 (fun x=>AB Try.prog 91 x 8),[.loc 0],.push,[]⟩,
 ⟨none,.r1 (fun s a=>AD Try.prog s 23 a),[.loc 0],.push,[]⟩,
 ⟨none,.r (Ad Try.prog 23 false true false),[.loc 0,.var 1],.push,[]⟩,
 ⟨none,.p1 AE,[.var 0],.push,[]⟩,
 ⟨none,.p1 (fun x=>AB Try.prog 91 x 7),[.loc 0],.push,[]⟩,
 ⟨none,.e (fun s=>BV (fun a x=>AU (AM Try.prog s 23 a x))),[.loc 0,.loc 6],.push,[⟨none,.r (Ad Try.prog 23 false true false),[.loc 4,.var 1],(.loc 3)⟩]⟩,
 ⟨none,.p1 AE,[.var 0],.push,[]⟩,
 ⟨none,.p1 (fun x=>AB Try.prog 91 x 8),[.loc 0],.push,[]⟩,
 ⟨none,.e (fun s=>BV (fun a x=>AU (AM Try.prog s 23 a x))),[.loc 0,.loc 5],.push,[]⟩,
 ⟨none,.p1 AE,[.var 0],.push,[]⟩,
 ⟨none,.p1 (fun x=>AB Try.prog 91 x 9),[.loc 0],.push,[]⟩,
 ⟨none,.e (fun s=>BV (fun a x=>AU (AM Try.prog s 3 a x))),[.loc 0,.var 2],.push,[]⟩]
def pA:Aw:=⟨2,10,(.seq (.seq (.ops Y5) (.cond (.var 5)
 .ret
 .skip)) (.seq (.ops gz) (.seq (.seq (.ops hH) (.block 0 (.loop Pf))) (.ops iC)))),[]⟩
def ZH:List AA:=[
 ⟨none,.p1 AE,[.var 0],.push,[]⟩,
 ⟨none,.p1 (fun x=>AB Try.prog 91 x 10),[.loc 0],.push,[]⟩,
 ⟨none,.r1 (fun s a=>AD Try.prog s 4 a),[.loc 0],.push,[]⟩,
 ⟨none,.p1 (GZ Try.prog Go.UnOp.not),[.loc 0],(.set 1),[]⟩]
def iJ:List AA:=[
 ⟨none,.p1 AE,[.var 0],.push,[]⟩,
 ⟨none,.p1 (fun x=>AB Try.prog 91 x 12),[.loc 0],.push,[]⟩,
 ⟨none,.r1 (fun s a=>AD Try.prog s 33 a),[.loc 0],.push,[]⟩,
 ⟨none,.p (fun l=>Bz Try.prog 27 (zipIdx [] l)),[],.push,[]⟩,
 ⟨none,.mk (fun l=>(Ae Try.prog 33 1 (zipIdx [0] l)).bind fun r=>some (r,.slice 1)),[.loc 0],.push,[]⟩,
 ⟨none,.e (fun s l=>Af Try.prog s [33,33] l),[.loc 2,.loc 0],.push,[]⟩,
 ⟨none,.p1 AE,[.var 0],.push,[]⟩,
 ⟨none,.p1 (fun x=>AB Try.prog 91 x 10),[.loc 0],.push,[]⟩,
 ⟨none,.e (fun s=>BV (fun a x=>AU (AM Try.prog s 4 a x))),[(.loc 0),(.const (.bool true))],.push,[]⟩,
 ⟨none,.p1 AE,[.var 0],.push,[]⟩,
 ⟨none,.p1 (fun x=>AB Try.prog 91 x 12),[.loc 0],.push,[]⟩,
 ⟨none,.e (fun s=>BV (fun a x=>AU (AM Try.prog s 33 a x))),[.loc 0,.loc 5],.push,[]⟩]
def pB:Aw:=⟨1,2,(.seq (.ops ZH) (.cond (.var 1)
 (.ops iJ)
 .skip)),[]⟩
def ge:List AA:=[
 ⟨none,.p1 some,[(.const (.int .i64 (0)))],(.set 1),[]⟩]
def gf:List AA:=[
 ⟨none,.p2 (AL Try.prog .eql 44),[(.var 0),(.const (.ptr none))],(.set 2),[]⟩]
def ny:List AA:=[
 ⟨none,.p1 some,[(.const (.int .i64 (0)))],(.set 1),[]⟩]
def gg:List AA:=[
 ⟨none,.p1 AE,[.var 0],.push,[]⟩,
 ⟨none,.p1 (fun x=>AB Try.prog 91 x 2),[.loc 0],.push,[]⟩,
 ⟨none,.r1 (fun s a=>AD Try.prog s 23 a),[.loc 0],.push,[]⟩,
 ⟨none,.r (fun s l=>match l with | [x]=>Aq Try.prog s 23 x | _=>none),[.loc 0],.push,[]⟩,
 ⟨none,.p2 (AL Try.prog .sub 3),[(.loc 0),(.const (.int .i64 (1)))],.push,[]⟩,
 ⟨none,.p1 some,[.loc 0],(.set 1),[]⟩]
def pf:Aw:=⟨1,3,(.seq (.ops ge) (.seq (.seq (.ops gf) (.cond (.var 2)
 (.seq (.ops ny) .ret)
 .skip)) (.seq (.ops gg) .ret))),[((.var 1),none)]⟩
def gc:List AA:=[
 ⟨none,.p2 (AL Try.prog .eql 44),[(.var 0),(.const (.ptr none))],(.set 2),[]⟩]
def Ys:List AA:=[
 ⟨none,.p1 AE,[.var 0],.push,[]⟩,
 ⟨none,.p1 (fun x=>AB Try.prog 91 x 2),[.loc 0],.push,[]⟩,
 ⟨none,.r1 (fun s a=>AD Try.prog s 23 a),[.loc 0],.push,[]⟩,
 ⟨none,.r (fun s l=>match l with | [x]=>Aq Try.prog s 23 x | _=>none),[.loc 0],.push,[]⟩,
 ⟨none,.p2 (AL Try.prog .leq 3),[.loc 0,.var 1],(.set 3),[]⟩]
def Yt:List AA:=[
 ⟨none,.p1 AE,[.var 0],.push,[]⟩,
 ⟨none,.p1 (fun x=>AB Try.prog 91 x 0),[.loc 0],.push,[]⟩,
 ⟨none,.r1 (fun s a=>AD Try.prog s 88 a),[.loc 0],.push,[]⟩,
 ⟨none,.mk (fun l=>(Ae Try.prog 88 2 (zipIdx [0,1] l)).bind fun r=>some (r,.slice 2)),[(.const (.slice none 0 (some 0))),(.const (.slice none 0 (some 0)))],.push,[]⟩,
 ⟨none,.e (fun s l=>Af Try.prog s [88,88] l),[.loc 1,.loc 0],.push,[]⟩,
 ⟨none,.p1 AE,[.var 0],.push,[]⟩,
 ⟨none,.p1 (fun x=>AB Try.prog 91 x 0),[.loc 0],.push,[]⟩,
 ⟨none,.e (fun s=>BV (fun a x=>AU (AM Try.prog s 88 a x))),[.loc 0,.loc 2],.push,[]⟩]
def Yu:List AA:=[
 ⟨none,.p1 AE,[.var 0],.push,[]⟩,
 ⟨none,.p1 (fun x=>AB Try.prog 91 x 2),[.loc 0],.push,[]⟩,
 ⟨none,.r1 (fun s a=>AD Try.prog s 23 a),[.loc 0],.push,[]⟩,
 ⟨none,.mk (fun l=>(Ae Try.prog 23 1 (zipIdx [0] l)).bind fun r=>some (r,.slice 1)),[(.const (.int .i64 (0)))],.push,[]⟩,
 ⟨none,.p1 AE,[.var 0],.push,[]⟩,
 ⟨none,.p1 (fun x=>AB Try.prog 91 x 3),[.loc 0],.push,[]⟩,
 ⟨none,.r1 (fun s a=>AD Try.prog s 23 a),[.loc 0],.push,[]⟩,
 ⟨none,.mk (fun l=>(Ae Try.prog 23 1 (zipIdx [0] l)).bind fun r=>some (r,.slice 1)),[(.const (.int .i64 (0)))],.push,[]⟩,
 ⟨none,.p1 AE,[.var 0],.push,[]⟩,
 ⟨none,.p1 (fun x=>AB Try.prog 91 x 4),[.loc 0],.push,[]⟩,
 ⟨none,.r1 (fun s a=>AD Try.prog s 89 a),[.loc 0],.push,[]⟩,
 ⟨none,.mk (fun l=>(Ae Try.prog 89 1 (zipIdx [0] l)).bind fun r=>some (r,.slice 1)),[(.const (.ptr none))],.push,[]⟩,
 ⟨none,.e (fun s l=>Af Try.prog s [23,23] l),[.loc 9,.loc 8],.push,[⟨none,.r1 (fun s a=>AD Try.prog s 89 a),[.loc 3],(.loc 2)⟩,⟨none,.r1 (fun s a=>AD Try.prog s 23 a),[.loc 7],(.loc 6)⟩]⟩,
 ⟨none,.e (fun s l=>Af Try.prog s [23,23] l),[.loc 6,.loc 5],.push,[⟨none,.r1 (fun s a=>AD Try.prog s 89 a),[.loc 4],(.loc 3)⟩]⟩,
 ⟨none,.e (fun s l=>Af Try.prog s [89,89] l),[.loc 3,.loc 2],.push,[]⟩,
 ⟨none,.p1 AE,[.var 0],.push,[]⟩,
 ⟨none,.p1 (fun x=>AB Try.prog 91 x 2),[.loc 0],.push,[]⟩,
 ⟨none,.e (fun s=>BV (fun a x=>AU (AM Try.prog s 23 a x))),[.loc 0,.loc 4],.push,[]⟩,
 ⟨none,.p1 AE,[.var 0],.push,[]⟩,
 ⟨none,.p1 (fun x=>AB Try.prog 91 x 3),[.loc 0],.push,[]⟩,
 ⟨none,.e (fun s=>BV (fun a x=>AU (AM Try.prog s 23 a x))),[.loc 0,.loc 6],.push,[]⟩,
 ⟨none,.p1 AE,[.var 0],.push,[]⟩,
 ⟨none,.p1 (fun x=>AB Try.prog 91 x 4),[.loc 0],.push,[]⟩,
 ⟨none,.e (fun s=>BV (fun a x=>AU (AM Try.prog s 89 a x))),[.loc 0,.loc 8],.push,[]⟩]
def Yv:List AA:=[
 ⟨none,.p1 AE,[.var 0],.push,[]⟩,
 ⟨none,.p1 (fun x=>AB Try.prog 91 x 5),[.loc 0],.push,[]⟩,
 ⟨none,.r1 (fun s a=>AD Try.prog s 23 a),[.loc 0],.push,[]⟩,
 ⟨none,.mk (fun l=>(Ae Try.prog 23 1 (zipIdx [0] l)).bind fun r=>some (r,.slice 1)),[(.const (.int .i64 (0)))],.push,[]⟩,
 ⟨none,.p1 AE,[.var 0],.push,[]⟩,
 ⟨none,.p1 (fun x=>AB Try.prog 91 x 6),[.loc 0],.push,[]⟩,
 ⟨none,.r1 (fun s a=>AD Try.prog s 23 a),[.loc 0],.push,[]⟩,
 ⟨none,.mk (fun l=>(Ae Try.prog 23 1 (zipIdx [0] l)).bind fun r=>some (r,.slice 1)),[(.const (.int .i64 (-1)))],.push,[]⟩,
 ⟨none,.e (fun s l=>Af Try.prog s [23,23] l),[.loc 5,.loc 4],.push,[⟨none,.r1 (fun s a=>AD Try.prog s 23 a),[.loc 3],(.loc 2)⟩]⟩,
 ⟨none,.e (fun s l=>Af Try.prog s [23,23] l),[.loc 2,.loc 1],.push,[]⟩,
 ⟨none,.p1 AE,[.var 0],.push,[]⟩,
 ⟨none,.p1 (fun x=>AB Try.prog 91 x 5),[.loc 0],.push,[]⟩,
 ⟨none,.e (fun s=>BV (fun a x=>AU (AM Try.prog s 23 a x))),[.loc 0,.loc 3],.push,[]⟩,
 ⟨none,.p1 AE,[.var 0],.push,[]⟩,
 ⟨none,.p1 (fun x=>AB Try.prog 91 x 6),[.loc 0],.push,[]⟩,
 ⟨none,.e (fun s=>BV (fun a x=>AU (AM Try.prog s 23 a x))),[.loc 0,.loc 5],.push,[]⟩]
def PX:Ac:=(.seq (.seq (.ops Ys) (.cond (.var 3)
 .skip
 (.exit 0))) (.block 1 (.seq (.ops Yt) (.seq (.ops Yu) (.ops Yv)))))
def pe:Aw:=⟨2,4,(.seq (.seq (.ops gc) (.cond (.var 2)
 .ret
 .skip)) (.block 0 (.loop PX))),[]⟩
def gK:List AA:=[
 ⟨none,.p1 some,[(.const (.ptr none))],(.set 1),[]⟩]
def gL:List AA:=[
 ⟨none,.p (fun l=>Bz Try.prog 91 (zipIdx [14] l)),[(.const (.int .i64 (2000)))],.push,[]⟩,
 ⟨none,.mk (fun l=>match l with | [v]=>DS 91 v | _=>none),[.loc 0],.push,[]⟩,
 ⟨none,.p1 some,[.loc 0],(.set 2),[]⟩]
def gM:List AA:=[
 ⟨none,.p (fun l=>match l with | v::l=>EO true v l | []=>none),[(.var 0),(.const (.int .i64 (0)))],.push,[]⟩,
 ⟨none,.call 46,[.var 2,.loc 0],.push,[]⟩]
def gN:List AA:=[
 ⟨none,.p1 some,[.var 2],(.set 1),[]⟩]
def pZ:Aw:=⟨1,3,(.seq (.ops gK) (.seq (.ops gL) (.seq (.ops gM) (.seq (.ops gN) .ret)))),[((.var 1),none)]⟩
def iX:List AA:=[
 ⟨none,.p1 AE,[.var 0],.push,[]⟩,
 ⟨none,.p1 (fun x=>AB Try.prog 91 x 5),[.loc 0],.push,[]⟩,
 ⟨none,.r1 (fun s a=>AD Try.prog s 23 a),[.loc 0],.push,[]⟩,
 ⟨none,.r (fun s l=>match l with | [x]=>Aq Try.prog s 23 x | _=>none),[.loc 0],(.set 2),[]⟩,
 ⟨none,.p1 some,[(.const (.int .i64 (0)))],(.set 3),[]⟩]
def ZO:List AA:=[
 ⟨none,.p2 (AL Try.prog .lss 3),[.var 3,.var 2],(.set 4),[]⟩]
def iY:List AA:=[
 ⟨none,.p1 some,[.var 3],(.set 1),[]⟩]
def iZ:List AA:=[
 ⟨none,.p1 AE,[.var 0],.push,[]⟩,
 ⟨none,.p1 (fun x=>AB Try.prog 91 x 5),[.loc 0],.push,[]⟩,
 ⟨none,.r1 (fun s a=>AD Try.prog s 23 a),[.loc 0],.push,[]⟩,
 ⟨none,.p2 (AC Try.prog 23),[.loc 0,.var 1],.push,[]⟩,
 ⟨none,.r1 (fun s a=>AD Try.prog s 3 a),[.loc 0],.push,[]⟩,
 ⟨none,.p2 (AL Try.prog .quo 3),[(.loc 0),(.const (.int .i64 (2)))],.push,[]⟩,
 ⟨none,.p2 (AC Try.prog 23),[.loc 3,.var 1],.push,[]⟩,
 ⟨none,.e (fun s=>BV (fun a x=>AU (AM Try.prog s 3 a x))),[.loc 0,.loc 1],.push,[]⟩]
def ia:List AA:=[
 ⟨none,.p2 (AL Try.prog .add 3),[(.var 3),(.const (.int .i64 (1)))],.push,[]⟩,
 ⟨none,.p1 some,[.loc 0],(.set 3),[]⟩]
def Pg:Ac:=(.seq (.ops ZO) (.seq (.cond (.var 4)
 .skip
 (.exit 0)) (.seq (.block 1 (.seq (.ops iY) (.ops iZ))) (.ops ia))))
def po:Aw:=⟨1,5,(.seq (.ops iX) (.block 0 (.loop Pg))),[]⟩
def ZP:List AA:=[
 ⟨none,.mk (fun l=>match l with | [v]=>DS 44 v | _=>none),[.var 0],(.set 1),[]⟩]
def ZQ:List AA:=[
 ⟨none,.r1 (fun s a=>AD Try.prog s 44 a),[.var 1],.push,[]⟩,
 ⟨none,.p1 AE,[.loc 0],.push,[]⟩,
 ⟨none,.p1 (fun x=>AB Try.prog 91 x 1),[.loc 0],.push,[]⟩,
 ⟨none,.r1 (fun s a=>AD Try.prog s 89 a),[.loc 0],.push,[]⟩,
 ⟨none,.r (fun s l=>match l with | [x]=>Aq Try.prog s 89 x | _=>none),[.loc 0],.push,[]⟩,
 ⟨none,.r1 (fun s a=>AD Try.prog s 44 a),[.var 1],.push,[]⟩,
 ⟨none,.p1 AE,[.loc 0],.push,[]⟩,
 ⟨none,.p1 (fun x=>AB Try.prog 91 x 14),[.loc 0],.push,[]⟩,
 ⟨none,.r1 (fun s a=>AD Try.prog s 3 a),[.loc 0],.push,[]⟩,
 ⟨none,.p2 (AL Try.prog .lss 3),[.loc 4,.loc 0],(.set 3),[]⟩]
def ib:List AA:=[
 ⟨none,.r1 (fun s a=>AD Try.prog s 44 a),[.var 1],.push,[]⟩,
 ⟨none,.p1 AE,[.loc 0],.push,[]⟩,
 ⟨none,.p1 (fun x=>AB Try.prog 91 x 14),[.loc 0],.push,[]⟩,
 ⟨none,.r1 (fun s a=>AD Try.prog s 3 a),[.loc 0],.push,[]⟩,
 ⟨none,.r1 (fun s a=>AD Try.prog s 44 a),[.var 1],.push,[]⟩,
 ⟨none,.p1 AE,[.loc 0],.push,[]⟩,
 ⟨none,.p1 (fun x=>AB Try.prog 91 x 14),[.loc 0],.push,[]⟩,
 ⟨none,.r1 (fun s a=>AD Try.prog s 3 a),[.loc 0],.push,[]⟩,
 ⟨none,.p2 (AL Try.prog .quo 3),[(.loc 0),(.const (.int .i64 (8)))],.push,[]⟩,
 ⟨none,.p2 (AL Try.prog .add 3),[.loc 5,.loc 0],.push,[]⟩,
 ⟨none,.p1 AE,[.loc 9],.push,[]⟩,
 ⟨none,.p1 (fun x=>AB Try.prog 91 x 14),[.loc 0],.push,[]⟩,
 ⟨none,.e (fun s=>BV (fun a x=>AU (AM Try.prog s 3 a x))),[.loc 0,.loc 2],.push,[]⟩]
def ic:List AA:=[
 ⟨none,.mk (fun l=>match l with | []=>Bi Try.prog 3 | _=>none),[],(.set 2),[]⟩,
 ⟨none,.e (fun s=>BV (fun a x=>AU (AM Try.prog s 3 a x))),[(.var 2),(.const (.int .i64 (0)))],.push,[]⟩]
def ie:List AA:=[
 ⟨none,.r1 (fun s a=>AD Try.prog s 44 a),[.var 1],.push,[]⟩,
 ⟨none,.r1 (fun s a=>AD Try.prog s 44 a),[.var 1],.push,[]⟩,
 ⟨none,.p1 AE,[.loc 0],.push,[]⟩,
 ⟨none,.p1 (fun x=>AB Try.prog 91 x 1),[.loc 0],.push,[]⟩,
 ⟨none,.r1 (fun s a=>AD Try.prog s 89 a),[.loc 0],.push,[]⟩,
 ⟨none,.p (fun l=>some (.func 97 (l.take 0) (l.drop 0))),[.var 1,.var 2],.push,[]⟩,
 ⟨none,.call 96,[.loc 1,.loc 0],.push,[⟨none,.r1 (fun s a=>AD Try.prog s 44 a),[.var 1],(.loc 6)⟩]⟩,
 ⟨none,.p1 AE,[.loc 6],.push,[]⟩,
 ⟨none,.p1 (fun x=>AB Try.prog 91 x 1),[.loc 0],.push,[]⟩,
 ⟨none,.e (fun s=>BV (fun a x=>AU (AM Try.prog s 89 a x))),[.loc 0,.loc 2],.push,[]⟩]
def pC:Aw:=⟨1,4,(.seq (.ops ZP) (.seq (.seq (.ops ZQ) (.cond (.var 3)
 .ret
 .skip)) (.seq (.ops ib) (.seq (.ops ic) (.ops ie))))),[]⟩
def ig:List AA:=[
 ⟨none,.mk (fun l=>match l with | [v]=>DS 44 v | _=>none),[.var 0],(.set 1),[]⟩,
 ⟨none,.p1 some,[(.const (.int .i64 (0)))],(.set 2),[]⟩]
def ii:List AA:=[
 ⟨none,.mk (fun l=>match l with | []=>Bi Try.prog 3 | _=>none),[],(.set 3),[]⟩,
 ⟨none,.e (fun s=>BV (fun a x=>AU (AM Try.prog s 3 a x))),[(.var 3),(.const (.int .i64 (0)))],.push,[]⟩]
def ij:List AA:=[
 ⟨none,.p (fun l=>some (.func 99 (l.take 0) (l.drop 0))),[.var 3,.var 1],.push,[]⟩,
 ⟨none,.p1 some,[.loc 0],(.set 4),[]⟩]
def ik:List AA:=[
 ⟨none,.p1 some,[(.const (.int .i64 (1)))],(.set 5),[]⟩]
def UY:List AA:=[
 ⟨none,.r1 (fun s a=>AD Try.prog s 44 a),[.var 1],.push,[]⟩,
 ⟨none,.p1 AE,[.loc 0],.push,[]⟩,
 ⟨none,.p1 (fun x=>AB Try.prog 91 x 2),[.loc 0],.push,[]⟩,
 ⟨none,.r1 (fun s a=>AD Try.prog s 23 a),[.loc 0],.push,[]⟩,
 ⟨none,.r (fun s l=>match l with | [x]=>Aq Try.prog s 23 x | _=>none),[.loc 0],.push,[]⟩,
 ⟨none,.p2 (AL Try.prog .lss 3),[.var 5,.loc 0],(.set 6),[]⟩]
def ZR:List AA:=[
 ⟨none,.r1 (fun s a=>AD Try.prog s 44 a),[.var 1],.push,[]⟩,
 ⟨none,.p1 AE,[.loc 0],.push,[]⟩,
 ⟨none,.p1 (fun x=>AB Try.prog 91 x 2),[.loc 0],.push,[]⟩,
 ⟨none,.r1 (fun s a=>AD Try.prog s 23 a),[.loc 0],.push,[]⟩,
 ⟨none,.p2 (AC Try.prog 23),[.loc 0,.var 5],.push,[]⟩,
 ⟨none,.r1 (fun s a=>AD Try.prog s 3 a),[.loc 0],.push,[]⟩,
 ⟨none,.p2 (AL Try.prog .eql 3),[(.loc 0),(.const (.int .i64 (0)))],.push,[]⟩,
 ⟨(some ((.loc 0),true)),.p1 some,[.var 4],.push,[]⟩,
 ⟨(some ((.loc 1),true)),.p1 some,[.var 5],.push,[]⟩,
 ⟨(some ((.loc 2),true)),.callv,[.loc 1,.loc 0],.push,[]⟩,
 ⟨none,.p Rn,[(.loc 3),(.loc 0),(.const (.bool false))],(.set 7),[]⟩]
def il:List AA:=[
 ⟨none,.e (fun s=>BV (fun a x=>AU (AM Try.prog s 3 a x))),[.var 3,.var 5],.push,[]⟩]
def UZ:List AA:=[
 ⟨none,.p1 some,[.var 5],.push,[]⟩,
 ⟨none,.p2 (AL Try.prog .add 3),[(.loc 0),(.const (.int .i64 (1)))],.push,[]⟩,
 ⟨none,.p1 some,[.loc 0],(.set 5),[]⟩]
def NE:Ac:=(.seq (.seq (.ops UY) (.cond (.var 6)
 .skip
 (.exit 0))) (.seq (.block 1 (.seq (.ops ZR) (.cond (.var 7)
 (.ops il)
 .skip))) (.ops UZ)))
def im:List AA:=[
 ⟨none,.r1 (fun s a=>AD Try.prog s 3 a),[.var 3],.push,[]⟩,
 ⟨none,.p1 some,[.loc 0],(.set 2),[]⟩]
def pp:Aw:=⟨1,8,(.seq (.ops ig) (.seq (.ops ii) (.seq (.ops ij) (.seq (.seq (.ops ik) (.block 0 (.loop NE))) (.seq (.ops im) .ret))))),[((.var 2),none)]⟩
def aI:List AA:=[
 ⟨none,.p1 some,[(.const (.bool false))],(.set 3),[]⟩]
def aJ:List AA:=[
 ⟨none,.r1 (fun s a=>AD Try.prog s 3 a),[.var 1],.push,[]⟩,
 ⟨none,.p2 (AL Try.prog .eql 3),[(.loc 0),(.const (.int .i64 (0)))],.push,[]⟩,
 ⟨(some ((.loc 0),false)),.r1 (fun s a=>AD Try.prog s 44 a),[.var 2],.push,[]⟩,
 ⟨(some ((.loc 1),false)),.p1 AE,[.loc 0],.push,[]⟩,
 ⟨(some ((.loc 2),false)),.p1 (fun x=>AB Try.prog 91 x 5),[.loc 0],.push,[]⟩,
 ⟨(some ((.loc 3),false)),.r1 (fun s a=>AD Try.prog s 23 a),[.loc 0],.push,[]⟩,
 ⟨(some ((.loc 4),false)),.p1 some,[.var 0],.push,[]⟩,
 ⟨(some ((.loc 5),false)),.p2 (AC Try.prog 23),[.loc 1,.loc 0],.push,[]⟩,
 ⟨(some ((.loc 6),false)),.r1 (fun s a=>AD Try.prog s 3 a),[.loc 0],.push,[]⟩,
 ⟨(some ((.loc 7),false)),.r1 (fun s a=>AD Try.prog s 44 a),[.var 2],.push,[]⟩,
 ⟨(some ((.loc 8),false)),.p1 AE,[.loc 0],.push,[]⟩,
 ⟨(some ((.loc 9),false)),.p1 (fun x=>AB Try.prog 91 x 5),[.loc 0],.push,[]⟩,
 ⟨(some ((.loc 10),false)),.r1 (fun s a=>AD Try.prog s 23 a),[.loc 0],.push,[]⟩,
 ⟨(some ((.loc 11),false)),.r1 (fun s a=>AD Try.prog s 3 a),[.var 1],.push,[]⟩,
 ⟨(some ((.loc 12),false)),.p2 (AC Try.prog 23),[.loc 1,.loc 0],.push,[]⟩,
 ⟨(some ((.loc 13),false)),.r1 (fun s a=>AD Try.prog s 3 a),[.loc 0],.push,[]⟩,
 ⟨(some ((.loc 14),false)),.p2 (AL Try.prog .gtr 3),[.loc 7,.loc 0],.push,[]⟩,
 ⟨none,.p Rn,[(.loc 15),(.const (.bool true)),(.loc 0)],.push,[]⟩,
 ⟨none,.p1 some,[.loc 0],(.set 3),[]⟩]
def pI:Aw:=⟨3,4,(.seq (.ops aI) (.seq (.ops aJ) .ret)),[((.var 3),none)]⟩
def iu:List AA:=[
 ⟨none,.p1 some,[(.const (.bool false))],(.set 2),[]⟩]
def iy:List AA:=[
 ⟨none,.call 94,[.var 0,.var 1],.push,[]⟩,
 ⟨none,.p2 (AL Try.prog .geq 3),[(.loc 0),(.const (.int .i64 (0)))],.push,[]⟩,
 ⟨none,.p1 some,[.loc 0],(.set 2),[]⟩]
def pr:Aw:=⟨2,3,(.seq (.ops iu) (.seq (.ops iy) .ret)),[((.var 2),none)]⟩
def ZS:List AA:=[
 ⟨none,.p1 some,[(.const (.bool false))],(.set 2),[]⟩]
def ZT:List AA:=[
 ⟨none,.p2 (AL Try.prog .eql 3),[(.var 0),(.const (.int .i64 (0)))],.push,[]⟩,
 ⟨(some ((.loc 0),false)),.p1 some,[.var 0],.push,[]⟩,
 ⟨(some ((.loc 1),false)),.r1 (fun s a=>AD Try.prog s 44 a),[.var 1],.push,[]⟩,
 ⟨(some ((.loc 2),false)),.call 47,[.loc 0],.push,[]⟩,
 ⟨(some ((.loc 3),false)),.p1 (GZ Try.prog Go.UnOp.neg),[.loc 0],.push,[]⟩,
 ⟨(some ((.loc 4),false)),.p2 (AL Try.prog .lss 3),[.loc 3,.loc 0],.push,[]⟩,
 ⟨none,.p Rn,[(.loc 5),(.const (.bool true)),(.loc 0)],.push,[]⟩,
 ⟨(some ((.loc 0),false)),.p1 some,[.var 0],.push,[]⟩,
 ⟨(some ((.loc 1),false)),.r1 (fun s a=>AD Try.prog s 44 a),[.var 1],.push,[]⟩,
 ⟨(some ((.loc 2),false)),.call 47,[.loc 0],.push,[]⟩,
 ⟨(some ((.loc 3),false)),.p2 (AL Try.prog .gtr 3),[.loc 2,.loc 0],.push,[]⟩,
 ⟨none,.p Rn,[(.loc 4),(.const (.bool true)),(.loc 0)],.push,[]⟩,
 ⟨none,.p1 some,[.loc 0],(.set 2),[]⟩]
def pD:Aw:=⟨2,3,(.seq (.ops ZS) (.seq (.ops ZT) .ret)),[((.var 2),none)]⟩
def W2:List AA:=[
 ⟨none,.p1 some,[(.const (.bool false))],(.set 2),[]⟩]
def W3:List AA:=[
 ⟨none,.r1 (fun s a=>AD Try.prog s 23 a),[.var 1],.push,[]⟩,
 ⟨none,.p1 (GZ Try.prog Go.UnOp.neg),[.var 0],.push,[]⟩,
 ⟨none,.call 101,[.loc 1,.loc 0],.push,[]⟩,
 ⟨none,.p1 some,[.loc 0],(.set 2),[]⟩]
def nQ:Aw:=⟨2,3,(.seq (.ops W2) (.seq (.ops W3) .ret)),[((.var 2),none)]⟩
def W4:List AA:=[
 ⟨none,.p1 some,[(.const (.bool false))],(.set 2),[]⟩]
def W5:List AA:=[
 ⟨none,.call 113,[.var 0,.var 1],.push,[]⟩,
 ⟨none,.p2 (AL Try.prog .geq 3),[(.loc 0),(.const (.int .i64 (0)))],.push,[]⟩,
 ⟨none,.p1 some,[.loc 0],(.set 2),[]⟩]
def nR:Aw:=⟨2,3,(.seq (.ops W4) (.seq (.ops W5) .ret)),[((.var 2),none)]⟩
def Xb:List AA:=[
 ⟨none,.p1 some,[(.const (.int .i64 (0)))],(.set 2),[]⟩]
def Xc:List AA:=[
 ⟨none,.r (fun s l=>match l with | [x]=>Aq Try.prog s 23 x | _=>none),[.var 0],(.set 4),[]⟩,
 ⟨none,.p1 some,[(.const (.int .i64 (0)))],(.set 5),[]⟩]
def OG:List AA:=[
 ⟨none,.p2 (AL Try.prog .lss 3),[.var 5,.var 4],(.set 6),[]⟩]
def R6:List AA:=[
 ⟨none,.p1 some,[.var 5],(.set 3),[]⟩]
def R7:List AA:=[
 ⟨none,.p2 (AC Try.prog 23),[.var 0,.var 3],.push,[]⟩,
 ⟨none,.r1 (fun s a=>AD Try.prog s 3 a),[.loc 0],.push,[]⟩,
 ⟨none,.p2 (AL Try.prog .eql 3),[.var 1,.loc 0],(.set 7),[]⟩]
def Xd:List AA:=[
 ⟨none,.p1 some,[.var 3],(.set 2),[]⟩]
def Xe:List AA:=[
 ⟨none,.p2 (AL Try.prog .add 3),[(.var 5),(.const (.int .i64 (1)))],.push,[]⟩,
 ⟨none,.p1 some,[.loc 0],(.set 5),[]⟩]
def JL:Ac:=(.seq (.ops OG) (.seq (.cond (.var 6)
 .skip
 (.exit 0)) (.seq (.block 1 (.seq (.ops R6) (.seq (.ops R7) (.cond (.var 7)
 (.seq (.ops Xd) .ret)
 .skip)))) (.ops Xe))))
def Xf:List AA:=[
 ⟨none,.p1 some,[(.const (.int .i64 (-1)))],(.set 2),[]⟩]
def nY:Aw:=⟨2,8,(.seq (.ops Xb) (.seq (.seq (.ops Xc) (.block 0 (.loop JL))) (.seq (.ops Xf) .ret))),[((.var 2),none)]⟩
def iz:List AA:=[
 ⟨none,.p1 some,[(.const (.slice none 0 (some 0)))],(.set 1),[]⟩,
 ⟨none,.p1 some,[(.const (.bool false))],(.set 2),[]⟩]
def jA:List AA:=[
 ⟨none,.call 60,[.var 0],.push,[]⟩,
 ⟨none,.mk (fun l=>match l with | []=>Bi Try.prog 23 | _=>none),[],(.set 3),[]⟩,
 ⟨none,.e (fun s=>BV (fun a x=>AU (AM Try.prog s 23 a x))),[.var 3,.loc 0],.push,[]⟩]
def jB:List AA:=[
 ⟨none,.r1 (fun s a=>AD Try.prog s 23 a),[.var 3],.push,[]⟩,
 ⟨none,.call 87,[.loc 0],.push,[]⟩]
def jC:List AA:=[
 ⟨none,.r1 (fun s a=>AD Try.prog s 23 a),[.var 3],.push,[]⟩,
 ⟨none,.call 88,[.loc 0],.push,[]⟩,
 ⟨none,.e (fun s=>BV (fun a x=>AU (AM Try.prog s 23 a x))),[.var 3,.loc 0],.push,[]⟩]
def jD:List AA:=[
 ⟨none,.r1 (fun s a=>AD Try.prog s 23 a),[.var 3],.push,[]⟩,
 ⟨none,.r1 (fun s a=>AD Try.prog s 23 a),[.var 3],.push,[]⟩,
 ⟨none,.p (fun l=>some (.func 100 (l.take 0) (l.drop 0))),[.var 3],.push,[]⟩,
 ⟨none,.call 72,[.loc 1,.loc 0],.push,[⟨none,.r1 (fun s a=>AD Try.prog s 23 a),[.var 3],(.loc 3)⟩]⟩,
 ⟨none,.p1 (GZ Try.prog Go.UnOp.not),[.loc 0],.push,[]⟩,
 ⟨none,.p1 some,[.loc 4],(.set 1),[]⟩,
 ⟨none,.p1 some,[.loc 0],(.set 2),[]⟩]
def pt:Aw:=⟨1,4,(.seq (.ops iz) (.seq (.ops jA) (.seq (.ops jB) (.seq (.ops jC) (.seq (.ops jD) .ret))))),[((.var 1),none),((.var 2),none)]⟩
def jE:List AA:=[
 ⟨none,.r (fun s l=>match l with | [x]=>Aq Try.prog s 23 x | _=>none),[.var 0],.push,[]⟩,
 ⟨none,.call 102,[.var 0,.loc 0,.var 1],.push,[]⟩]
def pu:Aw:=⟨2,2,(.ops jE),[]⟩
def jF:List AA:=[
 ⟨none,.p1 some,[(.const (.int .i64 (0)))],(.set 3),[]⟩]
def jG:List AA:=[
 ⟨none,.r1 (fun s a=>AD Try.prog s 44 a),[.var 2],.push,[]⟩,
 ⟨none,.r1 (fun s a=>AD Try.prog s 44 a),[.var 2],.push,[]⟩,
 ⟨none,.call 77,[.loc 1,.var 1],.push,[⟨none,.r1 (fun s a=>AD Try.prog s 44 a),[.var 2],(.loc 1)⟩]⟩,
 ⟨none,.call 77,[.loc 1,.var 0],.push,[]⟩,
 ⟨none,.p2 (AL Try.prog .sub 3),[.loc 1,.loc 0],.push,[]⟩,
 ⟨none,.p1 some,[.loc 0],(.set 3),[]⟩]
def pw:Aw:=⟨3,4,(.seq (.ops jF) (.seq (.ops jG) .ret)),[((.var 3),none)]⟩
def W7:List AA:=[
 ⟨none,.p1 some,[(.const (.int .i64 (20)))],(.set 3),[]⟩]
def W8:List AA:=[
 ⟨none,.p1 some,[(.const (.int .i64 (0)))],(.set 4),[]⟩,
 ⟨none,.p1 some,[.var 3],(.set 5),[]⟩]
def W9:List AA:=[
 ⟨none,.p2 (AL Try.prog .leq 3),[.var 5,.var 1],(.set 7),[]⟩]
def kY:List AA:=[
 ⟨none,.call 114,[.var 0,.var 4,.var 5,.var 2],.push,[]⟩]
def kZ:List AA:=[
 ⟨none,.p1 some,[.var 5],(.set 4),[]⟩]
def ka:List AA:=[
 ⟨none,.p1 some,[.var 5],.push,[]⟩,
 ⟨none,.p2 (AL Try.prog .add 3),[.loc 0,.var 3],.push,[]⟩,
 ⟨none,.p1 some,[.loc 0],(.set 5),[]⟩]
def W6:Ac:=(.seq (.seq (.ops W9) (.cond (.var 7)
 .skip
 (.exit 0))) (.block 1 (.seq (.ops kY) (.seq (.ops kZ) (.ops ka)))))
def XA:List AA:=[
 ⟨none,.call 114,[.var 0,.var 4,.var 1,.var 2],.push,[]⟩]
def XB:List AA:=[
 ⟨none,.p2 (AL Try.prog .lss 3),[.var 3,.var 1],(.set 8),[]⟩]
def kc:List AA:=[
 ⟨none,.p2 (AL Try.prog .mul 3),[(.const (.int .i64 (2))),(.var 3)],.push,[]⟩,
 ⟨none,.p1 some,[(.const (.int .i64 (0)))],(.set 4),[]⟩,
 ⟨none,.p1 some,[.loc 0],(.set 5),[]⟩]
def dB:List AA:=[
 ⟨none,.p2 (AL Try.prog .leq 3),[.var 5,.var 1],(.set 9),[]⟩]
def dC:List AA:=[
 ⟨none,.p2 (AL Try.prog .add 3),[.var 4,.var 3],.push,[]⟩,
 ⟨none,.call 115,[.var 0,.var 4,.loc 0,.var 5,.var 2],.push,[]⟩]
def dD:List AA:=[
 ⟨none,.p1 some,[.var 5],(.set 4),[]⟩]
def dE:List AA:=[
 ⟨none,.p1 some,[.var 5],.push,[]⟩,
 ⟨none,.p2 (AL Try.prog .mul 3),[(.const (.int .i64 (2))),(.var 3)],.push,[]⟩,
 ⟨none,.p2 (AL Try.prog .add 3),[.loc 1,.loc 0],.push,[]⟩,
 ⟨none,.p1 some,[.loc 0],(.set 5),[]⟩]
def dA:Ac:=(.seq (.seq (.ops dB) (.cond (.var 9)
 .skip
 (.exit 4))) (.block 5 (.seq (.ops dC) (.seq (.ops dD) (.ops dE)))))
def dF:List AA:=[
 ⟨none,.p2 (AL Try.prog .add 3),[.var 4,.var 3],.push,[]⟩,
 ⟨none,.p1 some,[.loc 0],(.set 6),[]⟩]
def dG:List AA:=[
 ⟨none,.p2 (AL Try.prog .lss 3),[.var 6,.var 1],(.set 10),[]⟩]
def dH:List AA:=[
 ⟨none,.call 115,[.var 0,.var 4,.var 6,.var 1,.var 2],.push,[]⟩]
def dI:List AA:=[
 ⟨none,.p1 some,[.var 3],.push,[]⟩,
 ⟨none,.p2 (AL Try.prog .mul 3),[(.loc 0),(.const (.int .i64 (2)))],.push,[]⟩,
 ⟨none,.p1 some,[.loc 0],(.set 3),[]⟩]
def UQ:Ac:=(.seq (.seq (.ops XB) (.cond (.var 8)
 .skip
 (.exit 2))) (.block 3 (.seq (.ops kc) (.seq (.block 4 (.loop dA)) (.seq (.seq (.ops dF) (.seq (.ops dG) (.cond (.var 10)
 (.ops dH)
 .skip))) (.ops dI))))))
def nS:Aw:=⟨3,11,(.seq (.ops W7) (.seq (.ops W8) (.seq (.block 0 (.loop W6)) (.seq (.ops XA) (.block 2 (.loop UQ)))))),[]⟩
def R8:List AA:=[
 ⟨none,.p2 (AL Try.prog .add 3),[(.var 1),(.const (.int .i64 (1)))],.push,[]⟩,
 ⟨none,.p1 some,[.loc 0],(.set 4),[]⟩]
def K7:List AA:=[
 ⟨none,.p2 (AL Try.prog .lss 3),[.var 4,.var 2],(.set 6),[]⟩]
def Xg:List AA:=[
 ⟨none,.p1 some,[.var 4],(.set 5),[]⟩]
def R9:List AA:=[
 ⟨none,.p2 (AL Try.prog .gtr 3),[.var 5,.var 1],.push,[]⟩,
 ⟨(some ((.loc 0),true)),.p1 some,[.var 3],.push,[]⟩,
 ⟨(some ((.loc 1),true)),.p1 some,[.var 0],.push,[]⟩,
 ⟨(some ((.loc 2),true)),.p1 some,[.var 5],.push,[]⟩,
 ⟨(some ((.loc 3),true)),.p2 (AC Try.prog 23),[.loc 1,.loc 0],.push,[]⟩,
 ⟨(some ((.loc 4),true)),.r1 (fun s a=>AD Try.prog s 3 a),[.loc 0],.push,[]⟩,
 ⟨(some ((.loc 5),true)),.p1 some,[.var 0],.push,[]⟩,
 ⟨(some ((.loc 6),true)),.p1 some,[.var 5],.push,[]⟩,
 ⟨(some ((.loc 7),true)),.p2 (AL Try.prog .sub 3),[(.loc 0),(.const (.int .i64 (1)))],.push,[]⟩,
 ⟨(some ((.loc 8),true)),.p2 (AC Try.prog 23),[.loc 2,.loc 0],.push,[]⟩,
 ⟨(some ((.loc 9),true)),.r1 (fun s a=>AD Try.prog s 3 a),[.loc 0],.push,[]⟩,
 ⟨(some ((.loc 10),true)),.callv,[.loc 9,.loc 5,.loc 0],.push,[]⟩,
 ⟨(some ((.loc 11),true)),.p2 (AL Try.prog .lss 3),[(.loc 0),(.const (.int .i64 (0)))],.push,[]⟩,
 ⟨none,.p Rn,[(.loc 12),(.loc 0),(.const (.bool false))],(.set 7),[]⟩]
def Xh:List AA:=[
 ⟨none,.p2 (AL Try.prog .sub 3),[(.var 5),(.const (.int .i64 (1)))],.push,[]⟩,
 ⟨none,.p2 (AL Try.prog .sub 3),[(.var 5),(.const (.int .i64 (1)))],.push,[]⟩,
 ⟨none,.p2 (AC Try.prog 23),[.var 0,.loc 0],.push,[]⟩,
 ⟨none,.r1 (fun s a=>AD Try.prog s 3 a),[.loc 0],.push,[]⟩,
 ⟨none,.p2 (AC Try.prog 23),[.var 0,.var 5],.push,[]⟩,
 ⟨none,.r1 (fun s a=>AD Try.prog s 3 a),[.loc 0],.push,[]⟩,
 ⟨none,.p2 (AC Try.prog 23),[.var 0,.var 5],.push,[]⟩,
 ⟨none,.e (fun s=>BV (fun a x=>AU (AM Try.prog s 3 a x))),[.loc 0,.loc 3],.push,[]⟩,
 ⟨none,.p2 (AC Try.prog 23),[.var 0,.loc 7],.push,[]⟩,
 ⟨none,.e (fun s=>BV (fun a x=>AU (AM Try.prog s 3 a x))),[.loc 0,.loc 3],.push,[]⟩]
def Xi:List AA:=[
 ⟨none,.p1 some,[.var 5],.push,[]⟩,
 ⟨none,.p2 (AL Try.prog .sub 3),[(.loc 0),(.const (.int .i64 (1)))],.push,[]⟩,
 ⟨none,.p1 some,[.loc 0],(.set 5),[]⟩]
def K6:Ac:=(.seq (.seq (.ops R9) (.cond (.var 7)
 .skip
 (.exit 2))) (.seq (.block 3 (.ops Xh)) (.ops Xi)))
def Xj:List AA:=[
 ⟨none,.p1 some,[.var 4],.push,[]⟩,
 ⟨none,.p2 (AL Try.prog .add 3),[(.loc 0),(.const (.int .i64 (1)))],.push,[]⟩,
 ⟨none,.p1 some,[.loc 0],(.set 4),[]⟩]
def Hu:Ac:=(.seq (.seq (.ops K7) (.cond (.var 6)
 .skip
 (.exit 0))) (.seq (.block 1 (.seq (.ops Xg) (.block 2 (.loop K6)))) (.ops Xj)))
def km:Aw:=⟨4,8,(.seq (.ops R8) (.block 0 (.loop Hu))),[]⟩
def fw:List AA:=[
 ⟨none,.mk (fun l=>match l with | [v]=>DS 44 v | _=>none),[.var 0],(.set 2),[]⟩,
 ⟨none,.p1 some,[(.const (.int .i64 (0)))],(.set 3),[]⟩]
def fx:List AA:=[
 ⟨none,.r1 (fun s a=>AD Try.prog s 44 a),[.var 2],.push,[]⟩,
 ⟨none,.p2 (AL Try.prog .eql 44),[(.loc 0),(.const (.ptr none))],.push,[]⟩,
 ⟨none,.p1 some,[.loc 0],(.set 7),[]⟩]
def nr:List AA:=[
 ⟨none,.p1 some,[(.const (.int .i64 (1)))],(.set 3),[]⟩]
def fy:List AA:=[
 ⟨none,.p (fun l=>some (.func 73 (l.take 0) (l.drop 0))),[.var 2],.push,[]⟩,
 ⟨none,.call 72,[.var 1,.loc 0],.push,[]⟩,
 ⟨none,.p1 some,[.loc 0],(.set 8),[]⟩]
def ns:List AA:=[
 ⟨none,.p1 some,[(.const (.int .i64 (2)))],(.set 3),[]⟩]
def fz:List AA:=[
 ⟨none,.r1 (fun s a=>AD Try.prog s 44 a),[.var 2],.push,[]⟩,
 ⟨none,.call 63,[(.loc 0),(.const (.int .i64 (0)))],.push,[]⟩]
def f9:List AA:=[
 ⟨none,.call 74,[.var 1],.push,[]⟩,
 ⟨none,.p1 (fun x=>Rp x 0),[.loc 0],.push,[]⟩,
 ⟨none,.p1 (fun x=>Rp x 1),[.loc 1],.push,[]⟩,
 ⟨none,.p1 some,[.loc 1],(.set 4),[]⟩,
 ⟨none,.p1 some,[.loc 0],(.set 5),[]⟩]
def UT:List AA:=[
 ⟨none,.p1 (GZ Try.prog Go.UnOp.not),[.var 5],.push,[]⟩,
 ⟨(some ((.loc 0),false)),.r1 (fun s a=>AD Try.prog s 44 a),[.var 2],.push,[]⟩,
 ⟨(some ((.loc 1),false)),.p1 AE,[.loc 0],.push,[]⟩,
 ⟨(some ((.loc 2),false)),.p1 (fun x=>AB Try.prog 91 x 10),[.loc 0],.push,[]⟩,
 ⟨(some ((.loc 3),false)),.r1 (fun s a=>AD Try.prog s 4 a),[.loc 0],.push,[]⟩,
 ⟨none,.p Rn,[(.loc 4),(.const (.bool true)),(.loc 0)],(.set 9),[]⟩]
def YZ:List AA:=[
 ⟨none,.p1 some,[(.const (.int .i64 (0)))],(.set 3),[]⟩]
def gA:List AA:=[
 ⟨none,.p (fun l=>some (.func 76 (l.take 0) (l.drop 0))),[.var 2],.push,[]⟩,
 ⟨none,.call 75,[.var 4,.loc 0],.push,[]⟩]
def Si:List AA:=[
 ⟨none,.p (fun l=>Bz Try.prog 104 (zipIdx [0] l)),[.var 4],.push,[]⟩,
 ⟨none,.mk (fun l=>match l with | [v]=>DS 104 v | _=>none),[.loc 0],.push,[]⟩,
 ⟨none,.p1 some,[.loc 0],(.set 6),[]⟩]
def LE:List AA:=[
 ⟨none,.r (fun s l=>match l with | [x]=>Aq Try.prog s 23 x | _=>none),[.var 4],.push,[]⟩,
 ⟨none,.p2 (AL Try.prog .gtr 3),[(.loc 0),(.const (.int .i64 (1)))],(.set 10),[]⟩]
def Sj:List AA:=[
 ⟨none,.r1 (fun s a=>AD Try.prog s 44 a),[.var 2],.push,[]⟩,
 ⟨none,.call 78,[.loc 0,.var 6],.push,[]⟩]
def LF:List AA:=[
 ⟨none,.r (fun s l=>match l with | [x]=>Aq Try.prog s 23 x | _=>none),[.var 4],.push,[]⟩,
 ⟨none,.p2 (AL Try.prog .eql 3),[(.loc 0),(.const (.int .i64 (0)))],.push,[]⟩,
 ⟨(some ((.loc 0),false)),.r1 (fun s a=>AD Try.prog s 44 a),[.var 2],.push,[]⟩,
 ⟨(some ((.loc 1),false)),.p1 some,[.var 4],.push,[]⟩,
 ⟨(some ((.loc 2),false)),.p2 (AC Try.prog 23),[(.loc 0),(.const (.int .i64 (0)))],.push,[]⟩,
 ⟨(some ((.loc 3),false)),.r1 (fun s a=>AD Try.prog s 3 a),[.loc 0],.push,[]⟩,
 ⟨(some ((.loc 4),false)),.call 77,[.loc 3,.loc 0],.push,[]⟩,
 ⟨(some ((.loc 5),false)),.p2 (AL Try.prog .lss 3),[(.loc 0),(.const (.int .i64 (0)))],.push,[]⟩,
 ⟨none,.p Rn,[(.loc 6),(.const (.bool true)),(.loc 0)],.push,[]⟩,
 ⟨none,.p1 some,[.loc 0],(.set 11),[]⟩]
def LG:List AA:=[
 ⟨none,.r1 (fun s a=>AD Try.prog s 44 a),[.var 2],.push,[]⟩,
 ⟨none,.call 65,[.loc 0],.push,[]⟩]
def OM:List AA:=[
 ⟨none,.r1 (fun s a=>AD Try.prog s 44 a),[.var 2],.push,[]⟩,
 ⟨none,.p2 (AC Try.prog 23),[(.var 4),(.const (.int .i64 (0)))],.push,[]⟩,
 ⟨none,.r1 (fun s a=>AD Try.prog s 3 a),[.loc 0],.push,[]⟩,
 ⟨none,.call 77,[.loc 2,.loc 0],.push,[]⟩,
 ⟨none,.p2 (AL Try.prog .eql 3),[(.loc 0),(.const (.int .i64 (0)))],.push,[]⟩,
 ⟨(some ((.loc 0),true)),.p1 some,[.var 4],.push,[]⟩,
 ⟨(some ((.loc 1),true)),.r (fun s l=>match l with | [x]=>Aq Try.prog s 23 x | _=>none),[.loc 0],.push,[]⟩,
 ⟨(some ((.loc 2),true)),.p2 (AL Try.prog .eql 3),[(.loc 0),(.const (.int .i64 (1)))],.push,[]⟩,
 ⟨(some ((.loc 3),true)),.p1 some,[.loc 0],.push,[]⟩,
 ⟨(some ((.loc 0),false)),.r1 (fun s a=>AD Try.prog s 44 a),[.var 2],.push,[]⟩,
 ⟨(some ((.loc 1),false)),.p1 some,[.var 4],.push,[]⟩,
 ⟨(some ((.loc 2),false)),.p2 (AC Try.prog 23),[(.loc 0),(.const (.int .i64 (1)))],.push,[]⟩,
 ⟨(some ((.loc 3),false)),.r1 (fun s a=>AD Try.prog s 3 a),[.loc 0],.push,[]⟩,
 ⟨(some ((.loc 4),false)),.call 77,[.loc 3,.loc 0],.push,[]⟩,
 ⟨(some ((.loc 5),false)),.p2 (AL Try.prog .lss 3),[(.loc 0),(.const (.int .i64 (0)))],.push,[]⟩,
 ⟨(some ((.loc 10),true)),.p Rn,[(.loc 6),(.const (.bool true)),(.loc 0)],.push,[]⟩,
 ⟨none,.p Rn,[(.loc 11),(.loc 0),(.const (.bool false))],.push,[]⟩,
 ⟨none,.p1 some,[.loc 0],(.set 12),[]⟩]
def LH:List AA:=[
 ⟨none,.r1 (fun s a=>AD Try.prog s 44 a),[.var 2],.push,[]⟩,
 ⟨none,.p2 (AC Try.prog 23),[(.var 4),(.const (.int .i64 (0)))],.push,[]⟩,
 ⟨none,.r1 (fun s a=>AD Try.prog s 3 a),[.loc 0],.push,[]⟩,
 ⟨none,.call 71,[.loc 2,.loc 0,.var 6],.push,[]⟩]
def GN:List AA:=[
 ⟨none,.p1 some,[(.const (.int .i64 (0)))],(.set 3),[]⟩]
def oS:Aw:=⟨2,13,(.seq (.ops fw) (.seq (.block 0 (.seq (.ops fx) (.cond (.var 7)
 (.seq (.ops nr) .ret)
 (.seq (.ops fy) (.cond (.var 8)
 (.seq (.ops ns) .ret)
 .skip))))) (.seq (.ops fz) (.seq (.ops f9) (.seq (.seq (.ops UT) (.cond (.var 9)
 (.seq (.ops YZ) .ret)
 .skip)) (.seq (.ops gA) (.seq (.ops Si) (.seq (.seq (.ops LE) (.cond (.var 10)
 (.ops Sj)
 .skip)) (.seq (.block 1 (.seq (.ops LF) (.cond (.var 11)
 (.ops LG)
 (.seq (.ops OM) (.cond (.var 12)
 (.ops LH)
 .skip))))) (.seq (.ops GN) .ret)))))))))),[((.var 3),none)]⟩
def XL:List AA:=[
 ⟨none,.p1 some,[(.const (.bool false))],(.set 2),[]⟩]
def XM:List AA:=[
 ⟨none,.p1 some,[(.const (.int .i64 (2)))],(.set 3),[]⟩]
def Rz:List AA:=[
 ⟨none,.p1 AE,[.var 1],.push,[]⟩,
 ⟨none,.p1 (fun x=>AB Try.prog 104 x 0),[.loc 0],.push,[]⟩,
 ⟨none,.r1 (fun s a=>AD Try.prog s 23 a),[.loc 0],.push,[]⟩,
 ⟨none,.r (fun s l=>match l with | [x]=>Aq Try.prog s 23 x | _=>none),[.loc 0],.push,[]⟩,
 ⟨none,.p2 (AL Try.prog .lss 3),[.var 3,.loc 0],(.set 4),[]⟩]
def XN:List AA:=[
 ⟨none,.p1 AE,[.var 1],.push,[]⟩,
 ⟨none,.p1 (fun x=>AB Try.prog 104 x 0),[.loc 0],.push,[]⟩,
 ⟨none,.r1 (fun s a=>AD Try.prog s 23 a),[.loc 0],.push,[]⟩,
 ⟨none,.p2 (AC Try.prog 23),[.loc 0,.var 3],.push,[]⟩,
 ⟨none,.r1 (fun s a=>AD Try.prog s 3 a),[.loc 0],.push,[]⟩,
 ⟨none,.call 77,[.var 0,.loc 0],.push,[]⟩,
 ⟨none,.p2 (AL Try.prog .geq 3),[(.loc 0),(.const (.int .i64 (0)))],(.set 5),[]⟩]
def XO:List AA:=[
 ⟨none,.p1 AE,[.var 1],.push,[]⟩,
 ⟨none,.p1 (fun x=>AB Try.prog 104 x 0),[.loc 0],.push,[]⟩,
 ⟨none,.r1 (fun s a=>AD Try.prog s 23 a),[.loc 0],.push,[]⟩,
 ⟨none,.p1 AE,[.var 1],.push,[]⟩,
 ⟨none,.p1 (fun x=>AB Try.prog 104 x 0),[.loc 0],.push,[]⟩,
 ⟨none,.r1 (fun s a=>AD Try.prog s 23 a),[.loc 0],.push,[]⟩,
 ⟨none,.p1 AE,[.var 1],.push,[]⟩,
 ⟨none,.p1 (fun x=>AB Try.prog 104 x 0),[.loc 0],.push,[]⟩,
 ⟨none,.r1 (fun s a=>AD Try.prog s 23 a),[.loc 0],.push,[]⟩,
 ⟨none,.p2 (AC Try.prog 23),[.loc 0,.var 3],.push,[]⟩,
 ⟨none,.r1 (fun s a=>AD Try.prog s 3 a),[.loc 0],.push,[]⟩,
 ⟨none,.p1 AE,[.var 1],.push,[]⟩,
 ⟨none,.p1 (fun x=>AB Try.prog 104 x 0),[.loc 0],.push,[]⟩,
 ⟨none,.r1 (fun s a=>AD Try.prog s 23 a),[.loc 0],.push,[]⟩,
 ⟨none,.p2 (AC Try.prog 23),[(.loc 0),(.const (.int .i64 (1)))],.push,[]⟩,
 ⟨none,.r1 (fun s a=>AD Try.prog s 3 a),[.loc 0],.push,[]⟩,
 ⟨none,.p2 (AC Try.prog 23),[(.loc 13),(.const (.int .i64 (1)))],.push,[]⟩,
 ⟨none,.e (fun s=>BV (fun a x=>AU (AM Try.prog s 3 a x))),[.loc 0,.loc 6],.push,[]⟩,
 ⟨none,.p2 (AC Try.prog 23),[.loc 12,.var 3],.push,[]⟩,
 ⟨none,.e (fun s=>BV (fun a x=>AU (AM Try.prog s 3 a x))),[.loc 0,.loc 3],.push,[]⟩]
def XP:List AA:=[
 ⟨none,.p1 AE,[.var 0],.push,[]⟩,
 ⟨none,.p1 (fun x=>AB Try.prog 91 x 0),[.loc 0],.push,[]⟩,
 ⟨none,.r1 (fun s a=>AD Try.prog s 88 a),[.loc 0],.push,[]⟩,
 ⟨none,.p1 AE,[.var 1],.push,[]⟩,
 ⟨none,.p1 (fun x=>AB Try.prog 104 x 0),[.loc 0],.push,[]⟩,
 ⟨none,.r1 (fun s a=>AD Try.prog s 23 a),[.loc 0],.push,[]⟩,
 ⟨none,.p2 (AC Try.prog 23),[(.loc 0),(.const (.int .i64 (1)))],.push,[]⟩,
 ⟨none,.r1 (fun s a=>AD Try.prog s 3 a),[.loc 0],.push,[]⟩,
 ⟨none,.p1 AE,[.var 0],.push,[]⟩,
 ⟨none,.p1 (fun x=>AB Try.prog 91 x 0),[.loc 0],.push,[]⟩,
 ⟨none,.r1 (fun s a=>AD Try.prog s 88 a),[.loc 0],.push,[]⟩,
 ⟨none,.p1 AE,[.var 1],.push,[]⟩,
 ⟨none,.p1 (fun x=>AB Try.prog 104 x 0),[.loc 0],.push,[]⟩,
 ⟨none,.r1 (fun s a=>AD Try.prog s 23 a),[.loc 0],.push,[]⟩,
 ⟨none,.p2 (AC Try.prog 23),[(.loc 0),(.const (.int .i64 (1)))],.push,[]⟩,
 ⟨none,.r1 (fun s a=>AD Try.prog s 3 a),[.loc 0],.push,[]⟩,
 ⟨none,.mk (fun l=>(Ae Try.prog 89 1 (zipIdx [0] l)).bind fun r=>some (r,.slice 1)),[.var 1],.push,[]⟩,
 ⟨none,.call 91,[.loc 9],.push,[⟨none,.r1 (fun s a=>AD Try.prog s 3 a),[.loc 3],(.loc 2)⟩,⟨none,.r1 (fun s a=>AD Try.prog s 23 a),[.loc 5],(.loc 4)⟩,⟨none,.r1 (fun s a=>AD Try.prog s 88 a),[.loc 8],(.loc 7)⟩,⟨none,.r1 (fun s a=>AD Try.prog s 88 a),[.loc 16],(.loc 15)⟩]⟩,
 ⟨none,.call 91,[.loc 2],.push,[⟨none,.r1 (fun s a=>AD Try.prog s 88 a),[.loc 9],(.loc 8)⟩,⟨none,.r1 (fun s a=>AD Try.prog s 88 a),[.loc 17],(.loc 16)⟩]⟩,
 ⟨none,.p2 (AC Try.prog 88),[.loc 8,.loc 0],.push,[]⟩,
 ⟨none,.r1 (fun s a=>AD Try.prog s 89 a),[.loc 0],.push,[]⟩,
 ⟨none,.e (fun s l=>Af Try.prog s [89,89] l),[.loc 0,.loc 4],.push,[⟨none,.r1 (fun s a=>AD Try.prog s 88 a),[.loc 20],(.loc 19)⟩]⟩,
 ⟨none,.p2 (AC Try.prog 88),[.loc 19,.loc 4],.push,[]⟩,
 ⟨none,.e (fun s=>BV (fun a x=>AU (AM Try.prog s 89 a x))),[.loc 0,.loc 1],.push,[]⟩]
def XQ:List AA:=[
 ⟨none,.p1 some,[(.const (.bool true))],(.set 2),[]⟩]
def XR:List AA:=[
 ⟨none,.p1 some,[.var 3],.push,[]⟩,
 ⟨none,.p2 (AL Try.prog .add 3),[(.loc 0),(.const (.int .i64 (1)))],.push,[]⟩,
 ⟨none,.p1 some,[.loc 0],(.set 3),[]⟩]
def K4:Ac:=(.seq (.seq (.ops Rz) (.cond (.var 4)
 .skip
 (.exit 0))) (.seq (.block 1 (.seq (.ops XN) (.cond (.var 5)
 (.seq (.ops XO) (.seq (.ops XP) (.seq (.ops XQ) .ret)))
 .skip))) (.ops XR)))
def XS:List AA:=[
 ⟨none,.p1 some,[(.const (.bool false))],(.set 2),[]⟩]
def nV:Aw:=⟨2,6,(.seq (.ops XL) (.seq (.seq (.ops XM) (.block 0 (.loop K4))) (.seq (.ops XS) .ret))),[((.var 2),none)]⟩
def Ue:List AA:=[
 ⟨none,.p1 some,[(.const (.bool false))],(.set 3),[]⟩,
 ⟨none,.p1 some,[(.const (.bool false))],(.set 4),[]⟩]
def Uf:List AA:=[
 ⟨none,.p1 AE,[.var 1],.push,[]⟩,
 ⟨none,.p1 (fun x=>AB Try.prog 104 x 2),[.loc 0],.push,[]⟩,
 ⟨none,.r1 (fun s a=>AD Try.prog s 4 a),[.loc 0],(.set 5),[]⟩]
def jh:List AA:=[
 ⟨none,.p1 some,[(.const (.bool false))],(.set 3),[]⟩,
 ⟨none,.p1 some,[(.const (.bool false))],(.set 4),[]⟩]
def Z4:List AA:=[
 ⟨none,.p1 AE,[.var 1],.push,[]⟩,
 ⟨none,.p1 (fun x=>AB Try.prog 104 x 0),[.loc 0],.push,[]⟩,
 ⟨none,.r1 (fun s a=>AD Try.prog s 23 a),[.loc 0],.push,[]⟩,
 ⟨none,.p2 (AC Try.prog 23),[(.loc 0),(.const (.int .i64 (0)))],.push,[]⟩,
 ⟨none,.r1 (fun s a=>AD Try.prog s 3 a),[.loc 0],.push,[]⟩,
 ⟨none,.p2 (AL Try.prog .eql 3),[.loc 0,.var 2],(.set 6),[]⟩]
def jj:List AA:=[
 ⟨none,.p1 AE,[.var 1],.push,[]⟩,
 ⟨none,.p1 (fun x=>AB Try.prog 104 x 0),[.loc 0],.push,[]⟩,
 ⟨none,.r1 (fun s a=>AD Try.prog s 23 a),[.loc 0],.push,[]⟩,
 ⟨none,.p1 AE,[.var 1],.push,[]⟩,
 ⟨none,.p1 (fun x=>AB Try.prog 104 x 0),[.loc 0],.push,[]⟩,
 ⟨none,.r1 (fun s a=>AD Try.prog s 23 a),[.loc 0],.push,[]⟩,
 ⟨none,.p1 AE,[.var 1],.push,[]⟩,
 ⟨none,.p1 (fun x=>AB Try.prog 104 x 0),[.loc 0],.push,[]⟩,
 ⟨none,.r1 (fun s a=>AD Try.prog s 23 a),[.loc 0],.push,[]⟩,
 ⟨none,.p2 (AC Try.prog 23),[(.loc 0),(.const (.int .i64 (1)))],.push,[]⟩,
 ⟨none,.r1 (fun s a=>AD Try.prog s 3 a),[.loc 0],.push,[]⟩,
 ⟨none,.p1 AE,[.var 1],.push,[]⟩,
 ⟨none,.p1 (fun x=>AB Try.prog 104 x 0),[.loc 0],.push,[]⟩,
 ⟨none,.r1 (fun s a=>AD Try.prog s 23 a),[.loc 0],.push,[]⟩,
 ⟨none,.p2 (AC Try.prog 23),[(.loc 0),(.const (.int .i64 (0)))],.push,[]⟩,
 ⟨none,.r1 (fun s a=>AD Try.prog s 3 a),[.loc 0],.push,[]⟩,
 ⟨none,.p2 (AC Try.prog 23),[(.loc 13),(.const (.int .i64 (0)))],.push,[]⟩,
 ⟨none,.e (fun s=>BV (fun a x=>AU (AM Try.prog s 3 a x))),[.loc 0,.loc 6],.push,[]⟩,
 ⟨none,.p2 (AC Try.prog 23),[(.loc 12),(.const (.int .i64 (1)))],.push,[]⟩,
 ⟨none,.e (fun s=>BV (fun a x=>AU (AM Try.prog s 3 a x))),[.loc 0,.loc 3],.push,[]⟩]
def Z5:List AA:=[
 ⟨none,.p1 AE,[.var 1],.push,[]⟩,
 ⟨none,.p1 (fun x=>AB Try.prog 104 x 0),[.loc 0],.push,[]⟩,
 ⟨none,.r1 (fun s a=>AD Try.prog s 23 a),[.loc 0],.push,[]⟩,
 ⟨none,.p2 (AC Try.prog 23),[(.loc 0),(.const (.int .i64 (0)))],.push,[]⟩,
 ⟨none,.r1 (fun s a=>AD Try.prog s 3 a),[.loc 0],.push,[]⟩,
 ⟨none,.call 77,[.var 0,.loc 0],.push,[]⟩,
 ⟨none,.p2 (AL Try.prog .gtr 3),[(.loc 0),(.const (.int .i64 (0)))],.push,[]⟩,
 ⟨none,.p1 some,[.loc 0],(.set 7),[]⟩]
def Z6:List AA:=[
 ⟨none,.p1 some,[(.const (.bool true))],(.set 3),[]⟩,
 ⟨none,.p1 some,[(.const (.bool false))],(.set 4),[]⟩]
def Z7:List AA:=[
 ⟨none,.call 110,[.var 0,.var 1],.push,[]⟩,
 ⟨none,.p1 some,[.loc 0],(.set 8),[]⟩]
def Z8:List AA:=[
 ⟨none,.p1 some,[(.const (.bool false))],(.set 3),[]⟩,
 ⟨none,.p1 some,[(.const (.bool false))],(.set 4),[]⟩]
def Z9:List AA:=[
 ⟨none,.p1 AE,[.var 1],.push,[]⟩,
 ⟨none,.p1 (fun x=>AB Try.prog 104 x 0),[.loc 0],.push,[]⟩,
 ⟨none,.r1 (fun s a=>AD Try.prog s 23 a),[.loc 0],.push,[]⟩,
 ⟨none,.p2 (AC Try.prog 23),[(.loc 0),(.const (.int .i64 (0)))],.push,[]⟩,
 ⟨none,.r1 (fun s a=>AD Try.prog s 3 a),[.loc 0],.push,[]⟩,
 ⟨none,.call 77,[.var 0,.loc 0],.push,[]⟩,
 ⟨none,.p2 (AL Try.prog .lss 3),[(.loc 0),(.const (.int .i64 (0)))],.push,[]⟩,
 ⟨none,.p1 some,[.loc 0],(.set 9),[]⟩]
def TE:List AA:=[
 ⟨none,.p1 some,[(.const (.bool true))],(.set 3),[]⟩,
 ⟨none,.p1 some,[(.const (.bool true))],(.set 4),[]⟩]
def TF:List AA:=[
 ⟨none,.p1 AE,[.var 1],.push,[]⟩,
 ⟨none,.p1 (fun x=>AB Try.prog 104 x 0),[.loc 0],.push,[]⟩,
 ⟨none,.r1 (fun s a=>AD Try.prog s 23 a),[.loc 0],.push,[]⟩,
 ⟨none,.p2 (AC Try.prog 23),[(.loc 0),(.const (.int .i64 (0)))],.push,[]⟩,
 ⟨none,.r1 (fun s a=>AD Try.prog s 3 a),[.loc 0],.push,[]⟩,
 ⟨none,.call 71,[.var 0,.loc 0,.var 1],.push,[]⟩]
def TG:List AA:=[
 ⟨none,.p1 some,[(.const (.bool true))],(.set 3),[]⟩,
 ⟨none,.p1 some,[(.const (.bool false))],(.set 4),[]⟩]
def oU:Aw:=⟨3,10,(.seq (.ops Ue) (.seq (.seq (.ops Uf) (.cond (.var 5)
 (.seq (.ops jh) .ret)
 .skip)) (.seq (.seq (.ops Z4) (.cond (.var 6)
 (.ops jj)
 .skip)) (.seq (.block 0 (.seq (.ops Z5) (.cond (.var 7)
 (.seq (.ops Z6) .ret)
 (.seq (.ops Z7) (.cond (.var 8)
 (.seq (.ops Z8) .ret)
 (.seq (.ops Z9) (.cond (.var 9)
 (.seq (.ops TE) .ret)
 .skip))))))) (.seq (.ops TF) (.seq (.ops TG) .ret)))))),[((.var 3),none),((.var 4),none)]⟩
def iD:List AA:=[
 ⟨none,.p1 some,[(.const (.ptr none))],(.set 1),[]⟩]
def Y7:List AA:=[
 ⟨none,.p1 AE,[.var 0],.push,[]⟩,
 ⟨none,.p1 (fun x=>AB Try.prog 91 x 9),[.loc 0],.push,[]⟩,
 ⟨none,.r1 (fun s a=>AD Try.prog s 3 a),[.loc 0],.push,[]⟩,
 ⟨none,.p1 AE,[.var 0],.push,[]⟩,
 ⟨none,.p1 (fun x=>AB Try.prog 91 x 7),[.loc 0],.push,[]⟩,
 ⟨none,.r1 (fun s a=>AD Try.prog s 23 a),[.loc 0],.push,[]⟩,
 ⟨none,.r (fun s l=>match l with | [x]=>Aq Try.prog s 23 x | _=>none),[.loc 0],.push,[]⟩,
 ⟨none,.p2 (AL Try.prog .lss 3),[.loc 4,.loc 0],(.set 10),[]⟩]
def ZC:List AA:=[
 ⟨none,.p1 AE,[.var 0],.push,[]⟩,
 ⟨none,.p1 (fun x=>AB Try.prog 91 x 7),[.loc 0],.push,[]⟩,
 ⟨none,.r1 (fun s a=>AD Try.prog s 23 a),[.loc 0],.push,[]⟩,
 ⟨none,.p1 AE,[.var 0],.push,[]⟩,
 ⟨none,.p1 (fun x=>AB Try.prog 91 x 9),[.loc 0],.push,[]⟩,
 ⟨none,.r1 (fun s a=>AD Try.prog s 3 a),[.loc 0],.push,[]⟩,
 ⟨none,.p2 (AC Try.prog 23),[.loc 3,.loc 0],.push,[]⟩,
 ⟨none,.r1 (fun s a=>AD Try.prog s 3 a),[.loc 0],.push,[]⟩,
 ⟨none,.p1 (GZ Try.prog Go.UnOp.neg),[.loc 0],.push,[]⟩,
 ⟨none,.p1 some,[.loc 0],(.set 2),[]⟩]
def ZF:List AA:=[
 ⟨none,.p1 AE,[.var 0],.push,[]⟩,
 ⟨none,.p1 (fun x=>AB Try.prog 91 x 9),[.loc 0],.push,[]⟩,
 ⟨none,.r1 (fun s a=>AD Try.prog s 3 a),[.loc 0],.push,[]⟩,
 ⟨none,.p2 (AL Try.prog .add 3),[(.loc 0),(.const (.int .i64 (1)))],.push,[]⟩,
 ⟨none,.p1 AE,[.var 0],.push,[]⟩,
 ⟨none,.p1 (fun x=>AB Try.prog 91 x 9),[.loc 0],.push,[]⟩,
 ⟨none,.e (fun s=>BV (fun a x=>AU (AM Try.prog s 3 a x))),[.loc 0,.loc 2],.push,[]⟩]
def iE:List AA:=[
 ⟨none,.p1 AE,[.var 0],.push,[]⟩,
 ⟨none,.p1 (fun x=>AB Try.prog 91 x 0),[.loc 0],.push,[]⟩,
 ⟨none,.r1 (fun s a=>AD Try.prog s 88 a),[.loc 0],.push,[]⟩,
 ⟨none,.call 91,[.var 2],.push,[⟨none,.r1 (fun s a=>AD Try.prog s 88 a),[.loc 2],(.loc 1)⟩]⟩,
 ⟨none,.p2 (AC Try.prog 88),[.loc 1,.loc 0],.push,[]⟩,
 ⟨none,.r1 (fun s a=>AD Try.prog s 89 a),[.loc 0],.push,[]⟩,
 ⟨none,.p1 some,[.loc 0],(.set 3),[]⟩]
def iF:List AA:=[
 ⟨none,.r (fun s l=>match l with | [x]=>Aq Try.prog s 89 x | _=>none),[.var 3],.push,[]⟩,
 ⟨none,.r (Ad Try.prog 89 false true true),[(.var 3),(.const (.int .i64 (0))),(.loc 0)],.push,[]⟩,
 ⟨none,.p1 some,[.loc 0],(.set 4),[]⟩]
def iG:List AA:=[
 ⟨none,.p1 some,[(.const (.ptr none))],(.set 5),[]⟩]
def iH:List AA:=[
 ⟨none,.p1 some,[.var 3],(.set 11),[]⟩,
 ⟨none,.r (fun s l=>match l with | [x]=>Aq Try.prog s 89 x | _=>none),[.var 11],(.set 12),[]⟩,
 ⟨none,.p1 some,[(.const (.int .i64 (0)))],(.set 13),[]⟩]
def ZG:List AA:=[
 ⟨none,.p2 (AL Try.prog .lss 3),[.var 13,.var 12],(.set 14),[]⟩]
def iI:List AA:=[
 ⟨none,.p2 (AC Try.prog 89),[.var 11,.var 13],.push,[]⟩,
 ⟨none,.r1 (fun s a=>AD Try.prog s 92 a),[.loc 0],.push,[]⟩,
 ⟨none,.p1 some,[.var 13],(.set 6),[]⟩,
 ⟨none,.p1 some,[.loc 0],(.set 7),[]⟩]
def Y8:List AA:=[
 ⟨none,.call 92,[.var 0,.var 7,.var 2],.push,[]⟩,
 ⟨none,.p1 (fun x=>Rp x 0),[.loc 0],.push,[]⟩,
 ⟨none,.p1 (fun x=>Rp x 1),[.loc 1],.push,[]⟩,
 ⟨none,.p1 some,[.loc 1],(.set 8),[]⟩,
 ⟨none,.p1 some,[.loc 0],(.set 9),[]⟩]
def ON:List AA:=[
 ⟨none,.p1 some,[.var 8],(.set 15),[]⟩]
def Sm:List AA:=[
 ⟨none,.p1 some,[.var 4],.push,[]⟩,
 ⟨none,.mk (fun l=>(Ae Try.prog 89 1 (zipIdx [0] l)).bind fun r=>some (r,.slice 1)),[.var 7],.push,[]⟩,
 ⟨none,.e (fun s l=>Af Try.prog s [89,89] l),[.loc 1,.loc 0],.push,[]⟩,
 ⟨none,.p1 some,[.loc 0],(.set 4),[]⟩]
def OO:List AA:=[
 ⟨none,.p1 some,[.var 9],(.set 16),[]⟩]
def Y9:List AA:=[
 ⟨none,.p1 some,[.var 4],.push,[]⟩,
 ⟨none,.p2 (AL Try.prog .add 3),[(.var 6),(.const (.int .i64 (1)))],.push,[]⟩,
 ⟨none,.r (Ad Try.prog 89 true false false),[.var 3,.loc 0],.push,[]⟩,
 ⟨none,.e (fun s l=>Af Try.prog s [89,89] l),[.loc 2,.loc 0],.push,[]⟩,
 ⟨none,.p1 some,[.loc 0],(.set 4),[]⟩,
 ⟨none,.p1 some,[.var 7],(.set 5),[]⟩]
def Sn:List AA:=[
 ⟨none,.p2 (AL Try.prog .add 3),[(.var 13),(.const (.int .i64 (1)))],.push,[]⟩,
 ⟨none,.p1 some,[.loc 0],(.set 13),[]⟩]
def LM:Ac:=(.seq (.ops ZG) (.seq (.cond (.var 14)
 .skip
 (.exit 2)) (.seq (.block 3 (.seq (.ops iI) (.seq (.ops Y8) (.seq (.seq (.ops ON) (.cond (.var 15)
 (.ops Sm)
 .skip)) (.seq (.ops OO) (.cond (.var 16)
 (.seq (.ops Y9) (.exit 2))
 .skip)))))) (.ops Sn))))
def ZA:List AA:=[
 ⟨none,.p1 AE,[.var 0],.push,[]⟩,
 ⟨none,.p1 (fun x=>AB Try.prog 91 x 0),[.loc 0],.push,[]⟩,
 ⟨none,.r1 (fun s a=>AD Try.prog s 88 a),[.loc 0],.push,[]⟩,
 ⟨none,.call 91,[.var 2],.push,[⟨none,.r1 (fun s a=>AD Try.prog s 88 a),[.loc 2],(.loc 1)⟩]⟩,
 ⟨none,.p2 (AC Try.prog 88),[.loc 1,.loc 0],.push,[]⟩,
 ⟨none,.e (fun s=>BV (fun a x=>AU (AM Try.prog s 89 a x))),[.loc 0,.var 4],.push,[]⟩]
def So:List AA:=[
 ⟨none,.p2 (AL Try.prog .neq 92),[(.var 5),(.const (.ptr none))],(.set 17),[]⟩]
def ZB:List AA:=[
 ⟨none,.p1 AE,[.var 0],.push,[]⟩,
 ⟨none,.p1 (fun x=>AB Try.prog 91 x 7),[.loc 0],.push,[]⟩,
 ⟨none,.r1 (fun s a=>AD Try.prog s 23 a),[.loc 0],.push,[]⟩,
 ⟨none,.r (fun s l=>match l with | [x]=>Aq Try.prog s 23 x | _=>none),[.loc 0],.push,[]⟩,
 ⟨none,.p1 AE,[.var 0],.push,[]⟩,
 ⟨none,.p1 (fun x=>AB Try.prog 91 x 9),[.loc 0],.push,[]⟩,
 ⟨none,.e (fun s=>BV (fun a x=>AU (AM Try.prog s 3 a x))),[.loc 0,.loc 2],.push,[]⟩]
def ZD:List AA:=[
 ⟨none,.p1 some,[.var 5],(.set 1),[]⟩]
def LN:Ac:=(.seq (.seq (.ops Y7) (.cond (.var 10)
 .skip
 (.exit 0))) (.block 1 (.seq (.ops ZC) (.seq (.ops ZF) (.seq (.ops iE) (.seq (.ops iF) (.seq (.ops iG) (.seq (.seq (.ops iH) (.block 2 (.loop LM))) (.seq (.ops ZA) (.seq (.ops So) (.cond (.var 17)
 (.seq (.ops ZB) (.seq (.ops ZD) .ret))
 .skip)))))))))))
def ZE:List AA:=[
 ⟨none,.p1 some,[(.const (.ptr none))],(.set 1),[]⟩]
def pl:Aw:=⟨1,18,(.seq (.ops iD) (.seq (.block 0 (.loop LN)) (.seq (.ops ZE) .ret))),[((.var 1),none)]⟩
def jk:List AA:=[
 ⟨none,.mk (fun l=>match l with | [v]=>DS 92 v | _=>none),[.var 0],(.set 2),[]⟩,
 ⟨none,.mk (fun l=>match l with | [v]=>DS 3 v | _=>none),[.var 1],(.set 3),[]⟩,
 ⟨none,.p1 some,[(.const .nilFunc)],(.set 4),[]⟩]
def jl:List AA:=[
 ⟨none,.p (fun l=>some (.func 111 (l.take 0) (l.drop 0))),[.var 2,.var 3],.push,[]⟩,
 ⟨none,.p1 some,[.loc 0],(.set 4),[]⟩]
def qB:Aw:=⟨2,5,(.seq (.ops jk) (.seq (.ops jl) .ret)),[((.var 4),none)]⟩
def XT:List AA:=[
 ⟨none,.r1 (fun s a=>AD Try.prog s 92 a),[.var 1],.push,[]⟩,
 ⟨none,.p1 AE,[.loc 0],.push,[]⟩,
 ⟨none,.p1 (fun x=>AB Try.prog 104 x 0),[.loc 0],.push,[]⟩,
 ⟨none,.r1 (fun s a=>AD Try.prog s 23 a),[.loc 0],(.set 4),[]⟩,
 ⟨none,.r (fun s l=>match l with | [x]=>Aq Try.prog s 23 x | _=>none),[.var 4],(.set 5),[]⟩,
 ⟨none,.p1 some,[(.const (.int .i64 (0)))],(.set 6),[]⟩]
def OF:List AA:=[
 ⟨none,.p2 (AL Try.prog .lss 3),[.var 6,.var 5],(.set 7),[]⟩]
def R0:List AA:=[
 ⟨none,.p2 (AC Try.prog 23),[.var 4,.var 6],.push,[]⟩,
 ⟨none,.r1 (fun s a=>AD Try.prog s 3 a),[.loc 0],.push,[]⟩,
 ⟨none,.p1 some,[.loc 0],(.set 3),[]⟩]
def R3:List AA:=[
 ⟨none,.r1 (fun s a=>AD Try.prog s 3 a),[.var 2],.push,[]⟩,
 ⟨none,.p2 (AL Try.prog .neq 3),[.var 3,.loc 0],.push,[]⟩,
 ⟨(some ((.loc 0),true)),.p1 some,[.var 0],.push,[]⟩,
 ⟨(some ((.loc 1),true)),.p1 some,[.var 3],.push,[]⟩,
 ⟨(some ((.loc 2),true)),.callv,[.loc 1,.loc 0],.push,[]⟩,
 ⟨(some ((.loc 3),true)),.p1 (GZ Try.prog Go.UnOp.not),[.loc 0],.push,[]⟩,
 ⟨none,.p Rn,[(.loc 4),(.loc 0),(.const (.bool false))],(.set 8),[]⟩]
def R4:List AA:=[
 ⟨none,.p2 (AL Try.prog .add 3),[(.var 6),(.const (.int .i64 (1)))],.push,[]⟩,
 ⟨none,.p1 some,[.loc 0],(.set 6),[]⟩]
def JK:Ac:=(.seq (.ops OF) (.seq (.cond (.var 7)
 .skip
 (.exit 0)) (.seq (.block 1 (.seq (.ops R0) (.seq (.ops R3) (.cond (.var 8)
 .ret
 .skip)))) (.ops R4))))
def nW:Aw:=⟨3,9,(.seq (.ops XT) (.block 0 (.loop JK))),[]⟩
def iP:List AA:=[
 ⟨none,.mk (fun l=>match l with | [v]=>DS 44 v | _=>none),[.var 0],(.set 2),[]⟩,
 ⟨none,.mk (fun l=>match l with | []=>Bi Try.prog 23 | _=>none),[],(.set 3),[]⟩,
 ⟨none,.mk (fun l=>match l with | []=>Bi Try.prog 3 | _=>none),[],(.set 4),[]⟩]
def iQ:List AA:=[
 ⟨none,.mk (fun l=>match l with | []=>some (.map [] 0,.map) | _=>none),[],.push,[]⟩,
 ⟨none,.mk (fun l=>match l with | []=>Bi Try.prog 115 | _=>none),[],(.set 5),[]⟩,
 ⟨none,.e (fun s=>BV (fun a x=>AU (AM Try.prog s 115 a x))),[.var 5,.loc 0],.push,[]⟩]
def iR:List AA:=[
 ⟨none,.mk (fun l=>(Ae Try.prog 23 1 (zipIdx [0] l)).bind fun r=>some (r,.slice 1)),[(.const (.int .i64 (0)))],.push,[]⟩,
 ⟨none,.e (fun s=>BV (fun a x=>AU (AM Try.prog s 23 a x))),[.var 3,.loc 0],.push,[]⟩]
def iS:List AA:=[
 ⟨none,.r1 (fun s a=>AD Try.prog s 44 a),[.var 2],.push,[]⟩,
 ⟨none,.p1 AE,[.loc 0],.push,[]⟩,
 ⟨none,.p1 (fun x=>AB Try.prog 91 x 7),[.loc 0],.push,[]⟩,
 ⟨none,.r1 (fun s a=>AD Try.prog s 23 a),[.loc 0],.push,[]⟩,
 ⟨none,.r (fun s l=>match l with | [x]=>Aq Try.prog s 23 x | _=>none),[.loc 0],.push,[]⟩,
 ⟨none,.mk (fun l=>match l with | []=>Bi Try.prog 3 | _=>none),[],(.set 6),[]⟩,
 ⟨none,.e (fun s=>BV (fun a x=>AU (AM Try.prog s 3 a x))),[(.var 6),(.const (.int .i64 (0)))],.push,[⟨none,.r (fun s l=>match l with | [x]=>Aq Try.prog s 23 x | _=>none),[.loc 2],(.loc 1)⟩,⟨none,.r1 (fun s a=>AD Try.prog s 23 a),[.loc 3],(.loc 2)⟩,⟨none,.r1 (fun s a=>AD Try.prog s 44 a),[.var 2],(.loc 5)⟩]⟩,
 ⟨none,.p1 some,[.loc 1],(.set 7),[]⟩]
def iT:List AA:=[
 ⟨none,.p1 some,[(.const (.int .i64 (0)))],(.set 8),[]⟩]
def iU:List AA:=[
 ⟨none,.call 93,[.var 1,.var 8],(.set 14),[]⟩]
def iV:List AA:=[
 ⟨none,.p1 some,[.var 15],(.set 9),[]⟩]
def iW:List AA:=[
 ⟨none,.call 90,[.var 9],.push,[]⟩,
 ⟨none,.p1 some,[.loc 0],(.set 10),[]⟩]
def ZN:List AA:=[
 ⟨none,.r1 (fun s a=>AD Try.prog s 115 a),[.var 5],.push,[]⟩,
 ⟨none,.r (fun s=>BV (fun m k=>DF Try.prog s 115 m k true)),[.loc 0,.var 10],.push,[]⟩,
 ⟨none,.p1 (fun x=>Rp x 0),[.loc 0],.push,[]⟩,
 ⟨none,.p1 (fun x=>Rp x 1),[.loc 1],.push,[]⟩,
 ⟨none,.mk (fun l=>match l with | []=>Bi Try.prog 119 | _=>none),[],.push,[]⟩,
 ⟨none,.e (fun s=>BV (fun a x=>AU (AM Try.prog s 119 a x))),[.loc 0,.loc 2],.push,[]⟩,
 ⟨none,.p1 some,[.loc 2],(.set 11),[]⟩]
def UX:List AA:=[
 ⟨(some ((.var 11),false)),.r1 (fun s a=>AD Try.prog s 44 a),[.var 2],.push,[]⟩,
 ⟨(some ((.var 11),false)),.p1 AE,[.loc 0],.push,[]⟩,
 ⟨(some ((.var 11),false)),.p1 (fun x=>AB Try.prog 91 x 3),[.loc 0],.push,[]⟩,
 ⟨(some ((.var 11),false)),.r1 (fun s a=>AD Try.prog s 23 a),[.loc 0],.push,[]⟩,
 ⟨(some ((.var 11),false)),.p1 some,[.var 10],.push,[]⟩,
 ⟨(some ((.var 11),false)),.p2 (AC Try.prog 23),[.loc 1,.loc 0],.push,[]⟩,
 ⟨(some ((.var 11),false)),.r1 (fun s a=>AD Try.prog s 3 a),[.loc 0],.push,[]⟩,
 ⟨(some ((.var 11),false)),.p2 (AL Try.prog .eql 3),[(.loc 0),(.const (.int .i64 (0)))],.push,[]⟩,
 ⟨none,.p Rn,[(.var 11),(.const (.bool true)),(.loc 0)],(.set 16),[]⟩]
def Sp:List AA:=[
 ⟨none,.r1 (fun s a=>AD Try.prog s 115 a),[.var 5],.push,[]⟩,
 ⟨none,.p (fun l=>Bz Try.prog 119 (zipIdx [] l)),[],.push,[]⟩,
 ⟨none,.e (fun s=>oI (fun m k x=>AU (EX Try.prog s 115 m k x))),[.loc 1,.var 10,.loc 0],.push,[]⟩]
def Sq:List AA:=[
 ⟨none,.r1 (fun s a=>AD Try.prog s 44 a),[.var 2],.push,[]⟩,
 ⟨none,.p1 AE,[.loc 0],.push,[]⟩,
 ⟨none,.p1 (fun x=>AB Try.prog 91 x 5),[.loc 0],.push,[]⟩,
 ⟨none,.r1 (fun s a=>AD Try.prog s 23 a),[.loc 0],.push,[]⟩,
 ⟨none,.p2 (AC Try.prog 23),[.loc 0,.var 10],.push,[]⟩,
 ⟨none,.r1 (fun s a=>AD Try.prog s 3 a),[.loc 0],.push,[]⟩,
 ⟨none,.p2 (AL Try.prog .add 3),[(.loc 0),(.const (.int .i64 (1)))],.push,[]⟩,
 ⟨none,.p2 (AC Try.prog 23),[.loc 3,.var 10],.push,[]⟩,
 ⟨none,.e (fun s=>BV (fun a x=>AU (AM Try.prog s 3 a x))),[.loc 0,.loc 1],.push,[]⟩]
def Sr:List AA:=[
 ⟨none,.r1 (fun s a=>AD Try.prog s 44 a),[.var 2],.push,[]⟩,
 ⟨none,.p1 AE,[.loc 0],.push,[]⟩,
 ⟨none,.p1 (fun x=>AB Try.prog 91 x 3),[.loc 0],.push,[]⟩,
 ⟨none,.r1 (fun s a=>AD Try.prog s 23 a),[.loc 0],.push,[]⟩,
 ⟨none,.p2 (AC Try.prog 23),[.loc 0,.var 10],.push,[]⟩,
 ⟨none,.r1 (fun s a=>AD Try.prog s 3 a),[.loc 0],.push,[]⟩,
 ⟨none,.r1 (fun s a=>AD Try.prog s 44 a),[.var 2],.push,[]⟩,
 ⟨none,.p1 AE,[.loc 0],.push,[]⟩,
 ⟨none,.p1 (fun x=>AB Try.prog 91 x 8),[.loc 0],.push,[]⟩,
 ⟨none,.r1 (fun s a=>AD Try.prog s 23 a),[.loc 0],.push,[]⟩,
 ⟨none,.r (fun s l=>match l with | [x]=>Aq Try.prog s 23 x | _=>none),[.loc 0],.push,[]⟩,
 ⟨none,.p2 (AL Try.prog .eql 3),[.loc 5,.loc 0],(.set 17),[]⟩]
def Ss:List AA:=[
 ⟨none,.r1 (fun s a=>AD Try.prog s 3 a),[.var 6],.push,[]⟩,
 ⟨none,.p2 (AL Try.prog .add 3),[(.loc 0),(.const (.int .i64 (1)))],.push,[]⟩,
 ⟨none,.e (fun s=>BV (fun a x=>AU (AM Try.prog s 3 a x))),[.var 6,.loc 0],.push,[]⟩]
def St:List AA:=[
 ⟨none,.r1 (fun s a=>AD Try.prog s 23 a),[.var 3],.push,[]⟩,
 ⟨none,.mk (fun l=>(Ae Try.prog 23 1 (zipIdx [0] l)).bind fun r=>some (r,.slice 1)),[.var 9],.push,[]⟩,
 ⟨none,.e (fun s l=>Af Try.prog s [23,23] l),[.loc 1,.loc 0],.push,[]⟩,
 ⟨none,.e (fun s=>BV (fun a x=>AU (AM Try.prog s 23 a x))),[.var 3,.loc 0],.push,[]⟩]
def Su:List AA:=[
 ⟨none,.r1 (fun s a=>AD Try.prog s 3 a),[.var 4],.push,[]⟩,
 ⟨none,.r1 (fun s a=>AD Try.prog s 44 a),[.var 2],.push,[]⟩,
 ⟨none,.p1 AE,[.loc 0],.push,[]⟩,
 ⟨none,.p1 (fun x=>AB Try.prog 91 x 3),[.loc 0],.push,[]⟩,
 ⟨none,.r1 (fun s a=>AD Try.prog s 23 a),[.loc 0],.push,[]⟩,
 ⟨none,.p2 (AC Try.prog 23),[.loc 0,.var 10],.push,[]⟩,
 ⟨none,.r1 (fun s a=>AD Try.prog s 3 a),[.loc 0],.push,[]⟩,
 ⟨none,.p (fun l=>match l with | v::l=>EO true v l | []=>none),[.loc 6,.loc 0],.push,[]⟩,
 ⟨none,.e (fun s=>BV (fun a x=>AU (AM Try.prog s 3 a x))),[.var 4,.loc 0],.push,[]⟩]
def oA:Ac:=(.ops iV)
def oB:Ac:=(.block 3 (.seq (.ops iW) (.seq (.seq (.ops ZN) (.seq (.ops UX) (.cond (.var 16)
 (.exit 3)
 .skip))) (.seq (.ops Sp) (.seq (.ops Sq) (.seq (.ops Sr) (.cond (.var 17)
 (.ops Ss)
 (.seq (.ops St) (.ops Su)))))))))
def ol:Code:=(U1 67).1
def oq:Code:=(U1 67).2
def ZK:List AA:=[
 ⟨none,.p1 some,[(.const (.bool false))],(.set 12),[]⟩]
def Sw:List AA:=[
 ⟨none,.p1 (GZ Try.prog Go.UnOp.not),[.var 12],(.set 18),[]⟩]
def ZL:List AA:=[
 ⟨none,.p1 some,[.var 7],.push,[]⟩,
 ⟨none,.p2 (AL Try.prog .sub 3),[(.loc 0),(.const (.int .i64 (1)))],.push,[]⟩,
 ⟨none,.p1 some,[.loc 0],(.set 7),[]⟩]
def ZM:List AA:=[
 ⟨none,.r1 (fun s a=>AD Try.prog s 115 a),[.var 5],.push,[]⟩,
 ⟨none,.r1 (fun s a=>AD Try.prog s 44 a),[.var 2],.push,[]⟩,
 ⟨none,.p1 AE,[.loc 0],.push,[]⟩,
 ⟨none,.p1 (fun x=>AB Try.prog 91 x 7),[.loc 0],.push,[]⟩,
 ⟨none,.r1 (fun s a=>AD Try.prog s 23 a),[.loc 0],.push,[]⟩,
 ⟨none,.p2 (AC Try.prog 23),[.loc 0,.var 7],.push,[]⟩,
 ⟨none,.r1 (fun s a=>AD Try.prog s 3 a),[.loc 0],.push,[]⟩,
 ⟨none,.call 90,[.loc 0],.push,[⟨none,.r1 (fun s a=>AD Try.prog s 115 a),[.var 5],(.loc 7)⟩]⟩,
 ⟨none,.r (fun s=>BV (fun m k=>DF Try.prog s 115 m k true)),[.loc 7,.loc 0],.push,[]⟩,
 ⟨none,.p1 (fun x=>Rp x 0),[.loc 0],.push,[]⟩,
 ⟨none,.p1 (fun x=>Rp x 1),[.loc 1],.push,[]⟩,
 ⟨none,.p1 some,[.loc 0],(.set 12),[]⟩]
def JP:Ac:=(.seq (.seq (.ops Sw) (.cond (.var 18)
 .skip
 (.exit 4))) (.block 5 (.seq (.ops ZL) (.ops ZM))))
def Sx:List AA:=[
 ⟨none,.r1 (fun s a=>AD Try.prog s 44 a),[.var 2],.push,[]⟩,
 ⟨none,.p1 AE,[.loc 0],.push,[]⟩,
 ⟨none,.p1 (fun x=>AB Try.prog 91 x 7),[.loc 0],.push,[]⟩,
 ⟨none,.r1 (fun s a=>AD Try.prog s 23 a),[.loc 0],.push,[]⟩,
 ⟨none,.p2 (AC Try.prog 23),[.loc 0,.var 7],.push,[]⟩,
 ⟨none,.r1 (fun s a=>AD Try.prog s 3 a),[.loc 0],.push,[]⟩,
 ⟨none,.p1 some,[.loc 0],(.set 8),[]⟩]
def Sy:List AA:=[
 ⟨none,.r1 (fun s a=>AD Try.prog s 44 a),[.var 2],.push,[]⟩,
 ⟨none,.p1 AE,[.loc 0],.push,[]⟩,
 ⟨none,.p1 (fun x=>AB Try.prog 91 x 4),[.loc 0],.push,[]⟩,
 ⟨none,.r1 (fun s a=>AD Try.prog s 89 a),[.loc 0],.push,[]⟩,
 ⟨none,.call 90,[.var 8],.push,[⟨none,.r1 (fun s a=>AD Try.prog s 89 a),[.loc 2],(.loc 1)⟩,⟨none,.r1 (fun s a=>AD Try.prog s 44 a),[.var 2],(.loc 4)⟩]⟩,
 ⟨none,.p2 (AC Try.prog 89),[.loc 1,.loc 0],.push,[]⟩,
 ⟨none,.r1 (fun s a=>AD Try.prog s 92 a),[.loc 0],.push,[]⟩,
 ⟨none,.p1 some,[.loc 0],(.set 1),[]⟩]
def Sz:List AA:=[
 ⟨none,.r1 (fun s a=>AD Try.prog s 3 a),[.var 6],.push,[]⟩,
 ⟨none,.p2 (AL Try.prog .sub 3),[(.loc 0),(.const (.int .i64 (1)))],.push,[]⟩,
 ⟨none,.e (fun s=>BV (fun a x=>AU (AM Try.prog s 3 a x))),[.var 6,.loc 0],.push,[]⟩]
def S0:List AA:=[
 ⟨none,.r1 (fun s a=>AD Try.prog s 3 a),[.var 6],.push,[]⟩,
 ⟨none,.p2 (AL Try.prog .eql 3),[(.loc 0),(.const (.int .i64 (0)))],(.set 19),[]⟩]
def S1:List AA:=[
 ⟨none,.r1 (fun s a=>AD Try.prog s 23 a),[.var 3],.push,[]⟩,
 ⟨none,.p1 (GZ Try.prog Go.UnOp.neg),[.var 8],.push,[]⟩,
 ⟨none,.p2 (AC Try.prog 23),[(.loc 1),(.const (.int .i64 (0)))],.push,[]⟩,
 ⟨none,.e (fun s=>BV (fun a x=>AU (AM Try.prog s 3 a x))),[.loc 0,.loc 1],.push,[]⟩]
def JQ:Ac:=(.block 1 (.seq (.seq (.ops iU) (.block 2 (.rangeFunc 67 (.var 14) #[26] ol oq))) (.seq (.seq (.ops ZK) (.block 4 (.loop JP))) (.seq (.ops Sx) (.seq (.ops Sy) (.seq (.ops Sz) (.seq (.ops S0) (.cond (.var 19)
 (.seq (.ops S1) (.exit 0))
 .skip))))))))
def S2:List AA:=[
 ⟨none,.r1 (fun s a=>AD Try.prog s 23 a),[.var 3],.push,[]⟩,
 ⟨none,.r (Ad Try.prog 23 true false false),[(.loc 0),(.const (.int .i64 (1)))],.push,[]⟩,
 ⟨none,.p (fun l=>some (.func 95 (l.take 0) (l.drop 0))),[.var 2,.var 4],.push,[]⟩,
 ⟨none,.call 94,[.loc 1,.loc 0],.push,[]⟩,
 ⟨none,.p1 some,[.loc 0],(.set 13),[]⟩]
def LO:List AA:=[
 ⟨none,.p2 (AL Try.prog .geq 3),[(.var 13),(.const (.int .i64 (0)))],(.set 20),[]⟩]
def S3:List AA:=[
 ⟨none,.r1 (fun s a=>AD Try.prog s 23 a),[.var 3],.push,[]⟩,
 ⟨none,.r1 (fun s a=>AD Try.prog s 23 a),[.var 3],.push,[]⟩,
 ⟨none,.p2 (AL Try.prog .add 3),[(.var 13),(.const (.int .i64 (1)))],.push,[]⟩,
 ⟨none,.r1 (fun s a=>AD Try.prog s 23 a),[.var 3],.push,[]⟩,
 ⟨none,.p2 (AL Try.prog .add 3),[(.var 13),(.const (.int .i64 (1)))],.push,[]⟩,
 ⟨none,.p2 (AC Try.prog 23),[.loc 1,.loc 0],.push,[]⟩,
 ⟨none,.r1 (fun s a=>AD Try.prog s 3 a),[.loc 0],.push,[]⟩,
 ⟨none,.r1 (fun s a=>AD Try.prog s 23 a),[.var 3],.push,[]⟩,
 ⟨none,.p2 (AC Try.prog 23),[(.loc 0),(.const (.int .i64 (1)))],.push,[]⟩,
 ⟨none,.r1 (fun s a=>AD Try.prog s 3 a),[.loc 0],.push,[]⟩,
 ⟨none,.p2 (AC Try.prog 23),[(.loc 9),(.const (.int .i64 (1)))],.push,[]⟩,
 ⟨none,.e (fun s=>BV (fun a x=>AU (AM Try.prog s 3 a x))),[.loc 0,.loc 4],.push,[⟨none,.r1 (fun s a=>AD Try.prog s 23 a),[.var 3],(.loc 10)⟩]⟩,
 ⟨none,.p2 (AC Try.prog 23),[.loc 10,.loc 9],.push,[]⟩,
 ⟨none,.e (fun s=>BV (fun a x=>AU (AM Try.prog s 3 a x))),[.loc 0,.loc 3],.push,[]⟩]
def S4:List AA:=[
 ⟨none,.r1 (fun s a=>AD Try.prog s 23 a),[.var 3],.push,[]⟩,
 ⟨none,.r1 (fun s a=>AD Try.prog s 3 a),[.var 4],.push,[]⟩,
 ⟨none,.e (fun s=>BV (fun a x=>AU (AM Try.prog s 23 a x))),[.var 3,.loc 1],.push,[⟨none,.r1 (fun s a=>AD Try.prog s 3 a),[.var 4],(.loc 1)⟩]⟩,
 ⟨none,.e (fun s=>BV (fun a x=>AU (AM Try.prog s 3 a x))),[.var 4,.loc 1],.push,[]⟩]
def pn:Aw:=⟨2,21,(.seq (.ops iP) (.seq (.ops iQ) (.seq (.ops iR) (.seq (.ops iS) (.seq (.seq (.ops iT) (.block 0 (.loop JQ))) (.seq (.seq (.ops S2) (.seq (.ops LO) (.cond (.var 20)
 (.ops S3)
 .skip))) (.seq (.ops S4) .ret))))))),[((.var 3),some 23),((.var 4),some 3)]⟩
def ju:List AA:=[
 ⟨none,.p1 some,[(.const (.bool false))],(.set 3),[]⟩]
def jv:List AA:=[
 ⟨none,.r1 (fun s a=>AD Try.prog s 44 a),[.var 1],.push,[]⟩,
 ⟨none,.p1 AE,[.loc 0],.push,[]⟩,
 ⟨none,.p1 (fun x=>AB Try.prog 91 x 3),[.loc 0],.push,[]⟩,
 ⟨none,.r1 (fun s a=>AD Try.prog s 23 a),[.loc 0],.push,[]⟩,
 ⟨none,.r1 (fun s a=>AD Try.prog s 3 a),[.var 2],.push,[]⟩,
 ⟨none,.call 90,[.var 0],.push,[⟨none,.r1 (fun s a=>AD Try.prog s 3 a),[.var 2],(.loc 1)⟩,⟨none,.r1 (fun s a=>AD Try.prog s 23 a),[.loc 3],(.loc 2)⟩,⟨none,.r1 (fun s a=>AD Try.prog s 44 a),[.var 1],(.loc 5)⟩]⟩,
 ⟨none,.p2 (AC Try.prog 23),[.loc 2,.loc 0],.push,[]⟩,
 ⟨none,.r1 (fun s a=>AD Try.prog s 3 a),[.loc 0],.push,[]⟩,
 ⟨none,.p2 (AL Try.prog .eql 3),[.loc 0,.loc 3],.push,[]⟩,
 ⟨none,.p1 some,[.loc 0],(.set 3),[]⟩]
def qD:Aw:=⟨3,4,(.seq (.ops ju) (.seq (.ops jv) .ret)),[((.var 3),none)]⟩
def iK:List AA:=[
 ⟨none,.call 63,[.var 0,.var 2],.push,[]⟩]
def ZI:List AA:=[
 ⟨none,.p1 AE,[.var 0],.push,[]⟩,
 ⟨none,.p1 (fun x=>AB Try.prog 91 x 12),[.loc 0],.push,[]⟩,
 ⟨none,.r1 (fun s a=>AD Try.prog s 33 a),[.loc 0],.push,[]⟩,
 ⟨none,.call 60,[.var 1],.push,[⟨none,.r1 (fun s a=>AD Try.prog s 33 a),[.loc 2],(.loc 1)⟩]⟩,
 ⟨none,.p (fun l=>Bz Try.prog 27 (zipIdx [1] l)),[.loc 0],.push,[]⟩,
 ⟨none,.mk (fun l=>(Ae Try.prog 33 1 (zipIdx [0] l)).bind fun r=>some (r,.slice 1)),[.loc 0],.push,[]⟩,
 ⟨none,.e (fun s l=>Af Try.prog s [33,33] l),[.loc 3,.loc 0],.push,[]⟩,
 ⟨none,.p1 AE,[.var 0],.push,[]⟩,
 ⟨none,.p1 (fun x=>AB Try.prog 91 x 12),[.loc 0],.push,[]⟩,
 ⟨none,.e (fun s=>BV (fun a x=>AU (AM Try.prog s 33 a x))),[.loc 0,.loc 2],.push,[]⟩]
def iL:List AA:=[
 ⟨none,.p (fun l=>Bz Try.prog 104 (zipIdx [0,1] l)),[(.var 1),(.const (.bool true))],.push,[]⟩,
 ⟨none,.mk (fun l=>match l with | [v]=>DS 104 v | _=>none),[.loc 0],.push,[]⟩,
 ⟨none,.p1 some,[.loc 0],(.set 3),[]⟩]
def iM:List AA:=[
 ⟨none,.r (fun s l=>match l with | [x]=>Aq Try.prog s 23 x | _=>none),[.var 1],.push,[]⟩,
 ⟨none,.p2 (AL Try.prog .gtr 3),[(.loc 0),(.const (.int .i64 (1)))],(.set 4),[]⟩]
def iN:List AA:=[
 ⟨none,.call 78,[.var 0,.var 3],.push,[]⟩]
def iO:List AA:=[
 ⟨none,.p1 AE,[.var 0],.push,[]⟩,
 ⟨none,.p1 (fun x=>AB Try.prog 91 x 1),[.loc 0],.push,[]⟩,
 ⟨none,.r1 (fun s a=>AD Try.prog s 89 a),[.loc 0],.push,[]⟩,
 ⟨none,.mk (fun l=>(Ae Try.prog 89 1 (zipIdx [0] l)).bind fun r=>some (r,.slice 1)),[.var 3],.push,[]⟩,
 ⟨none,.e (fun s l=>Af Try.prog s [89,89] l),[.loc 1,.loc 0],.push,[]⟩,
 ⟨none,.p1 AE,[.var 0],.push,[]⟩,
 ⟨none,.p1 (fun x=>AB Try.prog 91 x 1),[.loc 0],.push,[]⟩,
 ⟨none,.e (fun s=>BV (fun a x=>AU (AM Try.prog s 89 a x))),[.loc 0,.loc 2],.push,[]⟩]
def ZJ:List AA:=[
 ⟨none,.p2 (AC Try.prog 23),[(.var 1),(.const (.int .i64 (0)))],.push,[]⟩,
 ⟨none,.r1 (fun s a=>AD Try.prog s 3 a),[.loc 0],.push,[]⟩,
 ⟨none,.call 71,[.var 0,.loc 0,.var 3],.push,[]⟩]
def pm:Aw:=⟨3,5,(.seq (.ops iK) (.seq (.ops ZI) (.seq (.ops iL) (.seq (.seq (.ops iM) (.cond (.var 4)
 (.seq (.ops iN) (.ops iO))
 .skip)) (.ops ZJ))))),[]⟩
def YS:List AA:=[
 ⟨none,.p1 some,[(.const (.int .i64 (0)))],(.set 2),[]⟩]
def YT:List AA:=[
 ⟨none,.p2 (AL Try.prog .eql 44),[(.var 0),(.const (.ptr none))],(.set 7),[]⟩]
def nq:List AA:=[
 ⟨none,.p1 some,[(.const (.int .i64 (2)))],(.set 2),[]⟩]
def YU:List AA:=[
 ⟨none,.call 63,[(.var 0),(.const (.int .i64 (0)))],.push,[]⟩]
def YV:List AA:=[
 ⟨none,.p1 some,[(.const (.int .i64 (32)))],(.set 3),[]⟩]
def YW:List AA:=[
 ⟨none,.p1 some,[(.const (.int .i64 (0)))],(.set 4),[]⟩]
def US:List AA:=[
 ⟨none,.p1 AE,[.var 0],.push,[]⟩,
 ⟨none,.p1 (fun x=>AB Try.prog 91 x 10),[.loc 0],.push,[]⟩,
 ⟨none,.r1 (fun s a=>AD Try.prog s 4 a),[.loc 0],.push,[]⟩,
 ⟨none,.p1 (GZ Try.prog Go.UnOp.not),[.loc 0],(.set 8),[]⟩]
def YX:List AA:=[
 ⟨none,.call 64,[.var 0],.push,[]⟩,
 ⟨none,.p1 some,[.loc 0],(.set 5),[]⟩]
def PV:List AA:=[
 ⟨none,.p2 (AL Try.prog .neq 92),[(.var 5),(.const (.ptr none))],(.set 9),[]⟩]
def YY:List AA:=[
 ⟨none,.p1 AE,[.var 0],.push,[]⟩,
 ⟨none,.p1 (fun x=>AB Try.prog 91 x 8),[.loc 0],.push,[]⟩,
 ⟨none,.r1 (fun s a=>AD Try.prog s 23 a),[.loc 0],.push,[]⟩,
 ⟨none,.r (fun s l=>match l with | [x]=>Aq Try.prog s 23 x | _=>none),[.loc 0],.push,[]⟩,
 ⟨none,.p2 (AL Try.prog .eql 3),[(.loc 0),(.const (.int .i64 (0)))],.push,[]⟩,
 ⟨none,.p1 some,[.loc 0],(.set 10),[]⟩]
def SO:List AA:=[
 ⟨none,.call 65,[.var 0],.push,[]⟩]
def LC:List AA:=[
 ⟨none,.p2 (AL Try.prog .geq 3),[.var 4,.var 1],.push,[]⟩,
 ⟨none,.p1 some,[.loc 0],(.set 11),[]⟩]
def SP:List AA:=[
 ⟨none,.call 63,[(.var 0),(.const (.int .i64 (0)))],.push,[]⟩]
def SQ:List AA:=[
 ⟨none,.p1 some,[(.const (.int .i64 (2)))],(.set 2),[]⟩]
def SR:List AA:=[
 ⟨none,.p1 some,[.var 4],.push,[]⟩,
 ⟨none,.p2 (AL Try.prog .add 3),[(.loc 0),(.const (.int .i64 (1)))],.push,[]⟩,
 ⟨none,.p1 some,[.loc 0],(.set 4),[]⟩]
def SS:List AA:=[
 ⟨none,.p1 AE,[.var 0],.push,[]⟩,
 ⟨none,.p1 (fun x=>AB Try.prog 91 x 13),[.loc 0],.push,[]⟩,
 ⟨none,.r1 (fun s a=>AD Try.prog s 3 a),[.loc 0],.push,[]⟩,
 ⟨none,.p2 (AL Try.prog .add 3),[(.loc 0),(.const (.int .i64 (1)))],.push,[]⟩,
 ⟨none,.p1 AE,[.var 0],.push,[]⟩,
 ⟨none,.p1 (fun x=>AB Try.prog 91 x 13),[.loc 0],.push,[]⟩,
 ⟨none,.e (fun s=>BV (fun a x=>AU (AM Try.prog s 3 a x))),[.loc 0,.loc 2],.push,[]⟩]
def ST:List AA:=[
 ⟨none,.call 67,[.var 0,.var 5],.push,[]⟩,
 ⟨none,.p1 (fun x=>Rp x 0),[.loc 0],.push,[]⟩,
 ⟨none,.p1 (fun x=>Rp x 1),[.loc 1],.push,[]⟩,
 ⟨none,.call 66,[.var 0,.loc 1,.loc 0],.push,[]⟩]
def SU:List AA:=[
 ⟨none,.p2 (AL Try.prog .geq 3),[.var 4,.var 3],(.set 12),[]⟩]
def SV:List AA:=[
 ⟨none,.p1 some,[.var 3],.push,[]⟩,
 ⟨none,.p2 (AL Try.prog .add 3),[(.loc 0),(.const (.int .i64 (32)))],.push,[]⟩,
 ⟨none,.p1 some,[.loc 0],(.set 3),[]⟩]
def SW:List AA:=[
 ⟨none,.call 68,[.var 0],.push,[]⟩]
def SX:List AA:=[
 ⟨none,.call 63,[(.var 0),(.const (.int .i64 (0)))],.push,[]⟩]
def SY:List AA:=[
 ⟨none,.call 69,[.var 0],.push,[]⟩]
def SZ:List AA:=[
 ⟨none,.call 70,[.var 0],.push,[]⟩,
 ⟨none,.p1 some,[.loc 0],(.set 6),[]⟩]
def LD:List AA:=[
 ⟨none,.p2 (AL Try.prog .eql 3),[(.var 6),(.const (.int .i64 (0)))],(.set 13),[]⟩]
def Sa:List AA:=[
 ⟨none,.p1 AE,[.var 0],.push,[]⟩,
 ⟨none,.p1 (fun x=>AB Try.prog 91 x 2),[.loc 0],.push,[]⟩,
 ⟨none,.r1 (fun s a=>AD Try.prog s 23 a),[.loc 0],.push,[]⟩,
 ⟨none,.call 60,[.loc 0],.push,[]⟩,
 ⟨none,.p1 AE,[.var 0],.push,[]⟩,
 ⟨none,.p1 (fun x=>AB Try.prog 91 x 11),[.loc 0],.push,[]⟩,
 ⟨none,.e (fun s=>BV (fun a x=>AU (AM Try.prog s 23 a x))),[.loc 0,.loc 2],.push,[]⟩]
def Sb:List AA:=[
 ⟨none,.call 63,[(.var 0),(.const (.int .i64 (0)))],.push,[]⟩]
def Sc:List AA:=[
 ⟨none,.p1 some,[(.const (.int .i64 (1)))],(.set 2),[]⟩]
def Sd:List AA:=[
 ⟨none,.p1 AE,[.var 0],.push,[]⟩,
 ⟨none,.p1 (fun x=>AB Try.prog 91 x 8),[.loc 0],.push,[]⟩,
 ⟨none,.r1 (fun s a=>AD Try.prog s 23 a),[.loc 0],.push,[]⟩,
 ⟨none,.p1 AE,[.var 0],.push,[]⟩,
 ⟨none,.p1 (fun x=>AB Try.prog 91 x 7),[.loc 0],.push,[]⟩,
 ⟨none,.r1 (fun s a=>AD Try.prog s 23 a),[.loc 0],.push,[]⟩,
 ⟨none,.r (fun s l=>match l with | [x]=>Aq Try.prog s 23 x | _=>none),[.loc 0],.push,[]⟩,
 ⟨none,.mk (fun l=>(Ae Try.prog 23 1 (zipIdx [0] l)).bind fun r=>some (r,.slice 1)),[.loc 0],.push,[]⟩,
 ⟨none,.e (fun s l=>Af Try.prog s [23,23] l),[.loc 5,.loc 0],.push,[]⟩,
 ⟨none,.p1 AE,[.var 0],.push,[]⟩,
 ⟨none,.p1 (fun x=>AB Try.prog 91 x 8),[.loc 0],.push,[]⟩,
 ⟨none,.e (fun s=>BV (fun a x=>AU (AM Try.prog s 23 a x))),[.loc 0,.loc 2],.push,[]⟩]
def Se:List AA:=[
 ⟨none,.p1 AE,[.var 0],.push,[]⟩,
 ⟨none,.p1 (fun x=>AB Try.prog 91 x 6),[.loc 0],.push,[]⟩,
 ⟨none,.r1 (fun s a=>AD Try.prog s 23 a),[.loc 0],.push,[]⟩,
 ⟨none,.p2 (AC Try.prog 23),[.loc 0,.var 6],.push,[]⟩,
 ⟨none,.r1 (fun s a=>AD Try.prog s 3 a),[.loc 0],.push,[]⟩,
 ⟨none,.p2 (AL Try.prog .mul 3),[.var 6,.loc 0],.push,[]⟩,
 ⟨none,.call 71,[(.var 0),(.loc 0),(.const (.ptr none))],.push,[]⟩]
def DO:Ac:=(.seq (.seq (.ops US) (.cond (.var 8)
 .skip
 (.exit 0))) (.block 1 (.seq (.seq (.ops YX) (.seq (.ops PV) (.cond (.var 9)
 (.seq (.block 2 (.seq (.ops YY) (.cond (.var 10)
 (.ops SO)
 (.seq (.ops LC) (.cond (.var 11)
 (.seq (.ops SP) (.seq (.ops SQ) .ret))
 (.seq (.ops SR) (.seq (.ops SS) (.ops ST)))))))) (.exit 1))
 .skip))) (.seq (.seq (.ops SU) (.cond (.var 12)
 (.seq (.ops SV) (.seq (.ops SW) (.seq (.ops SX) (.seq (.ops SY) (.exit 1)))))
 .skip)) (.seq (.ops SZ) (.seq (.seq (.ops LD) (.cond (.var 13)
 (.seq (.ops Sa) (.seq (.ops Sb) (.seq (.ops Sc) .ret)))
 .skip)) (.seq (.ops Sd) (.ops Se))))))))
def Sg:List AA:=[
 ⟨none,.p1 some,[(.const (.int .i64 (0)))],(.set 2),[]⟩]
def ov:Aw:=⟨2,14,(.seq (.ops YS) (.seq (.seq (.ops YT) (.cond (.var 7)
 (.seq (.ops nq) .ret)
 .skip)) (.seq (.ops YU) (.seq (.ops YV) (.seq (.seq (.ops YW) (.block 0 (.loop DO))) (.seq (.ops Sg) .ret)))))),[((.var 2),none)]⟩
def Yh:List AA:=[
 ⟨none,.p1 some,[(.const (.bool false))],(.set 2),[]⟩]
def Yi:List AA:=[
 ⟨none,.p2 (AL Try.prog .neq 44),[(.var 0),(.const (.ptr none))],.push,[]⟩,
 ⟨(some ((.loc 0),true)),.p1 some,[.var 1],.push,[]⟩,
 ⟨(some ((.loc 1),true)),.p2 (AL Try.prog .gtr 3),[(.loc 0),(.const (.int .i64 (0)))],.push,[]⟩,
 ⟨none,.p Rn,[(.loc 2),(.loc 0),(.const (.bool false))],.push,[]⟩,
 ⟨(some ((.loc 0),true)),.p1 some,[.var 1],.push,[]⟩,
 ⟨(some ((.loc 1),true)),.p1 some,[.var 0],.push,[]⟩,
 ⟨(some ((.loc 2),true)),.p1 AE,[.loc 0],.push,[]⟩,
 ⟨(some ((.loc 3),true)),.p1 (fun x=>AB Try.prog 91 x 11),[.loc 0],.push,[]⟩,
 ⟨(some ((.loc 4),true)),.r1 (fun s a=>AD Try.prog s 23 a),[.loc 0],.push,[]⟩,
 ⟨(some ((.loc 5),true)),.r (fun s l=>match l with | [x]=>Aq Try.prog s 23 x | _=>none),[.loc 0],.push,[]⟩,
 ⟨(some ((.loc 6),true)),.p2 (AL Try.prog .lss 3),[.loc 5,.loc 0],.push,[]⟩,
 ⟨none,.p Rn,[(.loc 7),(.loc 0),(.const (.bool false))],.push,[]⟩,
 ⟨(some ((.loc 0),true)),.p1 some,[.var 0],.push,[]⟩,
 ⟨(some ((.loc 1),true)),.p1 AE,[.loc 0],.push,[]⟩,
 ⟨(some ((.loc 2),true)),.p1 (fun x=>AB Try.prog 91 x 11),[.loc 0],.push,[]⟩,
 ⟨(some ((.loc 3),true)),.r1 (fun s a=>AD Try.prog s 23 a),[.loc 0],.push,[]⟩,
 ⟨(some ((.loc 4),true)),.p1 some,[.var 1],.push,[]⟩,
 ⟨(some ((.loc 5),true)),.p2 (AC Try.prog 23),[.loc 1,.loc 0],.push,[]⟩,
 ⟨(some ((.loc 6),true)),.r1 (fun s a=>AD Try.prog s 3 a),[.loc 0],.push,[]⟩,
 ⟨(some ((.loc 7),true)),.p2 (AL Try.prog .gtr 3),[(.loc 0),(.const (.int .i64 (0)))],.push,[]⟩,
 ⟨none,.p Rn,[(.loc 8),(.loc 0),(.const (.bool false))],.push,[]⟩,
 ⟨none,.p1 some,[.loc 0],(.set 2),[]⟩]
def oz:Aw:=⟨2,3,(.seq (.ops Yh) (.seq (.ops Yi) .ret)),[((.var 2),none)]⟩
def gO:List AA:=[
 ⟨none,.p1 some,[(.const (.slice none 0 (some 0)))],(.set 1),[]⟩]
def gP:List AA:=[
 ⟨none,.p2 (AL Try.prog .eql 44),[(.var 0),(.const (.ptr none))],(.set 3),[]⟩]
def nw:List AA:=[
 ⟨none,.p1 some,[(.const (.slice none 0 (some 0)))],(.set 1),[]⟩]
def gQ:List AA:=[
 ⟨none,.p1 AE,[.var 0],.push,[]⟩,
 ⟨none,.p1 (fun x=>AB Try.prog 91 x 12),[.loc 0],.push,[]⟩,
 ⟨none,.r1 (fun s a=>AD Try.prog s 33 a),[.loc 0],(.set 4),[]⟩,
 ⟨none,.r (fun s l=>match l with | [x]=>Aq Try.prog s 33 x | _=>none),[.var 4],(.set 5),[]⟩,
 ⟨none,.p1 some,[(.const (.int .i64 (0)))],(.set 6),[]⟩]
def Yj:List AA:=[
 ⟨none,.p2 (AL Try.prog .lss 3),[.var 6,.var 5],(.set 7),[]⟩]
def gR:List AA:=[
 ⟨none,.p2 (AC Try.prog 33),[.var 4,.var 6],.push,[]⟩,
 ⟨none,.r1 (fun s a=>AD Try.prog s 27 a),[.loc 0],.push,[]⟩,
 ⟨none,.mk (fun l=>match l with | []=>Bi Try.prog 27 | _=>none),[],(.set 2),[]⟩,
 ⟨none,.e (fun s=>BV (fun a x=>AU (AM Try.prog s 27 a x))),[.var 2,.loc 0],.push,[]⟩]
def gS:List AA:=[
 ⟨none,.p1 some,[.var 1],.push,[]⟩,
 ⟨none,.p1 (fun x=>AB Try.prog 27 x 0),[.var 2],.push,[]⟩,
 ⟨none,.r1 (fun s a=>AD Try.prog s 4 a),[.loc 0],.push,[]⟩,
 ⟨none,.p1 (fun x=>AB Try.prog 27 x 1),[.var 2],.push,[]⟩,
 ⟨none,.r1 (fun s a=>AD Try.prog s 23 a),[.loc 0],.push,[]⟩,
 ⟨none,.call 60,[.loc 0],.push,[⟨none,.r1 (fun s a=>AD Try.prog s 4 a),[.loc 4],(.loc 3)⟩]⟩,
 ⟨none,.p (fun l=>Bz Try.prog 27 (zipIdx [0,1] l)),[.loc 3,.loc 0],.push,[]⟩,
 ⟨none,.mk (fun l=>(Ae Try.prog 33 1 (zipIdx [0] l)).bind fun r=>some (r,.slice 1)),[.loc 0],.push,[]⟩,
 ⟨none,.e (fun s l=>Af Try.prog s [33,33] l),[.loc 7,.loc 0],.push,[]⟩,
 ⟨none,.p1 some,[.loc 0],(.set 1),[]⟩]
def gT:List AA:=[
 ⟨none,.p2 (AL Try.prog .add 3),[(.var 6),(.const (.int .i64 (1)))],.push,[]⟩,
 ⟨none,.p1 some,[.loc 0],(.set 6),[]⟩]
def PW:Ac:=(.seq (.ops Yj) (.seq (.cond (.var 7)
 .skip
 (.exit 0)) (.seq (.block 1 (.seq (.ops gR) (.ops gS))) (.ops gT))))
def Yk:List AA:=[
 ⟨none,.p1 some,[.var 1],.push,[]⟩,
 ⟨none,.p1 some,[.loc 0],(.set 1),[]⟩]
def mq:Aw:=⟨1,8,(.seq (.ops gO) (.seq (.seq (.ops gP) (.cond (.var 3)
 (.seq (.ops nw) .ret)
 .skip)) (.seq (.seq (.ops gQ) (.block 0 (.loop PW))) (.seq (.ops Yk) .ret)))),[((.var 1),none)]⟩
theorem mD:AS Try.prog 90=some qA:=by kernel_rfl
theorem mE:AS Try.prog 91=some pH:=by kernel_rfl
theorem ly:AS Try.prog 77=some pE:=by kernel_rfl
theorem lm:AS Try.prog 71=some pq:=by kernel_rfl
theorem lz:AS Try.prog 78=some px:=by kernel_rfl
theorem lZ:AS Try.prog 63=some pA:=by kernel_rfl
theorem lf:AS Try.prog 65=some pB:=by kernel_rfl
theorem lS:AS Try.prog 47=some pf:=by kernel_rfl
theorem lR:AS Try.prog 46=some pe:=by kernel_rfl
theorem lM:AS Try.prog 40=some pZ:=by kernel_rfl
theorem lk:AS Try.prog 68=some po:=by kernel_rfl
theorem aN:AS Try.prog 69=some pC:=by kernel_rfl
theorem ll:AS Try.prog 70=some pp:=by kernel_rfl
theorem mM:AS Try.prog 99=some pI:=by kernel_rfl
theorem lp:AS Try.prog 72=some pr:=by kernel_rfl
theorem lq:AS Try.prog 73=some pD:=by kernel_rfl
theorem di:AS Try.prog 100=some nQ:=by kernel_rfl
theorem dj:AS Try.prog 101=some nR:=by kernel_rfl
theorem dx:AS Try.prog 113=some nY:=by kernel_rfl
theorem lr:AS Try.prog 74=some pt:=by kernel_rfl
theorem lw:AS Try.prog 75=some pu:=by kernel_rfl
theorem lx:AS Try.prog 76=some pw:=by kernel_rfl
theorem dk:AS Try.prog 102=some nS:=by kernel_rfl
theorem dy:AS Try.prog 114=some km:=by kernel_rfl
theorem lK:AS Try.prog 36=some oS:=by kernel_rfl
theorem du:AS Try.prog 110=some nV:=by kernel_rfl
theorem mF:AS Try.prog 92=some oU:=by kernel_rfl
theorem la:AS Try.prog 64=some pl:=by kernel_rfl
theorem mG:AS Try.prog 93=some qB:=by kernel_rfl
theorem dv:AS Try.prog 111=some nW:=by kernel_rfl
theorem lj:AS Try.prog 67=some pn:=by kernel_rfl
theorem ml:Fx Try.prog 67=[0,1,2,4,5,6,7,8,9,10,11,13,14,15,25,26,45,70,87,121,131]:=by kernel_rfl
theorem pJ:Hw Try.prog 67 ol=some oA:=by kernel_rfl
theorem pK:Hw Try.prog 67 oq=some oB:=by kernel_rfl
theorem mI:AS Try.prog 95=some qD:=by kernel_rfl
theorem lg:AS Try.prog 66=some pm:=by kernel_rfl
theorem aM:AS Try.prog 34=some ov:=by kernel_rfl
theorem lO:AS Try.prog 41=some oz:=by kernel_rfl
theorem lP:AS Try.prog 43=some mq:=by kernel_rfl
end
end Go.Proofs.Ytilhhmkdcoajnaa.Am
