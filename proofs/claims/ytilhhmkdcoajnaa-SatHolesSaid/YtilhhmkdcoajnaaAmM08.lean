/- The library's Compact, once more: what is left may be written; its stable sort of short rows, its ContainsFunc, Contains; the solver's bare; conditions: twelve literals at most. -/
import Derived.Test.YtilhhmkdcoajnaaAmM07
import Derived.Test.YtilhhmkdcoajnaaAmM04
set_option linter.unusedVariables false
set_option linter.unusedSimpArgs false
set_option maxRecDepth 16000
namespace Go.Proofs.Ytilhhmkdcoajnaa.Am
open Go Go.Proofs
noncomputable section
def Ce(lo:Nat)(s:AG)(v:AV)(L:List Int):Prop:=(∃a,v=.slice a 0 (some 0)∧L=[])∨∃i G,v=.slice (some (i,0)) L.length none∧lo≤i∧i<s.next∧Bq s i (A3 L++G)
theorem Ce.slice{lo:Nat}{s:AG}{v:AV}{L:List Int}(h:Ce lo s v L):Ae s.next s v (A3 L):=by
  rcases h with⟨a,rfl,rfl⟩ | ⟨i,G,rfl,h1,h2,h3⟩
  · exact⟨a,some 0,rfl,BM.nil⟩
  · refine ⟨some (i, 0), none, by simp, fun k u hk => ⟨i, 0, rfl, h2, ?_⟩⟩
    rw[lD]
    exact h3.load1 (by rw[lG (Af hk)];exact hk)
theorem Ce.self{lo:Nat}{s:AG}{v:AV}{L:List Int}(h:Ce lo s v L):Fs v v=true:=by
 rcases h with⟨a,rfl,rfl⟩ | ⟨i,G,rfl,_⟩<;>exact Ey
theorem Ce.keep{lo:Nat}{s s':AG}{v:AV}{L:List Int}(h:Ce lo s v L)(hn:s.next≤s'.next)(hf:∀j,lo≤j→j<s.next→s'.heap.get j=s.heap.get j):Ce lo s' v L:=by
 rcases h with h | ⟨i,G,e,h1,h2,h3⟩
 ·exact .inl h
 ·exact .inr ⟨i,G,e,h1,by omega,h3.keep (hf i h1 h2)⟩
def Ii:AV→Option Nat
 | .slice (some (i,_)) _ none=>some i
 | _=>none
theorem Ce.buf{lo:Nat}{s:AG}{v:AV}{L:List Int}(h:Ce lo s v L)(hL:L≠[]){ow:Ow}{T:BT}(ht:∀i,lo≤i→i<s.next→Ii v=some i→ow i=T):BO ow T s v (A3 L):=by
  rcases h with⟨a,rfl,e⟩ | ⟨i,G,rfl,h1,h2,r,g1,g2,g3,g4,g5⟩
  · exact absurd e hL
  · have hp : 0 < L.length := List.length_pos_iff.2 hL
    have hr:r.n=L.length+G.length:=by rw[g2.1];simp
    exact .inr ⟨i,0,none,r,by rw[EG],⟨g1,ht i h1 h2 rfl,h2,g3,g5,fun p hp=>by rw[g4]at hp;cases hp⟩,fun k u hk=>by rw[lD];exact g2.2 k u (by rw[lG (Af hk)];exact hk),by rw[EG];omega,⟨rfl,by omega⟩⟩
theorem Xb       {E : BJ}  (hE : Good E) {lo : Nat} {s : AG}  {v : AV} {L : List Int} (h : Dz     lo s v L) (hL : L.length ≤ 1000) :
    WF E 88 [v] (fun r s'=>Ce lo s' r (JV L)∧(∀i,Ii r=some i→Ii v=some i)∧s'.next=s.next∧∀z,Ii v≠some z→s'.heap.get z=s.heap.get z) s:=by
  refine hE.go gL (by decide) rfl ?_
  by_cases hlt:L.length<2
  · have hd : decide ((L.length : Int) < 2) = true := decide_eq_true (by omega)
    have hc:JV L=L:=by
      cases L with
      | nil=>rfl
      | cons x r=>cases r with
        | nil=>rfl
        | cons y r=>simp at hlt;omega
    simp only[ju,W1,W2,dS,h.len,hd,Qa,Qb,Qc,Qd,Qe,Qf,Qg,Qh,Qi,Qj,Qk,Ql,Qm,Qn,true_and,and_true,Qo,Qp,Qq,Qr,Qs,Qt,Qu,Qv,Qw,Qx,Qy,Qz,Ra,Rb,Rc,Rd,Re,Rf,Rg,Rh,Ri,Rj,Rk,Rl,Rm,Ya,Yb,Yc,Rn,Ro,Rp,Yd,Ye,Rq,Rs,Rt,Ru,Rv,Rw,Rx]
    rw[hc]
    refine⟨?_,fun _ q=>q,fun _ _=>trivial⟩
    rcases h with⟨a,rfl,rfl⟩ | ⟨i,rfl,h1,h2,h3⟩
    · exact .inl ⟨a,rfl,rfl⟩
    · exact .inr ⟨i,[],rfl,h1,h2,by simpa using h3⟩
  · have hd:decide ((L.length:Int)<2)=false:=decide_eq_false (by omega)
    rcases h with⟨a,rfl,rfl⟩ | ⟨i,rfl,h1,h2,h3⟩
    · simp at hlt
    cases L with
    | nil=>simp at hlt
    | cons y R =>
      simp only[ju,W1,W2,dT,BV Try.underlying23,hd,Qa,Qb,Qc,Qd,Qe,Qf,Qg,Qh,Qi,Qj,Qk,Ql,Qm,Qn,true_and,and_true,Qo,Qp,Qq,Qr,Qs,Qt,Qu,Qv,Qw,Qx,Qy,Qz,Ra,Rb,Rc,Rd,Re,Rf,Rg,Rh,Ri,Rj,Rk,Rl,Rm,Ya,Yb,Yc,Rn,Ro,Rp,Yd,Ye,Rq,Rs,Rt,Ru,Rv,Rw,Rx]
      refine Xc hE (n:=(y::R).length) h1 hL (.slice none 0 (some 0)) _ R [] y s _ _ _ _ _ _ (by simp;omega) h3 ?_
      rintro e s' W' G' y1 y2 y3 y4 y6 y7 y8 y9 (⟨rfl,rfl⟩ | ⟨rfl,rfl,hl⟩) f2 f3 f4 f5
      · simp only[Qa,Qb,Qc,Qd,Qe,Qf,Qg,Qh,Qi,Qj,Qk,Ql,Qm,Qn,true_and,and_true,Qo,Qp,Qq,Qr,Qs,Qt,Qu,Qv,Qw,Qx,Qy,Qz,Ra,Rb,Rc,Rd,Re,Rf,Rg,Rh,Ri,Rj,Rk,Rl,Rm,Ya,Yb,Yc,Rn,Ro,Rp,Yd,Ye,Rq,Rs,Rt,Ru,Rv,Rw,Rx]
        rw[show JV (y::R)=W' from f2.symm]
        exact⟨.inr ⟨i,G',rfl,h1,by omega,f3⟩,fun _ q=>q,f4,fun z hz=>f5 z fun e=>hz (by rw[e];rfl)⟩
      · simp only[W5,if_true,Qa,Qb,Qc,Qd,Qe,Qf,Qg,Qh,Qi,Qj,Qk,Ql,Qm,Qn,true_and,and_true,Qo,Qp,Qq,Qr,Qs,Qt,Qu,Qv,Qw,Qx,Qy,Qz,Ra,Rb,Rc,Rd,Re,Rf,Rg,Rh,Ri,Rj,Rk,Rl,Rm,Ya,Yb,Yc,Rn,Ro,Rp,Yd,Ye,Rq,Rs,Rt,Ru,Rv,Rw,Rx]
        rw[show JV (y::R)=W' from f2.symm]
        exact⟨.inr ⟨i,G',by rw[hl],h1,by omega,f3⟩,fun _ q=>q,f4,fun z hz=>f5 z fun e=>hz (by rw[e];rfl)⟩
theorem aZ      {E : BJ}  (hE : Good E) {lo : Nat} {s : AG}  {v : AV} {L : List Int} (h : Dz     lo s v L) (hL : L.length ≤ 12) :
    WF E 87 [v] (fun r s'=>Dz lo s' v (GK L)∧s'.next=s.next∧∀z,Ii v≠some z→s'.heap.get z=s.heap.get z) s:=by
  have h117:WF E 117 [v,iv 0,iv (L.length:Int)] (fun r s'=>Dz lo s' v (GK L)∧s'.next=s.next∧∀z,Ii v≠some z→s'.heap.get z=s.heap.get z) s:=by
    refine hE.go Zx (by decide) rfl ?_
    have e3:=Ao Try.prog 3 0 1 ⟨by omega,by omega⟩
    have e4:(0:Int)+1=1:=rfl
    rcases h with⟨a,rfl,rfl⟩ | ⟨i,rfl,h1,h2,h3⟩
    · simp only[fS,Px,e3,e4,lm,show((0:Nat):Int)=0 from rfl,Qa,Qb,Qc,Qd,Qe,Qf,Qg,Qh,Qi,Qj,Qk,Ql,Qm,Qn,true_and,and_true,Qo,Qp,Qq,Qr,Qs,Qt,Qu,Qv,Qw,Qx,Qy,Qz,Ra,Rb,Rc,Rd,Re,Rf,Rg,Rh,Ri,Rj,Rk,Rl,Rm,Ya,Yb,Yc,Rn,Ro,Rp,Yd,Ye,Rq,Rs,Rt,Ru,Rv,Rw,Rx]
      refine WC.loop' ?_
      simp only[HU,KT,show decide ((1:Int)<0)=false from rfl,if_true,Qa,Qb,Qc,Qd,Qe,Qf,Qg,Qh,Qi,Qj,Qk,Ql,Qm,Qn,true_and,and_true,Qo,Qp,Qq,Qr,Qs,Qt,Qu,Qv,Qw,Qx,Qy,Qz,Ra,Rb,Rc,Rd,Re,Rf,Rg,Rh,Ri,Rj,Rk,Rl,Rm,Ya,Yb,Yc,Rn,Ro,Rp,Yd,Ye,Rq,Rs,Rt,Ru,Rv,Rw,Rx]
      exact⟨.inl ⟨a,rfl,rfl⟩,fun _ _=>trivial⟩
    · simp only[fS,Px,e3,e4,Qa,Qb,Qc,Qd,Qe,Qf,Qg,Qh,Qi,Qj,Qk,Ql,Qm,Qn,true_and,and_true,Qo,Qp,Qq,Qr,Qs,Qt,Qu,Qv,Qw,Qx,Qy,Qz,Ra,Rb,Rc,Rd,Re,Rf,Rg,Rh,Ri,Rj,Rk,Rl,Rm,Ya,Yb,Yc,Rn,Ro,Rp,Yd,Ye,Rq,Rs,Rt,Ru,Rv,Rw,Rx]
      cases L with
      | nil =>
        refine WC.loop' ?_
        simp only[HU,KT,lm,show((0:Nat):Int)=0 from rfl,show decide ((1:Int)<0)=false from rfl,if_true,Qa,Qb,Qc,Qd,Qe,Qf,Qg,Qh,Qi,Qj,Qk,Ql,Qm,Qn,true_and,and_true,Qo,Qp,Qq,Qr,Qs,Qt,Qu,Qv,Qw,Qx,Qy,Qz,Ra,Rb,Rc,Rd,Re,Rf,Rg,Rh,Ri,Rj,Rk,Rl,Rm,Ya,Yb,Yc,Rn,Ro,Rp,Yd,Ye,Rq,Rs,Rt,Ru,Rv,Rw,Rx]
        exact⟨.inr ⟨i,rfl,h1,h2,h3⟩,fun _ _=>trivial⟩
      | cons x T =>
        refine Yl hE h1 (n:=(x::T).length) (by omega) T [x] s 1 _ _ _ rfl (by simp;omega) h3 ?_
        intro s' y3 y4 y5 y6 g1 g2 g3
        simp only[if_true,Qa,Qb,Qc,Qd,Qe,Qf,Qg,Qh,Qi,Qj,Qk,Ql,Qm,Qn,true_and,and_true,Qo,Qp,Qq,Qr,Qs,Qt,Qu,Qv,Qw,Qx,Qy,Qz,Ra,Rb,Rc,Rd,Re,Rf,Rg,Rh,Ri,Rj,Rk,Rl,Rm,Ya,Yb,Yc,Rn,Ro,Rp,Yd,Ye,Rq,Rs,Rt,Ru,Rv,Rw,Rx]
        exact⟨.inr ⟨i,by rw[JK],h1,by omega,g1⟩,g2,fun z hz=>g3 z fun e=>hz (by rw[e];rfl)⟩
  have h108:∀m:Int,WF E 108 [v,iv 0,iv (L.length:Int),iv m] (fun r s'=>Dz lo s' v (GK L)∧s'.next=s.next∧∀z,Ii v≠some z→s'.heap.get z=s.heap.get z) s:=by
    intro m
    refine hE.go Zq (by decide) rfl ?_
    have e3:=EF Try.prog 3 (L.length:Int) 0 ⟨by omega,by omega⟩
    have e4:(L.length:Int) - 0=(L.length:Int):=by omega
    have e5:decide ((L.length:Int)≤12)=true:=decide_eq_true (by omega)
    simp only[iU,U6,U7,Qa,Qb,Qc,Qd,Qe,Qf,Qg,Qh,Qi,Qj,Qk,Ql,Qm,Qn,true_and,and_true,Qo,Qp,Qq,Qr,Qs,Qt,Qu,Qv,Qw,Qx,Qy,Qz,Ra,Rb,Rc,Rd,Re,Rf,Rg,Rh,Ri,Rj,Rk,Rl,Rm,Ya,Yb,Yc,Rn,Ro,Rp,Yd,Ye,Rq,Rs,Rt,Ru,Rv,Rw,Rx]
    refine WC.loop' ?_
    generalize WC E none (Aa.loop M1) _=W
    simp only[M1,U8,U9,VA,e3,e4,e5,Qa,Qb,Qc,Qd,Qe,Qf,Qg,Qh,Qi,Qj,Qk,Ql,Qm,Qn,true_and,and_true,Qo,Qp,Qq,Qr,Qs,Qt,Qu,Qv,Qw,Qx,Qy,Qz,Ra,Rb,Rc,Rd,Re,Rf,Rg,Rh,Ri,Rj,Rk,Rl,Rm,Ya,Yb,Yc,Rn,Ro,Rp,Yd,Ye,Rq,Rs,Rt,Ru,Rv,Rw,Rx]
    refine h117.mono ?_
    rintro r s' h'
    simp only[Qa,Qb,Qc,Qd,Qe,Qf,Qg,Qh,Qi,Qj,Qk,Ql,Qm,Qn,true_and,and_true,Qo,Qp,Qq,Qr,Qs,Qt,Qu,Qv,Qw,Qx,Qy,Qz,Ra,Rb,Rc,Rd,Re,Rf,Rg,Rh,Ri,Rj,Rk,Rl,Rm,Ya,Yb,Yc,Rn,Ro,Rp,Yd,Ye,Rq,Rs,Rt,Ru,Rv,Rw,Rx]
    exact h'
  refine hE.go gK (by decide) rfl ?_
  simp only[kc,dQ,dR,h.len,Xe hL,Qa,Qb,Qc,Qd,Qe,Qf,Qg,Qh,Qi,Qj,Qk,Ql,Qm,Qn,true_and,and_true,Qo,Qp,Qq,Qr,Qs,Qt,Qu,Qv,Qw,Qx,Qy,Qz,Ra,Rb,Rc,Rd,Re,Rf,Rg,Rh,Ri,Rj,Rk,Rl,Rm,Ya,Yb,Yc,Rn,Ro,Rp,Yd,Ye,Rq,Rs,Rt,Ru,Rv,Rw,Rx]
  refine(gg hE L.length hL).mono ?_
  rintro _ _ ⟨⟨m,rfl⟩,rfl⟩
  simp only[Qa,Qb,Qc,Qd,Qe,Qf,Qg,Qh,Qi,Qj,Qk,Ql,Qm,Qn,true_and,and_true,Qo,Qp,Qq,Qr,Qs,Qt,Qu,Qv,Qw,Qx,Qy,Qz,Ra,Rb,Rc,Rd,Re,Rf,Rg,Rh,Ri,Rj,Rk,Rl,Rm,Ya,Yb,Yc,Rn,Ro,Rp,Yd,Ye,Rq,Rs,Rt,Ru,Rv,Rw,Rx]
  refine(h108 m).mono ?_
  rintro r s' h'
  simp only[Qa,Qb,Qc,Qd,Qe,Qf,Qg,Qh,Qi,Qj,Qk,Ql,Qm,Qn,true_and,and_true,Qo,Qp,Qq,Qr,Qs,Qt,Qu,Qv,Qw,Qx,Qy,Qz,Ra,Rb,Rc,Rd,Re,Rf,Rg,Rh,Ri,Rj,Rk,Rl,Rm,Ya,Yb,Yc,Rn,Ro,Rp,Yd,Ye,Rq,Rs,Rt,Ru,Rv,Rw,Rx]
  exact h'
theorem F0{E:BJ}(hE:Good E){s:AG}{b:Nat}{L:List Int}{f:Int→Bool}{g:FuncId}{cp:List AV}(hg:∀q∈L,WF E g (iv q::cp) (fun r s'=>r=.bool (f q)∧s=s') s)(hlen:L.length<9223372036854775808){v:AV}(hv:Ae b s v (A3 L)):
  WF E 72 [v,.func g [] cp] (fun r s'=>r=.bool (A9 f L 0).isSome∧s=s') s:=by
 refine hE.go gD (by decide) rfl ?_
 simp only[kW,dD,dE,Qa,Qb,Qc,Qd,Qe,Qf,Qg,Qh,Qi,Qj,Qk,Ql,Qm,Qn,true_and,and_true,Qo,Qp,Qq,Qr,Qs,Qt,Qu,Qv,Qw,Qx,Qy,Qz,Ra,Rb,Rc,Rd,Re,Rf,Rg,Rh,Ri,Rj,Rk,Rl,Rm,Ya,Yb,Yc,Rn,Ro,Rp,Yd,Ye,Rq,Rs,Rt,Ru,Rv,Rw,Rx]
 refine(MI hE hg hlen hv).mono ?_
 rintro _ _ ⟨rfl,rfl⟩
 cases hf:A9 f L 0 with
 | none=>simp only[I5,show decide ((0:Int)≤-1)=false from rfl,Option.isSome,Qa,Qb,Qc,Qd,Qe,Qf,Qg,Qh,Qi,Qj,Qk,Ql,Qm,Qn,true_and,and_true,Qo,Qp,Qq,Qr,Qs,Qt,Qu,Qv,Qw,Qx,Qy,Qz,Ra,Rb,Rc,Rd,Re,Rf,Rg,Rh,Ri,Rj,Rk,Rl,Rm,Ya,Yb,Yc,Rn,Ro,Rp,Yd,Ye,Rq,Rs,Rt,Ru,Rv,Rw,Rx]
 | some i=>simp only[I5,show decide ((0:Int)≤(i:Int))=true from decide_eq_true (by omega),Option.isSome,Qa,Qb,Qc,Qd,Qe,Qf,Qg,Qh,Qi,Qj,Qk,Ql,Qm,Qn,true_and,and_true,Qo,Qp,Qq,Qr,Qs,Qt,Qu,Qv,Qw,Qx,Qy,Qz,Ra,Rb,Rc,Rd,Re,Rf,Rg,Rh,Ri,Rj,Rk,Rl,Rm,Ya,Yb,Yc,Rn,Ro,Rp,Yd,Ye,Rq,Rs,Rt,Ru,Rv,Rw,Rx]
theorem Cp{f:Int→Bool}:∀ {L:List Int}{k:Nat},(A9 f L k).isSome=true↔∃q∈L,f q=true
 | [],k=>by simp[A9]
 | x::L,k=>by
  unfold A9
  by_cases h:f x=true
  ·simp[h]
  ·rw[if_neg h,Cp]
   simp[h]
theorem X0{E:BJ}(hE:Good E){s:AG}{b:Nat}{L:List Int}{y:Int}(hlen:L.length<9223372036854775808){a:Option (Nat×Nat)}{cap:Option Nat}(hc:BM b s a (A3 L)){Q:Ar→Prop}(x2:AV):
    ∀ (l : List Int) (k : Nat) (x3 x6 x7 : AV), L.drop k = l → k ≤ L.length →
      (A9 (fun q=>decide (y=q)) l k=none→∀ (y3 y5 y6 y7:AV),Q ⟨.exit 0,[.slice a L.length cap,iv y,x2,y3,iv (L.length:Int),y5,y6,y7],[],s⟩) →
      (∀i,A9 (fun q=>decide (y=q)) l k=some i→∀ (y3 y5 y6 y7:AV),Q ⟨.ret,[.slice a L.length cap,iv y,iv (i:Int),y3,iv (L.length:Int),y5,y6,y7],[],s⟩) →
      WC E none (.loop Ik) Q [.slice a L.length cap,iv y,x2,x3,iv (L.length:Int),iv (k:Int),x6,x7] [] s:=by
  intro l
  induction l with
  | nil =>
    intro k x3 x6 x7 hd hk hq _
    have:=Fd hd hk
    subst this
    refine WC.loop' ?_
    simp only[Ik,M6,lT,decide_false,Qa,Qb,Qc,Qd,Qe,Qf,Qg,Qh,Qi,Qj,Qk,Ql,Qm,Qn,true_and,and_true,Qo,Qp,Qq,Qr,Qs,Qt,Qu,Qv,Qw,Qx,Qy,Qz,Ra,Rb,Rc,Rd,Re,Rf,Rg,Rh,Ri,Rj,Rk,Rl,Rm,Ya,Yb,Yc,Rn,Ro,Rp,Yd,Ye,Rq,Rs,Rt,Ru,Rv,Rw,Rx]
    exact hq rfl _ _ _ _
  | cons x l ih =>
    intro k x3 x6 x7 hd hk hq hr
    obtain⟨hlt,hx,hd'⟩:=DP hd
    obtain⟨i,o,rfl,hi,hload⟩:=hc k _ (Av hx)
    have e1:=Bc (cap:=cap) (i:=i) (o:=o) Try.underlying23 Be hlt
    have e2:AC Try.prog s 3 (.ptr (some (i,o+k * 1)))=some (iv x):=CG Df (by rw[lY];exact hload)
    have hkk:decide ((k:Int)<(L.length:Int))=true:=decide_eq_true (by omega)
    have e3:=Ao Try.prog 3 (k:Int) 1 ⟨by omega,by omega⟩
    have e3':((k:Int)+1)=((k+1:Nat):Int):=by omega
    refine WC.loop' ?_
    generalize hW:WC E none (Aa.loop Ik) Q=WW
    by_cases hf:y=x
    · have ef : A9     (fun q => decide (y = q)) (x :: l) k = some k := by unfold A9;     rw [if_pos (decide_eq_true hf)]
      have NP:decide (y=x)=true:=decide_eq_true hf
      simp only[Ik,M6,Pt,Pu,hkk,e1,e2,NP,VW,Qa,Qb,Qc,Qd,Qe,Qf,Qg,Qh,Qi,Qj,Qk,Ql,Qm,Qn,true_and,and_true,Qo,Qp,Qq,Qr,Qs,Qt,Qu,Qv,Qw,Qx,Qy,Qz,Ra,Rb,Rc,Rd,Re,Rf,Rg,Rh,Ri,Rj,Rk,Rl,Rm,Ya,Yb,Yc,Rn,Ro,Rp,Yd,Ye,Rq,Rs,Rt,Ru,Rv,Rw,Rx]
      exact hr k ef _ _ _ _
    · have NP  : decide (y = x) = false := decide_eq_false hf
      have ef:A9 (fun q=>decide (y=q)) (x::l) k=A9 (fun q=>decide (y=q)) l (k+1):=by rw[A9,if_neg (by rw[NP];decide)]
      simp only[Ik,M6,Pt,Pu,hkk,e1,e2,NP,VX,e3,e3',Qa,Qb,Qc,Qd,Qe,Qf,Qg,Qh,Qi,Qj,Qk,Ql,Qm,Qn,true_and,and_true,Qo,Qp,Qq,Qr,Qs,Qt,Qu,Qv,Qw,Qx,Qy,Qz,Ra,Rb,Rc,Rd,Re,Rf,Rg,Rh,Ri,Rj,Rk,Rl,Rm,Ya,Yb,Yc,Rn,Ro,Rp,Yd,Ye,Rq,Rs,Rt,Ru,Rv,Rw,Rx]
      rw[← hW]
      rw[ef]at hq hr
      exact ih (k+1) _ _ _ hd' hlt hq hr
theorem OS{E:BJ}(hE:Good E){s:AG}{b:Nat}{L:List Int}{y:Int}(hlen:L.length<9223372036854775808){v:AV}(hv:Ae b s v (A3 L)):
  WF E 101 [v,iv y] (fun r s'=>r=.bool (decide (y∈L))∧s=s') s:=by
 obtain⟨a,cap,rfl,hc⟩:=hv
 rw[EG]
 have hmem:(A9 (fun q=>decide (y=q)) L 0).isSome=decide (y∈L):=by
  rw[Bool.eq_iff_iff,Cp]
  simp
 have ix:WF E 113 [.slice a L.length cap,iv y] (fun r s'=>r=I5 (A9 (fun q=>decide (y=q)) L 0)∧s=s') s:=by
  refine hE.go Zv (by decide) rfl ?_
  simp only[iZ,VU,VV,BV Try.underlying23,Qa,Qb,Qc,Qd,Qe,Qf,Qg,Qh,Qi,Qj,Qk,Ql,Qm,Qn,true_and,and_true,Qo,Qp,Qq,Qr,Qs,Qt,Qu,Qv,Qw,Qx,Qy,Qz,Ra,Rb,Rc,Rd,Re,Rf,Rg,Rh,Ri,Rj,Rk,Rl,Rm,Ya,Yb,Yc,Rn,Ro,Rp,Yd,Ye,Rq,Rs,Rt,Ru,Rv,Rw,Rx]
  refine X0 hE hlen hc _ L 0 _ _ _ rfl (ku _) ?_ ?_
  ·intro hn y3 y5 y6 y7
   rw[hn]
   simp only[VY,if_true,I5,Qa,Qb,Qc,Qd,Qe,Qf,Qg,Qh,Qi,Qj,Qk,Ql,Qm,Qn,true_and,and_true,Qo,Qp,Qq,Qr,Qs,Qt,Qu,Qv,Qw,Qx,Qy,Qz,Ra,Rb,Rc,Rd,Re,Rf,Rg,Rh,Ri,Rj,Rk,Rl,Rm,Ya,Yb,Yc,Rn,Ro,Rp,Yd,Ye,Rq,Rs,Rt,Ru,Rv,Rw,Rx]
  ·intro i hi y3 y5 y6 y7
   rw[hi]
   simp only[I5,Qa,Qb,Qc,Qd,Qe,Qf,Qg,Qh,Qi,Qj,Qk,Ql,Qm,Qn,true_and,and_true,Qo,Qp,Qq,Qr,Qs,Qt,Qu,Qv,Qw,Qx,Qy,Qz,Ra,Rb,Rc,Rd,Re,Rf,Rg,Rh,Ri,Rj,Rk,Rl,Rm,Ya,Yb,Yc,Rn,Ro,Rp,Yd,Ye,Rq,Rs,Rt,Ru,Rv,Rw,Rx]
 refine hE.go Zo (by decide) rfl ?_
 simp only[iS,Uy,Uz,Qa,Qb,Qc,Qd,Qe,Qf,Qg,Qh,Qi,Qj,Qk,Ql,Qm,Qn,true_and,and_true,Qo,Qp,Qq,Qr,Qs,Qt,Qu,Qv,Qw,Qx,Qy,Qz,Ra,Rb,Rc,Rd,Re,Rf,Rg,Rh,Ri,Rj,Rk,Rl,Rm,Ya,Yb,Yc,Rn,Ro,Rp,Yd,Ye,Rq,Rs,Rt,Ru,Rv,Rw,Rx]
 refine ix.mono ?_
 rintro _ _ ⟨rfl,rfl⟩
 rw[← hmem]
 cases hf:A9 (fun q=>decide (y=q)) L 0 with
 | none=>simp only[I5,show decide ((0:Int)≤-1)=false from rfl,Option.isSome,Qa,Qb,Qc,Qd,Qe,Qf,Qg,Qh,Qi,Qj,Qk,Ql,Qm,Qn,true_and,and_true,Qo,Qp,Qq,Qr,Qs,Qt,Qu,Qv,Qw,Qx,Qy,Qz,Ra,Rb,Rc,Rd,Re,Rf,Rg,Rh,Ri,Rj,Rk,Rl,Rm,Ya,Yb,Yc,Rn,Ro,Rp,Yd,Ye,Rq,Rs,Rt,Ru,Rv,Rw,Rx]
 | some i=>simp only[I5,show decide ((0:Int)≤(i:Int))=true from decide_eq_true (by omega),Option.isSome,Qa,Qb,Qc,Qd,Qe,Qf,Qg,Qh,Qi,Qj,Qk,Ql,Qm,Qn,true_and,and_true,Qo,Qp,Qq,Qr,Qs,Qt,Qu,Qv,Qw,Qx,Qy,Qz,Ra,Rb,Rc,Rd,Re,Rf,Rg,Rh,Ri,Rj,Rk,Rl,Rm,Ya,Yb,Yc,Rn,Ro,Rp,Yd,Ye,Rq,Rs,Rt,Ru,Rv,Rw,Rx]
def Ej(L:List Int):List Int:=JV (GK L)
def Jk(L:List Int):Bool:=(A9 (fun q=>decide (-q∈L)) L 0).isSome
theorem JO{L:List Int}:Jk L=true↔∃q∈L,-q∈L:=by
 unfold Jk
 rw[Cp]
 simp
theorem TY        : ∀ {L : List Int} {z : Int}, z ∈ JV    L → z ∈ L := by
  have h:∀ (l:List Int) (p z:Int),z∈dd p l→z∈l:=by
    intro l
    induction l with
    | nil=>intro p z h;simp[dd]at h
    | cons x l ih =>
      intro p z h
      unfold dd at h
      split at h
      · exact kz _ (ih _ _ h)
      · rcases lM.1            h with e | e
        · rw[e];exact kx ..
        · exact kz _ (ih _ _ e)
  intro L z hz
  cases L with
  | nil=>exact hz
  | cons x r =>
    rcases lM.1 hz with e | e
    · rw[e];exact kx ..
    · exact kz _ (h _ _ _ e)
theorem TX:∀ (L:List Int),(JV L).length≤L.length:=by
 have h:∀ (l:List Int) (p:Int),(dd p l).length≤l.length:=by
  intro l
  induction l with
  | nil=>intro p;simp[dd]
  | cons x l ih =>
   intro p
   unfold dd
   split
   ·have:=ih p;simp;omega
   ·have:=ih x;simp;omega
 intro L
 cases L with
 | nil=>exact kp _
 | cons x r=>have:=h r x;simp[JV];omega
theorem JL(L:List Int)(z:Int):z∈GK L↔z∈L:=by
 unfold GK
 rw[List.mem_reverse,(Kz L (q:=[]) List.Pairwise.nil).2]
 simp
theorem MW{L:List Int}{z:Int}(h:z∈Ej L):z∈L:=(JL L z).1 (TY h)
theorem IP(L:List Int):(Ej L).length≤L.length:=by
 have:=TX (GK L)
 rw[JK]at this
 exact this
theorem Ur{E:BJ}(hE:Good E){s:AG}{b j:Nat}{L:List Int}{v:AV}(hv:Ae b s v (A3 L))(hb:Ak s j v)(hlen:L.length<9223372036854775808){q:Int}(hq:i64 (-q)):
  WF E 100 [iv q,.ptr (some (j,0))] (fun r s'=>r=.bool (decide (-q∈L))∧s=s') s:=by
 have e1:=FT Try.prog q hq
 refine hE.go Zn (by decide) rfl ?_
 simp only[iR,Uw,Ux,hb.load D0,e1,Qa,Qb,Qc,Qd,Qe,Qf,Qg,Qh,Qi,Qj,Qk,Ql,Qm,Qn,true_and,and_true,Qo,Qp,Qq,Qr,Qs,Qt,Qu,Qv,Qw,Qx,Qy,Qz,Ra,Rb,Rc,Rd,Re,Rf,Rg,Rh,Ri,Rj,Rk,Rl,Rm,Ya,Yb,Yc,Rn,Ro,Rp,Yd,Ye,Rq,Rs,Rt,Ru,Rv,Rw,Rx]
 refine(OS hE hlen hv).mono ?_
 rintro _ _ ⟨rfl,rfl⟩
 simp only[Qa,Qb,Qc,Qd,Qe,Qf,Qg,Qh,Qi,Qj,Qk,Ql,Qm,Qn,true_and,and_true,Qo,Qp,Qq,Qr,Qs,Qt,Qu,Qv,Qw,Qx,Qy,Qz,Ra,Rb,Rc,Rd,Re,Rf,Rg,Rh,Ri,Rj,Rk,Rl,Rm,Ya,Yb,Yc,Rn,Ro,Rp,Yd,Ye,Rq,Rs,Rt,Ru,Rv,Rw,Rx]
theorem ZC{E:BJ}(hE:Good E){s:AG}{b:Nat}{L:List Int}(hlen:L.length≤12)(hi:∀q∈L,i64 (-q))(hb:b≤s.next){v:AV}(hv:Ae b s v (A3 L)):
  WF E 74 [v] (fun r s'=>∃w,r=.tuple [w,.bool (!Jk (Ej L))]∧Ce s.next s' w (Ej L)∧B6 s.next s s') s:=by
 have hptr:∀i,Made.val i .ptr=.ptr (some (i,0)):=fun _=>rfl
 refine hE.go gF (by decide) rfl ?_
 simp only[kX,dF,dG,Qa,Qb,Qc,Qd,Qe,Qf,Qg,Qh,Qi,Qj,Qk,Ql,Qm,Qn,true_and,and_true,Qo,Qp,Qq,Qr,Qs,Qt,Qu,Qv,Qw,Qx,Qy,Qz,Ra,Rb,Rc,Rd,Re,Rf,Rg,Rh,Ri,Rj,Rk,Rl,Rm,Ya,Yb,Yc,Rn,Ro,Rp,Yd,Ye,Rq,Rs,Rt,Ru,Rv,Rw,Rx]
 refine(Hw hE hb hv (by omega)).mono ?_
 rintro v1 s1 ⟨h1,o1⟩
 generalize e2:newObj s1 (AO 23 0 [.slice none 0 (some 0)])=s2
 have n2:s2.next=s1.next+1:=by rw[← e2];rfl
 have o2:B6 s1.next s1 s2:=by rw[← e2];exact B6.new s1 _
 have b2:Ak s2 s1.next (.slice none 0 (some 0)):=by rw[← e2];exact Ak.new
 obtain⟨s3,g1,g2,g3,g4⟩:=b2.store (d:=v1) Cb h1.slice.isCell.1 h1.slice.isCell.2
 have hn1:=o1.1
 have h3:Dz s.next s3 v1 L:=by
  rcases h1 with h1 | ⟨i,r1,r2,r3,r4⟩
  ·exact .inl h1
  ·exact .inr ⟨i,r1,r2,by omega,(r4.keep (o2.2 i r3)).keep (g4 i (by omega))⟩
 have o3:B6 s.next s s3:=(o1.trans (o2.mono (by omega))).trans ⟨by omega,fun y hy=>g4 y (by omega)⟩
 simp only[SV,hptr,e2,BU,g1,AX,dH,g2.load D0,Qa,Qb,Qc,Qd,Qe,Qf,Qg,Qh,Qi,Qj,Qk,Ql,Qm,Qn,true_and,and_true,Qo,Qp,Qq,Qr,Qs,Qt,Qu,Qv,Qw,Qx,Qy,Qz,Ra,Rb,Rc,Rd,Re,Rf,Rg,Rh,Ri,Rj,Rk,Rl,Rm,Ya,Yb,Yc,Rn,Ro,Rp,Yd,Ye,Rq,Rs,Rt,Ru,Rv,Rw,Rx]
 refine(aZ hE h3 hlen).mono ?_
 rintro r4 s4 ⟨h4,n4,f4⟩
 have hne:Ii v1≠some s1.next:=fun e=>by
  rcases h1 with⟨a,r1,r2⟩ | ⟨i,r1,r2,r3,r4⟩
  ·rw[r1]at e
   cases a<;>cases e
  ·rw[r1]at e
   injection e with e
   omega
 have hlo:∀z,z<s.next→Ii v1≠some z:=fun z hz e=>by
  rcases h1 with⟨a,r1,r2⟩ | ⟨i,r1,r2,r3,r4⟩
  ·rw[r1]at e
   cases a<;>cases e
  ·rw[r1]at e
   injection e with e
   omega
 have b4:Ak s4 s1.next v1:=g2.keep (f4 _ hne)
 have o4:B6 s.next s s4:=o3.trans ⟨by omega,fun y hy=>f4 y (hlo y hy)⟩
 simp only[dI,b4.load D0,Qa,Qb,Qc,Qd,Qe,Qf,Qg,Qh,Qi,Qj,Qk,Ql,Qm,Qn,true_and,and_true,Qo,Qp,Qq,Qr,Qs,Qt,Qu,Qv,Qw,Qx,Qy,Qz,Ra,Rb,Rc,Rd,Re,Rf,Rg,Rh,Ri,Rj,Rk,Rl,Rm,Ya,Yb,Yc,Rn,Ro,Rp,Yd,Ye,Rq,Rs,Rt,Ru,Rv,Rw,Rx]
 refine(Xb hE h4 (by rw[JK];omega)).mono ?_
 rintro w s5 ⟨h5,hi5,n5,f5⟩
 have b5:Ak s5 s1.next v1:=b4.keep (f5 _ hne)
 have o5:B6 s.next s s5:=o4.trans ⟨by omega,fun y hy=>f5 y (hlo y hy)⟩
 obtain⟨s6,k1,k2,k3,k4⟩:=b5.store (d:=w) Cb h5.slice.isCell.1 h5.slice.isCell.2
 have h6:Ce s.next s6 w (Ej L):=by
  rcases h5 with h5 | ⟨i,G,r1,r2,r3,r4⟩
  ·exact .inl h5
  ·refine .inr ⟨i,G,r1,r2,by omega,r4.keep (k4 i fun e=>?_)⟩
   exact hne (by rw[← e];exact hi5 i (by rw[r1];rfl))
 have o6:B6 s.next s s6:=o5.trans ⟨by omega,fun y hy=>k4 y (by omega)⟩
 have hlen6:=IP L
 simp only[BU,k1,AX,dJ,k2.load D0,mC,lq,Qa,Qb,Qc,Qd,Qe,Qf,Qg,Qh,Qi,Qj,Qk,Ql,Qm,Qn,true_and,and_true,Qo,Qp,Qq,Qr,Qs,Qt,Qu,Qv,Qw,Qx,Qy,Qz,Ra,Rb,Rc,Rd,Re,Rf,Rg,Rh,Ri,Rj,Rk,Rl,Rm,Ya,Yb,Yc,Rn,Ro,Rp,Yd,Ye,Rq,Rs,Rt,Ru,Rv,Rw,Rx]
 refine(F0 hE (f:=fun q=>decide (-q∈Ej L)) (g:=100) (cp:=[.ptr (some (s1.next,0))]) (fun q hq=>?_) (by omega) h6.slice).mono ?_
 ·exact Ur hE h6.slice k2 (by omega) (hi q (MW hq))
 rintro _ _ ⟨rfl,rfl⟩
 simp only[BP,Ap,k2.load D0,h6.self,Qa,Qb,Qc,Qd,Qe,Qf,Qg,Qh,Qi,Qj,Qk,Ql,Qm,Qn,true_and,and_true,Qo,Qp,Qq,Qr,Qs,Qt,Qu,Qv,Qw,Qx,Qy,Qz,Ra,Rb,Rc,Rd,Re,Rf,Rg,Rh,Ri,Rj,Rk,Rl,Rm,Ya,Yb,Yc,Rn,Ro,Rp,Yd,Ye,Rq,Rs,Rt,Ru,Rv,Rw,Rx]
 exact⟨w,rfl,h6,o6⟩
def CF(c:Int→Int→Int)(x:Int):List Int→List Int
 | []=>[x]
 | y::q=>if c x y<0 then y::CF c x q else x::y::q
def Fp(c:Int→Int→Int)(L:List Int):List Int:=(L.foldl (fun q x=>CF c x q) []).reverse
theorem G6(c:Int→Int→Int)(x:Int):∀q,(CF c x q).length=q.length+1
 | []=>rfl
 | y::q=>by
  unfold CF
  split
  ·simp[G6 c x q]
  ·simp
theorem G7        (c : Int → Int → Int) (x z : Int) : ∀ q, z ∈ CF    c x q ↔ z = x ∨ z ∈ q
  | []=>by simp[CF]
  | y::q=>by
    unfold CF
    split
    · rw[lM,G7 c x z q,lM]
      constructor
      · rintro (h | h | h)
        · exact .inr (.inl h)
        · exact .inl h
        · exact .inr (.inr h)
      · rintro (h | h | h)
        · exact .inr (.inl h)
        · exact .inl h
        · exact .inr (.inr h)
    · simp
theorem OY(c:Int→Int→Int):∀ (R q:List Int),(R.foldl (fun q x=>CF c x q) q).length=q.length+R.length
 | [],q=>rfl
 | y::R,q=>by simp only[ll,OY c R,G6,lO];omega
theorem OZ(c:Int→Int→Int)(z:Int):∀ (R q:List Int),z∈R.foldl (fun q x=>CF c x q) q↔z∈q∨z∈R
  | [],q=>by simp
  | y::R,q=>by
    rw[ll,OZ c z R,G7,lM]
    constructor
    · rintro ((h | h) | h)
      · exact .inr (.inl h)
      · exact .inl h
      · exact .inr (.inr h)
    · rintro (h | h | h)
      · exact .inl (.inr h)
      · exact .inl (.inl h)
      · exact .inr h
theorem Ml(c:Int→Int→Int)(L:List Int):(Fp c L).length=L.length:=by
 unfold Fp
 rw[List.length_reverse,OY];simp
theorem UN(c:Int→Int→Int)(L:List Int)(z:Int):z∈Fp c L↔z∈L:=by
 unfold Fp
 rw[List.mem_reverse,OZ];simp
theorem Ym       {E : BJ}  (hE : Good E) {i n m : Nat} (hn : n ≤ 1000) {s0 : AG}  {P : Int → Prop} {c : Int → Int → Int} {g : FuncId} {cp : List AV} (hg : ∀ s a b, (∀ z, z ≠ i → s.heap.get z = s0.heap.get z) → s.next = s0.next → P a → P b → WF E g (iv a :: iv b :: cp) (fun r s' => r = iv (c a b) ∧ s = s') s) (x : Int) (hx : P x) {Q : Ar   → Prop} :
    ∀ (p : List Int) (T : List AV) (s : AG)  (x5 x7 : AV), p.length < n → (∀ y ∈ p, P y) → (∀ z, z ≠ i → s.heap.get z = s0.heap.get z) → s.next = s0.next → Bq    s i (A3  (p.reverse ++ [x]) ++ T) →
      (∀s' y5 y7,Bq s' i (A3 (CF c x p).reverse++T)→s'.next=s0.next→(∀z,z≠i→s'.heap.get z=s0.heap.get z)→Q ⟨.exit 2,[.slice (some (i,0)) n none,iv 0,iv (n:Int),.func g [] cp,iv (m:Int),y5,x5,y7],[],s'⟩) →
      WC E none (.loop KQ) Q [.slice (some (i,0)) n none,iv 0,iv (n:Int),.func g [] cp,iv (m:Int),iv (p.length:Int),x5,x7] [] s:=by
  intro p
  induction p with
  | nil =>
    intro T s x5 x7 h1 hp hf hnx hr hq
    refine WC.loop' ?_
    simp only[KQ,Pw,lm,show((0:Nat):Int)=0 from rfl,lT,decide_false,Qa,Qb,Qc,Qd,Qe,Qf,Qg,Qh,Qi,Qj,Qk,Ql,Qm,Qn,true_and,and_true,Qo,Qp,Qq,Qr,Qs,Qt,Qu,Qv,Qw,Qx,Qy,Qz,Ra,Rb,Rc,Rd,Re,Rf,Rg,Rh,Ri,Rj,Rk,Rl,Rm,Ya,Yb,Yc,Rn,Ro,Rp,Yd,Ye,Rq,Rs,Rt,Ru,Rv,Rw,Rx]
    exact hq s _ _ hr hnx hf
  | cons y q ih =>
    intro T s x5 x7 h1 hp hf hnx hr hq
    have hj:(y::q).length=q.length+1:=rfl
    rw[hj]at h1 ⊢
    have hcells:A3 ((y::q).reverse++[x])++T=A3 q.reverse++iv y::(iv x::T):=by simp
    have hcells2:A3 ((y::q).reverse++[x])++T=(A3 q.reverse++[iv y])++iv x::T:=by simp
    have hql:(A3 q.reverse).length=q.length:=by simp
    have hql2:(A3 q.reverse++[iv y]).length=q.length+1:=by simp
    have hgt:decide ((0:Int)<((q.length+1:Nat):Int))=true:=decide_eq_true (by omega)
    have a1:AD Try.prog 23 (.slice (some (i,0)) n none) (iv ((q.length+1:Nat):Int))=some (.ptr (some (i,0+(q.length+1) * 1))):=Bc Try.underlying23 Be (by omega)
    have a0:AD Try.prog 23 (.slice (some (i,0)) n none) (iv ((q.length:Nat):Int))=some (.ptr (some (i,0+q.length * 1))):=Bc Try.underlying23 Be (by omega)
    have l1:AC Try.prog s 3 (.ptr (some (i,0+(q.length+1) * 1)))=some (iv x):=hr.load (by rw[hcells2];exact FI hql2)
    have l0:AC Try.prog s 3 (.ptr (some (i,0+q.length * 1)))=some (iv y):=hr.load (by rw[hcells];exact FI hql)
    have hs:=EF Try.prog 3 ((q.length+1:Nat):Int) 1 ⟨by omega,by omega⟩
    have hs1:(((q.length+1:Nat):Int) - 1)=((q.length:Nat):Int):=by omega
    rw[hs1]at hs
    refine WC.loop' ?_
    generalize hW:WC E none (Aa.loop KQ) Q=W
    simp only[KQ,Pw,hgt,a1,l1,hs,a0,l0,lZ,mN,mE,Qa,Qb,Qc,Qd,Qe,Qf,Qg,Qh,Qi,Qj,Qk,Ql,Qm,Qn,true_and,and_true,Qo,Qp,Qq,Qr,Qs,Qt,Qu,Qv,Qw,Qx,Qy,Qz,Ra,Rb,Rc,Rd,Re,Rf,Rg,Rh,Ri,Rj,Rk,Rl,Rm,Ya,Yb,Yc,Rn,Ro,Rp,Yd,Ye,Rq,Rs,Rt,Ru,Rv,Rw,Rx]
    refine(hg s x y hf hnx hx (hp y (kx ..))).mono ?_
    rintro _ _ ⟨rfl,rfl⟩
    by_cases h:c x y<0
    · rw[hcells2]at hr
      obtain⟨s1,g1,g2,g3,g4⟩:=hr.store (k:=q.length+1) (u:=iv y) hql2 rfl rfl
      have e1:(A3 q.reverse++[iv y])++iv y::T=A3 q.reverse++iv y::(iv y::T):=by simp
      rw[e1]at g2
      obtain⟨s2,k1,k2,k3,k4⟩:=g2.store (k:=q.length) (u:=iv x) hql rfl rfl
      simp only[h,decide_true,Va,Vb,a1,l1,hs,a0,l0,BU,g1,k1,AX,Qa,Qb,Qc,Qd,Qe,Qf,Qg,Qh,Qi,Qj,Qk,Ql,Qm,Qn,true_and,and_true,Qo,Qp,Qq,Qr,Qs,Qt,Qu,Qv,Qw,Qx,Qy,Qz,Ra,Rb,Rc,Rd,Re,Rf,Rg,Rh,Ri,Rj,Rk,Rl,Rm,Ya,Yb,Yc,Rn,Ro,Rp,Yd,Ye,Rq,Rs,Rt,Ru,Rv,Rw,Rx]
      rw[← hW]
      have e2:CF c x (y::q)=y::CF c x q:=by simp[CF,h]
      refine ih (iv y::T) s2 x5 _ (by omega) (fun z hz=>hp z (kz _ hz)) (fun z hz=>(k4 z hz).trans ((g4 z hz).trans (hf z hz))) (by omega) ?_ ?_
      · have e3:A3 (q.reverse++[x])++iv y::T=A3 q.reverse++iv x::(iv y::T):=by simp
        rw[e3];exact k2
      · intro s' y5 y7 f1 f2 f3
        refine hq s' y5 y7 ?_ (by omega) f3
        rw[e2]
        have e4:A3 (y::CF c x q).reverse++T=A3 (CF c x q).reverse++(iv y::T):=by simp
        rw[e4];exact f1
    · have e2:CF c x (y::q)=x::y::q:=by simp[CF,h]
      simp only[h,decide_false,Qa,Qb,Qc,Qd,Qe,Qf,Qg,Qh,Qi,Qj,Qk,Ql,Qm,Qn,true_and,and_true,Qo,Qp,Qq,Qr,Qs,Qt,Qu,Qv,Qw,Qx,Qy,Qz,Ra,Rb,Rc,Rd,Re,Rf,Rg,Rh,Ri,Rj,Rk,Rl,Rm,Ya,Yb,Yc,Rn,Ro,Rp,Yd,Ye,Rq,Rs,Rt,Ru,Rv,Rw,Rx]
      refine hq s _ _ ?_ hnx hf
      rw[e2]
      have e4:A3 (x::y::q).reverse++T=A3 ((y::q).reverse++[x])++T:=by simp
      rw[e4];exact hr
theorem UM{E:BJ}(hE:Good E){i n:Nat}(hn:n≤1000){s0:AG}{P:Int→Prop}{c:Int→Int→Int}{g:FuncId}{cp G:List AV}(hg:∀s a b,(∀z,z≠i→s.heap.get z=s0.heap.get z)→s.next=s0.next→P a→P b→WF E g (iv a::iv b::cp) (fun r s'=>r=iv (c a b)∧s=s') s){Q:Ar→Prop}:
    ∀ (R q : List Int) (s : AG)  (m : Nat) (x5 x6 x7 : AV), q.length = m → n = q.length + R.length → (∀ y ∈ q, P y) → (∀ y ∈ R, P y) → (∀ z, z ≠ i → s.heap.get z = s0.heap.get z) → s.next = s0.next → Bq    s i (A3  (q.reverse ++ R) ++ G) →
      (∀s' y4 y5 y6 y7,Bq s' i (A3 (R.foldl (fun q x=>CF c x q) q).reverse++G)→s'.next=s0.next→(∀z,z≠i→s'.heap.get z=s0.heap.get z)→Q ⟨.exit 0,[.slice (some (i,0)) n none,iv 0,iv (n:Int),.func g [] cp,y4,y5,y6,y7],[],s'⟩) →
      WC E none (.loop HT) Q [.slice (some (i,0)) n none,iv 0,iv (n:Int),.func g [] cp,iv (m:Int),x5,x6,x7] [] s:=by
  intro R
  induction R with
  | nil =>
    intro q s m x5 x6 x7 hm hq hp hpR hf hnx hr hk
    subst hm
    have hlt:decide (((q.length:Nat):Int)<(n:Int))=false:=decide_eq_false (by simp at hq;omega)
    refine WC.loop' ?_
    simp only[HT,KR,hlt,Qa,Qb,Qc,Qd,Qe,Qf,Qg,Qh,Qi,Qj,Qk,Ql,Qm,Qn,true_and,and_true,Qo,Qp,Qq,Qr,Qs,Qt,Qu,Qv,Qw,Qx,Qy,Qz,Ra,Rb,Rc,Rd,Re,Rf,Rg,Rh,Ri,Rj,Rk,Rl,Rm,Ya,Yb,Yc,Rn,Ro,Rp,Yd,Ye,Rq,Rs,Rt,Ru,Rv,Rw,Rx]
    exact hk s _ _ _ _ (by simpa using hr) hnx hf
  | cons x T ih =>
    intro q s m x5 x6 x7 hm hq hp hpR hf hnx hr hk
    subst hm
    have hR:(x::T).length=T.length+1:=rfl
    rw[hR]at hq
    have hlt:decide (((q.length:Nat):Int)<(n:Int))=true:=decide_eq_true (by omega)
    have e3:=Ao Try.prog 3 ((q.length:Nat):Int) 1 ⟨by omega,by omega⟩
    have hcast:(((q.length:Nat):Int)+1)=((q.length+1:Nat):Int):=by omega
    have hPx:=hpR x (kx ..)
    refine WC.loop' ?_
    generalize hW:WC E none (Aa.loop HT) Q=W
    simp only[HT,KR,VZ,hlt,Qa,Qb,Qc,Qd,Qe,Qf,Qg,Qh,Qi,Qj,Qk,Ql,Qm,Qn,true_and,and_true,Qo,Qp,Qq,Qr,Qs,Qt,Qu,Qv,Qw,Qx,Qy,Qz,Ra,Rb,Rc,Rd,Re,Rf,Rg,Rh,Ri,Rj,Rk,Rl,Rm,Ya,Yb,Yc,Rn,Ro,Rp,Yd,Ye,Rq,Rs,Rt,Ru,Rv,Rw,Rx]
    refine Ym hE hn hg x hPx q (A3 T++G) s _ _ (by omega) hp hf hnx (by simpa using hr) ?_
    intro s' y5 y7 g1 g2 g3
    simp only[Vc,e3,hcast,if_true,Qa,Qb,Qc,Qd,Qe,Qf,Qg,Qh,Qi,Qj,Qk,Ql,Qm,Qn,true_and,and_true,Qo,Qp,Qq,Qr,Qs,Qt,Qu,Qv,Qw,Qx,Qy,Qz,Ra,Rb,Rc,Rd,Re,Rf,Rg,Rh,Ri,Rj,Rk,Rl,Rm,Ya,Yb,Yc,Rn,Ro,Rp,Yd,Ye,Rq,Rs,Rt,Ru,Rv,Rw,Rx]
    rw[← hW]
    refine ih (CF c x q) s' (q.length+1) _ _ _ (G6 c x q) (by rw[G6];omega) (fun y hy=>?_) (fun y hy=>hpR y (kz _ hy)) g3 g2 (by simpa using g1) hk
    rcases(G7 c x y q).1 hy with e | e
    · rw[e];exact hPx
    · exact hp y e
theorem Yn       {E : BJ}  (hE : Good E) {lo : Nat} {s0 : AG}  {v : AV} {L : List Int} (h : Ce     lo s0 v L) (hL : L.length ≤ 12) {P : Int → Prop} {c : Int → Int → Int} {g : FuncId} {cp : List AV} (hP : ∀ y ∈ L, P y)
    (hg:∀s a b,(∀z,Ii v≠some z→s.heap.get z=s0.heap.get z)→s.next=s0.next→P a→P b→WF E g (iv a::iv b::cp) (fun r s'=>r=iv (c a b)∧s=s') s):
    WF E 75 [v,.func g [] cp] (fun r s'=>Ce lo s' v (Fp c L)∧s'.next=s0.next∧∀z,Ii v≠some z→s'.heap.get z=s0.heap.get z) s0:=by
  have e3:=Ao Try.prog 3 0 1 ⟨by omega,by omega⟩
  have e4:(0:Int)+1=1:=rfl
  have h114:WF E 114 [v,iv 0,iv (L.length:Int),.func g [] cp] (fun r s'=>Ce lo s' v (Fp c L)∧s'.next=s0.next∧∀z,Ii v≠some z→s'.heap.get z=s0.heap.get z) s0:=by
    refine hE.go Zw (by decide) rfl ?_
    rcases h with⟨a,rfl,rfl⟩ | ⟨i,G,rfl,h1,h2,h3⟩
    · simp only[fR,Pv,e3,e4,lm,show((0:Nat):Int)=0 from rfl,Qa,Qb,Qc,Qd,Qe,Qf,Qg,Qh,Qi,Qj,Qk,Ql,Qm,Qn,true_and,and_true,Qo,Qp,Qq,Qr,Qs,Qt,Qu,Qv,Qw,Qx,Qy,Qz,Ra,Rb,Rc,Rd,Re,Rf,Rg,Rh,Ri,Rj,Rk,Rl,Rm,Ya,Yb,Yc,Rn,Ro,Rp,Yd,Ye,Rq,Rs,Rt,Ru,Rv,Rw,Rx]
      refine WC.loop' ?_
      simp only[HT,KR,show decide ((1:Int)<0)=false from rfl,if_true,Qa,Qb,Qc,Qd,Qe,Qf,Qg,Qh,Qi,Qj,Qk,Ql,Qm,Qn,true_and,and_true,Qo,Qp,Qq,Qr,Qs,Qt,Qu,Qv,Qw,Qx,Qy,Qz,Ra,Rb,Rc,Rd,Re,Rf,Rg,Rh,Ri,Rj,Rk,Rl,Rm,Ya,Yb,Yc,Rn,Ro,Rp,Yd,Ye,Rq,Rs,Rt,Ru,Rv,Rw,Rx]
      exact⟨.inl ⟨a,rfl,rfl⟩,fun _ _=>trivial⟩
    · simp only[fR,Pv,e3,e4,Qa,Qb,Qc,Qd,Qe,Qf,Qg,Qh,Qi,Qj,Qk,Ql,Qm,Qn,true_and,and_true,Qo,Qp,Qq,Qr,Qs,Qt,Qu,Qv,Qw,Qx,Qy,Qz,Ra,Rb,Rc,Rd,Re,Rf,Rg,Rh,Ri,Rj,Rk,Rl,Rm,Ya,Yb,Yc,Rn,Ro,Rp,Yd,Ye,Rq,Rs,Rt,Ru,Rv,Rw,Rx]
      cases L with
      | nil =>
        refine WC.loop' ?_
        simp only[HT,KR,lm,show((0:Nat):Int)=0 from rfl,show decide ((1:Int)<0)=false from rfl,if_true,Qa,Qb,Qc,Qd,Qe,Qf,Qg,Qh,Qi,Qj,Qk,Ql,Qm,Qn,true_and,and_true,Qo,Qp,Qq,Qr,Qs,Qt,Qu,Qv,Qw,Qx,Qy,Qz,Ra,Rb,Rc,Rd,Re,Rf,Rg,Rh,Ri,Rj,Rk,Rl,Rm,Ya,Yb,Yc,Rn,Ro,Rp,Yd,Ye,Rq,Rs,Rt,Ru,Rv,Rw,Rx]
        exact⟨.inr ⟨i,G,rfl,h1,h2,h3⟩,fun _ _=>trivial⟩
      | cons x T =>
        refine UM hE (n:=(x::T).length) (by omega) (s0:=s0) (P:=P) (c:=c) (G:=G) (fun s a b f1 f2 p1 p2=>hg s a b (fun z hz=>f1 z fun e=>hz (by rw[e];rfl)) f2 p1 p2) T [x] s0 1 _ _ _ rfl (by simp;omega) (fun y hy=>hP y (by simp at hy;rw[hy];exact kx ..)) (fun y hy=>hP y (kz _ hy)) (fun _ _=>rfl) rfl (by simpa using h3) ?_
        intro s' y4 y5 y6 y7 g1 g2 g3
        simp only[if_true,Qa,Qb,Qc,Qd,Qe,Qf,Qg,Qh,Qi,Qj,Qk,Ql,Qm,Qn,true_and,and_true,Qo,Qp,Qq,Qr,Qs,Qt,Qu,Qv,Qw,Qx,Qy,Qz,Ra,Rb,Rc,Rd,Re,Rf,Rg,Rh,Ri,Rj,Rk,Rl,Rm,Ya,Yb,Yc,Rn,Ro,Rp,Yd,Ye,Rq,Rs,Rt,Ru,Rv,Rw,Rx]
        exact⟨.inr ⟨i,G,by rw[Ml],h1,by omega,g1⟩,g2,fun z hz=>g3 z fun e=>hz (by rw[e];rfl)⟩
  have d1:decide ((20:Int)≤(L.length:Int))=false:=decide_eq_false (by omega)
  have d2:decide ((20:Int)<(L.length:Int))=false:=decide_eq_false (by omega)
  have ln:∀s,A6 Try.prog s 23 v=some (iv (L.length:Int)):=fun s=>by
    have:=h.slice.len Try.underlying23 s
    rw[EG]at this
    exact this
  have h102:WF E 102 [v,iv (L.length:Int),.func g [] cp] (fun r s'=>Ce lo s' v (Fp c L)∧s'.next=s0.next∧∀z,Ii v≠some z→s'.heap.get z=s0.heap.get z) s0:=by
    refine hE.go Zp (by decide) rfl ?_
    simp only[iT,U1,U2,Qa,Qb,Qc,Qd,Qe,Qf,Qg,Qh,Qi,Qj,Qk,Ql,Qm,Qn,true_and,and_true,Qo,Qp,Qq,Qr,Qs,Qt,Qu,Qv,Qw,Qx,Qy,Qz,Ra,Rb,Rc,Rd,Re,Rf,Rg,Rh,Ri,Rj,Rk,Rl,Rm,Ya,Yb,Yc,Rn,Ro,Rp,Yd,Ye,Rq,Rs,Rt,Ru,Rv,Rw,Rx]
    refine WC.loop' ?_
    simp only[U0,U3,d1,if_true,U4,Qa,Qb,Qc,Qd,Qe,Qf,Qg,Qh,Qi,Qj,Qk,Ql,Qm,Qn,true_and,and_true,Qo,Qp,Qq,Qr,Qs,Qt,Qu,Qv,Qw,Qx,Qy,Qz,Ra,Rb,Rc,Rd,Re,Rf,Rg,Rh,Ri,Rj,Rk,Rl,Rm,Ya,Yb,Yc,Rn,Ro,Rp,Yd,Ye,Rq,Rs,Rt,Ru,Rv,Rw,Rx]
    refine h114.mono ?_
    rintro r s' h'
    simp only[Qa,Qb,Qc,Qd,Qe,Qf,Qg,Qh,Qi,Qj,Qk,Ql,Qm,Qn,true_and,and_true,Qo,Qp,Qq,Qr,Qs,Qt,Qu,Qv,Qw,Qx,Qy,Qz,Ra,Rb,Rc,Rd,Re,Rf,Rg,Rh,Ri,Rj,Rk,Rl,Rm,Ya,Yb,Yc,Rn,Ro,Rp,Yd,Ye,Rq,Rs,Rt,Ru,Rv,Rw,Rx]
    refine WC.loop' ?_
    simp only[SZ,U5,d2,if_true,Qa,Qb,Qc,Qd,Qe,Qf,Qg,Qh,Qi,Qj,Qk,Ql,Qm,Qn,true_and,and_true,Qo,Qp,Qq,Qr,Qs,Qt,Qu,Qv,Qw,Qx,Qy,Qz,Ra,Rb,Rc,Rd,Re,Rf,Rg,Rh,Ri,Rj,Rk,Rl,Rm,Ya,Yb,Yc,Rn,Ro,Rp,Yd,Ye,Rq,Rs,Rt,Ru,Rv,Rw,Rx]
    exact h'
  refine hE.go gG (by decide) rfl ?_
  simp only[kY,dK,ln,Qa,Qb,Qc,Qd,Qe,Qf,Qg,Qh,Qi,Qj,Qk,Ql,Qm,Qn,true_and,and_true,Qo,Qp,Qq,Qr,Qs,Qt,Qu,Qv,Qw,Qx,Qy,Qz,Ra,Rb,Rc,Rd,Re,Rf,Rg,Rh,Ri,Rj,Rk,Rl,Rm,Ya,Yb,Yc,Rn,Ro,Rp,Yd,Ye,Rq,Rs,Rt,Ru,Rv,Rw,Rx]
  refine h102.mono ?_
  rintro r s' h'
  simp only[Qa,Qb,Qc,Qd,Qe,Qf,Qg,Qh,Qi,Qj,Qk,Ql,Qm,Qn,true_and,and_true,Qo,Qp,Qq,Qr,Qs,Qt,Qu,Qv,Qw,Qx,Qy,Qz,Ra,Rb,Rc,Rd,Re,Rf,Rg,Rh,Ri,Rj,Rk,Rl,Rm,Ya,Yb,Yc,Rn,Ro,Rp,Yd,Ye,Rq,Rs,Rt,Ru,Rv,Rw,Rx]
  exact h'
theorem MQ{val:List Int}(h:Mu val)(l:Int):isV val l=-1∨isV val l=0∨isV val l=1:=by
 unfold isV
 have:=h.get l.natAbs
 split<;>omega
theorem fb{E:BJ}(hE:Good E){ow:Ow}{s:AG}{p:Nat}{x:Sf}{v:Sv}(h:Ac ow s p x v)(h3:Mu v.value){n sb:Nat}(hn:n<100000000)(hval:v.value.length=n+1)(hb:Ak s sb (AJ p)){a b:Int}(ha:VL n a)(hb':VL n b):
  WF E 76 [iv a,iv b,.ptr (some (sb,0))] (fun r s'=>r=iv (isV v.value b - isV v.value a)∧s=s') s:=by
 have l1:=hb.load Dg
 simp only[AJ]at l1
 have eqp:Fs (.ptr (some (p,0))) (.ptr (some (p,0)))=true:=by simp[Fs]
 have ha2:=ha.2
 have hb2:=hb'.2
 have k1:=MQ h3 a
 have k2:=MQ h3 b
 have e3:=EF Try.prog 3 (isV v.value b) (isV v.value a) ⟨by omega,by omega⟩
 refine hE.go gH (by decide) rfl ?_
 simp only[kZ,dL,dM,l1,Qa,Qb,Qc,Qd,Qe,Qf,Qg,Qh,Qi,Qj,Qk,Ql,Qm,Qn,true_and,and_true,Qo,Qp,Qq,Qr,Qs,Qt,Qu,Qv,Qw,Qx,Qy,Qz,Ra,Rb,Rc,Rd,Re,Rf,Rg,Rh,Ri,Rj,Rk,Rl,Rm,Ya,Yb,Yc,Rn,Ro,Rp,Yd,Ye,Rq,Rs,Rt,Ru,Rv,Rw,Rx]
 refine(JZ hE h h3 (l:=b) (by omega) (by omega)).mono ?_
 rintro _ _ ⟨rfl,rfl⟩
 simp only[BP,Ap,l1,eqp,Qa,Qb,Qc,Qd,Qe,Qf,Qg,Qh,Qi,Qj,Qk,Ql,Qm,Qn,true_and,and_true,Qo,Qp,Qq,Qr,Qs,Qt,Qu,Qv,Qw,Qx,Qy,Qz,Ra,Rb,Rc,Rd,Re,Rf,Rg,Rh,Ri,Rj,Rk,Rl,Rm,Ya,Yb,Yc,Rn,Ro,Rp,Yd,Ye,Rq,Rs,Rt,Ru,Rv,Rw,Rx]
 refine(JZ hE h h3 (l:=a) (by omega) (by omega)).mono ?_
 rintro _ _ ⟨rfl,rfl⟩
 simp only[e3,Qa,Qb,Qc,Qd,Qe,Qf,Qg,Qh,Qi,Qj,Qk,Ql,Qm,Qn,true_and,and_true,Qo,Qp,Qq,Qr,Qs,Qt,Qu,Qv,Qw,Qx,Qy,Qz,Ra,Rb,Rc,Rd,Re,Rf,Rg,Rh,Ri,Rj,Rk,Rl,Rm,Ya,Yb,Yc,Rn,Ro,Rp,Yd,Ye,Rq,Rs,Rt,Ru,Rv,Rw,Rx]
theorem fD     {E : BJ}  (hE : Good E) {ow : Ow} {s : AG}  {p : Nat} {x : Sf} {v : Sv} (h : Ac  ow s p x v) {n sb : Nat} (hn : n < 100000000) (hval : v.value.length = n + 1) (hb : Ak   s sb (AJ   p)) (q : Int) :
    WF E 73 [iv q,.ptr (some (sb,0))] (fun r s'=>r=.bool (!decide (VL n q))∧s=s') s:=by
  have l1:=hb.load Dg
  simp only[AJ]at l1
  have e1:=FT Try.prog (n:Int) ⟨by omega,by omega⟩
  refine hE.go gE (by decide) rfl ?_
  by_cases h0:q=0
  · have hd:decide (VL n q)=false:=decide_eq_false fun k=>k.1 h0
    simp only[js,Wu,Wv,decide_eq_true h0,hd,Qa,Qb,Qc,Qd,Qe,Qf,Qg,Qh,Qi,Qj,Qk,Ql,Qm,Qn,true_and,and_true,Qo,Qp,Qq,Qr,Qs,Qt,Qu,Qv,Qw,Qx,Qy,Qz,Ra,Rb,Rc,Rd,Re,Rf,Rg,Rh,Ri,Rj,Rk,Rl,Rm,Ya,Yb,Yc,Rn,Ro,Rp,Yd,Ye,Rq,Rs,Rt,Ru,Rv,Rw,Rx]
  · simp only[js,Wu,Wv,decide_eq_false h0,l1,Qa,Qb,Qc,Qd,Qe,Qf,Qg,Qh,Qi,Qj,Qk,Ql,Qm,Qn,true_and,and_true,Qo,Qp,Qq,Qr,Qs,Qt,Qu,Qv,Qw,Qx,Qy,Qz,Ra,Rb,Rc,Rd,Re,Rf,Rg,Rh,Ri,Rj,Rk,Rl,Rm,Ya,Yb,Yc,Rn,Ro,Rp,Yd,Ye,Rq,Rs,Rt,Ru,Rv,Rw,Rx]
    refine(Nt hE h hn hval).mono ?_
    rintro _ _ ⟨rfl,rfl⟩
    by_cases h1:q < -(n:Int)
    · have hd:decide (VL n q)=false:=decide_eq_false fun k=>by have:=k.2;omega
      simp only[e1,decide_eq_true h1,hd,Qa,Qb,Qc,Qd,Qe,Qf,Qg,Qh,Qi,Qj,Qk,Ql,Qm,Qn,true_and,and_true,Qo,Qp,Qq,Qr,Qs,Qt,Qu,Qv,Qw,Qx,Qy,Qz,Ra,Rb,Rc,Rd,Re,Rf,Rg,Rh,Ri,Rj,Rk,Rl,Rm,Ya,Yb,Yc,Rn,Ro,Rp,Yd,Ye,Rq,Rs,Rt,Ru,Rv,Rw,Rx]
    · simp only[e1,decide_eq_false h1,l1,Qa,Qb,Qc,Qd,Qe,Qf,Qg,Qh,Qi,Qj,Qk,Ql,Qm,Qn,true_and,and_true,Qo,Qp,Qq,Qr,Qs,Qt,Qu,Qv,Qw,Qx,Qy,Qz,Ra,Rb,Rc,Rd,Re,Rf,Rg,Rh,Ri,Rj,Rk,Rl,Rm,Ya,Yb,Yc,Rn,Ro,Rp,Yd,Ye,Rq,Rs,Rt,Ru,Rv,Rw,Rx]
      refine(Nt hE h hn hval).mono ?_
      rintro _ _ ⟨rfl,rfl⟩
      by_cases h2:(n:Int)<q
      · have hd:decide (VL n q)=false:=decide_eq_false fun k=>by have:=k.2;omega
        simp only[decide_eq_true h2,hd,Qa,Qb,Qc,Qd,Qe,Qf,Qg,Qh,Qi,Qj,Qk,Ql,Qm,Qn,true_and,and_true,Qo,Qp,Qq,Qr,Qs,Qt,Qu,Qv,Qw,Qx,Qy,Qz,Ra,Rb,Rc,Rd,Re,Rf,Rg,Rh,Ri,Rj,Rk,Rl,Rm,Ya,Yb,Yc,Rn,Ro,Rp,Yd,Ye,Rq,Rs,Rt,Ru,Rv,Rw,Rx]
      · have hd:decide (VL n q)=true:=decide_eq_true ⟨h0,by omega⟩
        simp only[decide_eq_false h2,hd,Qa,Qb,Qc,Qd,Qe,Qf,Qg,Qh,Qi,Qj,Qk,Ql,Qm,Qn,true_and,and_true,Qo,Qp,Qq,Qr,Qs,Qt,Qu,Qv,Qw,Qx,Qy,Qz,Ra,Rb,Rc,Rd,Re,Rf,Rg,Rh,Ri,Rj,Rk,Rl,Rm,Ya,Yb,Yc,Rn,Ro,Rp,Yd,Ye,Rq,Rs,Rt,Ru,Rv,Rw,Rx]
def By(v:Sv)(L:List Int):List Int:=Fp (fun a b=>isV v.value b - isV v.value a) (Ej L)
def F9(v:Sv)(c:Nat)(O:List Int):Sv:=if 1<O.length then Hj (EY v c (O,false,false)) c (O.getD 0 0) (O.getD 1 0)else EY v c (O,false,false)
def Jq(v:Sv)(c:Nat)(O:List Int):Sv:=
 if isV v.value (O.getD 0 0)<0 then DV (F9 v c O)
 else if isV v.value (O.getD 0 0)=0∧(O.length=1∨isV v.value (O.getD 1 0)<0)then BF (F9 v c O) (O.getD 0 0) (some c)
 else F9 v c O
inductive KF (b:Sv) (L:List Int):Sv→Prop
 | none (h:Jk (Ej L)=true∨b.broken=true):KF b L b
 | nil (h:Jk (Ej L)=false) (hb:b.broken=false) (he:Ej L=[]):KF b L (DV b)
 | put {c:Nat} (h:Jk (Ej L)=false) (hb:b.broken=false) (he:Ej L≠[]) (hc:b.cl c=none):KF b L (Jq b c (By b L))
theorem aU(v:Sv)(c:Nat)(O:List Int):∃ws,F9 v c O={ v with watches:=ws,cl:=AP v.cl c (O,false,false) }∧ws.length=v.watches.length:=by
 unfold F9
 split
 ·exact⟨_,rfl,by rw[Cv,Cv];rfl⟩
 ·exact⟨v.watches,rfl,rfl⟩
theorem Y9      {E : BJ}  (hE : Good E) {ow : Ow} {s : AG}  {p : Nat} {x : Sf} {v : Sv} (h : Ac  ow s p x v) {n : Nat} (hz : au  n v) (h3 : Mu   v.value) (hT : v.trace.length ≤ 1000000) (hW : CD  v.watches ≤ 90000000) {c sb : Nat} {w : AV} {O : List Int} (hc : v.cl c = none) (hO : A1    n O) (hne : O ≠ []) (hb : Ak   s sb (AJ   p)) (hsb : ow sb = (p, 21, 0) ∧ sb < s.next) (hcl : Ac  ow s p x (EY    v c (O, false, false))) (hw : BO  ow (p, 15, c) s w (A3  O)) {K : Ar   → Prop} {x1 x3 x5 x7 x8 x9 x10 x11 x12 : AV}
    (hK:∀s' ow' x' V,Ac ow' s' p x' (Jq v c O)→AH (BN p) ow s ow' s'→S8 V 3=iv 0→K ⟨.ret,V,[],s'⟩):
    Qa E none (.seq (.seq (.ops KW) (.cond (.var 10) (.ops QN) .skip)) (.seq (.block 1 (.seq (.ops KX) (.cond (.var 11) (.ops KY) (.seq (.ops NB) (.cond (.var 12) (.ops KZ) .skip))))) (.seq (.ops Fz) .ret))) K [AV.ptr (some (p,0)),x1,.ptr (some (sb,0)),x3,w,x5,AJ c,x7,x8,x9,x10,x11,x12] [] s:=by
  have hpos:0<O.length:=List.length_pos_iff.2 hne
  have hsm:=hz.small
  have hOl:=hO.2
  have ln:∀s,A6 Try.prog s 23 w=some (iv (O.length:Int)):=fun s=>by
    have:=hw.len Try.underlying23 s
    rw[EG]at this
    exact this
  have hV0:=hO.get hpos
  have hg0:=AQ (d:=(0:Int)) hpos
  have i0:AD Try.prog 23 w (iv 0)=some (Az w 0):=hw.addr Try.underlying23 Be (k:=0) (by rw[EG];exact hpos)
  have d0:decide ((O.length:Int)=0)=false:=decide_eq_false (by omega)
  have rest : ∀ (s1 : AG)  (ow1 : Ow) (y10 : AV), Ac  ow1 s1 p x (F9   v c O) → AH   (Ja    p) ow s ow1 s1 →
      Qa E none (.seq (.block 1 (.seq (.ops KX) (.cond (.var 11) (.ops KY) (.seq (.ops NB) (.cond (.var 12) (.ops KZ) .skip))))) (.seq (.ops Fz) .ret)) K [AV.ptr (some (p,0)),x1,.ptr (some (sb,0)),x3,w,x5,AJ c,x7,x8,x9,y10,x11,x12] [] s1:=by
    intro s1 ow1 y10 h1 st1
    obtain⟨ws,e,hws⟩:=aU v c O
    have hval:(F9 v c O).value=v.value:=by rw[e]
    have h3':Mu (F9 v c O).value:=by rw[hval];exact h3
    have hsz':au n (F9 v c O):=by rw[e];exact⟨hz.small,hws.trans hz.w,hz.value,hz.level,hz.why,hz.heat,hz.phase,hz.trail,hz.limits⟩
    have hT':(F9 v c O).trace.length≤1000000:=by rw[e];exact hT
    have hw1:BO ow1 (p,15,c) s1 w (A3 O):=hw.step st1 (fun q=>by rcases q.2 with q | q<;>cases q)
    have hb1:Ak s1 sb (AJ p):=hb.keep (st1.heap sb hsb.2 (by rw[hsb.1];exact fun q=>by rcases q.2 with q | q<;>cases q))
    have l1:=hb1.load Dg
    simp only[AJ]at l1
    have l0:=hw1.get (t:=3) Df (k:=0) (Av hg0)
    have hvl:=hz.value
    have hV02:=hV0.2
    simp only[KX,ln,d0,l1,i0,l0,AJ,Qa,Qb,Qc,Qd,Qe,Qf,Qg,Qh,Qi,Qj,Qk,Ql,Qm,Qn,true_and,and_true,Qo,Qp,Qq,Qr,Qs,Qt,Qu,Qv,Qw,Qx,Qy,Qz,Ra,Rb,Rc,Rd,Re,Rf,Rg,Rh,Ri,Rj,Rk,Rl,Rm,Ya,Yb,Yc,Rn,Ro,Rp,Yd,Ye,Rq,Rs,Rt,Ru,Rv,Rw,Rx]
    refine(JZ hE h1 h3' (l:=O.getD 0 0) (by rw[hval];omega) (by rw[hval];omega)).mono ?_
    rintro _ _ ⟨rfl,rfl⟩
    rw[hval]
    by_cases hneg:isV v.value (O.getD 0 0)<0
    · simp only[decide_eq_true hneg,KY,l1,Qa,Qb,Qc,Qd,Qe,Qf,Qg,Qh,Qi,Qj,Qk,Ql,Qm,Qn,true_and,and_true,Qo,Qp,Qq,Qr,Qs,Qt,Qu,Qv,Qw,Qx,Qy,Qz,Ra,Rb,Rc,Rd,Re,Rf,Rg,Rh,Ri,Rj,Rk,Rl,Rm,Ya,Yb,Yc,Rn,Ro,Rp,Yd,Ye,Rq,Rs,Rt,Ru,Rv,Rw,Rx]
      refine(J2 hE h1 hT').mono ?_
      rintro _ s2 ⟨ow2,x2,g1,g2,_⟩
      simp only[Fz,Qa,Qb,Qc,Qd,Qe,Qf,Qg,Qh,Qi,Qj,Qk,Ql,Qm,Qn,true_and,and_true,Qo,Qp,Qq,Qr,Qs,Qt,Qu,Qv,Qw,Qx,Qy,Qz,Ra,Rb,Rc,Rd,Re,Rf,Rg,Rh,Ri,Rj,Rk,Rl,Rm,Ya,Yb,Yc,Rn,Ro,Rp,Yd,Ye,Rq,Rs,Rt,Ru,Rv,Rw,Rx]
      refine hK s2 ow2 x2 _ ?_ (st1.w.trans g2.b) rfl
      unfold Jq
      rw[if_pos hneg]
      exact g1
    · simp only[decide_eq_false hneg,NB,l1,i0,l0,Qa,Qb,Qc,Qd,Qe,Qf,Qg,Qh,Qi,Qj,Qk,Ql,Qm,Qn,true_and,and_true,Qo,Qp,Qq,Qr,Qs,Qt,Qu,Qv,Qw,Qx,Qy,Qz,Ra,Rb,Rc,Rd,Re,Rf,Rg,Rh,Ri,Rj,Rk,Rl,Rm,Ya,Yb,Yc,Rn,Ro,Rp,Yd,Ye,Rq,Rs,Rt,Ru,Rv,Rw,Rx]
      refine(JZ hE h1 h3' (l:=O.getD 0 0) (by rw[hval];omega) (by rw[hval];omega)).mono ?_
      rintro _ _ ⟨rfl,rfl⟩
      rw[hval]
      have asg:isV v.value (O.getD 0 0)=0∧(O.length=1∨isV v.value (O.getD 1 0)<0)→WF E 71 [AV.ptr (some (p,0)),iv (O.getD 0 0),.ptr (some (c,0))] (fun _ s'=>∃ow' x',Ac ow' s' p x' (Jq v c O)∧AH (BN p) ow s ow' s') s1:=by
        intro hc2
        refine(FZ hE h1 hsz' hV0 (some c)).mono ?_
        rintro _ s2 ⟨ow2,x2,g1,g2,_⟩
        refine⟨ow2,x2,?_,st1.w.trans g2.b⟩
        unfold Jq
        rw[if_neg hneg,if_pos hc2]
        exact g1
      have non:¬ (isV v.value (O.getD 0 0)=0∧(O.length=1∨isV v.value (O.getD 1 0)<0))→Ac ow1 s1 p x (Jq v c O):=by
        intro hc2
        unfold Jq
        rw[if_neg hneg,if_neg hc2]
        exact h1
      by_cases hz0:isV v.value (O.getD 0 0)=0
      · have e1:decide ((O.length:Int)=1)=decide (O.length=1):=by
          by_cases q:O.length=1
          · rw[decide_eq_true q,decide_eq_true (by omega)]
          · rw[decide_eq_false q,decide_eq_false (by omega)]
        by_cases hl1:O.length=1
        · simp only[decide_eq_true hz0,ln,e1,decide_eq_true hl1,KZ,l1,i0,l0,Qa,Qb,Qc,Qd,Qe,Qf,Qg,Qh,Qi,Qj,Qk,Ql,Qm,Qn,true_and,and_true,Qo,Qp,Qq,Qr,Qs,Qt,Qu,Qv,Qw,Qx,Qy,Qz,Ra,Rb,Rc,Rd,Re,Rf,Rg,Rh,Ri,Rj,Rk,Rl,Rm,Ya,Yb,Yc,Rn,Ro,Rp,Yd,Ye,Rq,Rs,Rt,Ru,Rv,Rw,Rx]
          refine(asg ⟨hz0,.inl hl1⟩).mono ?_
          rintro _ s2 ⟨ow2,x2,g1,g2⟩
          simp only[Fz,Qa,Qb,Qc,Qd,Qe,Qf,Qg,Qh,Qi,Qj,Qk,Ql,Qm,Qn,true_and,and_true,Qo,Qp,Qq,Qr,Qs,Qt,Qu,Qv,Qw,Qx,Qy,Qz,Ra,Rb,Rc,Rd,Re,Rf,Rg,Rh,Ri,Rj,Rk,Rl,Rm,Ya,Yb,Yc,Rn,Ro,Rp,Yd,Ye,Rq,Rs,Rt,Ru,Rv,Rw,Rx]
          exact hK s2 ow2 x2 _ g1 g2 rfl
        · have hV1 := hO.get (k := 1) (by omega)
          have hV12:=hV1.2
          have hg1:=AQ (d:=(0:Int)) (show 1<O.length by omega)
          have i1:AD Try.prog 23 w (iv 1)=some (Az w 1):=hw.addr Try.underlying23 Be (k:=1) (by rw[EG];omega)
          have m1:=hw1.get (t:=3) Df (k:=1) (Av hg1)
          simp only[decide_eq_true hz0,ln,e1,decide_eq_false hl1,l1,i1,m1,Qa,Qb,Qc,Qd,Qe,Qf,Qg,Qh,Qi,Qj,Qk,Ql,Qm,Qn,true_and,and_true,Qo,Qp,Qq,Qr,Qs,Qt,Qu,Qv,Qw,Qx,Qy,Qz,Ra,Rb,Rc,Rd,Re,Rf,Rg,Rh,Ri,Rj,Rk,Rl,Rm,Ya,Yb,Yc,Rn,Ro,Rp,Yd,Ye,Rq,Rs,Rt,Ru,Rv,Rw,Rx]
          refine(JZ hE h1 h3' (l:=O.getD 1 0) (by rw[hval];omega) (by rw[hval];omega)).mono ?_
          rintro _ _ ⟨rfl,rfl⟩
          rw[hval]
          by_cases hn1:isV v.value (O.getD 1 0)<0
          · simp only[decide_eq_true hn1,KZ,l1,i0,l0,Qa,Qb,Qc,Qd,Qe,Qf,Qg,Qh,Qi,Qj,Qk,Ql,Qm,Qn,true_and,and_true,Qo,Qp,Qq,Qr,Qs,Qt,Qu,Qv,Qw,Qx,Qy,Qz,Ra,Rb,Rc,Rd,Re,Rf,Rg,Rh,Ri,Rj,Rk,Rl,Rm,Ya,Yb,Yc,Rn,Ro,Rp,Yd,Ye,Rq,Rs,Rt,Ru,Rv,Rw,Rx]
            refine(asg ⟨hz0,.inr hn1⟩).mono ?_
            rintro _ s2 ⟨ow2,x2,g1,g2⟩
            simp only[Fz,Qa,Qb,Qc,Qd,Qe,Qf,Qg,Qh,Qi,Qj,Qk,Ql,Qm,Qn,true_and,and_true,Qo,Qp,Qq,Qr,Qs,Qt,Qu,Qv,Qw,Qx,Qy,Qz,Ra,Rb,Rc,Rd,Re,Rf,Rg,Rh,Ri,Rj,Rk,Rl,Rm,Ya,Yb,Yc,Rn,Ro,Rp,Yd,Ye,Rq,Rs,Rt,Ru,Rv,Rw,Rx]
            exact hK s2 ow2 x2 _ g1 g2 rfl
          · simp only[decide_eq_false hn1,Fz,Qa,Qb,Qc,Qd,Qe,Qf,Qg,Qh,Qi,Qj,Qk,Ql,Qm,Qn,true_and,and_true,Qo,Qp,Qq,Qr,Qs,Qt,Qu,Qv,Qw,Qx,Qy,Qz,Ra,Rb,Rc,Rd,Re,Rf,Rg,Rh,Ri,Rj,Rk,Rl,Rm,Ya,Yb,Yc,Rn,Ro,Rp,Yd,Ye,Rq,Rs,Rt,Ru,Rv,Rw,Rx]
            exact hK s1 ow1 x _ (non (by rintro⟨_,q | q⟩;exact hl1 q;exact hn1 q)) st1.w rfl
      · simp only[decide_eq_false hz0,Fz,Qa,Qb,Qc,Qd,Qe,Qf,Qg,Qh,Qi,Qj,Qk,Ql,Qm,Qn,true_and,and_true,Qo,Qp,Qq,Qr,Qs,Qt,Qu,Qv,Qw,Qx,Qy,Qz,Ra,Rb,Rc,Rd,Re,Rf,Rg,Rh,Ri,Rj,Rk,Rl,Rm,Ya,Yb,Yc,Rn,Ro,Rp,Yd,Ye,Rq,Rs,Rt,Ru,Rv,Rw,Rx]
        exact hK s1 ow1 x _ (non (fun q=>hz0 q.1)) st1.w rfl
  have l1:=hb.load Dg
  simp only[AJ]at l1
  by_cases h2:1<O.length
  · have d2 : decide ((1 : Int) < (O.length : Int)) = true := decide_eq_true (by omega)
    have e:F9 v c O=Hj (EY v c (O,false,false)) c (O.getD 0 0) (O.getD 1 0):=by unfold F9;rw[if_pos h2]
    unfold Qa
    simp only[KW,ln,d2,QN,l1,AJ,Qa,Qb,Qc,Qd,Qe,Qf,Qg,Qh,Qi,Qj,Qk,Ql,Qm,Qn,true_and,and_true,Qo,Qp,Qq,Qr,Qs,Qt,Qu,Qv,Qw,Qx,Qy,Qz,Ra,Rb,Rc,Rd,Re,Rf,Rg,Rh,Ri,Rj,Rk,Rl,Rm,Ya,Yb,Yc,Rn,Ro,Rp,Yd,Ye,Rq,Rs,Rt,Ru,Rv,Rw,Rx]
    refine(Pb hE hcl (n:=n) hsm hz.w hW (Aj _ _ _) hO h2).mono ?_
    rintro _ s1 ⟨ow1,g1,g2⟩
    rw[← e]at g1
    have:=rest s1 ow1 (.bool true) g1 g2
    simp only[AJ,Qa,Qb,Qc,Qd,Qe,Qf,Qg,Qh,Qi,Qj,Qk,Ql,Qm,Qn,true_and,and_true,Qo,Qp,Qq,Qr,Qs,Qt,Qu,Qv,Qw,Qx,Qy,Qz,Ra,Rb,Rc,Rd,Re,Rf,Rg,Rh,Ri,Rj,Rk,Rl,Rm,Ya,Yb,Yc,Rn,Ro,Rp,Yd,Ye,Rq,Rs,Rt,Ru,Rv,Rw,Rx]at this ⊢
    exact this
  · have d2 : decide ((1 : Int) < (O.length : Int)) = false := decide_eq_false (by omega)
    have e:F9 v c O=EY v c (O,false,false):=by unfold F9;rw[if_neg h2]
    rw[← e]at hcl
    unfold Qa
    simp only[KW,ln,d2,Qa,Qb,Qc,Qd,Qe,Qf,Qg,Qh,Qi,Qj,Qk,Ql,Qm,Qn,true_and,and_true,Qo,Qp,Qq,Qr,Qs,Qt,Qu,Qv,Qw,Qx,Qy,Qz,Ra,Rb,Rc,Rd,Re,Rf,Rg,Rh,Ri,Rj,Rk,Rl,Rm,Ya,Yb,Yc,Rn,Ro,Rp,Yd,Ye,Rq,Rs,Rt,Ru,Rv,Rw,Rx]
    have:=rest s ow (.bool false) hcl (AH.refl _ _ _)
    simp only[AJ,Qa,Qb,Qc,Qd,Qe,Qf,Qg,Qh,Qi,Qj,Qk,Ql,Qm,Qn,true_and,and_true,Qo,Qp,Qq,Qr,Qs,Qt,Qu,Qv,Qw,Qx,Qy,Qz,Ra,Rb,Rc,Rd,Re,Rf,Rg,Rh,Ri,Rj,Rk,Rl,Rm,Ya,Yb,Yc,Rn,Ro,Rp,Yd,Ye,Rq,Rs,Rt,Ru,Rv,Rw,Rx]at this ⊢
    exact this
theorem Uk     {E : BJ}  (hE : Good E) {ow : Ow} {s : AG}  {p : Nat} {x : Sf} {v : Sv} (h : Ac  ow s p x v) {n : Nat} (hf : Lm  n v) (hv3 : Mu   (AW    v 0).value) (hT : v.trace.length ≤ 1000000) (hW : CD  v.watches ≤ 90000000) {L : List Int} (hlen : L.length ≤ 12) (hL : ∀ q ∈ L, VL n q) {b : Nat} {u : AV} (hb : b ≤ s.next) (hu : Ae      b s u (A3  L)) (hus : ∀ j, EO   u = some j → (ow j).1 ≠ p ∧ j < s.next) :
    WF E 36 [AJ p,u] (fun r s'=>r=iv 0∧∃v' ow' x',KF (AW v 0) L v'∧Ac ow' s' p x' v'∧AH (BN p) ow s ow' s') s:=by
  have hptr:∀i,Made.val i .ptr=.ptr (some (i,0)):=fun _=>rfl
  have hbox:DD 44 (AV.ptr (some (p,0)))=some (AO 44 0 [AJ p],.ptr):=by simp[DD,AJ,AV.cells]
  have he:=Gb p
  have hsm:=hf.siz.small
  have hval:=hf.siz.value
  have PR:AH (fun _=>False) ow s (ext ow s.next (p,21,0)) (newObj s (AO 44 0 [AJ p])):=AH.new _ ow s _ _
  have h0:=h.keep PR (fun _ q=>q.elim)
  have b0:Ak (newObj s (AO 44 0 [AJ p])) s.next (AJ p):=Ak.new
  have l0:=b0.load Dg
  have u0:Ae b (newObj s (AO 44 0 [AJ p])) u (A3 L):=hu.old (B6.new s _) hb
  have t0:(ext ow s.next (p,21,0)) s.next=(p,21,0):=Cn (kp _)
  have us0:∀j,EO u=some j→((ext ow s.next (p,21,0)) j).1≠p∧j<s.next:=fun j hj=>by
    obtain⟨q1,q2⟩:=hus j hj
    exact⟨by rw[Dj q2];exact q1,q2⟩
  generalize hs0:newObj s (AO 44 0 [AJ p])=s0 at *
  have n0:s0.next=s.next+1:=by rw[← hs0];rfl
  generalize ext ow s.next (p,21,0)=ow0 at *
  have hany:(A9 (fun q=>!decide (VL n q)) L 0).isSome=false:=by
    rw[Bool.eq_false_iff,Ne,Cp]
    rintro⟨q,hq,hv⟩
    have:=hL q hq
    simp[this]at hv
  simp only[AJ]at hbox l0 he
  refine hE.go fe (by decide) rfl ?_
  have hs0':newObj s (AO 44 0 [.ptr (some (p,0))])=s0:=hs0
  simp only[jW,bG,AJ,hbox,hs0',hptr,bH,l0,he,bI,mC,lq,Qa,Qb,Qc,Qd,Qe,Qf,Qg,Qh,Qi,Qj,Qk,Ql,Qm,Qn,true_and,and_true,Qo,Qp,Qq,Qr,Qs,Qt,Qu,Qv,Qw,Qx,Qy,Qz,Ra,Rb,Rc,Rd,Re,Rf,Rg,Rh,Ri,Rj,Rk,Rl,Rm,Ya,Yb,Yc,Rn,Ro,Rp,Yd,Ye,Rq,Rs,Rt,Ru,Rv,Rw,Rx]
  refine(F0 hE (f:=fun q=>!decide (VL n q)) (g:=73) (cp:=[.ptr (some (s.next,0))]) (fun q hq=>fD hE h0 hsm hval b0 q) (by omega) u0).mono ?_
  rintro _ _ ⟨rfl,rfl⟩
  simp only[hany,bJ,l0,Qa,Qb,Qc,Qd,Qe,Qf,Qg,Qh,Qi,Qj,Qk,Ql,Qm,Qn,true_and,and_true,Qo,Qp,Qq,Qr,Qs,Qt,Qu,Qv,Qw,Qx,Qy,Qz,Ra,Rb,Rc,Rd,Re,Rf,Rg,Rh,Ri,Rj,Rk,Rl,Rm,Ya,Yb,Yc,Rn,Ro,Rp,Yd,Ye,Rq,Rs,Rt,Ru,Rv,Rw,Rx]
  have hback:WF E 63 [.ptr (some (p,0)),.int .i64 0] (fun _ s'=>∃x',Ac ow0 s' p x' (AW v 0)∧AH (BI p) ow0 s0 ow0 s'∧x'.w=x.w) s0:=DC hE h0 hf (level:=0) (by decide)
  refine hback.mono ?_
  rintro _ s1 ⟨x1,h1,st1,_⟩
  obtain⟨ph,va,wh,tr,li,hd,ebk,z1,z2,z3,z4,z5⟩:=Bm v 0
  have hz1:=hf.siz.back 0
  have hT1:(AW v 0).trace.length≤1000000:=by rw[ebk];exact hT
  have hW1:CD (AW v 0).watches≤90000000:=by rw[ebk];exact hW
  generalize AW v 0=vb at *
  have hn1:=st1.next
  have b1:Ak s1 s.next (AJ p):=b0.keep (st1.heap s.next (by omega) (by rw[t0];exact fun q=>absurd q.2.2.2 (by show ¬ 21<16;omega)))
  have l1:=b1.load Dg
  simp only[AJ]at l1
  have u1:Ae b s1 u (A3 L):=u0.keep fun j hj=>st1.heap j (by have:=(us0 j hj).2;omega) fun q=>(us0 j hj).1 q.1
  have stA:AH (BN p) ow s ow0 s1:=(PR.mono fun _ q=>q.elim).trans st1.b
  simp only[bK,Qa,Qb,Qc,Qd,Qe,Qf,Qg,Qh,Qi,Qj,Qk,Ql,Qm,Qn,true_and,and_true,Qo,Qp,Qq,Qr,Qs,Qt,Qu,Qv,Qw,Qx,Qy,Qz,Ra,Rb,Rc,Rd,Re,Rf,Rg,Rh,Ri,Rj,Rk,Rl,Rm,Ya,Yb,Yc,Rn,Ro,Rp,Yd,Ye,Rq,Rs,Rt,Ru,Rv,Rw,Rx]
  refine(ZC hE hlen (fun q hq=>⟨by have:=(hL q hq).2;omega,by have:=(hL q hq).2;omega⟩) (by omega) u1).mono ?_
  rintro _ s2 ⟨w,rfl,hw,o2⟩
  have h2:=h1.keep (AH.old (m:=fun _=>False) o2 (p,15,s2.next)) (fun _ q=>q.elim)
  have b2:Ak s2 s.next (AJ p):=b1.keep (o2.2 _ (by omega))
  have l2:=b2.load Dg
  have ldb:=h2.ld_broken
  simp only[AJ]at l2
  have hx:∀ (a b:AV),(AV.tuple [a,b])=.tuple [a,b]:=fun _ _=>rfl
  cases ht:Jk (Ej L)with
  | true =>
    simp only[Sc,V9,Qa,Qb,Qc,Qd,Qe,Qf,Qg,Qh,Qi,Qj,Qk,Ql,Qm,Qn,true_and,and_true,Qo,Qp,Qq,Qr,Qs,Qt,Qu,Qv,Qw,Qx,Qy,Qz,Ra,Rb,Rc,Rd,Re,Rf,Rg,Rh,Ri,Rj,Rk,Rl,Rm,Ya,Yb,Yc,Rn,Ro,Rp,Yd,Ye,Rq,Rs,Rt,Ru,Rv,Rw,Rx]
    exact⟨vb,_,x1,.none (.inl ht),h2,stA.trans (AH.old o2 _)⟩
  | false =>
    cases hbr:vb.broken with
    | true =>
      rw[hbr]at ldb
      simp only[Sc,V9,l2,AF,F4,ldb,Qa,Qb,Qc,Qd,Qe,Qf,Qg,Qh,Qi,Qj,Qk,Ql,Qm,Qn,true_and,and_true,Qo,Qp,Qq,Qr,Qs,Qt,Qu,Qv,Qw,Qx,Qy,Qz,Ra,Rb,Rc,Rd,Re,Rf,Rg,Rh,Ri,Rj,Rk,Rl,Rm,Ya,Yb,Yc,Rn,Ro,Rp,Yd,Ye,Rq,Rs,Rt,Ru,Rv,Rw,Rx]
      exact⟨vb,_,x1,.none (.inr hbr),h2,stA.trans (AH.old o2 _)⟩
    | false =>
      rw[hbr]at ldb
      simp only[Sc,l2,AF,F4,ldb,bL,mC,lq,Qa,Qb,Qc,Qd,Qe,Qf,Qg,Qh,Qi,Qj,Qk,Ql,Qm,Qn,true_and,and_true,Qo,Qp,Qq,Qr,Qs,Qt,Qu,Qv,Qw,Qx,Qy,Qz,Ra,Rb,Rc,Rd,Re,Rf,Rg,Rh,Ri,Rj,Rk,Rl,Rm,Ya,Yb,Yc,Rn,Ro,Rp,Yd,Ye,Rq,Rs,Rt,Ru,Rv,Rw,Rx]
      have hVO:∀q∈Ej L,VL n q:=fun q hq=>hL q (MW hq)
      have hOl:=IP L
      refine(Yn hE hw (by omega) (P:=VL n) (c:=fun a b=>isV vb.value b - isV vb.value a) (g:=76) (cp:=[.ptr (some (s.next,0))]) hVO ?_).mono ?_
      · intro t a b f1 f2 pa pb
        have ot:B6 s1.next s2 t:=⟨by omega,fun y hy=>f1 y fun e=>by
          rcases hw with⟨a,r1,r2⟩ | ⟨i,G,r1,r2,r3,r4⟩
          · rw[r1]at e;cases a<;>cases e
          · rw[r1]at e;injection e with e;omega⟩
        have ht':=h1.keep (AH.old (m:=fun _=>False) (o2.trans ot) (0,0,0)) (fun _ q=>q.elim)
        exact fb hE ht' hv3 hsm hz1.value (b2.keep (ot.2 _ (by omega))) pa pb
      rintro _ s3 ⟨hw3,n3,f3⟩
      have o3:B6 s1.next s2 s3:=⟨by omega,fun y hy=>f3 y fun e=>by
          rcases hw with⟨a,r1,r2⟩ | ⟨i,G,r1,r2,r3,r4⟩
          · rw[r1]at e;cases a<;>cases e
          · rw[r1]at e;injection e with e;omega⟩
      have o13:B6 s1.next s1 s3:=o2.trans o3
      have hO:Fp (fun a b=>isV vb.value b - isV vb.value a) (Ej L)=By vb L:=rfl
      rw[hO]at hw3
      have hbl:=Pl hw3.slice.isCell.2
      have hbx:=Uu hw3.slice.isCell.2 false false
      generalize hs4:newObj s3 (AO 104 0 [w,.bool false,.bool false])=s4
      have n4:s4.next=s3.next+1:=by rw[← hs4];rfl
      have o4:B6 s3.next s3 s4:=by rw[← hs4];exact B6.new s3 _
      have o14:B6 s1.next s1 s4:=o13.trans (o4.mono (by have:=o13.1;omega))
      have hbn:C8 s4 s3.next [w,.bool false,.bool false]:=by rw[← hs4];exact C8.new
      have hlO:(By vb L).length=(Ej L).length:=Ml _ _
      have b4:Ak s4 s.next (AJ p):=b1.keep (o14.2 _ (by omega))
      have l4:=b4.load Dg
      simp only[AJ]at l4
      have st4:AH (fun _=>False) ow0 s1 (fun j=>if j<s1.next then ow0 j else if j=s3.next then (p,14,s3.next)else (p,15,s3.next)) s4:=⟨o14.1,fun j hj _=>if_pos hj,fun j hj _=>o14.2 j hj⟩
      have tc:(fun j=>if j<s1.next then ow0 j else if j=s3.next then (p,14,s3.next)else (p,15,s3.next):Ow) s3.next=(p,14,s3.next):=by
        show(if _ then _ else if _ then _ else _:BT)=_
        rw[if_neg (by have:=o13.1;omega),if_pos rfl]
      have tr':∀i,s1.next≤i→i<s3.next→(fun j=>if j<s1.next then ow0 j else if j=s3.next then (p,14,s3.next)else (p,15,s3.next):Ow) i=(p,15,s3.next):=fun i r1 r2=>by
        show(if _ then _ else if _ then _ else _:BT)=_
        rw[if_neg (by omega),if_neg (by omega)]
      have tb:(fun j=>if j<s1.next then ow0 j else if j=s3.next then (p,14,s3.next)else (p,15,s3.next):Ow) s.next=(p,21,0):=by
        show(if _ then _ else if _ then _ else _:BT)=_
        rw[if_pos (by omega)];exact t0
      have h4:=h1.keep st4 (fun _ q=>q.elim)
      generalize (fun j=>if j<s1.next then ow0 j else if j=s3.next then (p,14,s3.next)else (p,15,s3.next):Ow)=ow4 at *
      have stB:AH (BN p) ow s ow4 s4:=stA.trans (st4.mono fun _ q=>q.elim)
      by_cases hnil:Ej L=[]
      · have hO0 : By     vb L = [] := by unfold By;     rw [hnil]; rfl
        have lnw:∀s,A6 Try.prog s 23 w=some (iv 0):=fun s=>by
          have:=hw3.slice.len Try.underlying23 s
          rw[hO0]at this
          exact this
        have d1:decide ((1:Int)<0)=false:=rfl
        simp only[QM,hbl,hbx,hs4,hptr,KW,lnw,d1,KX,decide_true,KY,l4,Qa,Qb,Qc,Qd,Qe,Qf,Qg,Qh,Qi,Qj,Qk,Ql,Qm,Qn,true_and,and_true,Qo,Qp,Qq,Qr,Qs,Qt,Qu,Qv,Qw,Qx,Qy,Qz,Ra,Rb,Rc,Rd,Re,Rf,Rg,Rh,Ri,Rj,Rk,Rl,Rm,Ya,Yb,Yc,Rn,Ro,Rp,Yd,Ye,Rq,Rs,Rt,Ru,Rv,Rw,Rx]
        refine(J2 hE h4 hT1).mono ?_
        rintro _ s5 ⟨ow5,x5,g1,g2,_⟩
        simp only[Fz,Qa,Qb,Qc,Qd,Qe,Qf,Qg,Qh,Qi,Qj,Qk,Ql,Qm,Qn,true_and,and_true,Qo,Qp,Qq,Qr,Qs,Qt,Qu,Qv,Qw,Qx,Qy,Qz,Ra,Rb,Rc,Rd,Re,Rf,Rg,Rh,Ri,Rj,Rk,Rl,Rm,Ya,Yb,Yc,Rn,Ro,Rp,Yd,Ye,Rq,Rs,Rt,Ru,Rv,Rw,Rx]
        exact⟨DV vb,ow5,x5,.nil ht hbr hnil,g1,stB.trans g2.b⟩
      · have hOne : By     vb L ≠ [] := fun e => hnil (List.length_eq_zero_iff.1 (by rw [← hlO, e]; rfl))
        have hOk:A1 n (By vb L):=⟨fun q hq=>hVO q ((UN _ _ _).1 hq),by omega⟩
        have hfresh:vb.cl s3.next=none:=by
          cases hcc:vb.cl s3.next with
          | none=>rfl
          | some l =>
            obtain⟨_,_,_,q,_⟩:=h1.cls _ l hcc
            have:=o13.1
            omega
        have hw4:Ce s1.next s4 w (By vb L):=hw3.keep (by omega) fun j r1 r2=>o4.2 j r2
        have hwb:BO ow4 (p,15,s3.next) s4 w (A3 (By vb L)):=hw4.buf hOne fun i _ _ e=>by
          rcases hw3 with⟨a,r1,r2⟩ | ⟨j,G,r1,r2,r3,r4⟩
          · exact absurd r2 hOne
          · rw[r1]at e
            injection e with e
            subst e
            exact tr' j r2 r3
        have hcl4:Ac ow4 s4 p x1 (EY vb s3.next (By vb L,false,false)):=h4.clause hfresh ⟨w,hbn,tc,by omega,hwb⟩
        have hK:=Y9 hE h4 hz1 hv3 hT1 hW1 hfresh hOk hOne b4 ⟨tb,by have:=o14.1;omega⟩ hcl4 hwb (K:=Ends Try.prog jW.results (fun r s'=>r=iv 0∧∃v' ow' x',KF vb L v'∧Ac ow' s' p x' v'∧AH (BN p) ow s ow' s')) (x1:=u) (x3:=iv 0) (x5:=.bool true) (x7:=.bool false) (x8:=.bool false) (x9:=.bool false) (x10:=BE) (x11:=BE) (x12:=BE) ?_
        · simp only [QM,     hbl, hbx, hs4, hptr, Qa, Qb, Qc, Qd, Qe, Qf, Qg, Qh, Qi, Qj, Qk, Ql, Qm, Qn, true_and, and_true, Qo, Qp, Qq, Qr, Qs, Qt, Qu, Qv, Qw, Qx, Qy, Qz, Ra, Rb, Rc, Rd, Re, Rf, Rg, Rh, Ri, Rj, Rk, Rl, Rm, Ya, Yb, Yc, Rn, Ro, Rp, Yd, Ye, Rq, Rs, Rt, Ru, Rv, Rw, Rx]
          simp only[AJ,Qa,Qb,Qc,Qd,Qe,Qf,Qg,Qh,Qi,Qj,Qk,Ql,Qm,Qn,true_and,and_true,Qo,Qp,Qq,Qr,Qs,Qt,Qu,Qv,Qw,Qx,Qy,Qz,Ra,Rb,Rc,Rd,Re,Rf,Rg,Rh,Ri,Rj,Rk,Rl,Rm,Ya,Yb,Yc,Rn,Ro,Rp,Yd,Ye,Rq,Rs,Rt,Ru,Rv,Rw,Rx]at hK
          exact hK
        · intro s' ow' x' V g1 g2 g3
          simp only[jW,g3,Qa,Qb,Qc,Qd,Qe,Qf,Qg,Qh,Qi,Qj,Qk,Ql,Qm,Qn,true_and,and_true,Qo,Qp,Qq,Qr,Qs,Qt,Qu,Qv,Qw,Qx,Qy,Qz,Ra,Rb,Rc,Rd,Re,Rf,Rg,Rh,Ri,Rj,Rk,Rl,Rm,Ya,Yb,Yc,Rn,Ro,Rp,Yd,Ye,Rq,Rs,Rt,Ru,Rv,Rw,Rx]
          exact⟨_,ow',x',.put ht hbr hnil hfresh,g1,stB.trans g2⟩
def Bh(v:Sv):Sv:={ v with many:=DZ .i64 (v.many+1) }
def Cg(v:Sv)(b:Nat):Sv:=BF { v with limits:=v.limits++[(v.trail.length:Int)] } ((b:Int) * v.phase.getD b 0) none
def F6(v:Sv):Sv:=AW { v with model:=v.value } 0
abbrev HF:EJ:=⟨[],0,[],0,0⟩
structure Hq(n most:Nat)(I:Nat→Sv→Prop)(R:Int→Sv→Prop):Prop where
 ok:∀ {k v},I k v→k≤most∧FW n 50000000 v
 brk:∀ {k v},I k v→v.broken=true→R 0 v
 mid:∀ {k v c v1},I k v→v.broken=false→Bl v c v1→v1.trace.length≤1000000∧v1.learned.length≤100000000∧(v1.learned.length:Int)<v1.room∧(∀c ls b,v1.cl c=some (ls,b)→A1 n ls)∧∀b,1≤b→b≤n→v1.phase.getD b 0=1∨v1.phase.getD b 0=-1
 fail:∀ {k v c v1},I k v→v.broken=false→Bl v (some c) v1→v1.limits=[]→R 0 (DV v1)
 unk:∀ {k v c v1},I k v→v.broken=false→Bl v (some c) v1→v1.limits≠[]→most≤k→R 2 (AW v1 0)
 lrn:∀ {k v c v1},I k v→v.broken=false→Bl v (some c) v1→v1.limits≠[]→k<most→∃r,CS v1 c HF v1.trail.length 0 r∧A1 n (AU v1 r)∧0≤r.lev∧r.lev<100000000 ∧
  ∀h cn,h.length=v1.heat.length→v1.cl cn=none→I (k+1) (Ax (AW (At (Bh v1) h) r.lev.toNat) cn (AU v1 r))
 cool:∀ {k v v1},I k v→v.broken=false→Bl v none v1→∀h,h.length=v1.heat.length→I k (AW (At v1 h) 0)∧(AW (At v1 h) 0).learned=v1.learned
 maybe:∀ {k v v1},I k v→v.broken=false→Bl v none v1→(∀j,1≤j→j<n+1→v1.value.getD j 0≠0)→R 1 (F6 v1)
 dec:∀ {k v v1 b},I k v→v.broken=false→Bl v none v1→1≤b→b≤n→v1.value.getD b 0=0→I k (Cg v1 b)
theorem CS.many{v:Sv}{c at_:Nat}{a r:EJ}{l:Int}(h:CS v c a at_ l r):CS (Bh v) c a at_ l r:=by
 induction h with
 | last hc ha hs ho=>exact .last (v:=Bh v) hc ha hs ho
 | more hc ha hs ho hw hr ih=>exact .more (v:=Bh v) hc ha hs ho hw ih
theorem FA{v:Sv}:v.trail.length≤(Au v).2.trail.length:=by
 unfold Au LO
 have:=JN (n:=0) (l:=-(v.trail.getD v.head.toNat 0)) (v.watches.getD (place (-(v.trail.getD v.head.toNat 0))) []) [] (Bk v (place (-(v.trail.getD v.head.toNat 0))))
 dsimp only
 split<;>exact this
theorem Bl.trail{v v':Sv}{r:Option Nat}(h:Bl v r v'):v.trail.length≤v'.trail.length:=by
 induction h with
 | done _=>exact kp _
 | more h1 h2 _ ih =>
  have:=FA (v:=‹Sv›)
  rename_i v v1 v' r _
  have:=FA (v:=v)
  rw[h2]at this
  exact lF this ih
 | bad h1 h2 =>
  rename_i v v1 c
  have:=FA (v:=v)
  rw[h2]at this
  exact this
section
variable{E:BJ}{K:List AV→AG→Prop}{ow:Ow}{s:AG}{p:Nat}{x:Sf}{v:Sv}
theorem an(h:Ac ow s p x v){x1 x2 x3 x4 x5 x6 x7 x8 x9 x10 x11 x12 x13:AV}(hK:∀s',Ac ow s' p x (Bh v)→AH (BI p) ow s ow s'→K [AV.ptr (some (p,0)),x1,x2,x3,x4,x5,x6,x7,x8,x9,x10,x11,x12,x13] s'):
  Qb E P8 K [] [AV.ptr (some (p,0)),x1,x2,x3,x4,x5,x6,x7,x8,x9,x10,x11,x12,x13] s:=by
 obtain⟨s',g1,g2,g3,g4⟩:=h.set_many (DZ .i64 (v.many+1))
 simp only[P8,AF,Z2,h.ld_many,N3,BU,g1,AX,Qa,Qb,Qc,Qd,Qe,Qf,Qg,Qh,Qi,Qj,Qk,Ql,Qm,Qn,true_and,and_true,Qo,Qp,Qq,Qr,Qs,Qt,Qu,Qv,Qw,Qx,Qy,Qz,Ra,Rb,Rc,Rd,Re,Rf,Rg,Rh,Ri,Rj,Rk,Rl,Rm,Ya,Yb,Yc,Rn,Ro,Rp,Yd,Ye,Rq,Rs,Rt,Ru,Rv,Rw,Rx]
 exact hK s' g2 g3
theorem ao(hE:Good E)(h:Ac ow s p x (Bh v)){n:Nat}(hn:n≤500000)(hf:Lm n v)(hcl:∀c ls b,v.cl c=some (ls,b)→A1 n ls){c:Nat}{r:EJ}(hr:CS v c HF v.trail.length 0 r)(hL:A1 n (AU v r))(hl0:0≤r.lev)(hl1:r.lev<100000000)(hT:v.trace.length≤1000000)(hW:CD v.watches≤90000000)(hle:v.learned.length≤100000000){x1 x2 x3 x4 x6 x7 x8 x9 x10 x11 x12 x13:AV}
  (hK:∀s' ow' x' h' cn,h'.length=v.heat.length→v.cl cn=none→Ac ow' s' p x' (Ax (AW (At (Bh v) h') r.lev.toNat) cn (AU v r))→AH (BN p) ow s ow' s'→K [AV.ptr (some (p,0)),x1,x2,x3,x4,.ptr (some (c,0)),x6,x7,x8,x9,x10,x11,x12,x13] s'):
  Qb E P9 K [] [AV.ptr (some (p,0)),x1,x2,x3,x4,.ptr (some (c,0)),x6,x7,x8,x9,x10,x11,x12,x13] s:=by
 have hfm:Lm n (Bh v):=⟨⟨hf.siz.small,hf.siz.w,hf.siz.value,hf.siz.level,hf.siz.why,hf.siz.heat,hf.siz.phase,hf.siz.trail,hf.siz.limits⟩,hf.val,hf.lits,hf.lims⟩
 have hlm:AU (Bh v) r=AU v r:=rfl
 have hcl':∀c ls b,(Bh v).cl c=some (ls,b)→A1 n ls:=hcl
 have hr':CS (Bh v) c HF (Bh v).trail.length 0 r:=hr.many
 simp only[P9,Qa,Qb,Qc,Qd,Qe,Qf,Qg,Qh,Qi,Qj,Qk,Ql,Qm,Qn,true_and,and_true,Qo,Qp,Qq,Qr,Qs,Qt,Qu,Qv,Qw,Qx,Qy,Qz,Ra,Rb,Rc,Rd,Re,Rf,Rg,Rh,Ri,Rj,Rk,Rl,Rm,Ya,Yb,Yc,Rn,Ro,Rp,Yd,Ye,Rq,Rs,Rt,Ru,Rv,Rw,Rx]
 refine(X4 hE h (by omega) hfm hcl' hr').mono ?_
 rintro _ s1 ⟨lv,ow1,h',rfl,I1,h1,hl,b1,st1⟩
 rw[hlm]at b1
 have hf1:Lm n (At (Bh v) h'):=⟨⟨hf.siz.small,hf.siz.w,hf.siz.value,hf.siz.level,hf.siz.why,hl.trans hf.siz.heat,hf.siz.phase,hf.siz.trail,hf.siz.limits⟩,hf.val,hf.lits,hf.lims⟩
 have e:iv r.lev=iv ((r.lev.toNat:Nat):Int):=by rw[Int.toNat_of_nonneg hl0]
 have hlen:(AU v r).length=r.lits.length+1:=by
  unfold AU
  split
  ·rfl
  ·rw[C3];rfl
 have hsm:=I1.small
 have hle':=I1.len
 simp only[Qa,Qb,Qc,Qd,Qe,Qf,Qg,Qh,Qi,Qj,Qk,Ql,Qm,Qn,true_and,and_true,Qo,Qp,Qq,Qr,Qs,Qt,Qu,Qv,Qw,Qx,Qy,Qz,Ra,Rb,Rc,Rd,Re,Rf,Rg,Rh,Ri,Rj,Rk,Rl,Rm,Ya,Yb,Yc,Rn,Ro,Rp,Yd,Ye,Rq,Rs,Rt,Ru,Rv,Rw,Rx]
 rw[e]
 refine(Z9 hE h1 hf1 (level:=r.lev.toNat) (by omega) b1 hL (by omega) (by omega) hT hW hle).mono ?_
 rintro _ s2 ⟨cn,ow2,x2,f1,f2,f3⟩
 simp only[Qa,Qb,Qc,Qd,Qe,Qf,Qg,Qh,Qi,Qj,Qk,Ql,Qm,Qn,true_and,and_true,Qo,Qp,Qq,Qr,Qs,Qt,Qu,Qv,Qw,Qx,Qy,Qz,Ra,Rb,Rc,Rd,Re,Rf,Rg,Rh,Ri,Rj,Rk,Rl,Rm,Ya,Yb,Yc,Rn,Ro,Rp,Yd,Ye,Rq,Rs,Rt,Ru,Rv,Rw,Rx]
 exact hK s2 ow2 x2 h' cn hl f1 f2 (st1.trans f3)
theorem ap(hE:Good E)(h:Ac ow s p x v){n:Nat}(hn:n≤500000)(hval:v.value.length=n+1){x1 x2 x3 x4 x5 x6 x7 x8 x9 x10 x11 x12 x13:AV}(hK:∀s' ow' x',Ac ow' s' p x' { v with model:=v.value }→AH (BN p) ow s ow' s'→K [AV.ptr (some (p,0)),x1,x2,x3,x4,x5,x6,x7,x8,x9,x10,x11,x12,x13] s'):
  Qb E QG K [] [AV.ptr (some (p,0)),x1,x2,x3,x4,x5,x6,x7,x8,x9,x10,x11,x12,x13] s:=by
 simp only[QG,AF,ET,h.ld_val,Qa,Qb,Qc,Qd,Qe,Qf,Qg,Qh,Qi,Qj,Qk,Ql,Qm,Qn,true_and,and_true,Qo,Qp,Qq,Qr,Qs,Qt,Qu,Qv,Qw,Qx,Qy,Qz,Ra,Rb,Rc,Rd,Re,Rf,Rg,Rh,Ri,Rj,Rk,Rl,Rm,Ya,Yb,Yc,Rn,Ro,Rp,Yd,Ye,Rq,Rs,Rt,Ru,Rv,Rw,Rx]
 refine(Hw hE (L:=v.value) (kp _) h.value.slice (by omega)).mono ?_
 rintro u s1 ⟨hu,ho⟩
 have st:AH (fun _=>False) ow s (ext ow s.next (p,11,0)) s1:=AH.old ho _
 have h1:=h.keep st (fun _ q=>q.elim)
 have hub:BO (ext ow s.next (p,11,0)) (p,11,0) s1 u (A3 v.value):=by
  rcases hu with⟨a,r1,r2⟩ | ⟨i,r1,r2,r3,r4⟩
  ·rw[r2]at hval;cases hval
  ·have hb:Ce s.next s1 u v.value:=.inr ⟨i,[],r1,r2,r3,by simpa using r4⟩
   exact hb.buf (fun e=>by rw[e]at hval;cases hval) fun j q1 _ _=>Cn q1
 obtain⟨s2,g1,g2,g3,g4⟩:=h1.set_model hub
 simp only[NM,AF,BU,g1,AX,Qa,Qb,Qc,Qd,Qe,Qf,Qg,Qh,Qi,Qj,Qk,Ql,Qm,Qn,true_and,and_true,Qo,Qp,Qq,Qr,Qs,Qt,Qu,Qv,Qw,Qx,Qy,Qz,Ra,Rb,Rc,Rd,Re,Rf,Rg,Rh,Ri,Rj,Rk,Rl,Rm,Ya,Yb,Yc,Rn,Ro,Rp,Yd,Ye,Rq,Rs,Rt,Ru,Rv,Rw,Rx]
 exact hK s2 _ _ g2 ((st.mono fun _ q=>q.elim).trans g3.b)
theorem aq(h:Ac ow s p x v)(hl:v.limits.length≤1000000000){x1 x2 x3 x4 x5 x6 x7 x8 x9 x10 x11 x12 x13:AV}(hK:∀s' ow' x',Ac ow' s' p x' { v with limits:=v.limits++[(v.trail.length:Int)] }→AH (BN p) ow s ow' s'→K [AV.ptr (some (p,0)),x1,x2,x3,x4,x5,x6,x7,x8,x9,x10,x11,x12,x13] s'):
  Qb E QJ K [] [AV.ptr (some (p,0)),x1,x2,x3,x4,x5,x6,x7,x8,x9,x10,x11,x12,x13] s:=by
 have hms:∀ (m:Nat) (i:Nat),Made.val i (.slice m)=.slice (some (i,0)) m (some m):=fun _ _=>rfl
 have ln:∀s,A6 Try.prog s 23 x.tr=some (iv (v.trail.length:Int)):=fun s=>by
  have:=h.trail.len Try.underlying23 s
  rw[kn]at this
  exact this
 have bl:=Cj (P:=Try.prog) (t:=23) (v:=iv (v.trail.length:Int)) Try.underlying23 Be Pd rfl rfl
 have st:AH (fun _=>False) ow s (ext ow s.next (0,0,0)) (newObj s (AO 3 1 [iv (v.trail.length:Int)])):=AH.new _ ow s _ _
 have h1:=h.keep st (fun _ q=>q.elim)
 obtain⟨u,s1,s2,ow',g1,g2,g3,g4⟩:=h1.push_limits hl (v.trail.length:Int) (q:=s.next) (ty:=3) (sz':=1) (by rw[AY,if_pos rfl])
 simp only[QJ,AF,E0,Ge,h.ld_lim,h.ld_tr,ln,bl,hms,g1,BU,g2,AX,Qa,Qb,Qc,Qd,Qe,Qf,Qg,Qh,Qi,Qj,Qk,Ql,Qm,Qn,true_and,and_true,Qo,Qp,Qq,Qr,Qs,Qt,Qu,Qv,Qw,Qx,Qy,Qz,Ra,Rb,Rc,Rd,Re,Rf,Rg,Rh,Ri,Rj,Rk,Rl,Rm,Ya,Yb,Yc,Rn,Ro,Rp,Yd,Ye,Rq,Rs,Rt,Ru,Rv,Rw,Rx]
 exact hK s2 ow' _ g3 ((st.mono fun _ q=>q.elim).trans (g4.n (by decide) (by decide) (by decide)).b)
end
theorem S6{x y:Int}(h:y.natAbs=x.natAbs):y=x∨y=-x:=by omega
theorem Aw.pos   {n : Nat} {v : Sv} (h : Aw   n v) {x : Int} (hx : x ≠ 0) : 0 < Go.Proofs.Ytilhhmkdcoajnaa.Am.isV v.value x ↔ x ∈ v.trail := by
  constructor
  · intro hp
    by_cases hno:∀y∈v.trail,y.natAbs≠x.natAbs
    · have:=h.open_ _ hno
      exfalso
      unfold Go.Proofs.Ytilhhmkdcoajnaa.Am.isV at hp
      rw[this]at hp
      split at hp<;>omega
    · have:∃y∈v.trail,y.natAbs=x.natAbs:=by
        simpa using hno
      obtain⟨y,hy,e⟩:=this
      rcases S6 e with e | e
      · rw[← e];exact hy
      · have h1:=h.isV hy
        rw[e,J5 _ hx]at h1
        omega
  · intro hm
    rw[h.isV hm];decide
theorem Aw.neg{n:Nat}{v:Sv}(h:Aw n v){x:Int}(hx:x≠0):Go.Proofs.Ytilhhmkdcoajnaa.Am.isV v.value x<0↔-x∈v.trail:=by
 rw[← h.pos (x:=-x) (by omega),J5 _ hx]
 omega
theorem Aw.zero{n:Nat}{v:Sv}(h:Aw n v){x:Int}(hx:x≠0)(h1:x ∉ v.trail)(h2:-x ∉ v.trail):v.value.getD x.natAbs 0=0:=by
 apply IG
 have a:=h.pos hx
 have b:=h.neg hx
 have:¬ 0<Go.Proofs.Ytilhhmkdcoajnaa.Am.isV v.value x:=fun q=>h1 (a.1 q)
 have:¬ Go.Proofs.Ytilhhmkdcoajnaa.Am.isV v.value x<0:=fun q=>h2 (b.1 q)
 omega
theorem Aw.one{n:Nat}{v:Sv}(h:Aw n v){i j:Nat}{x y:Int}(hi:v.trail[i]? = some x)(hj:v.trail[j]? = some y)(e:x.natAbs=y.natAbs):i=j:=by
 have hl:i<(v.trail.map Int.natAbs).length:=by rw[kn];exact Af hi
 refine(List.getElem?_inj hl h.nodup).1 ?_
 rw[lg,lg,hi,hj]
 show some _=some _
 rw[e]
theorem Aw.two{n:Nat}{v:Sv}(h:Aw n v){x:Int}(h1:x∈v.trail)(h2:-x∈v.trail):False:=by
 obtain⟨i,hi,e1⟩:=mP h1
 obtain⟨j,hj,e2⟩:=mP h2
 have k1:v.trail[i]? = some x:=by rw[ky hi,e1]
 have k2:v.trail[j]? = some (-x):=by rw[ky hj,e2]
 have:=h.one k1 k2 (by omega)
 subst this
 rw[k1]at k2
 injection k2 with k2
 have:=(h.fit.lits x h1).1
 omega
theorem B4{l:List Int}{k:Nat}{x:Int}:x∈l.take k↔∃i,i<k∧l[i]? = some x:=by
 rw[List.mem_take_iff_getElem]
 constructor
 ·rintro⟨j,hm,e⟩
  have hj:j<l.length:=by omega
  exact⟨j,by omega,by rw[ky hj,e]⟩
 ·rintro⟨i,hi,e⟩
  have hl:=Af e
  refine⟨i,by omega,?_⟩
  rw[ky hl]at e
  injection e
theorem DS{l:List Int}{x:Int}:x∈l↔∃i:Nat,l[i]? = some x:=List.mem_iff_getElem?
def HY(L:List Int)(i:Nat):Nat:=L.countP fun x=>decide (x≤(i:Int))
theorem Na(A B:List Int)(i:Nat):HY (A++B) i=HY A i+HY B i:=List.countP_append
theorem Ry(L:List Int)(i:Nat):HY L i≤L.length:=List.countP_le_length
theorem IK{L:List Int}{i:Nat}(h:∀x∈L,x≤(i:Int)):HY L i=L.length:=by
 unfold HY
 rw[List.countP_eq_length]
 intro a ha
 exact decide_eq_true (h a ha)
theorem Oo{L:List Int}{i:Nat}(h:∀x∈L,(i:Int)<x):HY L i=0:=by
 unfold HY
 rw[List.countP_eq_zero]
 intro a ha
 have:=h a ha
 simp
 omega
theorem X8{L:List Int}{i j:Nat}(h:i≤j):HY L i≤HY L j:=by
 unfold HY
 refine List.countP_mono_left fun x _ hx=>?_
 have hx:=of_decide_eq_true hx
 exact decide_eq_true (by omega)
theorem CR{L:List Int}(hs:L.Pairwise (·<·)){k:Nat}{t:Int}(hk:L[k]? = some t):(∀x∈L.take k,x<t)∧∀x∈L.drop k,t≤x:=by
 have hl:=Af hk
 have e:L.drop k=t::L.drop (k+1):=by
  rw[List.drop_eq_getElem_cons hl]
  congr 1
  rw[ky hl]at hk
  injection hk
 have hs':(L.take k++L.drop k).Pairwise (·<·):=by rw[mi];exact hs
 rw[List.pairwise_append]at hs'
 obtain⟨h1,h2,h3⟩:=hs'
 refine⟨fun x hx=>h3 x hx t (by rw[e];exact kx ..),fun x hx=>?_⟩
 rw[e]at hx h2
 rcases lM.1 hx with q | q
 ·omega
 ·have:=(ml.1 h2).1 x q
  omega
theorem LF{L:List Int}(hs:L.Pairwise (·<·)){k i:Nat}{t:Int}(hk:L[k]? = some t)(hi:(i:Int)<t):HY L i=HY (L.take k) i∧HY L i≤k:=by
 have e:HY L i=HY (L.take k) i:=by
  have h:=Na (L.take k) (L.drop k) i
  rw[mi]at h
  rw[h,Oo (L:=L.drop k) fun x hx=>by have:=(CR hs hk).2 x hx;omega]
  omega
 refine⟨e,?_⟩
 rw[e]
 have:=Ry (L.take k) i
 rw[lI]at this
 omega
theorem Nb{L:List Int}(hs:L.Pairwise (·<·)){k i:Nat}{t:Int}(hk:L[k]? = some t)(hi:t≤(i:Int)):k+1≤HY L i:=by
 have hl:=Af hk
 have h:=Na (L.take (k+1)) (L.drop (k+1)) i
 rw[mi]at h
 have hf:HY (L.take (k+1)) i=(L.take (k+1)).length:=IK fun x hx=>by
  obtain⟨j,hj,e⟩:=B4.1 hx
  rcases ks j k with q | q
  ·have:=(CR hs hk).1 x (B4.2 ⟨j,q,e⟩)
   omega
  ·have:j=k:=by omega
   subst this
   rw[hk]at e
   injection e with e
   omega
 rw[hf,lI]at h
 omega
structure CT(n:Nat)(v:Sv):Prop where
 inv:Aw n v
 sorted:v.limits.Pairwise (·<·)
 below:∀x∈v.limits,x<(v.trail.length:Int)
 lev:∀ (i:Nat) (x:Int),v.trail[i]? = some x→v.level.getD x.natAbs 0=(HY v.limits i:Int)
 why:∀ (i:Nat) (x:Int),v.trail[i]? = some x→(v.why.getD x.natAbs none=none∧(i:Int)∈v.limits)∨∃c ls b,v.why.getD x.natAbs none=some c∧v.cl c=some (ls,b)∧ls.getD 0 0=x∧∀y∈ls,y≠x→-y∈v.trail.take i
 cls:∀c ls b,v.cl c=some (ls,b)→A1 n ls∧ls≠[]∧(ls.map Int.natAbs).Nodup∧b.2=false
theorem CT.of{n:Nat}{v v':Sv}(h:CT n v)(hi:Aw n v')(h1:v'.trail=v.trail)(h2:v'.limits=v.limits)(h3:v'.level=v.level)(h4:v'.why=v.why)(h5:v'.cl=v.cl):CT n v':=
 ⟨hi,by rw[h2];exact h.sorted,by rw[h1,h2];exact h.below,by rw[h1,h2,h3];exact h.lev,by rw[h1,h2,h4,h5];exact h.why,by rw[h5];exact h.cls⟩
theorem CT.lim{n:Nat}{v:Sv}(h:CT n v):∀x∈v.limits,0≤x:=fun x hx=>(h.inv.fit.lims x hx).1
theorem Gg{l:List Int}{x y:Int}{i:Nat}(h:(l++[x])[i]? = some y):(i<l.length∧l[i]? = some y)∨(i=l.length∧y=x):=by
 rcases ks i l.length with q | q
 ·rw[lG q]at h;exact .inl ⟨q,h⟩
 ·rw[lL q]at h
  have:i - l.length<1:=Af h
  have e:i - l.length=0:=by omega
  rw[e]at h
  exact .inr ⟨by omega,by simpa using h.symm⟩
theorem getD_set_ne{α:Type}{l:List α}{k j:Nat}{a d:α}(h:j≠k):(l.set k a).getD j d=l.getD j d:=by
 rw[lK,lK,lH,if_neg fun e=>h e.symm]
theorem Bn{α:Type}{l:List α}{k:Nat}{a d:α}(h:k<l.length):(l.set k a).getD k d=a:=by
 rw[Fg h,if_pos rfl]
theorem Aw.abs_ne{n:Nat}{v:Sv}(h:Aw n v){x y:Int}(hx:v.value.getD x.natAbs 0=0)(hy:y∈v.trail):y.natAbs≠x.natAbs:=fun e=>by
 have:=h.holds y hy
 rw[e,hx]at this
 rcases KA y with q | q<;>omega
theorem CT.assign{n:Nat}{v:Sv}(h:CT n v){x:Int}(hx:VL n x)(ho:v.value.getD x.natAbs 0=0){c:Nat}{ls:List Int}{b:Bool×Bool}(hc:v.cl c=some (ls,b))(h0:ls.getD 0 0=x)(hr:∀y∈ls,y≠x→-y∈v.trail):CT n (BF v x (some c)):=by
 have hz:=h.inv.fit.siz
 have hi:=h.inv.assign hx ho (some c)
 have hne:∀ {i:Nat} {y:Int},v.trail[i]? = some y→y.natAbs≠x.natAbs:=fun hy=>h.inv.abs_ne ho (kq hy)
 have hlx:x.natAbs<v.level.length:=by rw[hz.level];have:=hx.2;omega
 have hwx:x.natAbs<v.why.length:=by rw[hz.why];have:=hx.2;omega
 refine⟨hi,h.sorted,fun y hy=>?_,fun i y hy=>?_,fun i y hy=>?_,h.cls⟩
 ·have:=h.below y hy
  show y<((v.trail++[x]).length:Int)
  rw[kr];simp;omega
 ·show(v.level.set _ _).getD _ 0=(HY v.limits i:Int)
  rcases Gg hy with⟨h1,h2⟩ | ⟨h1,h2⟩
  ·rw[getD_set_ne (hne h2)];exact h.lev i y h2
  ·subst h2
   rw[Bn hlx,h1,IK fun z hz=>by have:=h.below z hz;omega]
 ·show((v.why.set _ _).getD _ none=none∧_)∨∃d ls b,(v.why.set _ _).getD _ none=some d∧v.cl d=some (ls,b)∧ls.getD 0 0=y∧∀z∈ls,z≠y→-z∈(v.trail++[x]).take i
  rcases Gg hy with⟨h1,h2⟩ | ⟨h1,h2⟩
  ·rw[getD_set_ne (hne h2),lV (by omega)]
   exact h.why i y h2
  ·subst h2
   rw[Bn hwx,h1,lV (by omega),lz]
   exact .inr ⟨c,ls,b,rfl,hc,h0,hr⟩
theorem SG{L:List Int}(hs:L.Pairwise (·<·)){m:Nat}(h0:∀x∈L,0≤x)(hm:∀x∈L,x<(m:Int)):L.length≤m:=by
 have hnd:(L.map fun x=>x.toNat+1).Nodup:=by
  rw[List.Nodup,List.pairwise_map]
  refine List.Pairwise.imp_of_mem ?_ hs
  intro a b ha hb hab
  have:=h0 a ha
  have:=h0 b hb
  omega
 have:=Cc hnd (n:=m) fun k hk=>by
  obtain⟨x,hx,rfl⟩:=List.mem_map.1 hk
  have:=h0 x hx
  have:=hm x hx
  omega
 simpa using this
theorem Aw.room{n:Nat}{v:Sv}(h:Aw n v){x:Int}(hx:VL n x)(ho:v.value.getD x.natAbs 0=0):v.trail.length+1≤n:=by
 have:=(h.assign hx ho none).fit.siz.trail
 have e:(BF v x none).trail=v.trail++[x]:=rfl
 rw[e,kr]at this
 exact this
theorem CT.guess {n : Nat} {v : Sv} (h : CT n v) {x : Int} (hx : VL n x) (ho : v.value.getD x.natAbs 0 = 0) : CT n (BF      { v with limits := v.limits ++ [(v.trail.length : Int)] } x none) := by
  have hz:=h.inv.fit.siz
  have hroom:=h.inv.room hx ho
  have hlen:=SG h.sorted h.lim h.below
  have hi0:Aw n { v with limits:=v.limits++[(v.trail.length:Int)] }:=by
    obtain⟨⟨hz,hv,hli,hlm⟩,g2,g3,g4,g5⟩:=h.inv
    refine⟨⟨⟨hz.small,hz.w,hz.value,hz.level,hz.why,hz.heat,hz.phase,hz.trail,?_⟩,hv,hli,fun y hy=>?_⟩,g2,g3,g4,g5⟩
    · show(v.limits++[_]).length≤n
      rw[kr];simp;omega
    · rcases List.mem_append.1 hy with q | q
      · exact hlm y q
      · rw[List.mem_singleton.1 q]
        exact⟨by omega,by show(v.trail.length:Int)≤v.trail.length;omega⟩
  have hi:=hi0.assign hx ho none
  have hne:∀ {i:Nat} {y:Int},v.trail[i]? = some y→y.natAbs≠x.natAbs:=fun hy=>h.inv.abs_ne ho (kq hy)
  have hlx:x.natAbs<v.level.length:=by rw[hz.level];have:=hx.2;omega
  have hwx:x.natAbs<v.why.length:=by rw[hz.why];have:=hx.2;omega
  refine⟨hi,?_,fun y hy=>?_,fun i y hy=>?_,fun i y hy=>?_,h.cls⟩
  · show(v.limits++[_]).Pairwise (·<·)
    rw[List.pairwise_append]
    exact⟨h.sorted,by simp,fun a ha b hb=>by rw[List.mem_singleton.1 hb];exact h.below a ha⟩
  · show y<((v.trail++[x]).length:Int)
    rw[kr]
    have hy:y∈v.limits++[(v.trail.length:Int)]:=hy
    rcases List.mem_append.1 hy with q | q
    · have:=h.below y q;simp;omega
    · rw[List.mem_singleton.1 q];simp;omega
  · show(v.level.set _ ((v.limits++[_]).length:Int)).getD _ 0=(HY (v.limits++[(v.trail.length:Int)]) i:Int)
    have hy:(v.trail++[x])[i]? = some y:=hy
    rcases Gg hy with⟨h1,h2⟩ | ⟨h1,h2⟩
    · rw[getD_set_ne (hne h2),Na,Oo (L:=[(v.trail.length:Int)]) fun z hz=>by rw[List.mem_singleton.1 hz];omega]
      exact h.lev i y h2
    · subst h2
      rw[Bn hlx,h1,IK fun z hz=>by
        rcases List.mem_append.1 hz with q | q
        · have:=h.below z q;omega
        · rw[List.mem_singleton.1 q];omega]
  · show((v.why.set _ _).getD _ none=none∧(i:Int)∈v.limits++[_])∨∃d ls b,(v.why.set _ _).getD _ none=some d∧v.cl d=some (ls,b)∧ls.getD 0 0=y∧∀z∈ls,z≠y→-z∈(v.trail++[x]).take i
    have hy:(v.trail++[x])[i]? = some y:=hy
    rcases Gg hy with⟨h1,h2⟩ | ⟨h1,h2⟩
    · rw [getD_set_ne (hne h2), lV                            (by omega)]
      rcases h.why i y h2 with⟨q1,q2⟩ | q
      · exact .inl ⟨q1,lE _ q2⟩
      · exact .inr q
    · subst h2
      rw[Bn hwx,h1]
      exact .inl ⟨rfl,lU _ (List.mem_singleton.2 rfl)⟩
theorem CT.perm {n : Nat} {v : Sv} (h : CT n v) {c : Nat} {ls ls' : List Int} {b : Bool × Bool} (hc : v.cl c = some (ls, b)) (hp : ls'.Perm ls) (h0 : ls.getD 0 0 ∈ v.trail → ls'.getD 0 0 = ls.getD 0 0) (hi : Aw   n { v with cl := AP    v.cl c (ls', b) }) : CT n { v with cl := AP    v.cl c (ls', b) } := by
  refine⟨hi,h.sorted,h.below,h.lev,fun i x hx=>?_,fun d ms b' hd=>?_⟩
  · rcases h.why i x hx with q | ⟨d, ms, b', q1, q2, q3, q4⟩
    · exact .inl q
    · by_cases e : d = c
      · subst e
        rw[hc]at q2
        injection q2 with q2
        injection q2 with q2 q2'
        subst q2
        exact .inr ⟨d,ls',b,q1,Aj _ _ _,by rw[h0 (by rw[q3];exact kq hx)];exact q3,fun y hy=>q4 y (hp.mem_iff.1 hy)⟩
      · exact .inr ⟨d,ms,b',q1,by show AP _ _ _ d=_;unfold AP;rw[if_neg e];exact q2,q3,q4⟩
  · have hd:AP v.cl c (ls',b) d=some (ms,b'):=hd
    unfold AP at hd
    by_cases e:d=c
    · rw[if_pos e]at hd
      injection hd with hd
      injection hd with hd hd'
      subst hd;subst hd'
      obtain⟨k1,k2,k3,k4⟩:=h.cls c ls b hc
      exact⟨⟨fun y hy=>k1.1 y (hp.mem_iff.1 hy),by rw[hp.length_eq];exact k1.2⟩,fun q=>k2 (by have:=hp.length_eq;rw[q]at this;exact List.length_eq_zero_iff.1 this.symm),((hp.map _).nodup_iff).2 k3,k4⟩
    · rw[if_neg e]at hd
      exact h.cls d ms b' hd
theorem CT.put{n:Nat}{v:Sv}(h:CT n v){c:Nat}{ls:List Int}{b:Bool×Bool}(hc:v.cl c=none)(hk:A1 n ls)(hne:ls≠[])(hnd:(ls.map Int.natAbs).Nodup)(hb:b.2=false)(hi:Aw n { v with cl:=AP v.cl c (ls,b) }):CT n { v with cl:=AP v.cl c (ls,b) }:=by
  refine⟨hi,h.sorted,h.below,h.lev,fun i x hx=>?_,fun d ms b' hd=>?_⟩
  · rcases h.why i x hx with q | ⟨d, ms, b', q1, q2, q3, q4⟩
    · exact .inl q
    · have e:d≠c:=fun e=>by rw[e,hc]at q2;cases q2
      exact .inr ⟨d,ms,b',q1,by show AP _ _ _ d=_;unfold AP;rw[if_neg e];exact q2,q3,q4⟩
  · have hd:AP v.cl c (ls,b) d=some (ms,b'):=hd
    unfold AP at hd
    by_cases e:d=c
    · rw[if_pos e]at hd
      injection hd with hd
      injection hd with hd hd'
      subst hd;subst hd'
      exact⟨hk,hne,hnd,hb⟩
    · rw[if_neg e]at hd
      exact h.cls d ms b' hd
theorem PW:∀ (D:List Int)(v:Sv),(∀x∈D,x.natAbs<v.value.length)→∀j,(D.foldl Ct v).value.getD j 0=if j∈D.map Int.natAbs then 0 else v.value.getD j 0
 | [],v,_,j=>by simp
 | x::D,v,h,j=>by
  have hx:=h x (kx ..)
  rw[ll,PW D (Ct v x) (fun y hy=>by show y.natAbs<(v.value.set _ _).length;rw[kv];exact h y (kz _ hy)) j]
  show(if j∈D.map Int.natAbs then (0:Int)else (v.value.set x.natAbs 0).getD j 0)=_
  rw[mA]
  by_cases h1:j∈D.map Int.natAbs
  ·rw[if_pos h1,if_pos (kz _ h1)]
  ·rw[if_neg h1]
   by_cases e:j=x.natAbs
   ·rw[e,Bn hx,if_pos (kx ..)]
   ·rw[getD_set_ne e,if_neg (by rw[lM];rintro(q | q);exact e q;exact h1 q)]
theorem PX:∀ (D:List Int)(v:Sv),(∀x∈D,x.natAbs<v.why.length)→∀j,(D.foldl Ct v).why.getD j none=if j∈D.map Int.natAbs then none else v.why.getD j none
 | [],v,_,j=>by simp
 | x::D,v,h,j=>by
  have hx:=h x (kx ..)
  rw[ll,PX D (Ct v x) (fun y hy=>by show y.natAbs<(v.why.set _ _).length;rw[kv];exact h y (kz _ hy)) j]
  show(if j∈D.map Int.natAbs then none else (v.why.set x.natAbs none).getD j none)=_
  rw[mA]
  by_cases h1:j∈D.map Int.natAbs
  ·rw[if_pos h1,if_pos (kz _ h1)]
  ·rw[if_neg h1]
   by_cases e:j=x.natAbs
   ·rw[e,Bn hx,if_pos (kx ..)]
   ·rw[getD_set_ne e,if_neg (by rw[lM];rintro(q | q);exact e q;exact h1 q)]
def DG(n:Nat)(v:Sv):Prop:=∀k,1≤k→k≤n→v.phase.getD k 0=1∨v.phase.getD k 0=-1
theorem Lg{n:Nat}:∀ (D:List Int)(v:Sv),DG n v→(D.map Int.natAbs).Nodup→(∀x∈D,v.value.getD x.natAbs 0=1∨v.value.getD x.natAbs 0=-1)→(∀x∈D,x.natAbs<v.phase.length)→DG n (D.foldl Ct v)
 | [],v,h,_,_,_=>h
 | x::D,v,h,hd,hv,hl=>by
  rw[mA,mV]at hd
  rw[ll]
  have hx:=hl x (kx ..)
  refine Lg D (Ct v x) ?_ hd.2 (fun y hy=>?_) (fun y hy=>by show y.natAbs<(v.phase.set _ _).length;rw[kv];exact hl y (kz _ hy))
  ·intro k h1 h2
   show(v.phase.set x.natAbs _).getD k 0=1∨(v.phase.set x.natAbs _).getD k 0=-1
   by_cases e:k=x.natAbs
   ·rw[e,Bn hx];exact hv x (kx ..)
   ·rw[getD_set_ne e];exact h k h1 h2
  ·show(v.value.set x.natAbs 0).getD y.natAbs 0=1∨(v.value.set x.natAbs 0).getD y.natAbs 0=-1
   rw[getD_set_ne fun e=>hd.1 (by rw[← e];exact List.mem_map_of_mem hy)]
   exact hv y (kz _ hy)
theorem CT.back {n : Nat} {v : Sv} (h : CT n v) {k : Nat} {t : Int} (hk : v.limits[k]? = some t) : CT n (AW    v k) ∧ (AW    v k).trail = v.trail.take t.toNat ∧ (AW    v k).limits = v.limits.take k ∧ (AW    v k).head = t ∧ (DG      n v → DG      n (AW    v k)) := by
  have hkl:=Af hk
  have htm:t∈v.limits:=kq hk
  have ht0:=h.lim t htm
  have htl:=h.below t htm
  have hgd:v.limits.getD k 0=t:=FH hk
  have e:AW v k=GV v t.toNat k:=by
    unfold AW
    rw[if_neg (by omega),hgd]
  rw[e]
  have hz:=h.inv.fit.siz
  have hsplit:v.trail=v.trail.take t.toNat++v.trail.drop t.toNat:=(mi _ _).symm
  have hnd:=h.inv.nodup
  rw[hsplit,la,ly]at hnd
  obtain⟨nd1,nd2,nd3⟩:=hnd
  have hDm:∀x∈v.trail.drop t.toNat,x∈v.trail:=fun x hx=>mh hx
  have hAm:∀x∈v.trail.take t.toNat,x∈v.trail:=fun x hx=>lS hx
  have hDl:∀x∈v.trail.drop t.toNat,x.natAbs<n+1:=fun x hx=>by have:=(h.inv.fit.lits x (hDm x hx)).2;omega
  obtain⟨ph,va,wh,ef,z1,z2,z3⟩:=Gf (v.trail.drop t.toNat) v
  have hval:=PW (v.trail.drop t.toNat) v (fun x hx=>by rw[hz.value];exact hDl x hx)
  have hwhy:=PX (v.trail.drop t.toNat) v (fun x hx=>by rw[hz.why];exact hDl x hx)
  have hphase:=fun hp:DG n v=>Lg (v.trail.drop t.toNat) v hp nd2 (fun x hx=>by
    have:=h.inv.holds x (hDm x hx)
    rw[this]
    rcases KA x with q | q<;>rw[q]<;>simp) (fun x hx=>by rw[hz.phase];exact hDl x hx)
  have notD:∀x∈v.trail.take t.toNat,x.natAbs ∉ (v.trail.drop t.toNat).map Int.natAbs:=fun x hx q=>nd3 _ (List.mem_map_of_mem hx) _ q rfl
  unfold GV
  rw[ef]at hval hwhy hphase ⊢
  have hlt:(v.trail.take t.toNat).length=t.toNat:=by rw[lI];omega
  have hlim:∀x∈v.limits.take k,x<t:=(CR h.sorted hk).1
  have hinv:Aw n { v with phase:=ph,value:=va,why:=wh,trail:=v.trail.take t.toNat,limits:=v.limits.take k,head:=(t.toNat:Int) }:=by
    refine⟨⟨⟨hz.small,hz.w,z2.trans hz.value,hz.level,z3.trans hz.why,hz.heat,z1.trans hz.phase,?_,?_⟩,?_,?_,?_⟩,nd1,?_,?_,h.inv.wc⟩
    · show(v.trail.take _).length≤n
      have:=hz.trail
      omega
    · show(v.limits.take _).length≤n
      have:=hz.limits
      rw[lI];omega
    · intro y hy
      obtain⟨j,hj,ej⟩:=mP hy
      have hj':va.getD j 0=y:=by rw[lK,ky hj,ej];rfl
      have:=hval j
      dsimp only at this
      rw[hj']at this
      rw[this]
      split
      · exact .inr (.inl rfl)
      · exact h.inv.fit.val.get j
    · intro x hx;exact h.inv.fit.lits x (hAm x hx)
    · intro x hx
      have:=hlim x hx
      have h0:=h.lim x (lS hx)
      refine⟨h0,?_⟩
      show x≤((v.trail.take t.toNat).length:Int)
      rw[hlt];omega
    · intro x hx
      show va.getD x.natAbs 0=Pc x
      have:=hval x.natAbs
      dsimp only at this
      rw[this,if_neg (notD x hx)]
      exact h.inv.holds x (hAm x hx)
    · intro j hj
      show va.getD j 0=0
      have:=hval j
      dsimp only at this
      rw[this]
      by_cases q:j∈(v.trail.drop t.toNat).map Int.natAbs
      · rw[if_pos q]
      · rw [if_neg q]
        refine h.inv.open_ j fun x hx e=>?_
        rw[hsplit]at hx
        rcases List.mem_append.1 hx with hx | hx
        · exact hj x hx e
        · exact q (by rw[← e];exact List.mem_map_of_mem hx)
  refine⟨⟨hinv,?_,?_,?_,?_,h.cls⟩,rfl,rfl,?_,hphase⟩
  · exact h.sorted.sublist (List.take_sublist _ _)
  · intro x hx
    show x<((v.trail.take t.toNat).length:Int)
    rw[hlt]
    have:=hlim x hx
    omega
  · intro i x hx
    have hx:(v.trail.take t.toNat)[i]? = some x:=hx
    have hil:=Af hx
    rw[lk (by omega)]at hx
    show v.level.getD x.natAbs 0=(HY (v.limits.take k) i:Int)
    rw[h.lev i x hx,(LF h.sorted hk (by omega)).1]
  · intro i x hx
    have hx':(v.trail.take t.toNat)[i]? = some x:=hx
    have hil:=Af hx'
    have hmem:=kq hx'
    have hx:v.trail[i]? = some x:=by rw[lk (by omega)]at hx';exact hx'
    have hw:wh.getD x.natAbs none=v.why.getD x.natAbs none:=by
      have:=hwhy x.natAbs
      dsimp only at this
      rw[this,if_neg (notD x hmem)]
    show(wh.getD x.natAbs none=none∧(i:Int)∈v.limits.take k)∨∃c ls b,wh.getD x.natAbs none=some c∧v.cl c=some (ls,b)∧ls.getD 0 0=x∧∀y∈ls,y≠x→-y∈(v.trail.take t.toNat).take i
    rw[hw,mW,mT (by omega)]
    rcases h.why i x hx with⟨q1,q2⟩ | q
    · refine .inl ⟨q1,?_⟩
      obtain⟨m,hm⟩:=DS.1 q2
      refine B4.2 ⟨m,?_,hm⟩
      rcases ks m k with hmk | hmk
      · exact hmk
      · exfalso
        have:(i:Int)∈v.limits.drop k:=by
          rw[DS]
          exact⟨m - k,by rw[lX,show k+(m - k)=m by omega];exact hm⟩
        have:=(CR h.sorted hk).2 _ this
        omega
    · exact .inr q
  · show(t.toNat:Int)=t
    omega
theorem L4{v:Sv}{k:Nat}(h:v.limits.length≤k):AW v k=v:=by unfold AW;rw[if_pos h]
abbrev lv(v:Sv)(x:Int):Int:=v.level.getD x.natAbs 0
def GT(v:Sv)(h:Nat)(ls:List Int):Prop:=(-(ls.getD 0 0)∈v.trail.take h→ls.getD 1 0∈v.trail∧lv v (ls.getD 1 0)≤lv v (ls.getD 0 0))∧(-(ls.getD 1 0)∈v.trail.take h→ls.getD 0 0∈v.trail∧lv v (ls.getD 0 0)≤lv v (ls.getD 1 0))
theorem FP{l:List Int}{i j:Nat}(h:i≤j){x:Int}(hx:x∈l.take i):x∈l.take j:=by
 obtain⟨k,h1,h2⟩:=B4.1 hx
 exact B4.2 ⟨k,by omega,h2⟩
theorem GT.mono{v:Sv}{h h':Nat}{ls:List Int}(k:GT v h ls)(hh:h'≤h):GT v h' ls:=⟨fun q=>k.1 (FP hh q),fun q=>k.2 (FP hh q)⟩
structure CW(v:Sv)(h:Nat)(X:List Nat):Prop where
 wat:∀c ls b,v.cl c=some (ls,b)→2≤ls.length→c∈v.watches.getD (place (ls.getD 0 0)) []∧c∈v.watches.getD (place (ls.getD 1 0)) []
 wcl:∀ (k:Nat) c ls b,c∈v.watches.getD k []→v.cl c=some (ls,b)→k=place (ls.getD 0 0)∨k=place (ls.getD 1 0)
 wnd:∀k,(v.watches.getD k []).Nodup
 wok:∀c ls b,v.cl c=some (ls,b)→2≤ls.length→GT v (h - 1) ls∧(c ∉ X→GT v h ls)
theorem CW.weak{v:Sv}{h h':Nat}{X:List Nat}(k:CW v h X)(hh:h'≤h - 1):CW v h' []:=
 ⟨k.wat,k.wcl,k.wnd,fun c ls b hc h2=>⟨(k.wok c ls b hc h2).1.mono (by omega),fun _=>(k.wok c ls b hc h2).1.mono hh⟩⟩
theorem CW.less{v:Sv}{h h':Nat}(k:CW v h [])(hh:h'≤h):CW v h' []:=
 ⟨k.wat,k.wcl,k.wnd,fun c ls b hc h2=>⟨((k.wok c ls b hc h2).2 (by simp)).mono (by omega),fun _=>((k.wok c ls b hc h2).2 (by simp)).mono hh⟩⟩
def Bu(a b:Nat→Option A5):Prop:=∀c,(a c=none→b c=none)∧∀ls t,a c=some (ls,t)→∃ls',b c=some (ls',t)∧ls'.Perm ls
theorem Bu.refl(a:Nat→Option A5):Bu a a:=fun c=>⟨fun h=>h,fun ls t h=>⟨ls,h,List.Perm.refl _⟩⟩
theorem Bu.trans{a b d:Nat→Option A5}(h:Bu a b)(k:Bu b d):Bu a d:=fun c=>⟨fun q=>(k c).1 ((h c).1 q),fun ls t q=>by
 obtain⟨l1,q1,q2⟩:=(h c).2 ls t q
 obtain⟨l2,q3,q4⟩:=(k c).2 l1 t q1
 exact⟨l2,q3,q4.trans q2⟩⟩
theorem Bu.back{a b:Nat→Option A5}(h:Bu a b){c:Nat}{ls:List Int}{t:Bool×Bool}(k:b c=some (ls,t)):∃ls',a c=some (ls',t)∧ls.Perm ls':=by
 cases hc:a c with
 | none=>rw[(h c).1 hc]at k;cases k
 | some l =>
  obtain⟨ls',t'⟩:=l
  obtain⟨l2,q1,q2⟩:=(h c).2 ls' t' hc
  rw[k]at q1
  injection q1 with q1
  injection q1 with q1 q1'
  subst q1;subst q1'
  exact⟨ls',rfl,q2⟩
theorem Bu.put{a:Nat→Option A5}{c:Nat}{ls ls':List Int}{t:Bool×Bool}(h:a c=some (ls,t))(hp:ls'.Perm ls):Bu a (AP a c (ls',t)):=fun d=>by
  unfold AP
  by_cases e:d=c
  · rw [if_pos e, e]
    refine⟨fun q=>(by rw[h]at q;cases q),fun ms u q=>?_⟩
    rw[h]at q
    injection q with q
    injection q with q1 q2
    subst q1;subst q2
    exact⟨ls',rfl,hp⟩
  · rw[if_neg e]
    exact⟨fun q=>q,fun ms u q=>⟨ms,q,List.Perm.refl _⟩⟩
structure Et(v v':Sv):Prop where
 tr:∃T,v'.trail=v.trail++T
 lev:∀x,(x∈v.trail∨-x∈v.trail)→lv v' x=lv v x
 cl:Bu v.cl v'.cl
 limits:v'.limits=v.limits
 learned:v'.learned=v.learned
 heat:v'.heat=v.heat
 phase:v'.phase=v.phase
 broken:v'.broken=v.broken
 model:v'.model=v.model
 trace:v'.trace=v.trace
 many:v'.many=v.many
 room:v'.room=v.room
theorem Et.refl(v:Sv):Et v v:=⟨⟨[],(mE _).symm⟩,fun _ _=>rfl,Bu.refl _,rfl,rfl,rfl,rfl,rfl,rfl,rfl,rfl,rfl⟩
theorem Et.mem{v v':Sv}(h:Et v v'){x:Int}(hx:x∈v.trail):x∈v'.trail:=by
 obtain⟨T,e⟩:=h.tr
 rw[e];exact lE _ hx
theorem Et.trans{v v1 v2:Sv}(h:Et v v1)(k:Et v1 v2):Et v v2:=by
 obtain⟨T,e⟩:=h.tr
 obtain⟨U,f⟩:=k.tr
 exact⟨⟨T++U,by rw[f,e,mD]⟩,fun x hx=>(k.lev x (hx.imp h.mem h.mem)).trans (h.lev x hx),h.cl.trans k.cl,k.limits.trans h.limits,k.learned.trans h.learned,k.heat.trans h.heat,k.phase.trans h.phase,k.broken.trans h.broken,k.model.trans h.model,k.trace.trans h.trace,k.many.trans h.many,k.room.trans h.room⟩
theorem Et.of{v v' w w':Sv}(h:Et v v')(a1:w.trail=v.trail)(a2:w.level=v.level)(a3:w.cl=v.cl)(a4:w.limits=v.limits)(a5:w.learned=v.learned)(a6:w.heat=v.heat)(a7:w.phase=v.phase)(a8:w.broken=v.broken)(a9:w.model=v.model)(a10:w.trace=v.trace)(a11:w.many=v.many)(a12:w.room=v.room)
  (b1:w'.trail=v'.trail) (b2:w'.level=v'.level) (b3:w'.cl=v'.cl) (b4:w'.limits=v'.limits) (b5:w'.learned=v'.learned) (b6:w'.heat=v'.heat) (b7:w'.phase=v'.phase) (b8:w'.broken=v'.broken) (b9:w'.model=v'.model) (b10:w'.trace=v'.trace) (b11:w'.many=v'.many) (b12:w'.room=v'.room):Et w w':=
 ⟨by rw[a1,b1];exact h.tr,by unfold lv;rw[a1,a2,b2];exact h.lev,by rw[a3,b3];exact h.cl,by rw[a4,b4];exact h.limits,by rw[a5,b5];exact h.learned,by rw[a6,b6];exact h.heat,by rw[a7,b7];exact h.phase,by rw[a8,b8];exact h.broken,by rw[a9,b9];exact h.model,by rw[a10,b10];exact h.trace,by rw[a11,b11];exact h.many,by rw[a12,b12];exact h.room⟩
theorem Hh{ls:List Int}{i j:Nat}(hi:i<ls.length)(hj:j<ls.length):(Ah ls i j).Perm ls:=by
 have:=List.set_set_perm hi hj
 unfold Ah
 rw[lK,lK,ky hi,ky hj]
 exact this
theorem TG{ls:List Int}{i j:Nat}(hj:j<ls.length):(Ah ls i j).getD j 0=ls.getD i 0:=by
 unfold Ah
 rw[Bn (by rw[kv];exact hj)]
theorem Nq{ls:List Int}{i j:Nat}(hi:i<ls.length)(hne:i≠j):(Ah ls i j).getD i 0=ls.getD j 0:=by
 unfold Ah
 rw[getD_set_ne hne,Bn hi]
theorem PV{ls:List Int}{i j k:Nat}(h1:k≠i)(h2:k≠j):(Ah ls i j).getD k 0=ls.getD k 0:=by
 unfold Ah
 rw[getD_set_ne h2,getD_set_ne h1]
theorem DW{ls:List Int}(h:(ls.map Int.natAbs).Nodup){i j:Nat}(hi:i<ls.length)(hj:j<ls.length)(e:(ls.getD i 0).natAbs=(ls.getD j 0).natAbs):i=j:=by
 refine(List.getElem?_inj (by rw[kn];exact hi) h).1 ?_
 rw[lg,lg,AQ (d:=(0:Int)) hi,AQ (d:=(0:Int)) hj]
 show some _=some _
 rw[e]
theorem Kx{val:List Int}:∀ {l:List Int}{k:Nat},CO val l k=none→∀y∈l,Go.Proofs.Ytilhhmkdcoajnaa.Am.isV val y<0
  | [],k,_,y,hy=>by cases hy
  | x::l,k,h,y,hy=>by
    unfold CO at h
    split at h
    · cases h
    · rename_i hx
      rcases lM.1 hy with e | e
      · rw[e];omega
      · exact Kx h y e
theorem S3{ls:List Int}(h2:2≤ls.length){y:Int}(hy:y∈ls):y=ls.getD 0 0∨y=ls.getD 1 0∨y∈ls.drop 2:=by
 obtain⟨i,hi,e⟩:=mP hy
 have hg:ls[i]? = some y:=by rw[ky hi,e]
 match i,hg with
 | 0,hg=>exact .inl (FH hg).symm
 | 1,hg=>exact .inr (.inl (FH hg).symm)
 | i+2,hg=>exact .inr (.inr (kq (i:=i) (by rw[lX,show 2+i=i+2 by omega];exact hg)))
theorem Tf{W:List (List Nat)}{w k:Nat}{M:List Nat}(hw:w<W.length):(W.set w M).getD k []=if k=w then M else W.getD k []:=Fg hw
theorem H9{W:List (List Nat)}{w k c:Nat}(hw:w<W.length):(Ci W w c).getD k []=if k=w then W.getD w []++[c]else W.getD k []:=Fg hw
def Dt(v:Sv)(w:Nat)(M:List Nat):Sv:=setW v (v.watches.set w M)
def GG(v:Sv)(c:Nat)(l:Int):Prop:=∃ls b,v.cl c=some (ls,b)∧2≤ls.length∧(∀y∈ls,-y∈v.trail)∧l∈ls
theorem GF{v:Sv}{w k:Nat}{M:List Nat}(hw:w<v.watches.length):(Dt v w M).watches.getD k []=if k=w then M else v.watches.getD k []:=Tf hw
theorem gq{ls:List Int}(h2:2≤ls.length)(hnd:(ls.map Int.natAbs).Nodup){l:Int}(hl:l=ls.getD 0 0∨l=ls.getD 1 0):
    (if ls.getD 0 0=l then Ah ls 0 1 else ls).Perm ls∧(if ls.getD 0 0=l then Ah ls 0 1 else ls).getD 1 0=l∧((if ls.getD 0 0=l then Ah ls 0 1 else ls).getD 0 0=ls.getD 1 0∧l=ls.getD 0 0∨(if ls.getD 0 0=l then Ah ls 0 1 else ls)=ls∧l=ls.getD 1 0):=by
  by_cases h:ls.getD 0 0=l
  · rw[if_pos h]
    exact⟨Hh (by omega) (by omega),by rw[TG (by omega)];exact h,.inl ⟨Nq (by omega) (by omega),h.symm⟩⟩
  · rw [if_neg h]
    rcases hl with e | e
    · exact absurd e.symm h
    · exact⟨List.Perm.refl _,e.symm,.inr ⟨rfl,e⟩⟩
theorem CW.clause{v v':Sv}{h:Nat}{X X':List Nat}{c:Nat}{ls ls':List Int}{b:Bool×Bool}(hW:CW v h X)(hX:∀d,d≠c→(d∈X→d∈X'))(hc:v.cl c=some (ls,b))(hcl:v'.cl=AP v.cl c (ls',b))(hw:v'.watches=v.watches)(hlen:ls'.length=ls.length)
    (hp:(place (ls'.getD 0 0)=place (ls.getD 0 0)∧place (ls'.getD 1 0)=place (ls.getD 1 0))∨(place (ls'.getD 0 0)=place (ls.getD 1 0)∧place (ls'.getD 1 0)=place (ls.getD 0 0)))
    (hother:∀d ms t,d≠c→v.cl d=some (ms,t)→2≤ms.length→∀hh,hh≤h→GT v hh ms→GT v' hh ms) (hself:2≤ls.length→GT v' (h - 1) ls'∧(c ∉ X'→GT v' h ls')):CW v' h X':=by
  have get:∀ {d:Nat} {ms:List Int} {t:Bool×Bool},v'.cl d=some (ms,t)→(d=c∧ms=ls'∧t=b)∨(d≠c∧v.cl d=some (ms,t)):=by
    intro d ms t hd
    rw[hcl]at hd
    unfold AP at hd
    by_cases e:d=c
    · rw[if_pos e]at hd
      injection hd with hd
      injection hd with q1 q2
      exact .inl ⟨e,q1.symm,q2.symm⟩
    · rw[if_neg e]at hd
      exact .inr ⟨e,hd⟩
  refine⟨fun d ms t hd h2=>?_,fun k d ms t hk hd=>?_,fun k=>by rw[hw];exact hW.wnd k,fun d ms t hd h2=>?_⟩
  · rw [hw]
    rcases get hd with⟨rfl,rfl,rfl⟩ | ⟨e,q⟩
    · have:=hW.wat d ls t hc (by omega)
      rcases hp with⟨p1,p2⟩ | ⟨p1,p2⟩
      · rw[p1,p2];exact this
      · rw[p1,p2];exact⟨this.2,this.1⟩
    · exact hW.wat d ms t q h2
  · rw [hw] at hk
    rcases get hd with⟨rfl,rfl,rfl⟩ | ⟨e,q⟩
    · have:=hW.wcl k d ls t hk hc
      rcases hp with⟨p1,p2⟩ | ⟨p1,p2⟩
      · rw[p1,p2];exact this
      · rw[p1,p2];exact this.symm
    · exact hW.wcl k d ms t hk q
  · rcases get hd with ⟨rfl, rfl, rfl⟩ | ⟨e, q⟩
    · exact hself (by omega)
    · obtain⟨r1,r2⟩:=hW.wok d ms t q h2
      exact⟨hother d ms t e q h2 _ (by omega) r1,fun hx=>hother d ms t e q h2 _ (kp _) (r2 fun hd'=>hx (hX d e hd'))⟩
theorem Ys       {n h : Nat} {v : Sv} {c : Nat} {l : Int} {ls : List Int} {b : Bool × Bool} {K rest : List Nat} (hC : CT n v) (hW : CW (Dt    v (place l) (K ++ c :: rest)) h (c :: rest)) (h1 : 1 ≤ h) (hh : h ≤ v.trail.length) (hl : v.trail[h - 1]? = some (-l)) (hll : lv v l = (v.limits.length : Int)) (hc : v.cl c = some (ls, b)) (h2 : 2 ≤ ls.length) (hwl : place l < v.watches.length) :
    Et v (AT v c l ls b).2.2∧CT n (AT v c l ls b).2.2 ∧
    ((AT v c l ls b).2.1=false→CW (Dt (AT v c l ls b).2.2 (place l) ((if (AT v c l ls b).1=true then K++[c]else K)++rest)) h rest) ∧
    ((AT v c l ls b).2.1=true→(AT v c l ls b).1=true∧CW (Dt (AT v c l ls b).2.2 (place l) (K++c::rest)) h (c::rest)∧GG (AT v c l ls b).2.2 c l):=by
  obtain⟨hcl,hne,hnd,hgone⟩:=hC.cls c ls b hc
  have hi:=hC.inv
  have hlt:-l∈v.trail:=kq hl
  have hl0:l≠0:=by have:=(hi.fit.lits _ hlt).1;omega
  have hlf:l ∉ v.trail:=fun q=>hi.two q hlt
  have hlh:-l∈v.trail.take h:=B4.2 ⟨h - 1,by omega,hl⟩
  have hn0:∀k,k<ls.length→ls.getD k 0≠0:=fun k hk=>(hcl.get hk).1
  have hcv:(Dt v (place l) (K++c::rest)).cl c=some (ls,b):=hc
  have hlw:l=ls.getD 0 0∨l=ls.getD 1 0:=by
    rcases hW.wcl (place l) c ls b (by rw[GF hwl,if_pos rfl];simp) hcv with q | q
    · exact .inl (D9 hl0 (hn0 0 (by omega)) q)
    · exact .inr (D9 hl0 (hn0 1 (by omega)) q)
  have hKnd:(K++c::rest).Nodup:=by
    have:=hW.wnd (place l)
    rw[GF hwl,if_pos rfl]at this
    exact this
  have hcK:c ∉ K∧c ∉ rest:=by
    rw[ly]at hKnd
    exact⟨fun q=>hKnd.2.2 c q c (kx ..) rfl,(mV.1 hKnd.2.1).1⟩
  unfold AT
  rw[if_neg (by rw[hgone];decide)]
  dsimp only
  obtain⟨hp,hg1,hturn⟩:=gq h2 hnd hlw
  generalize (if ls.getD 0 0=l then Ah ls 0 1 else ls)=ls1 at hp hg1 hturn ⊢
  have hl1:ls1.length=ls.length:=hp.length_eq
  have hcl1:A1 n ls1:=⟨fun y hy=>hcl.1 y (hp.mem_iff.1 hy),by rw[hl1];exact hcl.2⟩
  have hnd1:(ls1.map Int.natAbs).Nodup:=((hp.map _).nodup_iff).2 hnd
  have hw0:ls1.getD 0 0≠0:=(hcl1.get (k:=0) (by omega)).1
  have hwl':ls1.getD 0 0≠l:=fun e=>by
    have:=DW hnd1 (i:=0) (j:=1) (by omega) (by omega) (by rw[e,hg1])
    cases this
  have hpp:(place (ls1.getD 0 0)=place (ls.getD 0 0)∧place (ls1.getD 1 0)=place (ls.getD 1 0))∨(place (ls1.getD 0 0)=place (ls.getD 1 0)∧place (ls1.getD 1 0)=place (ls.getD 0 0)):=by
    rcases hturn with⟨q1,q2⟩ | ⟨q1,q2⟩
    · exact .inr ⟨by rw[q1],by rw[hg1,← q2]⟩
    · rw[q1];exact .inl ⟨rfl,rfl⟩
  have hwokm:GT v (h - 1) ls1:=by
    have:=(hW.wok c ls b hcv h2).1
    have this:GT v (h - 1) ls:=this
    rcases hturn with⟨q1,q2⟩ | ⟨q1,q2⟩
    · unfold GT
      rw[q1,hg1,q2]
      exact⟨this.2,this.1⟩
    · rw[q1];exact this
  have hCT1:CT n { v with cl:=AP v.cl c (ls1,b) }:=hC.perm hc hp (fun q=>by
    rcases hturn with⟨q1,q2⟩ | ⟨q1,q2⟩
    · rw[← q2]at q;exact absurd q hlf
    · rw[q1]) (hi.swap hc hcl1 (by omega))
  have hP1:Et v { v with cl:=AP v.cl c (ls1,b) }:=⟨⟨[],(mE _).symm⟩,fun _ _=>rfl,Bu.put hc hp,rfl,rfl,rfl,rfl,rfl,rfl,rfl,rfl,rfl⟩
  have hcl1':({ v with cl:=AP v.cl c (ls1,b) }:Sv).cl c=some (ls1,b):=Aj _ _ _
  have stayW:∀ (v':Sv) (X':List Nat),v'.cl=AP v.cl c (ls1,b)→v'.watches=v.watches→(∀d,d≠c→(d∈c::rest→d∈X'))→(∀ (ms:List Int) hh,hh≤h→GT v hh ms→GT v' hh ms)→(GT v' (h - 1) ls1∧(c ∉ X'→GT v' h ls1))→CW (Dt v' (place l) (K++c::rest)) h X':=by
    intro v' X' e1 e2 hX ho hs
    refine CW.clause hW hX hcv e1 (by show v'.watches.set _ _=v.watches.set _ _;rw[e2]) hl1 hpp (fun d ms t hd q q2 hh hh' hok=>ho ms hh hh' hok) (fun _=>hs)
  have e4:∀ (v':Sv),K++[c]++rest=K++c::rest:=fun _=>by simp
  by_cases hpos:0<Go.Proofs.Ytilhhmkdcoajnaa.Am.isV v.value (ls1.getD 0 0)
  ·
    rw[if_pos hpos]
    refine⟨hP1,hCT1,fun _=>?_,fun q=>by cases q⟩
    have hin:=(hi.pos hw0).1 hpos
    show CW (Dt _ (place l) ((if true=true then K++[c]else K)++rest)) h rest
    rw[if_pos rfl,e4 v]
    refine stayW _ rest rfl rfl (fun d hd q=>(lM.1 q).resolve_left hd) (fun ms hh hh' hok=>hok) ⟨hwokm,fun _=>⟨fun q=>?_,fun _=>⟨hin,?_⟩⟩⟩
    · exact(hi.two hin (lS q)).elim
    · rw[hg1]
      obtain⟨i,e⟩:=DS.1 hin
      have:=hC.lev i _ e
      show lv v (ls1.getD 0 0)≤lv v l
      rw[hll]
      unfold lv
      rw[this]
      have:=Ry v.limits i
      omega
  · rw[if_neg hpos]
    have hwnt:ls1.getD 0 0 ∉ v.trail:=fun q=>hpos ((hi.pos hw0).2 q)
    cases hfm:CO v.value (ls1.drop 2) 2 with
    | some i =>
      dsimp only
      have hil:=H7 hfm
      rw[lw]at hil
      obtain⟨y,hy1,hy2,hy3⟩:=Iv hfm
      rw[lX,show 2+(i - 2)=i by omega]at hy1
      have hgy:ls1.getD i 0=y:=FH hy1
      have hVy:=hcl1.get (k:=i) (by omega)
      rw[hgy]at hVy
      have hyn:-y ∉ v.trail:=fun q=>by
        have:=(hi.neg hVy.1).2 q
        omega
      have hyw:place y≠place (ls1.getD 0 0):=fun e=>by
        have:=D9 hVy.1 hw0 e
        have:=DW hnd1 (i:=i) (j:=0) (by omega) (by omega) (by rw[hgy,this])
        omega
      have hyl:place y≠place l:=fun e=>by
        have:=D9 hVy.1 hl0 e
        have:=DW hnd1 (i:=i) (j:=1) (by omega) (by omega) (by rw[hgy,this,hg1])
        omega
      have hwpl:place (ls1.getD 0 0)≠place l:=fun e=>hwl' (D9 hw0 hl0 e)
      have hyb:place y<v.watches.length:=by
        rw[hi.fit.siz.w]
        exact VL.place hVy
      have hsp:(Ah ls1 1 i).Perm ls1:=Hh (by omega) (by omega)
      have hs0:(Ah ls1 1 i).getD 0 0=ls1.getD 0 0:=PV (by omega) (by omega)
      have hs1:(Ah ls1 1 i).getD 1 0=y:=by rw[Nq (by omega) (by omega)];exact hgy
      have hmi:=hCT1.inv.move hcl1' hcl1 (by omega) (i:=i) (by omega)
      have hcM:({ v with cl:=AP v.cl c (ls1,b) }:Sv).cl c=some (ls1,b):=hcl1'
      have hclM:(Ch { v with cl:=AP v.cl c (ls1,b) } c ls1 b i).cl=AP v.cl c (Ah ls1 1 i,b):=by
        show AP (AP v.cl c (ls1,b)) c _=_
        rw[Iq]
      have hwM:(Ch { v with cl:=AP v.cl c (ls1,b) } c ls1 b i).watches=Ci v.watches (place y) c:=by
        show Ci v.watches (place (ls1.getD i 0)) c=_
        rw[hgy]
      have hCTM:CT n (Ch { v with cl:=AP v.cl c (ls1,b) } c ls1 b i):=by
        have hiM:Aw n { v with cl:=AP v.cl c (Ah ls1 1 i,b) }:=hi.swap hc (hcl1.swap (by omega) (by omega)) (by rw[C3,hl1];exact h2)
        have:=hC.perm (ls':=Ah ls1 1 i) hc (hsp.trans hp) (fun q=>by
          rw[hs0]
          rcases hturn with⟨q1,q2⟩ | ⟨q1,q2⟩
          · rw[← q2]at q;exact absurd q hlf
          · rw[q1]) hiM
        exact this.of hmi rfl rfl rfl rfl hclM
      refine⟨⟨⟨[],(mE _).symm⟩,fun _ _=>rfl,by rw[hclM];exact Bu.put hc (hsp.trans hp),rfl,rfl,rfl,rfl,rfl,rfl,rfl,rfl,rfl⟩,hCTM,fun _=>?_,fun q=>by cases q⟩
      show CW (Dt (Ch { v with cl:=AP v.cl c (ls1,b) } c ls1 b i) (place l) ((if false=true then K++[c]else K)++rest)) h rest
      rw[if_neg (by decide)]
      have hlist:∀k,(Dt (Ch { v with cl:=AP v.cl c (ls1,b) } c ls1 b i) (place l) (K++rest)).watches.getD k []=if k=place l then K++rest else if k=place y then v.watches.getD (place y) []++[c]else v.watches.getD k []:=by
        intro k
        rw[GF (by rw[hwM,Cv];exact hwl),hwM,H9 hyb]
      have hold:∀k,(Dt v (place l) (K++c::rest)).watches.getD k []=if k=place l then K++c::rest else v.watches.getD k []:=fun k=>GF hwl
      have hold':∀k,k≠place l→(Dt v (place l) (K++c::rest)).watches.getD k []=v.watches.getD k []:=fun k hk=>by rw[hold,if_neg hk]
      have hcy:c ∉ v.watches.getD (place y) []:=fun q=>by
        rcases hW.wcl (place y) c ls b (by rw[hold' _ hyl];exact q) hcv with e | e
        · rcases hpp with ⟨p1, p2⟩ | ⟨p1, p2⟩
          · rw[← p1]at e;exact hyw e
          · rw[← p2,hg1]at e;exact hyl e
        · rcases hpp with ⟨p1, p2⟩ | ⟨p1, p2⟩
          · rw[← p2,hg1]at e;exact hyl e
          · rw[← p1]at e;exact hyw e
      have hcw:c∈v.watches.getD (place (ls1.getD 0 0)) []:=by
        have:=hW.wat c ls b hcv h2
        rw[← hold' _ hwpl]
        rcases hpp with⟨p1,p2⟩ | ⟨p1,p2⟩
        · rw[p1];exact this.1
        · rw[p1];exact this.2
      have get:∀ {d:Nat} {ms:List Int} {t:Bool×Bool},AP v.cl c (Ah ls1 1 i,b) d=some (ms,t)→(d=c∧ms=Ah ls1 1 i∧t=b)∨(d≠c∧v.cl d=some (ms,t)):=by
        intro d ms t hd
        unfold AP at hd
        by_cases e:d=c
        · rw[if_pos e]at hd
          injection hd with hd
          injection hd with q1 q2
          exact .inl ⟨e,q1.symm,q2.symm⟩
        · rw[if_neg e]at hd
          exact .inr ⟨e,hd⟩
      refine⟨fun d ms t hd Lr=>?_,fun k d ms t hk hd=>?_,fun k=>?_,fun d ms t hd Lr=>?_⟩
      · have hd : AP    v.cl c (Ah    ls1 1 i, b) d = some (ms, t) := by rw [← hclM]; exact hd
        rcases get hd with⟨rfl,rfl,rfl⟩ | ⟨e,q⟩
        · rw[hs0,hs1,hlist,hlist,if_neg hwpl,if_neg (fun e=>hyw e.symm),if_neg hyl,if_pos rfl]
          exact⟨hcw,by simp⟩
        · have hw := hW.wat d ms t q Lr
          have step:∀k,d∈(Dt v (place l) (K++c::rest)).watches.getD k []→d∈(Dt (Ch { v with cl:=AP v.cl c (ls1,b) } c ls1 b i) (place l) (K++rest)).watches.getD k []:=by
            intro k hk
            rw[hlist]
            rw[hold]at hk
            split
            · rename_i hkl
              rw[if_pos hkl]at hk
              simp only[List.mem_append,lM]at hk ⊢
              rcases hk with q | q | q
              · exact .inl q
              · exact absurd q e
              · exact .inr q
            · rename_i hkl
              rw[if_neg hkl]at hk
              split
              · rename_i hky
                rw[hky]at hk
                exact lE _ hk
              · exact hk
          exact⟨step _ hw.1,step _ hw.2⟩
      · have hd : AP    v.cl c (Ah    ls1 1 i, b) d = some (ms, t) := by rw [← hclM]; exact hd
        rw[hlist]at hk
        rcases get hd with⟨rfl,rfl,rfl⟩ | ⟨e,q⟩
        · rw[hs0,hs1]
          by_cases k1:k=place l
          · rw [if_pos k1] at hk
            rcases List.mem_append.1 hk with q | q
            · exact absurd q hcK.1
            · exact absurd q hcK.2
          · rw[if_neg k1]at hk
            by_cases k2:k=place y
            · exact .inr k2
            · rw[if_neg k2]at hk
              have:=hW.wcl k d ls t (by rw[hold' _ k1];exact hk) hcv
              rcases hpp with⟨p1,p2⟩ | ⟨p1,p2⟩
              · rcases this with q | q
                · exact .inl (q.trans p1.symm)
                · exact absurd (q.trans (p2.symm.trans (by rw[hg1]))) k1
              · rcases this with q | q
                · exact absurd (q.trans (p2.symm.trans (by rw[hg1]))) k1
                · exact .inl (q.trans p1.symm)
        · refine hW.wcl k d ms t ?_ q
          rw[hold]
          split
          · rename_i k1
            rw[if_pos k1]at hk
            simp only[List.mem_append,lM]at hk ⊢
            rcases hk with q | q
            · exact .inl q
            · exact .inr (.inr q)
          · rename_i k1
            rw[if_neg k1]at hk
            split at hk
            · rename_i k2
              rcases List.mem_append.1 hk with q | q
              · rw[k2];exact q
              · exact absurd (List.mem_singleton.1 q) e
            · exact hk
      · rw[hlist]
        split
        · rw [ly]                at hKnd ⊢
          refine⟨hKnd.1,(mV.1 hKnd.2.1).2,fun a ha d hd=>hKnd.2.2 a ha d (kz _ hd)⟩
        · rename_i k1
          have hkn:=hW.wnd k
          rw[hold' _ k1]at hkn
          split
          · rename_i k2
            rw[k2]at hkn
            rw[ly]
            refine⟨hkn,by simp,fun a ha d hd e=>?_⟩
            rw[List.mem_singleton.1 hd]at e
            exact hcy (by rw[← e];exact ha)
          · exact hkn
      · have hd : AP    v.cl c (Ah    ls1 1 i, b) d = some (ms, t) := by rw [← hclM]; exact hd
        rcases get hd with⟨rfl,rfl,rfl⟩ | ⟨e,q⟩
        · have:GT v h (Ah ls1 1 i):=by
            refine⟨fun q=>?_,fun q=>?_⟩
            · rw[hs0]at q
              exfalso
              obtain⟨j,hj,ej⟩:=B4.1 q
              by_cases hjh:j=h - 1
              · rw[hjh,hl]at ej
                injection ej with ej
                exact hwl' (by omega)
              · have:=(hwokm.1 (B4.2 ⟨j,by omega,ej⟩)).1
                rw[hg1]at this
                exact hlf this
            · rw[hs1]at q
              exact absurd (lS q) hyn
          exact⟨this.mono (by omega),fun _=>this⟩
        · obtain⟨r1,r2⟩:=hW.wok d ms t q Lr
          exact⟨r1,fun hx=>r2 fun hd'=>hx ((lM.1 hd').resolve_left e)⟩
    | none =>
      dsimp only
      have hfalse:∀y∈ls1.drop 2,-y∈v.trail:=fun y hy=>(hi.neg (hcl1.1 y (mh hy)).1).1 (Kx hfm y hy)
      by_cases hneg:Go.Proofs.Ytilhhmkdcoajnaa.Am.isV v.value (ls1.getD 0 0)<0
      ·
        rw[if_pos hneg]
        refine⟨hP1,hCT1,fun q=>(by cases q),fun _=>⟨rfl,?_,ls1,b,hcl1',by omega,fun y hy=>?_,by rw[← hg1];exact kq (AQ (by omega))⟩⟩
        · exact stayW _ (c::rest) rfl rfl (fun d hd q=>q) (fun ms hh hh' hok=>hok) ⟨hwokm,fun q=>absurd (kx ..) q⟩
        · rcases S3      (by omega) hy with e | e | e
          · rw[e];exact(hi.neg hw0).1 hneg
          · rw[e,hg1];exact hlt
          · exact hfalse y e
      ·
        rw[if_neg hneg]
        have hwn:-(ls1.getD 0 0) ∉ v.trail:=fun q=>hneg ((hi.neg hw0).2 q)
        have hz0:=hi.zero hw0 hwnt hwn
        have hVw:=hcl1.get (k:=0) (by omega)
        have hCTa:CT n (BF { v with cl:=AP v.cl c (ls1,b) } (ls1.getD 0 0) (some c)):=hCT1.assign hVw hz0 hcl1' rfl (fun y hy hyw=>by
          rcases S3 (by omega) hy with e | e | e
          · exact absurd e hyw
          · rw[e,hg1];exact hlt
          · exact hfalse y e)
        have habs:∀ {y:Int},(y∈v.trail∨-y∈v.trail)→y.natAbs≠(ls1.getD 0 0).natAbs:=by
          rintro y (hy | hy)
          · exact hi.abs_ne hz0 hy
          · have:=hi.abs_ne hz0 hy
            rw[lJ]at this
            exact this
        have hlev:∀ {y:Int},(y∈v.trail∨-y∈v.trail)→lv (BF { v with cl:=AP v.cl c (ls1,b) } (ls1.getD 0 0) (some c)) y=lv v y:=fun hy=>by
          show(v.level.set _ _).getD _ 0=_
          rw[getD_set_ne (habs hy)]
        refine⟨⟨⟨[ls1.getD 0 0],rfl⟩,fun y hy=>hlev hy,Bu.put hc hp,rfl,rfl,rfl,rfl,rfl,rfl,rfl,rfl,rfl⟩,hCTa,fun _=>?_,fun q=>by cases q⟩
        show CW (Dt _ (place l) ((if true=true then K++[c]else K)++rest)) h rest
        rw[if_pos rfl,e4 v]
        have htk:∀hh,hh≤h→(v.trail++[ls1.getD 0 0]).take hh=v.trail.take hh:=fun hh hhh=>lV (by omega)
        have hoth:∀ (ms:List Int) hh,hh≤h→GT v hh ms→GT (BF { v with cl:=AP v.cl c (ls1,b) } (ls1.getD 0 0) (some c)) hh ms:=by
          intro ms hh hhh hok
          refine⟨fun q=>?_,fun q=>?_⟩
          · have q:-(ms.getD 0 0)∈(v.trail++[ls1.getD 0 0]).take hh:=q
            rw[htk hh hhh]at q
            obtain⟨k1,k2⟩:=hok.1 q
            refine⟨lE _ k1,?_⟩
            rw[hlev (.inl k1),hlev (.inr (lS q))]
            exact k2
          · have q:-(ms.getD 1 0)∈(v.trail++[ls1.getD 0 0]).take hh:=q
            rw[htk hh hhh]at q
            obtain⟨k1,k2⟩:=hok.2 q
            refine⟨lE _ k1,?_⟩
            rw[hlev (.inl k1),hlev (.inr (lS q))]
            exact k2
        refine stayW _ rest rfl rfl (fun d hd q=>(lM.1 q).resolve_left hd) hoth ⟨hoth ls1 _ (by omega) hwokm,fun _=>⟨fun q=>?_,fun _=>⟨lU _ (List.mem_singleton.2 rfl),?_⟩⟩⟩
        · have q:-(ls1.getD 0 0)∈(v.trail++[ls1.getD 0 0]).take h:=q
          rw[htk h (kp _)]at q
          exact absurd (lS q) hwn
        · rw[hg1,hlev (.inr hlt),hll]
          show(v.level.set _ _).getD _ 0≤_
          rw[Bn (by rw[hi.fit.siz.level];have:=hVw.2;omega)]
          exact mF _
theorem GG.more{v v':Sv}{c:Nat}{l:Int}(h:GG v c l)(h1:v'.cl=v.cl)(h2:v'.trail=v.trail):GG v' c l:=by
 obtain⟨ls,b,q1,q2,q3,q4⟩:=h
 exact⟨ls,b,by rw[h1];exact q1,q2,fun y hy=>by rw[h2];exact q3 y hy,q4⟩
theorem MZ        {n h : Nat} {l : Int} : ∀ (rest K : List Nat) (v : Sv), CT n v → CW (Dt    v (place l) (K ++ rest)) h rest → 1 ≤ h → h ≤ v.trail.length → v.trail[h - 1]? = some (-l) → lv v l = (v.limits.length : Int) → WL n v rest → place l < v.watches.length → isV v.value l < 0 →
    Et v (An l rest K v).2.2∧CT n (An l rest K v).2.2∧((An l rest K v).2.1=none→CW (Dt (An l rest K v).2.2 (place l) (An l rest K v).1) h []) ∧
    (∀c,(An l rest K v).2.1=some c→CW (Dt (An l rest K v).2.2 (place l) (An l rest K v).1) (h - 1) []∧GG (An l rest K v).2.2 c l)
  | [],K,v,hC,hW,h1,hh,hl,hll,hr,hwl,hf=>⟨Et.refl v,hC,fun _=>by rw[mE]at hW;exact hW,fun c q=>by cases q⟩
  | c::rest,K,v,hC,hW,h1,hh,hl,hll,hr,hwl,hf=>by
    obtain⟨ls,b,hc,hcl,h2⟩:=hr c kx
    obtain⟨p1,p2,p3,p4⟩:=Ys hC hW h1 hh hl hll hc h2 hwl
    obtain⟨t1,t2,t3,ls',t4,t5,t6⟩:=JP hC.inv (CD.shortN _) hc hcl h2 (l:=l) (a:=(AT v c l ls b).1) (f:=(AT v c l ls b).2.1) (v':=(AT v c l ls b).2.2) rfl
    have hl0:l≠0:=by
      have:=(hC.inv.fit.lits _ (kq hl)).1
      omega
    unfold An
    rw[hc]
    dsimp only
    generalize hr1:AT v c l ls b=r at p1 p2 p3 p4 t1 t2 t3 t4
    cases hfail:r.2.1 with
    | true =>
      obtain⟨k1,k2,k3⟩:=p4 hfail
      rw[if_pos rfl]
      have e:K++[c]++rest=K++c::rest:=by simp
      rw[k1,if_pos rfl,e]
      exact⟨p1,p2,fun q=>(by cases q),fun d q=>by
        injection q with q
        subst q
        exact⟨k2.weak (kp _),k3⟩⟩
    | false =>
      rw[if_neg (by decide)]
      have k3:=p3 hfail
      obtain⟨T,eT⟩:=p1.tr
      have hlr:r.2.2.trail[h - 1]? = some (-l):=by
        rw[eT,lG (by omega)];exact hl
      have hmem:-l∈v.trail:=kq hl
      have hfr:isV r.2.2.value l<0:=(p2.inv.neg hl0).2 (p1.mem hmem)
      have hwlr:WL n r.2.2 rest:=G2 t3 ⟨ls',b,t4,t5,by omega⟩ fun d hd=>hr d (kz _ hd)
      obtain⟨q1,q2,q3,q4⟩:=MZ rest (if r.1=true then K++[c]else K) r.2.2 p2 k3 h1 (by rw[eT,kr];omega) hlr (by rw[p1.lev l (.inr hmem),p1.limits];exact hll) hwlr (by rw[t3.wlen];exact hwl) hfr
      exact⟨p1.trans q1,q2,q3,q4⟩
theorem Yh{W:List (List Nat)}{w:Nat}(hw:w<W.length):W.set w (W.getD w [])=W:=by
 apply List.ext_getElem?
 intro i
 rw[lH]
 split
 ·rename_i e
  subst e
  first | rw[if_pos hw,AQ (d:=[]) hw] | rw[AQ (d:=[]) hw]
 ·rfl
theorem Jd          {n B : Nat} {v : Sv} (hC : CT n v) (hW : CW v v.head.toNat []) (hB : FW   n B v) (hlh : ∀ x ∈ v.limits, x ≤ v.head) (hh : v.head < (v.trail.length : Int)) :
    Et v (Au v).2∧CT n (Au v).2∧((Au v).1=none→CW (Au v).2 (Au v).2.head.toNat []∧(Au v).2.head=v.head+1) ∧
    ∀c,(Au v).1=some c→CW (Au v).2 v.head.toNat []∧∃l,GG (Au v).2 c l∧lv (Au v).2 l=(v.limits.length:Int):=by
  obtain⟨hk1,hk2,hk3⟩:=Cd hB hh
  have h0:=hB.h0
  have hi:=hC.inv
  have hlt:v.head.toNat<v.trail.length:=by omega
  have hg:=AQ (d:=(0:Int)) hlt
  have hy:v.trail.getD v.head.toNat 0∈v.trail:=kq hg
  have hVL:=hi.fit.lits _ hy
  have hwl:place (-(v.trail.getD v.head.toNat 0))<v.watches.length:=by
    rw[hi.fit.siz.w]
    exact VL.place ⟨by have:=hVL.1;omega,by have:=hVL.2;omega⟩
  generalize hyy:v.trail.getD v.head.toNat 0=y at *
  have hl0:-y≠0:=by have:=hVL.1;omega
  have hgl:=AQ (d:=([]:List Nat)) hwl
  have hLw:WL n v (v.watches.getD (place (-y)) []):=hi.wc _ (kq hgl)
  have hiA:Aw n (Bk v (place (-y))):=by
    obtain⟨⟨hz,hv,hli,hlm⟩,g2,g3,g4,g5⟩:=hi.setW (k:=place (-y)) (M:=[]) (fun d hd=>by cases hd)
    exact⟨⟨⟨hz.small,hz.w,hz.value,hz.level,hz.why,hz.heat,hz.phase,hz.trail,hz.limits⟩,hv,hli,hlm⟩,g2,g3,g4,g5⟩
  have hCA:CT n (Bk v (place (-y))):=hC.of hiA rfl rfl rfl rfl rfl
  have hyn:-y ∉ v.trail:=fun q=>hi.two hy q
  have hset:(v.watches.set (place (-y)) []).set (place (-y)) (v.watches.getD (place (-y)) [])=v.watches:=by
    rw[List.set_set,Yh hwl]
  have hWA:CW (Dt (Bk v (place (-y))) (place (-y)) ([]++v.watches.getD (place (-y)) [])) (v.head.toNat+1) (v.watches.getD (place (-y)) []):=by
    have ew:(Dt (Bk v (place (-y))) (place (-y)) ([]++v.watches.getD (place (-y)) [])).watches=v.watches:=by
      show(v.watches.set (place (-y)) []).set (place (-y)) ([]++_)=v.watches
      rw[lZ]
      exact hset
    refine⟨fun d ms t hd h2=>by rw[ew];exact hW.wat d ms t hd h2,fun k d ms t hk hd=>by rw[ew]at hk;exact hW.wcl k d ms t hk hd,fun k=>by rw[ew];exact hW.wnd k,fun d ms t hd h2=>?_⟩
    have hok:GT v v.head.toNat ms:=(hW.wok d ms t hd h2).2 (by simp)
    refine⟨by rw[Nat.add_sub_cancel];exact hok,fun hx=>?_⟩
    have hdn:=(hC.cls d ms t hd).1
    have hwat:=hW.wat d ms t hd h2
    refine⟨fun q=>?_,fun q=>?_⟩
    · obtain⟨j,hj,ej⟩:=B4.1 q
      have ej:v.trail[j]? = some (-(ms.getD 0 0)):=ej
      by_cases e:j=v.head.toNat
      · exfalso
        rw[e,hg]at ej
        injection ej with ej
        have:ms.getD 0 0=-y:=by omega
        rw[this]at hwat
        exact hx hwat.1
      · exact hok.1 (B4.2 ⟨j,by omega,ej⟩)
    · obtain⟨j,hj,ej⟩:=B4.1 q
      have ej:v.trail[j]? = some (-(ms.getD 1 0)):=ej
      by_cases e:j=v.head.toNat
      · exfalso
        rw[e,hg]at ej
        injection ej with ej
        have:ms.getD 1 0=-y:=by omega
        rw[this]at hwat
        exact hx hwat.2
      · exact hok.2 (B4.2 ⟨j,by omega,ej⟩)
  have hlvl:lv v (-y)=(v.limits.length:Int):=by
    unfold lv
    rw[lJ,hC.lev _ _ hg,IK fun x hx=>by have:=hlh x hx;omega]
  have hfv:isV v.value (-y)<0:=(hi.neg hl0).2 (by rw[lp];exact hy)
  obtain⟨q1,q2,q3,q4⟩:=MZ (h:=v.head.toNat+1) (l:=-y) (v.watches.getD (place (-y)) []) [] (Bk v (place (-y))) hCA hWA (by omega) (by show _≤v.trail.length;omega) (by show v.trail[v.head.toNat+1 - 1]? = _;rw[Nat.add_sub_cancel,lp];exact hg) hlvl hLw (by show place (-y)<(v.watches.set _ _).length;rw[kv];exact hwl) hfv
  have hPA:Et v (An (-y) (v.watches.getD (place (-y)) []) [] (Bk v (place (-y)))).2.2:=q1.of rfl rfl rfl rfl rfl rfl rfl rfl rfl rfl rfl rfl rfl rfl rfl rfl rfl rfl rfl rfl rfl rfl rfl rfl
  obtain⟨k1,k2⟩:=FM hl0 (v.watches.getD (place (-y)) []) [] (Bk v (place (-y))) hiA (fun d hd=>by cases hd) hLw hfv
  have hhd:(An (-y) (v.watches.getD (place (-y)) []) [] (Bk v (place (-y)))).2.2.head=v.head+1:=k1.head
  have hmemn:-y∈v.trail∨-(-y)∈v.trail:=.inr (by rw[lp];exact hy)
  unfold Au LO at hk1 ⊢
  rw[hyy]at hk1 ⊢
  generalize An (-y) (v.watches.getD (place (-y)) []) [] (Bk v (place (-y)))=r at *
  obtain⟨K,bad,v1⟩:=r
  dsimp only at *
  cases bad with
  | none =>
    refine⟨hPA.of rfl rfl rfl rfl rfl rfl rfl rfl rfl rfl rfl rfl rfl rfl rfl rfl rfl rfl rfl rfl rfl rfl rfl rfl,q2.of hk1.inv rfl rfl rfl rfl rfl,fun _=>⟨?_,hhd⟩,fun c q=>by cases q⟩
    have:=q3 rfl
    have e:(setW v1 (v1.watches.set (place (-y)) K)).head.toNat=v.head.toNat+1:=by
      show v1.head.toNat=_
      rw[hhd];omega
    show CW (setW v1 (v1.watches.set (place (-y)) K)) _ []
    rw[e]
    exact this
  | some c =>
    refine⟨hPA.of rfl rfl rfl rfl rfl rfl rfl rfl rfl rfl rfl rfl rfl rfl rfl rfl rfl rfl rfl rfl rfl rfl rfl rfl,q2.of hk1.inv rfl rfl rfl rfl rfl,fun q=>(by cases q),fun d q=>?_⟩
    injection q with q
    subst q
    obtain⟨g1,g2⟩:=q4 c rfl
    rw[Nat.add_sub_cancel]at g1
    refine⟨⟨g1.wat,g1.wcl,g1.wnd,g1.wok⟩,-y,g2.more rfl rfl,?_⟩
    have:=hPA.lev (-y) hmemn
    rw[hlvl]at this
    exact this
theorem Bl.cw{n B:Nat}{v v':Sv}{r:Option Nat}(k:Bl v r v'):CT n v→CW v v.head.toNat []→FW n B v→(∀x∈v.limits,x≤v.head) →
  Et v v'∧CT n v'∧FW n B v'∧(r=none→CW v' v'.head.toNat []∧v'.head=(v'.trail.length:Int)) ∧
  ∀c,r=some c→∃h,CW v' h []∧(∀x∈v.limits,x≤(h:Int))∧∃l,GG v' c l∧lv v' l=(v.limits.length:Int):=by
 induction k with
 | @done v hd =>
  intro hC hW hB hlh
  refine⟨Et.refl _,hC,hB,fun _=>⟨hW,?_⟩,fun c q=>by cases q⟩
  have:=hB.h1
  omega
 | @more v v1 v2 r h1 h2 _ ih =>
  intro hC hW hB hlh
  obtain⟨p1,p2,p3,p4⟩:=Jd hC hW hB hlh h1
  obtain⟨k1,k2,k3⟩:=Cd hB h1
  rw[h2]at p1 p2 p3 p4 k1 k2 k3
  obtain⟨g1,g2⟩:=p3 rfl
  have hlh1:∀x∈v1.limits,x≤v1.head:=fun x hx=>by
   rw[show v1.limits=v.limits from k2]at hx
   have:=hlh x hx
   have g2:v1.head=v.head+1:=g2
   omega
  obtain⟨q1,q2,q3,q4,q5⟩:=ih p2 g1 k1 hlh1
  refine⟨p1.trans q1,q2,q3,q4,fun c hc=>?_⟩
  obtain⟨h,r1,r2,r3⟩:=q5 c hc
  have e:v1.limits=v.limits:=k2
  rw[e]at r2 r3
  exact⟨h,r1,r2,r3⟩
 | @bad v v1 c h1 h2 =>
  intro hC hW hB hlh
  obtain⟨p1,p2,p3,p4⟩:=Jd hC hW hB hlh h1
  obtain⟨k1,k2,k3⟩:=Cd hB h1
  rw[h2]at p1 p2 p3 p4 k1 k2 k3
  obtain⟨g1,g2⟩:=p4 c rfl
  have h0:=hB.h0
  refine⟨p1,p2,k1,fun q=>(by cases q),fun d q=>?_⟩
  injection q with q
  subst q
  exact⟨v.head.toNat,g1,fun x hx=>by have:=hlh x hx;omega,g2⟩
def Ew(σ:Nat→Bool)(x:Int):Prop:=(0<x∧σ x.natAbs=true)∨(x<0∧σ x.natAbs=false)
theorem Ew.neg{σ:Nat→Bool}{x:Int}(h:Ew σ x)(k:Ew σ (-x)):False:=by
 unfold Ew at h k
 rw[lJ]at k
 rcases h with⟨h1,h2⟩ | ⟨h1,h2⟩<;>rcases k with⟨k1,k2⟩ | ⟨k1,k2⟩<;>first | omega | (rw[h2]at k2;cases k2)
theorem Ew.or{σ:Nat→Bool}{x:Int}(hx:x≠0):Ew σ x∨Ew σ (-x):=by
  unfold Ew
  rw[lJ]
  cases σ x.natAbs with
  | true => by_cases h : 0 < x
            · exact .inl (.inl ⟨h,rfl⟩)
            · exact .inr (.inl ⟨by omega,rfl⟩)
  | false => by_cases h : 0 < x
             · exact .inr (.inr ⟨by omega,rfl⟩)
             · exact .inl (.inr ⟨by omega,rfl⟩)
def Db(cl:Nat→Option A5)(σ:Nat→Bool):Prop:=∀c ls b,cl c=some (ls,b)→∃y∈ls,Ew σ y
theorem CT.zero {n : Nat} {v : Sv} (h : CT n v) {σ : Nat → Bool} (hσ : Db v.cl σ) : ∀ (i : Nat) (x : Int), v.trail[i]? = some x → lv v x = 0 → Ew  σ x := by
  intro i
  induction i using Nat.strongRecOn with
  | _ i ih =>
    intro x hx hl
    have hlev:=h.lev i x hx
    have hl0:HY v.limits i=0:=by
      have:lv v x=(HY v.limits i:Int):=hlev
      omega
    rcases h.why i x hx with⟨q1,q2⟩ | ⟨c,ls,b,q1,q2,q3,q4⟩
    · obtain⟨k,hk⟩:=DS.1 q2
      have:=Nb h.sorted hk (mF _)
      omega
    · obtain⟨y,hy,hs⟩:=hσ c ls b q2
      by_cases e:y=x
      · rw[← e];exact hs
      · obtain⟨j,hj,ej⟩:=B4.1 (q4 y hy e)
        have hjl:lv v (-y)=0:=by
          have h1:lv v (-y)=(HY v.limits j:Int):=h.lev j _ ej
          have h2:=X8 (L:=v.limits) (Nat.le_of_lt hj)
          omega
        exact(hs.neg (ih j hj (-y) ej hjl)).elim
def cnt(tr:List Int)(seen:List Nat)(m k:Nat):Nat:=((tr.take k).drop m).countP fun x=>decide (x.natAbs∈seen)
theorem Ga{tr:List Int}{seen:List Nat}{m k:Nat}(hk:k<tr.length):cnt tr seen m (k+1)=cnt tr seen m k+if m≤k∧(tr.getD k 0).natAbs∈seen then 1 else 0:=by
  unfold cnt
  have e:tr.take (k+1)=tr.take k++[tr.getD k 0]:=by
    rw[List.take_succ_eq_append_getElem hk]
    congr 2
    rw[lK,ky hk];rfl
  rw[e]
  have hl:(tr.take k).length=k:=by rw[lI];omega
  by_cases hm:m≤k
  · rw[List.drop_append_of_le_length (by omega),List.countP_append]
    congr 1
    by_cases hs:(tr.getD k 0).natAbs∈seen
    · rw[if_pos ⟨hm,hs⟩,List.countP_singleton,if_pos (decide_eq_true hs)]
    · rw[if_neg (fun q=>hs q.2),List.countP_singleton,if_neg (by rw[decide_eq_false hs];decide)]
  · rw [if_neg (fun q => hm q.1), mj                     (by rw [kr,                 hl]; simp; omega), mj                     (by omega)]
    rfl
theorem OQ{tr:List Int}{seen:List Nat}{m k:Nat}(h:cnt tr seen m k=0){j:Nat}{x:Int}(hj:j<k)(hm:m≤j)(hx:tr[j]? = some x):x.natAbs ∉ seen:=by
 unfold cnt at h
 rw[List.countP_eq_zero]at h
 have:x∈(tr.take k).drop m:=by
  rw[DS]
  exact⟨j - m,by rw[lX,show m+(j - m)=j by omega,lk hj];exact hx⟩
 have:=h x this
 simpa using this
theorem Zm{tr:List Int}{seen:List Nat}{m k j:Nat}{x:Int}(hj:j<k)(hm:m≤j)(hx:tr[j]? = some x)(hs:x.natAbs∈seen):1≤cnt tr seen m k:=by
 rcases mJ (cnt tr seen m k)with h | h
 ·exact absurd hs (OQ h hj hm hx)
 ·exact h
theorem XX{tr:List Int}{seen seen':List Nat}(h:∀x∈seen,x∈seen')(m k:Nat):cnt tr seen m k≤cnt tr seen' m k:=by
 unfold cnt
 refine List.countP_mono_left fun x _ hx=>?_
 exact decide_eq_true (h _ (of_decide_eq_true hx))
theorem PG       {tr : List Int} {seen : List Nat} {m : Nat} : ∀ {k : Nat}, k ≤ tr.length → 1 ≤ cnt tr seen m k → ∃ i, Lv   tr seen k = some i ∧ m ≤ i ∧ i < k ∧ (tr.getD i 0).natAbs ∈ seen ∧ cnt tr seen m k = cnt tr seen m i + 1 ∧ ∀ j, i < j → j < k → (tr.getD j 0).natAbs ∉ seen
  | 0,_,h=>by simp[cnt]at h
  | k + 1, hk, h => by
    rw[Ga hk]at h
    unfold Lv
    by_cases hs:(tr.getD k 0).natAbs∈seen
    · rw[if_pos hs]
      by_cases hm:m≤k
      · exact⟨k,rfl,hm,lW _,hs,by rw[Ga hk,if_pos ⟨hm,hs⟩],fun j h1 h2=>by omega⟩
      · exfalso
        rw[if_neg (fun q=>hm q.1)]at h
        have:cnt tr seen m k=0:=by
          unfold cnt
          rw[mj (by rw[lI];omega)]
          rfl
        omega
    · rw[if_neg (fun q=>hs q.2)]at h
      obtain⟨i,h1,h2,h3,h4,h5,h6⟩:=PG (by omega) h
      rw[if_neg hs]
      refine⟨i,h1,h2,by omega,h4,by rw[Ga hk,if_neg (fun q=>hs q.2)];exact h5,fun j j1 j2=>?_⟩
      rcases ks j k with q | q
      · exact h6 j j1 q
      · have:j=k:=by omega
        rw[this];exact hs
structure LI(v:Sv)(m:Nat)(a:EJ)(at_:Nat):Prop where
 seenA:∀k∈a.seen,∃ (i:Nat) (x:Int),v.trail[i]? = some x∧x.natAbs=k∧1≤lv v x
 nd:a.seen.Nodup
 lits:∀q∈a.lits,-q∈v.trail∧q.natAbs∈a.seen∧1≤lv v q∧lv v q<(v.limits.length:Int)
 litsC:∀x∈v.trail,x.natAbs∈a.seen→lv v x<(v.limits.length:Int)→-x∈a.lits
 litsnd:(a.lits.map Int.natAbs).Nodup
 opn:a.opn=(cnt v.trail a.seen m at_:Int)
 lev:(∀q∈a.lits,lv v q≤a.lev)∧(a.lits=[]∧a.lev=0∨∃q∈a.lits,lv v q=a.lev)
theorem DR(v:Sv)(x:Int):lv v (-x)=lv v x:=by unfold lv;rw[lJ]
theorem CT.last{n:Nat}{v:Sv}(h:CT n v){t:Int}(ht:v.limits[v.limits.length - 1]? = some t){i:Nat}{x:Int}(hx:v.trail[i]? = some x):(lv v x=(v.limits.length:Int)↔t.toNat≤i)∧lv v x≤(v.limits.length:Int)∧0≤lv v x:=by
  have hl:=Af ht
  have ht0:=h.lim t (kq ht)
  have e:lv v x=(HY v.limits i:Int):=h.lev i x hx
  have hle:=Ry v.limits i
  refine⟨⟨fun q=>?_,fun q=>?_⟩,by omega,by omega⟩
  · rcases ks           i t.toNat with h1 | h1
    · have:=(LF h.sorted ht (i:=i) (by omega)).2
      omega
    · exact h1
  · have:=Nb h.sorted ht (i:=i) (by omega)
    omega
theorem LI.start{v:Sv}{m k:Nat}:LI v m HF k:=⟨by simp[HF],by simp[HF],by simp[HF],by simp[HF],by simp[HF],by simp[HF,cnt],by simp[HF]⟩
theorem LI.step {n : Nat} {v : Sv} (h : CT n v) {t : Int} (ht : v.limits[v.limits.length - 1]? = some t) {a : EJ}  {at_ : Nat} (hL : LI v t.toNat a at_) {q : Int} (hq : ∃ j, j < at_ ∧ v.trail[j]? = some (-q)) :
    LI v t.toNat (BR v a q) at_∧(∀k∈a.seen,k∈(BR v a q).seen)∧(lv v q=0∨q.natAbs∈(BR v a q).seen)∧(BR v a q).hd=a.hd:=by
  obtain⟨j,hj,hx⟩:=hq
  have hmem:-q∈v.trail:=kq hx
  obtain⟨hlast,hle,hge⟩:=h.last ht hx
  rw[DR]at hlast hle hge
  unfold BR
  by_cases h1:q.natAbs∈a.seen∨v.level.getD q.natAbs 0=0
  · rw [if_pos h1]
    refine⟨hL,fun k hk=>hk,?_,rfl⟩
    rcases h1 with e | e
    · exact .inr e
    · exact .inl e
  · rw[if_neg h1]
    have hns:q.natAbs ∉ a.seen:=fun e=>h1 (.inl e)
    have hn0:lv v q≠0:=fun e=>h1 (.inr e)
    have hnd:(a.seen++[q.natAbs]).Nodup:=by
      rw[ly]
      exact⟨hL.nd,by simp,fun x hx y hy e=>by rw[List.mem_singleton.1 hy]at e;exact hns (by rw[← e];exact hx)⟩
    have hseenA:∀k∈a.seen++[q.natAbs],∃ (i:Nat) (x:Int),v.trail[i]? = some x∧x.natAbs=k∧1≤lv v x:=fun k hk=>by
      rcases List.mem_append.1 hk with e | e
      · exact hL.seenA k e
      · rw[List.mem_singleton.1 e]
        exact⟨j,-q,hx,lJ q,by rw[DR];omega⟩
    have hcount:∀k,k≤v.trail.length→cnt v.trail (a.seen++[q.natAbs]) t.toNat k=cnt v.trail a.seen t.toNat k+if j<k∧t.toNat≤j then 1 else 0:=by
      intro k
      induction k with
      | zero=>intro _;rw[if_neg (by omega)];simp[cnt]
      | succ k ih =>
        intro hk
        rw[Ga hk,Ga hk,ih (by omega)]
        have hgk:=AQ (d:=(0:Int)) (show k<v.trail.length by omega)
        by_cases hjk:j=k
        · have e:(v.trail.getD k 0).natAbs=q.natAbs:=by rw[← hjk,FH hx,lJ]
          rw[e]
          have A:¬ (j<k∧t.toNat≤j):=by omega
          have C:¬ (t.toNat≤k∧q.natAbs∈a.seen):=fun z=>hns z.2
          by_cases hm:t.toNat≤k
          · have B : t.toNat ≤ k ∧ q.natAbs ∈ a.seen ++ [q.natAbs] := ⟨hm, by simp⟩
            have D:j<k+1∧t.toNat≤j:=by omega
            rw[if_neg A,if_pos B,if_neg C,if_pos D]
          · have B : ¬ (t.toNat ≤ k ∧ q.natAbs ∈ a.seen ++ [q.natAbs]) := fun z => hm z.1
            have D:¬ (j<k+1∧t.toNat≤j):=by omega
            rw[if_neg A,if_neg B,if_neg C,if_neg D]
        · have hne : (v.trail.getD k 0).natAbs ≠ q.natAbs := fun e => hjk (h.inv.one hx hgk (by rw [lJ];             exact e.symm))
          have e1:((v.trail.getD k 0).natAbs∈a.seen++[q.natAbs])↔(v.trail.getD k 0).natAbs∈a.seen:=by
            rw[List.mem_append,List.mem_singleton]
            exact⟨fun z=>z.resolve_right hne,.inl⟩
          have hAD:(j<k+1∧t.toNat≤j)↔(j<k∧t.toNat≤j):=by omega
          have hBC:(t.toNat≤k∧(v.trail.getD k 0).natAbs∈a.seen++[q.natAbs])↔(t.toNat≤k∧(v.trail.getD k 0).natAbs∈a.seen):=by rw[e1]
          simp only[hAD,hBC]
          exact Nat.add_right_comm _ _ _
    have hcap:∀ (S:List Nat) k,cnt v.trail S t.toNat k=cnt v.trail S t.toNat (min k v.trail.length):=fun S k=>by
      unfold cnt
      congr 2
      rcases ks k v.trail.length with z | z
      · rw[mT (by omega)]
      · rw[Nat.min_eq_right z,lz,List.take_of_length_le z]
    have hjl:=Af hx
    have hcountA:cnt v.trail (a.seen++[q.natAbs]) t.toNat at_=cnt v.trail a.seen t.toNat at_+if t.toNat≤j then 1 else 0:=by
      rw[hcap,hcap a.seen,hcount _ (Nat.min_le_right _ _)]
      congr 1
      by_cases z:t.toNat≤j
      · rw[if_pos z,if_pos ⟨by omega,z⟩]
      · rw[if_neg z,if_neg (fun y=>z y.2)]
    by_cases hd:v.level.getD q.natAbs 0=(v.limits.length:Int)
    · rw [if_pos hd]
      refine⟨⟨hseenA,hnd,fun y hy=>?_,fun y hy hs hl=>?_,hL.litsnd,?_,hL.lev⟩,fun k hk=>lE _ hk,.inr (lU _ (List.mem_singleton.2 rfl)),rfl⟩
      · obtain⟨g1,g2,g3,g4⟩:=hL.lits y hy
        exact⟨g1,lE _ g2,g3,g4⟩
      · rcases List.mem_append.1 hs with e | e
        · exact hL.litsC y hy e hl
        · exfalso
          have e:=List.mem_singleton.1 e
          unfold lv at hl
          rw[e,hd]at hl
          omega
      · show a.opn+1=_
        rw[hL.opn,hcountA,if_pos (hlast.1 hd)]
        simp
    · rw[if_neg hd]
      have hnm:¬ t.toNat≤j:=fun z=>hd (hlast.2 z)
      refine⟨⟨hseenA,hnd,fun y hy=>?_,fun y hy hs hl=>?_,?_,?_,?_⟩,fun k hk=>lE _ hk,.inr (lU _ (List.mem_singleton.2 rfl)),rfl⟩
      · rcases List.mem_append.1 hy with e | e
        · obtain⟨g1,g2,g3,g4⟩:=hL.lits y e
          exact⟨g1,lE _ g2,g3,g4⟩
        · rw[List.mem_singleton.1 e]
          have hd':lv v q≠(v.limits.length:Int):=hd
          exact⟨hmem,lU _ (List.mem_singleton.2 rfl),by omega,by omega⟩
      · rcases List.mem_append.1 hs with e | e
        · exact lE _ (hL.litsC y hy e hl)
        · have e:=List.mem_singleton.1 e
          obtain⟨i,hi⟩:=DS.1 hy
          have hij:=h.inv.one hi hx (by rw[lJ];exact e)
          subst hij
          rw[hx]at hi
          injection hi with hi
          rw[← hi,lp]
          exact lU _ (List.mem_singleton.2 rfl)
      · show((a.lits++[q]).map Int.natAbs).Nodup
        rw[la,ly]
        refine⟨hL.litsnd,by simp,fun x hx y hy e=>?_⟩
        obtain⟨z,hz,rfl⟩:=List.mem_map.1 hx
        have:y=q.natAbs:=by simpa using hy
        rw[this]at e
        exact hns (by rw[← e];exact(hL.lits z hz).2.1)
      · show a.opn=_
        rw[hL.opn,hcountA,if_neg hnm]
        simp
      · refine ⟨fun y hy => ?_, .inr ?_⟩
        · show lv v y≤max a.lev (lv v q)
          rcases List.mem_append.1 hy with e | e
          · have:=hL.lev.1 y e;omega
          · rw[List.mem_singleton.1 e];omega
        · show ∃y∈a.lits++[q],lv v y=max a.lev (lv v q)
          by_cases z:a.lev≤lv v q
          · exact⟨q,lU _ (List.mem_singleton.2 rfl),by omega⟩
          · rcases hL.lev.2 with ⟨_, e⟩ | ⟨y, hy, e⟩
            · omega
            · exact⟨y,lE _ hy,by omega⟩
theorem LI.fold{n:Nat}{v:Sv}(h:CT n v){t:Int}(ht:v.limits[v.limits.length - 1]? = some t){at_:Nat}:∀ (Q:List Int){a:EJ},LI v t.toNat a at_→(∀q∈Q,∃j,j<at_∧v.trail[j]? = some (-q)) →
  LI v t.toNat (Q.foldl (BR v) a) at_∧(∀k∈a.seen,k∈(Q.foldl (BR v) a).seen)∧(∀q∈Q,lv v q=0∨q.natAbs∈(Q.foldl (BR v) a).seen)∧(Q.foldl (BR v) a).hd=a.hd
 | [],a,hL,_=>⟨hL,fun k hk=>hk,by simp,rfl⟩
 | q::Q,a,hL,hq=>by
  obtain⟨g1,g2,g3,g4⟩:=hL.step h ht (hq q (kx ..))
  obtain⟨k1,k2,k3,k4⟩:=LI.fold h ht Q g1 fun y hy=>hq y (kz _ hy)
  refine⟨k1,fun k hk=>k2 k (g2 k hk),fun y hy=>?_,k4.trans g4⟩
  rcases lM.1 hy with e | e
  ·rw[e];exact g3.imp id (k2 _)
  ·exact k3 y e
structure ED(v:Sv)(r:EJ):Prop where
 uip:∃ (i:Nat) (u:Int),v.trail[i]? = some u∧lv v u=(v.limits.length:Int)∧r.hd=-u
 lits:∀q∈r.lits,-q∈v.trail∧1≤lv v q∧lv v q<(v.limits.length:Int)
 nd:(r.lits.map Int.natAbs).Nodup
 lev:(∀q∈r.lits,lv v q≤r.lev)∧(r.lits=[]∧r.lev=0∨∃q∈r.lits,lv v q=r.lev)
 imp:∀σ,Db v.cl σ→Ew σ r.hd∨∃q∈r.lits,Ew σ q
theorem TV(tr:List Int)(seen:List Nat){m k:Nat}(h:k≤m):cnt tr seen m k=0:=by
 unfold cnt
 rw[mj (by rw[lI];omega)]
 rfl
theorem Gp{l y:Int}{ls:List Int}:y∈rest l ls↔y∈ls∧y≠l:=by
 unfold rest
 rw[List.mem_filter]
 simp
theorem X3       {n : Nat} {v : Sv} (h : CT n v) {t : Int} (ht : v.limits[v.limits.length - 1]? = some t) : ∀ (at_ : Nat) (c : Nat) (l : Int) (a : EJ)  (ls : List Int) (b : Bool × Bool), at_ ≤ v.trail.length → LI v t.toNat a at_ → v.cl c = some (ls, b) → (∀ y ∈ rest l ls, ∃ j, j < at_ ∧ v.trail[j]? = some (-y)) → 1 ≤ ((rest l ls).foldl (BR     v) a).opn →
    (∀σ,Db v.cl σ→Ew σ l→(∃q∈a.lits,Ew σ q)∨∃ (j:Nat) (x:Int),j<at_∧t.toNat≤j∧v.trail[j]? = some x∧x.natAbs∈a.seen∧Ew σ (-x)) →
    ∃r,CS v c a at_ l r∧ED v r:=by
  intro at_
  induction at_ using Nat.strongRecOn with
  | _ at_ ih =>
  intro c l a ls b hat hL hc hr ho hpre
  obtain⟨f1,f2,f3,f4⟩:=hL.fold h ht (rest l ls) hr
  generalize ha:(rest l ls).foldl (BR v) a=a' at *
  have hQ : ∀ σ, Db v.cl σ → (∃ q ∈ a'.lits, Ew  σ q) ∨ ∃ (j : Nat) (x : Int), j < at_ ∧ t.toNat ≤ j ∧ v.trail[j]? = some x ∧ x.natAbs ∈ a'.seen ∧ Ew  σ (-x) := by
    intro σ hσ
    obtain⟨y,hy,hs⟩:=hσ c ls b hc
    by_cases e:y=l
    · rw [e] at hs
      rcases hpre σ hσ hs with⟨q,hq,hsq⟩ | ⟨j,x,j1,j2,j3,j4,j5⟩
      · obtain⟨g1,g2,g3,g4⟩:=hL.lits q hq
        have:=f1.litsC (-q) g1 (by rw[lJ];exact f2 _ g2) (by rw[DR];exact g4)
        rw[lp]at this
        exact .inl ⟨q,this,hsq⟩
      · exact .inr ⟨j,x,j1,j2,j3,f2 _ j4,j5⟩
    · obtain ⟨j, j1, j2⟩ := hr y (Gp.2       ⟨hy, e⟩)
      obtain⟨hlast,hle,hge⟩:=h.last ht j2
      rw[DR]at hlast hle hge
      rcases f3 y (Gp.2 ⟨hy,e⟩)with z | z
      · exact(hs.neg (h.zero hσ j (-y) j2 (by rw[DR];exact z))).elim
      · by_cases hd : lv v y = (v.limits.length : Int)
        · exact .inr ⟨j,-y,j1,hlast.1 hd,j2,by rw[lJ];exact z,by rw[lp];exact hs⟩
        · have:=f1.litsC (-y) (kq j2) (by rw[lJ];exact z) (by rw[DR];omega)
          rw[lp]at this
          exact .inl ⟨y,this,hs⟩
  have hcn:1≤cnt v.trail a'.seen t.toNat at_:=by have:=f1.opn;omega
  obtain⟨i,k1,k2,k3,k4,k5,k6⟩:=PG hat hcn
  have hil:i<v.trail.length:=by omega
  have hg:=AQ (d:=(0:Int)) hil
  generalize hu:v.trail.getD i 0=u at *
  have hlu:lv v u=(v.limits.length:Int):=(h.last ht hg).1.2 k2
  have hQ':∀σ,Db v.cl σ→(∃q∈a'.lits,Ew σ q)∨(∃ (j:Nat) (x:Int),j<i∧t.toNat≤j∧v.trail[j]? = some x∧x.natAbs∈a'.seen∧Ew σ (-x))∨Ew σ (-u):=by
    intro σ hσ
    rcases hQ σ hσ with q | ⟨j,x,j1,j2,j3,j4,j5⟩
    · exact .inl q
    · rcases mM                j i with z | z | z
      · exact .inr (.inl ⟨j,x,z,j2,j3,j4,j5⟩)
      · subst z
        rw[hg]at j3
        injection j3 with j3
        rw[j3]
        exact .inr (.inr j5)
      · exact absurd j4 (by have:=k6 j z j1;rw[FH j3]at this;exact this)
  by_cases h1:a'.opn=1
  · have hci:cnt v.trail a'.seen t.toNat i=0:=by have:=f1.opn;omega
    refine⟨{ a' with opn:=0,hd:=-u },?_,⟨i,u,hg,hlu,rfl⟩,fun q hq=>?_,f1.litsnd,f1.lev,fun σ hσ=>?_⟩
    · have:=CS.last (v:=v) (at_:=at_) hc ha k1 h1
      rw[hu]at this
      exact this
    · obtain⟨g1,g2,g3,g4⟩:=f1.lits q hq
      exact⟨g1,g3,g4⟩
    · rcases hQ' σ hσ with q | ⟨j, x, j1, j2, j3, j4, j5⟩ | q
      · exact .inr q
      · exact absurd j4 (OQ hci j1 j2 j3)
      · exact .inl q
  · have hci : 1 ≤ cnt v.trail a'.seen t.toNat i := by have := f1.opn; omega
    have hmi:t.toNat<i:=by
      rcases ks t.toNat i with z | z
      · exact z
      · rw[TV _ _ z]at hci;omega
    have hil':(i:Int) ∉ v.limits:=fun q=>by
      obtain⟨p,hp⟩:=DS.1 q
      have hpl:=Af hp
      have ht0:=h.lim t (kq ht)
      by_cases e:p=v.limits.length - 1
      · rw[e,ht]at hp
        injection hp with hp
        omega
      · have:=(CR h.sorted ht).1 (i:Int) (B4.2 ⟨p,by omega,hp⟩)
        omega
    rcases h.why i u hg with⟨_,q⟩ | ⟨c',ls',b',w1,w2,w3,w4⟩
    · exact absurd q hil'
    · have hL2 : LI v t.toNat { a' with opn := a'.opn - 1 } i := ⟨f1.seenA, f1.nd, f1.lits, f1.litsC, f1.litsnd, by show a'.opn - 1 = (cnt v.trail a'.seen t.toNat i : Int); have := f1.opn; omega, f1.lev⟩
      have hr2:∀y∈rest u ls',∃j,j<i∧v.trail[j]? = some (-y):=fun y hy=>by
        obtain⟨y1,y2⟩:=Gp.1 hy
        exact B4.1 (w4 y y1 y2)
      obtain⟨g1,g2,g3,g4⟩:=hL2.fold h ht (rest u ls') hr2
      have hop2:1≤((rest u ls').foldl (BR v) { a' with opn:=a'.opn - 1 }).opn:=by
        have e1:=g1.opn
        have e2:=XX (tr:=v.trail) (seen:=a'.seen) (seen':=((rest u ls').foldl (BR v) { a' with opn:=a'.opn - 1 }).seen) g2 t.toNat i
        omega
      obtain⟨r,r1,r2⟩:=ih i k3 c' u { a' with opn:=a'.opn - 1 } ls' b' (by omega) hL2 w2 hr2 hop2 (fun σ hσ hs=>by
        rcases hQ' σ hσ with q | q | q
        · exact .inl q
        · exact .inr q
        · exact(hs.neg q).elim)
      refine⟨r,?_,r2⟩
      have hw:v.why.getD (v.trail.getD i 0).natAbs none=some c':=by rw[hu];exact w1
      have:=CS.more (v:=v) (at_:=at_) (r:=r) hc ha k1 (by omega) hw
      rw[hu]at this
      exact this r1
theorem Gl{n:Nat}{v:Sv}(h:CT n v)(hlim:v.limits≠[]){c:Nat}{l:Int}(hf:GG v c l)(hl:lv v l=(v.limits.length:Int)):∃r,CS v c HF v.trail.length 0 r∧ED v r:=by
 obtain⟨ls,b,hc,h2,hfalse,hmem⟩:=hf
 have hpos:0<v.limits.length:=List.length_pos_iff.2 hlim
 have ht:=AQ (d:=(0:Int)) (show v.limits.length - 1<v.limits.length by omega)
 generalize v.limits.getD (v.limits.length - 1) 0=t at ht
 have hr:∀y∈rest 0 ls,∃j,j<v.trail.length∧v.trail[j]? = some (-y):=fun y hy=>by
  obtain⟨j,hj⟩:=DS.1 (hfalse y (Gp.1 hy).1)
  exact⟨j,Af hj,hj⟩
 have hL0:LI v t.toNat HF v.trail.length:=LI.start
 obtain⟨f1,f2,f3,f4⟩:=hL0.fold h ht (rest 0 ls) hr
 have hl0:l≠0:=((h.cls c ls b hc).1.1 l hmem).1
 refine X3 h ht v.trail.length c 0 HF ls b (kp _) hL0 hc hr ?_ (fun σ hσ hs=>?_)
 ·have hlr:l∈rest 0 ls:=Gp.2 ⟨hmem,hl0⟩
  obtain⟨j,j1,j2⟩:=hr l hlr
  have hm:=(h.last ht j2).1.1 (by rw[DR];exact hl)
  rcases f3 l hlr with z | z
  ·omega
  ·have:=Zm j1 hm j2 (by rw[lJ];exact z)
   rw[f1.opn]
   omega
 ·unfold Ew at hs
  omega
end
end Go.Proofs.Ytilhhmkdcoajnaa.Am
