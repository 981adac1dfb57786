/- The library's Compact, once more: what is left may be written; its stable sort of short rows, its ContainsFunc, Contains; the solver's bare; conditions: twelve literals at most. -/
import Derived.Test.YtilhhmkdcoajnaaAmM38
import Derived.Test.YtilhhmkdcoajnaaAmM33
set_option linter.unusedVariables false
set_option linter.unusedSimpArgs false
set_option maxRecDepth 16000
namespace Go.Proofs.Ytilhhmkdcoajnaa.Am
open Go Go.Proofs
noncomputable section
def Cp(lo:Nat)(s:ASt)(v:AV)(L:List Int):Prop:=(∃a,v=.slice a 0 (some 0)∧L=[])∨∃i G,v=.slice (some (i,0)) L.length none∧lo≤i∧i<s.next∧BD s i (ivs L++G)
theorem Cp.slice{lo:Nat}{s:ASt}{v:AV}{L:List Int}(h:Cp lo s v L):AM s.next s v (ivs L):=by
  rcases h with⟨a,rfl,rfl⟩ | ⟨i,G,rfl,h1,h2,h3⟩
  · exact⟨a,some 0,rfl,A8.nil⟩
  · refine ⟨some (i, 0), none, by simp, fun k u hk => ⟨i, 0, rfl, h2, ?_⟩⟩
    rw[oN]
    exact h3.load1 (by rw[oR (Ab hk)];exact hk)
theorem Cp.self{lo:Nat}{s:ASt}{v:AV}{L:List Int}(h:Cp lo s v L):eqA v v=true:=by
  rcases h with⟨a,rfl,rfl⟩ | ⟨i,G,rfl,_⟩<;>exact E1
theorem Cp.keep{lo:Nat}{s s':ASt}{v:AV}{L:List Int}(h:Cp lo s v L)(hn:s.next≤s'.next)(hf:∀j,lo≤j→j<s.next→s'.heap.get j=s.heap.get j):Cp lo s' v L:=by
  rcases h with h | ⟨i,G,e,h1,h2,h3⟩
  · exact .inl h
  · exact .inr ⟨i,G,e,h1,by omega,h3.keep (hf i h1 h2)⟩
def Ix:AV→Option Nat
  | .slice (some (i,_)) _ none=>some i
  | _=>none
theorem Cp.buf{lo:Nat}{s:ASt}{v:AV}{L:List Int}(h:Cp lo s v L)(hL:L≠[]){ow:Ow}{T:Tag}(ht:∀i,lo≤i→i<s.next→Ix v=some i→ow i=T):Buf ow T s v (ivs L):=by
  rcases h with⟨a,rfl,e⟩ | ⟨i,G,rfl,h1,h2,r,g1,g2,g3,g4,g5⟩
  · exact absurd e hL
  · have hp : 0 < L.length := List.length_pos_iff.2 hL
    have hr:r.n=L.length+G.length:=by rw[g2.1];simp
    exact .inr ⟨i,0,none,r,by rw[Ce],⟨g1,ht i h1 h2 rfl,h2,g3,g5,fun p hp=>by rw[g4]at hp;cases hp⟩,fun k u hk=>by rw[oN];exact g2.2 k u (by rw[oR (Ab hk)];exact hk),by rw[Ce];omega,⟨rfl,by omega⟩⟩
theorem ZH       {E : Env} (hE : An   E) {lo : Nat} {s : ASt} {v : AV} {L : List Int} (h : CC     lo s v L) (hL : L.length ≤ 1000) :
    WF E 88 [v] (fun r s'=>Cp lo s' r (Dw L)∧(∀i,Ix r=some i→Ix v=some i)∧s'.next=s.next∧∀z,Ix v≠some z→s'.heap.get z=s.heap.get z) s:=by
  refine hE.go ZF (by decide) rfl ?_
  by_cases hlt:L.length<2
  · have hd : decide ((L.length : Int) < 2) = true := decide_eq_true (by omega)
    have hc:Dw L=L:=by
      cases L with
      | nil=>rfl
      | cons x r=>cases r with
        | nil=>rfl
        | cons y r=>simp at hlt;omega
    simp only[c88,Oq,Ot,Yq,h.len,hd,Qa,Qb,Qc,Qd,Qe,Qf,Qg,Qh,Qi,Qj,Qk,Ql,Qm,Qn,true_and,and_true,Qo,Qp,Qq,Qr,Qs,Qt,Qu,Qv,Qw,Qx,Qy,Qz,Ra,Rb,Rc,Rd,Re,Rf,Rg,Rh,Ri,Rj,Rk,Rl,Rm,Ya,Yb,Yc,Rn,Ro,Rp,Yd,Ye,Rq,Rs,Rt,Ru,Rv,Rw,Rx]
    rw[hc]
    refine⟨?_,fun _ q=>q,fun _ _=>trivial⟩
    rcases h with⟨a,rfl,rfl⟩ | ⟨i,rfl,h1,h2,h3⟩
    · exact .inl ⟨a,rfl,rfl⟩
    · exact .inr ⟨i,[],rfl,h1,h2,by simpa using h3⟩
  · have hd:decide ((L.length:Int)<2)=false:=decide_eq_false (by omega)
    rcases h with⟨a,rfl,rfl⟩ | ⟨i,rfl,h1,h2,h3⟩
    · simp at hlt
    cases L with
    | nil=>simp at hlt
    | cons y R =>
      simp only[c88,Oq,Ot,Yr,AZ Try.underlying23,hd,Qa,Qb,Qc,Qd,Qe,Qf,Qg,Qh,Qi,Qj,Qk,Ql,Qm,Qn,true_and,and_true,Qo,Qp,Qq,Qr,Qs,Qt,Qu,Qv,Qw,Qx,Qy,Qz,Ra,Rb,Rc,Rd,Re,Rf,Rg,Rh,Ri,Rj,Rk,Rl,Rm,Ya,Yb,Yc,Rn,Ro,Rp,Yd,Ye,Rq,Rs,Rt,Ru,Rv,Rw,Rx]
      refine O1 hE (n:=(y::R).length) h1 hL (.slice none 0 (some 0)) _ R [] y s _ _ _ _ _ _ (by simp;omega) h3 ?_
      rintro e s' W' G' y1 y2 y3 y4 y6 y7 y8 y9 (⟨rfl,rfl⟩ | ⟨rfl,rfl,hl⟩) f2 f3 f4 f5
      · simp only[Qa,Qb,Qc,Qd,Qe,Qf,Qg,Qh,Qi,Qj,Qk,Ql,Qm,Qn,true_and,and_true,Qo,Qp,Qq,Qr,Qs,Qt,Qu,Qv,Qw,Qx,Qy,Qz,Ra,Rb,Rc,Rd,Re,Rf,Rg,Rh,Ri,Rj,Rk,Rl,Rm,Ya,Yb,Yc,Rn,Ro,Rp,Yd,Ye,Rq,Rs,Rt,Ru,Rv,Rw,Rx]
        rw[show Dw (y::R)=W' from f2.symm]
        exact⟨.inr ⟨i,G',rfl,h1,by omega,f3⟩,fun _ q=>q,f4,fun z hz=>f5 z fun e=>hz (by rw[e];rfl)⟩
      · simp only[R3,if_true,Qa,Qb,Qc,Qd,Qe,Qf,Qg,Qh,Qi,Qj,Qk,Ql,Qm,Qn,true_and,and_true,Qo,Qp,Qq,Qr,Qs,Qt,Qu,Qv,Qw,Qx,Qy,Qz,Ra,Rb,Rc,Rd,Re,Rf,Rg,Rh,Ri,Rj,Rk,Rl,Rm,Ya,Yb,Yc,Rn,Ro,Rp,Yd,Ye,Rq,Rs,Rt,Ru,Rv,Rw,Rx]
        rw[show Dw (y::R)=W' from f2.symm]
        exact⟨.inr ⟨i,G',by rw[hl],h1,by omega,f3⟩,fun _ q=>q,f4,fun z hz=>f5 z fun e=>hz (by rw[e];rfl)⟩
theorem dP      {E : Env} (hE : An   E) {lo : Nat} {s : ASt} {v : AV} {L : List Int} (h : CC     lo s v L) (hL : L.length ≤ 12) :
    WF E 87 [v] (fun r s'=>CC lo s' v (CV L)∧s'.next=s.next∧∀z,Ix v≠some z→s'.heap.get z=s.heap.get z) s:=by
  have h117:WF E 117 [v,iv 0,iv (L.length:Int)] (fun r s'=>CC lo s' v (CV L)∧s'.next=s.next∧∀z,Ix v≠some z→s'.heap.get z=s.heap.get z) s:=by
    refine hE.go Tm (by decide) rfl ?_
    have e3:=Aq Try.prog 3 0 1 ⟨by omega,by omega⟩
    have e4:(0:Int)+1=1:=rfl
    rcases h with⟨a,rfl,rfl⟩ | ⟨i,rfl,h1,h2,h3⟩
    · simp only[Wo,Kd,e3,e4,pH,show((0:Nat):Int)=0 from rfl,Qa,Qb,Qc,Qd,Qe,Qf,Qg,Qh,Qi,Qj,Qk,Ql,Qm,Qn,true_and,and_true,Qo,Qp,Qq,Qr,Qs,Qt,Qu,Qv,Qw,Qx,Qy,Qz,Ra,Rb,Rc,Rd,Re,Rf,Rg,Rh,Ri,Rj,Rk,Rl,Rm,Ya,Yb,Yc,Rn,Ro,Rp,Yd,Ye,Rq,Rs,Rt,Ru,Rv,Rw,Rx]
      refine WC.loop' ?_
      simp only[Fx,Hg,show decide ((1:Int)<0)=false from rfl,if_true,Qa,Qb,Qc,Qd,Qe,Qf,Qg,Qh,Qi,Qj,Qk,Ql,Qm,Qn,true_and,and_true,Qo,Qp,Qq,Qr,Qs,Qt,Qu,Qv,Qw,Qx,Qy,Qz,Ra,Rb,Rc,Rd,Re,Rf,Rg,Rh,Ri,Rj,Rk,Rl,Rm,Ya,Yb,Yc,Rn,Ro,Rp,Yd,Ye,Rq,Rs,Rt,Ru,Rv,Rw,Rx]
      exact⟨.inl ⟨a,rfl,rfl⟩,fun _ _=>trivial⟩
    · simp only[Wo,Kd,e3,e4,Qa,Qb,Qc,Qd,Qe,Qf,Qg,Qh,Qi,Qj,Qk,Ql,Qm,Qn,true_and,and_true,Qo,Qp,Qq,Qr,Qs,Qt,Qu,Qv,Qw,Qx,Qy,Qz,Ra,Rb,Rc,Rd,Re,Rf,Rg,Rh,Ri,Rj,Rk,Rl,Rm,Ya,Yb,Yc,Rn,Ro,Rp,Yd,Ye,Rq,Rs,Rt,Ru,Rv,Rw,Rx]
      cases L with
      | nil =>
        refine WC.loop' ?_
        simp only[Fx,Hg,pH,show((0:Nat):Int)=0 from rfl,show decide ((1:Int)<0)=false from rfl,if_true,Qa,Qb,Qc,Qd,Qe,Qf,Qg,Qh,Qi,Qj,Qk,Ql,Qm,Qn,true_and,and_true,Qo,Qp,Qq,Qr,Qs,Qt,Qu,Qv,Qw,Qx,Qy,Qz,Ra,Rb,Rc,Rd,Re,Rf,Rg,Rh,Ri,Rj,Rk,Rl,Rm,Ya,Yb,Yc,Rn,Ro,Rp,Yd,Ye,Rq,Rs,Rt,Ru,Rv,Rw,Rx]
        exact⟨.inr ⟨i,rfl,h1,h2,h3⟩,fun _ _=>trivial⟩
      | cons x T =>
        refine Ps hE h1 (n:=(x::T).length) (by omega) T [x] s 1 _ _ _ rfl (by simp;omega) h3 ?_
        intro s' y3 y4 y5 y6 g1 g2 g3
        simp only[if_true,Qa,Qb,Qc,Qd,Qe,Qf,Qg,Qh,Qi,Qj,Qk,Ql,Qm,Qn,true_and,and_true,Qo,Qp,Qq,Qr,Qs,Qt,Qu,Qv,Qw,Qx,Qy,Qz,Ra,Rb,Rc,Rd,Re,Rf,Rg,Rh,Ri,Rj,Rk,Rl,Rm,Ya,Yb,Yc,Rn,Ro,Rp,Yd,Ye,Rq,Rs,Rt,Ru,Rv,Rw,Rx]
        exact⟨.inr ⟨i,by rw[HE],h1,by omega,g1⟩,g2,fun z hz=>g3 z fun e=>hz (by rw[e];rfl)⟩
  have h108:∀m:Int,WF E 108 [v,iv 0,iv (L.length:Int),iv m] (fun r s'=>CC lo s' v (CV L)∧s'.next=s.next∧∀z,Ix v≠some z→s'.heap.get z=s.heap.get z) s:=by
    intro m
    refine hE.go Tl (by decide) rfl ?_
    have e3:=CD Try.prog 3 (L.length:Int) 0 ⟨by omega,by omega⟩
    have e4:(L.length:Int) - 0=(L.length:Int):=by omega
    have e5:decide ((L.length:Int)≤12)=true:=decide_eq_true (by omega)
    simp only[jN,QH,QI,Qa,Qb,Qc,Qd,Qe,Qf,Qg,Qh,Qi,Qj,Qk,Ql,Qm,Qn,true_and,and_true,Qo,Qp,Qq,Qr,Qs,Qt,Qu,Qv,Qw,Qx,Qy,Qz,Ra,Rb,Rc,Rd,Re,Rf,Rg,Rh,Ri,Rj,Rk,Rl,Rm,Ya,Yb,Yc,Rn,Ro,Rp,Yd,Ye,Rq,Rs,Rt,Ru,Rv,Rw,Rx]
    refine WC.loop' ?_
    generalize WC E none (AX.loop IB) _=W
    simp only[IB,QJ,QK,QL,e3,e4,e5,Qa,Qb,Qc,Qd,Qe,Qf,Qg,Qh,Qi,Qj,Qk,Ql,Qm,Qn,true_and,and_true,Qo,Qp,Qq,Qr,Qs,Qt,Qu,Qv,Qw,Qx,Qy,Qz,Ra,Rb,Rc,Rd,Re,Rf,Rg,Rh,Ri,Rj,Rk,Rl,Rm,Ya,Yb,Yc,Rn,Ro,Rp,Yd,Ye,Rq,Rs,Rt,Ru,Rv,Rw,Rx]
    refine h117.mono ?_
    rintro r s' h'
    simp only[Qa,Qb,Qc,Qd,Qe,Qf,Qg,Qh,Qi,Qj,Qk,Ql,Qm,Qn,true_and,and_true,Qo,Qp,Qq,Qr,Qs,Qt,Qu,Qv,Qw,Qx,Qy,Qz,Ra,Rb,Rc,Rd,Re,Rf,Rg,Rh,Ri,Rj,Rk,Rl,Rm,Ya,Yb,Yc,Rn,Ro,Rp,Yd,Ye,Rq,Rs,Rt,Ru,Rv,Rw,Rx]
    exact h'
  refine hE.go ZE (by decide) rfl ?_
  simp only[c87,Ym,Yn,h.len,O3 hL,Qa,Qb,Qc,Qd,Qe,Qf,Qg,Qh,Qi,Qj,Qk,Ql,Qm,Qn,true_and,and_true,Qo,Qp,Qq,Qr,Qs,Qt,Qu,Qv,Qw,Qx,Qy,Qz,Ra,Rb,Rc,Rd,Re,Rf,Rg,Rh,Ri,Rj,Rk,Rl,Rm,Ya,Yb,Yc,Rn,Ro,Rp,Yd,Ye,Rq,Rs,Rt,Ru,Rv,Rw,Rx]
  refine(Zi hE L.length hL).mono ?_
  rintro _ _ ⟨⟨m,rfl⟩,rfl⟩
  simp only[Qa,Qb,Qc,Qd,Qe,Qf,Qg,Qh,Qi,Qj,Qk,Ql,Qm,Qn,true_and,and_true,Qo,Qp,Qq,Qr,Qs,Qt,Qu,Qv,Qw,Qx,Qy,Qz,Ra,Rb,Rc,Rd,Re,Rf,Rg,Rh,Ri,Rj,Rk,Rl,Rm,Ya,Yb,Yc,Rn,Ro,Rp,Yd,Ye,Rq,Rs,Rt,Ru,Rv,Rw,Rx]
  refine(h108 m).mono ?_
  rintro r s' h'
  simp only[Qa,Qb,Qc,Qd,Qe,Qf,Qg,Qh,Qi,Qj,Qk,Ql,Qm,Qn,true_and,and_true,Qo,Qp,Qq,Qr,Qs,Qt,Qu,Qv,Qw,Qx,Qy,Qz,Ra,Rb,Rc,Rd,Re,Rf,Rg,Rh,Ri,Rj,Rk,Rl,Rm,Ya,Yb,Yc,Rn,Ro,Rp,Yd,Ye,Rq,Rs,Rt,Ru,Rv,Rw,Rx]
  exact h'
theorem IH{E:Env}(hE:An E){s:ASt}{b:Nat}{L:List Int}{f:Int→Bool}{g:FuncId}{cp:List AV}(hg:∀q∈L,WF E g (iv q::cp) (fun r s'=>r=.bool (f q)∧s=s') s)(hlen:L.length<9223372036854775808){v:AV}(hv:AM b s v (ivs L)):
    WF E 72 [v,.func g [] cp] (fun r s'=>r=.bool (BK f L 0).isSome∧s=s') s:=by
  refine hE.go kn (by decide) rfl ?_
  simp only[c72,gj,gk,Qa,Qb,Qc,Qd,Qe,Qf,Qg,Qh,Qi,Qj,Qk,Ql,Qm,Qn,true_and,and_true,Qo,Qp,Qq,Qr,Qs,Qt,Qu,Qv,Qw,Qx,Qy,Qz,Ra,Rb,Rc,Rd,Re,Rf,Rg,Rh,Ri,Rj,Rk,Rl,Rm,Ya,Yb,Yc,Rn,Ro,Rp,Yd,Ye,Rq,Rs,Rt,Ru,Rv,Rw,Rx]
  refine(Mi hE hg hlen hv).mono ?_
  rintro _ _ ⟨rfl,rfl⟩
  cases hf:BK f L 0 with
  | none=>simp only[JI,show decide ((0:Int)≤-1)=false from rfl,Option.isSome,Qa,Qb,Qc,Qd,Qe,Qf,Qg,Qh,Qi,Qj,Qk,Ql,Qm,Qn,true_and,and_true,Qo,Qp,Qq,Qr,Qs,Qt,Qu,Qv,Qw,Qx,Qy,Qz,Ra,Rb,Rc,Rd,Re,Rf,Rg,Rh,Ri,Rj,Rk,Rl,Rm,Ya,Yb,Yc,Rn,Ro,Rp,Yd,Ye,Rq,Rs,Rt,Ru,Rv,Rw,Rx]
  | some i=>simp only[JI,show decide ((0:Int)≤(i:Int))=true from decide_eq_true (by omega),Option.isSome,Qa,Qb,Qc,Qd,Qe,Qf,Qg,Qh,Qi,Qj,Qk,Ql,Qm,Qn,true_and,and_true,Qo,Qp,Qq,Qr,Qs,Qt,Qu,Qv,Qw,Qx,Qy,Qz,Ra,Rb,Rc,Rd,Re,Rf,Rg,Rh,Ri,Rj,Rk,Rl,Rm,Ya,Yb,Yc,Rn,Ro,Rp,Yd,Ye,Rq,Rs,Rt,Ru,Rv,Rw,Rx]
theorem EI{f:Int→Bool}:∀ {L:List Int}{k:Nat},(BK f L k).isSome=true↔∃q∈L,f q=true
  | [],k=>by simp[BK]
  | x::L,k=>by
    unfold BK
    by_cases h:f x=true
    · simp[h]
    · rw[if_neg h,EI]
      simp[h]
theorem Za{E:Env}(hE:An E){s:ASt}{b:Nat}{L:List Int}{y:Int}(hlen:L.length<9223372036854775808){a:Option (Nat×Nat)}{cap:Option Nat}(hc:A8 b s a (ivs L)){Q:A6→Prop}(x2:AV):
    ∀ (l : List Int) (k : Nat) (x3 x6 x7 : AV), L.drop k = l → k ≤ L.length →
      (BK (fun q=>decide (y=q)) l k=none→∀ (y3 y5 y6 y7:AV),Q ⟨.exit 0,[.slice a L.length cap,iv y,x2,y3,iv (L.length:Int),y5,y6,y7],[],s⟩) →
      (∀i,BK (fun q=>decide (y=q)) l k=some i→∀ (y3 y5 y6 y7:AV),Q ⟨.ret,[.slice a L.length cap,iv y,iv (i:Int),y3,iv (L.length:Int),y5,y6,y7],[],s⟩) →
      WC E none (.loop I0) Q [.slice a L.length cap,iv y,x2,x3,iv (L.length:Int),iv (k:Int),x6,x7] [] s:=by
  intro l
  induction l with
  | nil =>
    intro k x3 x6 x7 hd hk hq _
    have:=Ck hd hk
    subst this
    refine WC.loop' ?_
    simp only[I0,NV,om,decide_false,Qa,Qb,Qc,Qd,Qe,Qf,Qg,Qh,Qi,Qj,Qk,Ql,Qm,Qn,true_and,and_true,Qo,Qp,Qq,Qr,Qs,Qt,Qu,Qv,Qw,Qx,Qy,Qz,Ra,Rb,Rc,Rd,Re,Rf,Rg,Rh,Ri,Rj,Rk,Rl,Rm,Ya,Yb,Yc,Rn,Ro,Rp,Yd,Ye,Rq,Rs,Rt,Ru,Rv,Rw,Rx]
    exact hq rfl _ _ _ _
  | cons x l ih =>
    intro k x3 x6 x7 hd hk hq hr
    obtain⟨hlt,hx,hd'⟩:=Bk hd
    obtain⟨i,o,rfl,hi,hload⟩:=hc k _ (A2 hx)
    have e1:=Aw (cap:=cap) (i:=i) (o:=o) Try.underlying23 sz3 hlt
    have e2:AD Try.prog s 3 (.ptr (some (i,o+k * 1)))=some (iv x):=A7 ag3 (by rw[oV];exact hload)
    have hkk:decide ((k:Int)<(L.length:Int))=true:=decide_eq_true (by omega)
    have e3:=Aq Try.prog 3 (k:Int) 1 ⟨by omega,by omega⟩
    have e3':((k:Int)+1)=((k+1:Nat):Int):=by omega
    refine WC.loop' ?_
    generalize hW:WC E none (AX.loop I0) Q=WW
    by_cases hf:y=x
    · have ef : BK     (fun q => decide (y = q)) (x :: l) k = some k := by unfold BK;     rw [if_pos (decide_eq_true hf)]
      have hd1:decide (y=x)=true:=decide_eq_true hf
      simp only[I0,NV,QQ,QR,hkk,e1,e2,hd1,We,Qa,Qb,Qc,Qd,Qe,Qf,Qg,Qh,Qi,Qj,Qk,Ql,Qm,Qn,true_and,and_true,Qo,Qp,Qq,Qr,Qs,Qt,Qu,Qv,Qw,Qx,Qy,Qz,Ra,Rb,Rc,Rd,Re,Rf,Rg,Rh,Ri,Rj,Rk,Rl,Rm,Ya,Yb,Yc,Rn,Ro,Rp,Yd,Ye,Rq,Rs,Rt,Ru,Rv,Rw,Rx]
      exact hr k ef _ _ _ _
    · have hd1 : decide (y = x) = false := decide_eq_false hf
      have ef:BK (fun q=>decide (y=q)) (x::l) k=BK (fun q=>decide (y=q)) l (k+1):=by rw[BK,if_neg (by rw[hd1];decide)]
      simp only[I0,NV,QQ,QR,hkk,e1,e2,hd1,Wf,e3,e3',Qa,Qb,Qc,Qd,Qe,Qf,Qg,Qh,Qi,Qj,Qk,Ql,Qm,Qn,true_and,and_true,Qo,Qp,Qq,Qr,Qs,Qt,Qu,Qv,Qw,Qx,Qy,Qz,Ra,Rb,Rc,Rd,Re,Rf,Rg,Rh,Ri,Rj,Rk,Rl,Rm,Ya,Yb,Yc,Rn,Ro,Rp,Yd,Ye,Rq,Rs,Rt,Ru,Rv,Rw,Rx]
      rw[← hW]
      rw[ef]at hq hr
      exact ih (k+1) _ _ _ hd' hlt hq hr
theorem O2{E:Env}(hE:An E){s:ASt}{b:Nat}{L:List Int}{y:Int}(hlen:L.length<9223372036854775808){v:AV}(hv:AM b s v (ivs L)):
    WF E 101 [v,iv y] (fun r s'=>r=.bool (decide (y∈L))∧s=s') s:=by
  obtain⟨a,cap,rfl,hc⟩:=hv
  rw[Ce]
  have hmem:(BK (fun q=>decide (y=q)) L 0).isSome=decide (y∈L):=by
    rw[Bool.eq_iff_iff,EI]
    simp
  have ix:WF E 113 [.slice a L.length cap,iv y] (fun r s'=>r=JI (BK (fun q=>decide (y=q)) L 0)∧s=s') s:=by
    refine hE.go cK (by decide) rfl ?_
    simp only[mX,Wc,Wd,AZ Try.underlying23,Qa,Qb,Qc,Qd,Qe,Qf,Qg,Qh,Qi,Qj,Qk,Ql,Qm,Qn,true_and,and_true,Qo,Qp,Qq,Qr,Qs,Qt,Qu,Qv,Qw,Qx,Qy,Qz,Ra,Rb,Rc,Rd,Re,Rf,Rg,Rh,Ri,Rj,Rk,Rl,Rm,Ya,Yb,Yc,Rn,Ro,Rp,Yd,Ye,Rq,Rs,Rt,Ru,Rv,Rw,Rx]
    refine Za hE hlen hc _ L 0 _ _ _ rfl (oK _) ?_ ?_
    · intro hn y3 y5 y6 y7
      rw[hn]
      simp only[Wg,if_true,JI,Qa,Qb,Qc,Qd,Qe,Qf,Qg,Qh,Qi,Qj,Qk,Ql,Qm,Qn,true_and,and_true,Qo,Qp,Qq,Qr,Qs,Qt,Qu,Qv,Qw,Qx,Qy,Qz,Ra,Rb,Rc,Rd,Re,Rf,Rg,Rh,Ri,Rj,Rk,Rl,Rm,Ya,Yb,Yc,Rn,Ro,Rp,Yd,Ye,Rq,Rs,Rt,Ru,Rv,Rw,Rx]
    · intro i hi y3 y5 y6 y7
      rw[hi]
      simp only[JI,Qa,Qb,Qc,Qd,Qe,Qf,Qg,Qh,Qi,Qj,Qk,Ql,Qm,Qn,true_and,and_true,Qo,Qp,Qq,Qr,Qs,Qt,Qu,Qv,Qw,Qx,Qy,Qz,Ra,Rb,Rc,Rd,Re,Rf,Rg,Rh,Ri,Rj,Rk,Rl,Rm,Ya,Yb,Yc,Rn,Ro,Rp,Yd,Ye,Rq,Rs,Rt,Ru,Rv,Rw,Rx]
  refine hE.go cB (by decide) rfl ?_
  simp only[mQ,Vx,Vy,Qa,Qb,Qc,Qd,Qe,Qf,Qg,Qh,Qi,Qj,Qk,Ql,Qm,Qn,true_and,and_true,Qo,Qp,Qq,Qr,Qs,Qt,Qu,Qv,Qw,Qx,Qy,Qz,Ra,Rb,Rc,Rd,Re,Rf,Rg,Rh,Ri,Rj,Rk,Rl,Rm,Ya,Yb,Yc,Rn,Ro,Rp,Yd,Ye,Rq,Rs,Rt,Ru,Rv,Rw,Rx]
  refine ix.mono ?_
  rintro _ _ ⟨rfl,rfl⟩
  rw[← hmem]
  cases hf:BK (fun q=>decide (y=q)) L 0 with
  | none=>simp only[JI,show decide ((0:Int)≤-1)=false from rfl,Option.isSome,Qa,Qb,Qc,Qd,Qe,Qf,Qg,Qh,Qi,Qj,Qk,Ql,Qm,Qn,true_and,and_true,Qo,Qp,Qq,Qr,Qs,Qt,Qu,Qv,Qw,Qx,Qy,Qz,Ra,Rb,Rc,Rd,Re,Rf,Rg,Rh,Ri,Rj,Rk,Rl,Rm,Ya,Yb,Yc,Rn,Ro,Rp,Yd,Ye,Rq,Rs,Rt,Ru,Rv,Rw,Rx]
  | some i=>simp only[JI,show decide ((0:Int)≤(i:Int))=true from decide_eq_true (by omega),Option.isSome,Qa,Qb,Qc,Qd,Qe,Qf,Qg,Qh,Qi,Qj,Qk,Ql,Qm,Qn,true_and,and_true,Qo,Qp,Qq,Qr,Qs,Qt,Qu,Qv,Qw,Qx,Qy,Qz,Ra,Rb,Rc,Rd,Re,Rf,Rg,Rh,Ri,Rj,Rk,Rl,Rm,Ya,Yb,Yc,Rn,Ro,Rp,Yd,Ye,Rq,Rs,Rt,Ru,Rv,Rw,Rx]
def EW(L:List Int):List Int:=Dw (CV L)
def Jr(L:List Int):Bool:=(BK (fun q=>decide (-q∈L)) L 0).isSome
theorem NA{L:List Int}:Jr L=true↔∃q∈L,-q∈L:=by
  unfold Jr
  rw[EI]
  simp
theorem UT        : ∀ {L : List Int} {z : Int}, z ∈ Dw    L → z ∈ L := by
  have h:∀ (l:List Int) (p z:Int),z∈dd p l→z∈l:=by
    intro l
    induction l with
    | nil=>intro p z h;simp[dd]at h
    | cons x l ih =>
      intro p z h
      unfold dd at h
      split at h
      · exact oJ _ (ih _ _ h)
      · rcases ov.1            h with e | e
        · rw[e];exact oH ..
        · exact oJ _ (ih _ _ e)
  intro L z hz
  cases L with
  | nil=>exact hz
  | cons x r =>
    rcases ov.1 hz with e | e
    · rw[e];exact oH ..
    · exact oJ _ (h _ _ _ e)
theorem US:∀ (L:List Int),(Dw L).length≤L.length:=by
  have h:∀ (l:List Int) (p:Int),(dd p l).length≤l.length:=by
    intro l
    induction l with
    | nil=>intro p;simp[dd]
    | cons x l ih =>
      intro p
      unfold dd
      split
      · have:=ih p;simp;omega
      · have:=ih x;simp;omega
  intro L
  cases L with
  | nil=>exact oD _
  | cons x r=>have:=h r x;simp[Dw];omega
theorem JU(L:List Int)(z:Int):z∈CV L↔z∈L:=by
  unfold CV
  rw[List.mem_reverse,(IN L (q:=[]) List.Pairwise.nil).2]
  simp
theorem Mw{L:List Int}{z:Int}(h:z∈EW L):z∈L:=(JU L z).1 (UT h)
theorem Lg(L:List Int):(EW L).length≤L.length:=by
  have:=US (CV L)
  rw[HE]at this
  exact this
theorem Vq{E:Env}(hE:An E){s:ASt}{b j:Nat}{L:List Int}{v:AV}(hv:AM b s v (ivs L))(hb:Al s j v)(hlen:L.length<9223372036854775808){q:Int}(hq:i64 (-q)):
    WF E 100 [iv q,.ptr (some (j,0))] (fun r s'=>r=.bool (decide (-q∈L))∧s=s') s:=by
  have e1:=EY Try.prog q hq
  refine hE.go cA (by decide) rfl ?_
  simp only[mP,Vv,Vw,hb.load C1,e1,Qa,Qb,Qc,Qd,Qe,Qf,Qg,Qh,Qi,Qj,Qk,Ql,Qm,Qn,true_and,and_true,Qo,Qp,Qq,Qr,Qs,Qt,Qu,Qv,Qw,Qx,Qy,Qz,Ra,Rb,Rc,Rd,Re,Rf,Rg,Rh,Ri,Rj,Rk,Rl,Rm,Ya,Yb,Yc,Rn,Ro,Rp,Yd,Ye,Rq,Rs,Rt,Ru,Rv,Rw,Rx]
  refine(O2 hE hlen hv).mono ?_
  rintro _ _ ⟨rfl,rfl⟩
  simp only[Qa,Qb,Qc,Qd,Qe,Qf,Qg,Qh,Qi,Qj,Qk,Ql,Qm,Qn,true_and,and_true,Qo,Qp,Qq,Qr,Qs,Qt,Qu,Qv,Qw,Qx,Qy,Qz,Ra,Rb,Rc,Rd,Re,Rf,Rg,Rh,Ri,Rj,Rk,Rl,Rm,Ya,Yb,Yc,Rn,Ro,Rp,Yd,Ye,Rq,Rs,Rt,Ru,Rv,Rw,Rx]
theorem az{E:Env}(hE:An E){s:ASt}{b:Nat}{L:List Int}(hlen:L.length≤12)(hi:∀q∈L,i64 (-q))(hb:b≤s.next){v:AV}(hv:AM b s v (ivs L)):
    WF E 74 [v] (fun r s'=>∃w,r=.tuple [w,.bool (!Jr (EW L))]∧Cp s.next s' w (EW L)∧Old s.next s s') s:=by
  have hptr:∀i,Bv.val i .ptr=.ptr (some (i,0)):=fun _=>rfl
  refine hE.go kq (by decide) rfl ?_
  simp only[c74,gl,gm,Qa,Qb,Qc,Qd,Qe,Qf,Qg,Qh,Qi,Qj,Qk,Ql,Qm,Qn,true_and,and_true,Qo,Qp,Qq,Qr,Qs,Qt,Qu,Qv,Qw,Qx,Qy,Qz,Ra,Rb,Rc,Rd,Re,Rf,Rg,Rh,Ri,Rj,Rk,Rl,Rm,Ya,Yb,Yc,Rn,Ro,Rp,Yd,Ye,Rq,Rs,Rt,Ru,Rv,Rw,Rx]
  refine(GZ hE hb hv (by omega)).mono ?_
  rintro v1 s1 ⟨h1,o1⟩
  generalize e2:AH s1 (AP 23 0 [.slice none 0 (some 0)])=s2
  have n2:s2.next=s1.next+1:=by rw[← e2];rfl
  have o2:Old s1.next s1 s2:=by rw[← e2];exact Old.new s1 _
  have b2:Al s2 s1.next (.slice none 0 (some 0)):=by rw[← e2];exact Al.new
  obtain⟨s3,g1,g2,g3,g4⟩:=b2.store (d:=v1) BU h1.slice.isCell.1 h1.slice.isCell.2
  have hn1:=o1.1
  have h3:CC s.next s3 v1 L:=by
    rcases h1 with h1 | ⟨i,r1,r2,r3,r4⟩
    · exact .inl h1
    · exact .inr ⟨i,r1,r2,by omega,(r4.keep (o2.2 i r3)).keep (g4 i (by omega))⟩
  have o3:Old s.next s s3:=(o1.trans (o2.mono (by omega))).trans ⟨by omega,fun y hy=>g4 y (by omega)⟩
  simp only[NK,hptr,e2,on2,g1,AT,gn,g2.load C1,Qa,Qb,Qc,Qd,Qe,Qf,Qg,Qh,Qi,Qj,Qk,Ql,Qm,Qn,true_and,and_true,Qo,Qp,Qq,Qr,Qs,Qt,Qu,Qv,Qw,Qx,Qy,Qz,Ra,Rb,Rc,Rd,Re,Rf,Rg,Rh,Ri,Rj,Rk,Rl,Rm,Ya,Yb,Yc,Rn,Ro,Rp,Yd,Ye,Rq,Rs,Rt,Ru,Rv,Rw,Rx]
  refine(dP hE h3 hlen).mono ?_
  rintro r4 s4 ⟨h4,n4,f4⟩
  have hne:Ix v1≠some s1.next:=fun e=>by
    rcases h1 with⟨a,r1,r2⟩ | ⟨i,r1,r2,r3,r4⟩
    · rw[r1]at e
      cases a<;>cases e
    · rw[r1]at e
      injection e with e
      omega
  have hlo:∀z,z<s.next→Ix v1≠some z:=fun z hz e=>by
    rcases h1 with⟨a,r1,r2⟩ | ⟨i,r1,r2,r3,r4⟩
    · rw[r1]at e
      cases a<;>cases e
    · rw[r1]at e
      injection e with e
      omega
  have b4:Al s4 s1.next v1:=g2.keep (f4 _ hne)
  have o4:Old s.next s s4:=o3.trans ⟨by omega,fun y hy=>f4 y (hlo y hy)⟩
  simp only[gp,b4.load C1,Qa,Qb,Qc,Qd,Qe,Qf,Qg,Qh,Qi,Qj,Qk,Ql,Qm,Qn,true_and,and_true,Qo,Qp,Qq,Qr,Qs,Qt,Qu,Qv,Qw,Qx,Qy,Qz,Ra,Rb,Rc,Rd,Re,Rf,Rg,Rh,Ri,Rj,Rk,Rl,Rm,Ya,Yb,Yc,Rn,Ro,Rp,Yd,Ye,Rq,Rs,Rt,Ru,Rv,Rw,Rx]
  refine(ZH hE h4 (by rw[HE];omega)).mono ?_
  rintro w s5 ⟨h5,hi5,n5,f5⟩
  have b5:Al s5 s1.next v1:=b4.keep (f5 _ hne)
  have o5:Old s.next s s5:=o4.trans ⟨by omega,fun y hy=>f5 y (hlo y hy)⟩
  obtain⟨s6,k1,k2,k3,k4⟩:=b5.store (d:=w) BU h5.slice.isCell.1 h5.slice.isCell.2
  have h6:Cp s.next s6 w (EW L):=by
    rcases h5 with h5 | ⟨i,G,r1,r2,r3,r4⟩
    · exact .inl h5
    · refine .inr ⟨i,G,r1,r2,by omega,r4.keep (k4 i fun e=>?_)⟩
      exact hne (by rw[← e];exact hi5 i (by rw[r1];rfl))
  have o6:Old s.next s s6:=o5.trans ⟨by omega,fun y hy=>k4 y (by omega)⟩
  have hlen6:=Lg L
  simp only[on2,k1,AT,gq,k2.load C1,pU,pP,Qa,Qb,Qc,Qd,Qe,Qf,Qg,Qh,Qi,Qj,Qk,Ql,Qm,Qn,true_and,and_true,Qo,Qp,Qq,Qr,Qs,Qt,Qu,Qv,Qw,Qx,Qy,Qz,Ra,Rb,Rc,Rd,Re,Rf,Rg,Rh,Ri,Rj,Rk,Rl,Rm,Ya,Yb,Yc,Rn,Ro,Rp,Yd,Ye,Rq,Rs,Rt,Ru,Rv,Rw,Rx]
  refine(IH hE (f:=fun q=>decide (-q∈EW L)) (g:=100) (cp:=[.ptr (some (s1.next,0))]) (fun q hq=>?_) (by omega) h6.slice).mono ?_
  · exact Vq hE h6.slice k2 (by omega) (hi q (Mw hq))
  rintro _ _ ⟨rfl,rfl⟩
  simp only[BR,Az,k2.load C1,h6.self,Qa,Qb,Qc,Qd,Qe,Qf,Qg,Qh,Qi,Qj,Qk,Ql,Qm,Qn,true_and,and_true,Qo,Qp,Qq,Qr,Qs,Qt,Qu,Qv,Qw,Qx,Qy,Qz,Ra,Rb,Rc,Rd,Re,Rf,Rg,Rh,Ri,Rj,Rk,Rl,Rm,Ya,Yb,Yc,Rn,Ro,Rp,Yd,Ye,Rq,Rs,Rt,Ru,Rv,Rw,Rx]
  exact⟨w,rfl,h6,o6⟩
def CO(c:Int→Int→Int)(x:Int):List Int→List Int
  | []=>[x]
  | y::q=>if c x y<0 then y::CO c x q else x::y::q
def Ft(c:Int→Int→Int)(L:List Int):List Int:=(L.foldl (fun q x=>CO c x q) []).reverse
theorem G2(c:Int→Int→Int)(x:Int):∀q,(CO c x q).length=q.length+1
  | []=>rfl
  | y::q=>by
    unfold CO
    split
    · simp[G2 c x q]
    · simp
theorem G3        (c : Int → Int → Int) (x z : Int) : ∀ q, z ∈ CO    c x q ↔ z = x ∨ z ∈ q
  | []=>by simp[CO]
  | y::q=>by
    unfold CO
    split
    · rw[ov,G3 c x z q,ov]
      constructor
      · rintro (h | h | h)
        · exact .inr (.inl h)
        · exact .inl h
        · exact .inr (.inr h)
      · rintro (h | h | h)
        · exact .inr (.inl h)
        · exact .inl h
        · exact .inr (.inr h)
    · simp
theorem PA(c:Int→Int→Int):∀ (R q:List Int),(R.foldl (fun q x=>CO c x q) q).length=q.length+R.length
  | [],q=>rfl
  | y::R,q=>by simp only[pE,PA c R,G2,oZ];omega
theorem PB(c:Int→Int→Int)(z:Int):∀ (R q:List Int),z∈R.foldl (fun q x=>CO c x q) q↔z∈q∨z∈R
  | [],q=>by simp
  | y::R,q=>by
    rw[pE,PB c z R,G3,ov]
    constructor
    · rintro ((h | h) | h)
      · exact .inr (.inl h)
      · exact .inl h
      · exact .inr (.inr h)
    · rintro (h | h | h)
      · exact .inl (.inr h)
      · exact .inl (.inl h)
      · exact .inr h
theorem M8(c:Int→Int→Int)(L:List Int):(Ft c L).length=L.length:=by
  unfold Ft
  rw[List.length_reverse,PA];simp
theorem VT(c:Int→Int→Int)(L:List Int)(z:Int):z∈Ft c L↔z∈L:=by
  unfold Ft
  rw[List.mem_reverse,PB];simp
theorem aR       {E : Env} (hE : An   E) {i n m : Nat} (hn : n ≤ 1000) {s0 : ASt} {P : Int → Prop} {c : Int → Int → Int} {g : FuncId} {cp : List AV} (hg : ∀ s a b, (∀ z, z ≠ i → s.heap.get z = s0.heap.get z) → s.next = s0.next → P a → P b → WF E g (iv a :: iv b :: cp) (fun r s' => r = iv (c a b) ∧ s = s') s) (x : Int) (hx : P x) {Q : A6   → Prop} :
    ∀ (p : List Int) (T : List AV) (s : ASt) (x5 x7 : AV), p.length < n → (∀ y ∈ p, P y) → (∀ z, z ≠ i → s.heap.get z = s0.heap.get z) → s.next = s0.next → BD    s i (ivs (p.reverse ++ [x]) ++ T) →
      (∀s' y5 y7,BD s' i (ivs (CO c x p).reverse++T)→s'.next=s0.next→(∀z,z≠i→s'.heap.get z=s0.heap.get z)→Q ⟨.exit 2,[.slice (some (i,0)) n none,iv 0,iv (n:Int),.func g [] cp,iv (m:Int),y5,x5,y7],[],s'⟩) →
      WC E none (.loop KZ) Q [.slice (some (i,0)) n none,iv 0,iv (n:Int),.func g [] cp,iv (m:Int),iv (p.length:Int),x5,x7] [] s:=by
  intro p
  induction p with
  | nil =>
    intro T s x5 x7 h1 hp hf hnx hr hq
    refine WC.loop' ?_
    simp only[KZ,QT,pH,show((0:Nat):Int)=0 from rfl,om,decide_false,Qa,Qb,Qc,Qd,Qe,Qf,Qg,Qh,Qi,Qj,Qk,Ql,Qm,Qn,true_and,and_true,Qo,Qp,Qq,Qr,Qs,Qt,Qu,Qv,Qw,Qx,Qy,Qz,Ra,Rb,Rc,Rd,Re,Rf,Rg,Rh,Ri,Rj,Rk,Rl,Rm,Ya,Yb,Yc,Rn,Ro,Rp,Yd,Ye,Rq,Rs,Rt,Ru,Rv,Rw,Rx]
    exact hq s _ _ hr hnx hf
  | cons y q ih =>
    intro T s x5 x7 h1 hp hf hnx hr hq
    have hj:(y::q).length=q.length+1:=rfl
    rw[hj]at h1 ⊢
    have hcells:ivs ((y::q).reverse++[x])++T=ivs q.reverse++iv y::(iv x::T):=by simp
    have hcells2:ivs ((y::q).reverse++[x])++T=(ivs q.reverse++[iv y])++iv x::T:=by simp
    have hql:(ivs q.reverse).length=q.length:=by simp
    have hql2:(ivs q.reverse++[iv y]).length=q.length+1:=by simp
    have hgt:decide ((0:Int)<((q.length+1:Nat):Int))=true:=decide_eq_true (by omega)
    have a1:AC Try.prog 23 (.slice (some (i,0)) n none) (iv ((q.length+1:Nat):Int))=some (.ptr (some (i,0+(q.length+1) * 1))):=Aw Try.underlying23 sz3 (by omega)
    have a0:AC Try.prog 23 (.slice (some (i,0)) n none) (iv ((q.length:Nat):Int))=some (.ptr (some (i,0+q.length * 1))):=Aw Try.underlying23 sz3 (by omega)
    have l1:AD Try.prog s 3 (.ptr (some (i,0+(q.length+1) * 1)))=some (iv x):=hr.load (by rw[hcells2];exact FK hql2)
    have l0:AD Try.prog s 3 (.ptr (some (i,0+q.length * 1)))=some (iv y):=hr.load (by rw[hcells];exact FK hql)
    have hs:=CD Try.prog 3 ((q.length+1:Nat):Int) 1 ⟨by omega,by omega⟩
    have hs1:(((q.length+1:Nat):Int) - 1)=((q.length:Nat):Int):=by omega
    rw[hs1]at hs
    refine WC.loop' ?_
    generalize hW:WC E none (AX.loop KZ) Q=W
    simp only[KZ,QT,hgt,a1,l1,hs,a0,l0,oz,pW,pQ,Qa,Qb,Qc,Qd,Qe,Qf,Qg,Qh,Qi,Qj,Qk,Ql,Qm,Qn,true_and,and_true,Qo,Qp,Qq,Qr,Qs,Qt,Qu,Qv,Qw,Qx,Qy,Qz,Ra,Rb,Rc,Rd,Re,Rf,Rg,Rh,Ri,Rj,Rk,Rl,Rm,Ya,Yb,Yc,Rn,Ro,Rp,Yd,Ye,Rq,Rs,Rt,Ru,Rv,Rw,Rx]
    refine(hg s x y hf hnx hx (hp y (oH ..))).mono ?_
    rintro _ _ ⟨rfl,rfl⟩
    by_cases h:c x y<0
    · rw[hcells2]at hr
      obtain⟨s1,g1,g2,g3,g4⟩:=hr.store (k:=q.length+1) (u:=iv y) hql2 rfl rfl
      have e1:(ivs q.reverse++[iv y])++iv y::T=ivs q.reverse++iv y::(iv y::T):=by simp
      rw[e1]at g2
      obtain⟨s2,k1,k2,k3,k4⟩:=g2.store (k:=q.length) (u:=iv x) hql rfl rfl
      simp only[h,decide_true,Wi,Wj,a1,l1,hs,a0,l0,on2,g1,k1,AT,Qa,Qb,Qc,Qd,Qe,Qf,Qg,Qh,Qi,Qj,Qk,Ql,Qm,Qn,true_and,and_true,Qo,Qp,Qq,Qr,Qs,Qt,Qu,Qv,Qw,Qx,Qy,Qz,Ra,Rb,Rc,Rd,Re,Rf,Rg,Rh,Ri,Rj,Rk,Rl,Rm,Ya,Yb,Yc,Rn,Ro,Rp,Yd,Ye,Rq,Rs,Rt,Ru,Rv,Rw,Rx]
      rw[← hW]
      have e2:CO c x (y::q)=y::CO c x q:=by simp[CO,h]
      refine ih (iv y::T) s2 x5 _ (by omega) (fun z hz=>hp z (oJ _ hz)) (fun z hz=>(k4 z hz).trans ((g4 z hz).trans (hf z hz))) (by omega) ?_ ?_
      · have e3:ivs (q.reverse++[x])++iv y::T=ivs q.reverse++iv x::(iv y::T):=by simp
        rw[e3];exact k2
      · intro s' y5 y7 f1 f2 f3
        refine hq s' y5 y7 ?_ (by omega) f3
        rw[e2]
        have e4:ivs (y::CO c x q).reverse++T=ivs (CO c x q).reverse++(iv y::T):=by simp
        rw[e4];exact f1
    · have e2:CO c x (y::q)=x::y::q:=by simp[CO,h]
      simp only[h,decide_false,Qa,Qb,Qc,Qd,Qe,Qf,Qg,Qh,Qi,Qj,Qk,Ql,Qm,Qn,true_and,and_true,Qo,Qp,Qq,Qr,Qs,Qt,Qu,Qv,Qw,Qx,Qy,Qz,Ra,Rb,Rc,Rd,Re,Rf,Rg,Rh,Ri,Rj,Rk,Rl,Rm,Ya,Yb,Yc,Rn,Ro,Rp,Yd,Ye,Rq,Rs,Rt,Ru,Rv,Rw,Rx]
      refine hq s _ _ ?_ hnx hf
      rw[e2]
      have e4:ivs (x::y::q).reverse++T=ivs ((y::q).reverse++[x])++T:=by simp
      rw[e4];exact hr
theorem VS{E:Env}(hE:An E){i n:Nat}(hn:n≤1000){s0:ASt}{P:Int→Prop}{c:Int→Int→Int}{g:FuncId}{cp G:List AV}(hg:∀s a b,(∀z,z≠i→s.heap.get z=s0.heap.get z)→s.next=s0.next→P a→P b→WF E g (iv a::iv b::cp) (fun r s'=>r=iv (c a b)∧s=s') s){Q:A6→Prop}:
    ∀ (R q : List Int) (s : ASt) (m : Nat) (x5 x6 x7 : AV), q.length = m → n = q.length + R.length → (∀ y ∈ q, P y) → (∀ y ∈ R, P y) → (∀ z, z ≠ i → s.heap.get z = s0.heap.get z) → s.next = s0.next → BD    s i (ivs (q.reverse ++ R) ++ G) →
      (∀s' y4 y5 y6 y7,BD s' i (ivs (R.foldl (fun q x=>CO c x q) q).reverse++G)→s'.next=s0.next→(∀z,z≠i→s'.heap.get z=s0.heap.get z)→Q ⟨.exit 0,[.slice (some (i,0)) n none,iv 0,iv (n:Int),.func g [] cp,y4,y5,y6,y7],[],s'⟩) →
      WC E none (.loop Hf) Q [.slice (some (i,0)) n none,iv 0,iv (n:Int),.func g [] cp,iv (m:Int),x5,x6,x7] [] s:=by
  intro R
  induction R with
  | nil =>
    intro q s m x5 x6 x7 hm hq hp hpR hf hnx hr hk
    subst hm
    have hlt:decide (((q.length:Nat):Int)<(n:Int))=false:=decide_eq_false (by simp at hq;omega)
    refine WC.loop' ?_
    simp only[Hf,Ka,hlt,Qa,Qb,Qc,Qd,Qe,Qf,Qg,Qh,Qi,Qj,Qk,Ql,Qm,Qn,true_and,and_true,Qo,Qp,Qq,Qr,Qs,Qt,Qu,Qv,Qw,Qx,Qy,Qz,Ra,Rb,Rc,Rd,Re,Rf,Rg,Rh,Ri,Rj,Rk,Rl,Rm,Ya,Yb,Yc,Rn,Ro,Rp,Yd,Ye,Rq,Rs,Rt,Ru,Rv,Rw,Rx]
    exact hk s _ _ _ _ (by simpa using hr) hnx hf
  | cons x T ih =>
    intro q s m x5 x6 x7 hm hq hp hpR hf hnx hr hk
    subst hm
    have hR:(x::T).length=T.length+1:=rfl
    rw[hR]at hq
    have hlt:decide (((q.length:Nat):Int)<(n:Int))=true:=decide_eq_true (by omega)
    have e3:=Aq Try.prog 3 ((q.length:Nat):Int) 1 ⟨by omega,by omega⟩
    have hcast:(((q.length:Nat):Int)+1)=((q.length+1:Nat):Int):=by omega
    have hPx:=hpR x (oH ..)
    refine WC.loop' ?_
    generalize hW:WC E none (AX.loop Hf) Q=W
    simp only[Hf,Ka,Wh,hlt,Qa,Qb,Qc,Qd,Qe,Qf,Qg,Qh,Qi,Qj,Qk,Ql,Qm,Qn,true_and,and_true,Qo,Qp,Qq,Qr,Qs,Qt,Qu,Qv,Qw,Qx,Qy,Qz,Ra,Rb,Rc,Rd,Re,Rf,Rg,Rh,Ri,Rj,Rk,Rl,Rm,Ya,Yb,Yc,Rn,Ro,Rp,Yd,Ye,Rq,Rs,Rt,Ru,Rv,Rw,Rx]
    refine aR hE hn hg x hPx q (ivs T++G) s _ _ (by omega) hp hf hnx (by simpa using hr) ?_
    intro s' y5 y7 g1 g2 g3
    simp only[Wk,e3,hcast,if_true,Qa,Qb,Qc,Qd,Qe,Qf,Qg,Qh,Qi,Qj,Qk,Ql,Qm,Qn,true_and,and_true,Qo,Qp,Qq,Qr,Qs,Qt,Qu,Qv,Qw,Qx,Qy,Qz,Ra,Rb,Rc,Rd,Re,Rf,Rg,Rh,Ri,Rj,Rk,Rl,Rm,Ya,Yb,Yc,Rn,Ro,Rp,Yd,Ye,Rq,Rs,Rt,Ru,Rv,Rw,Rx]
    rw[← hW]
    refine ih (CO c x q) s' (q.length+1) _ _ _ (G2 c x q) (by rw[G2];omega) (fun y hy=>?_) (fun y hy=>hpR y (oJ _ hy)) g3 g2 (by simpa using g1) hk
    rcases(G3 c x y q).1 hy with e | e
    · rw[e];exact hPx
    · exact hp y e
theorem aS       {E : Env} (hE : An   E) {lo : Nat} {s0 : ASt} {v : AV} {L : List Int} (h : Cp     lo s0 v L) (hL : L.length ≤ 12) {P : Int → Prop} {c : Int → Int → Int} {g : FuncId} {cp : List AV} (hP : ∀ y ∈ L, P y)
    (hg:∀s a b,(∀z,Ix v≠some z→s.heap.get z=s0.heap.get z)→s.next=s0.next→P a→P b→WF E g (iv a::iv b::cp) (fun r s'=>r=iv (c a b)∧s=s') s):
    WF E 75 [v,.func g [] cp] (fun r s'=>Cp lo s' v (Ft c L)∧s'.next=s0.next∧∀z,Ix v≠some z→s'.heap.get z=s0.heap.get z) s0:=by
  have e3:=Aq Try.prog 3 0 1 ⟨by omega,by omega⟩
  have e4:(0:Int)+1=1:=rfl
  have h114:WF E 114 [v,iv 0,iv (L.length:Int),.func g [] cp] (fun r s'=>Cp lo s' v (Ft c L)∧s'.next=s0.next∧∀z,Ix v≠some z→s'.heap.get z=s0.heap.get z) s0:=by
    refine hE.go cL (by decide) rfl ?_
    rcases h with⟨a,rfl,rfl⟩ | ⟨i,G,rfl,h1,h2,h3⟩
    · simp only[jU,QS,e3,e4,pH,show((0:Nat):Int)=0 from rfl,Qa,Qb,Qc,Qd,Qe,Qf,Qg,Qh,Qi,Qj,Qk,Ql,Qm,Qn,true_and,and_true,Qo,Qp,Qq,Qr,Qs,Qt,Qu,Qv,Qw,Qx,Qy,Qz,Ra,Rb,Rc,Rd,Re,Rf,Rg,Rh,Ri,Rj,Rk,Rl,Rm,Ya,Yb,Yc,Rn,Ro,Rp,Yd,Ye,Rq,Rs,Rt,Ru,Rv,Rw,Rx]
      refine WC.loop' ?_
      simp only[Hf,Ka,show decide ((1:Int)<0)=false from rfl,if_true,Qa,Qb,Qc,Qd,Qe,Qf,Qg,Qh,Qi,Qj,Qk,Ql,Qm,Qn,true_and,and_true,Qo,Qp,Qq,Qr,Qs,Qt,Qu,Qv,Qw,Qx,Qy,Qz,Ra,Rb,Rc,Rd,Re,Rf,Rg,Rh,Ri,Rj,Rk,Rl,Rm,Ya,Yb,Yc,Rn,Ro,Rp,Yd,Ye,Rq,Rs,Rt,Ru,Rv,Rw,Rx]
      exact⟨.inl ⟨a,rfl,rfl⟩,fun _ _=>trivial⟩
    · simp only[jU,QS,e3,e4,Qa,Qb,Qc,Qd,Qe,Qf,Qg,Qh,Qi,Qj,Qk,Ql,Qm,Qn,true_and,and_true,Qo,Qp,Qq,Qr,Qs,Qt,Qu,Qv,Qw,Qx,Qy,Qz,Ra,Rb,Rc,Rd,Re,Rf,Rg,Rh,Ri,Rj,Rk,Rl,Rm,Ya,Yb,Yc,Rn,Ro,Rp,Yd,Ye,Rq,Rs,Rt,Ru,Rv,Rw,Rx]
      cases L with
      | nil =>
        refine WC.loop' ?_
        simp only[Hf,Ka,pH,show((0:Nat):Int)=0 from rfl,show decide ((1:Int)<0)=false from rfl,if_true,Qa,Qb,Qc,Qd,Qe,Qf,Qg,Qh,Qi,Qj,Qk,Ql,Qm,Qn,true_and,and_true,Qo,Qp,Qq,Qr,Qs,Qt,Qu,Qv,Qw,Qx,Qy,Qz,Ra,Rb,Rc,Rd,Re,Rf,Rg,Rh,Ri,Rj,Rk,Rl,Rm,Ya,Yb,Yc,Rn,Ro,Rp,Yd,Ye,Rq,Rs,Rt,Ru,Rv,Rw,Rx]
        exact⟨.inr ⟨i,G,rfl,h1,h2,h3⟩,fun _ _=>trivial⟩
      | cons x T =>
        refine VS hE (n:=(x::T).length) (by omega) (s0:=s0) (P:=P) (c:=c) (G:=G) (fun s a b f1 f2 p1 p2=>hg s a b (fun z hz=>f1 z fun e=>hz (by rw[e];rfl)) f2 p1 p2) T [x] s0 1 _ _ _ rfl (by simp;omega) (fun y hy=>hP y (by simp at hy;rw[hy];exact oH ..)) (fun y hy=>hP y (oJ _ hy)) (fun _ _=>rfl) rfl (by simpa using h3) ?_
        intro s' y4 y5 y6 y7 g1 g2 g3
        simp only[if_true,Qa,Qb,Qc,Qd,Qe,Qf,Qg,Qh,Qi,Qj,Qk,Ql,Qm,Qn,true_and,and_true,Qo,Qp,Qq,Qr,Qs,Qt,Qu,Qv,Qw,Qx,Qy,Qz,Ra,Rb,Rc,Rd,Re,Rf,Rg,Rh,Ri,Rj,Rk,Rl,Rm,Ya,Yb,Yc,Rn,Ro,Rp,Yd,Ye,Rq,Rs,Rt,Ru,Rv,Rw,Rx]
        exact⟨.inr ⟨i,G,by rw[M8],h1,by omega,g1⟩,g2,fun z hz=>g3 z fun e=>hz (by rw[e];rfl)⟩
  have d1:decide ((20:Int)≤(L.length:Int))=false:=decide_eq_false (by omega)
  have d2:decide ((20:Int)<(L.length:Int))=false:=decide_eq_false (by omega)
  have ln:∀s,Ao Try.prog s 23 v=some (iv (L.length:Int)):=fun s=>by
    have:=h.slice.len Try.underlying23 s
    rw[Ce]at this
    exact this
  have h102:WF E 102 [v,iv (L.length:Int),.func g [] cp] (fun r s'=>Cp lo s' v (Ft c L)∧s'.next=s0.next∧∀z,Ix v≠some z→s'.heap.get z=s0.heap.get z) s0:=by
    refine hE.go cC (by decide) rfl ?_
    simp only[mR,V2,V3,Qa,Qb,Qc,Qd,Qe,Qf,Qg,Qh,Qi,Qj,Qk,Ql,Qm,Qn,true_and,and_true,Qo,Qp,Qq,Qr,Qs,Qt,Qu,Qv,Qw,Qx,Qy,Qz,Ra,Rb,Rc,Rd,Re,Rf,Rg,Rh,Ri,Rj,Rk,Rl,Rm,Ya,Yb,Yc,Rn,Ro,Rp,Yd,Ye,Rq,Rs,Rt,Ru,Rv,Rw,Rx]
    refine WC.loop' ?_
    simp only[Vz,V4,d1,if_true,V5,Qa,Qb,Qc,Qd,Qe,Qf,Qg,Qh,Qi,Qj,Qk,Ql,Qm,Qn,true_and,and_true,Qo,Qp,Qq,Qr,Qs,Qt,Qu,Qv,Qw,Qx,Qy,Qz,Ra,Rb,Rc,Rd,Re,Rf,Rg,Rh,Ri,Rj,Rk,Rl,Rm,Ya,Yb,Yc,Rn,Ro,Rp,Yd,Ye,Rq,Rs,Rt,Ru,Rv,Rw,Rx]
    refine h114.mono ?_
    rintro r s' h'
    simp only[Qa,Qb,Qc,Qd,Qe,Qf,Qg,Qh,Qi,Qj,Qk,Ql,Qm,Qn,true_and,and_true,Qo,Qp,Qq,Qr,Qs,Qt,Qu,Qv,Qw,Qx,Qy,Qz,Ra,Rb,Rc,Rd,Re,Rf,Rg,Rh,Ri,Rj,Rk,Rl,Rm,Ya,Yb,Yc,Rn,Ro,Rp,Yd,Ye,Rq,Rs,Rt,Ru,Rv,Rw,Rx]
    refine WC.loop' ?_
    simp only[TS,V6,d2,if_true,Qa,Qb,Qc,Qd,Qe,Qf,Qg,Qh,Qi,Qj,Qk,Ql,Qm,Qn,true_and,and_true,Qo,Qp,Qq,Qr,Qs,Qt,Qu,Qv,Qw,Qx,Qy,Qz,Ra,Rb,Rc,Rd,Re,Rf,Rg,Rh,Ri,Rj,Rk,Rl,Rm,Ya,Yb,Yc,Rn,Ro,Rp,Yd,Ye,Rq,Rs,Rt,Ru,Rv,Rw,Rx]
    exact h'
  refine hE.go kr (by decide) rfl ?_
  simp only[c75,gr,ln,Qa,Qb,Qc,Qd,Qe,Qf,Qg,Qh,Qi,Qj,Qk,Ql,Qm,Qn,true_and,and_true,Qo,Qp,Qq,Qr,Qs,Qt,Qu,Qv,Qw,Qx,Qy,Qz,Ra,Rb,Rc,Rd,Re,Rf,Rg,Rh,Ri,Rj,Rk,Rl,Rm,Ya,Yb,Yc,Rn,Ro,Rp,Yd,Ye,Rq,Rs,Rt,Ru,Rv,Rw,Rx]
  refine h102.mono ?_
  rintro r s' h'
  simp only[Qa,Qb,Qc,Qd,Qe,Qf,Qg,Qh,Qi,Qj,Qk,Ql,Qm,Qn,true_and,and_true,Qo,Qp,Qq,Qr,Qs,Qt,Qu,Qv,Qw,Qx,Qy,Qz,Ra,Rb,Rc,Rd,Re,Rf,Rg,Rh,Ri,Rj,Rk,Rl,Rm,Ya,Yb,Yc,Rn,Ro,Rp,Yd,Ye,Rq,Rs,Rt,Ru,Rv,Rw,Rx]
  exact h'
theorem Mn{val:List Int}(h:NI val)(l:Int):isV val l=-1∨isV val l=0∨isV val l=1:=by
  unfold isV
  have:=h.get l.natAbs
  split<;>omega
theorem kF{E:Env}(hE:An E){ow:Ow}{s:ASt}{p:Nat}{x:Sf}{v:Sv}(h:SAt ow s p x v)(h3:NI v.value){n sb:Nat}(hn:n<100000000)(hval:v.value.length=n+1)(hb:Al s sb (AR p)){a b:Int}(ha:VL n a)(hb':VL n b):
    WF E 76 [iv a,iv b,.ptr (some (sb,0))] (fun r s'=>r=iv (isV v.value b - isV v.value a)∧s=s') s:=by
  have l1:=hb.load FS
  simp only[AR]at l1
  have eqp:eqA (.ptr (some (p,0))) (.ptr (some (p,0)))=true:=by simp[eqA]
  have ha2:=ha.2
  have hb2:=hb'.2
  have k1:=Mn h3 a
  have k2:=Mn h3 b
  have e3:=CD Try.prog 3 (isV v.value b) (isV v.value a) ⟨by omega,by omega⟩
  refine hE.go ks (by decide) rfl ?_
  simp only[c76,gt,gu,l1,Qa,Qb,Qc,Qd,Qe,Qf,Qg,Qh,Qi,Qj,Qk,Ql,Qm,Qn,true_and,and_true,Qo,Qp,Qq,Qr,Qs,Qt,Qu,Qv,Qw,Qx,Qy,Qz,Ra,Rb,Rc,Rd,Re,Rf,Rg,Rh,Ri,Rj,Rk,Rl,Rm,Ya,Yb,Yc,Rn,Ro,Rp,Yd,Ye,Rq,Rs,Rt,Ru,Rv,Rw,Rx]
  refine(Ji hE h h3 (l:=b) (by omega) (by omega)).mono ?_
  rintro _ _ ⟨rfl,rfl⟩
  simp only[BR,Az,l1,eqp,Qa,Qb,Qc,Qd,Qe,Qf,Qg,Qh,Qi,Qj,Qk,Ql,Qm,Qn,true_and,and_true,Qo,Qp,Qq,Qr,Qs,Qt,Qu,Qv,Qw,Qx,Qy,Qz,Ra,Rb,Rc,Rd,Re,Rf,Rg,Rh,Ri,Rj,Rk,Rl,Rm,Ya,Yb,Yc,Rn,Ro,Rp,Yd,Ye,Rq,Rs,Rt,Ru,Rv,Rw,Rx]
  refine(Ji hE h h3 (l:=a) (by omega) (by omega)).mono ?_
  rintro _ _ ⟨rfl,rfl⟩
  simp only[e3,Qa,Qb,Qc,Qd,Qe,Qf,Qg,Qh,Qi,Qj,Qk,Ql,Qm,Qn,true_and,and_true,Qo,Qp,Qq,Qr,Qs,Qt,Qu,Qv,Qw,Qx,Qy,Qz,Ra,Rb,Rc,Rd,Re,Rf,Rg,Rh,Ri,Rj,Rk,Rl,Rm,Ya,Yb,Yc,Rn,Ro,Rp,Yd,Ye,Rq,Rs,Rt,Ru,Rv,Rw,Rx]
theorem jE     {E : Env} (hE : An   E) {ow : Ow} {s : ASt} {p : Nat} {x : Sf} {v : Sv} (h : SAt ow s p x v) {n sb : Nat} (hn : n < 100000000) (hval : v.value.length = n + 1) (hb : Al   s sb (AR   p)) (q : Int) :
    WF E 73 [iv q,.ptr (some (sb,0))] (fun r s'=>r=.bool (!decide (VL n q))∧s=s') s:=by
  have l1:=hb.load FS
  simp only[AR]at l1
  have e1:=EY Try.prog (n:Int) ⟨by omega,by omega⟩
  refine hE.go kp (by decide) rfl ?_
  by_cases h0:q=0
  · have hd:decide (VL n q)=false:=decide_eq_false fun k=>k.1 h0
    simp only[c73,YR,YS,decide_eq_true h0,hd,Qa,Qb,Qc,Qd,Qe,Qf,Qg,Qh,Qi,Qj,Qk,Ql,Qm,Qn,true_and,and_true,Qo,Qp,Qq,Qr,Qs,Qt,Qu,Qv,Qw,Qx,Qy,Qz,Ra,Rb,Rc,Rd,Re,Rf,Rg,Rh,Ri,Rj,Rk,Rl,Rm,Ya,Yb,Yc,Rn,Ro,Rp,Yd,Ye,Rq,Rs,Rt,Ru,Rv,Rw,Rx]
  · simp only[c73,YR,YS,decide_eq_false h0,l1,Qa,Qb,Qc,Qd,Qe,Qf,Qg,Qh,Qi,Qj,Qk,Ql,Qm,Qn,true_and,and_true,Qo,Qp,Qq,Qr,Qs,Qt,Qu,Qv,Qw,Qx,Qy,Qz,Ra,Rb,Rc,Rd,Re,Rf,Rg,Rh,Ri,Rj,Rk,Rl,Rm,Ya,Yb,Yc,Rn,Ro,Rp,Yd,Ye,Rq,Rs,Rt,Ru,Rv,Rw,Rx]
    refine(UD hE h hn hval).mono ?_
    rintro _ _ ⟨rfl,rfl⟩
    by_cases h1:q < -(n:Int)
    · have hd:decide (VL n q)=false:=decide_eq_false fun k=>by have:=k.2;omega
      simp only[e1,decide_eq_true h1,hd,Qa,Qb,Qc,Qd,Qe,Qf,Qg,Qh,Qi,Qj,Qk,Ql,Qm,Qn,true_and,and_true,Qo,Qp,Qq,Qr,Qs,Qt,Qu,Qv,Qw,Qx,Qy,Qz,Ra,Rb,Rc,Rd,Re,Rf,Rg,Rh,Ri,Rj,Rk,Rl,Rm,Ya,Yb,Yc,Rn,Ro,Rp,Yd,Ye,Rq,Rs,Rt,Ru,Rv,Rw,Rx]
    · simp only[e1,decide_eq_false h1,l1,Qa,Qb,Qc,Qd,Qe,Qf,Qg,Qh,Qi,Qj,Qk,Ql,Qm,Qn,true_and,and_true,Qo,Qp,Qq,Qr,Qs,Qt,Qu,Qv,Qw,Qx,Qy,Qz,Ra,Rb,Rc,Rd,Re,Rf,Rg,Rh,Ri,Rj,Rk,Rl,Rm,Ya,Yb,Yc,Rn,Ro,Rp,Yd,Ye,Rq,Rs,Rt,Ru,Rv,Rw,Rx]
      refine(UD hE h hn hval).mono ?_
      rintro _ _ ⟨rfl,rfl⟩
      by_cases h2:(n:Int)<q
      · have hd:decide (VL n q)=false:=decide_eq_false fun k=>by have:=k.2;omega
        simp only[decide_eq_true h2,hd,Qa,Qb,Qc,Qd,Qe,Qf,Qg,Qh,Qi,Qj,Qk,Ql,Qm,Qn,true_and,and_true,Qo,Qp,Qq,Qr,Qs,Qt,Qu,Qv,Qw,Qx,Qy,Qz,Ra,Rb,Rc,Rd,Re,Rf,Rg,Rh,Ri,Rj,Rk,Rl,Rm,Ya,Yb,Yc,Rn,Ro,Rp,Yd,Ye,Rq,Rs,Rt,Ru,Rv,Rw,Rx]
      · have hd:decide (VL n q)=true:=decide_eq_true ⟨h0,by omega⟩
        simp only[decide_eq_false h2,hd,Qa,Qb,Qc,Qd,Qe,Qf,Qg,Qh,Qi,Qj,Qk,Ql,Qm,Qn,true_and,and_true,Qo,Qp,Qq,Qr,Qs,Qt,Qu,Qv,Qw,Qx,Qy,Qz,Ra,Rb,Rc,Rd,Re,Rf,Rg,Rh,Ri,Rj,Rk,Rl,Rm,Ya,Yb,Yc,Rn,Ro,Rp,Yd,Ye,Rq,Rs,Rt,Ru,Rv,Rw,Rx]
def B8(v:Sv)(L:List Int):List Int:=Ft (fun a b=>isV v.value b - isV v.value a) (EW L)
def Fo(v:Sv)(c:Nat)(O:List Int):Sv:=if 1<O.length then ON (HP v c (O,false,false)) c (O.getD 0 0) (O.getD 1 0)else HP v c (O,false,false)
def NJ(v:Sv)(c:Nat)(O:List Int):Sv:=
  if isV v.value (O.getD 0 0)<0 then EH (Fo v c O)
  else if isV v.value (O.getD 0 0)=0∧(O.length=1∨isV v.value (O.getD 1 0)<0)then BY (Fo v c O) (O.getD 0 0) (some c)
  else Fo v c O
inductive L8 (b:Sv) (L:List Int):Sv→Prop
  | none (h:Jr (EW L)=true∨b.broken=true):L8 b L b
  | nil (h:Jr (EW L)=false) (hb:b.broken=false) (he:EW L=[]):L8 b L (EH b)
  | put {c:Nat} (h:Jr (EW L)=false) (hb:b.broken=false) (he:EW L≠[]) (hc:b.cl c=none):L8 b L (NJ b c (B8 b L))
theorem If(v:Sv)(c:Nat)(O:List Int):∃ws,Fo v c O={ v with watches:=ws,cl:=Ag v.cl c (O,false,false) }∧ws.length=v.watches.length:=by
  unfold Fo
  split
  · exact⟨_,rfl,by rw[Ds,Ds];rfl⟩
  · exact⟨v.watches,rfl,rfl⟩
theorem am      {E : Env} (hE : An   E) {ow : Ow} {s : ASt} {p : Nat} {x : Sf} {v : Sv} (h : SAt ow s p x v) {n : Nat} (hz : Siz n v) (h3 : NI   v.value) (hT : v.trace.length ≤ 1000000) (hW : Tot v.watches ≤ 90000000) {c sb : Nat} {w : AV} {O : List Int} (hc : v.cl c = none) (hO : BM    n O) (hne : O ≠ []) (hb : Al   s sb (AR   p)) (hsb : ow sb = (p, 21, 0) ∧ sb < s.next) (hcl : SAt ow s p x (HP    v c (O, false, false))) (hw : Buf ow (p, 15, c) s w (ivs O)) {K : A6   → Prop} {x1 x3 x5 x7 x8 x9 x10 x11 x12 : AV}
    (hK:∀s' ow' x' V,SAt ow' s' p x' (NJ v c O)→AK (Bh p) ow s ow' s'→nth V 3=iv 0→K ⟨.ret,V,[],s'⟩):
    Qa E none (.seq (.seq (.ops Kg) (.cond (.var 10) (.ops RG) .skip)) (.seq (.block 1 (.seq (.ops Kh) (.cond (.var 11) (.ops Ki) (.seq (.ops Nc) (.cond (.var 12) (.ops Kj) .skip))))) (.seq (.ops Fy) .ret))) K [AV.ptr (some (p,0)),x1,.ptr (some (sb,0)),x3,w,x5,AR c,x7,x8,x9,x10,x11,x12] [] s:=by
  have hpos:0<O.length:=List.length_pos_iff.2 hne
  have hsm:=hz.small
  have hOl:=hO.2
  have ln:∀s,Ao Try.prog s 23 w=some (iv (O.length:Int)):=fun s=>by
    have:=hw.len Try.underlying23 s
    rw[Ce]at this
    exact this
  have hV0:=hO.get hpos
  have hg0:=AS (d:=(0:Int)) hpos
  have i0:AC Try.prog 23 w (iv 0)=some (BC w 0):=hw.addr Try.underlying23 sz3 (k:=0) (by rw[Ce];exact hpos)
  have d0:decide ((O.length:Int)=0)=false:=decide_eq_false (by omega)
  have rest : ∀ (s1 : ASt) (ow1 : Ow) (y10 : AV), SAt ow1 s1 p x (Fo   v c O) → AK   (Jk    p) ow s ow1 s1 →
      Qa E none (.seq (.block 1 (.seq (.ops Kh) (.cond (.var 11) (.ops Ki) (.seq (.ops Nc) (.cond (.var 12) (.ops Kj) .skip))))) (.seq (.ops Fy) .ret)) K [AV.ptr (some (p,0)),x1,.ptr (some (sb,0)),x3,w,x5,AR c,x7,x8,x9,y10,x11,x12] [] s1:=by
    intro s1 ow1 y10 h1 st1
    obtain⟨ws,e,hws⟩:=If v c O
    have hval:(Fo v c O).value=v.value:=by rw[e]
    have h3':NI (Fo v c O).value:=by rw[hval];exact h3
    have hsz':Siz n (Fo v c O):=by rw[e];exact⟨hz.small,hws.trans hz.w,hz.value,hz.level,hz.why,hz.heat,hz.phase,hz.trail,hz.limits⟩
    have hT':(Fo v c O).trace.length≤1000000:=by rw[e];exact hT
    have hw1:Buf ow1 (p,15,c) s1 w (ivs O):=hw.step st1 (fun q=>by rcases q.2 with q | q<;>cases q)
    have hb1:Al s1 sb (AR p):=hb.keep (st1.heap sb hsb.2 (by rw[hsb.1];exact fun q=>by rcases q.2 with q | q<;>cases q))
    have l1:=hb1.load FS
    simp only[AR]at l1
    have l0:=hw1.get (t:=3) ag3 (k:=0) (A2 hg0)
    have hvl:=hz.value
    have hV02:=hV0.2
    simp only[Kh,ln,d0,l1,i0,l0,AR,Qa,Qb,Qc,Qd,Qe,Qf,Qg,Qh,Qi,Qj,Qk,Ql,Qm,Qn,true_and,and_true,Qo,Qp,Qq,Qr,Qs,Qt,Qu,Qv,Qw,Qx,Qy,Qz,Ra,Rb,Rc,Rd,Re,Rf,Rg,Rh,Ri,Rj,Rk,Rl,Rm,Ya,Yb,Yc,Rn,Ro,Rp,Yd,Ye,Rq,Rs,Rt,Ru,Rv,Rw,Rx]
    refine(Ji hE h1 h3' (l:=O.getD 0 0) (by rw[hval];omega) (by rw[hval];omega)).mono ?_
    rintro _ _ ⟨rfl,rfl⟩
    rw[hval]
    by_cases hneg:isV v.value (O.getD 0 0)<0
    · simp only[decide_eq_true hneg,Ki,l1,Qa,Qb,Qc,Qd,Qe,Qf,Qg,Qh,Qi,Qj,Qk,Ql,Qm,Qn,true_and,and_true,Qo,Qp,Qq,Qr,Qs,Qt,Qu,Qv,Qw,Qx,Qy,Qz,Ra,Rb,Rc,Rd,Re,Rf,Rg,Rh,Ri,Rj,Rk,Rl,Rm,Ya,Yb,Yc,Rn,Ro,Rp,Yd,Ye,Rq,Rs,Rt,Ru,Rv,Rw,Rx]
      refine(No hE h1 hT').mono ?_
      rintro _ s2 ⟨ow2,x2,g1,g2,_⟩
      simp only[Fy,Qa,Qb,Qc,Qd,Qe,Qf,Qg,Qh,Qi,Qj,Qk,Ql,Qm,Qn,true_and,and_true,Qo,Qp,Qq,Qr,Qs,Qt,Qu,Qv,Qw,Qx,Qy,Qz,Ra,Rb,Rc,Rd,Re,Rf,Rg,Rh,Ri,Rj,Rk,Rl,Rm,Ya,Yb,Yc,Rn,Ro,Rp,Yd,Ye,Rq,Rs,Rt,Ru,Rv,Rw,Rx]
      refine hK s2 ow2 x2 _ ?_ (st1.w.trans g2.b) rfl
      unfold NJ
      rw[if_pos hneg]
      exact g1
    · simp only[decide_eq_false hneg,Nc,l1,i0,l0,Qa,Qb,Qc,Qd,Qe,Qf,Qg,Qh,Qi,Qj,Qk,Ql,Qm,Qn,true_and,and_true,Qo,Qp,Qq,Qr,Qs,Qt,Qu,Qv,Qw,Qx,Qy,Qz,Ra,Rb,Rc,Rd,Re,Rf,Rg,Rh,Ri,Rj,Rk,Rl,Rm,Ya,Yb,Yc,Rn,Ro,Rp,Yd,Ye,Rq,Rs,Rt,Ru,Rv,Rw,Rx]
      refine(Ji hE h1 h3' (l:=O.getD 0 0) (by rw[hval];omega) (by rw[hval];omega)).mono ?_
      rintro _ _ ⟨rfl,rfl⟩
      rw[hval]
      have asg:isV v.value (O.getD 0 0)=0∧(O.length=1∨isV v.value (O.getD 1 0)<0)→WF E 71 [AV.ptr (some (p,0)),iv (O.getD 0 0),.ptr (some (c,0))] (fun _ s'=>∃ow' x',SAt ow' s' p x' (NJ v c O)∧AK (Bh p) ow s ow' s') s1:=by
        intro hc2
        refine(Fg hE h1 hsz' hV0 (some c)).mono ?_
        rintro _ s2 ⟨ow2,x2,g1,g2,_⟩
        refine⟨ow2,x2,?_,st1.w.trans g2.b⟩
        unfold NJ
        rw[if_neg hneg,if_pos hc2]
        exact g1
      have non:¬ (isV v.value (O.getD 0 0)=0∧(O.length=1∨isV v.value (O.getD 1 0)<0))→SAt ow1 s1 p x (NJ v c O):=by
        intro hc2
        unfold NJ
        rw[if_neg hneg,if_neg hc2]
        exact h1
      by_cases hz0:isV v.value (O.getD 0 0)=0
      · have e1:decide ((O.length:Int)=1)=decide (O.length=1):=by
          by_cases q:O.length=1
          · rw[decide_eq_true q,decide_eq_true (by omega)]
          · rw[decide_eq_false q,decide_eq_false (by omega)]
        by_cases hl1:O.length=1
        · simp only[decide_eq_true hz0,ln,e1,decide_eq_true hl1,Kj,l1,i0,l0,Qa,Qb,Qc,Qd,Qe,Qf,Qg,Qh,Qi,Qj,Qk,Ql,Qm,Qn,true_and,and_true,Qo,Qp,Qq,Qr,Qs,Qt,Qu,Qv,Qw,Qx,Qy,Qz,Ra,Rb,Rc,Rd,Re,Rf,Rg,Rh,Ri,Rj,Rk,Rl,Rm,Ya,Yb,Yc,Rn,Ro,Rp,Yd,Ye,Rq,Rs,Rt,Ru,Rv,Rw,Rx]
          refine(asg ⟨hz0,.inl hl1⟩).mono ?_
          rintro _ s2 ⟨ow2,x2,g1,g2⟩
          simp only[Fy,Qa,Qb,Qc,Qd,Qe,Qf,Qg,Qh,Qi,Qj,Qk,Ql,Qm,Qn,true_and,and_true,Qo,Qp,Qq,Qr,Qs,Qt,Qu,Qv,Qw,Qx,Qy,Qz,Ra,Rb,Rc,Rd,Re,Rf,Rg,Rh,Ri,Rj,Rk,Rl,Rm,Ya,Yb,Yc,Rn,Ro,Rp,Yd,Ye,Rq,Rs,Rt,Ru,Rv,Rw,Rx]
          exact hK s2 ow2 x2 _ g1 g2 rfl
        · have hV1 := hO.get (k := 1) (by omega)
          have hV12:=hV1.2
          have hg1:=AS (d:=(0:Int)) (show 1<O.length by omega)
          have i1:AC Try.prog 23 w (iv 1)=some (BC w 1):=hw.addr Try.underlying23 sz3 (k:=1) (by rw[Ce];omega)
          have m1:=hw1.get (t:=3) ag3 (k:=1) (A2 hg1)
          simp only[decide_eq_true hz0,ln,e1,decide_eq_false hl1,l1,i1,m1,Qa,Qb,Qc,Qd,Qe,Qf,Qg,Qh,Qi,Qj,Qk,Ql,Qm,Qn,true_and,and_true,Qo,Qp,Qq,Qr,Qs,Qt,Qu,Qv,Qw,Qx,Qy,Qz,Ra,Rb,Rc,Rd,Re,Rf,Rg,Rh,Ri,Rj,Rk,Rl,Rm,Ya,Yb,Yc,Rn,Ro,Rp,Yd,Ye,Rq,Rs,Rt,Ru,Rv,Rw,Rx]
          refine(Ji hE h1 h3' (l:=O.getD 1 0) (by rw[hval];omega) (by rw[hval];omega)).mono ?_
          rintro _ _ ⟨rfl,rfl⟩
          rw[hval]
          by_cases hn1:isV v.value (O.getD 1 0)<0
          · simp only[decide_eq_true hn1,Kj,l1,i0,l0,Qa,Qb,Qc,Qd,Qe,Qf,Qg,Qh,Qi,Qj,Qk,Ql,Qm,Qn,true_and,and_true,Qo,Qp,Qq,Qr,Qs,Qt,Qu,Qv,Qw,Qx,Qy,Qz,Ra,Rb,Rc,Rd,Re,Rf,Rg,Rh,Ri,Rj,Rk,Rl,Rm,Ya,Yb,Yc,Rn,Ro,Rp,Yd,Ye,Rq,Rs,Rt,Ru,Rv,Rw,Rx]
            refine(asg ⟨hz0,.inr hn1⟩).mono ?_
            rintro _ s2 ⟨ow2,x2,g1,g2⟩
            simp only[Fy,Qa,Qb,Qc,Qd,Qe,Qf,Qg,Qh,Qi,Qj,Qk,Ql,Qm,Qn,true_and,and_true,Qo,Qp,Qq,Qr,Qs,Qt,Qu,Qv,Qw,Qx,Qy,Qz,Ra,Rb,Rc,Rd,Re,Rf,Rg,Rh,Ri,Rj,Rk,Rl,Rm,Ya,Yb,Yc,Rn,Ro,Rp,Yd,Ye,Rq,Rs,Rt,Ru,Rv,Rw,Rx]
            exact hK s2 ow2 x2 _ g1 g2 rfl
          · simp only[decide_eq_false hn1,Fy,Qa,Qb,Qc,Qd,Qe,Qf,Qg,Qh,Qi,Qj,Qk,Ql,Qm,Qn,true_and,and_true,Qo,Qp,Qq,Qr,Qs,Qt,Qu,Qv,Qw,Qx,Qy,Qz,Ra,Rb,Rc,Rd,Re,Rf,Rg,Rh,Ri,Rj,Rk,Rl,Rm,Ya,Yb,Yc,Rn,Ro,Rp,Yd,Ye,Rq,Rs,Rt,Ru,Rv,Rw,Rx]
            exact hK s1 ow1 x _ (non (by rintro⟨_,q | q⟩;exact hl1 q;exact hn1 q)) st1.w rfl
      · simp only[decide_eq_false hz0,Fy,Qa,Qb,Qc,Qd,Qe,Qf,Qg,Qh,Qi,Qj,Qk,Ql,Qm,Qn,true_and,and_true,Qo,Qp,Qq,Qr,Qs,Qt,Qu,Qv,Qw,Qx,Qy,Qz,Ra,Rb,Rc,Rd,Re,Rf,Rg,Rh,Ri,Rj,Rk,Rl,Rm,Ya,Yb,Yc,Rn,Ro,Rp,Yd,Ye,Rq,Rs,Rt,Ru,Rv,Rw,Rx]
        exact hK s1 ow1 x _ (non (fun q=>hz0 q.1)) st1.w rfl
  have l1:=hb.load FS
  simp only[AR]at l1
  by_cases h2:1<O.length
  · have d2 : decide ((1 : Int) < (O.length : Int)) = true := decide_eq_true (by omega)
    have e:Fo v c O=ON (HP v c (O,false,false)) c (O.getD 0 0) (O.getD 1 0):=by unfold Fo;rw[if_pos h2]
    unfold Qa
    simp only[Kg,ln,d2,RG,l1,AR,Qa,Qb,Qc,Qd,Qe,Qf,Qg,Qh,Qi,Qj,Qk,Ql,Qm,Qn,true_and,and_true,Qo,Qp,Qq,Qr,Qs,Qt,Qu,Qv,Qw,Qx,Qy,Qz,Ra,Rb,Rc,Rd,Re,Rf,Rg,Rh,Ri,Rj,Rk,Rl,Rm,Ya,Yb,Yc,Rn,Ro,Rp,Yd,Ye,Rq,Rs,Rt,Ru,Rv,Rw,Rx]
    refine(P4 hE hcl (n:=n) hsm hz.w hW (BF _ _ _) hO h2).mono ?_
    rintro _ s1 ⟨ow1,g1,g2⟩
    rw[← e]at g1
    have:=rest s1 ow1 (.bool true) g1 g2
    simp only[AR,Qa,Qb,Qc,Qd,Qe,Qf,Qg,Qh,Qi,Qj,Qk,Ql,Qm,Qn,true_and,and_true,Qo,Qp,Qq,Qr,Qs,Qt,Qu,Qv,Qw,Qx,Qy,Qz,Ra,Rb,Rc,Rd,Re,Rf,Rg,Rh,Ri,Rj,Rk,Rl,Rm,Ya,Yb,Yc,Rn,Ro,Rp,Yd,Ye,Rq,Rs,Rt,Ru,Rv,Rw,Rx]at this ⊢
    exact this
  · have d2 : decide ((1 : Int) < (O.length : Int)) = false := decide_eq_false (by omega)
    have e:Fo v c O=HP v c (O,false,false):=by unfold Fo;rw[if_neg h2]
    rw[← e]at hcl
    unfold Qa
    simp only[Kg,ln,d2,Qa,Qb,Qc,Qd,Qe,Qf,Qg,Qh,Qi,Qj,Qk,Ql,Qm,Qn,true_and,and_true,Qo,Qp,Qq,Qr,Qs,Qt,Qu,Qv,Qw,Qx,Qy,Qz,Ra,Rb,Rc,Rd,Re,Rf,Rg,Rh,Ri,Rj,Rk,Rl,Rm,Ya,Yb,Yc,Rn,Ro,Rp,Yd,Ye,Rq,Rs,Rt,Ru,Rv,Rw,Rx]
    have:=rest s ow (.bool false) hcl (AK.refl _ _ _)
    simp only[AR,Qa,Qb,Qc,Qd,Qe,Qf,Qg,Qh,Qi,Qj,Qk,Ql,Qm,Qn,true_and,and_true,Qo,Qp,Qq,Qr,Qs,Qt,Qu,Qv,Qw,Qx,Qy,Qz,Ra,Rb,Rc,Rd,Re,Rf,Rg,Rh,Ri,Rj,Rk,Rl,Rm,Ya,Yb,Yc,Rn,Ro,Rp,Yd,Ye,Rq,Rs,Rt,Ru,Rv,Rw,Rx]at this ⊢
    exact this
theorem i9     {E : Env} (hE : An   E) {ow : Ow} {s : ASt} {p : Nat} {x : Sf} {v : Sv} (h : SAt ow s p x v) {n : Nat} (hf : Fit n v) (hv3 : NI   (Av    v 0).value) (hT : v.trace.length ≤ 1000000) (hW : Tot v.watches ≤ 90000000) {L : List Int} (hlen : L.length ≤ 12) (hL : ∀ q ∈ L, VL n q) {b : Nat} {u : AV} (hb : b ≤ s.next) (hu : AM      b s u (ivs L)) (hus : ∀ j, CU   u = some j → (ow j).1 ≠ p ∧ j < s.next) :
    WF E 36 [AR p,u] (fun r s'=>r=iv 0∧∃v' ow' x',L8 (Av v 0) L v'∧SAt ow' s' p x' v'∧AK (Bh p) ow s ow' s') s:=by
  have hptr:∀i,Bv.val i .ptr=.ptr (some (i,0)):=fun _=>rfl
  have hbox:CL 44 (AV.ptr (some (p,0)))=some (AP 44 0 [AR p],.ptr):=by simp[CL,AR,AV.cells]
  have he:=Fj p
  have hsm:=hf.siz.small
  have hval:=hf.siz.value
  have st0:AK (fun _=>False) ow s (ext ow s.next (p,21,0)) (AH s (AP 44 0 [AR p])):=AK.new _ ow s _ _
  have h0:=h.keep st0 (fun _ q=>q.elim)
  have b0:Al (AH s (AP 44 0 [AR p])) s.next (AR p):=Al.new
  have l0:=b0.load FS
  have u0:AM b (AH s (AP 44 0 [AR p])) u (ivs L):=hu.old (Old.new s _) hb
  have t0:(ext ow s.next (p,21,0)) s.next=(p,21,0):=ER (oD _)
  have us0:∀j,CU u=some j→((ext ow s.next (p,21,0)) j).1≠p∧j<s.next:=fun j hj=>by
    obtain⟨q1,q2⟩:=hus j hj
    exact⟨by rw[FU q2];exact q1,q2⟩
  generalize hs0:AH s (AP 44 0 [AR p])=s0 at *
  have n0:s0.next=s.next+1:=by rw[← hs0];rfl
  generalize ext ow s.next (p,21,0)=ow0 at *
  have hany:(BK (fun q=>!decide (VL n q)) L 0).isSome=false:=by
    rw[Bool.eq_false_iff,Ne,EI]
    rintro⟨q,hq,hv⟩
    have:=hL q hq
    simp[this]at hv
  simp only[AR]at hbox l0 he
  refine hE.go kM (by decide) rfl ?_
  have hs0':AH s (AP 44 0 [.ptr (some (p,0))])=s0:=hs0
  simp only[c36,eU,AR,hbox,hs0',hptr,eV,l0,he,eW,pU,pP,Qa,Qb,Qc,Qd,Qe,Qf,Qg,Qh,Qi,Qj,Qk,Ql,Qm,Qn,true_and,and_true,Qo,Qp,Qq,Qr,Qs,Qt,Qu,Qv,Qw,Qx,Qy,Qz,Ra,Rb,Rc,Rd,Re,Rf,Rg,Rh,Ri,Rj,Rk,Rl,Rm,Ya,Yb,Yc,Rn,Ro,Rp,Yd,Ye,Rq,Rs,Rt,Ru,Rv,Rw,Rx]
  refine(IH hE (f:=fun q=>!decide (VL n q)) (g:=73) (cp:=[.ptr (some (s.next,0))]) (fun q hq=>jE hE h0 hsm hval b0 q) (by omega) u0).mono ?_
  rintro _ _ ⟨rfl,rfl⟩
  simp only[hany,eX,l0,Qa,Qb,Qc,Qd,Qe,Qf,Qg,Qh,Qi,Qj,Qk,Ql,Qm,Qn,true_and,and_true,Qo,Qp,Qq,Qr,Qs,Qt,Qu,Qv,Qw,Qx,Qy,Qz,Ra,Rb,Rc,Rd,Re,Rf,Rg,Rh,Ri,Rj,Rk,Rl,Rm,Ya,Yb,Yc,Rn,Ro,Rp,Yd,Ye,Rq,Rs,Rt,Ru,Rv,Rw,Rx]
  have hback:WF E 63 [.ptr (some (p,0)),.int .i64 0] (fun _ s'=>∃x',SAt ow0 s' p x' (Av v 0)∧AK (Bq p) ow0 s0 ow0 s'∧x'.w=x.w) s0:=Fh hE h0 hf (level:=0) (by decide)
  refine hback.mono ?_
  rintro _ s1 ⟨x1,h1,st1,_⟩
  obtain⟨ph,va,wh,tr,li,hd,ebk,z1,z2,z3,z4,z5⟩:=Ci v 0
  have hz1:=hf.siz.back 0
  have hT1:(Av v 0).trace.length≤1000000:=by rw[ebk];exact hT
  have hW1:Tot (Av v 0).watches≤90000000:=by rw[ebk];exact hW
  generalize Av v 0=vb at *
  have hn1:=st1.next
  have b1:Al s1 s.next (AR p):=b0.keep (st1.heap s.next (by omega) (by rw[t0];exact fun q=>absurd q.2.2.2 (by show ¬ 21<16;omega)))
  have l1:=b1.load FS
  simp only[AR]at l1
  have u1:AM b s1 u (ivs L):=u0.keep fun j hj=>st1.heap j (by have:=(us0 j hj).2;omega) fun q=>(us0 j hj).1 q.1
  have stA:AK (Bh p) ow s ow0 s1:=(st0.mono fun _ q=>q.elim).trans st1.b
  simp only[eY,Qa,Qb,Qc,Qd,Qe,Qf,Qg,Qh,Qi,Qj,Qk,Ql,Qm,Qn,true_and,and_true,Qo,Qp,Qq,Qr,Qs,Qt,Qu,Qv,Qw,Qx,Qy,Qz,Ra,Rb,Rc,Rd,Re,Rf,Rg,Rh,Ri,Rj,Rk,Rl,Rm,Ya,Yb,Yc,Rn,Ro,Rp,Yd,Ye,Rq,Rs,Rt,Ru,Rv,Rw,Rx]
  refine(az hE hlen (fun q hq=>⟨by have:=(hL q hq).2;omega,by have:=(hL q hq).2;omega⟩) (by omega) u1).mono ?_
  rintro _ s2 ⟨w,rfl,hw,o2⟩
  have h2:=h1.keep (AK.old (m:=fun _=>False) o2 (p,15,s2.next)) (fun _ q=>q.elim)
  have b2:Al s2 s.next (AR p):=b1.keep (o2.2 _ (by omega))
  have l2:=b2.load FS
  have ldb:=h2.ld_broken
  simp only[AR]at l2
  have hx:∀ (a b:AV),(AV.tuple [a,b])=.tuple [a,b]:=fun _ _=>rfl
  cases ht:Jr (EW L)with
  | true =>
    simp only[TX,Xk,Qa,Qb,Qc,Qd,Qe,Qf,Qg,Qh,Qi,Qj,Qk,Ql,Qm,Qn,true_and,and_true,Qo,Qp,Qq,Qr,Qs,Qt,Qu,Qv,Qw,Qx,Qy,Qz,Ra,Rb,Rc,Rd,Re,Rf,Rg,Rh,Ri,Rj,Rk,Rl,Rm,Ya,Yb,Yc,Rn,Ro,Rp,Yd,Ye,Rq,Rs,Rt,Ru,Rv,Rw,Rx]
    exact⟨vb,_,x1,.none (.inl ht),h2,stA.trans (AK.old o2 _)⟩
  | false =>
    cases hbr:vb.broken with
    | true =>
      rw[hbr]at ldb
      simp only[TX,Xk,l2,AG,G5,ldb,Qa,Qb,Qc,Qd,Qe,Qf,Qg,Qh,Qi,Qj,Qk,Ql,Qm,Qn,true_and,and_true,Qo,Qp,Qq,Qr,Qs,Qt,Qu,Qv,Qw,Qx,Qy,Qz,Ra,Rb,Rc,Rd,Re,Rf,Rg,Rh,Ri,Rj,Rk,Rl,Rm,Ya,Yb,Yc,Rn,Ro,Rp,Yd,Ye,Rq,Rs,Rt,Ru,Rv,Rw,Rx]
      exact⟨vb,_,x1,.none (.inr hbr),h2,stA.trans (AK.old o2 _)⟩
    | false =>
      rw[hbr]at ldb
      simp only[TX,l2,AG,G5,ldb,eZ,pU,pP,Qa,Qb,Qc,Qd,Qe,Qf,Qg,Qh,Qi,Qj,Qk,Ql,Qm,Qn,true_and,and_true,Qo,Qp,Qq,Qr,Qs,Qt,Qu,Qv,Qw,Qx,Qy,Qz,Ra,Rb,Rc,Rd,Re,Rf,Rg,Rh,Ri,Rj,Rk,Rl,Rm,Ya,Yb,Yc,Rn,Ro,Rp,Yd,Ye,Rq,Rs,Rt,Ru,Rv,Rw,Rx]
      have hVO:∀q∈EW L,VL n q:=fun q hq=>hL q (Mw hq)
      have hOl:=Lg L
      refine(aS hE hw (by omega) (P:=VL n) (c:=fun a b=>isV vb.value b - isV vb.value a) (g:=76) (cp:=[.ptr (some (s.next,0))]) hVO ?_).mono ?_
      · intro t a b f1 f2 pa pb
        have ot:Old s1.next s2 t:=⟨by omega,fun y hy=>f1 y fun e=>by
          rcases hw with⟨a,r1,r2⟩ | ⟨i,G,r1,r2,r3,r4⟩
          · rw[r1]at e;cases a<;>cases e
          · rw[r1]at e;injection e with e;omega⟩
        have ht':=h1.keep (AK.old (m:=fun _=>False) (o2.trans ot) (0,0,0)) (fun _ q=>q.elim)
        exact kF hE ht' hv3 hsm hz1.value (b2.keep (ot.2 _ (by omega))) pa pb
      rintro _ s3 ⟨hw3,n3,f3⟩
      have o3:Old s1.next s2 s3:=⟨by omega,fun y hy=>f3 y fun e=>by
          rcases hw with⟨a,r1,r2⟩ | ⟨i,G,r1,r2,r3,r4⟩
          · rw[r1]at e;cases a<;>cases e
          · rw[r1]at e;injection e with e;omega⟩
      have o13:Old s1.next s1 s3:=o2.trans o3
      have hO:Ft (fun a b=>isV vb.value b - isV vb.value a) (EW L)=B8 vb L:=rfl
      rw[hO]at hw3
      have hbl:=P9 hw3.slice.isCell.2
      have hbx:=Vt hw3.slice.isCell.2 false false
      generalize hs4:AH s3 (AP 104 0 [w,.bool false,.bool false])=s4
      have n4:s4.next=s3.next+1:=by rw[← hs4];rfl
      have o4:Old s3.next s3 s4:=by rw[← hs4];exact Old.new s3 _
      have o14:Old s1.next s1 s4:=o13.trans (o4.mono (by have:=o13.1;omega))
      have hbn:DE s4 s3.next [w,.bool false,.bool false]:=by rw[← hs4];exact DE.new
      have hlO:(B8 vb L).length=(EW L).length:=M8 _ _
      have b4:Al s4 s.next (AR p):=b1.keep (o14.2 _ (by omega))
      have l4:=b4.load FS
      simp only[AR]at l4
      have st4:AK (fun _=>False) ow0 s1 (fun j=>if j<s1.next then ow0 j else if j=s3.next then (p,14,s3.next)else (p,15,s3.next)) s4:=⟨o14.1,fun j hj _=>if_pos hj,fun j hj _=>o14.2 j hj⟩
      have tc:(fun j=>if j<s1.next then ow0 j else if j=s3.next then (p,14,s3.next)else (p,15,s3.next):Ow) s3.next=(p,14,s3.next):=by
        show(if _ then _ else if _ then _ else _:Tag)=_
        rw[if_neg (by have:=o13.1;omega),if_pos rfl]
      have tr':∀i,s1.next≤i→i<s3.next→(fun j=>if j<s1.next then ow0 j else if j=s3.next then (p,14,s3.next)else (p,15,s3.next):Ow) i=(p,15,s3.next):=fun i r1 r2=>by
        show(if _ then _ else if _ then _ else _:Tag)=_
        rw[if_neg (by omega),if_neg (by omega)]
      have tb:(fun j=>if j<s1.next then ow0 j else if j=s3.next then (p,14,s3.next)else (p,15,s3.next):Ow) s.next=(p,21,0):=by
        show(if _ then _ else if _ then _ else _:Tag)=_
        rw[if_pos (by omega)];exact t0
      have h4:=h1.keep st4 (fun _ q=>q.elim)
      generalize (fun j=>if j<s1.next then ow0 j else if j=s3.next then (p,14,s3.next)else (p,15,s3.next):Ow)=ow4 at *
      have stB:AK (Bh p) ow s ow4 s4:=stA.trans (st4.mono fun _ q=>q.elim)
      by_cases hnil:EW L=[]
      · have hO0 : B8     vb L = [] := by unfold B8;     rw [hnil]; rfl
        have lnw:∀s,Ao Try.prog s 23 w=some (iv 0):=fun s=>by
          have:=hw3.slice.len Try.underlying23 s
          rw[hO0]at this
          exact this
        have d1:decide ((1:Int)<0)=false:=rfl
        simp only[RF,hbl,hbx,hs4,hptr,Kg,lnw,d1,Kh,decide_true,Ki,l4,Qa,Qb,Qc,Qd,Qe,Qf,Qg,Qh,Qi,Qj,Qk,Ql,Qm,Qn,true_and,and_true,Qo,Qp,Qq,Qr,Qs,Qt,Qu,Qv,Qw,Qx,Qy,Qz,Ra,Rb,Rc,Rd,Re,Rf,Rg,Rh,Ri,Rj,Rk,Rl,Rm,Ya,Yb,Yc,Rn,Ro,Rp,Yd,Ye,Rq,Rs,Rt,Ru,Rv,Rw,Rx]
        refine(No hE h4 hT1).mono ?_
        rintro _ s5 ⟨ow5,x5,g1,g2,_⟩
        simp only[Fy,Qa,Qb,Qc,Qd,Qe,Qf,Qg,Qh,Qi,Qj,Qk,Ql,Qm,Qn,true_and,and_true,Qo,Qp,Qq,Qr,Qs,Qt,Qu,Qv,Qw,Qx,Qy,Qz,Ra,Rb,Rc,Rd,Re,Rf,Rg,Rh,Ri,Rj,Rk,Rl,Rm,Ya,Yb,Yc,Rn,Ro,Rp,Yd,Ye,Rq,Rs,Rt,Ru,Rv,Rw,Rx]
        exact⟨EH vb,ow5,x5,.nil ht hbr hnil,g1,stB.trans g2.b⟩
      · have hOne : B8     vb L ≠ [] := fun e => hnil (List.length_eq_zero_iff.1 (by rw [← hlO, e]; rfl))
        have hOk:BM n (B8 vb L):=⟨fun q hq=>hVO q ((VT _ _ _).1 hq),by omega⟩
        have hfresh:vb.cl s3.next=none:=by
          cases hcc:vb.cl s3.next with
          | none=>rfl
          | some l =>
            obtain⟨_,_,_,q,_⟩:=h1.cls _ l hcc
            have:=o13.1
            omega
        have hw4:Cp s1.next s4 w (B8 vb L):=hw3.keep (by omega) fun j r1 r2=>o4.2 j r2
        have hwb:Buf ow4 (p,15,s3.next) s4 w (ivs (B8 vb L)):=hw4.buf hOne fun i _ _ e=>by
          rcases hw3 with⟨a,r1,r2⟩ | ⟨j,G,r1,r2,r3,r4⟩
          · exact absurd r2 hOne
          · rw[r1]at e
            injection e with e
            subst e
            exact tr' j r2 r3
        have hcl4:SAt ow4 s4 p x1 (HP vb s3.next (B8 vb L,false,false)):=h4.clause hfresh ⟨w,hbn,tc,by omega,hwb⟩
        have hK:=am hE h4 hz1 hv3 hT1 hW1 hfresh hOk hOne b4 ⟨tb,by have:=o14.1;omega⟩ hcl4 hwb (K:=Jw Try.prog c36.results (fun r s'=>r=iv 0∧∃v' ow' x',L8 vb L v'∧SAt ow' s' p x' v'∧AK (Bh p) ow s ow' s')) (x1:=u) (x3:=iv 0) (x5:=.bool true) (x7:=.bool false) (x8:=.bool false) (x9:=.bool false) (x10:=Au) (x11:=Au) (x12:=Au) ?_
        · simp only [RF,     hbl, hbx, hs4, hptr, Qa, Qb, Qc, Qd, Qe, Qf, Qg, Qh, Qi, Qj, Qk, Ql, Qm, Qn, true_and, and_true, Qo, Qp, Qq, Qr, Qs, Qt, Qu, Qv, Qw, Qx, Qy, Qz, Ra, Rb, Rc, Rd, Re, Rf, Rg, Rh, Ri, Rj, Rk, Rl, Rm, Ya, Yb, Yc, Rn, Ro, Rp, Yd, Ye, Rq, Rs, Rt, Ru, Rv, Rw, Rx]
          simp only[AR,Qa,Qb,Qc,Qd,Qe,Qf,Qg,Qh,Qi,Qj,Qk,Ql,Qm,Qn,true_and,and_true,Qo,Qp,Qq,Qr,Qs,Qt,Qu,Qv,Qw,Qx,Qy,Qz,Ra,Rb,Rc,Rd,Re,Rf,Rg,Rh,Ri,Rj,Rk,Rl,Rm,Ya,Yb,Yc,Rn,Ro,Rp,Yd,Ye,Rq,Rs,Rt,Ru,Rv,Rw,Rx]at hK
          exact hK
        · intro s' ow' x' V g1 g2 g3
          simp only[c36,g3,Qa,Qb,Qc,Qd,Qe,Qf,Qg,Qh,Qi,Qj,Qk,Ql,Qm,Qn,true_and,and_true,Qo,Qp,Qq,Qr,Qs,Qt,Qu,Qv,Qw,Qx,Qy,Qz,Ra,Rb,Rc,Rd,Re,Rf,Rg,Rh,Ri,Rj,Rk,Rl,Rm,Ya,Yb,Yc,Rn,Ro,Rp,Yd,Ye,Rq,Rs,Rt,Ru,Rv,Rw,Rx]
          exact⟨_,ow',x',.put ht hbr hnil hfresh,g1,stB.trans g2⟩
def DH(v:Sv):Sv:={ v with many:=Du .i64 (v.many+1) }
def FV(v:Sv)(b:Nat):Sv:=BY { v with limits:=v.limits++[(v.trail.length:Int)] } ((b:Int) * v.phase.getD b 0) none
def Gl(v:Sv):Sv:=Av { v with model:=v.value } 0
abbrev GK:Lst:=⟨[],0,[],0,0⟩
structure GS(n most:Nat)(I:Nat→Sv→Prop)(R:Int→Sv→Prop):Prop where
  ok:∀ {k v},I k v→k≤most∧Is n 50000000 v
  brk:∀ {k v},I k v→v.broken=true→R 0 v
  mid:∀ {k v c v1},I k v→v.broken=false→Cs v c v1→v1.trace.length≤1000000∧v1.learned.length≤100000000∧(v1.learned.length:Int)<v1.room∧(∀c ls b,v1.cl c=some (ls,b)→BM n ls)∧∀b,1≤b→b≤n→v1.phase.getD b 0=1∨v1.phase.getD b 0=-1
  fail:∀ {k v c v1},I k v→v.broken=false→Cs v (some c) v1→v1.limits=[]→R 0 (EH v1)
  unk:∀ {k v c v1},I k v→v.broken=false→Cs v (some c) v1→v1.limits≠[]→most≤k→R 2 (Av v1 0)
  lrn:∀ {k v c v1},I k v→v.broken=false→Cs v (some c) v1→v1.limits≠[]→k<most→∃r,B5 v1 c GK v1.trail.length 0 r∧BM n (Ak v1 r)∧0≤r.lev∧r.lev<100000000 ∧
    ∀h cn,h.length=v1.heat.length→v1.cl cn=none→I (k+1) (Bj (Av (CZ (DH v1) h) r.lev.toNat) cn (Ak v1 r))
  cool:∀ {k v v1},I k v→v.broken=false→Cs v none v1→∀h,h.length=v1.heat.length→I k (Av (CZ v1 h) 0)∧(Av (CZ v1 h) 0).learned=v1.learned
  maybe:∀ {k v v1},I k v→v.broken=false→Cs v none v1→(∀j,1≤j→j<n+1→v1.value.getD j 0≠0)→R 1 (Gl v1)
  dec:∀ {k v v1 b},I k v→v.broken=false→Cs v none v1→1≤b→b≤n→v1.value.getD b 0=0→I k (FV v1 b)
theorem B5.many{v:Sv}{c at_:Nat}{a r:Lst}{l:Int}(h:B5 v c a at_ l r):B5 (DH v) c a at_ l r:=by
  induction h with
  | last hc ha hs ho=>exact .last (v:=DH v) hc ha hs ho
  | more hc ha hs ho hw hr ih=>exact .more (v:=DH v) hc ha hs ho hw ih
theorem FB{v:Sv}:v.trail.length≤(BP v).2.trail.length:=by
  unfold BP Pe
  have:=JX (n:=0) (l:=-(v.trail.getD v.head.toNat 0)) (v.watches.getD (place (-(v.trail.getD v.head.toNat 0))) []) [] (CS v (place (-(v.trail.getD v.head.toNat 0))))
  dsimp only
  split<;>exact this
theorem Cs.trail{v v':Sv}{r:Option Nat}(h:Cs v r v'):v.trail.length≤v'.trail.length:=by
  induction h with
  | done _=>exact oD _
  | more h1 h2 _ ih =>
    have:=FB (v:=‹Sv›)
    rename_i v v1 v' r _
    have:=FB (v:=v)
    rw[h2]at this
    exact oS this ih
  | bad h1 h2 =>
    rename_i v v1 c
    have:=FB (v:=v)
    rw[h2]at this
    exact this
section
variable{E:Env}{K:List AV→ASt→Prop}{ow:Ow}{s:ASt}{p:Nat}{x:Sf}{v:Sv}
theorem mE(h:SAt ow s p x v){x1 x2 x3 x4 x5 x6 x7 x8 x9 x10 x11 x12 x13:AV}(hK:∀s',SAt ow s' p x (DH v)→AK (Bq p) ow s ow s'→K [AV.ptr (some (p,0)),x1,x2,x3,x4,x5,x6,x7,x8,x9,x10,x11,x12,x13] s'):
    Qb E Q8 K [] [AV.ptr (some (p,0)),x1,x2,x3,x4,x5,x6,x7,x8,x9,x10,x11,x12,x13] s:=by
  obtain⟨s',g1,g2,g3,g4⟩:=h.set_many (Du .i64 (v.many+1))
  simp only[Q8,AG,cW,h.ld_many,OX,on2,g1,AT,Qa,Qb,Qc,Qd,Qe,Qf,Qg,Qh,Qi,Qj,Qk,Ql,Qm,Qn,true_and,and_true,Qo,Qp,Qq,Qr,Qs,Qt,Qu,Qv,Qw,Qx,Qy,Qz,Ra,Rb,Rc,Rd,Re,Rf,Rg,Rh,Ri,Rj,Rk,Rl,Rm,Ya,Yb,Yc,Rn,Ro,Rp,Yd,Ye,Rq,Rs,Rt,Ru,Rv,Rw,Rx]
  exact hK s' g2 g3
theorem mF(hE:An E)(h:SAt ow s p x (DH v)){n:Nat}(hn:n≤500000)(hf:Fit n v)(hcl:∀c ls b,v.cl c=some (ls,b)→BM n ls){c:Nat}{r:Lst}(hr:B5 v c GK v.trail.length 0 r)(hL:BM n (Ak v r))(hl0:0≤r.lev)(hl1:r.lev<100000000)(hT:v.trace.length≤1000000)(hW:Tot v.watches≤90000000)(hle:v.learned.length≤100000000){x1 x2 x3 x4 x6 x7 x8 x9 x10 x11 x12 x13:AV}
    (hK:∀s' ow' x' h' cn,h'.length=v.heat.length→v.cl cn=none→SAt ow' s' p x' (Bj (Av (CZ (DH v) h') r.lev.toNat) cn (Ak v r))→AK (Bh p) ow s ow' s'→K [AV.ptr (some (p,0)),x1,x2,x3,x4,.ptr (some (c,0)),x6,x7,x8,x9,x10,x11,x12,x13] s'):
    Qb E Q9 K [] [AV.ptr (some (p,0)),x1,x2,x3,x4,.ptr (some (c,0)),x6,x7,x8,x9,x10,x11,x12,x13] s:=by
  have hfm:Fit n (DH v):=⟨⟨hf.siz.small,hf.siz.w,hf.siz.value,hf.siz.level,hf.siz.why,hf.siz.heat,hf.siz.phase,hf.siz.trail,hf.siz.limits⟩,hf.val,hf.lits,hf.lims⟩
  have hlm:Ak (DH v) r=Ak v r:=rfl
  have hcl':∀c ls b,(DH v).cl c=some (ls,b)→BM n ls:=hcl
  have hr':B5 (DH v) c GK (DH v).trail.length 0 r:=hr.many
  simp only[Q9,Qa,Qb,Qc,Qd,Qe,Qf,Qg,Qh,Qi,Qj,Qk,Ql,Qm,Qn,true_and,and_true,Qo,Qp,Qq,Qr,Qs,Qt,Qu,Qv,Qw,Qx,Qy,Qz,Ra,Rb,Rc,Rd,Re,Rf,Rg,Rh,Ri,Rj,Rk,Rl,Rm,Ya,Yb,Yc,Rn,Ro,Rp,Yd,Ye,Rq,Rs,Rt,Ru,Rv,Rw,Rx]
  refine(Zg hE h (by omega) hfm hcl' hr').mono ?_
  rintro _ s1 ⟨lv,ow1,h',rfl,I1,h1,hl,b1,st1⟩
  rw[hlm]at b1
  have hf1:Fit n (CZ (DH v) h'):=⟨⟨hf.siz.small,hf.siz.w,hf.siz.value,hf.siz.level,hf.siz.why,hl.trans hf.siz.heat,hf.siz.phase,hf.siz.trail,hf.siz.limits⟩,hf.val,hf.lits,hf.lims⟩
  have e:iv r.lev=iv ((r.lev.toNat:Nat):Int):=by rw[Int.toNat_of_nonneg hl0]
  have hlen:(Ak v r).length=r.lits.length+1:=by
    unfold Ak
    split
    · rfl
    · rw[C9];rfl
  have hsm:=I1.small
  have hle':=I1.len
  simp only[Qa,Qb,Qc,Qd,Qe,Qf,Qg,Qh,Qi,Qj,Qk,Ql,Qm,Qn,true_and,and_true,Qo,Qp,Qq,Qr,Qs,Qt,Qu,Qv,Qw,Qx,Qy,Qz,Ra,Rb,Rc,Rd,Re,Rf,Rg,Rh,Ri,Rj,Rk,Rl,Rm,Ya,Yb,Yc,Rn,Ro,Rp,Yd,Ye,Rq,Rs,Rt,Ru,Rv,Rw,Rx]
  rw[e]
  refine(cm hE h1 hf1 (level:=r.lev.toNat) (by omega) b1 hL (by omega) (by omega) hT hW hle).mono ?_
  rintro _ s2 ⟨cn,ow2,x2,f1,f2,f3⟩
  simp only[Qa,Qb,Qc,Qd,Qe,Qf,Qg,Qh,Qi,Qj,Qk,Ql,Qm,Qn,true_and,and_true,Qo,Qp,Qq,Qr,Qs,Qt,Qu,Qv,Qw,Qx,Qy,Qz,Ra,Rb,Rc,Rd,Re,Rf,Rg,Rh,Ri,Rj,Rk,Rl,Rm,Ya,Yb,Yc,Rn,Ro,Rp,Yd,Ye,Rq,Rs,Rt,Ru,Rv,Rw,Rx]
  exact hK s2 ow2 x2 h' cn hl f1 f2 (st1.trans f3)
theorem mG(hE:An E)(h:SAt ow s p x v){n:Nat}(hn:n≤500000)(hval:v.value.length=n+1){x1 x2 x3 x4 x5 x6 x7 x8 x9 x10 x11 x12 x13:AV}(hK:∀s' ow' x',SAt ow' s' p x' { v with model:=v.value }→AK (Bh p) ow s ow' s'→K [AV.ptr (some (p,0)),x1,x2,x3,x4,x5,x6,x7,x8,x9,x10,x11,x12,x13] s'):
    Qb E RC K [] [AV.ptr (some (p,0)),x1,x2,x3,x4,x5,x6,x7,x8,x9,x10,x11,x12,x13] s:=by
  simp only[RC,AG,ES,h.ld_val,Qa,Qb,Qc,Qd,Qe,Qf,Qg,Qh,Qi,Qj,Qk,Ql,Qm,Qn,true_and,and_true,Qo,Qp,Qq,Qr,Qs,Qt,Qu,Qv,Qw,Qx,Qy,Qz,Ra,Rb,Rc,Rd,Re,Rf,Rg,Rh,Ri,Rj,Rk,Rl,Rm,Ya,Yb,Yc,Rn,Ro,Rp,Yd,Ye,Rq,Rs,Rt,Ru,Rv,Rw,Rx]
  refine(GZ hE (L:=v.value) (oD _) h.value.slice (by omega)).mono ?_
  rintro u s1 ⟨hu,ho⟩
  have st:AK (fun _=>False) ow s (ext ow s.next (p,11,0)) s1:=AK.old ho _
  have h1:=h.keep st (fun _ q=>q.elim)
  have hub:Buf (ext ow s.next (p,11,0)) (p,11,0) s1 u (ivs v.value):=by
    rcases hu with⟨a,r1,r2⟩ | ⟨i,r1,r2,r3,r4⟩
    · rw[r2]at hval;cases hval
    · have hb:Cp s.next s1 u v.value:=.inr ⟨i,[],r1,r2,r3,by simpa using r4⟩
      exact hb.buf (fun e=>by rw[e]at hval;cases hval) fun j q1 _ _=>ER q1
  obtain⟨s2,g1,g2,g3,g4⟩:=h1.set_model hub
  simp only[cV,AG,on2,g1,AT,Qa,Qb,Qc,Qd,Qe,Qf,Qg,Qh,Qi,Qj,Qk,Ql,Qm,Qn,true_and,and_true,Qo,Qp,Qq,Qr,Qs,Qt,Qu,Qv,Qw,Qx,Qy,Qz,Ra,Rb,Rc,Rd,Re,Rf,Rg,Rh,Ri,Rj,Rk,Rl,Rm,Ya,Yb,Yc,Rn,Ro,Rp,Yd,Ye,Rq,Rs,Rt,Ru,Rv,Rw,Rx]
  exact hK s2 _ _ g2 ((st.mono fun _ q=>q.elim).trans g3.b)
theorem mH(h:SAt ow s p x v)(hl:v.limits.length≤1000000000){x1 x2 x3 x4 x5 x6 x7 x8 x9 x10 x11 x12 x13:AV}(hK:∀s' ow' x',SAt ow' s' p x' { v with limits:=v.limits++[(v.trail.length:Int)] }→AK (Bh p) ow s ow' s'→K [AV.ptr (some (p,0)),x1,x2,x3,x4,x5,x6,x7,x8,x9,x10,x11,x12,x13] s'):
    Qb E RD K [] [AV.ptr (some (p,0)),x1,x2,x3,x4,x5,x6,x7,x8,x9,x10,x11,x12,x13] s:=by
  have hms:∀ (m:Nat) (i:Nat),Bv.val i (.slice m)=.slice (some (i,0)) m (some m):=fun _ _=>rfl
  have ln:∀s,Ao Try.prog s 23 x.tr=some (iv (v.trail.length:Int)):=fun s=>by
    have:=h.trail.len Try.underlying23 s
    rw[oF]at this
    exact this
  have bl:=Cd (P:=Try.prog) (t:=23) (v:=iv (v.trail.length:Int)) Try.underlying23 sz3 zr3 rfl rfl
  have st:AK (fun _=>False) ow s (ext ow s.next (0,0,0)) (AH s (AP 3 1 [iv (v.trail.length:Int)])):=AK.new _ ow s _ _
  have h1:=h.keep st (fun _ q=>q.elim)
  obtain⟨u,s1,s2,ow',g1,g2,g3,g4⟩:=h1.push_limits hl (v.trail.length:Int) (q:=s.next) (ty:=3) (sz':=1) (by rw[AO,if_pos rfl])
  simp only[RD,AG,E2,Hj,h.ld_lim,h.ld_tr,ln,bl,hms,g1,on2,g2,AT,Qa,Qb,Qc,Qd,Qe,Qf,Qg,Qh,Qi,Qj,Qk,Ql,Qm,Qn,true_and,and_true,Qo,Qp,Qq,Qr,Qs,Qt,Qu,Qv,Qw,Qx,Qy,Qz,Ra,Rb,Rc,Rd,Re,Rf,Rg,Rh,Ri,Rj,Rk,Rl,Rm,Ya,Yb,Yc,Rn,Ro,Rp,Yd,Ye,Rq,Rs,Rt,Ru,Rv,Rw,Rx]
  exact hK s2 ow' _ g3 ((st.mono fun _ q=>q.elim).trans (g4.n (by decide) (by decide) (by decide)).b)
end
theorem T1{x y:Int}(h:y.natAbs=x.natAbs):y=x∨y=-x:=by omega
theorem BJ.pos   {n : Nat} {v : Sv} (h : BJ   n v) {x : Int} (hx : x ≠ 0) : 0 < Go.Proofs.Ytilhhmkdcoajnaa.Am.isV v.value x ↔ x ∈ v.trail := by
  constructor
  · intro hp
    by_cases hno:∀y∈v.trail,y.natAbs≠x.natAbs
    · have:=h.open_ _ hno
      exfalso
      unfold Go.Proofs.Ytilhhmkdcoajnaa.Am.isV at hp
      rw[this]at hp
      split at hp<;>omega
    · have:∃y∈v.trail,y.natAbs=x.natAbs:=by
        simpa using hno
      obtain⟨y,hy,e⟩:=this
      rcases T1 e with e | e
      · rw[← e];exact hy
      · have h1:=h.isV hy
        rw[e,KE _ hx]at h1
        omega
  · intro hm
    rw[h.isV hm];decide
theorem BJ.neg{n:Nat}{v:Sv}(h:BJ n v){x:Int}(hx:x≠0):Go.Proofs.Ytilhhmkdcoajnaa.Am.isV v.value x<0↔-x∈v.trail:=by
  rw[← h.pos (x:=-x) (by omega),KE _ hx]
  omega
theorem BJ.zero{n:Nat}{v:Sv}(h:BJ n v){x:Int}(hx:x≠0)(h1:x ∉ v.trail)(h2:-x ∉ v.trail):v.value.getD x.natAbs 0=0:=by
  apply IU
  have a:=h.pos hx
  have b:=h.neg hx
  have:¬ 0<Go.Proofs.Ytilhhmkdcoajnaa.Am.isV v.value x:=fun q=>h1 (a.1 q)
  have:¬ Go.Proofs.Ytilhhmkdcoajnaa.Am.isV v.value x<0:=fun q=>h2 (b.1 q)
  omega
theorem BJ.one{n:Nat}{v:Sv}(h:BJ n v){i j:Nat}{x y:Int}(hi:v.trail[i]? = some x)(hj:v.trail[j]? = some y)(e:x.natAbs=y.natAbs):i=j:=by
  have hl:i<(v.trail.map Int.natAbs).length:=by rw[oF];exact Ab hi
  refine(List.getElem?_inj hl h.nodup).1 ?_
  rw[pL,pL,hi,hj]
  show some _=some _
  rw[e]
theorem BJ.two{n:Nat}{v:Sv}(h:BJ n v){x:Int}(h1:x∈v.trail)(h2:-x∈v.trail):False:=by
  obtain⟨i,hi,e1⟩:=pi h1
  obtain⟨j,hj,e2⟩:=pi h2
  have k1:v.trail[i]? = some x:=by rw[oM hi,e1]
  have k2:v.trail[j]? = some (-x):=by rw[oM hj,e2]
  have:=h.one k1 k2 (by omega)
  subst this
  rw[k1]at k2
  injection k2 with k2
  have:=(h.fit.lits x h1).1
  omega
theorem Bp{l:List Int}{k:Nat}{x:Int}:x∈l.take k↔∃i,i<k∧l[i]? = some x:=by
  rw[List.mem_take_iff_getElem]
  constructor
  · rintro⟨j,hm,e⟩
    have hj:j<l.length:=by omega
    exact⟨j,by omega,by rw[oM hj,e]⟩
  · rintro⟨i,hi,e⟩
    have hl:=Ab e
    refine⟨i,by omega,?_⟩
    rw[oM hl]at e
    injection e
theorem CR{l:List Int}{x:Int}:x∈l↔∃i:Nat,l[i]? = some x:=List.mem_iff_getElem?
def lvl(L:List Int)(i:Nat):Nat:=L.countP fun x=>decide (x≤(i:Int))
theorem N1(A B:List Int)(i:Nat):lvl (A++B) i=lvl A i+lvl B i:=List.countP_append
theorem Sb(L:List Int)(i:Nat):lvl L i≤L.length:=List.countP_le_length
theorem Ib{L:List Int}{i:Nat}(h:∀x∈L,x≤(i:Int)):lvl L i=L.length:=by
  unfold lvl
  rw[List.countP_eq_length]
  intro a ha
  exact decide_eq_true (h a ha)
theorem PQ{L:List Int}{i:Nat}(h:∀x∈L,(i:Int)<x):lvl L i=0:=by
  unfold lvl
  rw[List.countP_eq_zero]
  intro a ha
  have:=h a ha
  simp
  omega
theorem PP{L:List Int}{i j:Nat}(h:i≤j):lvl L i≤lvl L j:=by
  unfold lvl
  refine List.countP_mono_left fun x _ hx=>?_
  have hx:=of_decide_eq_true hx
  exact decide_eq_true (by omega)
theorem CF{L:List Int}(hs:L.Pairwise (·<·)){k:Nat}{t:Int}(hk:L[k]? = some t):(∀x∈L.take k,x<t)∧∀x∈L.drop k,t≤x:=by
  have hl:=Ab hk
  have e:L.drop k=t::L.drop (k+1):=by
    rw[pz hl]
    congr 1
    rw[oM hl]at hk
    injection hk
  have hs':(L.take k++L.drop k).Pairwise (·<·):=by rw[pp];exact hs
  rw[List.pairwise_append]at hs'
  obtain⟨h1,h2,h3⟩:=hs'
  refine⟨fun x hx=>h3 x hx t (by rw[e];exact oH ..),fun x hx=>?_⟩
  rw[e]at hx h2
  rcases ov.1 hx with q | q
  · omega
  · have:=(List.pairwise_cons.1 h2).1 x q
    omega
theorem Lb{L:List Int}(hs:L.Pairwise (·<·)){k i:Nat}{t:Int}(hk:L[k]? = some t)(hi:(i:Int)<t):lvl L i=lvl (L.take k) i∧lvl L i≤k:=by
  have e:lvl L i=lvl (L.take k) i:=by
    have h:=N1 (L.take k) (L.drop k) i
    rw[pp]at h
    rw[h,PQ (L:=L.drop k) fun x hx=>by have:=(CF hs hk).2 x hx;omega]
    omega
  refine⟨e,?_⟩
  rw[e]
  have:=Sb (L.take k) i
  rw[ou]at this
  omega
theorem La{L:List Int}(hs:L.Pairwise (·<·)){k i:Nat}{t:Int}(hk:L[k]? = some t)(hi:t≤(i:Int)):k+1≤lvl L i:=by
  have hl:=Ab hk
  have h:=N1 (L.take (k+1)) (L.drop (k+1)) i
  rw[pp]at h
  have hf:lvl (L.take (k+1)) i=(L.take (k+1)).length:=Ib fun x hx=>by
    obtain⟨j,hj,e⟩:=Bp.1 hx
    rcases oI j k with q | q
    · have:=(CF hs hk).1 x (Bp.2 ⟨j,q,e⟩)
      omega
    · have:j=k:=by omega
      subst this
      rw[hk]at e
      injection e with e
      omega
  rw[hf,ou]at h
  omega
structure CT(n:Nat)(v:Sv):Prop where
  inv:BJ n v
  sorted:v.limits.Pairwise (·<·)
  below:∀x∈v.limits,x<(v.trail.length:Int)
  lev:∀ (i:Nat) (x:Int),v.trail[i]? = some x→v.level.getD x.natAbs 0=(lvl v.limits i:Int)
  why:∀ (i:Nat) (x:Int),v.trail[i]? = some x→(v.why.getD x.natAbs none=none∧(i:Int)∈v.limits)∨∃c ls b,v.why.getD x.natAbs none=some c∧v.cl c=some (ls,b)∧ls.getD 0 0=x∧∀y∈ls,y≠x→-y∈v.trail.take i
  cls:∀c ls b,v.cl c=some (ls,b)→BM n ls∧ls≠[]∧(ls.map Int.natAbs).Nodup∧b.2=false
theorem CT.of{n:Nat}{v v':Sv}(h:CT n v)(hi:BJ n v')(h1:v'.trail=v.trail)(h2:v'.limits=v.limits)(h3:v'.level=v.level)(h4:v'.why=v.why)(h5:v'.cl=v.cl):CT n v':=
  ⟨hi,by rw[h2];exact h.sorted,by rw[h1,h2];exact h.below,by rw[h1,h2,h3];exact h.lev,by rw[h1,h2,h4,h5];exact h.why,by rw[h5];exact h.cls⟩
theorem CT.lim{n:Nat}{v:Sv}(h:CT n v):∀x∈v.limits,0≤x:=fun x hx=>(h.inv.fit.lims x hx).1
theorem Gf{l:List Int}{x y:Int}{i:Nat}(h:(l++[x])[i]? = some y):(i<l.length∧l[i]? = some y)∨(i=l.length∧y=x):=by
  rcases oI i l.length with q | q
  · rw[oR q]at h;exact .inl ⟨q,h⟩
  · rw[oT q]at h
    have:i - l.length<1:=Ab h
    have e:i - l.length=0:=by omega
    rw[e]at h
    exact .inr ⟨by omega,by simpa using h.symm⟩
theorem BI{α:Type}{l:List α}{k j:Nat}{a d:α}(h:j≠k):(l.set k a).getD j d=l.getD j d:=by
  rw[og,og,oU,if_neg fun e=>h e.symm]
theorem Bn{α:Type}{l:List α}{k:Nat}{a d:α}(h:k<l.length):(l.set k a).getD k d=a:=by
  rw[Fl h,if_pos rfl]
theorem BJ.abs_ne{n:Nat}{v:Sv}(h:BJ n v){x y:Int}(hx:v.value.getD x.natAbs 0=0)(hy:y∈v.trail):y.natAbs≠x.natAbs:=fun e=>by
  have:=h.holds y hy
  rw[e,hx]at this
  rcases KK y with q | q<;>omega
theorem CT.assign{n:Nat}{v:Sv}(h:CT n v){x:Int}(hx:VL n x)(ho:v.value.getD x.natAbs 0=0){c:Nat}{ls:List Int}{b:Bool×Bool}(hc:v.cl c=some (ls,b))(h0:ls.getD 0 0=x)(hr:∀y∈ls,y≠x→-y∈v.trail):CT n (BY v x (some c)):=by
  have hz:=h.inv.fit.siz
  have hi:=h.inv.assign hx ho (some c)
  have hne:∀ {i:Nat} {y:Int},v.trail[i]? = some y→y.natAbs≠x.natAbs:=fun hy=>h.inv.abs_ne ho (oG hy)
  have hlx:x.natAbs<v.level.length:=by rw[hz.level];have:=hx.2;omega
  have hwx:x.natAbs<v.why.length:=by rw[hz.why];have:=hx.2;omega
  refine⟨hi,h.sorted,fun y hy=>?_,fun i y hy=>?_,fun i y hy=>?_,h.cls⟩
  · have:=h.below y hy
    show y<((v.trail++[x]).length:Int)
    rw[oL];simp;omega
  · show(v.level.set _ _).getD _ 0=(lvl v.limits i:Int)
    rcases Gf hy with⟨h1,h2⟩ | ⟨h1,h2⟩
    · rw[BI (hne h2)];exact h.lev i y h2
    · subst h2
      rw[Bn hlx,h1,Ib fun z hz=>by have:=h.below z hz;omega]
  · show((v.why.set _ _).getD _ none=none∧_)∨∃d ls b,(v.why.set _ _).getD _ none=some d∧v.cl d=some (ls,b)∧ls.getD 0 0=y∧∀z∈ls,z≠y→-z∈(v.trail++[x]).take i
    rcases Gf hy with⟨h1,h2⟩ | ⟨h1,h2⟩
    · rw[BI (hne h2),pA (by omega)]
      exact h.why i y h2
    · subst h2
      rw[Bn hwx,h1,pA (by omega),pG]
      exact .inr ⟨c,ls,b,rfl,hc,h0,hr⟩
theorem S1{L:List Int}(hs:L.Pairwise (·<·)){m:Nat}(h0:∀x∈L,0≤x)(hm:∀x∈L,x<(m:Int)):L.length≤m:=by
  have hnd:(L.map fun x=>x.toNat+1).Nodup:=by
    rw[List.Nodup,List.pairwise_map]
    refine List.Pairwise.imp_of_mem ?_ hs
    intro a b ha hb hab
    have:=h0 a ha
    have:=h0 b hb
    omega
  have:=C7 hnd (n:=m) fun k hk=>by
    obtain⟨x,hx,rfl⟩:=List.mem_map.1 hk
    have:=h0 x hx
    have:=hm x hx
    omega
  simpa using this
theorem BJ.room{n:Nat}{v:Sv}(h:BJ n v){x:Int}(hx:VL n x)(ho:v.value.getD x.natAbs 0=0):v.trail.length+1≤n:=by
  have:=(h.assign hx ho none).fit.siz.trail
  have e:(BY v x none).trail=v.trail++[x]:=rfl
  rw[e,oL]at this
  exact this
theorem CT.guess {n : Nat} {v : Sv} (h : CT n v) {x : Int} (hx : VL n x) (ho : v.value.getD x.natAbs 0 = 0) : CT n (BY      { v with limits := v.limits ++ [(v.trail.length : Int)] } x none) := by
  have hz:=h.inv.fit.siz
  have hroom:=h.inv.room hx ho
  have hlen:=S1 h.sorted h.lim h.below
  have hi0:BJ n { v with limits:=v.limits++[(v.trail.length:Int)] }:=by
    obtain⟨⟨hz,hv,hli,hlm⟩,g2,g3,g4,g5⟩:=h.inv
    refine⟨⟨⟨hz.small,hz.w,hz.value,hz.level,hz.why,hz.heat,hz.phase,hz.trail,?_⟩,hv,hli,fun y hy=>?_⟩,g2,g3,g4,g5⟩
    · show(v.limits++[_]).length≤n
      rw[oL];simp;omega
    · rcases pg.1              hy with q | q
      · exact hlm y q
      · rw[List.mem_singleton.1 q]
        exact⟨by omega,by show(v.trail.length:Int)≤v.trail.length;omega⟩
  have hi:=hi0.assign hx ho none
  have hne:∀ {i:Nat} {y:Int},v.trail[i]? = some y→y.natAbs≠x.natAbs:=fun hy=>h.inv.abs_ne ho (oG hy)
  have hlx:x.natAbs<v.level.length:=by rw[hz.level];have:=hx.2;omega
  have hwx:x.natAbs<v.why.length:=by rw[hz.why];have:=hx.2;omega
  refine⟨hi,?_,fun y hy=>?_,fun i y hy=>?_,fun i y hy=>?_,h.cls⟩
  · show(v.limits++[_]).Pairwise (·<·)
    rw[List.pairwise_append]
    exact⟨h.sorted,by simp,fun a ha b hb=>by rw[List.mem_singleton.1 hb];exact h.below a ha⟩
  · show y<((v.trail++[x]).length:Int)
    rw[oL]
    have hy:y∈v.limits++[(v.trail.length:Int)]:=hy
    rcases pg.1 hy with q | q
    · have:=h.below y q;simp;omega
    · rw[List.mem_singleton.1 q];simp;omega
  · show(v.level.set _ ((v.limits++[_]).length:Int)).getD _ 0=(lvl (v.limits++[(v.trail.length:Int)]) i:Int)
    have hy:(v.trail++[x])[i]? = some y:=hy
    rcases Gf hy with⟨h1,h2⟩ | ⟨h1,h2⟩
    · rw[BI (hne h2),N1,PQ (L:=[(v.trail.length:Int)]) fun z hz=>by rw[List.mem_singleton.1 hz];omega]
      exact h.lev i y h2
    · subst h2
      rw[Bn hlx,h1,Ib fun z hz=>by
        rcases pg.1 hz with q | q
        · have:=h.below z q;omega
        · rw[List.mem_singleton.1 q];omega]
  · show((v.why.set _ _).getD _ none=none∧(i:Int)∈v.limits++[_])∨∃d ls b,(v.why.set _ _).getD _ none=some d∧v.cl d=some (ls,b)∧ls.getD 0 0=y∧∀z∈ls,z≠y→-z∈(v.trail++[x]).take i
    have hy:(v.trail++[x])[i]? = some y:=hy
    rcases Gf hy with⟨h1,h2⟩ | ⟨h1,h2⟩
    · rw [BI          (hne h2), pA                            (by omega)]
      rcases h.why i y h2 with⟨q1,q2⟩ | q
      · exact .inl ⟨q1,oP _ q2⟩
      · exact .inr q
    · subst h2
      rw[Bn hwx,h1]
      exact .inl ⟨rfl,ol _ (List.mem_singleton.2 rfl)⟩
theorem CT.perm {n : Nat} {v : Sv} (h : CT n v) {c : Nat} {ls ls' : List Int} {b : Bool × Bool} (hc : v.cl c = some (ls, b)) (hp : ls'.Perm ls) (h0 : ls.getD 0 0 ∈ v.trail → ls'.getD 0 0 = ls.getD 0 0) (hi : BJ   n { v with cl := Ag    v.cl c (ls', b) }) : CT n { v with cl := Ag    v.cl c (ls', b) } := by
  refine⟨hi,h.sorted,h.below,h.lev,fun i x hx=>?_,fun d ms b' hd=>?_⟩
  · rcases h.why i x hx with q | ⟨d, ms, b', q1, q2, q3, q4⟩
    · exact .inl q
    · by_cases e : d = c
      · subst e
        rw[hc]at q2
        injection q2 with q2
        injection q2 with q2 q2'
        subst q2
        exact .inr ⟨d,ls',b,q1,BF _ _ _,by rw[h0 (by rw[q3];exact oG hx)];exact q3,fun y hy=>q4 y (hp.mem_iff.1 hy)⟩
      · exact .inr ⟨d,ms,b',q1,by show Ag _ _ _ d=_;unfold Ag;rw[if_neg e];exact q2,q3,q4⟩
  · have hd:Ag v.cl c (ls',b) d=some (ms,b'):=hd
    unfold Ag at hd
    by_cases e:d=c
    · rw[if_pos e]at hd
      injection hd with hd
      injection hd with hd hd'
      subst hd;subst hd'
      obtain⟨k1,k2,k3,k4⟩:=h.cls c ls b hc
      exact⟨⟨fun y hy=>k1.1 y (hp.mem_iff.1 hy),by rw[hp.length_eq];exact k1.2⟩,fun q=>k2 (by have:=hp.length_eq;rw[q]at this;exact List.length_eq_zero_iff.1 this.symm),((hp.map _).nodup_iff).2 k3,k4⟩
    · rw[if_neg e]at hd
      exact h.cls d ms b' hd
theorem CT.put{n:Nat}{v:Sv}(h:CT n v){c:Nat}{ls:List Int}{b:Bool×Bool}(hc:v.cl c=none)(hk:BM n ls)(hne:ls≠[])(hnd:(ls.map Int.natAbs).Nodup)(hb:b.2=false)(hi:BJ n { v with cl:=Ag v.cl c (ls,b) }):CT n { v with cl:=Ag v.cl c (ls,b) }:=by
  refine⟨hi,h.sorted,h.below,h.lev,fun i x hx=>?_,fun d ms b' hd=>?_⟩
  · rcases h.why i x hx with q | ⟨d, ms, b', q1, q2, q3, q4⟩
    · exact .inl q
    · have e:d≠c:=fun e=>by rw[e,hc]at q2;cases q2
      exact .inr ⟨d,ms,b',q1,by show Ag _ _ _ d=_;unfold Ag;rw[if_neg e];exact q2,q3,q4⟩
  · have hd:Ag v.cl c (ls,b) d=some (ms,b'):=hd
    unfold Ag at hd
    by_cases e:d=c
    · rw[if_pos e]at hd
      injection hd with hd
      injection hd with hd hd'
      subst hd;subst hd'
      exact⟨hk,hne,hnd,hb⟩
    · rw[if_neg e]at hd
      exact h.cls d ms b' hd
theorem Pz:∀ (D:List Int)(v:Sv),(∀x∈D,x.natAbs<v.value.length)→∀j,(D.foldl Dx v).value.getD j 0=if j∈D.map Int.natAbs then 0 else v.value.getD j 0
  | [],v,_,j=>by simp
  | x::D,v,h,j=>by
    have hx:=h x (oH ..)
    rw[pE,Pz D (Dx v x) (fun y hy=>by show y.natAbs<(v.value.set _ _).length;rw[oO];exact h y (oJ _ hy)) j]
    show(if j∈D.map Int.natAbs then (0:Int)else (v.value.set x.natAbs 0).getD j 0)=_
    rw[pR]
    by_cases h1:j∈D.map Int.natAbs
    · rw[if_pos h1,if_pos (oJ _ h1)]
    · rw[if_neg h1]
      by_cases e:j=x.natAbs
      · rw[e,Bn hx,if_pos (oH ..)]
      · rw[BI e,if_neg (by rw[ov];rintro(q | q);exact e q;exact h1 q)]
theorem P0:∀ (D:List Int)(v:Sv),(∀x∈D,x.natAbs<v.why.length)→∀j,(D.foldl Dx v).why.getD j none=if j∈D.map Int.natAbs then none else v.why.getD j none
  | [],v,_,j=>by simp
  | x::D,v,h,j=>by
    have hx:=h x (oH ..)
    rw[pE,P0 D (Dx v x) (fun y hy=>by show y.natAbs<(v.why.set _ _).length;rw[oO];exact h y (oJ _ hy)) j]
    show(if j∈D.map Int.natAbs then none else (v.why.set x.natAbs none).getD j none)=_
    rw[pR]
    by_cases h1:j∈D.map Int.natAbs
    · rw[if_pos h1,if_pos (oJ _ h1)]
    · rw[if_neg h1]
      by_cases e:j=x.natAbs
      · rw[e,Bn hx,if_pos (oH ..)]
      · rw[BI e,if_neg (by rw[ov];rintro(q | q);exact e q;exact h1 q)]
def Eg(n:Nat)(v:Sv):Prop:=∀k,1≤k→k≤n→v.phase.getD k 0=1∨v.phase.getD k 0=-1
theorem L0{n:Nat}:∀ (D:List Int)(v:Sv),Eg n v→(D.map Int.natAbs).Nodup→(∀x∈D,v.value.getD x.natAbs 0=1∨v.value.getD x.natAbs 0=-1)→(∀x∈D,x.natAbs<v.phase.length)→Eg n (D.foldl Dx v)
  | [],v,h,_,_,_=>h
  | x::D,v,h,hd,hv,hl=>by
    rw[pR,pt]at hd
    rw[pE]
    have hx:=hl x (oH ..)
    refine L0 D (Dx v x) ?_ hd.2 (fun y hy=>?_) (fun y hy=>by show y.natAbs<(v.phase.set _ _).length;rw[oO];exact hl y (oJ _ hy))
    · intro k h1 h2
      show(v.phase.set x.natAbs _).getD k 0=1∨(v.phase.set x.natAbs _).getD k 0=-1
      by_cases e:k=x.natAbs
      · rw[e,Bn hx];exact hv x (oH ..)
      · rw[BI e];exact h k h1 h2
    · show(v.value.set x.natAbs 0).getD y.natAbs 0=1∨(v.value.set x.natAbs 0).getD y.natAbs 0=-1
      rw[BI fun e=>hd.1 (by rw[← e];exact List.mem_map_of_mem hy)]
      exact hv y (oJ _ hy)
theorem CT.back {n : Nat} {v : Sv} (h : CT n v) {k : Nat} {t : Int} (hk : v.limits[k]? = some t) : CT n (Av    v k) ∧ (Av    v k).trail = v.trail.take t.toNat ∧ (Av    v k).limits = v.limits.take k ∧ (Av    v k).head = t ∧ (Eg      n v → Eg      n (Av    v k)) := by
  have hkl:=Ab hk
  have htm:t∈v.limits:=oG hk
  have ht0:=h.lim t htm
  have htl:=h.below t htm
  have hgd:v.limits.getD k 0=t:=En hk
  have e:Av v k=He v t.toNat k:=by
    unfold Av
    rw[if_neg (by omega),hgd]
  rw[e]
  have hz:=h.inv.fit.siz
  have hsplit:v.trail=v.trail.take t.toNat++v.trail.drop t.toNat:=(pp _ _).symm
  have hnd:=h.inv.nodup
  rw[hsplit,pB,pV]at hnd
  obtain⟨nd1,nd2,nd3⟩:=hnd
  have hDm:∀x∈v.trail.drop t.toNat,x∈v.trail:=fun x hx=>p7 hx
  have hAm:∀x∈v.trail.take t.toNat,x∈v.trail:=fun x hx=>oW hx
  have hDl:∀x∈v.trail.drop t.toNat,x.natAbs<n+1:=fun x hx=>by have:=(h.inv.fit.lits x (hDm x hx)).2;omega
  obtain⟨ph,va,wh,ef,z1,z2,z3⟩:=Ge (v.trail.drop t.toNat) v
  have hval:=Pz (v.trail.drop t.toNat) v (fun x hx=>by rw[hz.value];exact hDl x hx)
  have hwhy:=P0 (v.trail.drop t.toNat) v (fun x hx=>by rw[hz.why];exact hDl x hx)
  have hphase:=fun hp:Eg n v=>L0 (v.trail.drop t.toNat) v hp nd2 (fun x hx=>by
    have:=h.inv.holds x (hDm x hx)
    rw[this]
    rcases KK x with q | q<;>rw[q]<;>simp) (fun x hx=>by rw[hz.phase];exact hDl x hx)
  have notD:∀x∈v.trail.take t.toNat,x.natAbs ∉ (v.trail.drop t.toNat).map Int.natAbs:=fun x hx q=>nd3 _ (List.mem_map_of_mem hx) _ q rfl
  unfold He
  rw[ef]at hval hwhy hphase ⊢
  have hlt:(v.trail.take t.toNat).length=t.toNat:=by rw[ou];omega
  have hlim:∀x∈v.limits.take k,x<t:=(CF h.sorted hk).1
  have hinv:BJ n { v with phase:=ph,value:=va,why:=wh,trail:=v.trail.take t.toNat,limits:=v.limits.take k,head:=(t.toNat:Int) }:=by
    refine⟨⟨⟨hz.small,hz.w,z2.trans hz.value,hz.level,z3.trans hz.why,hz.heat,z1.trans hz.phase,?_,?_⟩,?_,?_,?_⟩,nd1,?_,?_,h.inv.wc⟩
    · show(v.trail.take _).length≤n
      have:=hz.trail
      omega
    · show(v.limits.take _).length≤n
      have:=hz.limits
      rw[ou];omega
    · intro y hy
      obtain⟨j,hj,ej⟩:=pi hy
      have hj':va.getD j 0=y:=by rw[og,oM hj,ej];rfl
      have:=hval j
      dsimp only at this
      rw[hj']at this
      rw[this]
      split
      · exact .inr (.inl rfl)
      · exact h.inv.fit.val.get j
    · intro x hx;exact h.inv.fit.lits x (hAm x hx)
    · intro x hx
      have:=hlim x hx
      have h0:=h.lim x (oW hx)
      refine⟨h0,?_⟩
      show x≤((v.trail.take t.toNat).length:Int)
      rw[hlt];omega
    · intro x hx
      show va.getD x.natAbs 0=sgn x
      have:=hval x.natAbs
      dsimp only at this
      rw[this,if_neg (notD x hx)]
      exact h.inv.holds x (hAm x hx)
    · intro j hj
      show va.getD j 0=0
      have:=hval j
      dsimp only at this
      rw[this]
      by_cases q:j∈(v.trail.drop t.toNat).map Int.natAbs
      · rw[if_pos q]
      · rw [if_neg q]
        refine h.inv.open_ j fun x hx e=>?_
        rw[hsplit]at hx
        rcases pg.1 hx with hx | hx
        · exact hj x hx e
        · exact q (by rw[← e];exact List.mem_map_of_mem hx)
  refine⟨⟨hinv,?_,?_,?_,?_,h.cls⟩,rfl,rfl,?_,hphase⟩
  · exact h.sorted.sublist (List.take_sublist _ _)
  · intro x hx
    show x<((v.trail.take t.toNat).length:Int)
    rw[hlt]
    have:=hlim x hx
    omega
  · intro i x hx
    have hx:(v.trail.take t.toNat)[i]? = some x:=hx
    have hil:=Ab hx
    rw[pN (by omega)]at hx
    show v.level.getD x.natAbs 0=(lvl (v.limits.take k) i:Int)
    rw[h.lev i x hx,(Lb h.sorted hk (by omega)).1]
  · intro i x hx
    have hx':(v.trail.take t.toNat)[i]? = some x:=hx
    have hil:=Ab hx'
    have hmem:=oG hx'
    have hx:v.trail[i]? = some x:=by rw[pN (by omega)]at hx';exact hx'
    have hw:wh.getD x.natAbs none=v.why.getD x.natAbs none:=by
      have:=hwhy x.natAbs
      dsimp only at this
      rw[this,if_neg (notD x hmem)]
    show(wh.getD x.natAbs none=none∧(i:Int)∈v.limits.take k)∨∃c ls b,wh.getD x.natAbs none=some c∧v.cl c=some (ls,b)∧ls.getD 0 0=x∧∀y∈ls,y≠x→-y∈(v.trail.take t.toNat).take i
    rw[hw,List.take_take,pj (by omega)]
    rcases h.why i x hx with⟨q1,q2⟩ | q
    · refine .inl ⟨q1,?_⟩
      obtain⟨m,hm⟩:=CR.1 q2
      refine Bp.2 ⟨m,?_,hm⟩
      rcases oI m k with hmk | hmk
      · exact hmk
      · exfalso
        have:(i:Int)∈v.limits.drop k:=by
          rw[CR]
          exact⟨m - k,by rw[pD,show k+(m - k)=m by omega];exact hm⟩
        have:=(CF h.sorted hk).2 _ this
        omega
    · exact .inr q
  · show(t.toNat:Int)=t
    omega
theorem MT{v:Sv}{k:Nat}(h:v.limits.length≤k):Av v k=v:=by unfold Av;rw[if_pos h]
abbrev lv(v:Sv)(x:Int):Int:=v.level.getD x.natAbs 0
def Wok(v:Sv)(h:Nat)(ls:List Int):Prop:=(-(ls.getD 0 0)∈v.trail.take h→ls.getD 1 0∈v.trail∧lv v (ls.getD 1 0)≤lv v (ls.getD 0 0))∧(-(ls.getD 1 0)∈v.trail.take h→ls.getD 0 0∈v.trail∧lv v (ls.getD 0 0)≤lv v (ls.getD 1 0))
theorem FX{l:List Int}{i j:Nat}(h:i≤j){x:Int}(hx:x∈l.take i):x∈l.take j:=by
  obtain⟨k,h1,h2⟩:=Bp.1 hx
  exact Bp.2 ⟨k,by omega,h2⟩
theorem Wok.mono{v:Sv}{h h':Nat}{ls:List Int}(k:Wok v h ls)(hh:h'≤h):Wok v h' ls:=⟨fun q=>k.1 (FX hh q),fun q=>k.2 (FX hh q)⟩
structure CW(v:Sv)(h:Nat)(X:List Nat):Prop where
  wat:∀c ls b,v.cl c=some (ls,b)→2≤ls.length→c∈v.watches.getD (place (ls.getD 0 0)) []∧c∈v.watches.getD (place (ls.getD 1 0)) []
  wcl:∀ (k:Nat) c ls b,c∈v.watches.getD k []→v.cl c=some (ls,b)→k=place (ls.getD 0 0)∨k=place (ls.getD 1 0)
  wnd:∀k,(v.watches.getD k []).Nodup
  wok:∀c ls b,v.cl c=some (ls,b)→2≤ls.length→Wok v (h - 1) ls∧(c ∉ X→Wok v h ls)
theorem CW.weak{v:Sv}{h h':Nat}{X:List Nat}(k:CW v h X)(hh:h'≤h - 1):CW v h' []:=
  ⟨k.wat,k.wcl,k.wnd,fun c ls b hc h2=>⟨(k.wok c ls b hc h2).1.mono (by omega),fun _=>(k.wok c ls b hc h2).1.mono hh⟩⟩
theorem CW.less{v:Sv}{h h':Nat}(k:CW v h [])(hh:h'≤h):CW v h' []:=
  ⟨k.wat,k.wcl,k.wnd,fun c ls b hc h2=>⟨((k.wok c ls b hc h2).2 (by simp)).mono (by omega),fun _=>((k.wok c ls b hc h2).2 (by simp)).mono hh⟩⟩
def CB(a b:Nat→Option Bm):Prop:=∀c,(a c=none→b c=none)∧∀ls t,a c=some (ls,t)→∃ls',b c=some (ls',t)∧ls'.Perm ls
theorem CB.refl(a:Nat→Option Bm):CB a a:=fun c=>⟨fun h=>h,fun ls t h=>⟨ls,h,List.Perm.refl _⟩⟩
theorem CB.trans{a b d:Nat→Option Bm}(h:CB a b)(k:CB b d):CB a d:=fun c=>⟨fun q=>(k c).1 ((h c).1 q),fun ls t q=>by
  obtain⟨l1,q1,q2⟩:=(h c).2 ls t q
  obtain⟨l2,q3,q4⟩:=(k c).2 l1 t q1
  exact⟨l2,q3,q4.trans q2⟩⟩
theorem CB.back{a b:Nat→Option Bm}(h:CB a b){c:Nat}{ls:List Int}{t:Bool×Bool}(k:b c=some (ls,t)):∃ls',a c=some (ls',t)∧ls.Perm ls':=by
  cases hc:a c with
  | none=>rw[(h c).1 hc]at k;cases k
  | some l =>
    obtain⟨ls',t'⟩:=l
    obtain⟨l2,q1,q2⟩:=(h c).2 ls' t' hc
    rw[k]at q1
    injection q1 with q1
    injection q1 with q1 q1'
    subst q1;subst q1'
    exact⟨ls',rfl,q2⟩
theorem CB.put{a:Nat→Option Bm}{c:Nat}{ls ls':List Int}{t:Bool×Bool}(h:a c=some (ls,t))(hp:ls'.Perm ls):CB a (Ag a c (ls',t)):=fun d=>by
  unfold Ag
  by_cases e:d=c
  · rw [if_pos e, e]
    refine⟨fun q=>(by rw[h]at q;cases q),fun ms u q=>?_⟩
    rw[h]at q
    injection q with q
    injection q with q1 q2
    subst q1;subst q2
    exact⟨ls',rfl,hp⟩
  · rw[if_neg e]
    exact⟨fun q=>q,fun ms u q=>⟨ms,q,List.Perm.refl _⟩⟩
structure Ev(v v':Sv):Prop where
  tr:∃T,v'.trail=v.trail++T
  lev:∀x,(x∈v.trail∨-x∈v.trail)→lv v' x=lv v x
  cl:CB v.cl v'.cl
  limits:v'.limits=v.limits
  learned:v'.learned=v.learned
  heat:v'.heat=v.heat
  phase:v'.phase=v.phase
  broken:v'.broken=v.broken
  model:v'.model=v.model
  trace:v'.trace=v.trace
  many:v'.many=v.many
  room:v'.room=v.room
theorem Ev.refl(v:Sv):Ev v v:=⟨⟨[],(pQ _).symm⟩,fun _ _=>rfl,CB.refl _,rfl,rfl,rfl,rfl,rfl,rfl,rfl,rfl,rfl⟩
theorem Ev.mem{v v':Sv}(h:Ev v v'){x:Int}(hx:x∈v.trail):x∈v'.trail:=by
  obtain⟨T,e⟩:=h.tr
  rw[e];exact oP _ hx
theorem Ev.trans{v v1 v2:Sv}(h:Ev v v1)(k:Ev v1 v2):Ev v v2:=by
  obtain⟨T,e⟩:=h.tr
  obtain⟨U,f⟩:=k.tr
  exact⟨⟨T++U,by rw[f,e,pS]⟩,fun x hx=>(k.lev x (hx.imp h.mem h.mem)).trans (h.lev x hx),h.cl.trans k.cl,k.limits.trans h.limits,k.learned.trans h.learned,k.heat.trans h.heat,k.phase.trans h.phase,k.broken.trans h.broken,k.model.trans h.model,k.trace.trans h.trace,k.many.trans h.many,k.room.trans h.room⟩
theorem Ev.of{v v' w w':Sv}(h:Ev v v')(a1:w.trail=v.trail)(a2:w.level=v.level)(a3:w.cl=v.cl)(a4:w.limits=v.limits)(a5:w.learned=v.learned)(a6:w.heat=v.heat)(a7:w.phase=v.phase)(a8:w.broken=v.broken)(a9:w.model=v.model)(a10:w.trace=v.trace)(a11:w.many=v.many)(a12:w.room=v.room)
    (b1:w'.trail=v'.trail) (b2:w'.level=v'.level) (b3:w'.cl=v'.cl) (b4:w'.limits=v'.limits) (b5:w'.learned=v'.learned) (b6:w'.heat=v'.heat) (b7:w'.phase=v'.phase) (b8:w'.broken=v'.broken) (b9:w'.model=v'.model) (b10:w'.trace=v'.trace) (b11:w'.many=v'.many) (b12:w'.room=v'.room):Ev w w':=
  ⟨by rw[a1,b1];exact h.tr,by unfold lv;rw[a1,a2,b2];exact h.lev,by rw[a3,b3];exact h.cl,by rw[a4,b4];exact h.limits,by rw[a5,b5];exact h.learned,by rw[a6,b6];exact h.heat,by rw[a7,b7];exact h.phase,by rw[a8,b8];exact h.broken,by rw[a9,b9];exact h.model,by rw[a10,b10];exact h.trace,by rw[a11,b11];exact h.many,by rw[a12,b12];exact h.room⟩
theorem Hu{ls:List Int}{i j:Nat}(hi:i<ls.length)(hj:j<ls.length):(A0 ls i j).Perm ls:=by
  have:=List.set_set_perm hi hj
  unfold A0
  rw[og,og,oM hi,oM hj]
  exact this
theorem UB{ls:List Int}{i j:Nat}(hj:j<ls.length):(A0 ls i j).getD j 0=ls.getD i 0:=by
  unfold A0
  rw[Bn (by rw[oO];exact hj)]
theorem OJ{ls:List Int}{i j:Nat}(hi:i<ls.length)(hne:i≠j):(A0 ls i j).getD i 0=ls.getD j 0:=by
  unfold A0
  rw[BI hne,Bn hi]
theorem Px{ls:List Int}{i j k:Nat}(h1:k≠i)(h2:k≠j):(A0 ls i j).getD k 0=ls.getD k 0:=by
  unfold A0
  rw[BI h2,BI h1]
theorem D5{ls:List Int}(h:(ls.map Int.natAbs).Nodup){i j:Nat}(hi:i<ls.length)(hj:j<ls.length)(e:(ls.getD i 0).natAbs=(ls.getD j 0).natAbs):i=j:=by
  refine(List.getElem?_inj (by rw[oF];exact hi) h).1 ?_
  rw[pL,pL,AS (d:=(0:Int)) hi,AS (d:=(0:Int)) hj]
  show some _=some _
  rw[e]
theorem LF{val:List Int}:∀ {l:List Int}{k:Nat},Ct val l k=none→∀y∈l,Go.Proofs.Ytilhhmkdcoajnaa.Am.isV val y<0
  | [],k,_,y,hy=>by cases hy
  | x::l,k,h,y,hy=>by
    unfold Ct at h
    split at h
    · cases h
    · rename_i hx
      rcases ov.1 hy with e | e
      · rw[e];omega
      · exact LF h y e
theorem Tz{ls:List Int}(h2:2≤ls.length){y:Int}(hy:y∈ls):y=ls.getD 0 0∨y=ls.getD 1 0∨y∈ls.drop 2:=by
  obtain⟨i,hi,e⟩:=pi hy
  have hg:ls[i]? = some y:=by rw[oM hi,e]
  match i,hg with
  | 0,hg=>exact .inl (En hg).symm
  | 1,hg=>exact .inr (.inl (En hg).symm)
  | i+2,hg=>exact .inr (.inr (oG (i:=i) (by rw[pD,show 2+i=i+2 by omega];exact hg)))
theorem Ud{W:List (List Nat)}{w k:Nat}{M:List Nat}(hw:w<W.length):(W.set w M).getD k []=if k=w then M else W.getD k []:=Fl hw
theorem IP{W:List (List Nat)}{w k c:Nat}(hw:w<W.length):(DW W w c).getD k []=if k=w then W.getD w []++[c]else W.getD k []:=Fl hw
def Dt(v:Sv)(w:Nat)(M:List Nat):Sv:=setW v (v.watches.set w M)
def Fc(v:Sv)(c:Nat)(l:Int):Prop:=∃ls b,v.cl c=some (ls,b)∧2≤ls.length∧(∀y∈ls,-y∈v.trail)∧l∈ls
theorem GE{v:Sv}{w k:Nat}{M:List Nat}(hw:w<v.watches.length):(Dt v w M).watches.getD k []=if k=w then M else v.watches.getD k []:=Ud hw
theorem lX{ls:List Int}(h2:2≤ls.length)(hnd:(ls.map Int.natAbs).Nodup){l:Int}(hl:l=ls.getD 0 0∨l=ls.getD 1 0):
    (if ls.getD 0 0=l then A0 ls 0 1 else ls).Perm ls∧(if ls.getD 0 0=l then A0 ls 0 1 else ls).getD 1 0=l∧((if ls.getD 0 0=l then A0 ls 0 1 else ls).getD 0 0=ls.getD 1 0∧l=ls.getD 0 0∨(if ls.getD 0 0=l then A0 ls 0 1 else ls)=ls∧l=ls.getD 1 0):=by
  by_cases h:ls.getD 0 0=l
  · rw[if_pos h]
    exact⟨Hu (by omega) (by omega),by rw[UB (by omega)];exact h,.inl ⟨OJ (by omega) (by omega),h.symm⟩⟩
  · rw [if_neg h]
    rcases hl with e | e
    · exact absurd e.symm h
    · exact⟨List.Perm.refl _,e.symm,.inr ⟨rfl,e⟩⟩
theorem CW.clause{v v':Sv}{h:Nat}{X X':List Nat}{c:Nat}{ls ls':List Int}{b:Bool×Bool}(hW:CW v h X)(hX:∀d,d≠c→(d∈X→d∈X'))(hc:v.cl c=some (ls,b))(hcl:v'.cl=Ag v.cl c (ls',b))(hw:v'.watches=v.watches)(hlen:ls'.length=ls.length)
    (hp:(place (ls'.getD 0 0)=place (ls.getD 0 0)∧place (ls'.getD 1 0)=place (ls.getD 1 0))∨(place (ls'.getD 0 0)=place (ls.getD 1 0)∧place (ls'.getD 1 0)=place (ls.getD 0 0)))
    (hother:∀d ms t,d≠c→v.cl d=some (ms,t)→2≤ms.length→∀hh,hh≤h→Wok v hh ms→Wok v' hh ms) (hself:2≤ls.length→Wok v' (h - 1) ls'∧(c ∉ X'→Wok v' h ls')):CW v' h X':=by
  have get:∀ {d:Nat} {ms:List Int} {t:Bool×Bool},v'.cl d=some (ms,t)→(d=c∧ms=ls'∧t=b)∨(d≠c∧v.cl d=some (ms,t)):=by
    intro d ms t hd
    rw[hcl]at hd
    unfold Ag at hd
    by_cases e:d=c
    · rw[if_pos e]at hd
      injection hd with hd
      injection hd with q1 q2
      exact .inl ⟨e,q1.symm,q2.symm⟩
    · rw[if_neg e]at hd
      exact .inr ⟨e,hd⟩
  refine⟨fun d ms t hd h2=>?_,fun k d ms t hk hd=>?_,fun k=>by rw[hw];exact hW.wnd k,fun d ms t hd h2=>?_⟩
  · rw [hw]
    rcases get hd with⟨rfl,rfl,rfl⟩ | ⟨e,q⟩
    · have:=hW.wat d ls t hc (by omega)
      rcases hp with⟨p1,p2⟩ | ⟨p1,p2⟩
      · rw[p1,p2];exact this
      · rw[p1,p2];exact⟨this.2,this.1⟩
    · exact hW.wat d ms t q h2
  · rw [hw] at hk
    rcases get hd with⟨rfl,rfl,rfl⟩ | ⟨e,q⟩
    · have:=hW.wcl k d ls t hk hc
      rcases hp with⟨p1,p2⟩ | ⟨p1,p2⟩
      · rw[p1,p2];exact this
      · rw[p1,p2];exact this.symm
    · exact hW.wcl k d ms t hk q
  · rcases get hd with ⟨rfl, rfl, rfl⟩ | ⟨e, q⟩
    · exact hself (by omega)
    · obtain⟨r1,r2⟩:=hW.wok d ms t q h2
      exact⟨hother d ms t e q h2 _ (by omega) r1,fun hx=>hother d ms t e q h2 _ (oD _) (r2 fun hd'=>hx (hX d e hd'))⟩
theorem aY       {n h : Nat} {v : Sv} {c : Nat} {l : Int} {ls : List Int} {b : Bool × Bool} {K rest : List Nat} (hC : CT n v) (hW : CW (Dt    v (place l) (K ++ c :: rest)) h (c :: rest)) (h1 : 1 ≤ h) (hh : h ≤ v.trail.length) (hl : v.trail[h - 1]? = some (-l)) (hll : lv v l = (v.limits.length : Int)) (hc : v.cl c = some (ls, b)) (h2 : 2 ≤ ls.length) (hwl : place l < v.watches.length) :
    Ev v (Ac v c l ls b).2.2∧CT n (Ac v c l ls b).2.2 ∧
    ((Ac v c l ls b).2.1=false→CW (Dt (Ac v c l ls b).2.2 (place l) ((if (Ac v c l ls b).1=true then K++[c]else K)++rest)) h rest) ∧
    ((Ac v c l ls b).2.1=true→(Ac v c l ls b).1=true∧CW (Dt (Ac v c l ls b).2.2 (place l) (K++c::rest)) h (c::rest)∧Fc (Ac v c l ls b).2.2 c l):=by
  obtain⟨hcl,hne,hnd,hgone⟩:=hC.cls c ls b hc
  have hi:=hC.inv
  have hlt:-l∈v.trail:=oG hl
  have hl0:l≠0:=by have:=(hi.fit.lits _ hlt).1;omega
  have hlf:l ∉ v.trail:=fun q=>hi.two q hlt
  have hlh:-l∈v.trail.take h:=Bp.2 ⟨h - 1,by omega,hl⟩
  have hn0:∀k,k<ls.length→ls.getD k 0≠0:=fun k hk=>(hcl.get hk).1
  have hcv:(Dt v (place l) (K++c::rest)).cl c=some (ls,b):=hc
  have hlw:l=ls.getD 0 0∨l=ls.getD 1 0:=by
    rcases hW.wcl (place l) c ls b (by rw[GE hwl,if_pos rfl];simp) hcv with q | q
    · exact .inl (D7 hl0 (hn0 0 (by omega)) q)
    · exact .inr (D7 hl0 (hn0 1 (by omega)) q)
  have hKnd:(K++c::rest).Nodup:=by
    have:=hW.wnd (place l)
    rw[GE hwl,if_pos rfl]at this
    exact this
  have hcK:c ∉ K∧c ∉ rest:=by
    rw[pV]at hKnd
    exact⟨fun q=>hKnd.2.2 c q c (oH ..) rfl,(pt.1 hKnd.2.1).1⟩
  unfold Ac
  rw[if_neg (by rw[hgone];decide)]
  dsimp only
  obtain⟨hp,hg1,hturn⟩:=lX h2 hnd hlw
  generalize (if ls.getD 0 0=l then A0 ls 0 1 else ls)=ls1 at hp hg1 hturn ⊢
  have hl1:ls1.length=ls.length:=hp.length_eq
  have hcl1:BM n ls1:=⟨fun y hy=>hcl.1 y (hp.mem_iff.1 hy),by rw[hl1];exact hcl.2⟩
  have hnd1:(ls1.map Int.natAbs).Nodup:=((hp.map _).nodup_iff).2 hnd
  have hw0:ls1.getD 0 0≠0:=(hcl1.get (k:=0) (by omega)).1
  have hwl':ls1.getD 0 0≠l:=fun e=>by
    have:=D5 hnd1 (i:=0) (j:=1) (by omega) (by omega) (by rw[e,hg1])
    cases this
  have hpp:(place (ls1.getD 0 0)=place (ls.getD 0 0)∧place (ls1.getD 1 0)=place (ls.getD 1 0))∨(place (ls1.getD 0 0)=place (ls.getD 1 0)∧place (ls1.getD 1 0)=place (ls.getD 0 0)):=by
    rcases hturn with⟨q1,q2⟩ | ⟨q1,q2⟩
    · exact .inr ⟨by rw[q1],by rw[hg1,← q2]⟩
    · rw[q1];exact .inl ⟨rfl,rfl⟩
  have hwokm:Wok v (h - 1) ls1:=by
    have:=(hW.wok c ls b hcv h2).1
    have this:Wok v (h - 1) ls:=this
    rcases hturn with⟨q1,q2⟩ | ⟨q1,q2⟩
    · unfold Wok
      rw[q1,hg1,q2]
      exact⟨this.2,this.1⟩
    · rw[q1];exact this
  have hCT1:CT n { v with cl:=Ag v.cl c (ls1,b) }:=hC.perm hc hp (fun q=>by
    rcases hturn with⟨q1,q2⟩ | ⟨q1,q2⟩
    · rw[← q2]at q;exact absurd q hlf
    · rw[q1]) (hi.swap hc hcl1 (by omega))
  have hP1:Ev v { v with cl:=Ag v.cl c (ls1,b) }:=⟨⟨[],(pQ _).symm⟩,fun _ _=>rfl,CB.put hc hp,rfl,rfl,rfl,rfl,rfl,rfl,rfl,rfl,rfl⟩
  have hcl1':({ v with cl:=Ag v.cl c (ls1,b) }:Sv).cl c=some (ls1,b):=BF _ _ _
  have stayW:∀ (v':Sv) (X':List Nat),v'.cl=Ag v.cl c (ls1,b)→v'.watches=v.watches→(∀d,d≠c→(d∈c::rest→d∈X'))→(∀ (ms:List Int) hh,hh≤h→Wok v hh ms→Wok v' hh ms)→(Wok v' (h - 1) ls1∧(c ∉ X'→Wok v' h ls1))→CW (Dt v' (place l) (K++c::rest)) h X':=by
    intro v' X' e1 e2 hX ho hs
    refine CW.clause hW hX hcv e1 (by show v'.watches.set _ _=v.watches.set _ _;rw[e2]) hl1 hpp (fun d ms t hd q q2 hh hh' hok=>ho ms hh hh' hok) (fun _=>hs)
  have e4:∀ (v':Sv),K++[c]++rest=K++c::rest:=fun _=>by simp
  by_cases hpos:0<Go.Proofs.Ytilhhmkdcoajnaa.Am.isV v.value (ls1.getD 0 0)
  ·
    rw[if_pos hpos]
    refine⟨hP1,hCT1,fun _=>?_,fun q=>by cases q⟩
    have hin:=(hi.pos hw0).1 hpos
    show CW (Dt _ (place l) ((if true=true then K++[c]else K)++rest)) h rest
    rw[if_pos rfl,e4 v]
    refine stayW _ rest rfl rfl (fun d hd q=>(ov.1 q).resolve_left hd) (fun ms hh hh' hok=>hok) ⟨hwokm,fun _=>⟨fun q=>?_,fun _=>⟨hin,?_⟩⟩⟩
    · exact(hi.two hin (oW q)).elim
    · rw[hg1]
      obtain⟨i,e⟩:=CR.1 hin
      have:=hC.lev i _ e
      show lv v (ls1.getD 0 0)≤lv v l
      rw[hll]
      unfold lv
      rw[this]
      have:=Sb v.limits i
      omega
  · rw[if_neg hpos]
    have hwnt:ls1.getD 0 0 ∉ v.trail:=fun q=>hpos ((hi.pos hw0).2 q)
    cases hfm:Ct v.value (ls1.drop 2) 2 with
    | some i =>
      dsimp only
      have hil:=IM hfm
      rw[pK]at hil
      obtain⟨y,hy1,hy2,hy3⟩:=JG hfm
      rw[pD,show 2+(i - 2)=i by omega]at hy1
      have hgy:ls1.getD i 0=y:=En hy1
      have hVy:=hcl1.get (k:=i) (by omega)
      rw[hgy]at hVy
      have hyn:-y ∉ v.trail:=fun q=>by
        have:=(hi.neg hVy.1).2 q
        omega
      have hyw:place y≠place (ls1.getD 0 0):=fun e=>by
        have:=D7 hVy.1 hw0 e
        have:=D5 hnd1 (i:=i) (j:=0) (by omega) (by omega) (by rw[hgy,this])
        omega
      have hyl:place y≠place l:=fun e=>by
        have:=D7 hVy.1 hl0 e
        have:=D5 hnd1 (i:=i) (j:=1) (by omega) (by omega) (by rw[hgy,this,hg1])
        omega
      have hwpl:place (ls1.getD 0 0)≠place l:=fun e=>hwl' (D7 hw0 hl0 e)
      have hyb:place y<v.watches.length:=by
        rw[hi.fit.siz.w]
        exact VL.place hVy
      have hsp:(A0 ls1 1 i).Perm ls1:=Hu (by omega) (by omega)
      have hs0:(A0 ls1 1 i).getD 0 0=ls1.getD 0 0:=Px (by omega) (by omega)
      have hs1:(A0 ls1 1 i).getD 1 0=y:=by rw[OJ (by omega) (by omega)];exact hgy
      have hmi:=hCT1.inv.move hcl1' hcl1 (by omega) (i:=i) (by omega)
      have hcM:({ v with cl:=Ag v.cl c (ls1,b) }:Sv).cl c=some (ls1,b):=hcl1'
      have hclM:(DD { v with cl:=Ag v.cl c (ls1,b) } c ls1 b i).cl=Ag v.cl c (A0 ls1 1 i,b):=by
        show Ag (Ag v.cl c (ls1,b)) c _=_
        rw[JC]
      have hwM:(DD { v with cl:=Ag v.cl c (ls1,b) } c ls1 b i).watches=DW v.watches (place y) c:=by
        show DW v.watches (place (ls1.getD i 0)) c=_
        rw[hgy]
      have hCTM:CT n (DD { v with cl:=Ag v.cl c (ls1,b) } c ls1 b i):=by
        have hiM:BJ n { v with cl:=Ag v.cl c (A0 ls1 1 i,b) }:=hi.swap hc (hcl1.swap (by omega) (by omega)) (by rw[C9,hl1];exact h2)
        have:=hC.perm (ls':=A0 ls1 1 i) hc (hsp.trans hp) (fun q=>by
          rw[hs0]
          rcases hturn with⟨q1,q2⟩ | ⟨q1,q2⟩
          · rw[← q2]at q;exact absurd q hlf
          · rw[q1]) hiM
        exact this.of hmi rfl rfl rfl rfl hclM
      refine⟨⟨⟨[],(pQ _).symm⟩,fun _ _=>rfl,by rw[hclM];exact CB.put hc (hsp.trans hp),rfl,rfl,rfl,rfl,rfl,rfl,rfl,rfl,rfl⟩,hCTM,fun _=>?_,fun q=>by cases q⟩
      show CW (Dt (DD { v with cl:=Ag v.cl c (ls1,b) } c ls1 b i) (place l) ((if false=true then K++[c]else K)++rest)) h rest
      rw[if_neg (by decide)]
      have hlist:∀k,(Dt (DD { v with cl:=Ag v.cl c (ls1,b) } c ls1 b i) (place l) (K++rest)).watches.getD k []=if k=place l then K++rest else if k=place y then v.watches.getD (place y) []++[c]else v.watches.getD k []:=by
        intro k
        rw[GE (by rw[hwM,Ds];exact hwl),hwM,IP hyb]
      have hold:∀k,(Dt v (place l) (K++c::rest)).watches.getD k []=if k=place l then K++c::rest else v.watches.getD k []:=fun k=>GE hwl
      have hold':∀k,k≠place l→(Dt v (place l) (K++c::rest)).watches.getD k []=v.watches.getD k []:=fun k hk=>by rw[hold,if_neg hk]
      have hcy:c ∉ v.watches.getD (place y) []:=fun q=>by
        rcases hW.wcl (place y) c ls b (by rw[hold' _ hyl];exact q) hcv with e | e
        · rcases hpp with ⟨p1, p2⟩ | ⟨p1, p2⟩
          · rw[← p1]at e;exact hyw e
          · rw[← p2,hg1]at e;exact hyl e
        · rcases hpp with ⟨p1, p2⟩ | ⟨p1, p2⟩
          · rw[← p2,hg1]at e;exact hyl e
          · rw[← p1]at e;exact hyw e
      have hcw:c∈v.watches.getD (place (ls1.getD 0 0)) []:=by
        have:=hW.wat c ls b hcv h2
        rw[← hold' _ hwpl]
        rcases hpp with⟨p1,p2⟩ | ⟨p1,p2⟩
        · rw[p1];exact this.1
        · rw[p1];exact this.2
      have get:∀ {d:Nat} {ms:List Int} {t:Bool×Bool},Ag v.cl c (A0 ls1 1 i,b) d=some (ms,t)→(d=c∧ms=A0 ls1 1 i∧t=b)∨(d≠c∧v.cl d=some (ms,t)):=by
        intro d ms t hd
        unfold Ag at hd
        by_cases e:d=c
        · rw[if_pos e]at hd
          injection hd with hd
          injection hd with q1 q2
          exact .inl ⟨e,q1.symm,q2.symm⟩
        · rw[if_neg e]at hd
          exact .inr ⟨e,hd⟩
      refine⟨fun d ms t hd hd2=>?_,fun k d ms t hk hd=>?_,fun k=>?_,fun d ms t hd hd2=>?_⟩
      · have hd : Ag    v.cl c (A0    ls1 1 i, b) d = some (ms, t) := by rw [← hclM]; exact hd
        rcases get hd with⟨rfl,rfl,rfl⟩ | ⟨e,q⟩
        · rw[hs0,hs1,hlist,hlist,if_neg hwpl,if_neg (fun e=>hyw e.symm),if_neg hyl,if_pos rfl]
          exact⟨hcw,by simp⟩
        · have hw := hW.wat d ms t q hd2
          have step:∀k,d∈(Dt v (place l) (K++c::rest)).watches.getD k []→d∈(Dt (DD { v with cl:=Ag v.cl c (ls1,b) } c ls1 b i) (place l) (K++rest)).watches.getD k []:=by
            intro k hk
            rw[hlist]
            rw[hold]at hk
            split
            · rename_i hkl
              rw[if_pos hkl]at hk
              simp only[pg,ov]at hk ⊢
              rcases hk with q | q | q
              · exact .inl q
              · exact absurd q e
              · exact .inr q
            · rename_i hkl
              rw[if_neg hkl]at hk
              split
              · rename_i hky
                rw[hky]at hk
                exact oP _ hk
              · exact hk
          exact⟨step _ hw.1,step _ hw.2⟩
      · have hd : Ag    v.cl c (A0    ls1 1 i, b) d = some (ms, t) := by rw [← hclM]; exact hd
        rw[hlist]at hk
        rcases get hd with⟨rfl,rfl,rfl⟩ | ⟨e,q⟩
        · rw[hs0,hs1]
          by_cases k1:k=place l
          · rw [if_pos k1] at hk
            rcases pg.1 hk with q | q
            · exact absurd q hcK.1
            · exact absurd q hcK.2
          · rw[if_neg k1]at hk
            by_cases k2:k=place y
            · exact .inr k2
            · rw[if_neg k2]at hk
              have:=hW.wcl k d ls t (by rw[hold' _ k1];exact hk) hcv
              rcases hpp with⟨p1,p2⟩ | ⟨p1,p2⟩
              · rcases this with q | q
                · exact .inl (q.trans p1.symm)
                · exact absurd (q.trans (p2.symm.trans (by rw[hg1]))) k1
              · rcases this with q | q
                · exact absurd (q.trans (p2.symm.trans (by rw[hg1]))) k1
                · exact .inl (q.trans p1.symm)
        · refine hW.wcl k d ms t ?_ q
          rw[hold]
          split
          · rename_i k1
            rw[if_pos k1]at hk
            simp only[pg,ov]at hk ⊢
            rcases hk with q | q
            · exact .inl q
            · exact .inr (.inr q)
          · rename_i k1
            rw[if_neg k1]at hk
            split at hk
            · rename_i k2
              rcases pg.1 hk with q | q
              · rw[k2];exact q
              · exact absurd (List.mem_singleton.1 q) e
            · exact hk
      · rw[hlist]
        split
        · rw [pV]                at hKnd ⊢
          refine⟨hKnd.1,(pt.1 hKnd.2.1).2,fun a ha d hd=>hKnd.2.2 a ha d (oJ _ hd)⟩
        · rename_i k1
          have hkn:=hW.wnd k
          rw[hold' _ k1]at hkn
          split
          · rename_i k2
            rw[k2]at hkn
            rw[pV]
            refine⟨hkn,by simp,fun a ha d hd e=>?_⟩
            rw[List.mem_singleton.1 hd]at e
            exact hcy (by rw[← e];exact ha)
          · exact hkn
      · have hd : Ag    v.cl c (A0    ls1 1 i, b) d = some (ms, t) := by rw [← hclM]; exact hd
        rcases get hd with⟨rfl,rfl,rfl⟩ | ⟨e,q⟩
        · have:Wok v h (A0 ls1 1 i):=by
            refine⟨fun q=>?_,fun q=>?_⟩
            · rw[hs0]at q
              exfalso
              obtain⟨j,hj,ej⟩:=Bp.1 q
              by_cases hjh:j=h - 1
              · rw[hjh,hl]at ej
                injection ej with ej
                exact hwl' (by omega)
              · have:=(hwokm.1 (Bp.2 ⟨j,by omega,ej⟩)).1
                rw[hg1]at this
                exact hlf this
            · rw[hs1]at q
              exact absurd (oW q) hyn
          exact⟨this.mono (by omega),fun _=>this⟩
        · obtain⟨r1,r2⟩:=hW.wok d ms t q hd2
          exact⟨r1,fun hx=>r2 fun hd'=>hx ((ov.1 hd').resolve_left e)⟩
    | none =>
      dsimp only
      have hfalse:∀y∈ls1.drop 2,-y∈v.trail:=fun y hy=>(hi.neg (hcl1.1 y (p7 hy)).1).1 (LF hfm y hy)
      by_cases hneg:Go.Proofs.Ytilhhmkdcoajnaa.Am.isV v.value (ls1.getD 0 0)<0
      ·
        rw[if_pos hneg]
        refine⟨hP1,hCT1,fun q=>(by cases q),fun _=>⟨rfl,?_,ls1,b,hcl1',by omega,fun y hy=>?_,by rw[← hg1];exact oG (AS (by omega))⟩⟩
        · exact stayW _ (c::rest) rfl rfl (fun d hd q=>q) (fun ms hh hh' hok=>hok) ⟨hwokm,fun q=>absurd (oH ..) q⟩
        · rcases Tz      (by omega) hy with e | e | e
          · rw[e];exact(hi.neg hw0).1 hneg
          · rw[e,hg1];exact hlt
          · exact hfalse y e
      ·
        rw[if_neg hneg]
        have hwn:-(ls1.getD 0 0) ∉ v.trail:=fun q=>hneg ((hi.neg hw0).2 q)
        have hz0:=hi.zero hw0 hwnt hwn
        have hVw:=hcl1.get (k:=0) (by omega)
        have hCTa:CT n (BY { v with cl:=Ag v.cl c (ls1,b) } (ls1.getD 0 0) (some c)):=hCT1.assign hVw hz0 hcl1' rfl (fun y hy hyw=>by
          rcases Tz (by omega) hy with e | e | e
          · exact absurd e hyw
          · rw[e,hg1];exact hlt
          · exact hfalse y e)
        have habs:∀ {y:Int},(y∈v.trail∨-y∈v.trail)→y.natAbs≠(ls1.getD 0 0).natAbs:=by
          rintro y (hy | hy)
          · exact hi.abs_ne hz0 hy
          · have:=hi.abs_ne hz0 hy
            rw[oY]at this
            exact this
        have hlev:∀ {y:Int},(y∈v.trail∨-y∈v.trail)→lv (BY { v with cl:=Ag v.cl c (ls1,b) } (ls1.getD 0 0) (some c)) y=lv v y:=fun hy=>by
          show(v.level.set _ _).getD _ 0=_
          rw[BI (habs hy)]
        refine⟨⟨⟨[ls1.getD 0 0],rfl⟩,fun y hy=>hlev hy,CB.put hc hp,rfl,rfl,rfl,rfl,rfl,rfl,rfl,rfl,rfl⟩,hCTa,fun _=>?_,fun q=>by cases q⟩
        show CW (Dt _ (place l) ((if true=true then K++[c]else K)++rest)) h rest
        rw[if_pos rfl,e4 v]
        have htk:∀hh,hh≤h→(v.trail++[ls1.getD 0 0]).take hh=v.trail.take hh:=fun hh hhh=>pA (by omega)
        have hoth:∀ (ms:List Int) hh,hh≤h→Wok v hh ms→Wok (BY { v with cl:=Ag v.cl c (ls1,b) } (ls1.getD 0 0) (some c)) hh ms:=by
          intro ms hh hhh hok
          refine⟨fun q=>?_,fun q=>?_⟩
          · have q:-(ms.getD 0 0)∈(v.trail++[ls1.getD 0 0]).take hh:=q
            rw[htk hh hhh]at q
            obtain⟨k1,k2⟩:=hok.1 q
            refine⟨oP _ k1,?_⟩
            rw[hlev (.inl k1),hlev (.inr (oW q))]
            exact k2
          · have q:-(ms.getD 1 0)∈(v.trail++[ls1.getD 0 0]).take hh:=q
            rw[htk hh hhh]at q
            obtain⟨k1,k2⟩:=hok.2 q
            refine⟨oP _ k1,?_⟩
            rw[hlev (.inl k1),hlev (.inr (oW q))]
            exact k2
        refine stayW _ rest rfl rfl (fun d hd q=>(ov.1 q).resolve_left hd) hoth ⟨hoth ls1 _ (by omega) hwokm,fun _=>⟨fun q=>?_,fun _=>⟨ol _ (List.mem_singleton.2 rfl),?_⟩⟩⟩
        · have q:-(ls1.getD 0 0)∈(v.trail++[ls1.getD 0 0]).take h:=q
          rw[htk h (oD _)]at q
          exact absurd (oW q) hwn
        · rw[hg1,hlev (.inr hlt),hll]
          show(v.level.set _ _).getD _ 0≤_
          rw[Bn (by rw[hi.fit.siz.level];have:=hVw.2;omega)]
          exact pM _
theorem Fc.more{v v':Sv}{c:Nat}{l:Int}(h:Fc v c l)(h1:v'.cl=v.cl)(h2:v'.trail=v.trail):Fc v' c l:=by
  obtain⟨ls,b,q1,q2,q3,q4⟩:=h
  exact⟨ls,b,by rw[h1];exact q1,q2,fun y hy=>by rw[h2];exact q3 y hy,q4⟩
theorem Mz        {n h : Nat} {l : Int} : ∀ (rest K : List Nat) (v : Sv), CT n v → CW (Dt    v (place l) (K ++ rest)) h rest → 1 ≤ h → h ≤ v.trail.length → v.trail[h - 1]? = some (-l) → lv v l = (v.limits.length : Int) → WL n v rest → place l < v.watches.length → isV v.value l < 0 →
    Ev v (BQ l rest K v).2.2∧CT n (BQ l rest K v).2.2∧((BQ l rest K v).2.1=none→CW (Dt (BQ l rest K v).2.2 (place l) (BQ l rest K v).1) h []) ∧
    (∀c,(BQ l rest K v).2.1=some c→CW (Dt (BQ l rest K v).2.2 (place l) (BQ l rest K v).1) (h - 1) []∧Fc (BQ l rest K v).2.2 c l)
  | [],K,v,hC,hW,h1,hh,hl,hll,hr,hwl,hf=>⟨Ev.refl v,hC,fun _=>by rw[pQ]at hW;exact hW,fun c q=>by cases q⟩
  | c::rest,K,v,hC,hW,h1,hh,hl,hll,hr,hwl,hf=>by
    obtain⟨ls,b,hc,hcl,h2⟩:=hr c oH
    obtain⟨p1,p2,p3,p4⟩:=aY hC hW h1 hh hl hll hc h2 hwl
    obtain⟨t1,t2,t3,ls',t4,t5,t6⟩:=JY hC.inv (Tot.shortN _) hc hcl h2 (l:=l) (a:=(Ac v c l ls b).1) (f:=(Ac v c l ls b).2.1) (v':=(Ac v c l ls b).2.2) rfl
    have hl0:l≠0:=by
      have:=(hC.inv.fit.lits _ (oG hl)).1
      omega
    unfold BQ
    rw[hc]
    dsimp only
    generalize hr1:Ac v c l ls b=r at p1 p2 p3 p4 t1 t2 t3 t4
    cases hfail:r.2.1 with
    | true =>
      obtain⟨k1,k2,k3⟩:=p4 hfail
      rw[if_pos rfl]
      have e:K++[c]++rest=K++c::rest:=by simp
      rw[k1,if_pos rfl,e]
      exact⟨p1,p2,fun q=>(by cases q),fun d q=>by
        injection q with q
        subst q
        exact⟨k2.weak (oD _),k3⟩⟩
    | false =>
      rw[if_neg (by decide)]
      have k3:=p3 hfail
      obtain⟨T,eT⟩:=p1.tr
      have hlr:r.2.2.trail[h - 1]? = some (-l):=by
        rw[eT,oR (by omega)];exact hl
      have hmem:-l∈v.trail:=oG hl
      have hfr:isV r.2.2.value l<0:=(p2.inv.neg hl0).2 (p1.mem hmem)
      have hwlr:WL n r.2.2 rest:=Gx t3 ⟨ls',b,t4,t5,by omega⟩ fun d hd=>hr d (oJ _ hd)
      obtain⟨q1,q2,q3,q4⟩:=Mz rest (if r.1=true then K++[c]else K) r.2.2 p2 k3 h1 (by rw[eT,oL];omega) hlr (by rw[p1.lev l (.inr hmem),p1.limits];exact hll) hwlr (by rw[t3.wlen];exact hwl) hfr
      exact⟨p1.trans q1,q2,q3,q4⟩
theorem aL{W:List (List Nat)}{w:Nat}(hw:w<W.length):W.set w (W.getD w [])=W:=by
  apply List.ext_getElem?
  intro i
  rw[oU]
  split
  · rename_i e
    subst e
    first | rw[if_pos hw,AS (d:=[]) hw] | rw[AS (d:=[]) hw]
  · rfl
theorem Jm          {n B : Nat} {v : Sv} (hC : CT n v) (hW : CW v v.head.toNat []) (hB : Is   n B v) (hlh : ∀ x ∈ v.limits, x ≤ v.head) (hh : v.head < (v.trail.length : Int)) :
    Ev v (BP v).2∧CT n (BP v).2∧((BP v).1=none→CW (BP v).2 (BP v).2.head.toNat []∧(BP v).2.head=v.head+1) ∧
    ∀c,(BP v).1=some c→CW (BP v).2 v.head.toNat []∧∃l,Fc (BP v).2 c l∧lv (BP v).2 l=(v.limits.length:Int):=by
  obtain⟨hk1,hk2,hk3⟩:=Cm hB hh
  have h0:=hB.h0
  have hi:=hC.inv
  have hlt:v.head.toNat<v.trail.length:=by omega
  have hg:=AS (d:=(0:Int)) hlt
  have hy:v.trail.getD v.head.toNat 0∈v.trail:=oG hg
  have hVL:=hi.fit.lits _ hy
  have hwl:place (-(v.trail.getD v.head.toNat 0))<v.watches.length:=by
    rw[hi.fit.siz.w]
    exact VL.place ⟨by have:=hVL.1;omega,by have:=hVL.2;omega⟩
  generalize hyy:v.trail.getD v.head.toNat 0=y at *
  have hl0:-y≠0:=by have:=hVL.1;omega
  have hgl:=AS (d:=([]:List Nat)) hwl
  have hLw:WL n v (v.watches.getD (place (-y)) []):=hi.wc _ (oG hgl)
  have hiA:BJ n (CS v (place (-y))):=by
    obtain⟨⟨hz,hv,hli,hlm⟩,g2,g3,g4,g5⟩:=hi.setW (k:=place (-y)) (M:=[]) (fun d hd=>by cases hd)
    exact⟨⟨⟨hz.small,hz.w,hz.value,hz.level,hz.why,hz.heat,hz.phase,hz.trail,hz.limits⟩,hv,hli,hlm⟩,g2,g3,g4,g5⟩
  have hCA:CT n (CS v (place (-y))):=hC.of hiA rfl rfl rfl rfl rfl
  have hyn:-y ∉ v.trail:=fun q=>hi.two hy q
  have hset:(v.watches.set (place (-y)) []).set (place (-y)) (v.watches.getD (place (-y)) [])=v.watches:=by
    rw[List.set_set,aL hwl]
  have hWA:CW (Dt (CS v (place (-y))) (place (-y)) ([]++v.watches.getD (place (-y)) [])) (v.head.toNat+1) (v.watches.getD (place (-y)) []):=by
    have ew:(Dt (CS v (place (-y))) (place (-y)) ([]++v.watches.getD (place (-y)) [])).watches=v.watches:=by
      show(v.watches.set (place (-y)) []).set (place (-y)) ([]++_)=v.watches
      rw[oz]
      exact hset
    refine⟨fun d ms t hd h2=>by rw[ew];exact hW.wat d ms t hd h2,fun k d ms t hk hd=>by rw[ew]at hk;exact hW.wcl k d ms t hk hd,fun k=>by rw[ew];exact hW.wnd k,fun d ms t hd h2=>?_⟩
    have hok:Wok v v.head.toNat ms:=(hW.wok d ms t hd h2).2 (by simp)
    refine⟨by rw[Nat.add_sub_cancel];exact hok,fun hx=>?_⟩
    have hdn:=(hC.cls d ms t hd).1
    have hwat:=hW.wat d ms t hd h2
    refine⟨fun q=>?_,fun q=>?_⟩
    · obtain⟨j,hj,ej⟩:=Bp.1 q
      have ej:v.trail[j]? = some (-(ms.getD 0 0)):=ej
      by_cases e:j=v.head.toNat
      · exfalso
        rw[e,hg]at ej
        injection ej with ej
        have:ms.getD 0 0=-y:=by omega
        rw[this]at hwat
        exact hx hwat.1
      · exact hok.1 (Bp.2 ⟨j,by omega,ej⟩)
    · obtain⟨j,hj,ej⟩:=Bp.1 q
      have ej:v.trail[j]? = some (-(ms.getD 1 0)):=ej
      by_cases e:j=v.head.toNat
      · exfalso
        rw[e,hg]at ej
        injection ej with ej
        have:ms.getD 1 0=-y:=by omega
        rw[this]at hwat
        exact hx hwat.2
      · exact hok.2 (Bp.2 ⟨j,by omega,ej⟩)
  have hlvl:lv v (-y)=(v.limits.length:Int):=by
    unfold lv
    rw[oY,hC.lev _ _ hg,Ib fun x hx=>by have:=hlh x hx;omega]
  have hfv:isV v.value (-y)<0:=(hi.neg hl0).2 (by rw[oX];exact hy)
  obtain⟨q1,q2,q3,q4⟩:=Mz (h:=v.head.toNat+1) (l:=-y) (v.watches.getD (place (-y)) []) [] (CS v (place (-y))) hCA hWA (by omega) (by show _≤v.trail.length;omega) (by show v.trail[v.head.toNat+1 - 1]? = _;rw[Nat.add_sub_cancel,oX];exact hg) hlvl hLw (by show place (-y)<(v.watches.set _ _).length;rw[oO];exact hwl) hfv
  have hPA:Ev v (BQ (-y) (v.watches.getD (place (-y)) []) [] (CS v (place (-y)))).2.2:=q1.of rfl rfl rfl rfl rfl rfl rfl rfl rfl rfl rfl rfl rfl rfl rfl rfl rfl rfl rfl rfl rfl rfl rfl rfl
  obtain⟨k1,k2⟩:=FP hl0 (v.watches.getD (place (-y)) []) [] (CS v (place (-y))) hiA (fun d hd=>by cases hd) hLw hfv
  have hhd:(BQ (-y) (v.watches.getD (place (-y)) []) [] (CS v (place (-y)))).2.2.head=v.head+1:=k1.head
  have hmemn:-y∈v.trail∨-(-y)∈v.trail:=.inr (by rw[oX];exact hy)
  unfold BP Pe at hk1 ⊢
  rw[hyy]at hk1 ⊢
  generalize BQ (-y) (v.watches.getD (place (-y)) []) [] (CS v (place (-y)))=r at *
  obtain⟨K,bad,v1⟩:=r
  dsimp only at *
  cases bad with
  | none =>
    refine⟨hPA.of rfl rfl rfl rfl rfl rfl rfl rfl rfl rfl rfl rfl rfl rfl rfl rfl rfl rfl rfl rfl rfl rfl rfl rfl,q2.of hk1.inv rfl rfl rfl rfl rfl,fun _=>⟨?_,hhd⟩,fun c q=>by cases q⟩
    have:=q3 rfl
    have e:(setW v1 (v1.watches.set (place (-y)) K)).head.toNat=v.head.toNat+1:=by
      show v1.head.toNat=_
      rw[hhd];omega
    show CW (setW v1 (v1.watches.set (place (-y)) K)) _ []
    rw[e]
    exact this
  | some c =>
    refine⟨hPA.of rfl rfl rfl rfl rfl rfl rfl rfl rfl rfl rfl rfl rfl rfl rfl rfl rfl rfl rfl rfl rfl rfl rfl rfl,q2.of hk1.inv rfl rfl rfl rfl rfl,fun q=>(by cases q),fun d q=>?_⟩
    injection q with q
    subst q
    obtain⟨g1,g2⟩:=q4 c rfl
    rw[Nat.add_sub_cancel]at g1
    refine⟨⟨g1.wat,g1.wcl,g1.wnd,g1.wok⟩,-y,g2.more rfl rfl,?_⟩
    have:=hPA.lev (-y) hmemn
    rw[hlvl]at this
    exact this
theorem Cs.cw{n B:Nat}{v v':Sv}{r:Option Nat}(k:Cs v r v'):CT n v→CW v v.head.toNat []→Is n B v→(∀x∈v.limits,x≤v.head) →
    Ev v v'∧CT n v'∧Is n B v'∧(r=none→CW v' v'.head.toNat []∧v'.head=(v'.trail.length:Int)) ∧
    ∀c,r=some c→∃h,CW v' h []∧(∀x∈v.limits,x≤(h:Int))∧∃l,Fc v' c l∧lv v' l=(v.limits.length:Int):=by
  induction k with
  | @done v hd =>
    intro hC hW hB hlh
    refine⟨Ev.refl _,hC,hB,fun _=>⟨hW,?_⟩,fun c q=>by cases q⟩
    have:=hB.h1
    omega
  | @more v v1 v2 r h1 h2 _ ih =>
    intro hC hW hB hlh
    obtain⟨p1,p2,p3,p4⟩:=Jm hC hW hB hlh h1
    obtain⟨k1,k2,k3⟩:=Cm hB h1
    rw[h2]at p1 p2 p3 p4 k1 k2 k3
    obtain⟨g1,g2⟩:=p3 rfl
    have hlh1:∀x∈v1.limits,x≤v1.head:=fun x hx=>by
      rw[show v1.limits=v.limits from k2]at hx
      have:=hlh x hx
      have g2:v1.head=v.head+1:=g2
      omega
    obtain⟨q1,q2,q3,q4,q5⟩:=ih p2 g1 k1 hlh1
    refine⟨p1.trans q1,q2,q3,q4,fun c hc=>?_⟩
    obtain⟨h,r1,r2,r3⟩:=q5 c hc
    have e:v1.limits=v.limits:=k2
    rw[e]at r2 r3
    exact⟨h,r1,r2,r3⟩
  | @bad v v1 c h1 h2 =>
    intro hC hW hB hlh
    obtain⟨p1,p2,p3,p4⟩:=Jm hC hW hB hlh h1
    obtain⟨k1,k2,k3⟩:=Cm hB h1
    rw[h2]at p1 p2 p3 p4 k1 k2 k3
    obtain⟨g1,g2⟩:=p4 c rfl
    have h0:=hB.h0
    refine⟨p1,p2,k1,fun q=>(by cases q),fun d q=>?_⟩
    injection q with q
    subst q
    exact⟨v.head.toNat,g1,fun x hx=>by have:=hlh x hx;omega,g2⟩
def Sat(σ:Nat→Bool)(x:Int):Prop:=(0<x∧σ x.natAbs=true)∨(x<0∧σ x.natAbs=false)
theorem Sat.neg{σ:Nat→Bool}{x:Int}(h:Sat σ x)(k:Sat σ (-x)):False:=by
  unfold Sat at h k
  rw[oY]at k
  rcases h with⟨h1,h2⟩ | ⟨h1,h2⟩<;>rcases k with⟨k1,k2⟩ | ⟨k1,k2⟩<;>first | omega | (rw[h2]at k2;cases k2)
theorem Sat.or{σ:Nat→Bool}{x:Int}(hx:x≠0):Sat σ x∨Sat σ (-x):=by
  unfold Sat
  rw[oY]
  cases σ x.natAbs with
  | true => by_cases h : 0 < x
            · exact .inl (.inl ⟨h,rfl⟩)
            · exact .inr (.inl ⟨by omega,rfl⟩)
  | false => by_cases h : 0 < x
             · exact .inr (.inr ⟨by omega,rfl⟩)
             · exact .inl (.inr ⟨by omega,rfl⟩)
def Db(cl:Nat→Option Bm)(σ:Nat→Bool):Prop:=∀c ls b,cl c=some (ls,b)→∃y∈ls,Sat σ y
theorem CT.zero {n : Nat} {v : Sv} (h : CT n v) {σ : Nat → Bool} (hσ : Db v.cl σ) : ∀ (i : Nat) (x : Int), v.trail[i]? = some x → lv v x = 0 → Sat σ x := by
  intro i
  induction i using Nat.strongRecOn with
  | _ i ih =>
    intro x hx hl
    have hlev:=h.lev i x hx
    have hl0:lvl v.limits i=0:=by
      have:lv v x=(lvl v.limits i:Int):=hlev
      omega
    rcases h.why i x hx with⟨q1,q2⟩ | ⟨c,ls,b,q1,q2,q3,q4⟩
    · obtain⟨k,hk⟩:=CR.1 q2
      have:=La h.sorted hk (pM _)
      omega
    · obtain⟨y,hy,hs⟩:=hσ c ls b q2
      by_cases e:y=x
      · rw[← e];exact hs
      · obtain⟨j,hj,ej⟩:=Bp.1 (q4 y hy e)
        have hjl:lv v (-y)=0:=by
          have h1:lv v (-y)=(lvl v.limits j:Int):=h.lev j _ ej
          have h2:=PP (L:=v.limits) (Nat.le_of_lt hj)
          omega
        exact(hs.neg (ih j hj (-y) ej hjl)).elim
def cnt(tr:List Int)(seen:List Nat)(m k:Nat):Nat:=((tr.take k).drop m).countP fun x=>decide (x.natAbs∈seen)
theorem Ga{tr:List Int}{seen:List Nat}{m k:Nat}(hk:k<tr.length):cnt tr seen m (k+1)=cnt tr seen m k+if m≤k∧(tr.getD k 0).natAbs∈seen then 1 else 0:=by
  unfold cnt
  have e:tr.take (k+1)=tr.take k++[tr.getD k 0]:=by
    rw[pn hk]
    congr 2
    rw[og,oM hk];rfl
  rw[e]
  have hl:(tr.take k).length=k:=by rw[ou];omega
  by_cases hm:m≤k
  · rw[List.drop_append_of_le_length (by omega),List.countP_append]
    congr 1
    by_cases hs:(tr.getD k 0).natAbs∈seen
    · rw[if_pos ⟨hm,hs⟩,List.countP_singleton,if_pos (decide_eq_true hs)]
    · rw[if_neg (fun q=>hs q.2),List.countP_singleton,if_neg (by rw[decide_eq_false hs];decide)]
  · rw [if_neg (fun q => hm q.1), p8                     (by rw [oL,                 hl]; simp; omega), p8                     (by omega)]
    rfl
theorem Ky{tr:List Int}{seen:List Nat}{m k:Nat}(h:cnt tr seen m k=0){j:Nat}{x:Int}(hj:j<k)(hm:m≤j)(hx:tr[j]? = some x):x.natAbs ∉ seen:=by
  unfold cnt at h
  rw[List.countP_eq_zero]at h
  have:x∈(tr.take k).drop m:=by
    rw[CR]
    exact⟨j - m,by rw[pD,show m+(j - m)=j by omega,pN hj];exact hx⟩
  have:=h x this
  simpa using this
theorem Tk{tr:List Int}{seen:List Nat}{m k j:Nat}{x:Int}(hj:j<k)(hm:m≤j)(hx:tr[j]? = some x)(hs:x.natAbs∈seen):1≤cnt tr seen m k:=by
  rcases pO (cnt tr seen m k)with h | h
  · exact absurd hs (Ky h hj hm hx)
  · exact h
theorem Oz{tr:List Int}{seen seen':List Nat}(h:∀x∈seen,x∈seen')(m k:Nat):cnt tr seen m k≤cnt tr seen' m k:=by
  unfold cnt
  refine List.countP_mono_left fun x _ hx=>?_
  exact decide_eq_true (h _ (of_decide_eq_true hx))
theorem Lo       {tr : List Int} {seen : List Nat} {m : Nat} : ∀ {k : Nat}, k ≤ tr.length → 1 ≤ cnt tr seen m k → ∃ i, MJ   tr seen k = some i ∧ m ≤ i ∧ i < k ∧ (tr.getD i 0).natAbs ∈ seen ∧ cnt tr seen m k = cnt tr seen m i + 1 ∧ ∀ j, i < j → j < k → (tr.getD j 0).natAbs ∉ seen
  | 0,_,h=>by simp[cnt]at h
  | k + 1, hk, h => by
    rw[Ga hk]at h
    unfold MJ
    by_cases hs:(tr.getD k 0).natAbs∈seen
    · rw[if_pos hs]
      by_cases hm:m≤k
      · exact⟨k,rfl,hm,pF _,hs,by rw[Ga hk,if_pos ⟨hm,hs⟩],fun j h1 h2=>by omega⟩
      · exfalso
        rw[if_neg (fun q=>hm q.1)]at h
        have:cnt tr seen m k=0:=by
          unfold cnt
          rw[p8 (by rw[ou];omega)]
          rfl
        omega
    · rw[if_neg (fun q=>hs q.2)]at h
      obtain⟨i,h1,h2,h3,h4,h5,h6⟩:=Lo (by omega) h
      rw[if_neg hs]
      refine⟨i,h1,h2,by omega,h4,by rw[Ga hk,if_neg (fun q=>hs q.2)];exact h5,fun j j1 j2=>?_⟩
      rcases oI j k with q | q
      · exact h6 j j1 q
      · have:j=k:=by omega
        rw[this];exact hs
structure LI(v:Sv)(m:Nat)(a:Lst)(at_:Nat):Prop where
  seenA:∀k∈a.seen,∃ (i:Nat) (x:Int),v.trail[i]? = some x∧x.natAbs=k∧1≤lv v x
  nd:a.seen.Nodup
  lits:∀q∈a.lits,-q∈v.trail∧q.natAbs∈a.seen∧1≤lv v q∧lv v q<(v.limits.length:Int)
  litsC:∀x∈v.trail,x.natAbs∈a.seen→lv v x<(v.limits.length:Int)→-x∈a.lits
  litsnd:(a.lits.map Int.natAbs).Nodup
  opn:a.opn=(cnt v.trail a.seen m at_:Int)
  lev:(∀q∈a.lits,lv v q≤a.lev)∧(a.lits=[]∧a.lev=0∨∃q∈a.lits,lv v q=a.lev)
theorem CQ(v:Sv)(x:Int):lv v (-x)=lv v x:=by unfold lv;rw[oY]
theorem CT.last{n:Nat}{v:Sv}(h:CT n v){t:Int}(ht:v.limits[v.limits.length - 1]? = some t){i:Nat}{x:Int}(hx:v.trail[i]? = some x):(lv v x=(v.limits.length:Int)↔t.toNat≤i)∧lv v x≤(v.limits.length:Int)∧0≤lv v x:=by
  have hl:=Ab ht
  have ht0:=h.lim t (oG ht)
  have e:lv v x=(lvl v.limits i:Int):=h.lev i x hx
  have hle:=Sb v.limits i
  refine⟨⟨fun q=>?_,fun q=>?_⟩,by omega,by omega⟩
  · rcases oI           i t.toNat with h1 | h1
    · have:=(Lb h.sorted ht (i:=i) (by omega)).2
      omega
    · exact h1
  · have:=La h.sorted ht (i:=i) (by omega)
    omega
theorem LI.start{v:Sv}{m k:Nat}:LI v m GK k:=⟨by simp[GK],by simp[GK],by simp[GK],by simp[GK],by simp[GK],by simp[GK,cnt],by simp[GK]⟩
theorem LI.step {n : Nat} {v : Sv} (h : CT n v) {t : Int} (ht : v.limits[v.limits.length - 1]? = some t) {a : Lst} {at_ : Nat} (hL : LI v t.toNat a at_) {q : Int} (hq : ∃ j, j < at_ ∧ v.trail[j]? = some (-q)) :
    LI v t.toNat (BL v a q) at_∧(∀k∈a.seen,k∈(BL v a q).seen)∧(lv v q=0∨q.natAbs∈(BL v a q).seen)∧(BL v a q).hd=a.hd:=by
  obtain⟨j,hj,hx⟩:=hq
  have hmem:-q∈v.trail:=oG hx
  obtain⟨hlast,hle,hge⟩:=h.last ht hx
  rw[CQ]at hlast hle hge
  unfold BL
  by_cases h1:q.natAbs∈a.seen∨v.level.getD q.natAbs 0=0
  · rw [if_pos h1]
    refine⟨hL,fun k hk=>hk,?_,rfl⟩
    rcases h1 with e | e
    · exact .inr e
    · exact .inl e
  · rw[if_neg h1]
    have hns:q.natAbs ∉ a.seen:=fun e=>h1 (.inl e)
    have hn0:lv v q≠0:=fun e=>h1 (.inr e)
    have hnd:(a.seen++[q.natAbs]).Nodup:=by
      rw[pV]
      exact⟨hL.nd,by simp,fun x hx y hy e=>by rw[List.mem_singleton.1 hy]at e;exact hns (by rw[← e];exact hx)⟩
    have hseenA:∀k∈a.seen++[q.natAbs],∃ (i:Nat) (x:Int),v.trail[i]? = some x∧x.natAbs=k∧1≤lv v x:=fun k hk=>by
      rcases pg.1 hk with e | e
      · exact hL.seenA k e
      · rw[List.mem_singleton.1 e]
        exact⟨j,-q,hx,oY q,by rw[CQ];omega⟩
    have hcount:∀k,k≤v.trail.length→cnt v.trail (a.seen++[q.natAbs]) t.toNat k=cnt v.trail a.seen t.toNat k+if j<k∧t.toNat≤j then 1 else 0:=by
      intro k
      induction k with
      | zero=>intro _;rw[if_neg (by omega)];simp[cnt]
      | succ k ih =>
        intro hk
        rw[Ga hk,Ga hk,ih (by omega)]
        have hgk:=AS (d:=(0:Int)) (show k<v.trail.length by omega)
        by_cases hjk:j=k
        · have e:(v.trail.getD k 0).natAbs=q.natAbs:=by rw[← hjk,En hx,oY]
          rw[e]
          have A:¬ (j<k∧t.toNat≤j):=by omega
          have C:¬ (t.toNat≤k∧q.natAbs∈a.seen):=fun z=>hns z.2
          by_cases hm:t.toNat≤k
          · have B : t.toNat ≤ k ∧ q.natAbs ∈ a.seen ++ [q.natAbs] := ⟨hm, by simp⟩
            have D:j<k+1∧t.toNat≤j:=by omega
            rw[if_neg A,if_pos B,if_neg C,if_pos D]
          · have B : ¬ (t.toNat ≤ k ∧ q.natAbs ∈ a.seen ++ [q.natAbs]) := fun z => hm z.1
            have D:¬ (j<k+1∧t.toNat≤j):=by omega
            rw[if_neg A,if_neg B,if_neg C,if_neg D]
        · have hne : (v.trail.getD k 0).natAbs ≠ q.natAbs := fun e => hjk (h.inv.one hx hgk (by rw [oY];             exact e.symm))
          have e1:((v.trail.getD k 0).natAbs∈a.seen++[q.natAbs])↔(v.trail.getD k 0).natAbs∈a.seen:=by
            rw[pg,List.mem_singleton]
            exact⟨fun z=>z.resolve_right hne,.inl⟩
          have hAD:(j<k+1∧t.toNat≤j)↔(j<k∧t.toNat≤j):=by omega
          have hBC:(t.toNat≤k∧(v.trail.getD k 0).natAbs∈a.seen++[q.natAbs])↔(t.toNat≤k∧(v.trail.getD k 0).natAbs∈a.seen):=by rw[e1]
          simp only[hAD,hBC]
          exact Nat.add_right_comm _ _ _
    have hcap:∀ (S:List Nat) k,cnt v.trail S t.toNat k=cnt v.trail S t.toNat (min k v.trail.length):=fun S k=>by
      unfold cnt
      congr 2
      rcases oI k v.trail.length with z | z
      · rw[pj (by omega)]
      · rw[Nat.min_eq_right z,pG,pw z]
    have hjl:=Ab hx
    have hcountA:cnt v.trail (a.seen++[q.natAbs]) t.toNat at_=cnt v.trail a.seen t.toNat at_+if t.toNat≤j then 1 else 0:=by
      rw[hcap,hcap a.seen,hcount _ (Nat.min_le_right _ _)]
      congr 1
      by_cases z:t.toNat≤j
      · rw[if_pos z,if_pos ⟨by omega,z⟩]
      · rw[if_neg z,if_neg (fun y=>z y.2)]
    by_cases hd:v.level.getD q.natAbs 0=(v.limits.length:Int)
    · rw [if_pos hd]
      refine⟨⟨hseenA,hnd,fun y hy=>?_,fun y hy hs hl=>?_,hL.litsnd,?_,hL.lev⟩,fun k hk=>oP _ hk,.inr (ol _ (List.mem_singleton.2 rfl)),rfl⟩
      · obtain⟨g1,g2,g3,g4⟩:=hL.lits y hy
        exact⟨g1,oP _ g2,g3,g4⟩
      · rcases pg.1              hs with e | e
        · exact hL.litsC y hy e hl
        · exfalso
          have e:=List.mem_singleton.1 e
          unfold lv at hl
          rw[e,hd]at hl
          omega
      · show a.opn+1=_
        rw[hL.opn,hcountA,if_pos (hlast.1 hd)]
        simp
    · rw[if_neg hd]
      have hnm:¬ t.toNat≤j:=fun z=>hd (hlast.2 z)
      refine⟨⟨hseenA,hnd,fun y hy=>?_,fun y hy hs hl=>?_,?_,?_,?_⟩,fun k hk=>oP _ hk,.inr (ol _ (List.mem_singleton.2 rfl)),rfl⟩
      · rcases pg.1              hy with e | e
        · obtain⟨g1,g2,g3,g4⟩:=hL.lits y e
          exact⟨g1,oP _ g2,g3,g4⟩
        · rw[List.mem_singleton.1 e]
          have hd':lv v q≠(v.limits.length:Int):=hd
          exact⟨hmem,ol _ (List.mem_singleton.2 rfl),by omega,by omega⟩
      · rcases pg.1              hs with e | e
        · exact oP _ (hL.litsC y hy e hl)
        · have e:=List.mem_singleton.1 e
          obtain⟨i,hi⟩:=CR.1 hy
          have hij:=h.inv.one hi hx (by rw[oY];exact e)
          subst hij
          rw[hx]at hi
          injection hi with hi
          rw[← hi,oX]
          exact ol _ (List.mem_singleton.2 rfl)
      · show((a.lits++[q]).map Int.natAbs).Nodup
        rw[pB,pV]
        refine⟨hL.litsnd,by simp,fun x hx y hy e=>?_⟩
        obtain⟨z,hz,rfl⟩:=List.mem_map.1 hx
        have:y=q.natAbs:=by simpa using hy
        rw[this]at e
        exact hns (by rw[← e];exact(hL.lits z hz).2.1)
      · show a.opn=_
        rw[hL.opn,hcountA,if_neg hnm]
        simp
      · refine ⟨fun y hy => ?_, .inr ?_⟩
        · show lv v y≤max a.lev (lv v q)
          rcases pg.1 hy with e | e
          · have:=hL.lev.1 y e;omega
          · rw[List.mem_singleton.1 e];omega
        · show ∃y∈a.lits++[q],lv v y=max a.lev (lv v q)
          by_cases z:a.lev≤lv v q
          · exact⟨q,ol _ (List.mem_singleton.2 rfl),by omega⟩
          · rcases hL.lev.2 with ⟨_, e⟩ | ⟨y, hy, e⟩
            · omega
            · exact⟨y,oP _ hy,by omega⟩
theorem LI.fold{n:Nat}{v:Sv}(h:CT n v){t:Int}(ht:v.limits[v.limits.length - 1]? = some t){at_:Nat}:∀ (Q:List Int){a:Lst},LI v t.toNat a at_→(∀q∈Q,∃j,j<at_∧v.trail[j]? = some (-q)) →
    LI v t.toNat (Q.foldl (BL v) a) at_∧(∀k∈a.seen,k∈(Q.foldl (BL v) a).seen)∧(∀q∈Q,lv v q=0∨q.natAbs∈(Q.foldl (BL v) a).seen)∧(Q.foldl (BL v) a).hd=a.hd
  | [],a,hL,_=>⟨hL,fun k hk=>hk,by simp,rfl⟩
  | q::Q,a,hL,hq=>by
    obtain⟨g1,g2,g3,g4⟩:=hL.step h ht (hq q (oH ..))
    obtain⟨k1,k2,k3,k4⟩:=LI.fold h ht Q g1 fun y hy=>hq y (oJ _ hy)
    refine⟨k1,fun k hk=>k2 k (g2 k hk),fun y hy=>?_,k4.trans g4⟩
    rcases ov.1 hy with e | e
    · rw[e];exact g3.imp id (k2 _)
    · exact k3 y e
structure Ee(v:Sv)(r:Lst):Prop where
  uip:∃ (i:Nat) (u:Int),v.trail[i]? = some u∧lv v u=(v.limits.length:Int)∧r.hd=-u
  lits:∀q∈r.lits,-q∈v.trail∧1≤lv v q∧lv v q<(v.limits.length:Int)
  nd:(r.lits.map Int.natAbs).Nodup
  lev:(∀q∈r.lits,lv v q≤r.lev)∧(r.lits=[]∧r.lev=0∨∃q∈r.lits,lv v q=r.lev)
  imp:∀σ,Db v.cl σ→Sat σ r.hd∨∃q∈r.lits,Sat σ q
theorem Mc(tr:List Int)(seen:List Nat){m k:Nat}(h:k≤m):cnt tr seen m k=0:=by
  unfold cnt
  rw[p8 (by rw[ou];omega)]
  rfl
theorem DI{l y:Int}{ls:List Int}:y∈rest l ls↔y∈ls∧y≠l:=by
  unfold rest
  rw[List.mem_filter]
  simp
theorem Zf       {n : Nat} {v : Sv} (h : CT n v) {t : Int} (ht : v.limits[v.limits.length - 1]? = some t) : ∀ (at_ : Nat) (c : Nat) (l : Int) (a : Lst) (ls : List Int) (b : Bool × Bool), at_ ≤ v.trail.length → LI v t.toNat a at_ → v.cl c = some (ls, b) → (∀ y ∈ rest l ls, ∃ j, j < at_ ∧ v.trail[j]? = some (-y)) → 1 ≤ ((rest l ls).foldl (BL     v) a).opn →
    (∀σ,Db v.cl σ→Sat σ l→(∃q∈a.lits,Sat σ q)∨∃ (j:Nat) (x:Int),j<at_∧t.toNat≤j∧v.trail[j]? = some x∧x.natAbs∈a.seen∧Sat σ (-x)) →
    ∃r,B5 v c a at_ l r∧Ee v r:=by
  intro at_
  induction at_ using Nat.strongRecOn with
  | _ at_ ih =>
  intro c l a ls b hat hL hc hr ho hpre
  obtain⟨f1,f2,f3,f4⟩:=hL.fold h ht (rest l ls) hr
  generalize ha:(rest l ls).foldl (BL v) a=a' at *
  have hQ : ∀ σ, Db v.cl σ → (∃ q ∈ a'.lits, Sat σ q) ∨ ∃ (j : Nat) (x : Int), j < at_ ∧ t.toNat ≤ j ∧ v.trail[j]? = some x ∧ x.natAbs ∈ a'.seen ∧ Sat σ (-x) := by
    intro σ hσ
    obtain⟨y,hy,hs⟩:=hσ c ls b hc
    by_cases e:y=l
    · rw [e] at hs
      rcases hpre σ hσ hs with⟨q,hq,hsq⟩ | ⟨j,x,j1,j2,j3,j4,j5⟩
      · obtain⟨g1,g2,g3,g4⟩:=hL.lits q hq
        have:=f1.litsC (-q) g1 (by rw[oY];exact f2 _ g2) (by rw[CQ];exact g4)
        rw[oX]at this
        exact .inl ⟨q,this,hsq⟩
      · exact .inr ⟨j,x,j1,j2,j3,f2 _ j4,j5⟩
    · obtain ⟨j, j1, j2⟩ := hr y (DI.2       ⟨hy, e⟩)
      obtain⟨hlast,hle,hge⟩:=h.last ht j2
      rw[CQ]at hlast hle hge
      rcases f3 y (DI.2 ⟨hy,e⟩)with z | z
      · exact(hs.neg (h.zero hσ j (-y) j2 (by rw[CQ];exact z))).elim
      · by_cases hd : lv v y = (v.limits.length : Int)
        · exact .inr ⟨j,-y,j1,hlast.1 hd,j2,by rw[oY];exact z,by rw[oX];exact hs⟩
        · have:=f1.litsC (-y) (oG j2) (by rw[oY];exact z) (by rw[CQ];omega)
          rw[oX]at this
          exact .inl ⟨y,this,hs⟩
  have hcn:1≤cnt v.trail a'.seen t.toNat at_:=by have:=f1.opn;omega
  obtain⟨i,k1,k2,k3,k4,k5,k6⟩:=Lo hat hcn
  have hil:i<v.trail.length:=by omega
  have hg:=AS (d:=(0:Int)) hil
  generalize hu:v.trail.getD i 0=u at *
  have hlu:lv v u=(v.limits.length:Int):=(h.last ht hg).1.2 k2
  have hQ':∀σ,Db v.cl σ→(∃q∈a'.lits,Sat σ q)∨(∃ (j:Nat) (x:Int),j<i∧t.toNat≤j∧v.trail[j]? = some x∧x.natAbs∈a'.seen∧Sat σ (-x))∨Sat σ (-u):=by
    intro σ hσ
    rcases hQ σ hσ with q | ⟨j,x,j1,j2,j3,j4,j5⟩
    · exact .inl q
    · rcases pY                j i with z | z | z
      · exact .inr (.inl ⟨j,x,z,j2,j3,j4,j5⟩)
      · subst z
        rw[hg]at j3
        injection j3 with j3
        rw[j3]
        exact .inr (.inr j5)
      · exact absurd j4 (by have:=k6 j z j1;rw[En j3]at this;exact this)
  by_cases h1:a'.opn=1
  · have hci:cnt v.trail a'.seen t.toNat i=0:=by have:=f1.opn;omega
    refine⟨{ a' with opn:=0,hd:=-u },?_,⟨i,u,hg,hlu,rfl⟩,fun q hq=>?_,f1.litsnd,f1.lev,fun σ hσ=>?_⟩
    · have:=B5.last (v:=v) (at_:=at_) hc ha k1 h1
      rw[hu]at this
      exact this
    · obtain⟨g1,g2,g3,g4⟩:=f1.lits q hq
      exact⟨g1,g3,g4⟩
    · rcases hQ' σ hσ with q | ⟨j, x, j1, j2, j3, j4, j5⟩ | q
      · exact .inr q
      · exact absurd j4 (Ky hci j1 j2 j3)
      · exact .inl q
  · have hci : 1 ≤ cnt v.trail a'.seen t.toNat i := by have := f1.opn; omega
    have hmi:t.toNat<i:=by
      rcases oI t.toNat i with z | z
      · exact z
      · rw[Mc _ _ z]at hci;omega
    have hil':(i:Int) ∉ v.limits:=fun q=>by
      obtain⟨p,hp⟩:=CR.1 q
      have hpl:=Ab hp
      have ht0:=h.lim t (oG ht)
      by_cases e:p=v.limits.length - 1
      · rw[e,ht]at hp
        injection hp with hp
        omega
      · have:=(CF h.sorted ht).1 (i:Int) (Bp.2 ⟨p,by omega,hp⟩)
        omega
    rcases h.why i u hg with⟨_,q⟩ | ⟨c',ls',b',w1,w2,w3,w4⟩
    · exact absurd q hil'
    · have hL2 : LI v t.toNat { a' with opn := a'.opn - 1 } i := ⟨f1.seenA, f1.nd, f1.lits, f1.litsC, f1.litsnd, by show a'.opn - 1 = (cnt v.trail a'.seen t.toNat i : Int); have := f1.opn; omega, f1.lev⟩
      have hr2:∀y∈rest u ls',∃j,j<i∧v.trail[j]? = some (-y):=fun y hy=>by
        obtain⟨y1,y2⟩:=DI.1 hy
        exact Bp.1 (w4 y y1 y2)
      obtain⟨g1,g2,g3,g4⟩:=hL2.fold h ht (rest u ls') hr2
      have hop2:1≤((rest u ls').foldl (BL v) { a' with opn:=a'.opn - 1 }).opn:=by
        have e1:=g1.opn
        have e2:=Oz (tr:=v.trail) (seen:=a'.seen) (seen':=((rest u ls').foldl (BL v) { a' with opn:=a'.opn - 1 }).seen) g2 t.toNat i
        omega
      obtain⟨r,r1,r2⟩:=ih i k3 c' u { a' with opn:=a'.opn - 1 } ls' b' (by omega) hL2 w2 hr2 hop2 (fun σ hσ hs=>by
        rcases hQ' σ hσ with q | q | q
        · exact .inl q
        · exact .inr q
        · exact(hs.neg q).elim)
      refine⟨r,?_,r2⟩
      have hw:v.why.getD (v.trail.getD i 0).natAbs none=some c':=by rw[hu];exact w1
      have:=B5.more (v:=v) (at_:=at_) (r:=r) hc ha k1 (by omega) hw
      rw[hu]at this
      exact this r1
theorem Gi{n:Nat}{v:Sv}(h:CT n v)(hlim:v.limits≠[]){c:Nat}{l:Int}(hf:Fc v c l)(hl:lv v l=(v.limits.length:Int)):∃r,B5 v c GK v.trail.length 0 r∧Ee v r:=by
  obtain⟨ls,b,hc,h2,hfalse,hmem⟩:=hf
  have hpos:0<v.limits.length:=List.length_pos_iff.2 hlim
  have ht:=AS (d:=(0:Int)) (show v.limits.length - 1<v.limits.length by omega)
  generalize v.limits.getD (v.limits.length - 1) 0=t at ht
  have hr:∀y∈rest 0 ls,∃j,j<v.trail.length∧v.trail[j]? = some (-y):=fun y hy=>by
    obtain⟨j,hj⟩:=CR.1 (hfalse y (DI.1 hy).1)
    exact⟨j,Ab hj,hj⟩
  have hL0:LI v t.toNat GK v.trail.length:=LI.start
  obtain⟨f1,f2,f3,f4⟩:=hL0.fold h ht (rest 0 ls) hr
  have hl0:l≠0:=((h.cls c ls b hc).1.1 l hmem).1
  refine Zf h ht v.trail.length c 0 GK ls b (oD _) hL0 hc hr ?_ (fun σ hσ hs=>?_)
  · have hlr:l∈rest 0 ls:=DI.2 ⟨hmem,hl0⟩
    obtain⟨j,j1,j2⟩:=hr l hlr
    have hm:=(h.last ht j2).1.1 (by rw[CQ];exact hl)
    rcases f3 l hlr with z | z
    · omega
    · have:=Tk j1 hm j2 (by rw[oY];exact z)
      rw[f1.opn]
      omega
  · unfold Sat at hs
    omega
end
end Go.Proofs.Ytilhhmkdcoajnaa.Am
