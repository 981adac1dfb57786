/- The library's Compact, once more: what is left may be written; its stable sort of short rows, its ContainsFunc, Contains; the solver's bare; conditions: twelve literals at most. -/
import Derived.Test.YtilhhmkdcoajnaaAmM09
import Derived.Test.YtilhhmkdcoajnaaAmM05
set_option linter.unusedVariables false
set_option linter.unusedSimpArgs false
set_option maxRecDepth 16000
namespace Go.Proofs.Ytilhhmkdcoajnaa.Am
open Go Go.Proofs
noncomputable section
def C2(lo:Nat)(s:AE)(v:AV)(L:List Int):Prop:=(∃a,v=.slice a 0 (some 0)∧L=[])∨∃i G,v=.slice (some (i,0)) L.length none∧lo≤i∧i<s.next∧BG s i (A3 L++G)
theorem C2.slice{lo:Nat}{s:AE}{v:AV}{L:List Int}(h:C2 lo s v L):AJ s.next s v (A3 L):=by
  rcases h with⟨a,rfl,rfl⟩ | ⟨i,G,rfl,h1,h2,h3⟩
  · exact⟨a,some 0,rfl,BA.nil⟩
  · refine ⟨some (i, 0), none, by simp, fun k u hk => ⟨i, 0, rfl, h2, ?_⟩⟩
    rw[qq]
    exact h3.load1 (by rw[qv (AZ hk)];exact hk)
theorem C2.self{lo:Nat}{s:AE}{v:AV}{L:List Int}(h:C2 lo s v L):E8 v v=true:=by
 rcases h with⟨a,rfl,rfl⟩ | ⟨i,G,rfl,_⟩<;>exact FR
theorem C2.keep{lo:Nat}{s s':AE}{v:AV}{L:List Int}(h:C2 lo s v L)(hn:s.next≤s'.next)(hf:∀j,lo≤j→j<s.next→s'.heap.get j=s.heap.get j):C2 lo s' v L:=by
 rcases h with h | ⟨i,G,e,h1,h2,h3⟩
 ·exact .inl h
 ·exact .inr ⟨i,G,e,h1,by omega,h3.keep (hf i h1 h2)⟩
def Jh:AV→Option Nat
 | .slice (some (i,_)) _ none=>some i
 | _=>none
theorem C2.buf{lo:Nat}{s:AE}{v:AV}{L:List Int}(h:C2 lo s v L)(hL:L≠[]){ow:Ow}{T:Bt}(ht:∀i,lo≤i→i<s.next→Jh v=some i→ow i=T):Bb ow T s v (A3 L):=by
  rcases h with⟨a,rfl,e⟩ | ⟨i,G,rfl,h1,h2,r,g1,g2,g3,g4,g5⟩
  · exact absurd e hL
  · have hp : 0 < L.length := List.length_pos_iff.2 hL
    have hr:r.n=L.length+G.length:=by rw[g2.1];simp
    exact .inr ⟨i,0,none,r,by rw[C7],⟨g1,ht i h1 h2 rfl,h2,g3,g5,fun p hp=>by rw[g4]at hp;cases hp⟩,fun k u hk=>by rw[qq];exact g2.2 k u (by rw[qv (AZ hk)];exact hk),by rw[C7];omega,⟨rfl,by omega⟩⟩
theorem aR       {E : BI}  (hE : Aq   E) {lo : Nat} {s : AE}  {v : AV} {L : List Int} (h : CR     lo s v L) (hL : L.length ≤ 1000) :
    WF E 88 [v] (fun r s'=>C2 lo s' r (EE L)∧(∀i,Jh r=some i→Jh v=some i)∧s'.next=s.next∧∀z,Jh v≠some z→s'.heap.get z=s.heap.get z) s:=by
  refine hE.go aP (by decide) rfl ?_
  by_cases hlt:L.length<2
  · have hd : decide ((L.length : Int) < 2) = true := decide_eq_true (by omega)
    have hc:EE L=L:=by
      cases L with
      | nil=>rfl
      | cons x r=>cases r with
        | nil=>rfl
        | cons y r=>simp at hlt;omega
    simp only[oP,Po,Pp,Zy,h.len,hd,Qa,Qb,Qc,Qd,Qe,Qf,Qg,Qh,Qi,Qj,Qk,Ql,Qm,Qn,true_and,and_true,Qo,Qp,Qq,Qr,Qs,Qt,Qu,Qv,Qw,Qx,Qy,Qz,Ra,Rb,Rc,Rd,Re,Rf,Rg,Rh,Ri,Rj,Rk,Rl,Rm,Ya,Yb,Yc,Rn,Ro,Rp,Yd,Ye,Rq,Rs,Rt,Ru,Rv,Rw,Rx]
    rw[hc]
    refine⟨?_,fun _ q=>q,fun _ _=>trivial⟩
    rcases h with⟨a,rfl,rfl⟩ | ⟨i,rfl,h1,h2,h3⟩
    · exact .inl ⟨a,rfl,rfl⟩
    · exact .inr ⟨i,[],rfl,h1,h2,by simpa using h3⟩
  · have hd:decide ((L.length:Int)<2)=false:=decide_eq_false (by omega)
    rcases h with⟨a,rfl,rfl⟩ | ⟨i,rfl,h1,h2,h3⟩
    · simp at hlt
    cases L with
    | nil=>simp at hlt
    | cons y R =>
      simp only[oP,Po,Pp,Zz,AW Try.underlying23,hd,Qa,Qb,Qc,Qd,Qe,Qf,Qg,Qh,Qi,Qj,Qk,Ql,Qm,Qn,true_and,and_true,Qo,Qp,Qq,Qr,Qs,Qt,Qu,Qv,Qw,Qx,Qy,Qz,Ra,Rb,Rc,Rd,Re,Rf,Rg,Rh,Ri,Rj,Rk,Rl,Rm,Ya,Yb,Yc,Rn,Ro,Rp,Yd,Ye,Rq,Rs,Rt,Ru,Rv,Rw,Rx]
      refine Py hE (n:=(y::R).length) h1 hL (.slice none 0 (some 0)) _ R [] y s _ _ _ _ _ _ (by simp;omega) h3 ?_
      rintro e s' W' G' y1 y2 y3 y4 y6 y7 y8 y9 (⟨rfl,rfl⟩ | ⟨rfl,rfl,hl⟩) f2 f3 f4 f5
      · simp only[Qa,Qb,Qc,Qd,Qe,Qf,Qg,Qh,Qi,Qj,Qk,Ql,Qm,Qn,true_and,and_true,Qo,Qp,Qq,Qr,Qs,Qt,Qu,Qv,Qw,Qx,Qy,Qz,Ra,Rb,Rc,Rd,Re,Rf,Rg,Rh,Ri,Rj,Rk,Rl,Rm,Ya,Yb,Yc,Rn,Ro,Rp,Yd,Ye,Rq,Rs,Rt,Ru,Rv,Rw,Rx]
        rw[show EE (y::R)=W' from f2.symm]
        exact⟨.inr ⟨i,G',rfl,h1,by omega,f3⟩,fun _ q=>q,f4,fun z hz=>f5 z fun e=>hz (by rw[e];rfl)⟩
      · simp only[TF,if_true,Qa,Qb,Qc,Qd,Qe,Qf,Qg,Qh,Qi,Qj,Qk,Ql,Qm,Qn,true_and,and_true,Qo,Qp,Qq,Qr,Qs,Qt,Qu,Qv,Qw,Qx,Qy,Qz,Ra,Rb,Rc,Rd,Re,Rf,Rg,Rh,Ri,Rj,Rk,Rl,Rm,Ya,Yb,Yc,Rn,Ro,Rp,Yd,Ye,Rq,Rs,Rt,Ru,Rv,Rw,Rx]
        rw[show EE (y::R)=W' from f2.symm]
        exact⟨.inr ⟨i,G',by rw[hl],h1,by omega,f3⟩,fun _ q=>q,f4,fun z hz=>f5 z fun e=>hz (by rw[e];rfl)⟩
theorem fG      {E : BI}  (hE : Aq   E) {lo : Nat} {s : AE}  {v : AV} {L : List Int} (h : CR     lo s v L) (hL : L.length ≤ 12) :
    WF E 87 [v] (fun r s'=>CR lo s' v (Cl L)∧s'.next=s.next∧∀z,Jh v≠some z→s'.heap.get z=s.heap.get z) s:=by
  have h117:WF E 117 [v,iv 0,iv (L.length:Int)] (fun r s'=>CR lo s' v (Cl L)∧s'.next=s.next∧∀z,Jh v≠some z→s'.heap.get z=s.heap.get z) s:=by
    refine hE.go Ur (by decide) rfl ?_
    have e3:=Ay Try.prog 3 0 1 ⟨by omega,by omega⟩
    have e4:(0:Int)+1=1:=rfl
    rcases h with⟨a,rfl,rfl⟩ | ⟨i,rfl,h1,h2,h3⟩
    · simp only[Xw,LO,e3,e4,rS,show((0:Nat):Int)=0 from rfl,Qa,Qb,Qc,Qd,Qe,Qf,Qg,Qh,Qi,Qj,Qk,Ql,Qm,Qn,true_and,and_true,Qo,Qp,Qq,Qr,Qs,Qt,Qu,Qv,Qw,Qx,Qy,Qz,Ra,Rb,Rc,Rd,Re,Rf,Rg,Rh,Ri,Rj,Rk,Rl,Rm,Ya,Yb,Yc,Rn,Ro,Rp,Yd,Ye,Rq,Rs,Rt,Ru,Rv,Rw,Rx]
      refine WC.loop' ?_
      simp only[GM,IM,show decide ((1:Int)<0)=false from rfl,if_true,Qa,Qb,Qc,Qd,Qe,Qf,Qg,Qh,Qi,Qj,Qk,Ql,Qm,Qn,true_and,and_true,Qo,Qp,Qq,Qr,Qs,Qt,Qu,Qv,Qw,Qx,Qy,Qz,Ra,Rb,Rc,Rd,Re,Rf,Rg,Rh,Ri,Rj,Rk,Rl,Rm,Ya,Yb,Yc,Rn,Ro,Rp,Yd,Ye,Rq,Rs,Rt,Ru,Rv,Rw,Rx]
      exact⟨.inl ⟨a,rfl,rfl⟩,fun _ _=>trivial⟩
    · simp only[Xw,LO,e3,e4,Qa,Qb,Qc,Qd,Qe,Qf,Qg,Qh,Qi,Qj,Qk,Ql,Qm,Qn,true_and,and_true,Qo,Qp,Qq,Qr,Qs,Qt,Qu,Qv,Qw,Qx,Qy,Qz,Ra,Rb,Rc,Rd,Re,Rf,Rg,Rh,Ri,Rj,Rk,Rl,Rm,Ya,Yb,Yc,Rn,Ro,Rp,Yd,Ye,Rq,Rs,Rt,Ru,Rv,Rw,Rx]
      cases L with
      | nil =>
        refine WC.loop' ?_
        simp only[GM,IM,rS,show((0:Nat):Int)=0 from rfl,show decide ((1:Int)<0)=false from rfl,if_true,Qa,Qb,Qc,Qd,Qe,Qf,Qg,Qh,Qi,Qj,Qk,Ql,Qm,Qn,true_and,and_true,Qo,Qp,Qq,Qr,Qs,Qt,Qu,Qv,Qw,Qx,Qy,Qz,Ra,Rb,Rc,Rd,Re,Rf,Rg,Rh,Ri,Rj,Rk,Rl,Rm,Ya,Yb,Yc,Rn,Ro,Rp,Yd,Ye,Rq,Rs,Rt,Ru,Rv,Rw,Rx]
        exact⟨.inr ⟨i,rfl,h1,h2,h3⟩,fun _ _=>trivial⟩
      | cons x T =>
        refine RJ hE h1 (n:=(x::T).length) (by omega) T [x] s 1 _ _ _ rfl (by simp;omega) h3 ?_
        intro s' y3 y4 y5 y6 g1 g2 g3
        simp only[if_true,Qa,Qb,Qc,Qd,Qe,Qf,Qg,Qh,Qi,Qj,Qk,Ql,Qm,Qn,true_and,and_true,Qo,Qp,Qq,Qr,Qs,Qt,Qu,Qv,Qw,Qx,Qy,Qz,Ra,Rb,Rc,Rd,Re,Rf,Rg,Rh,Ri,Rj,Rk,Rl,Rm,Ya,Yb,Yc,Rn,Ro,Rp,Yd,Ye,Rq,Rs,Rt,Ru,Rv,Rw,Rx]
        exact⟨.inr ⟨i,by rw[Ho],h1,by omega,g1⟩,g2,fun z hz=>g3 z fun e=>hz (by rw[e];rfl)⟩
  have h108:∀m:Int,WF E 108 [v,iv 0,iv (L.length:Int),iv m] (fun r s'=>CR lo s' v (Cl L)∧s'.next=s.next∧∀z,Jh v≠some z→s'.heap.get z=s.heap.get z) s:=by
    intro m
    refine hE.go Uq (by decide) rfl ?_
    have e3:=CV Try.prog 3 (L.length:Int) 0 ⟨by omega,by omega⟩
    have e4:(L.length:Int) - 0=(L.length:Int):=by omega
    have e5:decide ((L.length:Int)≤12)=true:=decide_eq_true (by omega)
    simp only[ke,SD,SE,Qa,Qb,Qc,Qd,Qe,Qf,Qg,Qh,Qi,Qj,Qk,Ql,Qm,Qn,true_and,and_true,Qo,Qp,Qq,Qr,Qs,Qt,Qu,Qv,Qw,Qx,Qy,Qz,Ra,Rb,Rc,Rd,Re,Rf,Rg,Rh,Ri,Rj,Rk,Rl,Rm,Ya,Yb,Yc,Rn,Ro,Rp,Yd,Ye,Rq,Rs,Rt,Ru,Rv,Rw,Rx]
    refine WC.loop' ?_
    generalize WC E none (Ac.loop Ir) _=W
    simp only[Ir,SF,SG,SH,e3,e4,e5,Qa,Qb,Qc,Qd,Qe,Qf,Qg,Qh,Qi,Qj,Qk,Ql,Qm,Qn,true_and,and_true,Qo,Qp,Qq,Qr,Qs,Qt,Qu,Qv,Qw,Qx,Qy,Qz,Ra,Rb,Rc,Rd,Re,Rf,Rg,Rh,Ri,Rj,Rk,Rl,Rm,Ya,Yb,Yc,Rn,Ro,Rp,Yd,Ye,Rq,Rs,Rt,Ru,Rv,Rw,Rx]
    refine h117.mono ?_
    rintro r s' h'
    simp only[Qa,Qb,Qc,Qd,Qe,Qf,Qg,Qh,Qi,Qj,Qk,Ql,Qm,Qn,true_and,and_true,Qo,Qp,Qq,Qr,Qs,Qt,Qu,Qv,Qw,Qx,Qy,Qz,Ra,Rb,Rc,Rd,Re,Rf,Rg,Rh,Ri,Rj,Rk,Rl,Rm,Ya,Yb,Yc,Rn,Ro,Rp,Yd,Ye,Rq,Rs,Rt,Ru,Rv,Rw,Rx]
    exact h'
  refine hE.go aO (by decide) rfl ?_
  simp only[pc,Zu,Zv,h.len,P0 hL,Qa,Qb,Qc,Qd,Qe,Qf,Qg,Qh,Qi,Qj,Qk,Ql,Qm,Qn,true_and,and_true,Qo,Qp,Qq,Qr,Qs,Qt,Qu,Qv,Qw,Qx,Qy,Qz,Ra,Rb,Rc,Rd,Re,Rf,Rg,Rh,Ri,Rj,Rk,Rl,Rm,Ya,Yb,Yc,Rn,Ro,Rp,Yd,Ye,Rq,Rs,Rt,Ru,Rv,Rw,Rx]
  refine(bH hE L.length hL).mono ?_
  rintro _ _ ⟨⟨m,rfl⟩,rfl⟩
  simp only[Qa,Qb,Qc,Qd,Qe,Qf,Qg,Qh,Qi,Qj,Qk,Ql,Qm,Qn,true_and,and_true,Qo,Qp,Qq,Qr,Qs,Qt,Qu,Qv,Qw,Qx,Qy,Qz,Ra,Rb,Rc,Rd,Re,Rf,Rg,Rh,Ri,Rj,Rk,Rl,Rm,Ya,Yb,Yc,Rn,Ro,Rp,Yd,Ye,Rq,Rs,Rt,Ru,Rv,Rw,Rx]
  refine(h108 m).mono ?_
  rintro r s' h'
  simp only[Qa,Qb,Qc,Qd,Qe,Qf,Qg,Qh,Qi,Qj,Qk,Ql,Qm,Qn,true_and,and_true,Qo,Qp,Qq,Qr,Qs,Qt,Qu,Qv,Qw,Qx,Qy,Qz,Ra,Rb,Rc,Rd,Re,Rf,Rg,Rh,Ri,Rj,Rk,Rl,Rm,Ya,Yb,Yc,Rn,Ro,Rp,Yd,Ye,Rq,Rs,Rt,Ru,Rv,Rw,Rx]
  exact h'
theorem Ix{E:BI}(hE:Aq E){s:AE}{b:Nat}{L:List Int}{f:Int→Bool}{g:FuncId}{cp:List AV}(hg:∀q∈L,WF E g (iv q::cp) (fun r s'=>r=.bool (f q)∧s=s') s)(hlen:L.length<9223372036854775808){v:AV}(hv:AJ b s v (A3 L)):
  WF E 72 [v,.func g [] cp] (fun r s'=>r=.bool (BP f L 0).isSome∧s=s') s:=by
 refine hE.go lp (by decide) rfl ?_
 simp only[qS,jH,jI,Qa,Qb,Qc,Qd,Qe,Qf,Qg,Qh,Qi,Qj,Qk,Ql,Qm,Qn,true_and,and_true,Qo,Qp,Qq,Qr,Qs,Qt,Qu,Qv,Qw,Qx,Qy,Qz,Ra,Rb,Rc,Rd,Re,Rf,Rg,Rh,Ri,Rj,Rk,Rl,Rm,Ya,Yb,Yc,Rn,Ro,Rp,Yd,Ye,Rq,Rs,Rt,Ru,Rv,Rw,Rx]
 refine(NU hE hg hlen hv).mono ?_
 rintro _ _ ⟨rfl,rfl⟩
 cases hf:BP f L 0 with
 | none=>simp only[J2,show decide ((0:Int)≤-1)=false from rfl,Option.isSome,Qa,Qb,Qc,Qd,Qe,Qf,Qg,Qh,Qi,Qj,Qk,Ql,Qm,Qn,true_and,and_true,Qo,Qp,Qq,Qr,Qs,Qt,Qu,Qv,Qw,Qx,Qy,Qz,Ra,Rb,Rc,Rd,Re,Rf,Rg,Rh,Ri,Rj,Rk,Rl,Rm,Ya,Yb,Yc,Rn,Ro,Rp,Yd,Ye,Rq,Rs,Rt,Ru,Rv,Rw,Rx]
 | some i=>simp only[J2,show decide ((0:Int)≤(i:Int))=true from decide_eq_true (by omega),Option.isSome,Qa,Qb,Qc,Qd,Qe,Qf,Qg,Qh,Qi,Qj,Qk,Ql,Qm,Qn,true_and,and_true,Qo,Qp,Qq,Qr,Qs,Qt,Qu,Qv,Qw,Qx,Qy,Qz,Ra,Rb,Rc,Rd,Re,Rf,Rg,Rh,Ri,Rj,Rk,Rl,Rm,Ya,Yb,Yc,Rn,Ro,Rp,Yd,Ye,Rq,Rs,Rt,Ru,Rv,Rw,Rx]
theorem Ea{f:Int→Bool}:∀ {L:List Int}{k:Nat},(BP f L k).isSome=true↔∃q∈L,f q=true
 | [],k=>by simp[BP]
 | x::L,k=>by
  unfold BP
  by_cases h:f x=true
  ·simp[h]
  ·rw[if_neg h,Ea]
   simp[h]
theorem bA{E:BI}(hE:Aq E){s:AE}{b:Nat}{L:List Int}{y:Int}(hlen:L.length<9223372036854775808){a:Option (Nat×Nat)}{cap:Option Nat}(hc:BA b s a (A3 L)){Q:A9→Prop}(x2:AV):
    ∀ (l : List Int) (k : Nat) (x3 x6 x7 : AV), L.drop k = l → k ≤ L.length →
      (BP (fun q=>decide (y=q)) l k=none→∀ (y3 y5 y6 y7:AV),Q ⟨.exit 0,[.slice a L.length cap,iv y,x2,y3,iv (L.length:Int),y5,y6,y7],[],s⟩) →
      (∀i,BP (fun q=>decide (y=q)) l k=some i→∀ (y3 y5 y6 y7:AV),Q ⟨.ret,[.slice a L.length cap,iv y,iv (i:Int),y3,iv (L.length:Int),y5,y6,y7],[],s⟩) →
      WC E none (.loop Jk) Q [.slice a L.length cap,iv y,x2,x3,iv (L.length:Int),iv (k:Int),x6,x7] [] s:=by
  intro l
  induction l with
  | nil =>
    intro k x3 x6 x7 hd hk hq _
    have:=Cw hd hk
    subst this
    refine WC.loop' ?_
    simp only[Jk,OL,rG,decide_false,Qa,Qb,Qc,Qd,Qe,Qf,Qg,Qh,Qi,Qj,Qk,Ql,Qm,Qn,true_and,and_true,Qo,Qp,Qq,Qr,Qs,Qt,Qu,Qv,Qw,Qx,Qy,Qz,Ra,Rb,Rc,Rd,Re,Rf,Rg,Rh,Ri,Rj,Rk,Rl,Rm,Ya,Yb,Yc,Rn,Ro,Rp,Yd,Ye,Rq,Rs,Rt,Ru,Rv,Rw,Rx]
    exact hq rfl _ _ _ _
  | cons x l ih =>
    intro k x3 x6 x7 hd hk hq hr
    obtain⟨hlt,hx,hd'⟩:=B0 hd
    obtain⟨i,o,rfl,hi,hload⟩:=hc k _ (A6 hx)
    have e1:=At (cap:=cap) (i:=i) (o:=o) Try.underlying23 Br hlt
    have e2:AC Try.prog s 3 (.ptr (some (i,o+k * 1)))=some (iv x):=A0 Do (by rw[rC];exact hload)
    have hkk:decide ((k:Int)<(L.length:Int))=true:=decide_eq_true (by omega)
    have e3:=Ay Try.prog 3 (k:Int) 1 ⟨by omega,by omega⟩
    have e3':((k:Int)+1)=((k+1:Nat):Int):=by omega
    refine WC.loop' ?_
    generalize hW:WC E none (Ac.loop Jk) Q=WW
    by_cases hf:y=x
    · have ef : BP     (fun q => decide (y = q)) (x :: l) k = some k := by unfold BP;     rw [if_pos (decide_eq_true hf)]
      have Mu:decide (y=x)=true:=decide_eq_true hf
      simp only[Jk,OL,SN,SO,hkk,e1,e2,Mu,Xm,Qa,Qb,Qc,Qd,Qe,Qf,Qg,Qh,Qi,Qj,Qk,Ql,Qm,Qn,true_and,and_true,Qo,Qp,Qq,Qr,Qs,Qt,Qu,Qv,Qw,Qx,Qy,Qz,Ra,Rb,Rc,Rd,Re,Rf,Rg,Rh,Ri,Rj,Rk,Rl,Rm,Ya,Yb,Yc,Rn,Ro,Rp,Yd,Ye,Rq,Rs,Rt,Ru,Rv,Rw,Rx]
      exact hr k ef _ _ _ _
    · have Mu  : decide (y = x) = false := decide_eq_false hf
      have ef:BP (fun q=>decide (y=q)) (x::l) k=BP (fun q=>decide (y=q)) l (k+1):=by rw[BP,if_neg (by rw[Mu];decide)]
      simp only[Jk,OL,SN,SO,hkk,e1,e2,Mu,Xn,e3,e3',Qa,Qb,Qc,Qd,Qe,Qf,Qg,Qh,Qi,Qj,Qk,Ql,Qm,Qn,true_and,and_true,Qo,Qp,Qq,Qr,Qs,Qt,Qu,Qv,Qw,Qx,Qy,Qz,Ra,Rb,Rc,Rd,Re,Rf,Rg,Rh,Ri,Rj,Rk,Rl,Rm,Ya,Yb,Yc,Rn,Ro,Rp,Yd,Ye,Rq,Rs,Rt,Ru,Rv,Rw,Rx]
      rw[← hW]
      rw[ef]at hq hr
      exact ih (k+1) _ _ _ hd' hlt hq hr
theorem Pz{E:BI}(hE:Aq E){s:AE}{b:Nat}{L:List Int}{y:Int}(hlen:L.length<9223372036854775808){v:AV}(hv:AJ b s v (A3 L)):
  WF E 101 [v,iv y] (fun r s'=>r=.bool (decide (y∈L))∧s=s') s:=by
 obtain⟨a,cap,rfl,hc⟩:=hv
 rw[C7]
 have hmem:(BP (fun q=>decide (y=q)) L 0).isSome=decide (y∈L):=by
  rw[Bool.eq_iff_iff,Ea]
  simp
 have ix:WF E 113 [.slice a L.length cap,iv y] (fun r s'=>r=J2 (BP (fun q=>decide (y=q)) L 0)∧s=s') s:=by
  refine hE.go dz (by decide) rfl ?_
  simp only[nl,Xk,Xl,AW Try.underlying23,Qa,Qb,Qc,Qd,Qe,Qf,Qg,Qh,Qi,Qj,Qk,Ql,Qm,Qn,true_and,and_true,Qo,Qp,Qq,Qr,Qs,Qt,Qu,Qv,Qw,Qx,Qy,Qz,Ra,Rb,Rc,Rd,Re,Rf,Rg,Rh,Ri,Rj,Rk,Rl,Rm,Ya,Yb,Yc,Rn,Ro,Rp,Yd,Ye,Rq,Rs,Rt,Ru,Rv,Rw,Rx]
  refine bA hE hlen hc _ L 0 _ _ _ rfl (qm _) ?_ ?_
  ·intro hn y3 y5 y6 y7
   rw[hn]
   simp only[Xo,if_true,J2,Qa,Qb,Qc,Qd,Qe,Qf,Qg,Qh,Qi,Qj,Qk,Ql,Qm,Qn,true_and,and_true,Qo,Qp,Qq,Qr,Qs,Qt,Qu,Qv,Qw,Qx,Qy,Qz,Ra,Rb,Rc,Rd,Re,Rf,Rg,Rh,Ri,Rj,Rk,Rl,Rm,Ya,Yb,Yc,Rn,Ro,Rp,Yd,Ye,Rq,Rs,Rt,Ru,Rv,Rw,Rx]
  ·intro i hi y3 y5 y6 y7
   rw[hi]
   simp only[J2,Qa,Qb,Qc,Qd,Qe,Qf,Qg,Qh,Qi,Qj,Qk,Ql,Qm,Qn,true_and,and_true,Qo,Qp,Qq,Qr,Qs,Qt,Qu,Qv,Qw,Qx,Qy,Qz,Ra,Rb,Rc,Rd,Re,Rf,Rg,Rh,Ri,Rj,Rk,Rl,Rm,Ya,Yb,Yc,Rn,Ro,Rp,Yd,Ye,Rq,Rs,Rt,Ru,Rv,Rw,Rx]
 refine hE.go dk (by decide) rfl ?_
 simp only[nZ,XD,XE,Qa,Qb,Qc,Qd,Qe,Qf,Qg,Qh,Qi,Qj,Qk,Ql,Qm,Qn,true_and,and_true,Qo,Qp,Qq,Qr,Qs,Qt,Qu,Qv,Qw,Qx,Qy,Qz,Ra,Rb,Rc,Rd,Re,Rf,Rg,Rh,Ri,Rj,Rk,Rl,Rm,Ya,Yb,Yc,Rn,Ro,Rp,Yd,Ye,Rq,Rs,Rt,Ru,Rv,Rw,Rx]
 refine ix.mono ?_
 rintro _ _ ⟨rfl,rfl⟩
 rw[← hmem]
 cases hf:BP (fun q=>decide (y=q)) L 0 with
 | none=>simp only[J2,show decide ((0:Int)≤-1)=false from rfl,Option.isSome,Qa,Qb,Qc,Qd,Qe,Qf,Qg,Qh,Qi,Qj,Qk,Ql,Qm,Qn,true_and,and_true,Qo,Qp,Qq,Qr,Qs,Qt,Qu,Qv,Qw,Qx,Qy,Qz,Ra,Rb,Rc,Rd,Re,Rf,Rg,Rh,Ri,Rj,Rk,Rl,Rm,Ya,Yb,Yc,Rn,Ro,Rp,Yd,Ye,Rq,Rs,Rt,Ru,Rv,Rw,Rx]
 | some i=>simp only[J2,show decide ((0:Int)≤(i:Int))=true from decide_eq_true (by omega),Option.isSome,Qa,Qb,Qc,Qd,Qe,Qf,Qg,Qh,Qi,Qj,Qk,Ql,Qm,Qn,true_and,and_true,Qo,Qp,Qq,Qr,Qs,Qt,Qu,Qv,Qw,Qx,Qy,Qz,Ra,Rb,Rc,Rd,Re,Rf,Rg,Rh,Ri,Rj,Rk,Rl,Rm,Ya,Yb,Yc,Rn,Ro,Rp,Yd,Ye,Rq,Rs,Rt,Ru,Rv,Rw,Rx]
def Ep(L:List Int):List Int:=EE (Cl L)
def Kc(L:List Int):Bool:=(BP (fun q=>decide (-q∈L)) L 0).isSome
theorem Nv{L:List Int}:Kc L=true↔∃q∈L,-q∈L:=by
 unfold Kc
 rw[Ea]
 simp
theorem VX        : ∀ {L : List Int} {z : Int}, z ∈ EE    L → z ∈ L := by
  have h:∀ (l:List Int) (p z:Int),z∈dd p l→z∈l:=by
    intro l
    induction l with
    | nil=>intro p z h;simp[dd]at h
    | cons x l ih =>
      intro p z h
      unfold dd at h
      split at h
      · exact qo _ (ih _ _ h)
      · rcases rI.1            h with e | e
        · rw[e];exact ql ..
        · exact qo _ (ih _ _ e)
  intro L z hz
  cases L with
  | nil=>exact hz
  | cons x r =>
    rcases rI.1 hz with e | e
    · rw[e];exact ql ..
    · exact qo _ (h _ _ _ e)
theorem VW:∀ (L:List Int),(EE L).length≤L.length:=by
 have h:∀ (l:List Int) (p:Int),(dd p l).length≤l.length:=by
  intro l
  induction l with
  | nil=>intro p;simp[dd]
  | cons x l ih =>
   intro p
   unfold dd
   split
   ·have:=ih p;simp;omega
   ·have:=ih x;simp;omega
 intro L
 cases L with
 | nil=>exact qg _
 | cons x r=>have:=h r x;simp[EE];omega
theorem KF(L:List Int)(z:Int):z∈Cl L↔z∈L:=by
 unfold Cl
 rw[sX,(I6 L (q:=[]) List.Pairwise.nil).2]
 simp
theorem Ni{L:List Int}{z:Int}(h:z∈Ep L):z∈L:=(KF L z).1 (VX h)
theorem MT(L:List Int):(Ep L).length≤L.length:=by
 have:=VW (Cl L)
 rw[Ho]at this
 exact this
theorem W4{E:BI}(hE:Aq E){s:AE}{b j:Nat}{L:List Int}{v:AV}(hv:AJ b s v (A3 L))(hb:Ap s j v)(hlen:L.length<9223372036854775808){q:Int}(hq:i64 (-q)):
  WF E 100 [iv q,.ptr (some (j,0))] (fun r s'=>r=.bool (decide (-q∈L))∧s=s') s:=by
 have e1:=Fe Try.prog q hq
 refine hE.go dj (by decide) rfl ?_
 simp only[nY,XB,XC,hb.load DA,e1,Qa,Qb,Qc,Qd,Qe,Qf,Qg,Qh,Qi,Qj,Qk,Ql,Qm,Qn,true_and,and_true,Qo,Qp,Qq,Qr,Qs,Qt,Qu,Qv,Qw,Qx,Qy,Qz,Ra,Rb,Rc,Rd,Re,Rf,Rg,Rh,Ri,Rj,Rk,Rl,Rm,Ya,Yb,Yc,Rn,Ro,Rp,Yd,Ye,Rq,Rs,Rt,Ru,Rv,Rw,Rx]
 refine(Pz hE hlen hv).mono ?_
 rintro _ _ ⟨rfl,rfl⟩
 simp only[Qa,Qb,Qc,Qd,Qe,Qf,Qg,Qh,Qi,Qj,Qk,Ql,Qm,Qn,true_and,and_true,Qo,Qp,Qq,Qr,Qs,Qt,Qu,Qv,Qw,Qx,Qy,Qz,Ra,Rb,Rc,Rd,Re,Rf,Rg,Rh,Ri,Rj,Rk,Rl,Rm,Ya,Yb,Yc,Rn,Ro,Rp,Yd,Ye,Rq,Rs,Rt,Ru,Rv,Rw,Rx]
theorem cv{E:BI}(hE:Aq E){s:AE}{b:Nat}{L:List Int}(hlen:L.length≤12)(hi:∀q∈L,i64 (-q))(hb:b≤s.next){v:AV}(hv:AJ b s v (A3 L)):
  WF E 74 [v] (fun r s'=>∃w,r=.tuple [w,.bool (!Kc (Ep L))]∧C2 s.next s' w (Ep L)∧Ao s.next s s') s:=by
 have hptr:∀i,Made.val i .ptr=.ptr (some (i,0)):=fun _=>rfl
 refine hE.go lr (by decide) rfl ?_
 simp only[qT,jJ,jK,Qa,Qb,Qc,Qd,Qe,Qf,Qg,Qh,Qi,Qj,Qk,Ql,Qm,Qn,true_and,and_true,Qo,Qp,Qq,Qr,Qs,Qt,Qu,Qv,Qw,Qx,Qy,Qz,Ra,Rb,Rc,Rd,Re,Rf,Rg,Rh,Ri,Rj,Rk,Rl,Rm,Ya,Yb,Yc,Rn,Ro,Rp,Yd,Ye,Rq,Rs,Rt,Ru,Rv,Rw,Rx]
 refine(G3 hE hb hv (by omega)).mono ?_
 rintro v1 s1 ⟨h1,o1⟩
 generalize e2:newObj s1 (AL 23 0 [.slice none 0 (some 0)])=s2
 have n2:s2.next=s1.next+1:=by rw[← e2];rfl
 have o2:Ao s1.next s1 s2:=by rw[← e2];exact Ao.new s1 _
 have b2:Ap s2 s1.next (.slice none 0 (some 0)):=by rw[← e2];exact Ap.new
 obtain⟨s3,g1,g2,g3,g4⟩:=b2.store (d:=v1) Ba h1.slice.isCell.1 h1.slice.isCell.2
 have hn1:=o1.1
 have h3:CR s.next s3 v1 L:=by
  rcases h1 with h1 | ⟨i,r1,r2,r3,r4⟩
  ·exact .inl h1
  ·exact .inr ⟨i,r1,r2,by omega,(r4.keep (o2.2 i r3)).keep (g4 i (by omega))⟩
 have o3:Ao s.next s s3:=(o1.trans (o2.mono (by omega))).trans ⟨by omega,fun y hy=>g4 y (by omega)⟩
 simp only[N8,hptr,e2,BW,g1,AS,jL,g2.load DA,Qa,Qb,Qc,Qd,Qe,Qf,Qg,Qh,Qi,Qj,Qk,Ql,Qm,Qn,true_and,and_true,Qo,Qp,Qq,Qr,Qs,Qt,Qu,Qv,Qw,Qx,Qy,Qz,Ra,Rb,Rc,Rd,Re,Rf,Rg,Rh,Ri,Rj,Rk,Rl,Rm,Ya,Yb,Yc,Rn,Ro,Rp,Yd,Ye,Rq,Rs,Rt,Ru,Rv,Rw,Rx]
 refine(fG hE h3 hlen).mono ?_
 rintro r4 s4 ⟨h4,n4,f4⟩
 have hne:Jh v1≠some s1.next:=fun e=>by
  rcases h1 with⟨a,r1,r2⟩ | ⟨i,r1,r2,r3,r4⟩
  ·rw[r1]at e
   cases a<;>cases e
  ·rw[r1]at e
   injection e with e
   omega
 have hlo:∀z,z<s.next→Jh v1≠some z:=fun z hz e=>by
  rcases h1 with⟨a,r1,r2⟩ | ⟨i,r1,r2,r3,r4⟩
  ·rw[r1]at e
   cases a<;>cases e
  ·rw[r1]at e
   injection e with e
   omega
 have b4:Ap s4 s1.next v1:=g2.keep (f4 _ hne)
 have o4:Ao s.next s s4:=o3.trans ⟨by omega,fun y hy=>f4 y (hlo y hy)⟩
 simp only[jM,b4.load DA,Qa,Qb,Qc,Qd,Qe,Qf,Qg,Qh,Qi,Qj,Qk,Ql,Qm,Qn,true_and,and_true,Qo,Qp,Qq,Qr,Qs,Qt,Qu,Qv,Qw,Qx,Qy,Qz,Ra,Rb,Rc,Rd,Re,Rf,Rg,Rh,Ri,Rj,Rk,Rl,Rm,Ya,Yb,Yc,Rn,Ro,Rp,Yd,Ye,Rq,Rs,Rt,Ru,Rv,Rw,Rx]
 refine(aR hE h4 (by rw[Ho];omega)).mono ?_
 rintro w s5 ⟨h5,hi5,n5,f5⟩
 have b5:Ap s5 s1.next v1:=b4.keep (f5 _ hne)
 have o5:Ao s.next s s5:=o4.trans ⟨by omega,fun y hy=>f5 y (hlo y hy)⟩
 obtain⟨s6,k1,k2,k3,k4⟩:=b5.store (d:=w) Ba h5.slice.isCell.1 h5.slice.isCell.2
 have h6:C2 s.next s6 w (Ep L):=by
  rcases h5 with h5 | ⟨i,G,r1,r2,r3,r4⟩
  ·exact .inl h5
  ·refine .inr ⟨i,G,r1,r2,by omega,r4.keep (k4 i fun e=>?_)⟩
   exact hne (by rw[← e];exact hi5 i (by rw[r1];rfl))
 have o6:Ao s.next s s6:=o5.trans ⟨by omega,fun y hy=>k4 y (by omega)⟩
 have hlen6:=MT L
 simp only[BW,k1,AS,jN,k2.load DA,rn,rf,Qa,Qb,Qc,Qd,Qe,Qf,Qg,Qh,Qi,Qj,Qk,Ql,Qm,Qn,true_and,and_true,Qo,Qp,Qq,Qr,Qs,Qt,Qu,Qv,Qw,Qx,Qy,Qz,Ra,Rb,Rc,Rd,Re,Rf,Rg,Rh,Ri,Rj,Rk,Rl,Rm,Ya,Yb,Yc,Rn,Ro,Rp,Yd,Ye,Rq,Rs,Rt,Ru,Rv,Rw,Rx]
 refine(Ix hE (f:=fun q=>decide (-q∈Ep L)) (g:=100) (cp:=[.ptr (some (s1.next,0))]) (fun q hq=>?_) (by omega) h6.slice).mono ?_
 ·exact W4 hE h6.slice k2 (by omega) (hi q (Ni hq))
 rintro _ _ ⟨rfl,rfl⟩
 simp only[BZ,Az,k2.load DA,h6.self,Qa,Qb,Qc,Qd,Qe,Qf,Qg,Qh,Qi,Qj,Qk,Ql,Qm,Qn,true_and,and_true,Qo,Qp,Qq,Qr,Qs,Qt,Qu,Qv,Qw,Qx,Qy,Qz,Ra,Rb,Rc,Rd,Re,Rf,Rg,Rh,Ri,Rj,Rk,Rl,Rm,Ya,Yb,Yc,Rn,Ro,Rp,Yd,Ye,Rq,Rs,Rt,Ru,Rv,Rw,Rx]
 exact⟨w,rfl,h6,o6⟩
def Ch(c:Int→Int→Int)(x:Int):List Int→List Int
 | []=>[x]
 | y::q=>if c x y<0 then y::Ch c x q else x::y::q
def GI(c:Int→Int→Int)(L:List Int):List Int:=(L.foldl (fun q x=>Ch c x q) []).reverse
theorem Ha(c:Int→Int→Int)(x:Int):∀q,(Ch c x q).length=q.length+1
 | []=>rfl
 | y::q=>by
  unfold Ch
  split
  ·simp[Ha c x q]
  ·simp
theorem Hb        (c : Int → Int → Int) (x z : Int) : ∀ q, z ∈ Ch    c x q ↔ z = x ∨ z ∈ q
  | []=>by simp[Ch]
  | y::q=>by
    unfold Ch
    split
    · rw[rI,Hb c x z q,rI]
      constructor
      · rintro (h | h | h)
        · exact .inr (.inl h)
        · exact .inl h
        · exact .inr (.inr h)
      · rintro (h | h | h)
        · exact .inr (.inl h)
        · exact .inl h
        · exact .inr (.inr h)
    · simp
theorem P9(c:Int→Int→Int):∀ (R q:List Int),(R.foldl (fun q x=>Ch c x q) q).length=q.length+R.length
 | [],q=>rfl
 | y::R,q=>by simp only[rT,P9 c R,Ha,qx];omega
theorem QA(c:Int→Int→Int)(z:Int):∀ (R q:List Int),z∈R.foldl (fun q x=>Ch c x q) q↔z∈q∨z∈R
  | [],q=>by simp
  | y::R,q=>by
    rw[rT,QA c z R,Hb,rI]
    constructor
    · rintro ((h | h) | h)
      · exact .inr (.inl h)
      · exact .inl h
      · exact .inr (.inr h)
    · rintro (h | h | h)
      · exact .inl (.inr h)
      · exact .inl (.inl h)
      · exact .inr h
theorem Ns(c:Int→Int→Int)(L:List Int):(GI c L).length=L.length:=by
 unfold GI
 rw[sW,P9];simp
theorem Wh(c:Int→Int→Int)(L:List Int)(z:Int):z∈GI c L↔z∈L:=by
 unfold GI
 rw[sX,QA];simp
theorem cI       {E : BI}  (hE : Aq   E) {i n m : Nat} (hn : n ≤ 1000) {s0 : AE}  {P : Int → Prop} {c : Int → Int → Int} {g : FuncId} {cp : List AV} (hg : ∀ s a b, (∀ z, z ≠ i → s.heap.get z = s0.heap.get z) → s.next = s0.next → P a → P b → WF E g (iv a :: iv b :: cp) (fun r s' => r = iv (c a b) ∧ s = s') s) (x : Int) (hx : P x) {Q : A9   → Prop} :
    ∀ (p : List Int) (T : List AV) (s : AE)  (x5 x7 : AV), p.length < n → (∀ y ∈ p, P y) → (∀ z, z ≠ i → s.heap.get z = s0.heap.get z) → s.next = s0.next → BG    s i (A3  (p.reverse ++ [x]) ++ T) →
      (∀s' y5 y7,BG s' i (A3 (Ch c x p).reverse++T)→s'.next=s0.next→(∀z,z≠i→s'.heap.get z=s0.heap.get z)→Q ⟨.exit 2,[.slice (some (i,0)) n none,iv 0,iv (n:Int),.func g [] cp,iv (m:Int),y5,x5,y7],[],s'⟩) →
      WC E none (.loop LK) Q [.slice (some (i,0)) n none,iv 0,iv (n:Int),.func g [] cp,iv (m:Int),iv (p.length:Int),x5,x7] [] s:=by
  intro p
  induction p with
  | nil =>
    intro T s x5 x7 h1 hp hf hnx hr hq
    refine WC.loop' ?_
    simp only[LK,SQ,rS,show((0:Nat):Int)=0 from rfl,rG,decide_false,Qa,Qb,Qc,Qd,Qe,Qf,Qg,Qh,Qi,Qj,Qk,Ql,Qm,Qn,true_and,and_true,Qo,Qp,Qq,Qr,Qs,Qt,Qu,Qv,Qw,Qx,Qy,Qz,Ra,Rb,Rc,Rd,Re,Rf,Rg,Rh,Ri,Rj,Rk,Rl,Rm,Ya,Yb,Yc,Rn,Ro,Rp,Yd,Ye,Rq,Rs,Rt,Ru,Rv,Rw,Rx]
    exact hq s _ _ hr hnx hf
  | cons y q ih =>
    intro T s x5 x7 h1 hp hf hnx hr hq
    have hj:(y::q).length=q.length+1:=rfl
    rw[hj]at h1 ⊢
    have hcells:A3 ((y::q).reverse++[x])++T=A3 q.reverse++iv y::(iv x::T):=by simp
    have hcells2:A3 ((y::q).reverse++[x])++T=(A3 q.reverse++[iv y])++iv x::T:=by simp
    have hql:(A3 q.reverse).length=q.length:=by simp
    have hql2:(A3 q.reverse++[iv y]).length=q.length+1:=by simp
    have hgt:decide ((0:Int)<((q.length+1:Nat):Int))=true:=decide_eq_true (by omega)
    have a1:AD Try.prog 23 (.slice (some (i,0)) n none) (iv ((q.length+1:Nat):Int))=some (.ptr (some (i,0+(q.length+1) * 1))):=At Try.underlying23 Br (by omega)
    have a0:AD Try.prog 23 (.slice (some (i,0)) n none) (iv ((q.length:Nat):Int))=some (.ptr (some (i,0+q.length * 1))):=At Try.underlying23 Br (by omega)
    have l1:AC Try.prog s 3 (.ptr (some (i,0+(q.length+1) * 1)))=some (iv x):=hr.load (by rw[hcells2];exact Fk hql2)
    have l0:AC Try.prog s 3 (.ptr (some (i,0+q.length * 1)))=some (iv y):=hr.load (by rw[hcells];exact Fk hql)
    have hs:=CV Try.prog 3 ((q.length+1:Nat):Int) 1 ⟨by omega,by omega⟩
    have hs1:(((q.length+1:Nat):Int) - 1)=((q.length:Nat):Int):=by omega
    rw[hs1]at hs
    refine WC.loop' ?_
    generalize hW:WC E none (Ac.loop LK) Q=W
    simp only[LK,SQ,hgt,a1,l1,hs,a0,l0,rL,rY,rl,Qa,Qb,Qc,Qd,Qe,Qf,Qg,Qh,Qi,Qj,Qk,Ql,Qm,Qn,true_and,and_true,Qo,Qp,Qq,Qr,Qs,Qt,Qu,Qv,Qw,Qx,Qy,Qz,Ra,Rb,Rc,Rd,Re,Rf,Rg,Rh,Ri,Rj,Rk,Rl,Rm,Ya,Yb,Yc,Rn,Ro,Rp,Yd,Ye,Rq,Rs,Rt,Ru,Rv,Rw,Rx]
    refine(hg s x y hf hnx hx (hp y (ql ..))).mono ?_
    rintro _ _ ⟨rfl,rfl⟩
    by_cases h:c x y<0
    · rw[hcells2]at hr
      obtain⟨s1,g1,g2,g3,g4⟩:=hr.store (k:=q.length+1) (u:=iv y) hql2 rfl rfl
      have e1:(A3 q.reverse++[iv y])++iv y::T=A3 q.reverse++iv y::(iv y::T):=by simp
      rw[e1]at g2
      obtain⟨s2,k1,k2,k3,k4⟩:=g2.store (k:=q.length) (u:=iv x) hql rfl rfl
      simp only[h,decide_true,Xq,Xr,a1,l1,hs,a0,l0,BW,g1,k1,AS,Qa,Qb,Qc,Qd,Qe,Qf,Qg,Qh,Qi,Qj,Qk,Ql,Qm,Qn,true_and,and_true,Qo,Qp,Qq,Qr,Qs,Qt,Qu,Qv,Qw,Qx,Qy,Qz,Ra,Rb,Rc,Rd,Re,Rf,Rg,Rh,Ri,Rj,Rk,Rl,Rm,Ya,Yb,Yc,Rn,Ro,Rp,Yd,Ye,Rq,Rs,Rt,Ru,Rv,Rw,Rx]
      rw[← hW]
      have e2:Ch c x (y::q)=y::Ch c x q:=by simp[Ch,h]
      refine ih (iv y::T) s2 x5 _ (by omega) (fun z hz=>hp z (qo _ hz)) (fun z hz=>(k4 z hz).trans ((g4 z hz).trans (hf z hz))) (by omega) ?_ ?_
      · have e3:A3 (q.reverse++[x])++iv y::T=A3 q.reverse++iv x::(iv y::T):=by simp
        rw[e3];exact k2
      · intro s' y5 y7 f1 f2 f3
        refine hq s' y5 y7 ?_ (by omega) f3
        rw[e2]
        have e4:A3 (y::Ch c x q).reverse++T=A3 (Ch c x q).reverse++(iv y::T):=by simp
        rw[e4];exact f1
    · have e2:Ch c x (y::q)=x::y::q:=by simp[Ch,h]
      simp only[h,decide_false,Qa,Qb,Qc,Qd,Qe,Qf,Qg,Qh,Qi,Qj,Qk,Ql,Qm,Qn,true_and,and_true,Qo,Qp,Qq,Qr,Qs,Qt,Qu,Qv,Qw,Qx,Qy,Qz,Ra,Rb,Rc,Rd,Re,Rf,Rg,Rh,Ri,Rj,Rk,Rl,Rm,Ya,Yb,Yc,Rn,Ro,Rp,Yd,Ye,Rq,Rs,Rt,Ru,Rv,Rw,Rx]
      refine hq s _ _ ?_ hnx hf
      rw[e2]
      have e4:A3 (x::y::q).reverse++T=A3 ((y::q).reverse++[x])++T:=by simp
      rw[e4];exact hr
theorem Wg{E:BI}(hE:Aq E){i n:Nat}(hn:n≤1000){s0:AE}{P:Int→Prop}{c:Int→Int→Int}{g:FuncId}{cp G:List AV}(hg:∀s a b,(∀z,z≠i→s.heap.get z=s0.heap.get z)→s.next=s0.next→P a→P b→WF E g (iv a::iv b::cp) (fun r s'=>r=iv (c a b)∧s=s') s){Q:A9→Prop}:
    ∀ (R q : List Int) (s : AE)  (m : Nat) (x5 x6 x7 : AV), q.length = m → n = q.length + R.length → (∀ y ∈ q, P y) → (∀ y ∈ R, P y) → (∀ z, z ≠ i → s.heap.get z = s0.heap.get z) → s.next = s0.next → BG    s i (A3  (q.reverse ++ R) ++ G) →
      (∀s' y4 y5 y6 y7,BG s' i (A3 (R.foldl (fun q x=>Ch c x q) q).reverse++G)→s'.next=s0.next→(∀z,z≠i→s'.heap.get z=s0.heap.get z)→Q ⟨.exit 0,[.slice (some (i,0)) n none,iv 0,iv (n:Int),.func g [] cp,y4,y5,y6,y7],[],s'⟩) →
      WC E none (.loop IL) Q [.slice (some (i,0)) n none,iv 0,iv (n:Int),.func g [] cp,iv (m:Int),x5,x6,x7] [] s:=by
  intro R
  induction R with
  | nil =>
    intro q s m x5 x6 x7 hm hq hp hpR hf hnx hr hk
    subst hm
    have hlt:decide (((q.length:Nat):Int)<(n:Int))=false:=decide_eq_false (by simp at hq;omega)
    refine WC.loop' ?_
    simp only[IL,LL,hlt,Qa,Qb,Qc,Qd,Qe,Qf,Qg,Qh,Qi,Qj,Qk,Ql,Qm,Qn,true_and,and_true,Qo,Qp,Qq,Qr,Qs,Qt,Qu,Qv,Qw,Qx,Qy,Qz,Ra,Rb,Rc,Rd,Re,Rf,Rg,Rh,Ri,Rj,Rk,Rl,Rm,Ya,Yb,Yc,Rn,Ro,Rp,Yd,Ye,Rq,Rs,Rt,Ru,Rv,Rw,Rx]
    exact hk s _ _ _ _ (by simpa using hr) hnx hf
  | cons x T ih =>
    intro q s m x5 x6 x7 hm hq hp hpR hf hnx hr hk
    subst hm
    have hR:(x::T).length=T.length+1:=rfl
    rw[hR]at hq
    have hlt:decide (((q.length:Nat):Int)<(n:Int))=true:=decide_eq_true (by omega)
    have e3:=Ay Try.prog 3 ((q.length:Nat):Int) 1 ⟨by omega,by omega⟩
    have hcast:(((q.length:Nat):Int)+1)=((q.length+1:Nat):Int):=by omega
    have hPx:=hpR x (ql ..)
    refine WC.loop' ?_
    generalize hW:WC E none (Ac.loop IL) Q=W
    simp only[IL,LL,Xp,hlt,Qa,Qb,Qc,Qd,Qe,Qf,Qg,Qh,Qi,Qj,Qk,Ql,Qm,Qn,true_and,and_true,Qo,Qp,Qq,Qr,Qs,Qt,Qu,Qv,Qw,Qx,Qy,Qz,Ra,Rb,Rc,Rd,Re,Rf,Rg,Rh,Ri,Rj,Rk,Rl,Rm,Ya,Yb,Yc,Rn,Ro,Rp,Yd,Ye,Rq,Rs,Rt,Ru,Rv,Rw,Rx]
    refine cI hE hn hg x hPx q (A3 T++G) s _ _ (by omega) hp hf hnx (by simpa using hr) ?_
    intro s' y5 y7 g1 g2 g3
    simp only[Xs,e3,hcast,if_true,Qa,Qb,Qc,Qd,Qe,Qf,Qg,Qh,Qi,Qj,Qk,Ql,Qm,Qn,true_and,and_true,Qo,Qp,Qq,Qr,Qs,Qt,Qu,Qv,Qw,Qx,Qy,Qz,Ra,Rb,Rc,Rd,Re,Rf,Rg,Rh,Ri,Rj,Rk,Rl,Rm,Ya,Yb,Yc,Rn,Ro,Rp,Yd,Ye,Rq,Rs,Rt,Ru,Rv,Rw,Rx]
    rw[← hW]
    refine ih (Ch c x q) s' (q.length+1) _ _ _ (Ha c x q) (by rw[Ha];omega) (fun y hy=>?_) (fun y hy=>hpR y (qo _ hy)) g3 g2 (by simpa using g1) hk
    rcases(Hb c x y q).1 hy with e | e
    · rw[e];exact hPx
    · exact hp y e
theorem cJ       {E : BI}  (hE : Aq   E) {lo : Nat} {s0 : AE}  {v : AV} {L : List Int} (h : C2     lo s0 v L) (hL : L.length ≤ 12) {P : Int → Prop} {c : Int → Int → Int} {g : FuncId} {cp : List AV} (hP : ∀ y ∈ L, P y)
    (hg:∀s a b,(∀z,Jh v≠some z→s.heap.get z=s0.heap.get z)→s.next=s0.next→P a→P b→WF E g (iv a::iv b::cp) (fun r s'=>r=iv (c a b)∧s=s') s):
    WF E 75 [v,.func g [] cp] (fun r s'=>C2 lo s' v (GI c L)∧s'.next=s0.next∧∀z,Jh v≠some z→s'.heap.get z=s0.heap.get z) s0:=by
  have e3:=Ay Try.prog 3 0 1 ⟨by omega,by omega⟩
  have e4:(0:Int)+1=1:=rfl
  have h114:WF E 114 [v,iv 0,iv (L.length:Int),.func g [] cp] (fun r s'=>C2 lo s' v (GI c L)∧s'.next=s0.next∧∀z,Jh v≠some z→s'.heap.get z=s0.heap.get z) s0:=by
    refine hE.go d6 (by decide) rfl ?_
    rcases h with⟨a,rfl,rfl⟩ | ⟨i,G,rfl,h1,h2,h3⟩
    · simp only[km,SP,e3,e4,rS,show((0:Nat):Int)=0 from rfl,Qa,Qb,Qc,Qd,Qe,Qf,Qg,Qh,Qi,Qj,Qk,Ql,Qm,Qn,true_and,and_true,Qo,Qp,Qq,Qr,Qs,Qt,Qu,Qv,Qw,Qx,Qy,Qz,Ra,Rb,Rc,Rd,Re,Rf,Rg,Rh,Ri,Rj,Rk,Rl,Rm,Ya,Yb,Yc,Rn,Ro,Rp,Yd,Ye,Rq,Rs,Rt,Ru,Rv,Rw,Rx]
      refine WC.loop' ?_
      simp only[IL,LL,show decide ((1:Int)<0)=false from rfl,if_true,Qa,Qb,Qc,Qd,Qe,Qf,Qg,Qh,Qi,Qj,Qk,Ql,Qm,Qn,true_and,and_true,Qo,Qp,Qq,Qr,Qs,Qt,Qu,Qv,Qw,Qx,Qy,Qz,Ra,Rb,Rc,Rd,Re,Rf,Rg,Rh,Ri,Rj,Rk,Rl,Rm,Ya,Yb,Yc,Rn,Ro,Rp,Yd,Ye,Rq,Rs,Rt,Ru,Rv,Rw,Rx]
      exact⟨.inl ⟨a,rfl,rfl⟩,fun _ _=>trivial⟩
    · simp only[km,SP,e3,e4,Qa,Qb,Qc,Qd,Qe,Qf,Qg,Qh,Qi,Qj,Qk,Ql,Qm,Qn,true_and,and_true,Qo,Qp,Qq,Qr,Qs,Qt,Qu,Qv,Qw,Qx,Qy,Qz,Ra,Rb,Rc,Rd,Re,Rf,Rg,Rh,Ri,Rj,Rk,Rl,Rm,Ya,Yb,Yc,Rn,Ro,Rp,Yd,Ye,Rq,Rs,Rt,Ru,Rv,Rw,Rx]
      cases L with
      | nil =>
        refine WC.loop' ?_
        simp only[IL,LL,rS,show((0:Nat):Int)=0 from rfl,show decide ((1:Int)<0)=false from rfl,if_true,Qa,Qb,Qc,Qd,Qe,Qf,Qg,Qh,Qi,Qj,Qk,Ql,Qm,Qn,true_and,and_true,Qo,Qp,Qq,Qr,Qs,Qt,Qu,Qv,Qw,Qx,Qy,Qz,Ra,Rb,Rc,Rd,Re,Rf,Rg,Rh,Ri,Rj,Rk,Rl,Rm,Ya,Yb,Yc,Rn,Ro,Rp,Yd,Ye,Rq,Rs,Rt,Ru,Rv,Rw,Rx]
        exact⟨.inr ⟨i,G,rfl,h1,h2,h3⟩,fun _ _=>trivial⟩
      | cons x T =>
        refine Wg hE (n:=(x::T).length) (by omega) (s0:=s0) (P:=P) (c:=c) (G:=G) (fun s a b f1 f2 p1 p2=>hg s a b (fun z hz=>f1 z fun e=>hz (by rw[e];rfl)) f2 p1 p2) T [x] s0 1 _ _ _ rfl (by simp;omega) (fun y hy=>hP y (by simp at hy;rw[hy];exact ql ..)) (fun y hy=>hP y (qo _ hy)) (fun _ _=>rfl) rfl (by simpa using h3) ?_
        intro s' y4 y5 y6 y7 g1 g2 g3
        simp only[if_true,Qa,Qb,Qc,Qd,Qe,Qf,Qg,Qh,Qi,Qj,Qk,Ql,Qm,Qn,true_and,and_true,Qo,Qp,Qq,Qr,Qs,Qt,Qu,Qv,Qw,Qx,Qy,Qz,Ra,Rb,Rc,Rd,Re,Rf,Rg,Rh,Ri,Rj,Rk,Rl,Rm,Ya,Yb,Yc,Rn,Ro,Rp,Yd,Ye,Rq,Rs,Rt,Ru,Rv,Rw,Rx]
        exact⟨.inr ⟨i,G,by rw[Ns],h1,by omega,g1⟩,g2,fun z hz=>g3 z fun e=>hz (by rw[e];rfl)⟩
  have d1:decide ((20:Int)≤(L.length:Int))=false:=decide_eq_false (by omega)
  have d2:decide ((20:Int)<(L.length:Int))=false:=decide_eq_false (by omega)
  have ln:∀s,As Try.prog s 23 v=some (iv (L.length:Int)):=fun s=>by
    have:=h.slice.len Try.underlying23 s
    rw[C7]at this
    exact this
  have h102:WF E 102 [v,iv (L.length:Int),.func g [] cp] (fun r s'=>C2 lo s' v (GI c L)∧s'.next=s0.next∧∀z,Jh v≠some z→s'.heap.get z=s0.heap.get z) s0:=by
    refine hE.go dm (by decide) rfl ?_
    simp only[nf,XG,XH,Qa,Qb,Qc,Qd,Qe,Qf,Qg,Qh,Qi,Qj,Qk,Ql,Qm,Qn,true_and,and_true,Qo,Qp,Qq,Qr,Qs,Qt,Qu,Qv,Qw,Qx,Qy,Qz,Ra,Rb,Rc,Rd,Re,Rf,Rg,Rh,Ri,Rj,Rk,Rl,Rm,Ya,Yb,Yc,Rn,Ro,Rp,Yd,Ye,Rq,Rs,Rt,Ru,Rv,Rw,Rx]
    refine WC.loop' ?_
    simp only[XF,XI,d1,if_true,XJ,Qa,Qb,Qc,Qd,Qe,Qf,Qg,Qh,Qi,Qj,Qk,Ql,Qm,Qn,true_and,and_true,Qo,Qp,Qq,Qr,Qs,Qt,Qu,Qv,Qw,Qx,Qy,Qz,Ra,Rb,Rc,Rd,Re,Rf,Rg,Rh,Ri,Rj,Rk,Rl,Rm,Ya,Yb,Yc,Rn,Ro,Rp,Yd,Ye,Rq,Rs,Rt,Ru,Rv,Rw,Rx]
    refine h114.mono ?_
    rintro r s' h'
    simp only[Qa,Qb,Qc,Qd,Qe,Qf,Qg,Qh,Qi,Qj,Qk,Ql,Qm,Qn,true_and,and_true,Qo,Qp,Qq,Qr,Qs,Qt,Qu,Qv,Qw,Qx,Qy,Qz,Ra,Rb,Rc,Rd,Re,Rf,Rg,Rh,Ri,Rj,Rk,Rl,Rm,Ya,Yb,Yc,Rn,Ro,Rp,Yd,Ye,Rq,Rs,Rt,Ru,Rv,Rw,Rx]
    refine WC.loop' ?_
    simp only[UX,XK,d2,if_true,Qa,Qb,Qc,Qd,Qe,Qf,Qg,Qh,Qi,Qj,Qk,Ql,Qm,Qn,true_and,and_true,Qo,Qp,Qq,Qr,Qs,Qt,Qu,Qv,Qw,Qx,Qy,Qz,Ra,Rb,Rc,Rd,Re,Rf,Rg,Rh,Ri,Rj,Rk,Rl,Rm,Ya,Yb,Yc,Rn,Ro,Rp,Yd,Ye,Rq,Rs,Rt,Ru,Rv,Rw,Rx]
    exact h'
  refine hE.go lx (by decide) rfl ?_
  simp only[qU,jO,ln,Qa,Qb,Qc,Qd,Qe,Qf,Qg,Qh,Qi,Qj,Qk,Ql,Qm,Qn,true_and,and_true,Qo,Qp,Qq,Qr,Qs,Qt,Qu,Qv,Qw,Qx,Qy,Qz,Ra,Rb,Rc,Rd,Re,Rf,Rg,Rh,Ri,Rj,Rk,Rl,Rm,Ya,Yb,Yc,Rn,Ro,Rp,Yd,Ye,Rq,Rs,Rt,Ru,Rv,Rw,Rx]
  refine h102.mono ?_
  rintro r s' h'
  simp only[Qa,Qb,Qc,Qd,Qe,Qf,Qg,Qh,Qi,Qj,Qk,Ql,Qm,Qn,true_and,and_true,Qo,Qp,Qq,Qr,Qs,Qt,Qu,Qv,Qw,Qx,Qy,Qz,Ra,Rb,Rc,Rd,Re,Rf,Rg,Rh,Ri,Rj,Rk,Rl,Rm,Ya,Yb,Yc,Rn,Ro,Rp,Yd,Ye,Rq,Rs,Rt,Ru,Rv,Rw,Rx]
  exact h'
theorem Na{val:List Int}(h:N6 val)(l:Int):isV val l=-1∨isV val l=0∨isV val l=1:=by
 unfold isV
 have:=h.get l.natAbs
 split<;>omega
theorem lB{E:BI}(hE:Aq E){ow:Ow}{s:AE}{p:Nat}{x:Sf}{v:Sv}(h:Av ow s p x v)(h3:N6 v.value){n sb:Nat}(hn:n<100000000)(hval:v.value.length=n+1)(hb:Ap s sb (AR p)){a b:Int}(ha:VL n a)(hb':VL n b):
  WF E 76 [iv a,iv b,.ptr (some (sb,0))] (fun r s'=>r=iv (isV v.value b - isV v.value a)∧s=s') s:=by
 have l1:=hb.load Ft
 simp only[AR]at l1
 have eqp:E8 (.ptr (some (p,0))) (.ptr (some (p,0)))=true:=by simp[E8]
 have ha2:=ha.2
 have hb2:=hb'.2
 have k1:=Na h3 a
 have k2:=Na h3 b
 have e3:=CV Try.prog 3 (isV v.value b) (isV v.value a) ⟨by omega,by omega⟩
 refine hE.go ly (by decide) rfl ?_
 simp only[qV,jP,jQ,l1,Qa,Qb,Qc,Qd,Qe,Qf,Qg,Qh,Qi,Qj,Qk,Ql,Qm,Qn,true_and,and_true,Qo,Qp,Qq,Qr,Qs,Qt,Qu,Qv,Qw,Qx,Qy,Qz,Ra,Rb,Rc,Rd,Re,Rf,Rg,Rh,Ri,Rj,Rk,Rl,Rm,Ya,Yb,Yc,Rn,Ro,Rp,Yd,Ye,Rq,Rs,Rt,Ru,Rv,Rw,Rx]
 refine(KS hE h h3 (l:=b) (by omega) (by omega)).mono ?_
 rintro _ _ ⟨rfl,rfl⟩
 simp only[BZ,Az,l1,eqp,Qa,Qb,Qc,Qd,Qe,Qf,Qg,Qh,Qi,Qj,Qk,Ql,Qm,Qn,true_and,and_true,Qo,Qp,Qq,Qr,Qs,Qt,Qu,Qv,Qw,Qx,Qy,Qz,Ra,Rb,Rc,Rd,Re,Rf,Rg,Rh,Ri,Rj,Rk,Rl,Rm,Ya,Yb,Yc,Rn,Ro,Rp,Yd,Ye,Rq,Rs,Rt,Ru,Rv,Rw,Rx]
 refine(KS hE h h3 (l:=a) (by omega) (by omega)).mono ?_
 rintro _ _ ⟨rfl,rfl⟩
 simp only[e3,Qa,Qb,Qc,Qd,Qe,Qf,Qg,Qh,Qi,Qj,Qk,Ql,Qm,Qn,true_and,and_true,Qo,Qp,Qq,Qr,Qs,Qt,Qu,Qv,Qw,Qx,Qy,Qz,Ra,Rb,Rc,Rd,Re,Rf,Rg,Rh,Ri,Rj,Rk,Rl,Rm,Ya,Yb,Yc,Rn,Ro,Rp,Yd,Ye,Rq,Rs,Rt,Ru,Rv,Rw,Rx]
theorem kT     {E : BI}  (hE : Aq   E) {ow : Ow} {s : AE}  {p : Nat} {x : Sf} {v : Sv} (h : Av  ow s p x v) {n sb : Nat} (hn : n < 100000000) (hval : v.value.length = n + 1) (hb : Ap   s sb (AR   p)) (q : Int) :
    WF E 73 [iv q,.ptr (some (sb,0))] (fun r s'=>r=.bool (!decide (VL n q))∧s=s') s:=by
  have l1:=hb.load Ft
  simp only[AR]at l1
  have e1:=Fe Try.prog (n:Int) ⟨by omega,by omega⟩
  refine hE.go lq (by decide) rfl ?_
  by_cases h0:q=0
  · have hd:decide (VL n q)=false:=decide_eq_false fun k=>k.1 h0
    simp only[pX,Ze,Zf,decide_eq_true h0,hd,Qa,Qb,Qc,Qd,Qe,Qf,Qg,Qh,Qi,Qj,Qk,Ql,Qm,Qn,true_and,and_true,Qo,Qp,Qq,Qr,Qs,Qt,Qu,Qv,Qw,Qx,Qy,Qz,Ra,Rb,Rc,Rd,Re,Rf,Rg,Rh,Ri,Rj,Rk,Rl,Rm,Ya,Yb,Yc,Rn,Ro,Rp,Yd,Ye,Rq,Rs,Rt,Ru,Rv,Rw,Rx]
  · simp only[pX,Ze,Zf,decide_eq_false h0,l1,Qa,Qb,Qc,Qd,Qe,Qf,Qg,Qh,Qi,Qj,Qk,Ql,Qm,Qn,true_and,and_true,Qo,Qp,Qq,Qr,Qs,Qt,Qu,Qv,Qw,Qx,Qy,Qz,Ra,Rb,Rc,Rd,Re,Rf,Rg,Rh,Ri,Rj,Rk,Rl,Rm,Ya,Yb,Yc,Rn,Ro,Rp,Yd,Ye,Rq,Rs,Rt,Ru,Rv,Rw,Rx]
    refine(VJ hE h hn hval).mono ?_
    rintro _ _ ⟨rfl,rfl⟩
    by_cases h1:q < -(n:Int)
    · have hd:decide (VL n q)=false:=decide_eq_false fun k=>by have:=k.2;omega
      simp only[e1,decide_eq_true h1,hd,Qa,Qb,Qc,Qd,Qe,Qf,Qg,Qh,Qi,Qj,Qk,Ql,Qm,Qn,true_and,and_true,Qo,Qp,Qq,Qr,Qs,Qt,Qu,Qv,Qw,Qx,Qy,Qz,Ra,Rb,Rc,Rd,Re,Rf,Rg,Rh,Ri,Rj,Rk,Rl,Rm,Ya,Yb,Yc,Rn,Ro,Rp,Yd,Ye,Rq,Rs,Rt,Ru,Rv,Rw,Rx]
    · simp only[e1,decide_eq_false h1,l1,Qa,Qb,Qc,Qd,Qe,Qf,Qg,Qh,Qi,Qj,Qk,Ql,Qm,Qn,true_and,and_true,Qo,Qp,Qq,Qr,Qs,Qt,Qu,Qv,Qw,Qx,Qy,Qz,Ra,Rb,Rc,Rd,Re,Rf,Rg,Rh,Ri,Rj,Rk,Rl,Rm,Ya,Yb,Yc,Rn,Ro,Rp,Yd,Ye,Rq,Rs,Rt,Ru,Rv,Rw,Rx]
      refine(VJ hE h hn hval).mono ?_
      rintro _ _ ⟨rfl,rfl⟩
      by_cases h2:(n:Int)<q
      · have hd:decide (VL n q)=false:=decide_eq_false fun k=>by have:=k.2;omega
        simp only[decide_eq_true h2,hd,Qa,Qb,Qc,Qd,Qe,Qf,Qg,Qh,Qi,Qj,Qk,Ql,Qm,Qn,true_and,and_true,Qo,Qp,Qq,Qr,Qs,Qt,Qu,Qv,Qw,Qx,Qy,Qz,Ra,Rb,Rc,Rd,Re,Rf,Rg,Rh,Ri,Rj,Rk,Rl,Rm,Ya,Yb,Yc,Rn,Ro,Rp,Yd,Ye,Rq,Rs,Rt,Ru,Rv,Rw,Rx]
      · have hd:decide (VL n q)=true:=decide_eq_true ⟨h0,by omega⟩
        simp only[decide_eq_false h2,hd,Qa,Qb,Qc,Qd,Qe,Qf,Qg,Qh,Qi,Qj,Qk,Ql,Qm,Qn,true_and,and_true,Qo,Qp,Qq,Qr,Qs,Qt,Qu,Qv,Qw,Qx,Qy,Qz,Ra,Rb,Rc,Rd,Re,Rf,Rg,Rh,Ri,Rj,Rk,Rl,Rm,Ya,Yb,Yc,Rn,Ro,Rp,Yd,Ye,Rq,Rs,Rt,Ru,Rv,Rw,Rx]
def CN(v:Sv)(L:List Int):List Int:=GI (fun a b=>isV v.value b - isV v.value a) (Ep L)
def GE(v:Sv)(c:Nat)(O:List Int):Sv:=if 1<O.length then PJ (Hz v c (O,false,false)) c (O.getD 0 0) (O.getD 1 0)else Hz v c (O,false,false)
def N7(v:Sv)(c:Nat)(O:List Int):Sv:=
 if isV v.value (O.getD 0 0)<0 then EZ (GE v c O)
 else if isV v.value (O.getD 0 0)=0∧(O.length=1∨isV v.value (O.getD 1 0)<0)then Bh (GE v c O) (O.getD 0 0) (some c)
 else GE v c O
inductive Mv (b:Sv) (L:List Int):Sv→Prop
 | none (h:Kc (Ep L)=true∨b.broken=true):Mv b L b
 | nil (h:Kc (Ep L)=false) (hb:b.broken=false) (he:Ep L=[]):Mv b L (EZ b)
 | put {c:Nat} (h:Kc (Ep L)=false) (hb:b.broken=false) (he:Ep L≠[]) (hc:b.cl c=none):Mv b L (N7 b c (CN b L))
theorem JO(v:Sv)(c:Nat)(O:List Int):∃ws,GE v c O={ v with watches:=ws,cl:=Aj v.cl c (O,false,false) }∧ws.length=v.watches.length:=by
 unfold GE
 split
 ·exact⟨_,rfl,by rw[D9,D9];rfl⟩
 ·exact⟨v.watches,rfl,rfl⟩
theorem ck      {E : BI}  (hE : Aq   E) {ow : Ow} {s : AE}  {p : Nat} {x : Sf} {v : Sv} (h : Av  ow s p x v) {n : Nat} (hz : fT  n v) (h3 : N6   v.value) (hT : v.trace.length ≤ 1000000) (hW : C9  v.watches ≤ 90000000) {c sb : Nat} {w : AV} {O : List Int} (hc : v.cl c = none) (hO : BR    n O) (hne : O ≠ []) (hb : Ap   s sb (AR   p)) (hsb : ow sb = (p, 21, 0) ∧ sb < s.next) (hcl : Av  ow s p x (Hz    v c (O, false, false))) (hw : Bb  ow (p, 15, c) s w (A3  O)) {K : A9   → Prop} {x1 x3 x5 x7 x8 x9 x10 x11 x12 : AV}
    (hK:∀s' ow' x' V,Av ow' s' p x' (N7 v c O)→AM (Bs p) ow s ow' s'→U7 V 3=iv 0→K ⟨.ret,V,[],s'⟩):
    Qa E none (.seq (.seq (.ops LU) (.cond (.var 10) (.ops Sr) .skip)) (.seq (.block 1 (.seq (.ops LV) (.cond (.var 11) (.ops LW) (.seq (.ops OS) (.cond (.var 12) (.ops LX) .skip))))) (.seq (.ops GN) .ret))) K [AV.ptr (some (p,0)),x1,.ptr (some (sb,0)),x3,w,x5,AR c,x7,x8,x9,x10,x11,x12] [] s:=by
  have hpos:0<O.length:=List.length_pos_iff.2 hne
  have hsm:=hz.small
  have hOl:=hO.2
  have ln:∀s,As Try.prog s 23 w=some (iv (O.length:Int)):=fun s=>by
    have:=hw.len Try.underlying23 s
    rw[C7]at this
    exact this
  have hV0:=hO.get hpos
  have hg0:=AT (d:=(0:Int)) hpos
  have i0:AD Try.prog 23 w (iv 0)=some (BE w 0):=hw.addr Try.underlying23 Br (k:=0) (by rw[C7];exact hpos)
  have d0:decide ((O.length:Int)=0)=false:=decide_eq_false (by omega)
  have rest : ∀ (s1 : AE)  (ow1 : Ow) (y10 : AV), Av  ow1 s1 p x (GE   v c O) → AM   (KU    p) ow s ow1 s1 →
      Qa E none (.seq (.block 1 (.seq (.ops LV) (.cond (.var 11) (.ops LW) (.seq (.ops OS) (.cond (.var 12) (.ops LX) .skip))))) (.seq (.ops GN) .ret)) K [AV.ptr (some (p,0)),x1,.ptr (some (sb,0)),x3,w,x5,AR c,x7,x8,x9,y10,x11,x12] [] s1:=by
    intro s1 ow1 y10 h1 st1
    obtain⟨ws,e,hws⟩:=JO v c O
    have hval:(GE v c O).value=v.value:=by rw[e]
    have h3':N6 (GE v c O).value:=by rw[hval];exact h3
    have hsz':fT n (GE v c O):=by rw[e];exact⟨hz.small,hws.trans hz.w,hz.value,hz.level,hz.why,hz.heat,hz.phase,hz.trail,hz.limits⟩
    have hT':(GE v c O).trace.length≤1000000:=by rw[e];exact hT
    have hw1:Bb ow1 (p,15,c) s1 w (A3 O):=hw.step st1 (fun q=>by rcases q.2 with q | q<;>cases q)
    have hb1:Ap s1 sb (AR p):=hb.keep (st1.heap sb hsb.2 (by rw[hsb.1];exact fun q=>by rcases q.2 with q | q<;>cases q))
    have l1:=hb1.load Ft
    simp only[AR]at l1
    have l0:=hw1.get (t:=3) Do (k:=0) (A6 hg0)
    have hvl:=hz.value
    have hV02:=hV0.2
    simp only[LV,ln,d0,l1,i0,l0,AR,Qa,Qb,Qc,Qd,Qe,Qf,Qg,Qh,Qi,Qj,Qk,Ql,Qm,Qn,true_and,and_true,Qo,Qp,Qq,Qr,Qs,Qt,Qu,Qv,Qw,Qx,Qy,Qz,Ra,Rb,Rc,Rd,Re,Rf,Rg,Rh,Ri,Rj,Rk,Rl,Rm,Ya,Yb,Yc,Rn,Ro,Rp,Yd,Ye,Rq,Rs,Rt,Ru,Rv,Rw,Rx]
    refine(KS hE h1 h3' (l:=O.getD 0 0) (by rw[hval];omega) (by rw[hval];omega)).mono ?_
    rintro _ _ ⟨rfl,rfl⟩
    rw[hval]
    by_cases hneg:isV v.value (O.getD 0 0)<0
    · simp only[decide_eq_true hneg,LW,l1,Qa,Qb,Qc,Qd,Qe,Qf,Qg,Qh,Qi,Qj,Qk,Ql,Qm,Qn,true_and,and_true,Qo,Qp,Qq,Qr,Qs,Qt,Qu,Qv,Qw,Qx,Qy,Qz,Ra,Rb,Rc,Rd,Re,Rf,Rg,Rh,Ri,Rj,Rk,Rl,Rm,Ya,Yb,Yc,Rn,Ro,Rp,Yd,Ye,Rq,Rs,Rt,Ru,Rv,Rw,Rx]
      refine(Od hE h1 hT').mono ?_
      rintro _ s2 ⟨ow2,x2,g1,g2,_⟩
      simp only[GN,Qa,Qb,Qc,Qd,Qe,Qf,Qg,Qh,Qi,Qj,Qk,Ql,Qm,Qn,true_and,and_true,Qo,Qp,Qq,Qr,Qs,Qt,Qu,Qv,Qw,Qx,Qy,Qz,Ra,Rb,Rc,Rd,Re,Rf,Rg,Rh,Ri,Rj,Rk,Rl,Rm,Ya,Yb,Yc,Rn,Ro,Rp,Yd,Ye,Rq,Rs,Rt,Ru,Rv,Rw,Rx]
      refine hK s2 ow2 x2 _ ?_ (st1.w.trans g2.b) rfl
      unfold N7
      rw[if_pos hneg]
      exact g1
    · simp only[decide_eq_false hneg,OS,l1,i0,l0,Qa,Qb,Qc,Qd,Qe,Qf,Qg,Qh,Qi,Qj,Qk,Ql,Qm,Qn,true_and,and_true,Qo,Qp,Qq,Qr,Qs,Qt,Qu,Qv,Qw,Qx,Qy,Qz,Ra,Rb,Rc,Rd,Re,Rf,Rg,Rh,Ri,Rj,Rk,Rl,Rm,Ya,Yb,Yc,Rn,Ro,Rp,Yd,Ye,Rq,Rs,Rt,Ru,Rv,Rw,Rx]
      refine(KS hE h1 h3' (l:=O.getD 0 0) (by rw[hval];omega) (by rw[hval];omega)).mono ?_
      rintro _ _ ⟨rfl,rfl⟩
      rw[hval]
      have asg:isV v.value (O.getD 0 0)=0∧(O.length=1∨isV v.value (O.getD 1 0)<0)→WF E 71 [AV.ptr (some (p,0)),iv (O.getD 0 0),.ptr (some (c,0))] (fun _ s'=>∃ow' x',Av ow' s' p x' (N7 v c O)∧AM (Bs p) ow s ow' s') s1:=by
        intro hc2
        refine(F7 hE h1 hsz' hV0 (some c)).mono ?_
        rintro _ s2 ⟨ow2,x2,g1,g2,_⟩
        refine⟨ow2,x2,?_,st1.w.trans g2.b⟩
        unfold N7
        rw[if_neg hneg,if_pos hc2]
        exact g1
      have non:¬ (isV v.value (O.getD 0 0)=0∧(O.length=1∨isV v.value (O.getD 1 0)<0))→Av ow1 s1 p x (N7 v c O):=by
        intro hc2
        unfold N7
        rw[if_neg hneg,if_neg hc2]
        exact h1
      by_cases hz0:isV v.value (O.getD 0 0)=0
      · have e1:decide ((O.length:Int)=1)=decide (O.length=1):=by
          by_cases q:O.length=1
          · rw[decide_eq_true q,decide_eq_true (by omega)]
          · rw[decide_eq_false q,decide_eq_false (by omega)]
        by_cases hl1:O.length=1
        · simp only[decide_eq_true hz0,ln,e1,decide_eq_true hl1,LX,l1,i0,l0,Qa,Qb,Qc,Qd,Qe,Qf,Qg,Qh,Qi,Qj,Qk,Ql,Qm,Qn,true_and,and_true,Qo,Qp,Qq,Qr,Qs,Qt,Qu,Qv,Qw,Qx,Qy,Qz,Ra,Rb,Rc,Rd,Re,Rf,Rg,Rh,Ri,Rj,Rk,Rl,Rm,Ya,Yb,Yc,Rn,Ro,Rp,Yd,Ye,Rq,Rs,Rt,Ru,Rv,Rw,Rx]
          refine(asg ⟨hz0,.inl hl1⟩).mono ?_
          rintro _ s2 ⟨ow2,x2,g1,g2⟩
          simp only[GN,Qa,Qb,Qc,Qd,Qe,Qf,Qg,Qh,Qi,Qj,Qk,Ql,Qm,Qn,true_and,and_true,Qo,Qp,Qq,Qr,Qs,Qt,Qu,Qv,Qw,Qx,Qy,Qz,Ra,Rb,Rc,Rd,Re,Rf,Rg,Rh,Ri,Rj,Rk,Rl,Rm,Ya,Yb,Yc,Rn,Ro,Rp,Yd,Ye,Rq,Rs,Rt,Ru,Rv,Rw,Rx]
          exact hK s2 ow2 x2 _ g1 g2 rfl
        · have hV1 := hO.get (k := 1) (by omega)
          have hV12:=hV1.2
          have hg1:=AT (d:=(0:Int)) (show 1<O.length by omega)
          have i1:AD Try.prog 23 w (iv 1)=some (BE w 1):=hw.addr Try.underlying23 Br (k:=1) (by rw[C7];omega)
          have m1:=hw1.get (t:=3) Do (k:=1) (A6 hg1)
          simp only[decide_eq_true hz0,ln,e1,decide_eq_false hl1,l1,i1,m1,Qa,Qb,Qc,Qd,Qe,Qf,Qg,Qh,Qi,Qj,Qk,Ql,Qm,Qn,true_and,and_true,Qo,Qp,Qq,Qr,Qs,Qt,Qu,Qv,Qw,Qx,Qy,Qz,Ra,Rb,Rc,Rd,Re,Rf,Rg,Rh,Ri,Rj,Rk,Rl,Rm,Ya,Yb,Yc,Rn,Ro,Rp,Yd,Ye,Rq,Rs,Rt,Ru,Rv,Rw,Rx]
          refine(KS hE h1 h3' (l:=O.getD 1 0) (by rw[hval];omega) (by rw[hval];omega)).mono ?_
          rintro _ _ ⟨rfl,rfl⟩
          rw[hval]
          by_cases hn1:isV v.value (O.getD 1 0)<0
          · simp only[decide_eq_true hn1,LX,l1,i0,l0,Qa,Qb,Qc,Qd,Qe,Qf,Qg,Qh,Qi,Qj,Qk,Ql,Qm,Qn,true_and,and_true,Qo,Qp,Qq,Qr,Qs,Qt,Qu,Qv,Qw,Qx,Qy,Qz,Ra,Rb,Rc,Rd,Re,Rf,Rg,Rh,Ri,Rj,Rk,Rl,Rm,Ya,Yb,Yc,Rn,Ro,Rp,Yd,Ye,Rq,Rs,Rt,Ru,Rv,Rw,Rx]
            refine(asg ⟨hz0,.inr hn1⟩).mono ?_
            rintro _ s2 ⟨ow2,x2,g1,g2⟩
            simp only[GN,Qa,Qb,Qc,Qd,Qe,Qf,Qg,Qh,Qi,Qj,Qk,Ql,Qm,Qn,true_and,and_true,Qo,Qp,Qq,Qr,Qs,Qt,Qu,Qv,Qw,Qx,Qy,Qz,Ra,Rb,Rc,Rd,Re,Rf,Rg,Rh,Ri,Rj,Rk,Rl,Rm,Ya,Yb,Yc,Rn,Ro,Rp,Yd,Ye,Rq,Rs,Rt,Ru,Rv,Rw,Rx]
            exact hK s2 ow2 x2 _ g1 g2 rfl
          · simp only[decide_eq_false hn1,GN,Qa,Qb,Qc,Qd,Qe,Qf,Qg,Qh,Qi,Qj,Qk,Ql,Qm,Qn,true_and,and_true,Qo,Qp,Qq,Qr,Qs,Qt,Qu,Qv,Qw,Qx,Qy,Qz,Ra,Rb,Rc,Rd,Re,Rf,Rg,Rh,Ri,Rj,Rk,Rl,Rm,Ya,Yb,Yc,Rn,Ro,Rp,Yd,Ye,Rq,Rs,Rt,Ru,Rv,Rw,Rx]
            exact hK s1 ow1 x _ (non (by rintro⟨_,q | q⟩;exact hl1 q;exact hn1 q)) st1.w rfl
      · simp only[decide_eq_false hz0,GN,Qa,Qb,Qc,Qd,Qe,Qf,Qg,Qh,Qi,Qj,Qk,Ql,Qm,Qn,true_and,and_true,Qo,Qp,Qq,Qr,Qs,Qt,Qu,Qv,Qw,Qx,Qy,Qz,Ra,Rb,Rc,Rd,Re,Rf,Rg,Rh,Ri,Rj,Rk,Rl,Rm,Ya,Yb,Yc,Rn,Ro,Rp,Yd,Ye,Rq,Rs,Rt,Ru,Rv,Rw,Rx]
        exact hK s1 ow1 x _ (non (fun q=>hz0 q.1)) st1.w rfl
  have l1:=hb.load Ft
  simp only[AR]at l1
  by_cases h2:1<O.length
  · have d2 : decide ((1 : Int) < (O.length : Int)) = true := decide_eq_true (by omega)
    have e:GE v c O=PJ (Hz v c (O,false,false)) c (O.getD 0 0) (O.getD 1 0):=by unfold GE;rw[if_pos h2]
    unfold Qa
    simp only[LU,ln,d2,Sr,l1,AR,Qa,Qb,Qc,Qd,Qe,Qf,Qg,Qh,Qi,Qj,Qk,Ql,Qm,Qn,true_and,and_true,Qo,Qp,Qq,Qr,Qs,Qt,Qu,Qv,Qw,Qx,Qy,Qz,Ra,Rb,Rc,Rd,Re,Rf,Rg,Rh,Ri,Rj,Rk,Rl,Rm,Ya,Yb,Yc,Rn,Ro,Rp,Yd,Ye,Rq,Rs,Rt,Ru,Rv,Rw,Rx]
    refine(RV hE hcl (n:=n) hsm hz.w hW (BJ _ _ _) hO h2).mono ?_
    rintro _ s1 ⟨ow1,g1,g2⟩
    rw[← e]at g1
    have:=rest s1 ow1 (.bool true) g1 g2
    simp only[AR,Qa,Qb,Qc,Qd,Qe,Qf,Qg,Qh,Qi,Qj,Qk,Ql,Qm,Qn,true_and,and_true,Qo,Qp,Qq,Qr,Qs,Qt,Qu,Qv,Qw,Qx,Qy,Qz,Ra,Rb,Rc,Rd,Re,Rf,Rg,Rh,Ri,Rj,Rk,Rl,Rm,Ya,Yb,Yc,Rn,Ro,Rp,Yd,Ye,Rq,Rs,Rt,Ru,Rv,Rw,Rx]at this ⊢
    exact this
  · have d2 : decide ((1 : Int) < (O.length : Int)) = false := decide_eq_false (by omega)
    have e:GE v c O=Hz v c (O,false,false):=by unfold GE;rw[if_neg h2]
    rw[← e]at hcl
    unfold Qa
    simp only[LU,ln,d2,Qa,Qb,Qc,Qd,Qe,Qf,Qg,Qh,Qi,Qj,Qk,Ql,Qm,Qn,true_and,and_true,Qo,Qp,Qq,Qr,Qs,Qt,Qu,Qv,Qw,Qx,Qy,Qz,Ra,Rb,Rc,Rd,Re,Rf,Rg,Rh,Ri,Rj,Rk,Rl,Rm,Ya,Yb,Yc,Rn,Ro,Rp,Yd,Ye,Rq,Rs,Rt,Ru,Rv,Rw,Rx]
    have:=rest s ow (.bool false) hcl (AM.refl _ _ _)
    simp only[AR,Qa,Qb,Qc,Qd,Qe,Qf,Qg,Qh,Qi,Qj,Qk,Ql,Qm,Qn,true_and,and_true,Qo,Qp,Qq,Qr,Qs,Qt,Qu,Qv,Qw,Qx,Qy,Qz,Ra,Rb,Rc,Rd,Re,Rf,Rg,Rh,Ri,Rj,Rk,Rl,Rm,Ya,Yb,Yc,Rn,Ro,Rp,Yd,Ye,Rq,Rs,Rt,Ru,Rv,Rw,Rx]at this ⊢
    exact this
theorem kM     {E : BI}  (hE : Aq   E) {ow : Ow} {s : AE}  {p : Nat} {x : Sf} {v : Sv} (h : Av  ow s p x v) {n : Nat} (hf : N0  n v) (hv3 : N6   (Ax    v 0).value) (hT : v.trace.length ≤ 1000000) (hW : C9  v.watches ≤ 90000000) {L : List Int} (hlen : L.length ≤ 12) (hL : ∀ q ∈ L, VL n q) {b : Nat} {u : AV} (hb : b ≤ s.next) (hu : AJ      b s u (A3  L)) (hus : ∀ j, slot u = some j → (ow j).1 ≠ p ∧ j < s.next) :
    WF E 36 [AR p,u] (fun r s'=>r=iv 0∧∃v' ow' x',Mv (Ax v 0) L v'∧Av ow' s' p x' v'∧AM (Bs p) ow s ow' s') s:=by
  have hptr:∀i,Made.val i .ptr=.ptr (some (i,0)):=fun _=>rfl
  have hbox:Ce 44 (AV.ptr (some (p,0)))=some (AL 44 0 [AR p],.ptr):=by simp[Ce,AR,AV.cells]
  have he:=G7 p
  have hsm:=hf.siz.small
  have hval:=hf.siz.value
  have RL:AM (fun _=>False) ow s (ext ow s.next (p,21,0)) (newObj s (AL 44 0 [AR p])):=AM.new _ ow s _ _
  have h0:=h.keep RL (fun _ q=>q.elim)
  have b0:Ap (newObj s (AL 44 0 [AR p])) s.next (AR p):=Ap.new
  have l0:=b0.load Ft
  have u0:AJ b (newObj s (AL 44 0 [AR p])) u (A3 L):=hu.old (Ao.new s _) hb
  have t0:(ext ow s.next (p,21,0)) s.next=(p,21,0):=Ej (qg _)
  have us0:∀j,slot u=some j→((ext ow s.next (p,21,0)) j).1≠p∧j<s.next:=fun j hj=>by
    obtain⟨q1,q2⟩:=hus j hj
    exact⟨by rw[Fv q2];exact q1,q2⟩
  generalize hs0:newObj s (AL 44 0 [AR p])=s0 at *
  have n0:s0.next=s.next+1:=by rw[← hs0];rfl
  generalize ext ow s.next (p,21,0)=ow0 at *
  have hany:(BP (fun q=>!decide (VL n q)) L 0).isSome=false:=by
    rw[Bool.eq_false_iff,Ne,Ea]
    rintro⟨q,hq,hv⟩
    have:=hL q hq
    simp[this]at hv
  simp only[AR]at hbox l0 he
  refine hE.go lK (by decide) rfl ?_
  have hs0':newObj s (AL 44 0 [.ptr (some (p,0))])=s0:=hs0
  simp only[pE,gM,AR,hbox,hs0',hptr,gN,l0,he,gO,rn,rf,Qa,Qb,Qc,Qd,Qe,Qf,Qg,Qh,Qi,Qj,Qk,Ql,Qm,Qn,true_and,and_true,Qo,Qp,Qq,Qr,Qs,Qt,Qu,Qv,Qw,Qx,Qy,Qz,Ra,Rb,Rc,Rd,Re,Rf,Rg,Rh,Ri,Rj,Rk,Rl,Rm,Ya,Yb,Yc,Rn,Ro,Rp,Yd,Ye,Rq,Rs,Rt,Ru,Rv,Rw,Rx]
  refine(Ix hE (f:=fun q=>!decide (VL n q)) (g:=73) (cp:=[.ptr (some (s.next,0))]) (fun q hq=>kT hE h0 hsm hval b0 q) (by omega) u0).mono ?_
  rintro _ _ ⟨rfl,rfl⟩
  simp only[hany,gP,l0,Qa,Qb,Qc,Qd,Qe,Qf,Qg,Qh,Qi,Qj,Qk,Ql,Qm,Qn,true_and,and_true,Qo,Qp,Qq,Qr,Qs,Qt,Qu,Qv,Qw,Qx,Qy,Qz,Ra,Rb,Rc,Rd,Re,Rf,Rg,Rh,Ri,Rj,Rk,Rl,Rm,Ya,Yb,Yc,Rn,Ro,Rp,Yd,Ye,Rq,Rs,Rt,Ru,Rv,Rw,Rx]
  have hback:WF E 63 [.ptr (some (p,0)),.int .i64 0] (fun _ s'=>∃x',Av ow0 s' p x' (Ax v 0)∧AM (B6 p) ow0 s0 ow0 s'∧x'.w=x.w) s0:=F8 hE h0 hf (level:=0) (by decide)
  refine hback.mono ?_
  rintro _ s1 ⟨x1,h1,st1,_⟩
  obtain⟨ph,va,wh,tr,li,hd,ebk,z1,z2,z3,z4,z5⟩:=Cv v 0
  have hz1:=hf.siz.back 0
  have hT1:(Ax v 0).trace.length≤1000000:=by rw[ebk];exact hT
  have hW1:C9 (Ax v 0).watches≤90000000:=by rw[ebk];exact hW
  generalize Ax v 0=vb at *
  have hn1:=st1.next
  have b1:Ap s1 s.next (AR p):=b0.keep (st1.heap s.next (by omega) (by rw[t0];exact fun q=>absurd q.2.2.2 (by show ¬ 21<16;omega)))
  have l1:=b1.load Ft
  simp only[AR]at l1
  have u1:AJ b s1 u (A3 L):=u0.keep fun j hj=>st1.heap j (by have:=(us0 j hj).2;omega) fun q=>(us0 j hj).1 q.1
  have stA:AM (Bs p) ow s ow0 s1:=(RL.mono fun _ q=>q.elim).trans st1.b
  simp only[gQ,Qa,Qb,Qc,Qd,Qe,Qf,Qg,Qh,Qi,Qj,Qk,Ql,Qm,Qn,true_and,and_true,Qo,Qp,Qq,Qr,Qs,Qt,Qu,Qv,Qw,Qx,Qy,Qz,Ra,Rb,Rc,Rd,Re,Rf,Rg,Rh,Ri,Rj,Rk,Rl,Rm,Ya,Yb,Yc,Rn,Ro,Rp,Yd,Ye,Rq,Rs,Rt,Ru,Rv,Rw,Rx]
  refine(cv hE hlen (fun q hq=>⟨by have:=(hL q hq).2;omega,by have:=(hL q hq).2;omega⟩) (by omega) u1).mono ?_
  rintro _ s2 ⟨w,rfl,hw,o2⟩
  have h2:=h1.keep (AM.old (m:=fun _=>False) o2 (p,15,s2.next)) (fun _ q=>q.elim)
  have b2:Ap s2 s.next (AR p):=b1.keep (o2.2 _ (by omega))
  have l2:=b2.load Ft
  have ldb:=h2.ld_broken
  simp only[AR]at l2
  have hx:∀ (a b:AV),(AV.tuple [a,b])=.tuple [a,b]:=fun _ _=>rfl
  cases ht:Kc (Ep L)with
  | true =>
    simp only[Uc,Yy,Qa,Qb,Qc,Qd,Qe,Qf,Qg,Qh,Qi,Qj,Qk,Ql,Qm,Qn,true_and,and_true,Qo,Qp,Qq,Qr,Qs,Qt,Qu,Qv,Qw,Qx,Qy,Qz,Ra,Rb,Rc,Rd,Re,Rf,Rg,Rh,Ri,Rj,Rk,Rl,Rm,Ya,Yb,Yc,Rn,Ro,Rp,Yd,Ye,Rq,Rs,Rt,Ru,Rv,Rw,Rx]
    exact⟨vb,_,x1,.none (.inl ht),h2,stA.trans (AM.old o2 _)⟩
  | false =>
    cases hbr:vb.broken with
    | true =>
      rw[hbr]at ldb
      simp only[Uc,Yy,l2,AH,He,ldb,Qa,Qb,Qc,Qd,Qe,Qf,Qg,Qh,Qi,Qj,Qk,Ql,Qm,Qn,true_and,and_true,Qo,Qp,Qq,Qr,Qs,Qt,Qu,Qv,Qw,Qx,Qy,Qz,Ra,Rb,Rc,Rd,Re,Rf,Rg,Rh,Ri,Rj,Rk,Rl,Rm,Ya,Yb,Yc,Rn,Ro,Rp,Yd,Ye,Rq,Rs,Rt,Ru,Rv,Rw,Rx]
      exact⟨vb,_,x1,.none (.inr hbr),h2,stA.trans (AM.old o2 _)⟩
    | false =>
      rw[hbr]at ldb
      simp only[Uc,l2,AH,He,ldb,gR,rn,rf,Qa,Qb,Qc,Qd,Qe,Qf,Qg,Qh,Qi,Qj,Qk,Ql,Qm,Qn,true_and,and_true,Qo,Qp,Qq,Qr,Qs,Qt,Qu,Qv,Qw,Qx,Qy,Qz,Ra,Rb,Rc,Rd,Re,Rf,Rg,Rh,Ri,Rj,Rk,Rl,Rm,Ya,Yb,Yc,Rn,Ro,Rp,Yd,Ye,Rq,Rs,Rt,Ru,Rv,Rw,Rx]
      have hVO:∀q∈Ep L,VL n q:=fun q hq=>hL q (Ni hq)
      have hOl:=MT L
      refine(cJ hE hw (by omega) (P:=VL n) (c:=fun a b=>isV vb.value b - isV vb.value a) (g:=76) (cp:=[.ptr (some (s.next,0))]) hVO ?_).mono ?_
      · intro t a b f1 f2 pa pb
        have ot:Ao s1.next s2 t:=⟨by omega,fun y hy=>f1 y fun e=>by
          rcases hw with⟨a,r1,r2⟩ | ⟨i,G,r1,r2,r3,r4⟩
          · rw[r1]at e;cases a<;>cases e
          · rw[r1]at e;injection e with e;omega⟩
        have ht':=h1.keep (AM.old (m:=fun _=>False) (o2.trans ot) (0,0,0)) (fun _ q=>q.elim)
        exact lB hE ht' hv3 hsm hz1.value (b2.keep (ot.2 _ (by omega))) pa pb
      rintro _ s3 ⟨hw3,n3,f3⟩
      have o3:Ao s1.next s2 s3:=⟨by omega,fun y hy=>f3 y fun e=>by
          rcases hw with⟨a,r1,r2⟩ | ⟨i,G,r1,r2,r3,r4⟩
          · rw[r1]at e;cases a<;>cases e
          · rw[r1]at e;injection e with e;omega⟩
      have o13:Ao s1.next s1 s3:=o2.trans o3
      have hO:GI (fun a b=>isV vb.value b - isV vb.value a) (Ep L)=CN vb L:=rfl
      rw[hO]at hw3
      have hbl:=R6 hw3.slice.isCell.2
      have hbx:=W8 hw3.slice.isCell.2 false false
      generalize hs4:newObj s3 (AL 104 0 [w,.bool false,.bool false])=s4
      have n4:s4.next=s3.next+1:=by rw[← hs4];rfl
      have o4:Ao s3.next s3 s4:=by rw[← hs4];exact Ao.new s3 _
      have o14:Ao s1.next s1 s4:=o13.trans (o4.mono (by have:=o13.1;omega))
      have hbn:DT s4 s3.next [w,.bool false,.bool false]:=by rw[← hs4];exact DT.new
      have hlO:(CN vb L).length=(Ep L).length:=Ns _ _
      have b4:Ap s4 s.next (AR p):=b1.keep (o14.2 _ (by omega))
      have l4:=b4.load Ft
      simp only[AR]at l4
      have st4:AM (fun _=>False) ow0 s1 (fun j=>if j<s1.next then ow0 j else if j=s3.next then (p,14,s3.next)else (p,15,s3.next)) s4:=⟨o14.1,fun j hj _=>if_pos hj,fun j hj _=>o14.2 j hj⟩
      have tc:(fun j=>if j<s1.next then ow0 j else if j=s3.next then (p,14,s3.next)else (p,15,s3.next):Ow) s3.next=(p,14,s3.next):=by
        show(if _ then _ else if _ then _ else _:Bt)=_
        rw[if_neg (by have:=o13.1;omega),if_pos rfl]
      have tr':∀i,s1.next≤i→i<s3.next→(fun j=>if j<s1.next then ow0 j else if j=s3.next then (p,14,s3.next)else (p,15,s3.next):Ow) i=(p,15,s3.next):=fun i r1 r2=>by
        show(if _ then _ else if _ then _ else _:Bt)=_
        rw[if_neg (by omega),if_neg (by omega)]
      have tb:(fun j=>if j<s1.next then ow0 j else if j=s3.next then (p,14,s3.next)else (p,15,s3.next):Ow) s.next=(p,21,0):=by
        show(if _ then _ else if _ then _ else _:Bt)=_
        rw[if_pos (by omega)];exact t0
      have h4:=h1.keep st4 (fun _ q=>q.elim)
      generalize (fun j=>if j<s1.next then ow0 j else if j=s3.next then (p,14,s3.next)else (p,15,s3.next):Ow)=ow4 at *
      have stB:AM (Bs p) ow s ow4 s4:=stA.trans (st4.mono fun _ q=>q.elim)
      by_cases hnil:Ep L=[]
      · have hO0 : CN     vb L = [] := by unfold CN;     rw [hnil]; rfl
        have lnw:∀s,As Try.prog s 23 w=some (iv 0):=fun s=>by
          have:=hw3.slice.len Try.underlying23 s
          rw[hO0]at this
          exact this
        have d1:decide ((1:Int)<0)=false:=rfl
        simp only[Sq,hbl,hbx,hs4,hptr,LU,lnw,d1,LV,decide_true,LW,l4,Qa,Qb,Qc,Qd,Qe,Qf,Qg,Qh,Qi,Qj,Qk,Ql,Qm,Qn,true_and,and_true,Qo,Qp,Qq,Qr,Qs,Qt,Qu,Qv,Qw,Qx,Qy,Qz,Ra,Rb,Rc,Rd,Re,Rf,Rg,Rh,Ri,Rj,Rk,Rl,Rm,Ya,Yb,Yc,Rn,Ro,Rp,Yd,Ye,Rq,Rs,Rt,Ru,Rv,Rw,Rx]
        refine(Od hE h4 hT1).mono ?_
        rintro _ s5 ⟨ow5,x5,g1,g2,_⟩
        simp only[GN,Qa,Qb,Qc,Qd,Qe,Qf,Qg,Qh,Qi,Qj,Qk,Ql,Qm,Qn,true_and,and_true,Qo,Qp,Qq,Qr,Qs,Qt,Qu,Qv,Qw,Qx,Qy,Qz,Ra,Rb,Rc,Rd,Re,Rf,Rg,Rh,Ri,Rj,Rk,Rl,Rm,Ya,Yb,Yc,Rn,Ro,Rp,Yd,Ye,Rq,Rs,Rt,Ru,Rv,Rw,Rx]
        exact⟨EZ vb,ow5,x5,.nil ht hbr hnil,g1,stB.trans g2.b⟩
      · have hOne : CN     vb L ≠ [] := fun e => hnil (List.length_eq_zero_iff.1 (by rw [← hlO, e]; rfl))
        have hOk:BR n (CN vb L):=⟨fun q hq=>hVO q ((Wh _ _ _).1 hq),by omega⟩
        have hfresh:vb.cl s3.next=none:=by
          cases hcc:vb.cl s3.next with
          | none=>rfl
          | some l =>
            obtain⟨_,_,_,q,_⟩:=h1.cls _ l hcc
            have:=o13.1
            omega
        have hw4:C2 s1.next s4 w (CN vb L):=hw3.keep (by omega) fun j r1 r2=>o4.2 j r2
        have hwb:Bb ow4 (p,15,s3.next) s4 w (A3 (CN vb L)):=hw4.buf hOne fun i _ _ e=>by
          rcases hw3 with⟨a,r1,r2⟩ | ⟨j,G,r1,r2,r3,r4⟩
          · exact absurd r2 hOne
          · rw[r1]at e
            injection e with e
            subst e
            exact tr' j r2 r3
        have hcl4:Av ow4 s4 p x1 (Hz vb s3.next (CN vb L,false,false)):=h4.clause hfresh ⟨w,hbn,tc,by omega,hwb⟩
        have hK:=ck hE h4 hz1 hv3 hT1 hW1 hfresh hOk hOne b4 ⟨tb,by have:=o14.1;omega⟩ hcl4 hwb (K:=Ends Try.prog pE.results (fun r s'=>r=iv 0∧∃v' ow' x',Mv vb L v'∧Av ow' s' p x' v'∧AM (Bs p) ow s ow' s')) (x1:=u) (x3:=iv 0) (x5:=.bool true) (x7:=.bool false) (x8:=.bool false) (x9:=.bool false) (x10:=Ar) (x11:=Ar) (x12:=Ar) ?_
        · simp only [Sq,     hbl, hbx, hs4, hptr, Qa, Qb, Qc, Qd, Qe, Qf, Qg, Qh, Qi, Qj, Qk, Ql, Qm, Qn, true_and, and_true, Qo, Qp, Qq, Qr, Qs, Qt, Qu, Qv, Qw, Qx, Qy, Qz, Ra, Rb, Rc, Rd, Re, Rf, Rg, Rh, Ri, Rj, Rk, Rl, Rm, Ya, Yb, Yc, Rn, Ro, Rp, Yd, Ye, Rq, Rs, Rt, Ru, Rv, Rw, Rx]
          simp only[AR,Qa,Qb,Qc,Qd,Qe,Qf,Qg,Qh,Qi,Qj,Qk,Ql,Qm,Qn,true_and,and_true,Qo,Qp,Qq,Qr,Qs,Qt,Qu,Qv,Qw,Qx,Qy,Qz,Ra,Rb,Rc,Rd,Re,Rf,Rg,Rh,Ri,Rj,Rk,Rl,Rm,Ya,Yb,Yc,Rn,Ro,Rp,Yd,Ye,Rq,Rs,Rt,Ru,Rv,Rw,Rx]at hK
          exact hK
        · intro s' ow' x' V g1 g2 g3
          simp only[pE,g3,Qa,Qb,Qc,Qd,Qe,Qf,Qg,Qh,Qi,Qj,Qk,Ql,Qm,Qn,true_and,and_true,Qo,Qp,Qq,Qr,Qs,Qt,Qu,Qv,Qw,Qx,Qy,Qz,Ra,Rb,Rc,Rd,Re,Rf,Rg,Rh,Ri,Rj,Rk,Rl,Rm,Ya,Yb,Yc,Rn,Ro,Rp,Yd,Ye,Rq,Rs,Rt,Ru,Rv,Rw,Rx]
          exact⟨_,ow',x',.put ht hbr hnil hfresh,g1,stB.trans g2⟩
def DW(v:Sv):Sv:={ v with many:=EB .i64 (v.many+1) }
def Fw(v:Sv)(b:Nat):Sv:=Bh { v with limits:=v.limits++[(v.trail.length:Int)] } ((b:Int) * v.phase.getD b 0) none
def HH(v:Sv):Sv:=Ax { v with model:=v.value } 0
abbrev Gj:EI:=⟨[],0,[],0,0⟩
structure Gs(n most:Nat)(I:Nat→Sv→Prop)(R:Int→Sv→Prop):Prop where
 ok:∀ {k v},I k v→k≤most∧Jc n 50000000 v
 brk:∀ {k v},I k v→v.broken=true→R 0 v
 mid:∀ {k v c v1},I k v→v.broken=false→C4 v c v1→v1.trace.length≤1000000∧v1.learned.length≤100000000∧(v1.learned.length:Int)<v1.room∧(∀c ls b,v1.cl c=some (ls,b)→BR n ls)∧∀b,1≤b→b≤n→v1.phase.getD b 0=1∨v1.phase.getD b 0=-1
 fail:∀ {k v c v1},I k v→v.broken=false→C4 v (some c) v1→v1.limits=[]→R 0 (EZ v1)
 unk:∀ {k v c v1},I k v→v.broken=false→C4 v (some c) v1→v1.limits≠[]→most≤k→R 2 (Ax v1 0)
 lrn:∀ {k v c v1},I k v→v.broken=false→C4 v (some c) v1→v1.limits≠[]→k<most→∃r,CJ v1 c Gj v1.trail.length 0 r∧BR n (Al v1 r)∧0≤r.lev∧r.lev<100000000 ∧
  ∀h cn,h.length=v1.heat.length→v1.cl cn=none→I (k+1) (Bx (Ax (Cn (DW v1) h) r.lev.toNat) cn (Al v1 r))
 cool:∀ {k v v1},I k v→v.broken=false→C4 v none v1→∀h,h.length=v1.heat.length→I k (Ax (Cn v1 h) 0)∧(Ax (Cn v1 h) 0).learned=v1.learned
 maybe:∀ {k v v1},I k v→v.broken=false→C4 v none v1→(∀j,1≤j→j<n+1→v1.value.getD j 0≠0)→R 1 (HH v1)
 dec:∀ {k v v1 b},I k v→v.broken=false→C4 v none v1→1≤b→b≤n→v1.value.getD b 0=0→I k (Fw v1 b)
theorem CJ.many{v:Sv}{c at_:Nat}{a r:EI}{l:Int}(h:CJ v c a at_ l r):CJ (DW v) c a at_ l r:=by
 induction h with
 | last hc ha hs ho=>exact .last (v:=DW v) hc ha hs ho
 | more hc ha hs ho hw hr ih=>exact .more (v:=DW v) hc ha hs ho hw ih
theorem Fb{v:Sv}:v.trail.length≤(BV v).2.trail.length:=by
 unfold BV Q3
 have:=KH (n:=0) (l:=-(v.trail.getD v.head.toNat 0)) (v.watches.getD (place (-(v.trail.getD v.head.toNat 0))) []) [] (Ck v (place (-(v.trail.getD v.head.toNat 0))))
 dsimp only
 split<;>exact this
theorem C4.trail{v v':Sv}{r:Option Nat}(h:C4 v r v'):v.trail.length≤v'.trail.length:=by
 induction h with
 | done _=>exact qg _
 | more h1 h2 _ ih =>
  have:=Fb (v:=‹Sv›)
  rename_i v v1 v' r _
  have:=Fb (v:=v)
  rw[h2]at this
  exact qs this ih
 | bad h1 h2 =>
  rename_i v v1 c
  have:=Fb (v:=v)
  rw[h2]at this
  exact this
section
variable{E:BI}{K:List AV→AE→Prop}{ow:Ow}{s:AE}{p:Nat}{x:Sf}{v:Sv}
theorem nN(h:Av ow s p x v){x1 x2 x3 x4 x5 x6 x7 x8 x9 x10 x11 x12 x13:AV}(hK:∀s',Av ow s' p x (DW v)→AM (B6 p) ow s ow s'→K [AV.ptr (some (p,0)),x1,x2,x3,x4,x5,x6,x7,x8,x9,x10,x11,x12,x13] s'):
  Qb E Sk K [] [AV.ptr (some (p,0)),x1,x2,x3,x4,x5,x6,x7,x8,x9,x10,x11,x12,x13] s:=by
 obtain⟨s',g1,g2,g3,g4⟩:=h.set_many (EB .i64 (v.many+1))
 simp only[Sk,AH,eF,h.ld_many,PY,BW,g1,AS,Qa,Qb,Qc,Qd,Qe,Qf,Qg,Qh,Qi,Qj,Qk,Ql,Qm,Qn,true_and,and_true,Qo,Qp,Qq,Qr,Qs,Qt,Qu,Qv,Qw,Qx,Qy,Qz,Ra,Rb,Rc,Rd,Re,Rf,Rg,Rh,Ri,Rj,Rk,Rl,Rm,Ya,Yb,Yc,Rn,Ro,Rp,Yd,Ye,Rq,Rs,Rt,Ru,Rv,Rw,Rx]
 exact hK s' g2 g3
theorem nO(hE:Aq E)(h:Av ow s p x (DW v)){n:Nat}(hn:n≤500000)(hf:N0 n v)(hcl:∀c ls b,v.cl c=some (ls,b)→BR n ls){c:Nat}{r:EI}(hr:CJ v c Gj v.trail.length 0 r)(hL:BR n (Al v r))(hl0:0≤r.lev)(hl1:r.lev<100000000)(hT:v.trace.length≤1000000)(hW:C9 v.watches≤90000000)(hle:v.learned.length≤100000000){x1 x2 x3 x4 x6 x7 x8 x9 x10 x11 x12 x13:AV}
  (hK:∀s' ow' x' h' cn,h'.length=v.heat.length→v.cl cn=none→Av ow' s' p x' (Bx (Ax (Cn (DW v) h') r.lev.toNat) cn (Al v r))→AM (Bs p) ow s ow' s'→K [AV.ptr (some (p,0)),x1,x2,x3,x4,.ptr (some (c,0)),x6,x7,x8,x9,x10,x11,x12,x13] s'):
  Qb E Sl K [] [AV.ptr (some (p,0)),x1,x2,x3,x4,.ptr (some (c,0)),x6,x7,x8,x9,x10,x11,x12,x13] s:=by
 have hfm:N0 n (DW v):=⟨⟨hf.siz.small,hf.siz.w,hf.siz.value,hf.siz.level,hf.siz.why,hf.siz.heat,hf.siz.phase,hf.siz.trail,hf.siz.limits⟩,hf.val,hf.lits,hf.lims⟩
 have hlm:Al (DW v) r=Al v r:=rfl
 have hcl':∀c ls b,(DW v).cl c=some (ls,b)→BR n ls:=hcl
 have hr':CJ (DW v) c Gj (DW v).trail.length 0 r:=hr.many
 simp only[Sl,Qa,Qb,Qc,Qd,Qe,Qf,Qg,Qh,Qi,Qj,Qk,Ql,Qm,Qn,true_and,and_true,Qo,Qp,Qq,Qr,Qs,Qt,Qu,Qv,Qw,Qx,Qy,Qz,Ra,Rb,Rc,Rd,Re,Rf,Rg,Rh,Ri,Rj,Rk,Rl,Rm,Ya,Yb,Yc,Rn,Ro,Rp,Yd,Ye,Rq,Rs,Rt,Ru,Rv,Rw,Rx]
 refine(bF hE h (by omega) hfm hcl' hr').mono ?_
 rintro _ s1 ⟨lv,ow1,h',rfl,I1,h1,hl,b1,st1⟩
 rw[hlm]at b1
 have hf1:N0 n (Cn (DW v) h'):=⟨⟨hf.siz.small,hf.siz.w,hf.siz.value,hf.siz.level,hf.siz.why,hl.trans hf.siz.heat,hf.siz.phase,hf.siz.trail,hf.siz.limits⟩,hf.val,hf.lits,hf.lims⟩
 have e:iv r.lev=iv ((r.lev.toNat:Nat):Int):=by rw[Int.toNat_of_nonneg hl0]
 have hlen:(Al v r).length=r.lits.length+1:=by
  unfold Al
  split
  ·rfl
  ·rw[DM];rfl
 have hsm:=I1.small
 have hle':=I1.len
 simp only[Qa,Qb,Qc,Qd,Qe,Qf,Qg,Qh,Qi,Qj,Qk,Ql,Qm,Qn,true_and,and_true,Qo,Qp,Qq,Qr,Qs,Qt,Qu,Qv,Qw,Qx,Qy,Qz,Ra,Rb,Rc,Rd,Re,Rf,Rg,Rh,Ri,Rj,Rk,Rl,Rm,Ya,Yb,Yc,Rn,Ro,Rp,Yd,Ye,Rq,Rs,Rt,Ru,Rv,Rw,Rx]
 rw[e]
 refine(eQ hE h1 hf1 (level:=r.lev.toNat) (by omega) b1 hL (by omega) (by omega) hT hW hle).mono ?_
 rintro _ s2 ⟨cn,ow2,x2,f1,f2,f3⟩
 simp only[Qa,Qb,Qc,Qd,Qe,Qf,Qg,Qh,Qi,Qj,Qk,Ql,Qm,Qn,true_and,and_true,Qo,Qp,Qq,Qr,Qs,Qt,Qu,Qv,Qw,Qx,Qy,Qz,Ra,Rb,Rc,Rd,Re,Rf,Rg,Rh,Ri,Rj,Rk,Rl,Rm,Ya,Yb,Yc,Rn,Ro,Rp,Yd,Ye,Rq,Rs,Rt,Ru,Rv,Rw,Rx]
 exact hK s2 ow2 x2 h' cn hl f1 f2 (st1.trans f3)
theorem nP(hE:Aq E)(h:Av ow s p x v){n:Nat}(hn:n≤500000)(hval:v.value.length=n+1){x1 x2 x3 x4 x5 x6 x7 x8 x9 x10 x11 x12 x13:AV}(hK:∀s' ow' x',Av ow' s' p x' { v with model:=v.value }→AM (Bs p) ow s ow' s'→K [AV.ptr (some (p,0)),x1,x2,x3,x4,x5,x6,x7,x8,x9,x10,x11,x12,x13] s'):
  Qb E Sn K [] [AV.ptr (some (p,0)),x1,x2,x3,x4,x5,x6,x7,x8,x9,x10,x11,x12,x13] s:=by
 simp only[Sn,AH,Ek,h.ld_val,Qa,Qb,Qc,Qd,Qe,Qf,Qg,Qh,Qi,Qj,Qk,Ql,Qm,Qn,true_and,and_true,Qo,Qp,Qq,Qr,Qs,Qt,Qu,Qv,Qw,Qx,Qy,Qz,Ra,Rb,Rc,Rd,Re,Rf,Rg,Rh,Ri,Rj,Rk,Rl,Rm,Ya,Yb,Yc,Rn,Ro,Rp,Yd,Ye,Rq,Rs,Rt,Ru,Rv,Rw,Rx]
 refine(G3 hE (L:=v.value) (qg _) h.value.slice (by omega)).mono ?_
 rintro u s1 ⟨hu,ho⟩
 have st:AM (fun _=>False) ow s (ext ow s.next (p,11,0)) s1:=AM.old ho _
 have h1:=h.keep st (fun _ q=>q.elim)
 have hub:Bb (ext ow s.next (p,11,0)) (p,11,0) s1 u (A3 v.value):=by
  rcases hu with⟨a,r1,r2⟩ | ⟨i,r1,r2,r3,r4⟩
  ·rw[r2]at hval;cases hval
  ·have hb:C2 s.next s1 u v.value:=.inr ⟨i,[],r1,r2,r3,by simpa using r4⟩
   exact hb.buf (fun e=>by rw[e]at hval;cases hval) fun j q1 _ _=>Ej q1
 obtain⟨s2,g1,g2,g3,g4⟩:=h1.set_model hub
 simp only[eE,AH,BW,g1,AS,Qa,Qb,Qc,Qd,Qe,Qf,Qg,Qh,Qi,Qj,Qk,Ql,Qm,Qn,true_and,and_true,Qo,Qp,Qq,Qr,Qs,Qt,Qu,Qv,Qw,Qx,Qy,Qz,Ra,Rb,Rc,Rd,Re,Rf,Rg,Rh,Ri,Rj,Rk,Rl,Rm,Ya,Yb,Yc,Rn,Ro,Rp,Yd,Ye,Rq,Rs,Rt,Ru,Rv,Rw,Rx]
 exact hK s2 _ _ g2 ((st.mono fun _ q=>q.elim).trans g3.b)
theorem nQ(h:Av ow s p x v)(hl:v.limits.length≤1000000000){x1 x2 x3 x4 x5 x6 x7 x8 x9 x10 x11 x12 x13:AV}(hK:∀s' ow' x',Av ow' s' p x' { v with limits:=v.limits++[(v.trail.length:Int)] }→AM (Bs p) ow s ow' s'→K [AV.ptr (some (p,0)),x1,x2,x3,x4,x5,x6,x7,x8,x9,x10,x11,x12,x13] s'):
  Qb E So K [] [AV.ptr (some (p,0)),x1,x2,x3,x4,x5,x6,x7,x8,x9,x10,x11,x12,x13] s:=by
 have hms:∀ (m:Nat) (i:Nat),Made.val i (.slice m)=.slice (some (i,0)) m (some m):=fun _ _=>rfl
 have ln:∀s,As Try.prog s 23 x.tr=some (iv (v.trail.length:Int)):=fun s=>by
  have:=h.trail.len Try.underlying23 s
  rw[qi]at this
  exact this
 have bl:=CO (P:=Try.prog) (t:=23) (v:=iv (v.trail.length:Int)) Try.underlying23 Br RZ rfl rfl
 have st:AM (fun _=>False) ow s (ext ow s.next (0,0,0)) (newObj s (AL 3 1 [iv (v.trail.length:Int)])):=AM.new _ ow s _ _
 have h1:=h.keep st (fun _ q=>q.elim)
 obtain⟨u,s1,s2,ow',g1,g2,g3,g4⟩:=h1.push_limits hl (v.trail.length:Int) (q:=s.next) (ty:=3) (sz':=1) (by rw[AK,if_pos rfl])
 simp only[So,AH,FS,IT,h.ld_lim,h.ld_tr,ln,bl,hms,g1,BW,g2,AS,Qa,Qb,Qc,Qd,Qe,Qf,Qg,Qh,Qi,Qj,Qk,Ql,Qm,Qn,true_and,and_true,Qo,Qp,Qq,Qr,Qs,Qt,Qu,Qv,Qw,Qx,Qy,Qz,Ra,Rb,Rc,Rd,Re,Rf,Rg,Rh,Ri,Rj,Rk,Rl,Rm,Ya,Yb,Yc,Rn,Ro,Rp,Yd,Ye,Rq,Rs,Rt,Ru,Rv,Rw,Rx]
 exact hK s2 ow' _ g3 ((st.mono fun _ q=>q.elim).trans (g4.n (by decide) (by decide) (by decide)).b)
end
theorem U5{x y:Int}(h:y.natAbs=x.natAbs):y=x∨y=-x:=by omega
theorem BO.pos   {n : Nat} {v : Sv} (h : BO   n v) {x : Int} (hx : x ≠ 0) : 0 < Go.Proofs.Ytilhhmkdcoajnaa.Am.isV v.value x ↔ x ∈ v.trail := by
  constructor
  · intro hp
    by_cases hno:∀y∈v.trail,y.natAbs≠x.natAbs
    · have:=h.open_ _ hno
      exfalso
      unfold Go.Proofs.Ytilhhmkdcoajnaa.Am.isV at hp
      rw[this]at hp
      split at hp<;>omega
    · have:∃y∈v.trail,y.natAbs=x.natAbs:=by
        simpa using hno
      obtain⟨y,hy,e⟩:=this
      rcases U5 e with e | e
      · rw[← e];exact hy
      · have h1:=h.isV hy
        rw[e,Ky _ hx]at h1
        omega
  · intro hm
    rw[h.isV hm];decide
theorem BO.neg{n:Nat}{v:Sv}(h:BO n v){x:Int}(hx:x≠0):Go.Proofs.Ytilhhmkdcoajnaa.Am.isV v.value x<0↔-x∈v.trail:=by
 rw[← h.pos (x:=-x) (by omega),Ky _ hx]
 omega
theorem BO.zero{n:Nat}{v:Sv}(h:BO n v){x:Int}(hx:x≠0)(h1:x ∉ v.trail)(h2:-x ∉ v.trail):v.value.getD x.natAbs 0=0:=by
 apply JD
 have a:=h.pos hx
 have b:=h.neg hx
 have:¬ 0<Go.Proofs.Ytilhhmkdcoajnaa.Am.isV v.value x:=fun q=>h1 (a.1 q)
 have:¬ Go.Proofs.Ytilhhmkdcoajnaa.Am.isV v.value x<0:=fun q=>h2 (b.1 q)
 omega
theorem BO.one{n:Nat}{v:Sv}(h:BO n v){i j:Nat}{x y:Int}(hi:v.trail[i]? = some x)(hj:v.trail[j]? = some y)(e:x.natAbs=y.natAbs):i=j:=by
 have hl:i<(v.trail.map Int.natAbs).length:=by rw[qi];exact AZ hi
 refine(List.getElem?_inj hl h.nodup).1 ?_
 rw[rX,rX,hi,hj]
 show some _=some _
 rw[e]
theorem BO.two{n:Nat}{v:Sv}(h:BO n v){x:Int}(h1:x∈v.trail)(h2:-x∈v.trail):False:=by
 obtain⟨i,hi,e1⟩:=sH h1
 obtain⟨j,hj,e2⟩:=sH h2
 have k1:v.trail[i]? = some x:=by rw[qp hi,e1]
 have k2:v.trail[j]? = some (-x):=by rw[qp hj,e2]
 have:=h.one k1 k2 (by omega)
 subst this
 rw[k1]at k2
 injection k2 with k2
 have:=(h.fit.lits x h1).1
 omega
theorem B5{l:List Int}{k:Nat}{x:Int}:x∈l.take k↔∃i,i<k∧l[i]? = some x:=by
 rw[List.mem_take_iff_getElem]
 constructor
 ·rintro⟨j,hm,e⟩
  have hj:j<l.length:=by omega
  exact⟨j,by omega,by rw[qp hj,e]⟩
 ·rintro⟨i,hi,e⟩
  have hl:=AZ e
  refine⟨i,by omega,?_⟩
  rw[qp hl]at e
  injection e
theorem Cj{l:List Int}{x:Int}:x∈l↔∃i:Nat,l[i]? = some x:=List.mem_iff_getElem?
def Hj(L:List Int)(i:Nat):Nat:=L.countP fun x=>decide (x≤(i:Int))
theorem Ot(A B:List Int)(i:Nat):Hj (A++B) i=Hj A i+Hj B i:=List.countP_append
theorem Tk(L:List Int)(i:Nat):Hj L i≤L.length:=List.countP_le_length
theorem JJ{L:List Int}{i:Nat}(h:∀x∈L,x≤(i:Int)):Hj L i=L.length:=by
 unfold Hj
 rw[List.countP_eq_length]
 intro a ha
 exact decide_eq_true (h a ha)
theorem QQ{L:List Int}{i:Nat}(h:∀x∈L,(i:Int)<x):Hj L i=0:=by
 unfold Hj
 rw[List.countP_eq_zero]
 intro a ha
 have:=h a ha
 simp
 omega
theorem QP{L:List Int}{i j:Nat}(h:i≤j):Hj L i≤Hj L j:=by
 unfold Hj
 refine List.countP_mono_left fun x _ hx=>?_
 have hx:=of_decide_eq_true hx
 exact decide_eq_true (by omega)
theorem CZ{L:List Int}(hs:L.Pairwise (·<·)){k:Nat}{t:Int}(hk:L[k]? = some t):(∀x∈L.take k,x<t)∧∀x∈L.drop k,t≤x:=by
 have hl:=AZ hk
 have e:L.drop k=t::L.drop (k+1):=by
  rw[sO hl]
  congr 1
  rw[qp hl]at hk
  injection hk
 have hs':(L.take k++L.drop k).Pairwise (·<·):=by rw[sN];exact hs
 rw[List.pairwise_append]at hs'
 obtain⟨h1,h2,h3⟩:=hs'
 refine⟨fun x hx=>h3 x hx t (by rw[e];exact ql ..),fun x hx=>?_⟩
 rw[e]at hx h2
 rcases rI.1 hx with q | q
 ·omega
 ·have:=(sj.1 h2).1 x q
  omega
theorem MO{L:List Int}(hs:L.Pairwise (·<·)){k i:Nat}{t:Int}(hk:L[k]? = some t)(hi:(i:Int)<t):Hj L i=Hj (L.take k) i∧Hj L i≤k:=by
 have e:Hj L i=Hj (L.take k) i:=by
  have h:=Ot (L.take k) (L.drop k) i
  rw[sN]at h
  rw[h,QQ (L:=L.drop k) fun x hx=>by have:=(CZ hs hk).2 x hx;omega]
  omega
 refine⟨e,?_⟩
 rw[e]
 have:=Tk (L.take k) i
 rw[rK]at this
 omega
theorem MN{L:List Int}(hs:L.Pairwise (·<·)){k i:Nat}{t:Int}(hk:L[k]? = some t)(hi:t≤(i:Int)):k+1≤Hj L i:=by
 have hl:=AZ hk
 have h:=Ot (L.take (k+1)) (L.drop (k+1)) i
 rw[sN]at h
 have hf:Hj (L.take (k+1)) i=(L.take (k+1)).length:=JJ fun x hx=>by
  obtain⟨j,hj,e⟩:=B5.1 hx
  rcases qk j k with q | q
  ·have:=(CZ hs hk).1 x (B5.2 ⟨j,q,e⟩)
   omega
  ·have:j=k:=by omega
   subst this
   rw[hk]at e
   injection e with e
   omega
 rw[hf,rK]at h
 omega
structure CT(n:Nat)(v:Sv):Prop where
 inv:BO n v
 sorted:v.limits.Pairwise (·<·)
 below:∀x∈v.limits,x<(v.trail.length:Int)
 lev:∀ (i:Nat) (x:Int),v.trail[i]? = some x→v.level.getD x.natAbs 0=(Hj v.limits i:Int)
 why:∀ (i:Nat) (x:Int),v.trail[i]? = some x→(v.why.getD x.natAbs none=none∧(i:Int)∈v.limits)∨∃c ls b,v.why.getD x.natAbs none=some c∧v.cl c=some (ls,b)∧ls.getD 0 0=x∧∀y∈ls,y≠x→-y∈v.trail.take i
 cls:∀c ls b,v.cl c=some (ls,b)→BR n ls∧ls≠[]∧(ls.map Int.natAbs).Nodup∧b.2=false
theorem CT.of{n:Nat}{v v':Sv}(h:CT n v)(hi:BO n v')(h1:v'.trail=v.trail)(h2:v'.limits=v.limits)(h3:v'.level=v.level)(h4:v'.why=v.why)(h5:v'.cl=v.cl):CT n v':=
 ⟨hi,by rw[h2];exact h.sorted,by rw[h1,h2];exact h.below,by rw[h1,h2,h3];exact h.lev,by rw[h1,h2,h4,h5];exact h.why,by rw[h5];exact h.cls⟩
theorem CT.lim{n:Nat}{v:Sv}(h:CT n v):∀x∈v.limits,0≤x:=fun x hx=>(h.inv.fit.lims x hx).1
theorem HB{l:List Int}{x y:Int}{i:Nat}(h:(l++[x])[i]? = some y):(i<l.length∧l[i]? = some y)∨(i=l.length∧y=x):=by
 rcases qk i l.length with q | q
 ·rw[qv q]at h;exact .inl ⟨q,h⟩
 ·rw[qy q]at h
  have:i - l.length<1:=AZ h
  have e:i - l.length=0:=by omega
  rw[e]at h
  exact .inr ⟨by omega,by simpa using h.symm⟩
theorem BM{α:Type}{l:List α}{k j:Nat}{a d:α}(h:j≠k):(l.set k a).getD j d=l.getD j d:=by
 rw[rB,rB,qz,if_neg fun e=>h e.symm]
theorem B4{α:Type}{l:List α}{k:Nat}{a d:α}(h:k<l.length):(l.set k a).getD k d=a:=by
 rw[GB h,if_pos rfl]
theorem BO.abs_ne{n:Nat}{v:Sv}(h:BO n v){x y:Int}(hx:v.value.getD x.natAbs 0=0)(hy:y∈v.trail):y.natAbs≠x.natAbs:=fun e=>by
 have:=h.holds y hy
 rw[e,hx]at this
 rcases K4 y with q | q<;>omega
theorem CT.assign{n:Nat}{v:Sv}(h:CT n v){x:Int}(hx:VL n x)(ho:v.value.getD x.natAbs 0=0){c:Nat}{ls:List Int}{b:Bool×Bool}(hc:v.cl c=some (ls,b))(h0:ls.getD 0 0=x)(hr:∀y∈ls,y≠x→-y∈v.trail):CT n (Bh v x (some c)):=by
 have hz:=h.inv.fit.siz
 have hi:=h.inv.assign hx ho (some c)
 have hne:∀ {i:Nat} {y:Int},v.trail[i]? = some y→y.natAbs≠x.natAbs:=fun hy=>h.inv.abs_ne ho (qj hy)
 have hlx:x.natAbs<v.level.length:=by rw[hz.level];have:=hx.2;omega
 have hwx:x.natAbs<v.why.length:=by rw[hz.why];have:=hx.2;omega
 refine⟨hi,h.sorted,fun y hy=>?_,fun i y hy=>?_,fun i y hy=>?_,h.cls⟩
 ·have:=h.below y hy
  show y<((v.trail++[x]).length:Int)
  rw[qn];simp;omega
 ·show(v.level.set _ _).getD _ 0=(Hj v.limits i:Int)
  rcases HB hy with⟨h1,h2⟩ | ⟨h1,h2⟩
  ·rw[BM (hne h2)];exact h.lev i y h2
  ·subst h2
   rw[B4 hlx,h1,JJ fun z hz=>by have:=h.below z hz;omega]
 ·show((v.why.set _ _).getD _ none=none∧_)∨∃d ls b,(v.why.set _ _).getD _ none=some d∧v.cl d=some (ls,b)∧ls.getD 0 0=y∧∀z∈ls,z≠y→-z∈(v.trail++[x]).take i
  rcases HB hy with⟨h1,h2⟩ | ⟨h1,h2⟩
  ·rw[BM (hne h2),rM (by omega)]
   exact h.why i y h2
  ·subst h2
   rw[B4 hwx,h1,rM (by omega),rR]
   exact .inr ⟨c,ls,b,rfl,hc,h0,hr⟩
theorem T9{L:List Int}(hs:L.Pairwise (·<·)){m:Nat}(h0:∀x∈L,0≤x)(hm:∀x∈L,x<(m:Int)):L.length≤m:=by
 have hnd:(L.map fun x=>x.toNat+1).Nodup:=by
  rw[List.Nodup,List.pairwise_map]
  refine List.Pairwise.imp_of_mem ?_ hs
  intro a b ha hb hab
  have:=h0 a ha
  have:=h0 b hb
  omega
 have:=DL hnd (n:=m) fun k hk=>by
  obtain⟨x,hx,rfl⟩:=List.mem_map.1 hk
  have:=h0 x hx
  have:=hm x hx
  omega
 simpa using this
theorem BO.room{n:Nat}{v:Sv}(h:BO n v){x:Int}(hx:VL n x)(ho:v.value.getD x.natAbs 0=0):v.trail.length+1≤n:=by
 have:=(h.assign hx ho none).fit.siz.trail
 have e:(Bh v x none).trail=v.trail++[x]:=rfl
 rw[e,qn]at this
 exact this
theorem CT.guess {n : Nat} {v : Sv} (h : CT n v) {x : Int} (hx : VL n x) (ho : v.value.getD x.natAbs 0 = 0) : CT n (Bh      { v with limits := v.limits ++ [(v.trail.length : Int)] } x none) := by
  have hz:=h.inv.fit.siz
  have hroom:=h.inv.room hx ho
  have hlen:=T9 h.sorted h.lim h.below
  have hi0:BO n { v with limits:=v.limits++[(v.trail.length:Int)] }:=by
    obtain⟨⟨hz,hv,hli,hlm⟩,g2,g3,g4,g5⟩:=h.inv
    refine⟨⟨⟨hz.small,hz.w,hz.value,hz.level,hz.why,hz.heat,hz.phase,hz.trail,?_⟩,hv,hli,fun y hy=>?_⟩,g2,g3,g4,g5⟩
    · show(v.limits++[_]).length≤n
      rw[qn];simp;omega
    · rcases sE.1              hy with q | q
      · exact hlm y q
      · rw[si.1 q]
        exact⟨by omega,by show(v.trail.length:Int)≤v.trail.length;omega⟩
  have hi:=hi0.assign hx ho none
  have hne:∀ {i:Nat} {y:Int},v.trail[i]? = some y→y.natAbs≠x.natAbs:=fun hy=>h.inv.abs_ne ho (qj hy)
  have hlx:x.natAbs<v.level.length:=by rw[hz.level];have:=hx.2;omega
  have hwx:x.natAbs<v.why.length:=by rw[hz.why];have:=hx.2;omega
  refine⟨hi,?_,fun y hy=>?_,fun i y hy=>?_,fun i y hy=>?_,h.cls⟩
  · show(v.limits++[_]).Pairwise (·<·)
    rw[List.pairwise_append]
    exact⟨h.sorted,by simp,fun a ha b hb=>by rw[si.1 hb];exact h.below a ha⟩
  · show y<((v.trail++[x]).length:Int)
    rw[qn]
    have hy:y∈v.limits++[(v.trail.length:Int)]:=hy
    rcases sE.1 hy with q | q
    · have:=h.below y q;simp;omega
    · rw[si.1 q];simp;omega
  · show(v.level.set _ ((v.limits++[_]).length:Int)).getD _ 0=(Hj (v.limits++[(v.trail.length:Int)]) i:Int)
    have hy:(v.trail++[x])[i]? = some y:=hy
    rcases HB hy with⟨h1,h2⟩ | ⟨h1,h2⟩
    · rw[BM (hne h2),Ot,QQ (L:=[(v.trail.length:Int)]) fun z hz=>by rw[si.1 hz];omega]
      exact h.lev i y h2
    · subst h2
      rw[B4 hlx,h1,JJ fun z hz=>by
        rcases sE.1 hz with q | q
        · have:=h.below z q;omega
        · rw[si.1 q];omega]
  · show((v.why.set _ _).getD _ none=none∧(i:Int)∈v.limits++[_])∨∃d ls b,(v.why.set _ _).getD _ none=some d∧v.cl d=some (ls,b)∧ls.getD 0 0=y∧∀z∈ls,z≠y→-z∈(v.trail++[x]).take i
    have hy:(v.trail++[x])[i]? = some y:=hy
    rcases HB hy with⟨h1,h2⟩ | ⟨h1,h2⟩
    · rw [BM          (hne h2), rM                            (by omega)]
      rcases h.why i y h2 with⟨q1,q2⟩ | q
      · exact .inl ⟨q1,qt _ q2⟩
      · exact .inr q
    · subst h2
      rw[B4 hwx,h1]
      exact .inl ⟨rfl,rH _ (si.2 rfl)⟩
theorem CT.perm {n : Nat} {v : Sv} (h : CT n v) {c : Nat} {ls ls' : List Int} {b : Bool × Bool} (hc : v.cl c = some (ls, b)) (hp : ls'.Perm ls) (h0 : ls.getD 0 0 ∈ v.trail → ls'.getD 0 0 = ls.getD 0 0) (hi : BO   n { v with cl := Aj    v.cl c (ls', b) }) : CT n { v with cl := Aj    v.cl c (ls', b) } := by
  refine⟨hi,h.sorted,h.below,h.lev,fun i x hx=>?_,fun d ms b' hd=>?_⟩
  · rcases h.why i x hx with q | ⟨d, ms, b', q1, q2, q3, q4⟩
    · exact .inl q
    · by_cases e : d = c
      · subst e
        rw[hc]at q2
        injection q2 with q2
        injection q2 with q2 q2'
        subst q2
        exact .inr ⟨d,ls',b,q1,BJ _ _ _,by rw[h0 (by rw[q3];exact qj hx)];exact q3,fun y hy=>q4 y (hp.mem_iff.1 hy)⟩
      · exact .inr ⟨d,ms,b',q1,by show Aj _ _ _ d=_;unfold Aj;rw[if_neg e];exact q2,q3,q4⟩
  · have hd:Aj v.cl c (ls',b) d=some (ms,b'):=hd
    unfold Aj at hd
    by_cases e:d=c
    · rw[if_pos e]at hd
      injection hd with hd
      injection hd with hd hd'
      subst hd;subst hd'
      obtain⟨k1,k2,k3,k4⟩:=h.cls c ls b hc
      exact⟨⟨fun y hy=>k1.1 y (hp.mem_iff.1 hy),by rw[hp.length_eq];exact k1.2⟩,fun q=>k2 (by have:=hp.length_eq;rw[q]at this;exact List.length_eq_zero_iff.1 this.symm),((hp.map _).nodup_iff).2 k3,k4⟩
    · rw[if_neg e]at hd
      exact h.cls d ms b' hd
theorem CT.put{n:Nat}{v:Sv}(h:CT n v){c:Nat}{ls:List Int}{b:Bool×Bool}(hc:v.cl c=none)(hk:BR n ls)(hne:ls≠[])(hnd:(ls.map Int.natAbs).Nodup)(hb:b.2=false)(hi:BO n { v with cl:=Aj v.cl c (ls,b) }):CT n { v with cl:=Aj v.cl c (ls,b) }:=by
  refine⟨hi,h.sorted,h.below,h.lev,fun i x hx=>?_,fun d ms b' hd=>?_⟩
  · rcases h.why i x hx with q | ⟨d, ms, b', q1, q2, q3, q4⟩
    · exact .inl q
    · have e:d≠c:=fun e=>by rw[e,hc]at q2;cases q2
      exact .inr ⟨d,ms,b',q1,by show Aj _ _ _ d=_;unfold Aj;rw[if_neg e];exact q2,q3,q4⟩
  · have hd:Aj v.cl c (ls,b) d=some (ms,b'):=hd
    unfold Aj at hd
    by_cases e:d=c
    · rw[if_pos e]at hd
      injection hd with hd
      injection hd with hd hd'
      subst hd;subst hd'
      exact⟨hk,hne,hnd,hb⟩
    · rw[if_neg e]at hd
      exact h.cls d ms b' hd
theorem RQ:∀ (D:List Int)(v:Sv),(∀x∈D,x.natAbs<v.value.length)→∀j,(D.foldl EF v).value.getD j 0=if j∈D.map Int.natAbs then 0 else v.value.getD j 0
 | [],v,_,j=>by simp
 | x::D,v,h,j=>by
  have hx:=h x (ql ..)
  rw[rT,RQ D (EF v x) (fun y hy=>by show y.natAbs<(v.value.set _ _).length;rw[qr];exact h y (qo _ hy)) j]
  show(if j∈D.map Int.natAbs then (0:Int)else (v.value.set x.natAbs 0).getD j 0)=_
  rw[rm]
  by_cases h1:j∈D.map Int.natAbs
  ·rw[if_pos h1,if_pos (qo _ h1)]
  ·rw[if_neg h1]
   by_cases e:j=x.natAbs
   ·rw[e,B4 hx,if_pos (ql ..)]
   ·rw[BM e,if_neg (by rw[rI];rintro(q | q);exact e q;exact h1 q)]
theorem RR:∀ (D:List Int)(v:Sv),(∀x∈D,x.natAbs<v.why.length)→∀j,(D.foldl EF v).why.getD j none=if j∈D.map Int.natAbs then none else v.why.getD j none
 | [],v,_,j=>by simp
 | x::D,v,h,j=>by
  have hx:=h x (ql ..)
  rw[rT,RR D (EF v x) (fun y hy=>by show y.natAbs<(v.why.set _ _).length;rw[qr];exact h y (qo _ hy)) j]
  show(if j∈D.map Int.natAbs then none else (v.why.set x.natAbs none).getD j none)=_
  rw[rm]
  by_cases h1:j∈D.map Int.natAbs
  ·rw[if_pos h1,if_pos (qo _ h1)]
  ·rw[if_neg h1]
   by_cases e:j=x.natAbs
   ·rw[e,B4 hx,if_pos (ql ..)]
   ·rw[BM e,if_neg (by rw[rI];rintro(q | q);exact e q;exact h1 q)]
def Ez(n:Nat)(v:Sv):Prop:=∀k,1≤k→k≤n→v.phase.getD k 0=1∨v.phase.getD k 0=-1
theorem Mn{n:Nat}:∀ (D:List Int)(v:Sv),Ez n v→(D.map Int.natAbs).Nodup→(∀x∈D,v.value.getD x.natAbs 0=1∨v.value.getD x.natAbs 0=-1)→(∀x∈D,x.natAbs<v.phase.length)→Ez n (D.foldl EF v)
 | [],v,h,_,_,_=>h
 | x::D,v,h,hd,hv,hl=>by
  rw[rm,sR]at hd
  rw[rT]
  have hx:=hl x (ql ..)
  refine Mn D (EF v x) ?_ hd.2 (fun y hy=>?_) (fun y hy=>by show y.natAbs<(v.phase.set _ _).length;rw[qr];exact hl y (qo _ hy))
  ·intro k h1 h2
   show(v.phase.set x.natAbs _).getD k 0=1∨(v.phase.set x.natAbs _).getD k 0=-1
   by_cases e:k=x.natAbs
   ·rw[e,B4 hx];exact hv x (ql ..)
   ·rw[BM e];exact h k h1 h2
  ·show(v.value.set x.natAbs 0).getD y.natAbs 0=1∨(v.value.set x.natAbs 0).getD y.natAbs 0=-1
   rw[BM fun e=>hd.1 (by rw[← e];exact List.mem_map_of_mem hy)]
   exact hv y (qo _ hy)
theorem CT.back {n : Nat} {v : Sv} (h : CT n v) {k : Nat} {t : Int} (hk : v.limits[k]? = some t) : CT n (Ax    v k) ∧ (Ax    v k).trail = v.trail.take t.toNat ∧ (Ax    v k).limits = v.limits.take k ∧ (Ax    v k).head = t ∧ (Ez      n v → Ez      n (Ax    v k)) := by
  have hkl:=AZ hk
  have htm:t∈v.limits:=qj hk
  have ht0:=h.lim t htm
  have htl:=h.below t htm
  have hgd:v.limits.getD k 0=t:=FA hk
  have e:Ax v k=IK v t.toNat k:=by
    unfold Ax
    rw[if_neg (by omega),hgd]
  rw[e]
  have hz:=h.inv.fit.siz
  have hsplit:v.trail=v.trail.take t.toNat++v.trail.drop t.toNat:=(sN _ _).symm
  have hnd:=h.inv.nodup
  rw[hsplit,rN,rt]at hnd
  obtain⟨nd1,nd2,nd3⟩:=hnd
  have hDm:∀x∈v.trail.drop t.toNat,x∈v.trail:=fun x hx=>sY hx
  have hAm:∀x∈v.trail.take t.toNat,x∈v.trail:=fun x hx=>rF hx
  have hDl:∀x∈v.trail.drop t.toNat,x.natAbs<n+1:=fun x hx=>by have:=(h.inv.fit.lits x (hDm x hx)).2;omega
  obtain⟨ph,va,wh,ef,z1,z2,z3⟩:=HA (v.trail.drop t.toNat) v
  have hval:=RQ (v.trail.drop t.toNat) v (fun x hx=>by rw[hz.value];exact hDl x hx)
  have hwhy:=RR (v.trail.drop t.toNat) v (fun x hx=>by rw[hz.why];exact hDl x hx)
  have hphase:=fun hp:Ez n v=>Mn (v.trail.drop t.toNat) v hp nd2 (fun x hx=>by
    have:=h.inv.holds x (hDm x hx)
    rw[this]
    rcases K4 x with q | q<;>rw[q]<;>simp) (fun x hx=>by rw[hz.phase];exact hDl x hx)
  have notD:∀x∈v.trail.take t.toNat,x.natAbs ∉ (v.trail.drop t.toNat).map Int.natAbs:=fun x hx q=>nd3 _ (List.mem_map_of_mem hx) _ q rfl
  unfold IK
  rw[ef]at hval hwhy hphase ⊢
  have hlt:(v.trail.take t.toNat).length=t.toNat:=by rw[rK];omega
  have hlim:∀x∈v.limits.take k,x<t:=(CZ h.sorted hk).1
  have hinv:BO n { v with phase:=ph,value:=va,why:=wh,trail:=v.trail.take t.toNat,limits:=v.limits.take k,head:=(t.toNat:Int) }:=by
    refine⟨⟨⟨hz.small,hz.w,z2.trans hz.value,hz.level,z3.trans hz.why,hz.heat,z1.trans hz.phase,?_,?_⟩,?_,?_,?_⟩,nd1,?_,?_,h.inv.wc⟩
    · show(v.trail.take _).length≤n
      have:=hz.trail
      omega
    · show(v.limits.take _).length≤n
      have:=hz.limits
      rw[rK];omega
    · intro y hy
      obtain⟨j,hj,ej⟩:=sH hy
      have hj':va.getD j 0=y:=by rw[rB,qp hj,ej];rfl
      have:=hval j
      dsimp only at this
      rw[hj']at this
      rw[this]
      split
      · exact .inr (.inl rfl)
      · exact h.inv.fit.val.get j
    · intro x hx;exact h.inv.fit.lits x (hAm x hx)
    · intro x hx
      have:=hlim x hx
      have h0:=h.lim x (rF hx)
      refine⟨h0,?_⟩
      show x≤((v.trail.take t.toNat).length:Int)
      rw[hlt];omega
    · intro x hx
      show va.getD x.natAbs 0=Ty x
      have:=hval x.natAbs
      dsimp only at this
      rw[this,if_neg (notD x hx)]
      exact h.inv.holds x (hAm x hx)
    · intro j hj
      show va.getD j 0=0
      have:=hval j
      dsimp only at this
      rw[this]
      by_cases q:j∈(v.trail.drop t.toNat).map Int.natAbs
      · rw[if_pos q]
      · rw [if_neg q]
        refine h.inv.open_ j fun x hx e=>?_
        rw[hsplit]at hx
        rcases sE.1 hx with hx | hx
        · exact hj x hx e
        · exact q (by rw[← e];exact List.mem_map_of_mem hx)
  refine⟨⟨hinv,?_,?_,?_,?_,h.cls⟩,rfl,rfl,?_,hphase⟩
  · exact h.sorted.sublist (List.take_sublist _ _)
  · intro x hx
    show x<((v.trail.take t.toNat).length:Int)
    rw[hlt]
    have:=hlim x hx
    omega
  · intro i x hx
    have hx:(v.trail.take t.toNat)[i]? = some x:=hx
    have hil:=AZ hx
    rw[rg (by omega)]at hx
    show v.level.getD x.natAbs 0=(Hj (v.limits.take k) i:Int)
    rw[h.lev i x hx,(MO h.sorted hk (by omega)).1]
  · intro i x hx
    have hx':(v.trail.take t.toNat)[i]? = some x:=hx
    have hil:=AZ hx'
    have hmem:=qj hx'
    have hx:v.trail[i]? = some x:=by rw[rg (by omega)]at hx';exact hx'
    have hw:wh.getD x.natAbs none=v.why.getD x.natAbs none:=by
      have:=hwhy x.natAbs
      dsimp only at this
      rw[this,if_neg (notD x hmem)]
    show(wh.getD x.natAbs none=none∧(i:Int)∈v.limits.take k)∨∃c ls b,wh.getD x.natAbs none=some c∧v.cl c=some (ls,b)∧ls.getD 0 0=x∧∀y∈ls,y≠x→-y∈(v.trail.take t.toNat).take i
    rw[hw,sZ,sJ (by omega)]
    rcases h.why i x hx with⟨q1,q2⟩ | q
    · refine .inl ⟨q1,?_⟩
      obtain⟨m,hm⟩:=Cj.1 q2
      refine B5.2 ⟨m,?_,hm⟩
      rcases qk m k with hmk | hmk
      · exact hmk
      · exfalso
        have:(i:Int)∈v.limits.drop k:=by
          rw[Cj]
          exact⟨m - k,by rw[rQ,show k+(m - k)=m by omega];exact hm⟩
        have:=(CZ h.sorted hk).2 _ this
        omega
    · exact .inr q
  · show(t.toNat:Int)=t
    omega
theorem NF{v:Sv}{k:Nat}(h:v.limits.length≤k):Ax v k=v:=by unfold Ax;rw[if_pos h]
abbrev lv(v:Sv)(x:Int):Int:=v.level.getD x.natAbs 0
def Hr(v:Sv)(h:Nat)(ls:List Int):Prop:=(-(ls.getD 0 0)∈v.trail.take h→ls.getD 1 0∈v.trail∧lv v (ls.getD 1 0)≤lv v (ls.getD 0 0))∧(-(ls.getD 1 0)∈v.trail.take h→ls.getD 0 0∈v.trail∧lv v (ls.getD 0 0)≤lv v (ls.getD 1 0))
theorem Fy{l:List Int}{i j:Nat}(h:i≤j){x:Int}(hx:x∈l.take i):x∈l.take j:=by
 obtain⟨k,h1,h2⟩:=B5.1 hx
 exact B5.2 ⟨k,by omega,h2⟩
theorem Hr.mono{v:Sv}{h h':Nat}{ls:List Int}(k:Hr v h ls)(hh:h'≤h):Hr v h' ls:=⟨fun q=>k.1 (Fy hh q),fun q=>k.2 (Fy hh q)⟩
structure CW(v:Sv)(h:Nat)(X:List Nat):Prop where
 wat:∀c ls b,v.cl c=some (ls,b)→2≤ls.length→c∈v.watches.getD (place (ls.getD 0 0)) []∧c∈v.watches.getD (place (ls.getD 1 0)) []
 wcl:∀ (k:Nat) c ls b,c∈v.watches.getD k []→v.cl c=some (ls,b)→k=place (ls.getD 0 0)∨k=place (ls.getD 1 0)
 wnd:∀k,(v.watches.getD k []).Nodup
 wok:∀c ls b,v.cl c=some (ls,b)→2≤ls.length→Hr v (h - 1) ls∧(c ∉ X→Hr v h ls)
theorem CW.weak{v:Sv}{h h':Nat}{X:List Nat}(k:CW v h X)(hh:h'≤h - 1):CW v h' []:=
 ⟨k.wat,k.wcl,k.wnd,fun c ls b hc h2=>⟨(k.wok c ls b hc h2).1.mono (by omega),fun _=>(k.wok c ls b hc h2).1.mono hh⟩⟩
theorem CW.less{v:Sv}{h h':Nat}(k:CW v h [])(hh:h'≤h):CW v h' []:=
 ⟨k.wat,k.wcl,k.wnd,fun c ls b hc h2=>⟨((k.wok c ls b hc h2).2 (by simp)).mono (by omega),fun _=>((k.wok c ls b hc h2).2 (by simp)).mono hh⟩⟩
def CQ(a b:Nat→Option B3):Prop:=∀c,(a c=none→b c=none)∧∀ls t,a c=some (ls,t)→∃ls',b c=some (ls',t)∧ls'.Perm ls
theorem CQ.refl(a:Nat→Option B3):CQ a a:=fun c=>⟨fun h=>h,fun ls t h=>⟨ls,h,List.Perm.refl _⟩⟩
theorem CQ.trans{a b d:Nat→Option B3}(h:CQ a b)(k:CQ b d):CQ a d:=fun c=>⟨fun q=>(k c).1 ((h c).1 q),fun ls t q=>by
 obtain⟨l1,q1,q2⟩:=(h c).2 ls t q
 obtain⟨l2,q3,q4⟩:=(k c).2 l1 t q1
 exact⟨l2,q3,q4.trans q2⟩⟩
theorem CQ.back{a b:Nat→Option B3}(h:CQ a b){c:Nat}{ls:List Int}{t:Bool×Bool}(k:b c=some (ls,t)):∃ls',a c=some (ls',t)∧ls.Perm ls':=by
 cases hc:a c with
 | none=>rw[(h c).1 hc]at k;cases k
 | some l =>
  obtain⟨ls',t'⟩:=l
  obtain⟨l2,q1,q2⟩:=(h c).2 ls' t' hc
  rw[k]at q1
  injection q1 with q1
  injection q1 with q1 q1'
  subst q1;subst q1'
  exact⟨ls',rfl,q2⟩
theorem CQ.put{a:Nat→Option B3}{c:Nat}{ls ls':List Int}{t:Bool×Bool}(h:a c=some (ls,t))(hp:ls'.Perm ls):CQ a (Aj a c (ls',t)):=fun d=>by
  unfold Aj
  by_cases e:d=c
  · rw [if_pos e, e]
    refine⟨fun q=>(by rw[h]at q;cases q),fun ms u q=>?_⟩
    rw[h]at q
    injection q with q
    injection q with q1 q2
    subst q1;subst q2
    exact⟨ls',rfl,hp⟩
  · rw[if_neg e]
    exact⟨fun q=>q,fun ms u q=>⟨ms,q,List.Perm.refl _⟩⟩
structure FM(v v':Sv):Prop where
 tr:∃T,v'.trail=v.trail++T
 lev:∀x,(x∈v.trail∨-x∈v.trail)→lv v' x=lv v x
 cl:CQ v.cl v'.cl
 limits:v'.limits=v.limits
 learned:v'.learned=v.learned
 heat:v'.heat=v.heat
 phase:v'.phase=v.phase
 broken:v'.broken=v.broken
 model:v'.model=v.model
 trace:v'.trace=v.trace
 many:v'.many=v.many
 room:v'.room=v.room
theorem FM.refl(v:Sv):FM v v:=⟨⟨[],(rl _).symm⟩,fun _ _=>rfl,CQ.refl _,rfl,rfl,rfl,rfl,rfl,rfl,rfl,rfl,rfl⟩
theorem FM.mem{v v':Sv}(h:FM v v'){x:Int}(hx:x∈v.trail):x∈v'.trail:=by
 obtain⟨T,e⟩:=h.tr
 rw[e];exact qt _ hx
theorem FM.trans{v v1 v2:Sv}(h:FM v v1)(k:FM v1 v2):FM v v2:=by
 obtain⟨T,e⟩:=h.tr
 obtain⟨U,f⟩:=k.tr
 exact⟨⟨T++U,by rw[f,e,rZ]⟩,fun x hx=>(k.lev x (hx.imp h.mem h.mem)).trans (h.lev x hx),h.cl.trans k.cl,k.limits.trans h.limits,k.learned.trans h.learned,k.heat.trans h.heat,k.phase.trans h.phase,k.broken.trans h.broken,k.model.trans h.model,k.trace.trans h.trace,k.many.trans h.many,k.room.trans h.room⟩
theorem FM.of{v v' w w':Sv}(h:FM v v')(a1:w.trail=v.trail)(a2:w.level=v.level)(a3:w.cl=v.cl)(a4:w.limits=v.limits)(a5:w.learned=v.learned)(a6:w.heat=v.heat)(a7:w.phase=v.phase)(a8:w.broken=v.broken)(a9:w.model=v.model)(a10:w.trace=v.trace)(a11:w.many=v.many)(a12:w.room=v.room)
  (b1:w'.trail=v'.trail) (b2:w'.level=v'.level) (b3:w'.cl=v'.cl) (b4:w'.limits=v'.limits) (b5:w'.learned=v'.learned) (b6:w'.heat=v'.heat) (b7:w'.phase=v'.phase) (b8:w'.broken=v'.broken) (b9:w'.model=v'.model) (b10:w'.trace=v'.trace) (b11:w'.many=v'.many) (b12:w'.room=v'.room):FM w w':=
 ⟨by rw[a1,b1];exact h.tr,by unfold lv;rw[a1,a2,b2];exact h.lev,by rw[a3,b3];exact h.cl,by rw[a4,b4];exact h.limits,by rw[a5,b5];exact h.learned,by rw[a6,b6];exact h.heat,by rw[a7,b7];exact h.phase,by rw[a8,b8];exact h.broken,by rw[a9,b9];exact h.model,by rw[a10,b10];exact h.trace,by rw[a11,b11];exact h.many,by rw[a12,b12];exact h.room⟩
theorem If{ls:List Int}{i j:Nat}(hi:i<ls.length)(hj:j<ls.length):(A5 ls i j).Perm ls:=by
 have:=List.set_set_perm hi hj
 unfold A5
 rw[rB,rB,qp hi,qp hj]
 exact this
theorem VH{ls:List Int}{i j:Nat}(hj:j<ls.length):(A5 ls i j).getD j 0=ls.getD i 0:=by
 unfold A5
 rw[B4 (by rw[qr];exact hj)]
theorem PF{ls:List Int}{i j:Nat}(hi:i<ls.length)(hne:i≠j):(A5 ls i j).getD i 0=ls.getD j 0:=by
 unfold A5
 rw[BM hne,B4 hi]
theorem RP{ls:List Int}{i j k:Nat}(h1:k≠i)(h2:k≠j):(A5 ls i j).getD k 0=ls.getD k 0:=by
 unfold A5
 rw[BM h2,BM h1]
theorem EN{ls:List Int}(h:(ls.map Int.natAbs).Nodup){i j:Nat}(hi:i<ls.length)(hj:j<ls.length)(e:(ls.getD i 0).natAbs=(ls.getD j 0).natAbs):i=j:=by
 refine(List.getElem?_inj (by rw[qi];exact hi) h).1 ?_
 rw[rX,rX,AT (d:=(0:Int)) hi,AT (d:=(0:Int)) hj]
 show some _=some _
 rw[e]
theorem L5{val:List Int}:∀ {l:List Int}{k:Nat},C6 val l k=none→∀y∈l,Go.Proofs.Ytilhhmkdcoajnaa.Am.isV val y<0
  | [],k,_,y,hy=>by cases hy
  | x::l,k,h,y,hy=>by
    unfold C6 at h
    split at h
    · cases h
    · rename_i hx
      rcases rI.1 hy with e | e
      · rw[e];omega
      · exact L5 h y e
theorem U3{ls:List Int}(h2:2≤ls.length){y:Int}(hy:y∈ls):y=ls.getD 0 0∨y=ls.getD 1 0∨y∈ls.drop 2:=by
 obtain⟨i,hi,e⟩:=sH hy
 have hg:ls[i]? = some y:=by rw[qp hi,e]
 match i,hg with
 | 0,hg=>exact .inl (FA hg).symm
 | 1,hg=>exact .inr (.inl (FA hg).symm)
 | i+2,hg=>exact .inr (.inr (qj (i:=i) (by rw[rQ,show 2+i=i+2 by omega];exact hg)))
theorem Vj{W:List (List Nat)}{w k:Nat}{M:List Nat}(hw:w<W.length):(W.set w M).getD k []=if k=w then M else W.getD k []:=GB hw
theorem I8{W:List (List Nat)}{w k c:Nat}(hw:w<W.length):(Dm W w c).getD k []=if k=w then W.getD w []++[c]else W.getD k []:=GB hw
def EA(v:Sv)(w:Nat)(M:List Nat):Sv:=setW v (v.watches.set w M)
def F3(v:Sv)(c:Nat)(l:Int):Prop:=∃ls b,v.cl c=some (ls,b)∧2≤ls.length∧(∀y∈ls,-y∈v.trail)∧l∈ls
theorem Gc{v:Sv}{w k:Nat}{M:List Nat}(hw:w<v.watches.length):(EA v w M).watches.getD k []=if k=w then M else v.watches.getD k []:=Vj hw
theorem mg{ls:List Int}(h2:2≤ls.length)(hnd:(ls.map Int.natAbs).Nodup){l:Int}(hl:l=ls.getD 0 0∨l=ls.getD 1 0):
    (if ls.getD 0 0=l then A5 ls 0 1 else ls).Perm ls∧(if ls.getD 0 0=l then A5 ls 0 1 else ls).getD 1 0=l∧((if ls.getD 0 0=l then A5 ls 0 1 else ls).getD 0 0=ls.getD 1 0∧l=ls.getD 0 0∨(if ls.getD 0 0=l then A5 ls 0 1 else ls)=ls∧l=ls.getD 1 0):=by
  by_cases h:ls.getD 0 0=l
  · rw[if_pos h]
    exact⟨If (by omega) (by omega),by rw[VH (by omega)];exact h,.inl ⟨PF (by omega) (by omega),h.symm⟩⟩
  · rw [if_neg h]
    rcases hl with e | e
    · exact absurd e.symm h
    · exact⟨List.Perm.refl _,e.symm,.inr ⟨rfl,e⟩⟩
theorem CW.clause{v v':Sv}{h:Nat}{X X':List Nat}{c:Nat}{ls ls':List Int}{b:Bool×Bool}(hW:CW v h X)(hX:∀d,d≠c→(d∈X→d∈X'))(hc:v.cl c=some (ls,b))(hcl:v'.cl=Aj v.cl c (ls',b))(hw:v'.watches=v.watches)(hlen:ls'.length=ls.length)
    (hp:(place (ls'.getD 0 0)=place (ls.getD 0 0)∧place (ls'.getD 1 0)=place (ls.getD 1 0))∨(place (ls'.getD 0 0)=place (ls.getD 1 0)∧place (ls'.getD 1 0)=place (ls.getD 0 0)))
    (hother:∀d ms t,d≠c→v.cl d=some (ms,t)→2≤ms.length→∀hh,hh≤h→Hr v hh ms→Hr v' hh ms) (hself:2≤ls.length→Hr v' (h - 1) ls'∧(c ∉ X'→Hr v' h ls')):CW v' h X':=by
  have get:∀ {d:Nat} {ms:List Int} {t:Bool×Bool},v'.cl d=some (ms,t)→(d=c∧ms=ls'∧t=b)∨(d≠c∧v.cl d=some (ms,t)):=by
    intro d ms t hd
    rw[hcl]at hd
    unfold Aj at hd
    by_cases e:d=c
    · rw[if_pos e]at hd
      injection hd with hd
      injection hd with q1 q2
      exact .inl ⟨e,q1.symm,q2.symm⟩
    · rw[if_neg e]at hd
      exact .inr ⟨e,hd⟩
  refine⟨fun d ms t hd h2=>?_,fun k d ms t hk hd=>?_,fun k=>by rw[hw];exact hW.wnd k,fun d ms t hd h2=>?_⟩
  · rw [hw]
    rcases get hd with⟨rfl,rfl,rfl⟩ | ⟨e,q⟩
    · have:=hW.wat d ls t hc (by omega)
      rcases hp with⟨p1,p2⟩ | ⟨p1,p2⟩
      · rw[p1,p2];exact this
      · rw[p1,p2];exact⟨this.2,this.1⟩
    · exact hW.wat d ms t q h2
  · rw [hw] at hk
    rcases get hd with⟨rfl,rfl,rfl⟩ | ⟨e,q⟩
    · have:=hW.wcl k d ls t hk hc
      rcases hp with⟨p1,p2⟩ | ⟨p1,p2⟩
      · rw[p1,p2];exact this
      · rw[p1,p2];exact this.symm
    · exact hW.wcl k d ms t hk q
  · rcases get hd with ⟨rfl, rfl, rfl⟩ | ⟨e, q⟩
    · exact hself (by omega)
    · obtain⟨r1,r2⟩:=hW.wok d ms t q h2
      exact⟨hother d ms t e q h2 _ (by omega) r1,fun hx=>hother d ms t e q h2 _ (qg _) (r2 fun hd'=>hx (hX d e hd'))⟩
theorem cP       {n h : Nat} {v : Sv} {c : Nat} {l : Int} {ls : List Int} {b : Bool × Bool} {K rest : List Nat} (hC : CT n v) (hW : CW (EA    v (place l) (K ++ c :: rest)) h (c :: rest)) (h1 : 1 ≤ h) (hh : h ≤ v.trail.length) (hl : v.trail[h - 1]? = some (-l)) (hll : lv v l = (v.limits.length : Int)) (hc : v.cl c = some (ls, b)) (h2 : 2 ≤ ls.length) (hwl : place l < v.watches.length) :
    FM v (Af v c l ls b).2.2∧CT n (Af v c l ls b).2.2 ∧
    ((Af v c l ls b).2.1=false→CW (EA (Af v c l ls b).2.2 (place l) ((if (Af v c l ls b).1=true then K++[c]else K)++rest)) h rest) ∧
    ((Af v c l ls b).2.1=true→(Af v c l ls b).1=true∧CW (EA (Af v c l ls b).2.2 (place l) (K++c::rest)) h (c::rest)∧F3 (Af v c l ls b).2.2 c l):=by
  obtain⟨hcl,hne,hnd,hgone⟩:=hC.cls c ls b hc
  have hi:=hC.inv
  have hlt:-l∈v.trail:=qj hl
  have hl0:l≠0:=by have:=(hi.fit.lits _ hlt).1;omega
  have hlf:l ∉ v.trail:=fun q=>hi.two q hlt
  have hlh:-l∈v.trail.take h:=B5.2 ⟨h - 1,by omega,hl⟩
  have hn0:∀k,k<ls.length→ls.getD k 0≠0:=fun k hk=>(hcl.get hk).1
  have hcv:(EA v (place l) (K++c::rest)).cl c=some (ls,b):=hc
  have hlw:l=ls.getD 0 0∨l=ls.getD 1 0:=by
    rcases hW.wcl (place l) c ls b (by rw[Gc hwl,if_pos rfl];simp) hcv with q | q
    · exact .inl (EP hl0 (hn0 0 (by omega)) q)
    · exact .inr (EP hl0 (hn0 1 (by omega)) q)
  have hKnd:(K++c::rest).Nodup:=by
    have:=hW.wnd (place l)
    rw[Gc hwl,if_pos rfl]at this
    exact this
  have hcK:c ∉ K∧c ∉ rest:=by
    rw[rt]at hKnd
    exact⟨fun q=>hKnd.2.2 c q c (ql ..) rfl,(sR.1 hKnd.2.1).1⟩
  unfold Af
  rw[if_neg (by rw[hgone];decide)]
  dsimp only
  obtain⟨hp,hg1,hturn⟩:=mg h2 hnd hlw
  generalize (if ls.getD 0 0=l then A5 ls 0 1 else ls)=ls1 at hp hg1 hturn ⊢
  have hl1:ls1.length=ls.length:=hp.length_eq
  have hcl1:BR n ls1:=⟨fun y hy=>hcl.1 y (hp.mem_iff.1 hy),by rw[hl1];exact hcl.2⟩
  have hnd1:(ls1.map Int.natAbs).Nodup:=((hp.map _).nodup_iff).2 hnd
  have hw0:ls1.getD 0 0≠0:=(hcl1.get (k:=0) (by omega)).1
  have hwl':ls1.getD 0 0≠l:=fun e=>by
    have:=EN hnd1 (i:=0) (j:=1) (by omega) (by omega) (by rw[e,hg1])
    cases this
  have hpp:(place (ls1.getD 0 0)=place (ls.getD 0 0)∧place (ls1.getD 1 0)=place (ls.getD 1 0))∨(place (ls1.getD 0 0)=place (ls.getD 1 0)∧place (ls1.getD 1 0)=place (ls.getD 0 0)):=by
    rcases hturn with⟨q1,q2⟩ | ⟨q1,q2⟩
    · exact .inr ⟨by rw[q1],by rw[hg1,← q2]⟩
    · rw[q1];exact .inl ⟨rfl,rfl⟩
  have hwokm:Hr v (h - 1) ls1:=by
    have:=(hW.wok c ls b hcv h2).1
    have this:Hr v (h - 1) ls:=this
    rcases hturn with⟨q1,q2⟩ | ⟨q1,q2⟩
    · unfold Hr
      rw[q1,hg1,q2]
      exact⟨this.2,this.1⟩
    · rw[q1];exact this
  have hCT1:CT n { v with cl:=Aj v.cl c (ls1,b) }:=hC.perm hc hp (fun q=>by
    rcases hturn with⟨q1,q2⟩ | ⟨q1,q2⟩
    · rw[← q2]at q;exact absurd q hlf
    · rw[q1]) (hi.swap hc hcl1 (by omega))
  have hP1:FM v { v with cl:=Aj v.cl c (ls1,b) }:=⟨⟨[],(rl _).symm⟩,fun _ _=>rfl,CQ.put hc hp,rfl,rfl,rfl,rfl,rfl,rfl,rfl,rfl,rfl⟩
  have hcl1':({ v with cl:=Aj v.cl c (ls1,b) }:Sv).cl c=some (ls1,b):=BJ _ _ _
  have stayW:∀ (v':Sv) (X':List Nat),v'.cl=Aj v.cl c (ls1,b)→v'.watches=v.watches→(∀d,d≠c→(d∈c::rest→d∈X'))→(∀ (ms:List Int) hh,hh≤h→Hr v hh ms→Hr v' hh ms)→(Hr v' (h - 1) ls1∧(c ∉ X'→Hr v' h ls1))→CW (EA v' (place l) (K++c::rest)) h X':=by
    intro v' X' e1 e2 hX ho hs
    refine CW.clause hW hX hcv e1 (by show v'.watches.set _ _=v.watches.set _ _;rw[e2]) hl1 hpp (fun d ms t hd q q2 hh hh' hok=>ho ms hh hh' hok) (fun _=>hs)
  have e4:∀ (v':Sv),K++[c]++rest=K++c::rest:=fun _=>by simp
  by_cases hpos:0<Go.Proofs.Ytilhhmkdcoajnaa.Am.isV v.value (ls1.getD 0 0)
  ·
    rw[if_pos hpos]
    refine⟨hP1,hCT1,fun _=>?_,fun q=>by cases q⟩
    have hin:=(hi.pos hw0).1 hpos
    show CW (EA _ (place l) ((if true=true then K++[c]else K)++rest)) h rest
    rw[if_pos rfl,e4 v]
    refine stayW _ rest rfl rfl (fun d hd q=>(rI.1 q).resolve_left hd) (fun ms hh hh' hok=>hok) ⟨hwokm,fun _=>⟨fun q=>?_,fun _=>⟨hin,?_⟩⟩⟩
    · exact(hi.two hin (rF q)).elim
    · rw[hg1]
      obtain⟨i,e⟩:=Cj.1 hin
      have:=hC.lev i _ e
      show lv v (ls1.getD 0 0)≤lv v l
      rw[hll]
      unfold lv
      rw[this]
      have:=Tk v.limits i
      omega
  · rw[if_neg hpos]
    have hwnt:ls1.getD 0 0 ∉ v.trail:=fun q=>hpos ((hi.pos hw0).2 q)
    cases hfm:C6 v.value (ls1.drop 2) 2 with
    | some i =>
      dsimp only
      have hil:=I5 hfm
      rw[rV]at hil
      obtain⟨y,hy1,hy2,hy3⟩:=Jz hfm
      rw[rQ,show 2+(i - 2)=i by omega]at hy1
      have hgy:ls1.getD i 0=y:=FA hy1
      have hVy:=hcl1.get (k:=i) (by omega)
      rw[hgy]at hVy
      have hyn:-y ∉ v.trail:=fun q=>by
        have:=(hi.neg hVy.1).2 q
        omega
      have hyw:place y≠place (ls1.getD 0 0):=fun e=>by
        have:=EP hVy.1 hw0 e
        have:=EN hnd1 (i:=i) (j:=0) (by omega) (by omega) (by rw[hgy,this])
        omega
      have hyl:place y≠place l:=fun e=>by
        have:=EP hVy.1 hl0 e
        have:=EN hnd1 (i:=i) (j:=1) (by omega) (by omega) (by rw[hgy,this,hg1])
        omega
      have hwpl:place (ls1.getD 0 0)≠place l:=fun e=>hwl' (EP hw0 hl0 e)
      have hyb:place y<v.watches.length:=by
        rw[hi.fit.siz.w]
        exact VL.place hVy
      have hsp:(A5 ls1 1 i).Perm ls1:=If (by omega) (by omega)
      have hs0:(A5 ls1 1 i).getD 0 0=ls1.getD 0 0:=RP (by omega) (by omega)
      have hs1:(A5 ls1 1 i).getD 1 0=y:=by rw[PF (by omega) (by omega)];exact hgy
      have hmi:=hCT1.inv.move hcl1' hcl1 (by omega) (i:=i) (by omega)
      have hcM:({ v with cl:=Aj v.cl c (ls1,b) }:Sv).cl c=some (ls1,b):=hcl1'
      have hclM:(DS { v with cl:=Aj v.cl c (ls1,b) } c ls1 b i).cl=Aj v.cl c (A5 ls1 1 i,b):=by
        show Aj (Aj v.cl c (ls1,b)) c _=_
        rw[Ju]
      have hwM:(DS { v with cl:=Aj v.cl c (ls1,b) } c ls1 b i).watches=Dm v.watches (place y) c:=by
        show Dm v.watches (place (ls1.getD i 0)) c=_
        rw[hgy]
      have hCTM:CT n (DS { v with cl:=Aj v.cl c (ls1,b) } c ls1 b i):=by
        have hiM:BO n { v with cl:=Aj v.cl c (A5 ls1 1 i,b) }:=hi.swap hc (hcl1.swap (by omega) (by omega)) (by rw[DM,hl1];exact h2)
        have:=hC.perm (ls':=A5 ls1 1 i) hc (hsp.trans hp) (fun q=>by
          rw[hs0]
          rcases hturn with⟨q1,q2⟩ | ⟨q1,q2⟩
          · rw[← q2]at q;exact absurd q hlf
          · rw[q1]) hiM
        exact this.of hmi rfl rfl rfl rfl hclM
      refine⟨⟨⟨[],(rl _).symm⟩,fun _ _=>rfl,by rw[hclM];exact CQ.put hc (hsp.trans hp),rfl,rfl,rfl,rfl,rfl,rfl,rfl,rfl,rfl⟩,hCTM,fun _=>?_,fun q=>by cases q⟩
      show CW (EA (DS { v with cl:=Aj v.cl c (ls1,b) } c ls1 b i) (place l) ((if false=true then K++[c]else K)++rest)) h rest
      rw[if_neg (by decide)]
      have hlist:∀k,(EA (DS { v with cl:=Aj v.cl c (ls1,b) } c ls1 b i) (place l) (K++rest)).watches.getD k []=if k=place l then K++rest else if k=place y then v.watches.getD (place y) []++[c]else v.watches.getD k []:=by
        intro k
        rw[Gc (by rw[hwM,D9];exact hwl),hwM,I8 hyb]
      have hold:∀k,(EA v (place l) (K++c::rest)).watches.getD k []=if k=place l then K++c::rest else v.watches.getD k []:=fun k=>Gc hwl
      have hold':∀k,k≠place l→(EA v (place l) (K++c::rest)).watches.getD k []=v.watches.getD k []:=fun k hk=>by rw[hold,if_neg hk]
      have hcy:c ∉ v.watches.getD (place y) []:=fun q=>by
        rcases hW.wcl (place y) c ls b (by rw[hold' _ hyl];exact q) hcv with e | e
        · rcases hpp with ⟨p1, p2⟩ | ⟨p1, p2⟩
          · rw[← p1]at e;exact hyw e
          · rw[← p2,hg1]at e;exact hyl e
        · rcases hpp with ⟨p1, p2⟩ | ⟨p1, p2⟩
          · rw[← p2,hg1]at e;exact hyl e
          · rw[← p1]at e;exact hyw e
      have hcw:c∈v.watches.getD (place (ls1.getD 0 0)) []:=by
        have:=hW.wat c ls b hcv h2
        rw[← hold' _ hwpl]
        rcases hpp with⟨p1,p2⟩ | ⟨p1,p2⟩
        · rw[p1];exact this.1
        · rw[p1];exact this.2
      have get:∀ {d:Nat} {ms:List Int} {t:Bool×Bool},Aj v.cl c (A5 ls1 1 i,b) d=some (ms,t)→(d=c∧ms=A5 ls1 1 i∧t=b)∨(d≠c∧v.cl d=some (ms,t)):=by
        intro d ms t hd
        unfold Aj at hd
        by_cases e:d=c
        · rw[if_pos e]at hd
          injection hd with hd
          injection hd with q1 q2
          exact .inl ⟨e,q1.symm,q2.symm⟩
        · rw[if_neg e]at hd
          exact .inr ⟨e,hd⟩
      refine⟨fun d ms t hd KP=>?_,fun k d ms t hk hd=>?_,fun k=>?_,fun d ms t hd KP=>?_⟩
      · have hd : Aj    v.cl c (A5    ls1 1 i, b) d = some (ms, t) := by rw [← hclM]; exact hd
        rcases get hd with⟨rfl,rfl,rfl⟩ | ⟨e,q⟩
        · rw[hs0,hs1,hlist,hlist,if_neg hwpl,if_neg (fun e=>hyw e.symm),if_neg hyl,if_pos rfl]
          exact⟨hcw,by simp⟩
        · have hw := hW.wat d ms t q KP
          have step:∀k,d∈(EA v (place l) (K++c::rest)).watches.getD k []→d∈(EA (DS { v with cl:=Aj v.cl c (ls1,b) } c ls1 b i) (place l) (K++rest)).watches.getD k []:=by
            intro k hk
            rw[hlist]
            rw[hold]at hk
            split
            · rename_i hkl
              rw[if_pos hkl]at hk
              simp only[sE,rI]at hk ⊢
              rcases hk with q | q | q
              · exact .inl q
              · exact absurd q e
              · exact .inr q
            · rename_i hkl
              rw[if_neg hkl]at hk
              split
              · rename_i hky
                rw[hky]at hk
                exact qt _ hk
              · exact hk
          exact⟨step _ hw.1,step _ hw.2⟩
      · have hd : Aj    v.cl c (A5    ls1 1 i, b) d = some (ms, t) := by rw [← hclM]; exact hd
        rw[hlist]at hk
        rcases get hd with⟨rfl,rfl,rfl⟩ | ⟨e,q⟩
        · rw[hs0,hs1]
          by_cases k1:k=place l
          · rw [if_pos k1] at hk
            rcases sE.1 hk with q | q
            · exact absurd q hcK.1
            · exact absurd q hcK.2
          · rw[if_neg k1]at hk
            by_cases k2:k=place y
            · exact .inr k2
            · rw[if_neg k2]at hk
              have:=hW.wcl k d ls t (by rw[hold' _ k1];exact hk) hcv
              rcases hpp with⟨p1,p2⟩ | ⟨p1,p2⟩
              · rcases this with q | q
                · exact .inl (q.trans p1.symm)
                · exact absurd (q.trans (p2.symm.trans (by rw[hg1]))) k1
              · rcases this with q | q
                · exact absurd (q.trans (p2.symm.trans (by rw[hg1]))) k1
                · exact .inl (q.trans p1.symm)
        · refine hW.wcl k d ms t ?_ q
          rw[hold]
          split
          · rename_i k1
            rw[if_pos k1]at hk
            simp only[sE,rI]at hk ⊢
            rcases hk with q | q
            · exact .inl q
            · exact .inr (.inr q)
          · rename_i k1
            rw[if_neg k1]at hk
            split at hk
            · rename_i k2
              rcases sE.1 hk with q | q
              · rw[k2];exact q
              · exact absurd (si.1 q) e
            · exact hk
      · rw[hlist]
        split
        · rw [rt]                at hKnd ⊢
          refine⟨hKnd.1,(sR.1 hKnd.2.1).2,fun a ha d hd=>hKnd.2.2 a ha d (qo _ hd)⟩
        · rename_i k1
          have hkn:=hW.wnd k
          rw[hold' _ k1]at hkn
          split
          · rename_i k2
            rw[k2]at hkn
            rw[rt]
            refine⟨hkn,by simp,fun a ha d hd e=>?_⟩
            rw[si.1 hd]at e
            exact hcy (by rw[← e];exact ha)
          · exact hkn
      · have hd : Aj    v.cl c (A5    ls1 1 i, b) d = some (ms, t) := by rw [← hclM]; exact hd
        rcases get hd with⟨rfl,rfl,rfl⟩ | ⟨e,q⟩
        · have:Hr v h (A5 ls1 1 i):=by
            refine⟨fun q=>?_,fun q=>?_⟩
            · rw[hs0]at q
              exfalso
              obtain⟨j,hj,ej⟩:=B5.1 q
              by_cases hjh:j=h - 1
              · rw[hjh,hl]at ej
                injection ej with ej
                exact hwl' (by omega)
              · have:=(hwokm.1 (B5.2 ⟨j,by omega,ej⟩)).1
                rw[hg1]at this
                exact hlf this
            · rw[hs1]at q
              exact absurd (rF q) hyn
          exact⟨this.mono (by omega),fun _=>this⟩
        · obtain⟨r1,r2⟩:=hW.wok d ms t q KP
          exact⟨r1,fun hx=>r2 fun hd'=>hx ((rI.1 hd').resolve_left e)⟩
    | none =>
      dsimp only
      have hfalse:∀y∈ls1.drop 2,-y∈v.trail:=fun y hy=>(hi.neg (hcl1.1 y (sY hy)).1).1 (L5 hfm y hy)
      by_cases hneg:Go.Proofs.Ytilhhmkdcoajnaa.Am.isV v.value (ls1.getD 0 0)<0
      ·
        rw[if_pos hneg]
        refine⟨hP1,hCT1,fun q=>(by cases q),fun _=>⟨rfl,?_,ls1,b,hcl1',by omega,fun y hy=>?_,by rw[← hg1];exact qj (AT (by omega))⟩⟩
        · exact stayW _ (c::rest) rfl rfl (fun d hd q=>q) (fun ms hh hh' hok=>hok) ⟨hwokm,fun q=>absurd (ql ..) q⟩
        · rcases U3      (by omega) hy with e | e | e
          · rw[e];exact(hi.neg hw0).1 hneg
          · rw[e,hg1];exact hlt
          · exact hfalse y e
      ·
        rw[if_neg hneg]
        have hwn:-(ls1.getD 0 0) ∉ v.trail:=fun q=>hneg ((hi.neg hw0).2 q)
        have hz0:=hi.zero hw0 hwnt hwn
        have hVw:=hcl1.get (k:=0) (by omega)
        have hCTa:CT n (Bh { v with cl:=Aj v.cl c (ls1,b) } (ls1.getD 0 0) (some c)):=hCT1.assign hVw hz0 hcl1' rfl (fun y hy hyw=>by
          rcases U3 (by omega) hy with e | e | e
          · exact absurd e hyw
          · rw[e,hg1];exact hlt
          · exact hfalse y e)
        have habs:∀ {y:Int},(y∈v.trail∨-y∈v.trail)→y.natAbs≠(ls1.getD 0 0).natAbs:=by
          rintro y (hy | hy)
          · exact hi.abs_ne hz0 hy
          · have:=hi.abs_ne hz0 hy
            rw[rE]at this
            exact this
        have hlev:∀ {y:Int},(y∈v.trail∨-y∈v.trail)→lv (Bh { v with cl:=Aj v.cl c (ls1,b) } (ls1.getD 0 0) (some c)) y=lv v y:=fun hy=>by
          show(v.level.set _ _).getD _ 0=_
          rw[BM (habs hy)]
        refine⟨⟨⟨[ls1.getD 0 0],rfl⟩,fun y hy=>hlev hy,CQ.put hc hp,rfl,rfl,rfl,rfl,rfl,rfl,rfl,rfl,rfl⟩,hCTa,fun _=>?_,fun q=>by cases q⟩
        show CW (EA _ (place l) ((if true=true then K++[c]else K)++rest)) h rest
        rw[if_pos rfl,e4 v]
        have htk:∀hh,hh≤h→(v.trail++[ls1.getD 0 0]).take hh=v.trail.take hh:=fun hh hhh=>rM (by omega)
        have hoth:∀ (ms:List Int) hh,hh≤h→Hr v hh ms→Hr (Bh { v with cl:=Aj v.cl c (ls1,b) } (ls1.getD 0 0) (some c)) hh ms:=by
          intro ms hh hhh hok
          refine⟨fun q=>?_,fun q=>?_⟩
          · have q:-(ms.getD 0 0)∈(v.trail++[ls1.getD 0 0]).take hh:=q
            rw[htk hh hhh]at q
            obtain⟨k1,k2⟩:=hok.1 q
            refine⟨qt _ k1,?_⟩
            rw[hlev (.inl k1),hlev (.inr (rF q))]
            exact k2
          · have q:-(ms.getD 1 0)∈(v.trail++[ls1.getD 0 0]).take hh:=q
            rw[htk hh hhh]at q
            obtain⟨k1,k2⟩:=hok.2 q
            refine⟨qt _ k1,?_⟩
            rw[hlev (.inl k1),hlev (.inr (rF q))]
            exact k2
        refine stayW _ rest rfl rfl (fun d hd q=>(rI.1 q).resolve_left hd) hoth ⟨hoth ls1 _ (by omega) hwokm,fun _=>⟨fun q=>?_,fun _=>⟨rH _ (si.2 rfl),?_⟩⟩⟩
        · have q:-(ls1.getD 0 0)∈(v.trail++[ls1.getD 0 0]).take h:=q
          rw[htk h (qg _)]at q
          exact absurd (rF q) hwn
        · rw[hg1,hlev (.inr hlt),hll]
          show(v.level.set _ _).getD _ 0≤_
          rw[B4 (by rw[hi.fit.siz.level];have:=hVw.2;omega)]
          exact re _
theorem F3.more{v v':Sv}{c:Nat}{l:Int}(h:F3 v c l)(h1:v'.cl=v.cl)(h2:v'.trail=v.trail):F3 v' c l:=by
 obtain⟨ls,b,q1,q2,q3,q4⟩:=h
 exact⟨ls,b,by rw[h1];exact q1,q2,fun y hy=>by rw[h2];exact q3 y hy,q4⟩
theorem Nl        {n h : Nat} {l : Int} : ∀ (rest K : List Nat) (v : Sv), CT n v → CW (EA    v (place l) (K ++ rest)) h rest → 1 ≤ h → h ≤ v.trail.length → v.trail[h - 1]? = some (-l) → lv v l = (v.limits.length : Int) → WL n v rest → place l < v.watches.length → isV v.value l < 0 →
    FM v (BY l rest K v).2.2∧CT n (BY l rest K v).2.2∧((BY l rest K v).2.1=none→CW (EA (BY l rest K v).2.2 (place l) (BY l rest K v).1) h []) ∧
    (∀c,(BY l rest K v).2.1=some c→CW (EA (BY l rest K v).2.2 (place l) (BY l rest K v).1) (h - 1) []∧F3 (BY l rest K v).2.2 c l)
  | [],K,v,hC,hW,h1,hh,hl,hll,hr,hwl,hf=>⟨FM.refl v,hC,fun _=>by rw[rl]at hW;exact hW,fun c q=>by cases q⟩
  | c::rest,K,v,hC,hW,h1,hh,hl,hll,hr,hwl,hf=>by
    obtain⟨ls,b,hc,hcl,h2⟩:=hr c ql
    obtain⟨p1,p2,p3,p4⟩:=cP hC hW h1 hh hl hll hc h2 hwl
    obtain⟨t1,t2,t3,ls',t4,t5,t6⟩:=KJ hC.inv (C9.shortN _) hc hcl h2 (l:=l) (a:=(Af v c l ls b).1) (f:=(Af v c l ls b).2.1) (v':=(Af v c l ls b).2.2) rfl
    have hl0:l≠0:=by
      have:=(hC.inv.fit.lits _ (qj hl)).1
      omega
    unfold BY
    rw[hc]
    dsimp only
    generalize hr1:Af v c l ls b=r at p1 p2 p3 p4 t1 t2 t3 t4
    cases hfail:r.2.1 with
    | true =>
      obtain⟨k1,k2,k3⟩:=p4 hfail
      rw[if_pos rfl]
      have e:K++[c]++rest=K++c::rest:=by simp
      rw[k1,if_pos rfl,e]
      exact⟨p1,p2,fun q=>(by cases q),fun d q=>by
        injection q with q
        subst q
        exact⟨k2.weak (qg _),k3⟩⟩
    | false =>
      rw[if_neg (by decide)]
      have k3:=p3 hfail
      obtain⟨T,eT⟩:=p1.tr
      have hlr:r.2.2.trail[h - 1]? = some (-l):=by
        rw[eT,qv (by omega)];exact hl
      have hmem:-l∈v.trail:=qj hl
      have hfr:isV r.2.2.value l<0:=(p2.inv.neg hl0).2 (p1.mem hmem)
      have hwlr:WL n r.2.2 rest:=HV t3 ⟨ls',b,t4,t5,by omega⟩ fun d hd=>hr d (qo _ hd)
      obtain⟨q1,q2,q3,q4⟩:=Nl rest (if r.1=true then K++[c]else K) r.2.2 p2 k3 h1 (by rw[eT,qn];omega) hlr (by rw[p1.lev l (.inr hmem),p1.limits];exact hll) hwlr (by rw[t3.wlen];exact hwl) hfr
      exact⟨p1.trans q1,q2,q3,q4⟩
theorem cE{W:List (List Nat)}{w:Nat}(hw:w<W.length):W.set w (W.getD w [])=W:=by
 apply List.ext_getElem?
 intro i
 rw[qz]
 split
 ·rename_i e
  subst e
  first | rw[if_pos hw,AT (d:=[]) hw] | rw[AT (d:=[]) hw]
 ·rfl
theorem KX          {n B : Nat} {v : Sv} (hC : CT n v) (hW : CW v v.head.toNat []) (hB : Jc   n B v) (hlh : ∀ x ∈ v.limits, x ≤ v.head) (hh : v.head < (v.trail.length : Int)) :
    FM v (BV v).2∧CT n (BV v).2∧((BV v).1=none→CW (BV v).2 (BV v).2.head.toNat []∧(BV v).2.head=v.head+1) ∧
    ∀c,(BV v).1=some c→CW (BV v).2 v.head.toNat []∧∃l,F3 (BV v).2 c l∧lv (BV v).2 l=(v.limits.length:Int):=by
  obtain⟨hk1,hk2,hk3⟩:=Cz hB hh
  have h0:=hB.h0
  have hi:=hC.inv
  have hlt:v.head.toNat<v.trail.length:=by omega
  have hg:=AT (d:=(0:Int)) hlt
  have hy:v.trail.getD v.head.toNat 0∈v.trail:=qj hg
  have hVL:=hi.fit.lits _ hy
  have hwl:place (-(v.trail.getD v.head.toNat 0))<v.watches.length:=by
    rw[hi.fit.siz.w]
    exact VL.place ⟨by have:=hVL.1;omega,by have:=hVL.2;omega⟩
  generalize hyy:v.trail.getD v.head.toNat 0=y at *
  have hl0:-y≠0:=by have:=hVL.1;omega
  have hgl:=AT (d:=([]:List Nat)) hwl
  have hLw:WL n v (v.watches.getD (place (-y)) []):=hi.wc _ (qj hgl)
  have hiA:BO n (Ck v (place (-y))):=by
    obtain⟨⟨hz,hv,hli,hlm⟩,g2,g3,g4,g5⟩:=hi.setW (k:=place (-y)) (M:=[]) (fun d hd=>by cases hd)
    exact⟨⟨⟨hz.small,hz.w,hz.value,hz.level,hz.why,hz.heat,hz.phase,hz.trail,hz.limits⟩,hv,hli,hlm⟩,g2,g3,g4,g5⟩
  have hCA:CT n (Ck v (place (-y))):=hC.of hiA rfl rfl rfl rfl rfl
  have hyn:-y ∉ v.trail:=fun q=>hi.two hy q
  have hset:(v.watches.set (place (-y)) []).set (place (-y)) (v.watches.getD (place (-y)) [])=v.watches:=by
    rw[List.set_set,cE hwl]
  have hWA:CW (EA (Ck v (place (-y))) (place (-y)) ([]++v.watches.getD (place (-y)) [])) (v.head.toNat+1) (v.watches.getD (place (-y)) []):=by
    have ew:(EA (Ck v (place (-y))) (place (-y)) ([]++v.watches.getD (place (-y)) [])).watches=v.watches:=by
      show(v.watches.set (place (-y)) []).set (place (-y)) ([]++_)=v.watches
      rw[rL]
      exact hset
    refine⟨fun d ms t hd h2=>by rw[ew];exact hW.wat d ms t hd h2,fun k d ms t hk hd=>by rw[ew]at hk;exact hW.wcl k d ms t hk hd,fun k=>by rw[ew];exact hW.wnd k,fun d ms t hd h2=>?_⟩
    have hok:Hr v v.head.toNat ms:=(hW.wok d ms t hd h2).2 (by simp)
    refine⟨by rw[Nat.add_sub_cancel];exact hok,fun hx=>?_⟩
    have hdn:=(hC.cls d ms t hd).1
    have hwat:=hW.wat d ms t hd h2
    refine⟨fun q=>?_,fun q=>?_⟩
    · obtain⟨j,hj,ej⟩:=B5.1 q
      have ej:v.trail[j]? = some (-(ms.getD 0 0)):=ej
      by_cases e:j=v.head.toNat
      · exfalso
        rw[e,hg]at ej
        injection ej with ej
        have:ms.getD 0 0=-y:=by omega
        rw[this]at hwat
        exact hx hwat.1
      · exact hok.1 (B5.2 ⟨j,by omega,ej⟩)
    · obtain⟨j,hj,ej⟩:=B5.1 q
      have ej:v.trail[j]? = some (-(ms.getD 1 0)):=ej
      by_cases e:j=v.head.toNat
      · exfalso
        rw[e,hg]at ej
        injection ej with ej
        have:ms.getD 1 0=-y:=by omega
        rw[this]at hwat
        exact hx hwat.2
      · exact hok.2 (B5.2 ⟨j,by omega,ej⟩)
  have hlvl:lv v (-y)=(v.limits.length:Int):=by
    unfold lv
    rw[rE,hC.lev _ _ hg,JJ fun x hx=>by have:=hlh x hx;omega]
  have hfv:isV v.value (-y)<0:=(hi.neg hl0).2 (by rw[rD];exact hy)
  obtain⟨q1,q2,q3,q4⟩:=Nl (h:=v.head.toNat+1) (l:=-y) (v.watches.getD (place (-y)) []) [] (Ck v (place (-y))) hCA hWA (by omega) (by show _≤v.trail.length;omega) (by show v.trail[v.head.toNat+1 - 1]? = _;rw[Nat.add_sub_cancel,rD];exact hg) hlvl hLw (by show place (-y)<(v.watches.set _ _).length;rw[qr];exact hwl) hfv
  have hPA:FM v (BY (-y) (v.watches.getD (place (-y)) []) [] (Ck v (place (-y)))).2.2:=q1.of rfl rfl rfl rfl rfl rfl rfl rfl rfl rfl rfl rfl rfl rfl rfl rfl rfl rfl rfl rfl rfl rfl rfl rfl
  obtain⟨k1,k2⟩:=Fp hl0 (v.watches.getD (place (-y)) []) [] (Ck v (place (-y))) hiA (fun d hd=>by cases hd) hLw hfv
  have hhd:(BY (-y) (v.watches.getD (place (-y)) []) [] (Ck v (place (-y)))).2.2.head=v.head+1:=k1.head
  have hmemn:-y∈v.trail∨-(-y)∈v.trail:=.inr (by rw[rD];exact hy)
  unfold BV Q3 at hk1 ⊢
  rw[hyy]at hk1 ⊢
  generalize BY (-y) (v.watches.getD (place (-y)) []) [] (Ck v (place (-y)))=r at *
  obtain⟨K,bad,v1⟩:=r
  dsimp only at *
  cases bad with
  | none =>
    refine⟨hPA.of rfl rfl rfl rfl rfl rfl rfl rfl rfl rfl rfl rfl rfl rfl rfl rfl rfl rfl rfl rfl rfl rfl rfl rfl,q2.of hk1.inv rfl rfl rfl rfl rfl,fun _=>⟨?_,hhd⟩,fun c q=>by cases q⟩
    have:=q3 rfl
    have e:(setW v1 (v1.watches.set (place (-y)) K)).head.toNat=v.head.toNat+1:=by
      show v1.head.toNat=_
      rw[hhd];omega
    show CW (setW v1 (v1.watches.set (place (-y)) K)) _ []
    rw[e]
    exact this
  | some c =>
    refine⟨hPA.of rfl rfl rfl rfl rfl rfl rfl rfl rfl rfl rfl rfl rfl rfl rfl rfl rfl rfl rfl rfl rfl rfl rfl rfl,q2.of hk1.inv rfl rfl rfl rfl rfl,fun q=>(by cases q),fun d q=>?_⟩
    injection q with q
    subst q
    obtain⟨g1,g2⟩:=q4 c rfl
    rw[Nat.add_sub_cancel]at g1
    refine⟨⟨g1.wat,g1.wcl,g1.wnd,g1.wok⟩,-y,g2.more rfl rfl,?_⟩
    have:=hPA.lev (-y) hmemn
    rw[hlvl]at this
    exact this
theorem C4.cw{n B:Nat}{v v':Sv}{r:Option Nat}(k:C4 v r v'):CT n v→CW v v.head.toNat []→Jc n B v→(∀x∈v.limits,x≤v.head) →
  FM v v'∧CT n v'∧Jc n B v'∧(r=none→CW v' v'.head.toNat []∧v'.head=(v'.trail.length:Int)) ∧
  ∀c,r=some c→∃h,CW v' h []∧(∀x∈v.limits,x≤(h:Int))∧∃l,F3 v' c l∧lv v' l=(v.limits.length:Int):=by
 induction k with
 | @done v hd =>
  intro hC hW hB hlh
  refine⟨FM.refl _,hC,hB,fun _=>⟨hW,?_⟩,fun c q=>by cases q⟩
  have:=hB.h1
  omega
 | @more v v1 v2 r h1 h2 _ ih =>
  intro hC hW hB hlh
  obtain⟨p1,p2,p3,p4⟩:=KX hC hW hB hlh h1
  obtain⟨k1,k2,k3⟩:=Cz hB h1
  rw[h2]at p1 p2 p3 p4 k1 k2 k3
  obtain⟨g1,g2⟩:=p3 rfl
  have hlh1:∀x∈v1.limits,x≤v1.head:=fun x hx=>by
   rw[show v1.limits=v.limits from k2]at hx
   have:=hlh x hx
   have g2:v1.head=v.head+1:=g2
   omega
  obtain⟨q1,q2,q3,q4,q5⟩:=ih p2 g1 k1 hlh1
  refine⟨p1.trans q1,q2,q3,q4,fun c hc=>?_⟩
  obtain⟨h,r1,r2,r3⟩:=q5 c hc
  have e:v1.limits=v.limits:=k2
  rw[e]at r2 r3
  exact⟨h,r1,r2,r3⟩
 | @bad v v1 c h1 h2 =>
  intro hC hW hB hlh
  obtain⟨p1,p2,p3,p4⟩:=KX hC hW hB hlh h1
  obtain⟨k1,k2,k3⟩:=Cz hB h1
  rw[h2]at p1 p2 p3 p4 k1 k2 k3
  obtain⟨g1,g2⟩:=p4 c rfl
  have h0:=hB.h0
  refine⟨p1,p2,k1,fun q=>(by cases q),fun d q=>?_⟩
  injection q with q
  subst q
  exact⟨v.head.toNat,g1,fun x hx=>by have:=hlh x hx;omega,g2⟩
def Ja(σ:Nat→Bool)(x:Int):Prop:=(0<x∧σ x.natAbs=true)∨(x<0∧σ x.natAbs=false)
theorem Ja.neg{σ:Nat→Bool}{x:Int}(h:Ja σ x)(k:Ja σ (-x)):False:=by
 unfold Ja at h k
 rw[rE]at k
 rcases h with⟨h1,h2⟩ | ⟨h1,h2⟩<;>rcases k with⟨k1,k2⟩ | ⟨k1,k2⟩<;>first | omega | (rw[h2]at k2;cases k2)
theorem Ja.or{σ:Nat→Bool}{x:Int}(hx:x≠0):Ja σ x∨Ja σ (-x):=by
  unfold Ja
  rw[rE]
  cases σ x.natAbs with
  | true => by_cases h : 0 < x
            · exact .inl (.inl ⟨h,rfl⟩)
            · exact .inr (.inl ⟨by omega,rfl⟩)
  | false => by_cases h : 0 < x
             · exact .inr (.inr ⟨by omega,rfl⟩)
             · exact .inl (.inr ⟨by omega,rfl⟩)
def Db(cl:Nat→Option B3)(σ:Nat→Bool):Prop:=∀c ls b,cl c=some (ls,b)→∃y∈ls,Ja σ y
theorem CT.zero {n : Nat} {v : Sv} (h : CT n v) {σ : Nat → Bool} (hσ : Db v.cl σ) : ∀ (i : Nat) (x : Int), v.trail[i]? = some x → lv v x = 0 → Ja  σ x := by
  intro i
  induction i using Nat.strongRecOn with
  | _ i ih =>
    intro x hx hl
    have hlev:=h.lev i x hx
    have hl0:Hj v.limits i=0:=by
      have:lv v x=(Hj v.limits i:Int):=hlev
      omega
    rcases h.why i x hx with⟨q1,q2⟩ | ⟨c,ls,b,q1,q2,q3,q4⟩
    · obtain⟨k,hk⟩:=Cj.1 q2
      have:=MN h.sorted hk (re _)
      omega
    · obtain⟨y,hy,hs⟩:=hσ c ls b q2
      by_cases e:y=x
      · rw[← e];exact hs
      · obtain⟨j,hj,ej⟩:=B5.1 (q4 y hy e)
        have hjl:lv v (-y)=0:=by
          have h1:lv v (-y)=(Hj v.limits j:Int):=h.lev j _ ej
          have h2:=QP (L:=v.limits) (Nat.le_of_lt hj)
          omega
        exact(hs.neg (ih j hj (-y) ej hjl)).elim
def cnt(tr:List Int)(seen:List Nat)(m k:Nat):Nat:=((tr.take k).drop m).countP fun x=>decide (x.natAbs∈seen)
theorem G4{tr:List Int}{seen:List Nat}{m k:Nat}(hk:k<tr.length):cnt tr seen m (k+1)=cnt tr seen m k+if m≤k∧(tr.getD k 0).natAbs∈seen then 1 else 0:=by
  unfold cnt
  have e:tr.take (k+1)=tr.take k++[tr.getD k 0]:=by
    rw[sG hk]
    congr 2
    rw[rB,qp hk];rfl
  rw[e]
  have hl:(tr.take k).length=k:=by rw[rK];omega
  by_cases hm:m≤k
  · rw[sm (by omega),List.countP_append]
    congr 1
    by_cases hs:(tr.getD k 0).natAbs∈seen
    · rw[if_pos ⟨hm,hs⟩,List.countP_singleton,if_pos (decide_eq_true hs)]
    · rw[if_neg (fun q=>hs q.2),List.countP_singleton,if_neg (by rw[decide_eq_false hs];decide)]
  · rw [if_neg (fun q => hm q.1), se                     (by rw [qn,                 hl]; simp; omega), se                     (by omega)]
    rfl
theorem Lm{tr:List Int}{seen:List Nat}{m k:Nat}(h:cnt tr seen m k=0){j:Nat}{x:Int}(hj:j<k)(hm:m≤j)(hx:tr[j]? = some x):x.natAbs ∉ seen:=by
 unfold cnt at h
 rw[List.countP_eq_zero]at h
 have:x∈(tr.take k).drop m:=by
  rw[Cj]
  exact⟨j - m,by rw[rQ,show m+(j - m)=j by omega,rg hj];exact hx⟩
 have:=h x this
 simpa using this
theorem Up{tr:List Int}{seen:List Nat}{m k j:Nat}{x:Int}(hj:j<k)(hm:m≤j)(hx:tr[j]? = some x)(hs:x.natAbs∈seen):1≤cnt tr seen m k:=by
 rcases rh (cnt tr seen m k)with h | h
 ·exact absurd hs (Lm h hj hm hx)
 ·exact h
theorem Pw{tr:List Int}{seen seen':List Nat}(h:∀x∈seen,x∈seen')(m k:Nat):cnt tr seen m k≤cnt tr seen' m k:=by
 unfold cnt
 refine List.countP_mono_left fun x _ hx=>?_
 exact decide_eq_true (h _ (of_decide_eq_true hx))
theorem Ma       {tr : List Int} {seen : List Nat} {m : Nat} : ∀ {k : Nat}, k ≤ tr.length → 1 ≤ cnt tr seen m k → ∃ i, M7   tr seen k = some i ∧ m ≤ i ∧ i < k ∧ (tr.getD i 0).natAbs ∈ seen ∧ cnt tr seen m k = cnt tr seen m i + 1 ∧ ∀ j, i < j → j < k → (tr.getD j 0).natAbs ∉ seen
  | 0,_,h=>by simp[cnt]at h
  | k + 1, hk, h => by
    rw[G4 hk]at h
    unfold M7
    by_cases hs:(tr.getD k 0).natAbs∈seen
    · rw[if_pos hs]
      by_cases hm:m≤k
      · exact⟨k,rfl,hm,rP _,hs,by rw[G4 hk,if_pos ⟨hm,hs⟩],fun j h1 h2=>by omega⟩
      · exfalso
        rw[if_neg (fun q=>hm q.1)]at h
        have:cnt tr seen m k=0:=by
          unfold cnt
          rw[se (by rw[rK];omega)]
          rfl
        omega
    · rw[if_neg (fun q=>hs q.2)]at h
      obtain⟨i,h1,h2,h3,h4,h5,h6⟩:=Ma (by omega) h
      rw[if_neg hs]
      refine⟨i,h1,h2,by omega,h4,by rw[G4 hk,if_neg (fun q=>hs q.2)];exact h5,fun j j1 j2=>?_⟩
      rcases qk j k with q | q
      · exact h6 j j1 q
      · have:j=k:=by omega
        rw[this];exact hs
structure LI(v:Sv)(m:Nat)(a:EI)(at_:Nat):Prop where
 seenA:∀k∈a.seen,∃ (i:Nat) (x:Int),v.trail[i]? = some x∧x.natAbs=k∧1≤lv v x
 nd:a.seen.Nodup
 lits:∀q∈a.lits,-q∈v.trail∧q.natAbs∈a.seen∧1≤lv v q∧lv v q<(v.limits.length:Int)
 litsC:∀x∈v.trail,x.natAbs∈a.seen→lv v x<(v.limits.length:Int)→-x∈a.lits
 litsnd:(a.lits.map Int.natAbs).Nodup
 opn:a.opn=(cnt v.trail a.seen m at_:Int)
 lev:(∀q∈a.lits,lv v q≤a.lev)∧(a.lits=[]∧a.lev=0∨∃q∈a.lits,lv v q=a.lev)
theorem Ci(v:Sv)(x:Int):lv v (-x)=lv v x:=by unfold lv;rw[rE]
theorem CT.last{n:Nat}{v:Sv}(h:CT n v){t:Int}(ht:v.limits[v.limits.length - 1]? = some t){i:Nat}{x:Int}(hx:v.trail[i]? = some x):(lv v x=(v.limits.length:Int)↔t.toNat≤i)∧lv v x≤(v.limits.length:Int)∧0≤lv v x:=by
  have hl:=AZ ht
  have ht0:=h.lim t (qj ht)
  have e:lv v x=(Hj v.limits i:Int):=h.lev i x hx
  have hle:=Tk v.limits i
  refine⟨⟨fun q=>?_,fun q=>?_⟩,by omega,by omega⟩
  · rcases qk           i t.toNat with h1 | h1
    · have:=(MO h.sorted ht (i:=i) (by omega)).2
      omega
    · exact h1
  · have:=MN h.sorted ht (i:=i) (by omega)
    omega
theorem LI.start{v:Sv}{m k:Nat}:LI v m Gj k:=⟨by simp[Gj],by simp[Gj],by simp[Gj],by simp[Gj],by simp[Gj],by simp[Gj,cnt],by simp[Gj]⟩
theorem LI.step {n : Nat} {v : Sv} (h : CT n v) {t : Int} (ht : v.limits[v.limits.length - 1]? = some t) {a : EI}  {at_ : Nat} (hL : LI v t.toNat a at_) {q : Int} (hq : ∃ j, j < at_ ∧ v.trail[j]? = some (-q)) :
    LI v t.toNat (BQ v a q) at_∧(∀k∈a.seen,k∈(BQ v a q).seen)∧(lv v q=0∨q.natAbs∈(BQ v a q).seen)∧(BQ v a q).hd=a.hd:=by
  obtain⟨j,hj,hx⟩:=hq
  have hmem:-q∈v.trail:=qj hx
  obtain⟨hlast,hle,hge⟩:=h.last ht hx
  rw[Ci]at hlast hle hge
  unfold BQ
  by_cases h1:q.natAbs∈a.seen∨v.level.getD q.natAbs 0=0
  · rw [if_pos h1]
    refine⟨hL,fun k hk=>hk,?_,rfl⟩
    rcases h1 with e | e
    · exact .inr e
    · exact .inl e
  · rw[if_neg h1]
    have hns:q.natAbs ∉ a.seen:=fun e=>h1 (.inl e)
    have hn0:lv v q≠0:=fun e=>h1 (.inr e)
    have hnd:(a.seen++[q.natAbs]).Nodup:=by
      rw[rt]
      exact⟨hL.nd,by simp,fun x hx y hy e=>by rw[si.1 hy]at e;exact hns (by rw[← e];exact hx)⟩
    have hseenA:∀k∈a.seen++[q.natAbs],∃ (i:Nat) (x:Int),v.trail[i]? = some x∧x.natAbs=k∧1≤lv v x:=fun k hk=>by
      rcases sE.1 hk with e | e
      · exact hL.seenA k e
      · rw[si.1 e]
        exact⟨j,-q,hx,rE q,by rw[Ci];omega⟩
    have hcount:∀k,k≤v.trail.length→cnt v.trail (a.seen++[q.natAbs]) t.toNat k=cnt v.trail a.seen t.toNat k+if j<k∧t.toNat≤j then 1 else 0:=by
      intro k
      induction k with
      | zero=>intro _;rw[if_neg (by omega)];simp[cnt]
      | succ k ih =>
        intro hk
        rw[G4 hk,G4 hk,ih (by omega)]
        have hgk:=AT (d:=(0:Int)) (show k<v.trail.length by omega)
        by_cases hjk:j=k
        · have e:(v.trail.getD k 0).natAbs=q.natAbs:=by rw[← hjk,FA hx,rE]
          rw[e]
          have A:¬ (j<k∧t.toNat≤j):=by omega
          have C:¬ (t.toNat≤k∧q.natAbs∈a.seen):=fun z=>hns z.2
          by_cases hm:t.toNat≤k
          · have B : t.toNat ≤ k ∧ q.natAbs ∈ a.seen ++ [q.natAbs] := ⟨hm, by simp⟩
            have D:j<k+1∧t.toNat≤j:=by omega
            rw[if_neg A,if_pos B,if_neg C,if_pos D]
          · have B : ¬ (t.toNat ≤ k ∧ q.natAbs ∈ a.seen ++ [q.natAbs]) := fun z => hm z.1
            have D:¬ (j<k+1∧t.toNat≤j):=by omega
            rw[if_neg A,if_neg B,if_neg C,if_neg D]
        · have hne : (v.trail.getD k 0).natAbs ≠ q.natAbs := fun e => hjk (h.inv.one hx hgk (by rw [rE];             exact e.symm))
          have e1:((v.trail.getD k 0).natAbs∈a.seen++[q.natAbs])↔(v.trail.getD k 0).natAbs∈a.seen:=by
            rw[sE,si]
            exact⟨fun z=>z.resolve_right hne,.inl⟩
          have hAD:(j<k+1∧t.toNat≤j)↔(j<k∧t.toNat≤j):=by omega
          have hBC:(t.toNat≤k∧(v.trail.getD k 0).natAbs∈a.seen++[q.natAbs])↔(t.toNat≤k∧(v.trail.getD k 0).natAbs∈a.seen):=by rw[e1]
          simp only[hAD,hBC]
          exact Nat.add_right_comm _ _ _
    have hcap:∀ (S:List Nat) k,cnt v.trail S t.toNat k=cnt v.trail S t.toNat (min k v.trail.length):=fun S k=>by
      unfold cnt
      congr 2
      rcases qk k v.trail.length with z | z
      · rw[sJ (by omega)]
      · rw[Nat.min_eq_right z,rR,sF z]
    have hjl:=AZ hx
    have hcountA:cnt v.trail (a.seen++[q.natAbs]) t.toNat at_=cnt v.trail a.seen t.toNat at_+if t.toNat≤j then 1 else 0:=by
      rw[hcap,hcap a.seen,hcount _ (Nat.min_le_right _ _)]
      congr 1
      by_cases z:t.toNat≤j
      · rw[if_pos z,if_pos ⟨by omega,z⟩]
      · rw[if_neg z,if_neg (fun y=>z y.2)]
    by_cases hd:v.level.getD q.natAbs 0=(v.limits.length:Int)
    · rw [if_pos hd]
      refine⟨⟨hseenA,hnd,fun y hy=>?_,fun y hy hs hl=>?_,hL.litsnd,?_,hL.lev⟩,fun k hk=>qt _ hk,.inr (rH _ (si.2 rfl)),rfl⟩
      · obtain⟨g1,g2,g3,g4⟩:=hL.lits y hy
        exact⟨g1,qt _ g2,g3,g4⟩
      · rcases sE.1              hs with e | e
        · exact hL.litsC y hy e hl
        · exfalso
          have e:=si.1 e
          unfold lv at hl
          rw[e,hd]at hl
          omega
      · show a.opn+1=_
        rw[hL.opn,hcountA,if_pos (hlast.1 hd)]
        simp
    · rw[if_neg hd]
      have hnm:¬ t.toNat≤j:=fun z=>hd (hlast.2 z)
      refine⟨⟨hseenA,hnd,fun y hy=>?_,fun y hy hs hl=>?_,?_,?_,?_⟩,fun k hk=>qt _ hk,.inr (rH _ (si.2 rfl)),rfl⟩
      · rcases sE.1              hy with e | e
        · obtain⟨g1,g2,g3,g4⟩:=hL.lits y e
          exact⟨g1,qt _ g2,g3,g4⟩
        · rw[si.1 e]
          have hd':lv v q≠(v.limits.length:Int):=hd
          exact⟨hmem,rH _ (si.2 rfl),by omega,by omega⟩
      · rcases sE.1              hs with e | e
        · exact qt _ (hL.litsC y hy e hl)
        · have e:=si.1 e
          obtain⟨i,hi⟩:=Cj.1 hy
          have hij:=h.inv.one hi hx (by rw[rE];exact e)
          subst hij
          rw[hx]at hi
          injection hi with hi
          rw[← hi,rD]
          exact rH _ (si.2 rfl)
      · show((a.lits++[q]).map Int.natAbs).Nodup
        rw[rN,rt]
        refine⟨hL.litsnd,by simp,fun x hx y hy e=>?_⟩
        obtain⟨z,hz,rfl⟩:=List.mem_map.1 hx
        have:y=q.natAbs:=by simpa using hy
        rw[this]at e
        exact hns (by rw[← e];exact(hL.lits z hz).2.1)
      · show a.opn=_
        rw[hL.opn,hcountA,if_neg hnm]
        simp
      · refine ⟨fun y hy => ?_, .inr ?_⟩
        · show lv v y≤max a.lev (lv v q)
          rcases sE.1 hy with e | e
          · have:=hL.lev.1 y e;omega
          · rw[si.1 e];omega
        · show ∃y∈a.lits++[q],lv v y=max a.lev (lv v q)
          by_cases z:a.lev≤lv v q
          · exact⟨q,rH _ (si.2 rfl),by omega⟩
          · rcases hL.lev.2 with ⟨_, e⟩ | ⟨y, hy, e⟩
            · omega
            · exact⟨y,qt _ hy,by omega⟩
theorem LI.fold{n:Nat}{v:Sv}(h:CT n v){t:Int}(ht:v.limits[v.limits.length - 1]? = some t){at_:Nat}:∀ (Q:List Int){a:EI},LI v t.toNat a at_→(∀q∈Q,∃j,j<at_∧v.trail[j]? = some (-q)) →
  LI v t.toNat (Q.foldl (BQ v) a) at_∧(∀k∈a.seen,k∈(Q.foldl (BQ v) a).seen)∧(∀q∈Q,lv v q=0∨q.natAbs∈(Q.foldl (BQ v) a).seen)∧(Q.foldl (BQ v) a).hd=a.hd
 | [],a,hL,_=>⟨hL,fun k hk=>hk,by simp,rfl⟩
 | q::Q,a,hL,hq=>by
  obtain⟨g1,g2,g3,g4⟩:=hL.step h ht (hq q (ql ..))
  obtain⟨k1,k2,k3,k4⟩:=LI.fold h ht Q g1 fun y hy=>hq y (qo _ hy)
  refine⟨k1,fun k hk=>k2 k (g2 k hk),fun y hy=>?_,k4.trans g4⟩
  rcases rI.1 hy with e | e
  ·rw[e];exact g3.imp id (k2 _)
  ·exact k3 y e
structure Ex(v:Sv)(r:EI):Prop where
 uip:∃ (i:Nat) (u:Int),v.trail[i]? = some u∧lv v u=(v.limits.length:Int)∧r.hd=-u
 lits:∀q∈r.lits,-q∈v.trail∧1≤lv v q∧lv v q<(v.limits.length:Int)
 nd:(r.lits.map Int.natAbs).Nodup
 lev:(∀q∈r.lits,lv v q≤r.lev)∧(r.lits=[]∧r.lev=0∨∃q∈r.lits,lv v q=r.lev)
 imp:∀σ,Db v.cl σ→Ja σ r.hd∨∃q∈r.lits,Ja σ q
theorem NO(tr:List Int)(seen:List Nat){m k:Nat}(h:k≤m):cnt tr seen m k=0:=by
 unfold cnt
 rw[se (by rw[rK];omega)]
 rfl
theorem DX{l y:Int}{ls:List Int}:y∈rest l ls↔y∈ls∧y≠l:=by
 unfold rest
 rw[List.mem_filter]
 simp
theorem bE       {n : Nat} {v : Sv} (h : CT n v) {t : Int} (ht : v.limits[v.limits.length - 1]? = some t) : ∀ (at_ : Nat) (c : Nat) (l : Int) (a : EI)  (ls : List Int) (b : Bool × Bool), at_ ≤ v.trail.length → LI v t.toNat a at_ → v.cl c = some (ls, b) → (∀ y ∈ rest l ls, ∃ j, j < at_ ∧ v.trail[j]? = some (-y)) → 1 ≤ ((rest l ls).foldl (BQ     v) a).opn →
    (∀σ,Db v.cl σ→Ja σ l→(∃q∈a.lits,Ja σ q)∨∃ (j:Nat) (x:Int),j<at_∧t.toNat≤j∧v.trail[j]? = some x∧x.natAbs∈a.seen∧Ja σ (-x)) →
    ∃r,CJ v c a at_ l r∧Ex v r:=by
  intro at_
  induction at_ using Nat.strongRecOn with
  | _ at_ ih =>
  intro c l a ls b hat hL hc hr ho hpre
  obtain⟨f1,f2,f3,f4⟩:=hL.fold h ht (rest l ls) hr
  generalize ha:(rest l ls).foldl (BQ v) a=a' at *
  have hQ : ∀ σ, Db v.cl σ → (∃ q ∈ a'.lits, Ja  σ q) ∨ ∃ (j : Nat) (x : Int), j < at_ ∧ t.toNat ≤ j ∧ v.trail[j]? = some x ∧ x.natAbs ∈ a'.seen ∧ Ja  σ (-x) := by
    intro σ hσ
    obtain⟨y,hy,hs⟩:=hσ c ls b hc
    by_cases e:y=l
    · rw [e] at hs
      rcases hpre σ hσ hs with⟨q,hq,hsq⟩ | ⟨j,x,j1,j2,j3,j4,j5⟩
      · obtain⟨g1,g2,g3,g4⟩:=hL.lits q hq
        have:=f1.litsC (-q) g1 (by rw[rE];exact f2 _ g2) (by rw[Ci];exact g4)
        rw[rD]at this
        exact .inl ⟨q,this,hsq⟩
      · exact .inr ⟨j,x,j1,j2,j3,f2 _ j4,j5⟩
    · obtain ⟨j, j1, j2⟩ := hr y (DX.2       ⟨hy, e⟩)
      obtain⟨hlast,hle,hge⟩:=h.last ht j2
      rw[Ci]at hlast hle hge
      rcases f3 y (DX.2 ⟨hy,e⟩)with z | z
      · exact(hs.neg (h.zero hσ j (-y) j2 (by rw[Ci];exact z))).elim
      · by_cases hd : lv v y = (v.limits.length : Int)
        · exact .inr ⟨j,-y,j1,hlast.1 hd,j2,by rw[rE];exact z,by rw[rD];exact hs⟩
        · have:=f1.litsC (-y) (qj j2) (by rw[rE];exact z) (by rw[Ci];omega)
          rw[rD]at this
          exact .inl ⟨y,this,hs⟩
  have hcn:1≤cnt v.trail a'.seen t.toNat at_:=by have:=f1.opn;omega
  obtain⟨i,k1,k2,k3,k4,k5,k6⟩:=Ma hat hcn
  have hil:i<v.trail.length:=by omega
  have hg:=AT (d:=(0:Int)) hil
  generalize hu:v.trail.getD i 0=u at *
  have hlu:lv v u=(v.limits.length:Int):=(h.last ht hg).1.2 k2
  have hQ':∀σ,Db v.cl σ→(∃q∈a'.lits,Ja σ q)∨(∃ (j:Nat) (x:Int),j<i∧t.toNat≤j∧v.trail[j]? = some x∧x.natAbs∈a'.seen∧Ja σ (-x))∨Ja σ (-u):=by
    intro σ hσ
    rcases hQ σ hσ with q | ⟨j,x,j1,j2,j3,j4,j5⟩
    · exact .inl q
    · rcases rx                j i with z | z | z
      · exact .inr (.inl ⟨j,x,z,j2,j3,j4,j5⟩)
      · subst z
        rw[hg]at j3
        injection j3 with j3
        rw[j3]
        exact .inr (.inr j5)
      · exact absurd j4 (by have:=k6 j z j1;rw[FA j3]at this;exact this)
  by_cases h1:a'.opn=1
  · have hci:cnt v.trail a'.seen t.toNat i=0:=by have:=f1.opn;omega
    refine⟨{ a' with opn:=0,hd:=-u },?_,⟨i,u,hg,hlu,rfl⟩,fun q hq=>?_,f1.litsnd,f1.lev,fun σ hσ=>?_⟩
    · have:=CJ.last (v:=v) (at_:=at_) hc ha k1 h1
      rw[hu]at this
      exact this
    · obtain⟨g1,g2,g3,g4⟩:=f1.lits q hq
      exact⟨g1,g3,g4⟩
    · rcases hQ' σ hσ with q | ⟨j, x, j1, j2, j3, j4, j5⟩ | q
      · exact .inr q
      · exact absurd j4 (Lm hci j1 j2 j3)
      · exact .inl q
  · have hci : 1 ≤ cnt v.trail a'.seen t.toNat i := by have := f1.opn; omega
    have hmi:t.toNat<i:=by
      rcases qk t.toNat i with z | z
      · exact z
      · rw[NO _ _ z]at hci;omega
    have hil':(i:Int) ∉ v.limits:=fun q=>by
      obtain⟨p,hp⟩:=Cj.1 q
      have hpl:=AZ hp
      have ht0:=h.lim t (qj ht)
      by_cases e:p=v.limits.length - 1
      · rw[e,ht]at hp
        injection hp with hp
        omega
      · have:=(CZ h.sorted ht).1 (i:Int) (B5.2 ⟨p,by omega,hp⟩)
        omega
    rcases h.why i u hg with⟨_,q⟩ | ⟨c',ls',b',w1,w2,w3,w4⟩
    · exact absurd q hil'
    · have hL2 : LI v t.toNat { a' with opn := a'.opn - 1 } i := ⟨f1.seenA, f1.nd, f1.lits, f1.litsC, f1.litsnd, by show a'.opn - 1 = (cnt v.trail a'.seen t.toNat i : Int); have := f1.opn; omega, f1.lev⟩
      have hr2:∀y∈rest u ls',∃j,j<i∧v.trail[j]? = some (-y):=fun y hy=>by
        obtain⟨y1,y2⟩:=DX.1 hy
        exact B5.1 (w4 y y1 y2)
      obtain⟨g1,g2,g3,g4⟩:=hL2.fold h ht (rest u ls') hr2
      have hop2:1≤((rest u ls').foldl (BQ v) { a' with opn:=a'.opn - 1 }).opn:=by
        have e1:=g1.opn
        have e2:=Pw (tr:=v.trail) (seen:=a'.seen) (seen':=((rest u ls').foldl (BQ v) { a' with opn:=a'.opn - 1 }).seen) g2 t.toNat i
        omega
      obtain⟨r,r1,r2⟩:=ih i k3 c' u { a' with opn:=a'.opn - 1 } ls' b' (by omega) hL2 w2 hr2 hop2 (fun σ hσ hs=>by
        rcases hQ' σ hσ with q | q | q
        · exact .inl q
        · exact .inr q
        · exact(hs.neg q).elim)
      refine⟨r,?_,r2⟩
      have hw:v.why.getD (v.trail.getD i 0).natAbs none=some c':=by rw[hu];exact w1
      have:=CJ.more (v:=v) (at_:=at_) (r:=r) hc ha k1 (by omega) hw
      rw[hu]at this
      exact this r1
theorem HE{n:Nat}{v:Sv}(h:CT n v)(hlim:v.limits≠[]){c:Nat}{l:Int}(hf:F3 v c l)(hl:lv v l=(v.limits.length:Int)):∃r,CJ v c Gj v.trail.length 0 r∧Ex v r:=by
 obtain⟨ls,b,hc,h2,hfalse,hmem⟩:=hf
 have hpos:0<v.limits.length:=List.length_pos_iff.2 hlim
 have ht:=AT (d:=(0:Int)) (show v.limits.length - 1<v.limits.length by omega)
 generalize v.limits.getD (v.limits.length - 1) 0=t at ht
 have hr:∀y∈rest 0 ls,∃j,j<v.trail.length∧v.trail[j]? = some (-y):=fun y hy=>by
  obtain⟨j,hj⟩:=Cj.1 (hfalse y (DX.1 hy).1)
  exact⟨j,AZ hj,hj⟩
 have hL0:LI v t.toNat Gj v.trail.length:=LI.start
 obtain⟨f1,f2,f3,f4⟩:=hL0.fold h ht (rest 0 ls) hr
 have hl0:l≠0:=((h.cls c ls b hc).1.1 l hmem).1
 refine bE h ht v.trail.length c 0 Gj ls b (qg _) hL0 hc hr ?_ (fun σ hσ hs=>?_)
 ·have hlr:l∈rest 0 ls:=DX.2 ⟨hmem,hl0⟩
  obtain⟨j,j1,j2⟩:=hr l hlr
  have hm:=(h.last ht j2).1.1 (by rw[Ci];exact hl)
  rcases f3 l hlr with z | z
  ·omega
  ·have:=Up j1 hm j2 (by rw[rE];exact z)
   rw[f1.opn]
   omega
 ·unfold Ja at hs
  omega
end
end Go.Proofs.Ytilhhmkdcoajnaa.Am
