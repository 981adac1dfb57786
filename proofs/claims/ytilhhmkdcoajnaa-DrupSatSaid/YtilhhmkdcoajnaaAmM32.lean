/- What the functions sign, of, set, unit of layer 20 compute; conditions: the numbers fit. -/
import Derived.Test.YtilhhmkdcoajnaaAmDrupCode
import Derived.Test.YtilhhmkdcoajnaaAmEnd
import Derived.KernelRfl
import Derived.ChangeArms
import Derived.DataReads
import Derived.DataElems
import Derived.Test.YtilhhmkdcoajnaaAmData
import Derived.Test.YtilhhmkdcoajnaaAmGrow
set_option linter.unusedVariables false
set_option linter.unusedSimpArgs false
namespace Go.Proofs.Ytilhhmkdcoajnaa.Am
open Go Go.Proofs
noncomputable section
structure An(E:Env):Prop where
  P:E.P=Try.prog
  nat:∀ (f:FuncId) (xs:List AV) (s:ASt),f≠21→E.nat f xs s=none
theorem An.go{E:Env}(hE:An E){f:FuncId}{xs:List AV}{cf:Ar}{K:AV→ASt→Prop}{s:ASt}(hf:AQ Try.prog f=some cf)(hne:f≠21)(ha:xs.length=cf.na)(h:Qa E none cf.body (Jw Try.prog cf.results K) (Ql xs cf.nv) [] s):WF E f xs K s:=
  WF.body' (hE.nat f xs s hne) (by rw[hE.P];exact hf) ha (by rw[hE.P];exact h)
def Bl(x:Int):Int×Int:=if 0<x then (x,1)else if x<0∧x≠-9223372036854775808 then (-x,-1)else (0,0)
theorem KL      {E : Env} (hE : An   E) (x : Int) (s : ASt) (hx : i64 x) : WF E 48 [iv x] (fun v s' => v = .tuple [iv (Bl    x).1, iv (Bl    x).2] ∧ s = s') s := by
  obtain⟨hx1,hx2⟩:=hx
  refine hE.go kR (by decide) rfl ?_
  unfold Bl
  by_cases h1:0<x
  · simp[c48,Od,Oe,Of,Og,Oh,Oi,h1,Qa,Qb,Qc,Qd,Qe,Qf,Qg,Qh,Qi,Qj,Qk,Ql,Qm,Qn,true_and,and_true,Qo,Qp,Qq,Qr,Qs,Qt,Qu,Qv,Qw,Qx,Qy,Qz,Ra,Rb,Rc,Rd,Re,Rf,Rg,Rh,Ri,Rj,Rk,Rl,Rm,Ya,Yb,Yc,Rn,Ro,Rp,Yd,Ye,Rq,Rs,Rt,Ru,Rv,Rw,Rx]
  · by_cases h2 : x < 0
    · by_cases h3 : x = -9223372036854775808
      · subst h3
        simp[c48,Od,Oe,Of,Og,Oh,Oi,OL,Qa,Qb,Qc,Qd,Qe,Qf,Qg,Qh,Qi,Qj,Qk,Ql,Qm,Qn,true_and,and_true,Qo,Qp,Qq,Qr,Qs,Qt,Qu,Qv,Qw,Qx,Qy,Qz,Ra,Rb,Rc,Rd,Re,Rf,Rg,Rh,Ri,Rj,Rk,Rl,Rm,Ya,Yb,Yc,Rn,Ro,Rp,Yd,Ye,Rq,Rs,Rt,Ru,Rv,Rw,Rx]
      · have h4:0 < -x:=by omega
        simp[c48,Od,Oe,Of,Og,Oh,Oi,h1,h2,h3,h4,EY _ x ⟨by omega,by omega⟩,Qa,Qb,Qc,Qd,Qe,Qf,Qg,Qh,Qi,Qj,Qk,Ql,Qm,Qn,true_and,and_true,Qo,Qp,Qq,Qr,Qs,Qt,Qu,Qv,Qw,Qx,Qy,Qz,Ra,Rb,Rc,Rd,Re,Rf,Rg,Rh,Ri,Rj,Rk,Rl,Rm,Ya,Yb,Yc,Rn,Ro,Rp,Yd,Ye,Rq,Rs,Rt,Ru,Rv,Rw,Rx]
    · have:x=0:=by omega
      subst this
      simp[c48,Od,Oe,Of,Og,Oh,Oi,Qa,Qb,Qc,Qd,Qe,Qf,Qg,Qh,Qi,Qj,Qk,Ql,Qm,Qn,true_and,and_true,Qo,Qp,Qq,Qr,Qs,Qt,Qu,Qv,Qw,Qx,Qy,Qz,Ra,Rb,Rc,Rd,Re,Rf,Rg,Rh,Ri,Rj,Rk,Rl,Rm,Ya,Yb,Yc,Rn,Ro,Rp,Yd,Ye,Rq,Rs,Rt,Ru,Rv,Rw,Rx]
theorem Gu(x:Int)(hx:i64 x):i64 (Bl x).1∧((Bl x).2=1∨(Bl x).2=-1∨(Bl x).2=0):=by
  obtain⟨h1,h2⟩:=hx
  unfold Bl
  split
  · exact⟨⟨by omega,by omega⟩,.inl rfl⟩
  · split
    · exact⟨⟨by simp only;omega,by simp only;omega⟩,.inr (.inl rfl)⟩
    · exact⟨⟨by decide,by decide⟩,.inr (.inr rfl)⟩
abbrev B4:=List (Int×Int)
def FW(M:B4)(k:Int):Int:=match M with
  | []=>0
  | (j,v)::l=>if j=k then v else FW l k
def Hp(M:B4)(k v:Int):B4:=match M with
  | []=>[(k,v)]
  | (j,w)::l=>if j=k then (j,v)::l else (j,w)::Hp l k v
def H7(M:B4):Prop:=∀p∈M,p.2=1∨p.2=-1
inductive HZ:B4→List (AV×AV×Nat)→Prop
  | nil:HZ [] []
  | cons {k v:Int} {b:Nat} {M:B4} {es:List (AV×AV×Nat)} (h:HZ M es):HZ ((k,v)::M) ((iv k,iv v,b)::es)
def Hy(s:ASt)(i:Nat)(M:B4):Prop:=∃es c,s.heap.get i=some (.map es c)∧HZ M es
theorem IX(a b:Int):LT (iv a) (iv b)=some (decide (a=b)):=by
  show some (eqI a b)=_
  rw[F2];rfl
theorem LD         {M : B4}   {es : List (AV × AV × Nat)} (h : HZ     M es) (k : Int) : ∀ n, (∃ j v b, Do    (iv k) es n = some (some (j, iv v, b)) ∧ n ≤ j ∧ FW   M k = v ∧ (∀ w, HZ     (Hp   M k w) (setNth es (j - n) (iv w)))) ∨ (Do    (iv k) es n = some none ∧ FW   M k = 0 ∧ ∀ w c, HZ     (Hp   M k w) (es ++ [(iv k, iv w, c)])) := by
  induction h with
  | nil=>intro n;exact .inr ⟨rfl,rfl,fun w c=>.cons .nil⟩
  | cons h ih =>
    rename_i j v b M es
    intro n
    by_cases e:j=k
    · subst e
      left
      refine⟨n,v,b,?_,oD n,by simp[FW],fun w=>?_⟩
      · simp only[Do,IX,decide_true,Option.bind_some]
      · rw[pX]
        simp only[Hp,if_true,setNth]
        exact .cons h
    · have he:Do (iv k) ((iv j,iv v,b)::es) n=Do (iv k) es (n+1):=by
        simp only[Do,IX,Option.bind_some]
        rw[show decide (k=j)=false from decide_eq_false (fun q=>e q.symm)]
      rcases ih (n+1)with⟨j',v',b',h1,h2,h3,h4⟩ | ⟨h1,h2,h3⟩
      · left
        refine⟨j',v',b',by rw[he];exact h1,by omega,by simp[FW,e,h3],fun w=>?_⟩
        rw[show j' - n=(j' - (n+1))+1 from by omega]
        simp only[Hp,if_neg e,setNth]
        exact .cons (h4 w)
      · right
        refine⟨by rw[he];exact h1,by simp[FW,e,h2],fun w c=>?_⟩
        simp only[Hp,if_neg e,pW]
        exact .cons (h3 w c)
theorem Ep(k:Int):B3 Try.prog 3 (iv k)=true:=by
  simp[B3,Try.underlying3,Bs]
theorem Sa{s:ASt}{i:Nat}{M:B4}(h:Hy s i M)(k:Int):C6 Try.prog s 69 (.map (some i)) (iv k) false=some (iv (FW M k)):=by
  obtain⟨es,c,h1,h2⟩:=h
  simp only[C6,Try.underlying69,Ep,AF,cond_true,h1,Option.bind_some]
  rcases LD h2 k 0 with⟨j,v,b,h3,_,h4,_⟩ | ⟨h3,h4,_⟩
  · rw[h3,h4];rfl
  · rw[h3,h4];simp only[Option.bind_some,zr3];rfl
theorem S9{s:ASt}{i:Nat}{M:B4}(h:Hy s i M)(k v:Int):∃s',ED Try.prog s 69 (.map (some i)) (iv k) (iv v)=some s'∧Hy s' i (Hp M k v)∧s'.next=s.next∧∀j,j≠i→s'.heap.get j=s.heap.get j:=by
  obtain⟨es,c,h1,h2⟩:=h
  simp only[ED,Try.underlying69,Ep,AF,cond_true,h1,Option.bind_some]
  rcases LD h2 k 0 with⟨j,u,b,h3,_,_,h4⟩ | ⟨h3,_,h4⟩
  · rw[h3]
    have h5:=h4 v
    rw[Nat.sub_zero]at h5
    exact⟨_,rfl,⟨_,_,by rw[Ai,if_pos rfl],h5⟩,rfl,fun x hx=>by rw[Ai,if_neg hx]⟩
  · rw[h3]
    exact⟨_,rfl,⟨_,_,by rw[Ai,if_pos rfl],h4 v c⟩,rfl,fun x hx=>by rw[Ai,if_neg hx]⟩
theorem SY{M:B4}(h:H7 M)(k:Int):FW M k=1∨FW M k=-1∨FW M k=0:=by
  induction M with
  | nil=>exact .inr (.inr rfl)
  | cons p M ih =>
    obtain⟨j,v⟩:=p
    simp only[FW]
    split
    · exact(h (j,v) oH).imp id .inl
    · exact ih fun q hq=>h q (oJ _ hq)
theorem Lj{M:B4}(h:H7 M){k v:Int}(hv:v=1∨v=-1):H7 (Hp M k v):=by
  induction M with
  | nil=>intro p hp;simp[Hp]at hp;subst hp;exact hv
  | cons p M ih =>
    obtain⟨j,w⟩:=p
    simp only[Hp]
    split
    · intro q hq
      rcases ov.1 hq with rfl | hq
      · exact hv
      · exact h q (oJ _ hq)
    · intro q hq
      rcases ov.1 hq with rfl | hq
      · exact h _ oH
      · exact ih (fun q hq=>h q (oJ _ hq)) q hq
def ofV(M:B4)(x:Int):Int:=if (Bl x).2=0 then -1 else FW M (Bl x).1 * (Bl x).2
theorem im{E:Env}(hE:An E){s:ASt}{i:Nat}{M:B4}(hm:Hy s i M)(hg:H7 M)(x:Int)(hx:i64 x):WF E 49 [.map (some i),iv x] (fun v s'=>v=iv (ofV M x)∧s=s') s:=by
  have hr:=Gu x hx
  have hl:=SY hg (Bl x).1
  refine hE.go kS (by decide) rfl ?_
  simp only[c49,fE,fF,fG,fH,fI,Qa,Qb,Qc,Qd,Qe,Qf,Qg,Qh,Qi,Qj,Qk,Ql,Qm,Qn,true_and,and_true,Qo,Qp,Qq,Qr,Qs,Qt,Qu,Qv,Qw,Qx,Qy,Qz,Ra,Rb,Rc,Rd,Re,Rf,Rg,Rh,Ri,Rj,Rk,Rl,Rm,Ya,Yb,Yc,Rn,Ro,Rp,Yd,Ye,Rq,Rs,Rt,Ru,Rv,Rw,Rx]
  refine(KL hE x s hx).mono ?_
  rintro _ _ ⟨rfl,rfl⟩
  have hmul:i64 (FW M (Bl x).1 * (Bl x).2):=by
    rcases hl with h | h | h<;>rcases hr.2 with h' | h' | h'<;>rw[h,h']<;>exact⟨by decide,by decide⟩
  unfold ofV
  by_cases h0:(Bl x).2=0
  · simp[h0,Qa,Qb,Qc,Qd,Qe,Qf,Qg,Qh,Qi,Qj,Qk,Ql,Qm,Qn,true_and,and_true,Qo,Qp,Qq,Qr,Qs,Qt,Qu,Qv,Qw,Qx,Qy,Qz,Ra,Rb,Rc,Rd,Re,Rf,Rg,Rh,Ri,Rj,Rk,Rl,Rm,Ya,Yb,Yc,Rn,Ro,Rp,Yd,Ye,Rq,Rs,Rt,Ru,Rv,Rw,Rx]
  · simp[h0,on2,Sa hm,NN _ _ _ _ hmul,Qa,Qb,Qc,Qd,Qe,Qf,Qg,Qh,Qi,Qj,Qk,Ql,Qm,Qn,true_and,and_true,Qo,Qp,Qq,Qr,Qs,Qt,Qu,Qv,Qw,Qx,Qy,Qz,Ra,Rb,Rc,Rd,Re,Rf,Rg,Rh,Ri,Rj,Rk,Rl,Rm,Ya,Yb,Yc,Rn,Ro,Rp,Yd,Ye,Rq,Rs,Rt,Ru,Rv,Rw,Rx]
theorem aM{E:Env}(hE:An E){s:ASt}{i:Nat}{M:B4}(hm:Hy s i M)(x:Int)(hx:i64 x):WF E 50 [.map (some i),iv x] (fun v s'=>v=.tuple []∧Hy s' i (Hp M (Bl x).1 (Bl x).2)∧s'.next=s.next∧∀j,j≠i→s'.heap.get j=s.heap.get j) s:=by
  refine hE.go kT (by decide) rfl ?_
  simp only[c50,fJ,fK,Qa,Qb,Qc,Qd,Qe,Qf,Qg,Qh,Qi,Qj,Qk,Ql,Qm,Qn,true_and,and_true,Qo,Qp,Qq,Qr,Qs,Qt,Qu,Qv,Qw,Qx,Qy,Qz,Ra,Rb,Rc,Rd,Re,Rf,Rg,Rh,Ri,Rj,Rk,Rl,Rm,Ya,Yb,Yc,Rn,Ro,Rp,Yd,Ye,Rq,Rs,Rt,Ru,Rv,Rw,Rx]
  refine(KL hE x s hx).mono ?_
  rintro _ _ ⟨rfl,rfl⟩
  obtain⟨s',h1,h2,h3,h4⟩:=S9 hm (Bl x).1 (Bl x).2
  simp only[on3,h1,AT,Qa,Qb,Qc,Qd,Qe,Qf,Qg,Qh,Qi,Qj,Qk,Ql,Qm,Qn,true_and,and_true,Qo,Qp,Qq,Qr,Qs,Qt,Qu,Qv,Qw,Qx,Qy,Qz,Ra,Rb,Rc,Rd,Re,Rf,Rg,Rh,Ri,Rj,Rk,Rl,Rm,Ya,Yb,Yc,Rn,Ro,Rp,Yd,Ye,Rq,Rs,Rt,Ru,Rv,Rw,Rx]
  exact⟨h2,h3,h4⟩
abbrev ivs(l:List Int):List AV:=l.map iv
def C0(l:List Int):Prop:=∀x∈l,i64 x
theorem A2{l:List Int}{k:Nat}{x:Int}(h:l[k]? = some x):(ivs l)[k]? = some (iv x):=by rw[pL,h];rfl
def BT(M:B4):List Int→Int→Int→Int×Int
  | [],lit,left=>(lit,left)
  | x::l,lit,left=>if 0<ofV M x then (0,2)else if ofV M x<0∨(left=1∧x=lit)then BT M l lit left else if 1<left+1 then (0,2)else BT M l x (left+1)
theorem Va        {E : Env} (hE : An   E) {s : ASt} {i b : Nat} {M : B4}   (hm : Hy    s i M) (hg : H7    M) {L : List Int} (hL : C0   L) (hlen : L.length < 9223372036854775808) {a : Option (Nat × Nat)} {cap : Option Nat} (hc : A8      b s a (ivs L)) (v0 v1 : AV) {Q : A6   → Prop} :
    ∀ (l : List Int) (k : Nat) (lit left : Int) (x4 x5 x9 x10 x11 x12 : AV), L.drop k = l → k ≤ L.length → (left = 0 ∨ left = 1) → v0 = .map (some i) →
      (∀ (e:Ja) (y4 y5 y6 y7 y8 y9 y10 y11 y12:AV),(e=.ret∨e=.exit 0)→Q ⟨e,[v0,v1,iv (BT M l lit left).1,iv (BT M l lit left).2,y4,y5,y6,y7,y8,y9,y10,y11,y12],[],s⟩) →
      WC E none (.loop Kk) Q [v0,v1,iv lit,iv left,x4,x5,.slice a L.length cap,iv (L.length:Int),iv (k:Int),x9,x10,x11,x12] [] s:=by
  intro l
  induction l with
  | nil =>
    intro k lit left x4 x5 x9 x10 x11 x12 hd hk hl hv hq
    have hkl:k=L.length:=by
      have:=congrArg List.length hd
      simp at this;omega
    subst hkl
    refine WC.loop' ?_
    simp only[Kk,Xw,Qa,Qb,Qc,Qd,Qe,Qf,Qg,Qh,Qi,Qj,Qk,Ql,Qm,Qn,true_and,and_true,Qo,Qp,Qq,Qr,Qs,Qt,Qu,Qv,Qw,Qx,Qy,Qz,Ra,Rb,Rc,Rd,Re,Rf,Rg,Rh,Ri,Rj,Rk,Rl,Rm,Ya,Yb,Yc,Rn,Ro,Rp,Yd,Ye,Rq,Rs,Rt,Ru,Rv,Rw,Rx]
    simp only[om,decide_false,Qa,Qb,Qc,Qd,Qe,Qf,Qg,Qh,Qi,Qj,Qk,Ql,Qm,Qn,true_and,and_true,Qo,Qp,Qq,Qr,Qs,Qt,Qu,Qv,Qw,Qx,Qy,Qz,Ra,Rb,Rc,Rd,Re,Rf,Rg,Rh,Ri,Rj,Rk,Rl,Rm,Ya,Yb,Yc,Rn,Ro,Rp,Yd,Ye,Rq,Rs,Rt,Ru,Rv,Rw,Rx]
    exact hq _ _ _ _ _ _ _ _ _ _ (.inr rfl)
  | cons x l ih =>
    intro k lit left x4 x5 x9 x10 x11 x12 hd hk hl hv hq
    have hlt:k<L.length:=by
      have:=congrArg List.length hd
      simp at this;omega
    have hx:L[k]? = some x:=by
      have:=congrArg (fun l=>l[0]?) hd
      simpa using this
    have hd':L.drop (k+1)=l:=by
      rw[← pZ,hd];rfl
    have hxi:i64 x:=hL x (oG hx)
    subst hv
    obtain⟨j,o,rfl,hj,hload⟩:=hc k _ (A2 hx)
    have e1:=Aw (cap:=cap) (i:=j) (o:=o) Try.underlying23 sz3 hlt
    have e2:AD Try.prog s 3 (.ptr (some (j,o+k * 1)))=some (iv x):=A7 ag3 (by rw[oV];exact hload)
    have hkk:decide ((k:Int)<(L.length:Int))=true:=decide_eq_true (by omega)
    have e3:=Aq Try.prog 3 (k:Int) 1 ⟨by omega,by omega⟩
    refine WC.loop' ?_
    simp only[Kk,Xw,fQ,fR,hkk,e1,e2,Qa,Qb,Qc,Qd,Qe,Qf,Qg,Qh,Qi,Qj,Qk,Ql,Qm,Qn,true_and,and_true,Qo,Qp,Qq,Qr,Qs,Qt,Qu,Qv,Qw,Qx,Qy,Qz,Ra,Rb,Rc,Rd,Re,Rf,Rg,Rh,Ri,Rj,Rk,Rl,Rm,Ya,Yb,Yc,Rn,Ro,Rp,Yd,Ye,Rq,Rs,Rt,Ru,Rv,Rw,Rx]
    refine(im hE hm hg x hxi).mono ?_
    rintro _ _ ⟨rfl,rfl⟩
    by_cases h1:0<ofV M x
    · simp only[MW,fS,h1,decide_true,Qa,Qb,Qc,Qd,Qe,Qf,Qg,Qh,Qi,Qj,Qk,Ql,Qm,Qn,true_and,and_true,Qo,Qp,Qq,Qr,Qs,Qt,Qu,Qv,Qw,Qx,Qy,Qz,Ra,Rb,Rc,Rd,Re,Rf,Rg,Rh,Ri,Rj,Rk,Rl,Rm,Ya,Yb,Yc,Rn,Ro,Rp,Yd,Ye,Rq,Rs,Rt,Ru,Rv,Rw,Rx]
      have hu:BT M (x::l) lit left=(0,2):=by simp[BT,h1]
      rw[hu]at hq
      exact hq _ _ _ _ _ _ _ _ _ _ (.inl rfl)
    · have next:∀ (lit' left':Int) (x4' x5' x9' x10' x11' x12':AV),(left'=0∨left'=1)→BT M (x::l) lit left=BT M l lit' left' →
          WC E none (.loop Kk) Q [.map (some i),v1,iv lit',iv left',x4',x5',.slice (some (j,o)) L.length cap,iv (L.length:Int),iv ((k:Int)+1),x9',x10',x11',x12'] [] s:=by
        intro lit' left' x4' x5' x9' x10' x11' x12' hl' he
        rw[show((k:Int)+1)=((k+1:Nat):Int)from by omega]
        refine ih (k+1) lit' left' _ _ _ _ _ _ hd' hlt hl' rfl ?_
        rw[← he]
        exact hq
      by_cases h2:ofV M x<0
      · simp only[MW,Oj,Kl,h1,h2,e3,decide_true,decide_false,Qa,Qb,Qc,Qd,Qe,Qf,Qg,Qh,Qi,Qj,Qk,Ql,Qm,Qn,true_and,and_true,Qo,Qp,Qq,Qr,Qs,Qt,Qu,Qv,Qw,Qx,Qy,Qz,Ra,Rb,Rc,Rd,Re,Rf,Rg,Rh,Ri,Rj,Rk,Rl,Rm,Ya,Yb,Yc,Rn,Ro,Rp,Yd,Ye,Rq,Rs,Rt,Ru,Rv,Rw,Rx]
        exact next lit left _ _ _ _ _ _ hl (by simp[BT,h1,h2])
      · rcases hl with rfl | rfl
        · simp only [MW,    Oj,    Xx,    Xy,    Xu,     Kl,     h1, h2, decide_true, decide_false, Qa, Qb, Qc, Qd, Qe, Qf, Qg, Qh, Qi, Qj, Qk, Ql, Qm, Qn, true_and, and_true, Qo, Qp, Qq, Qr, Qs, Qt, Qu, Qv, Qw, Qx, Qy, Qz, Ra, Rb, Rc, Rd, Re, Rf, Rg, Rh, Ri, Rj, Rk, Rl, Rm, Ya, Yb, Yc, Rn, Ro, Rp, Yd, Ye, Rq, Rs, Rt, Ru, Rv, Rw, Rx]
          simp[e3,Qa,Qb,Qc,Qd,Qe,Qf,Qg,Qh,Qi,Qj,Qk,Ql,Qm,Qn,true_and,and_true,Qo,Qp,Qq,Qr,Qs,Qt,Qu,Qv,Qw,Qx,Qy,Qz,Ra,Rb,Rc,Rd,Re,Rf,Rg,Rh,Ri,Rj,Rk,Rl,Rm,Ya,Yb,Yc,Rn,Ro,Rp,Yd,Ye,Rq,Rs,Rt,Ru,Rv,Rw,Rx,Aq Try.prog 3 0 1 ⟨by decide,by decide⟩]
          exact next x 1 _ _ _ _ _ _ (.inr rfl) (by simp[BT,h1,h2])
        · by_cases h3 : x = lit
          · subst h3
            simp only[MW,Oj,Kl,h1,h2,decide_true,decide_false,Qa,Qb,Qc,Qd,Qe,Qf,Qg,Qh,Qi,Qj,Qk,Ql,Qm,Qn,true_and,and_true,Qo,Qp,Qq,Qr,Qs,Qt,Qu,Qv,Qw,Qx,Qy,Qz,Ra,Rb,Rc,Rd,Re,Rf,Rg,Rh,Ri,Rj,Rk,Rl,Rm,Ya,Yb,Yc,Rn,Ro,Rp,Yd,Ye,Rq,Rs,Rt,Ru,Rv,Rw,Rx]
            simp[e3,Qa,Qb,Qc,Qd,Qe,Qf,Qg,Qh,Qi,Qj,Qk,Ql,Qm,Qn,true_and,and_true,Qo,Qp,Qq,Qr,Qs,Qt,Qu,Qv,Qw,Qx,Qy,Qz,Ra,Rb,Rc,Rd,Re,Rf,Rg,Rh,Ri,Rj,Rk,Rl,Rm,Ya,Yb,Yc,Rn,Ro,Rp,Yd,Ye,Rq,Rs,Rt,Ru,Rv,Rw,Rx]
            exact next x 1 _ _ _ _ _ _ (.inr rfl) (by simp[BT,h1,h2])
          · simp only [MW,    Oj,    Xx,    Xy,    Xt,     Kl,     h1, h2, h3, decide_true, decide_false, Qa, Qb, Qc, Qd, Qe, Qf, Qg, Qh, Qi, Qj, Qk, Ql, Qm, Qn, true_and, and_true, Qo, Qp, Qq, Qr, Qs, Qt, Qu, Qv, Qw, Qx, Qy, Qz, Ra, Rb, Rc, Rd, Re, Rf, Rg, Rh, Ri, Rj, Rk, Rl, Rm, Ya, Yb, Yc, Rn, Ro, Rp, Yd, Ye, Rq, Rs, Rt, Ru, Rv, Rw, Rx]
            simp[h3,e3,Qa,Qb,Qc,Qd,Qe,Qf,Qg,Qh,Qi,Qj,Qk,Ql,Qm,Qn,true_and,and_true,Qo,Qp,Qq,Qr,Qs,Qt,Qu,Qv,Qw,Qx,Qy,Qz,Ra,Rb,Rc,Rd,Re,Rf,Rg,Rh,Ri,Rj,Rk,Rl,Rm,Ya,Yb,Yc,Rn,Ro,Rp,Yd,Ye,Rq,Rs,Rt,Ru,Rv,Rw,Rx,Aq Try.prog 3 1 1 ⟨by decide,by decide⟩]
            have hu:BT M (x::l) lit 1=(0,2):=by simp[BT,h1,h2,h3]
            rw[hu]at hq
            exact hq _ _ _ _ _ _ _ _ _ _ (.inl rfl)
theorem dT{E:Env}(hE:An E){s:ASt}{i b:Nat}{M:B4}(hm:Hy s i M)(hg:H7 M){L:List Int}(hL:C0 L)(hlen:L.length<9223372036854775808){c:AV}(hc:AM b s c (ivs L)):
    WF E 52 [.map (some i),c] (fun v s'=>v=.tuple [iv (BT M L 0 0).1,iv (BT M L 0 0).2]∧s=s') s:=by
  obtain⟨a,cap,rfl,hc⟩:=hc
  rw[oF]
  refine hE.go kV (by decide) rfl ?_
  simp only[c52,fO,fP,AZ Try.underlying23,Qa,Qb,Qc,Qd,Qe,Qf,Qg,Qh,Qi,Qj,Qk,Ql,Qm,Qn,true_and,and_true,Qo,Qp,Qq,Qr,Qs,Qt,Qu,Qv,Qw,Qx,Qy,Qz,Ra,Rb,Rc,Rd,Re,Rf,Rg,Rh,Ri,Rj,Rk,Rl,Rm,Ya,Yb,Yc,Rn,Ro,Rp,Yd,Ye,Rq,Rs,Rt,Ru,Rv,Rw,Rx]
  refine Va hE hm hg hL hlen hc _ _ L 0 0 0 _ _ _ _ _ _ rfl (oK _) (.inl rfl) rfl ?_
  rintro e y4 y5 y6 y7 y8 y9 y10 y11 y12 (rfl | rfl)
  · simp only[Qa,Qb,Qc,Qd,Qe,Qf,Qg,Qh,Qi,Qj,Qk,Ql,Qm,Qn,true_and,and_true,Qo,Qp,Qq,Qr,Qs,Qt,Qu,Qv,Qw,Qx,Qy,Qz,Ra,Rb,Rc,Rd,Re,Rf,Rg,Rh,Ri,Rj,Rk,Rl,Rm,Ya,Yb,Yc,Rn,Ro,Rp,Yd,Ye,Rq,Rs,Rt,Ru,Rv,Rw,Rx]
  · simp only[Xv,if_true,Qa,Qb,Qc,Qd,Qe,Qf,Qg,Qh,Qi,Qj,Qk,Ql,Qm,Qn,true_and,and_true,Qo,Qp,Qq,Qr,Qs,Qt,Qu,Qv,Qw,Qx,Qy,Qz,Ra,Rb,Rc,Rd,Re,Rf,Rg,Rh,Ri,Rj,Rk,Rl,Rm,Ya,Yb,Yc,Rn,Ro,Rp,Yd,Ye,Rq,Rs,Rt,Ru,Rv,Rw,Rx]
def EU(M:B4)(x:Int):B4:=Hp M (Bl x).1 (Bl x).2
theorem VZ        (M : B4)   : ∀ (L : List Int) (lit left : Int), (left = 0 ∨ left = 1) → (BT    M L lit left).2 = 1 → ((BT    M L lit left).1 ∈ L ∧ ofV M (BT    M L lit left).1 = 0) ∨ (left = 1 ∧ (BT    M L lit left).1 = lit) := by
  intro L
  induction L with
  | nil=>intro lit left _ h;exact .inr ⟨h,rfl⟩
  | cons x l ih =>
    intro lit left hl h
    simp only[BT]at h ⊢
    split at h
    · simp at h
    · rename_i h1
      rw[if_neg h1]
      split at h
      · rename_i h2
        rw[if_pos h2]
        rcases ih lit left hl h with⟨h3,h4⟩ | h3
        · exact .inl ⟨oJ _ h3,h4⟩
        · exact .inr h3
      · rename_i h2
        rw[if_neg h2]
        split at h
        · simp at h
        · rename_i h3
          rw[if_neg h3]
          rcases ih x (left+1) (by omega) h with⟨h4,h5⟩ | ⟨h4,h5⟩
          · exact .inl ⟨oJ _ h4,h5⟩
          · rw[h5]
            exact .inl ⟨oH,by omega⟩
theorem Nz{M:B4}(h:H7 M){x:Int}(hx:i64 x)(h0:ofV M x=0):H7 (EU M x):=by
  refine Lj h ?_
  rcases(Gu x hx).2 with h1 | h1 | h1
  · exact .inl h1
  · exact .inr h1
  · simp[ofV,h1]at h0
theorem M9{P:Program}{t:TypeId}(hs:BB P t=some 1){s:ASt}{i o:Nat}{r:EF}{v:AV}(hg:s.heap.get i=some (.row r))(hm:r.mode=.own)(hp:r.par=none)(ho:o<r.n)(hv:v.cells=[v])(hc:v.isCell=true):
    AN P s t (.ptr (some (i,o))) v=some (setObj s i (.row { r with c:=r.c.fill o [v],par:=none })):=by
  simp[AN,hs,AF,hv,CJ,BA,hg,hm,FL,Af,hc,A1 (show o+1≤r.n by omega),Ax,hp]
structure i5(s:ASt)(i j:Nat)(M:B4):Prop where
  map:Hy s i M
  cell:load1 s j 0=some (.map (some i))
  ne:j≠i
  signs:H7 M
theorem cy{E:Env}(hE:An E){s:ASt}{i j b:Nat}{M:B4}(hk:i5 s i j M){L:List Int}(hL:C0 L)(hlen:L.length<9223372036854775808){c:AV}(hc:AM b s c (ivs L)):
    WF E 51 [c,.ptr (some (j,0))] (fun v s'=>v=.tuple [.bool (decide ((BT M L 0 0).2=1)),.bool (decide ((BT M L 0 0).2=0))] ∧
      i5 s' i j (if (BT M L 0 0).2=1 then EU M (BT M L 0 0).1 else M)∧s'.next=s.next∧∀x,x≠i→s'.heap.get x=s.heap.get x) s:=by
  have e1:AD Try.prog s 69 (.ptr (some (j,0)))=some (.map (some i)):=A7 mK hk.cell
  refine hE.go kU (by decide) rfl ?_
  simp only[c51,fL,fM,e1,Qa,Qb,Qc,Qd,Qe,Qf,Qg,Qh,Qi,Qj,Qk,Ql,Qm,Qn,true_and,and_true,Qo,Qp,Qq,Qr,Qs,Qt,Qu,Qv,Qw,Qx,Qy,Qz,Ra,Rb,Rc,Rd,Re,Rf,Rg,Rh,Ri,Rj,Rk,Rl,Rm,Ya,Yb,Yc,Rn,Ro,Rp,Yd,Ye,Rq,Rs,Rt,Ru,Rv,Rw,Rx]
  refine(dT hE hk.map hk.signs hL hlen hc).mono ?_
  rintro _ _ ⟨rfl,rfl⟩
  by_cases h:(BT M L 0 0).2=1
  · have hu := (VZ        M L 0 0 (.inl rfl) h).resolve_right (by simp)
    have hx:i64 (BT M L 0 0).1:=hL _ hu.1
    simp only[Xr,fN,h,decide_true,e1,Qa,Qb,Qc,Qd,Qe,Qf,Qg,Qh,Qi,Qj,Qk,Ql,Qm,Qn,true_and,and_true,Qo,Qp,Qq,Qr,Qs,Qt,Qu,Qv,Qw,Qx,Qy,Qz,Ra,Rb,Rc,Rd,Re,Rf,Rg,Rh,Ri,Rj,Rk,Rl,Rm,Ya,Yb,Yc,Rn,Ro,Rp,Yd,Ye,Rq,Rs,Rt,Ru,Rv,Rw,Rx]
    refine(aM hE hk.map _ hx).mono ?_
    rintro _ s' ⟨rfl,h1,h2,h3⟩
    simp only[Xs,Qa,Qb,Qc,Qd,Qe,Qf,Qg,Qh,Qi,Qj,Qk,Ql,Qm,Qn,true_and,and_true,Qo,Qp,Qq,Qr,Qs,Qt,Qu,Qv,Qw,Qx,Qy,Qz,Ra,Rb,Rc,Rd,Re,Rf,Rg,Rh,Ri,Rj,Rk,Rl,Rm,Ya,Yb,Yc,Rn,Ro,Rp,Yd,Ye,Rq,Rs,Rt,Ru,Rv,Rw,Rx]
    simp only[Int.reduceEq,decide_false,decide_true,if_true,Qa,Qb,Qc,Qd,Qe,Qf,Qg,Qh,Qi,Qj,Qk,Ql,Qm,Qn,true_and,and_true,Qo,Qp,Qq,Qr,Qs,Qt,Qu,Qv,Qw,Qx,Qy,Qz,Ra,Rb,Rc,Rd,Re,Rf,Rg,Rh,Ri,Rj,Rk,Rl,Rm,Ya,Yb,Yc,Rn,Ro,Rp,Yd,Ye,Rq,Rs,Rt,Ru,Rv,Rw,Rx]
    exact⟨⟨h1,by rw[CE (h3 j hk.ne)];exact hk.cell,hk.ne,Nz hk.signs hx hu.2⟩,h2,h3⟩
  · simp only[Xr,Xs,h,decide_false,if_false,Qa,Qb,Qc,Qd,Qe,Qf,Qg,Qh,Qi,Qj,Qk,Ql,Qm,Qn,true_and,and_true,Qo,Qp,Qq,Qr,Qs,Qt,Qu,Qv,Qw,Qx,Qy,Qz,Ra,Rb,Rc,Rd,Re,Rf,Rg,Rh,Ri,Rj,Rk,Rl,Rm,Ya,Yb,Yc,Rn,Ro,Rp,Yd,Ye,Rq,Rs,Rt,Ru,Rv,Rw,Rx]
    exact⟨hk,fun _ _=>trivial⟩
def DK(M:B4):List (List Int)→Bool→Option (B4×Bool)
  | [],more=>some (M,more)
  | c::cs,more=>if (BT M c 0 0).2=0 then none else if (BT M c 0 0).2=1 then DK (EU M (BT M c 0 0).1) cs true else DK M cs more
def LY(cs:List (List Int)):Nat→B4→Option Bool
  | 0,_=>none
  | n+1,M=>match DK M cs false with
    | none=>some true
    | some (M',true)=>LY cs n M'
    | some (_,false)=>some false
def DB(M:B4):List Int→Option B4
  | []=>some M
  | x::l=>if (Bl x).2=0 then DB M l else if 0<ofV M x then none else DB (EU M (-x)) l
def EJ(n:Nat)(cs:List (List Int))(c:List Int):Option Bool:=match DB [] c with
  | none=>some true
  | some M=>LY cs n M
def Iu(b:Nat)(s:ASt)(a:Option (Nat×Nat))(cs:List (List Int)):Prop:=∀k L,cs[k]? = some L→∃i o u,a=some (i,o)∧i<b∧load1 s i (o+k)=some u∧AM b s u (ivs L)
def UF(cs:List (List Int)):Prop:=cs.length<9223372036854775808∧∀L∈cs,C0 L∧L.length<9223372036854775808
def KR(b:Nat)(s:ASt)(v:AV)(cs:List (List Int)):Prop:=∃a cap,v=.slice a cs.length cap∧Iu b s a cs
structure GM(n:Nat)(s0 s:ASt)(i j:Nat)(M:B4):Prop where
  know:i5 s i j M
  old:Old n s0 s
  hi:n≤i
  nx:s.next=s0.next+2
def Vk(n:Nat)(s0 s:ASt):Prop:=Old n s0 s∧s.next=s0.next+2
theorem GM.oldN{n:Nat}{s0 s:ASt}{i j:Nat}{M:B4}(h:GM n s0 s i j M):Vk n s0 s:=⟨h.old,h.nx⟩
theorem U9        {E : Env} (hE : An   E) {n : Nat} {s0 : ASt} {i j : Nat} {cs : List (List Int)} (hcs : UF   cs) {a : Option (Nat × Nat)} {cap : Option Nat} (hr : Iu     n s0 a cs) (v0 v1 v3 : AV) {Q : A6   → Prop} :
    ∀ (l : List (List Int)) (k : Nat) (M : B4)   (more : Bool) (s : ASt) (x2 x4 x5 x8 x9 x10 x11 x12 x13 x14 x15 x16 x17 x21 x22 x23 : AV), cs.drop k = l → k ≤ cs.length → GM     n s0 s i j M →
      (match DK M l more with
        | none=>∀s' y4 y5 y7 y8 y9 y10 y11 y12 y13 y14 y15 y16 y17 y18 y19 y20 y21 y22 y23,Vk n s0 s'→Q ⟨.ret,[v0,v1,.bool true,v3,y4,y5,.func 51 [] [.ptr (some (j,0))],y7,y8,y9,y10,y11,y12,y13,y14,y15,y16,y17,y18,y19,y20,y21,y22,y23],[],s'⟩
        | some (M',more')=>∀s' y2 y4 y5 y8 y9 y10 y11 y12 y13 y14 y15 y16 y17 y18 y19 y20 y21 y22 y23,GM n s0 s' i j M'→Q ⟨.exit 4,[v0,v1,y2,v3,y4,y5,.func 51 [] [.ptr (some (j,0))],.bool more',y8,y9,y10,y11,y12,y13,y14,y15,y16,y17,y18,y19,y20,y21,y22,y23],[],s'⟩) →
      WC E none (.loop NZ) Q [v0,v1,x2,v3,x4,x5,.func 51 [] [.ptr (some (j,0))],.bool more,x8,x9,x10,x11,x12,x13,x14,x15,x16,x17,.slice a cs.length cap,iv (cs.length:Int),iv (k:Int),x21,x22,x23] [] s:=by
  intro l
  induction l with
  | nil =>
    intro k M more s x2 x4 x5 x8 x9 x10 x11 x12 x13 x14 x15 x16 x17 x21 x22 x23 hd hk hmem hq
    have hkl:k=cs.length:=by
      have:=congrArg List.length hd
      simp at this;omega
    subst hkl
    refine WC.loop' ?_
    simp only[NZ,Q1,om,decide_false,Qa,Qb,Qc,Qd,Qe,Qf,Qg,Qh,Qi,Qj,Qk,Ql,Qm,Qn,true_and,and_true,Qo,Qp,Qq,Qr,Qs,Qt,Qu,Qv,Qw,Qx,Qy,Qz,Ra,Rb,Rc,Rd,Re,Rf,Rg,Rh,Ri,Rj,Rk,Rl,Rm,Ya,Yb,Yc,Rn,Ro,Rp,Yd,Ye,Rq,Rs,Rt,Ru,Rv,Rw,Rx]
    exact hq s _ _ _ _ _ _ _ _ _ _ _ _ _ _ _ _ _ _ _ hmem
  | cons L l ih =>
    intro k M more s x2 x4 x5 x8 x9 x10 x11 x12 x13 x14 x15 x16 x17 x21 x22 x23 hd hk hmem hq
    have hlt:k<cs.length:=by
      have:=congrArg List.length hd
      simp at this;omega
    have hx:cs[k]? = some L:=by
      have:=congrArg (fun l=>l[0]?) hd
      simpa using this
    have hd':cs.drop (k+1)=l:=by
      rw[← pZ,hd];rfl
    obtain⟨p,o,u,rfl,hp,hload,hu⟩:=hr k L hx
    obtain⟨hL,hLl⟩:=hcs.2 L (oG hx)
    have e1:=Aw (cap:=cap) (i:=p) (o:=o) Try.underlying22 BU hlt
    have e2:AD Try.prog s 23 (.ptr (some (p,o+k * 1)))=some u:=A7 C1 (by rw[oV,CE (hmem.old.2 p hp)];exact hload)
    have hkk:decide ((k:Int)<(cs.length:Int))=true:=decide_eq_true (by omega)
    have hcl:=hcs.1
    have e3:=Aq Try.prog 3 (k:Int) 1 ⟨by omega,by omega⟩
    refine WC.loop' ?_
    simp only[NZ,Q1,W8,W9,hkk,e1,e2,oz,pW,Qa,Qb,Qc,Qd,Qe,Qf,Qg,Qh,Qi,Qj,Qk,Ql,Qm,Qn,true_and,and_true,Qo,Qp,Qq,Qr,Qs,Qt,Qu,Qv,Qw,Qx,Qy,Qz,Ra,Rb,Rc,Rd,Re,Rf,Rg,Rh,Ri,Rj,Rk,Rl,Rm,Ya,Yb,Yc,Rn,Ro,Rp,Yd,Ye,Rq,Rs,Rt,Ru,Rv,Rw,Rx]
    refine(cy hE hmem.know hL hLl (hu.old hmem.old (oD n))).mono ?_
    rintro _ s1 ⟨rfl,h1,h2,h3⟩
    have hnx:s1.next=s0.next+2:=h2.trans hmem.nx
    have hold:Old n s0 s1:=hmem.old.trans ⟨by omega,fun x hx=>h3 x (by have:=hmem.hi;omega)⟩
    by_cases h0:(BT M L 0 0).2=0
    · have hp0:DK M (L::l) more=none:=by simp[DK,h0]
      rw[hp0]at hq
      simp only[Nb,XA,h0,decide_true,Qa,Qb,Qc,Qd,Qe,Qf,Qg,Qh,Qi,Qj,Qk,Ql,Qm,Qn,true_and,and_true,Qo,Qp,Qq,Qr,Qs,Qt,Qu,Qv,Qw,Qx,Qy,Qz,Ra,Rb,Rc,Rd,Re,Rf,Rg,Rh,Ri,Rj,Rk,Rl,Rm,Ya,Yb,Yc,Rn,Ro,Rp,Yd,Ye,Rq,Rs,Rt,Ru,Rv,Rw,Rx]
      exact hq s1 _ _ _ _ _ _ _ _ _ _ _ _ _ _ _ _ _ _ _ ⟨hold,hnx⟩
    · by_cases hone : (BT    M L 0 0).2 = 1
      · have hp1:DK M (L::l) more=DK (EU M (BT M L 0 0).1) l true:=by simp[DK,hone]
        rw[hp1]at hq
        rw[if_pos hone]at h1
        simp only[Nb,Q2,XB,Q3,hone,Int.reduceEq,decide_true,decide_false,Bool.not_true,e3,Qa,Qb,Qc,Qd,Qe,Qf,Qg,Qh,Qi,Qj,Qk,Ql,Qm,Qn,true_and,and_true,Qo,Qp,Qq,Qr,Qs,Qt,Qu,Qv,Qw,Qx,Qy,Qz,Ra,Rb,Rc,Rd,Re,Rf,Rg,Rh,Ri,Rj,Rk,Rl,Rm,Ya,Yb,Yc,Rn,Ro,Rp,Yd,Ye,Rq,Rs,Rt,Ru,Rv,Rw,Rx]
        rw[show((k:Int)+1)=((k+1:Nat):Int)from by omega]
        exact ih (k+1) _ true s1 _ _ _ _ _ _ _ _ _ _ _ _ _ _ _ _ hd' hlt ⟨h1,hold,hmem.hi,hnx⟩ hq
      · have hp1:DK M (L::l) more=DK M l more:=by simp[DK,hone,h0]
        rw[hp1]at hq
        rw[if_neg hone]at h1
        simp only[Nb,Q2,Q3,hone,h0,decide_false,Bool.not_false,if_true,e3,Qa,Qb,Qc,Qd,Qe,Qf,Qg,Qh,Qi,Qj,Qk,Ql,Qm,Qn,true_and,and_true,Qo,Qp,Qq,Qr,Qs,Qt,Qu,Qv,Qw,Qx,Qy,Qz,Ra,Rb,Rc,Rd,Re,Rf,Rg,Rh,Ri,Rj,Rk,Rl,Rm,Ya,Yb,Yc,Rn,Ro,Rp,Yd,Ye,Rq,Rs,Rt,Ru,Rv,Rw,Rx]
        rw[show((k:Int)+1)=((k+1:Nat):Int)from by omega]
        exact ih (k+1) _ more s1 _ _ _ _ _ _ _ _ _ _ _ _ _ _ _ _ hd' hlt ⟨h1,hold,hmem.hi,hnx⟩ hq
theorem Uz{E:Env}(hE:An E){n:Nat}{s0:ASt}{i j:Nat}{cs:List (List Int)}(hcs:UF cs){a:Option (Nat×Nat)}{cap:Option Nat}(hr:Iu n s0 a cs)(v1 v3:AV){Q:A6→Prop}:
    ∀ (fuel : Nat) (M : B4)   (s : ASt) (b : Bool) (x2 x4 x5 x8 x9 x10 x11 x12 x13 x14 x15 x16 x17 x18 x19 x20 x21 x22 x23 : AV), LY    cs fuel M = some b → GM     n s0 s i j M →
      (∀e s' y2 y4 y5 y6 y7 y8 y9 y10 y11 y12 y13 y14 y15 y16 y17 y18 y19 y20 y21 y22 y23,Vk n s0 s'→(e=.ret∧y2=.bool true∧b=true∨e=.exit 2∧b=false)→Q ⟨e,[.slice a cs.length cap,v1,y2,v3,y4,y5,y6,y7,y8,y9,y10,y11,y12,y13,y14,y15,y16,y17,y18,y19,y20,y21,y22,y23],[],s'⟩) →
      WC E none (.loop Na) Q [.slice a cs.length cap,v1,x2,v3,x4,x5,.func 51 [] [.ptr (some (j,0))],.bool true,x8,x9,x10,x11,x12,x13,x14,x15,x16,x17,x18,x19,x20,x21,x22,x23] [] s:=by
  intro fuel
  induction fuel with
  | zero=>intro M s b _ _ _ _ _ _ _ _ _ _ _ _ _ _ _ _ _ _ _ h;cases h
  | succ fuel ih =>
    intro M s b x2 x4 x5 x8 x9 x10 x11 x12 x13 x14 x15 x16 x17 x18 x19 x20 x21 x22 x23 hl hmem hq
    refine WC.loop' ?_
    simp only[Na,Q0,W6,W7,AZ Try.underlying22,Qa,Qb,Qc,Qd,Qe,Qf,Qg,Qh,Qi,Qj,Qk,Ql,Qm,Qn,true_and,and_true,Qo,Qp,Qq,Qr,Qs,Qt,Qu,Qv,Qw,Qx,Qy,Qz,Ra,Rb,Rc,Rd,Re,Rf,Rg,Rh,Ri,Rj,Rk,Rl,Rm,Ya,Yb,Yc,Rn,Ro,Rp,Yd,Ye,Rq,Rs,Rt,Ru,Rv,Rw,Rx]
    refine U9 hE hcs hr _ _ _ cs 0 M false s _ _ _ _ _ _ _ _ _ _ _ _ _ _ _ _ rfl (oK _) hmem ?_
    simp only[LY]at hl
    split at hl
    · rename_i hp
      injection hl with hl
      subst hl
      rw[hp]
      intro s' y4 y5 y7 y8 y9 y10 y11 y12 y13 y14 y15 y16 y17 y18 y19 y20 y21 y22 y23 ho
      simp only[Qa,Qb,Qc,Qd,Qe,Qf,Qg,Qh,Qi,Qj,Qk,Ql,Qm,Qn,true_and,and_true,Qo,Qp,Qq,Qr,Qs,Qt,Qu,Qv,Qw,Qx,Qy,Qz,Ra,Rb,Rc,Rd,Re,Rf,Rg,Rh,Ri,Rj,Rk,Rl,Rm,Ya,Yb,Yc,Rn,Ro,Rp,Yd,Ye,Rq,Rs,Rt,Ru,Rv,Rw,Rx]
      exact hq _ _ _ _ _ _ _ _ _ _ _ _ _ _ _ _ _ _ _ _ _ _ _ ho (.inl ⟨rfl,rfl,rfl⟩)
    · rename_i M' hp
      rw[hp]
      intro s' y2 y4 y5 y8 y9 y10 y11 y12 y13 y14 y15 y16 y17 y18 y19 y20 y21 y22 y23 ho
      simp only[if_true,Qa,Qb,Qc,Qd,Qe,Qf,Qg,Qh,Qi,Qj,Qk,Ql,Qm,Qn,true_and,and_true,Qo,Qp,Qq,Qr,Qs,Qt,Qu,Qv,Qw,Qx,Qy,Qz,Ra,Rb,Rc,Rd,Re,Rf,Rg,Rh,Ri,Rj,Rk,Rl,Rm,Ya,Yb,Yc,Rn,Ro,Rp,Yd,Ye,Rq,Rs,Rt,Ru,Rv,Rw,Rx]
      exact ih M' s' b _ _ _ _ _ _ _ _ _ _ _ _ _ _ _ _ _ _ _ hl ho hq
    · rename_i M' hp
      injection hl with hl
      subst hl
      rw[hp]
      intro s' y2 y4 y5 y8 y9 y10 y11 y12 y13 y14 y15 y16 y17 y18 y19 y20 y21 y22 y23 ho
      simp only[if_true,Qa,Qb,Qc,Qd,Qe,Qf,Qg,Qh,Qi,Qj,Qk,Ql,Qm,Qn,true_and,and_true,Qo,Qp,Qq,Qr,Qs,Qt,Qu,Qv,Qw,Qx,Qy,Qz,Ra,Rb,Rc,Rd,Re,Rf,Rg,Rh,Ri,Rj,Rk,Rl,Rm,Ya,Yb,Yc,Rn,Ro,Rp,Yd,Ye,Rq,Rs,Rt,Ru,Rv,Rw,Rx]
      refine WC.loop' ?_
      simp only[Na,Q0,Qa,Qb,Qc,Qd,Qe,Qf,Qg,Qh,Qi,Qj,Qk,Ql,Qm,Qn,true_and,and_true,Qo,Qp,Qq,Qr,Qs,Qt,Qu,Qv,Qw,Qx,Qy,Qz,Ra,Rb,Rc,Rd,Re,Rf,Rg,Rh,Ri,Rj,Rk,Rl,Rm,Ya,Yb,Yc,Rn,Ro,Rp,Yd,Ye,Rq,Rs,Rt,Ru,Rv,Rw,Rx]
      exact hq _ _ _ _ _ _ _ _ _ _ _ _ _ _ _ _ _ _ _ _ _ _ _ ho.oldN (.inr ⟨rfl,rfl⟩)
theorem VM{x:Int}(hx:i64 x)(h:(Bl x).2≠0):i64 (-x)∧(Bl (-x)).2≠0:=by
  obtain⟨h1,h2⟩:=hx
  unfold Bl at h ⊢
  split at h
  · rw[if_neg (by omega),if_pos ⟨by omega,by omega⟩]
    exact⟨⟨by omega,by omega⟩,by simp⟩
  · split at h
    · rw[if_pos (by omega)]
      exact⟨⟨by omega,by omega⟩,by simp⟩
    · simp at h
theorem Uk        {E : Env} (hE : An   E) {n : Nat} {s0 : ASt} {i j : Nat} {c : List Int} (hc : C0   c) (hcl : c.length < 9223372036854775808) {a : Option (Nat × Nat)} {cap : Option Nat} (hr : A8      n s0 a (ivs c)) (v0 v1 x6 x7 x8 x9 x10 : AV) {Q : A6   → Prop} :
    ∀ (l : List Int) (k : Nat) (M : B4)   (s : ASt) (x2 x4 x5 x14 x15 x16 x17 x18 x19 x20 x21 x22 x23 : AV), c.drop k = l → k ≤ c.length → GM     n s0 s i j M →
      (match DB M l with
        | none=>∀s' y4 y5 y6 y7 y8 y9 y10 y11 y12 y13 y14 y15 y16 y17 y18 y19 y20 y21 y22 y23,Vk n s0 s'→Q ⟨.ret,[v0,v1,.bool true,.ptr (some (j,0)),y4,y5,y6,y7,y8,y9,y10,y11,y12,y13,y14,y15,y16,y17,y18,y19,y20,y21,y22,y23],[],s'⟩
        | some M'=>∀s' y2 y4 y5 y6 y7 y8 y9 y10 y11 y12 y13 y14 y15 y16 y17 y18 y19 y20 y21 y22 y23,GM n s0 s' i j M'→Q ⟨.exit 0,[v0,v1,y2,.ptr (some (j,0)),y4,y5,y6,y7,y8,y9,y10,y11,y12,y13,y14,y15,y16,y17,y18,y19,y20,y21,y22,y23],[],s'⟩) →
      WC E none (.loop NY) Q [v0,v1,x2,.ptr (some (j,0)),x4,x5,x6,x7,x8,x9,x10,.slice a c.length cap,iv (c.length:Int),iv (k:Int),x14,x15,x16,x17,x18,x19,x20,x21,x22,x23] [] s:=by
  intro l
  induction l with
  | nil =>
    intro k M s x2 x4 x5 x14 x15 x16 x17 x18 x19 x20 x21 x22 x23 hd hk hmem hq
    have hkl:k=c.length:=by
      have:=congrArg List.length hd
      simp at this;omega
    subst hkl
    refine WC.loop' ?_
    simp only[NY,XD,om,decide_false,Qa,Qb,Qc,Qd,Qe,Qf,Qg,Qh,Qi,Qj,Qk,Ql,Qm,Qn,true_and,and_true,Qo,Qp,Qq,Qr,Qs,Qt,Qu,Qv,Qw,Qx,Qy,Qz,Ra,Rb,Rc,Rd,Re,Rf,Rg,Rh,Ri,Rj,Rk,Rl,Rm,Ya,Yb,Yc,Rn,Ro,Rp,Yd,Ye,Rq,Rs,Rt,Ru,Rv,Rw,Rx]
    exact hq s _ _ _ _ _ _ _ _ _ _ _ _ _ _ _ _ _ _ _ _ _ hmem
  | cons x l ih =>
    intro k M s x2 x4 x5 x14 x15 x16 x17 x18 x19 x20 x21 x22 x23 hd hk hmem hq
    have hlt:k<c.length:=by
      have:=congrArg List.length hd
      simp at this;omega
    have hx:c[k]? = some x:=by
      have:=congrArg (fun l=>l[0]?) hd
      simpa using this
    have hd':c.drop (k+1)=l:=by
      rw[← pZ,hd];rfl
    obtain⟨p,o,rfl,hp,hload⟩:=hr k _ (A2 hx)
    have hxi:=hc x (oG hx)
    have e1:=Aw (cap:=cap) (i:=p) (o:=o) Try.underlying23 sz3 hlt
    have e2:AD Try.prog s 3 (.ptr (some (p,o+k * 1)))=some (iv x):=A7 ag3 (by rw[oV,CE (hmem.old.2 p hp)];exact hload)
    have hkk:decide ((k:Int)<(c.length:Int))=true:=decide_eq_true (by omega)
    have e3:=Aq Try.prog 3 (k:Int) 1 ⟨by omega,by omega⟩
    have e4:AD Try.prog s 69 (.ptr (some (j,0)))=some (.map (some i)):=A7 mK hmem.know.cell
    refine WC.loop' ?_
    simp only[NY,XD,dp,dr,hkk,e1,e2,Qa,Qb,Qc,Qd,Qe,Qf,Qg,Qh,Qi,Qj,Qk,Ql,Qm,Qn,true_and,and_true,Qo,Qp,Qq,Qr,Qs,Qt,Qu,Qv,Qw,Qx,Qy,Qz,Ra,Rb,Rc,Rd,Re,Rf,Rg,Rh,Ri,Rj,Rk,Rl,Rm,Ya,Yb,Yc,Rn,Ro,Rp,Yd,Ye,Rq,Rs,Rt,Ru,Rv,Rw,Rx]
    refine(KL hE x s hxi).mono ?_
    rintro _ _ ⟨rfl,rfl⟩
    by_cases h0:(Bl x).2=0
    · have hi0:DB M (x::l)=DB M l:=by simp[DB,h0]
      rw[hi0]at hq
      simp only[XE,QZ,h0,decide_true,if_true,e3,Qa,Qb,Qc,Qd,Qe,Qf,Qg,Qh,Qi,Qj,Qk,Ql,Qm,Qn,true_and,and_true,Qo,Qp,Qq,Qr,Qs,Qt,Qu,Qv,Qw,Qx,Qy,Qz,Ra,Rb,Rc,Rd,Re,Rf,Rg,Rh,Ri,Rj,Rk,Rl,Rm,Ya,Yb,Yc,Rn,Ro,Rp,Yd,Ye,Rq,Rs,Rt,Ru,Rv,Rw,Rx]
      rw[show((k:Int)+1)=((k+1:Nat):Int)from by omega]
      exact ih (k+1) M s _ _ _ _ _ _ _ _ _ _ _ _ _ hd' hlt hmem hq
    · simp only[XE,du,h0,decide_false,e4,Qa,Qb,Qc,Qd,Qe,Qf,Qg,Qh,Qi,Qj,Qk,Ql,Qm,Qn,true_and,and_true,Qo,Qp,Qq,Qr,Qs,Qt,Qu,Qv,Qw,Qx,Qy,Qz,Ra,Rb,Rc,Rd,Re,Rf,Rg,Rh,Ri,Rj,Rk,Rl,Rm,Ya,Yb,Yc,Rn,Ro,Rp,Yd,Ye,Rq,Rs,Rt,Ru,Rv,Rw,Rx]
      refine(im hE hmem.know.map hmem.know.signs x hxi).mono ?_
      rintro _ _ ⟨rfl,rfl⟩
      by_cases h1:0<ofV M x
      · have hi1:DB M (x::l)=none:=by simp[DB,h0,h1]
        rw[hi1]at hq
        simp only[dv,h1,decide_true,Qa,Qb,Qc,Qd,Qe,Qf,Qg,Qh,Qi,Qj,Qk,Ql,Qm,Qn,true_and,and_true,Qo,Qp,Qq,Qr,Qs,Qt,Qu,Qv,Qw,Qx,Qy,Qz,Ra,Rb,Rc,Rd,Re,Rf,Rg,Rh,Ri,Rj,Rk,Rl,Rm,Ya,Yb,Yc,Rn,Ro,Rp,Yd,Ye,Rq,Rs,Rt,Ru,Rv,Rw,Rx]
        exact hq s _ _ _ _ _ _ _ _ _ _ _ _ _ _ _ _ _ _ _ _ hmem.oldN
      · obtain⟨hn1,hn2⟩:=VM hxi h0
        have hi1:DB M (x::l)=DB (EU M (-x)) l:=by simp[DB,h0,h1]
        rw[hi1]at hq
        simp only[dw,h1,decide_false,e4,EY _ x hn1,Qa,Qb,Qc,Qd,Qe,Qf,Qg,Qh,Qi,Qj,Qk,Ql,Qm,Qn,true_and,and_true,Qo,Qp,Qq,Qr,Qs,Qt,Qu,Qv,Qw,Qx,Qy,Qz,Ra,Rb,Rc,Rd,Re,Rf,Rg,Rh,Ri,Rj,Rk,Rl,Rm,Ya,Yb,Yc,Rn,Ro,Rp,Yd,Ye,Rq,Rs,Rt,Ru,Rv,Rw,Rx]
        refine(aM hE hmem.know.map (-x) hn1).mono ?_
        rintro _ s1 ⟨rfl,g1,g2,g3⟩
        simp only[QZ,e3,Qa,Qb,Qc,Qd,Qe,Qf,Qg,Qh,Qi,Qj,Qk,Ql,Qm,Qn,true_and,and_true,Qo,Qp,Qq,Qr,Qs,Qt,Qu,Qv,Qw,Qx,Qy,Qz,Ra,Rb,Rc,Rd,Re,Rf,Rg,Rh,Ri,Rj,Rk,Rl,Rm,Ya,Yb,Yc,Rn,Ro,Rp,Yd,Ye,Rq,Rs,Rt,Ru,Rv,Rw,Rx]
        rw[show((k:Int)+1)=((k+1:Nat):Int)from by omega]
        refine ih (k+1) _ s1 _ _ _ _ _ _ _ _ _ _ _ _ _ hd' hlt ⟨⟨g1,by rw[CE (g3 j hmem.know.ne)];exact hmem.know.cell,hmem.know.ne,Lj hmem.know.signs ?_⟩,hmem.old.trans ⟨by omega,fun y hy=>g3 y (by have:=hmem.hi;omega)⟩,hmem.hi,g2.trans hmem.nx⟩ hq
        rcases(Gu (-x) hn1).2 with h | h | h
        · exact .inl h
        · exact .inr h
        · exact absurd h hn2
set_option maxRecDepth 4000 in
theorem LJ{E:Env}(hE:An E){s:ASt}{cs:List (List Int)}{c:List Int}(hcs:UF cs)(hc:C0 c)(hcl:c.length<9223372036854775808){v u:AV}(hr:KR s.next s v cs)(hu:AM s.next s u (ivs c)){fuel:Nat}{b:Bool}(hf:EJ fuel cs c=some b):
    WF E 17 [v,u] (fun r s'=>r=.bool b∧Vk s.next s s') s:=by
  obtain⟨a,cap,rfl,hr⟩:=hr
  obtain⟨a2,cap2,rfl,hu⟩:=hu
  rw[oF]
  refine hE.go kH (by decide) rfl ?_
  have hz:BE Try.prog 69=some (AP 69 0 [.map none],.ptr):=by simp[BE,zr69,AV.cells]
  simp only[c17,dj,dk,dm,hz,Bv.val,on2,AZ Try.underlying23,Qa,Qb,Qc,Qd,Qe,Qf,Qg,Qh,Qi,Qj,Qk,Ql,Qm,Qn,true_and,and_true,Qo,Qp,Qq,Qr,Qs,Qt,Qu,Qv,Qw,Qx,Qy,Qz,Ra,Rb,Rc,Rd,Re,Rf,Rg,Rh,Ri,Rj,Rk,Rl,Rm,Ya,Yb,Yc,Rn,Ro,Rp,Yd,Ye,Rq,Rs,Rt,Ru,Rv,Rw,Rx]
  let s1:=AH s (.map [] 0)
  let s2:=AH s1 (AP 69 0 [.map none])
  obtain⟨r,hr1,hr2,_,_,hr5,hr6⟩:=Bo 69 0 [.map none]
  have hg:s2.heap.get (s.next+1)=some (.row r):=by
    rw[AO,if_pos (show s.next+1=s1.next from rfl),hr1]
  have hst:=M9 (P:=Try.prog) (t:=69) sz69 (o:=0) (v:=.map (some s.next)) hg hr5 hr6 (by rw[hr2.1];decide) rfl rfl
  have hst':AN Try.prog (AH (AH s (.map [] 0)) (AP 69 0 [.map none])) 69 (.ptr (some ((AH s (.map [] 0)).next,0))) (.map (some s.next))=_:=hst
  simp only[hst',AT,Qa,Qb,Qc,Qd,Qe,Qf,Qg,Qh,Qi,Qj,Qk,Ql,Qm,Qn,true_and,and_true,Qo,Qp,Qq,Qr,Qs,Qt,Qu,Qv,Qw,Qx,Qy,Qz,Ra,Rb,Rc,Rd,Re,Rf,Rg,Rh,Ri,Rj,Rk,Rl,Rm,Ya,Yb,Yc,Rn,Ro,Rp,Yd,Ye,Rq,Rs,Rt,Ru,Rv,Rw,Rx]
  generalize hs3:setObj s2 (s.next+1) (.row { r with c:=r.c.fill 0 [.map (some s.next)],par:=none })=s3
  have k3:∀x,s3.heap.get x=if x=s.next+1 then some (.row { r with c:=r.c.fill 0 [.map (some s.next)],par:=none })else if x=s.next then some (.map [] 0)else s.heap.get x:=by
    intro x
    rw[← hs3,Ai]
    by_cases h1:x=s.next+1
    · rw[if_pos h1,if_pos h1]
    · rw[if_neg h1,if_neg h1,AO,if_neg (show ¬ x=s1.next from h1),AO]
  have hmem:GM s.next s s3 s.next (s.next+1) []:=by
    refine⟨⟨⟨[],0,by rw[k3,if_neg (by omega),if_pos rfl],.nil⟩,?_,by omega,fun p hp=>by cases hp⟩,⟨by rw[← hs3];show s.next≤s.next+1+1;omega,fun x hx=>by rw[k3,if_neg (by omega),if_neg (by omega)]⟩,oD _,by rw[← hs3];rfl⟩
    refine BW (r:={ r with c:=r.c.fill 0 [.map (some s.next)],par:=none }) (by rw[k3,if_pos rfl]) (by rw[hr2.1];decide) ?_
    show(Aj.fill r.c 0 [AV.map (some s.next)]).get 0=_
    rw[Aj.get_fill,if_pos ⟨oD _,by simp⟩]
    rfl
  have hnx:(AH s (.map [] 0)).next=s.next+1:=rfl
  rw[hnx]
  refine Uk hE hc hcl hu _ _ _ _ _ _ _ c 0 [] s3 _ _ _ _ _ _ _ _ _ _ _ _ _ rfl (oK _) hmem ?_
  unfold EJ at hf
  cases hi:DB [] c with
  | none =>
    rw[hi]at hf
    injection hf with hf
    subst hf
    intro s' y4 y5 y6 y7 y8 y9 y10 y11 y12 y13 y14 y15 y16 y17 y18 y19 y20 y21 y22 y23 ho
    simp only[Qa,Qb,Qc,Qd,Qe,Qf,Qg,Qh,Qi,Qj,Qk,Ql,Qm,Qn,true_and,and_true,Qo,Qp,Qq,Qr,Qs,Qt,Qu,Qv,Qw,Qx,Qy,Qz,Ra,Rb,Rc,Rd,Re,Rf,Rg,Rh,Ri,Rj,Rk,Rl,Rm,Ya,Yb,Yc,Rn,Ro,Rp,Yd,Ye,Rq,Rs,Rt,Ru,Rv,Rw,Rx]
    exact ho
  | some M =>
    rw[hi]at hf
    intro s' y2 y4 y5 y6 y7 y8 y9 y10 y11 y12 y13 y14 y15 y16 y17 y18 y19 y20 y21 y22 y23 ho
    simp only[if_true,W4,W5,pU,pP,Qa,Qb,Qc,Qd,Qe,Qf,Qg,Qh,Qi,Qj,Qk,Ql,Qm,Qn,true_and,and_true,Qo,Qp,Qq,Qr,Qs,Qt,Qu,Qv,Qw,Qx,Qy,Qz,Ra,Rb,Rc,Rd,Re,Rf,Rg,Rh,Ri,Rj,Rk,Rl,Rm,Ya,Yb,Yc,Rn,Ro,Rp,Yd,Ye,Rq,Rs,Rt,Ru,Rv,Rw,Rx]
    have hf:LY cs fuel M=some b:=hf
    refine Uz hE hcs hr _ _ fuel M s' b _ _ _ _ _ _ _ _ _ _ _ _ _ _ _ _ _ _ _ hf ho ?_
    intro e s4 y2 y4 y5 y6 y7 y8 y9 y10 y11 y12 y13 y14 y15 y16 y17 y18 y19 y20 y21 y22 y23 ho4 he
    rcases he with⟨rfl,rfl,rfl⟩ | ⟨rfl,rfl⟩
    · simp only[Qa,Qb,Qc,Qd,Qe,Qf,Qg,Qh,Qi,Qj,Qk,Ql,Qm,Qn,true_and,and_true,Qo,Qp,Qq,Qr,Qs,Qt,Qu,Qv,Qw,Qx,Qy,Qz,Ra,Rb,Rc,Rd,Re,Rf,Rg,Rh,Ri,Rj,Rk,Rl,Rm,Ya,Yb,Yc,Rn,Ro,Rp,Yd,Ye,Rq,Rs,Rt,Ru,Rv,Rw,Rx]
      exact ho4
    · simp only[if_true,XC,Qa,Qb,Qc,Qd,Qe,Qf,Qg,Qh,Qi,Qj,Qk,Ql,Qm,Qn,true_and,and_true,Qo,Qp,Qq,Qr,Qs,Qt,Qu,Qv,Qw,Qx,Qy,Qz,Ra,Rb,Rc,Rd,Re,Rf,Rg,Rh,Ri,Rj,Rk,Rl,Rm,Ya,Yb,Yc,Rn,Ro,Rp,Yd,Ye,Rq,Rs,Rt,Ru,Rv,Rw,Rx]
      exact ho4
def Ns:List AV→Option (List Int)
  | []=>some []
  | .int .i64 n::l=>AF (B0 .i64 n) ((Ns l).bind fun r=>some (n::r))
  | _=>none
def Gq(s:ASt):AV→Option (List Int)
  | .slice none n _=>AF (Nat.beq n 0) (some [])
  | .slice (some (i,o)) n _=>AF (Nat.blt i s.next && Nat.ble n 1000) ((loadN s i o n).bind Ns)
  | _=>none
def Ln(s:ASt):List AV→Option (List (List Int))
  | []=>some []
  | v::l=>(Gq s v).bind fun L=>(Ln s l).bind fun r=>some (L::r)
def Lm(s:ASt):AV→Option (List (List Int))
  | .slice none n _=>AF (Nat.beq n 0) (some [])
  | .slice (some (i,o)) n _=>AF (Nat.blt i s.next && Nat.ble n 1000) ((loadN s i o n).bind (Ln s))
  | _=>none
theorem PE{n:Int}(h:B0 .i64 n=true):i64 n:=by
  cases n with
  | ofNat m =>
    simp only[B0,oQ]at h
    have e:Int.ofNat m=(m:Int):=rfl
    rw[e]
    exact⟨by omega,by omega⟩
  | negSucc m=>simp only[B0,oQ]at h;exact⟨by omega,by omega⟩
theorem Mm:∀ {l:List AV}{L:List Int},Ns l=some L→l=ivs L∧C0 L
  | [],L,h=>by injection h with h;subst h;exact⟨rfl,(fun x hx=>by cases hx)⟩
  | v::l,L,h=>by
    unfold Ns at h
    split at h
    · rename_i e;cases e
    · rename_i n l' e
      injection e with e1 e2
      subst e1;subst e2
      obtain⟨h1,h2⟩:=AJ h
      simp only[oE]at h2
      obtain⟨r,h3,h4⟩:=h2
      injection h4 with h4
      subst h4
      obtain⟨g1,g2⟩:=Mm h3
      refine⟨by rw[g1];rfl,fun x hx=>?_⟩
      rcases ov.1 hx with rfl | hx
      · exact PE h1
      · exact g2 x hx
    · cases h
theorem Mr{s:ASt}{i o n:Nat}{l:List AV}(h:loadN s i o n=some l):l.length=n∧∀k u,l[k]? = some u→load1 s i (o+k)=some u:=by
  unfold loadN at h
  simp only[oE]at h
  obtain⟨r,h1,h2⟩:=h
  obtain⟨h3,h4⟩:=AJ h2
  have hl:=Aj.take_length h4
  refine⟨hl,fun k u hk=>?_⟩
  have hlt:k<n:=by
    rcases oI k n with h' | h'
    · exact h'
    · rw[oe (by omega)]at hk;cases hk
  have h3:o+n≤r.n:=by simpa[oQ]using h3
  exact BW        (by unfold BA    at h1; split at h1; · injection h1 with h1; subst h1; assumption
                      · cases h1) (by omega) ((Aj.take_get h4 k hlt).trans hk)
theorem Gr{s:ASt}{v:AV}{L:List Int}(h:Gq s v=some L):AM s.next s v (ivs L)∧C0 L∧L.length≤1000:=by
  unfold Gq at h
  split at h
  · obtain⟨h1,h2⟩:=AJ h
    injection h2 with h2
    subst h2
    have:=pI h1
    subst this
    exact⟨⟨_,_,rfl,A8.nil⟩,(fun x hx=>by cases hx),by decide⟩
  · rename_i i o n c
    obtain⟨h1,h2⟩:=AJ h
    simp only[Bool.and_eq_true]at h1
    simp only[oE]at h2
    obtain⟨l,h3,h4⟩:=h2
    obtain⟨g1,g2⟩:=Mm h4
    obtain⟨g3,g4⟩:=Mr h3
    subst g1
    have hn:L.length=n:=by rw[← g3];simp
    refine⟨⟨some (i,o),c,by rw[g3],fun k u hk=>⟨i,o,rfl,by simpa[oq]using h1.1,g4 k u hk⟩⟩,g2,?_⟩
    rw[hn]
    simpa[oQ]using h1.2
  · cases h
theorem JP{s:ASt}:∀ {l:List AV}{cs:List (List Int)},Ln s l=some cs→l.length=cs.length∧(∀ (k:Nat)(L:List Int),cs[k]? = some L→∃u:AV,l[k]? = some u∧Gq s u=some L)
  | [],cs,h=>by injection h with h;subst h;exact⟨rfl,fun k L hk=>by simp at hk⟩
  | v::l,cs,h=>by
    simp only[Ln,oE]at h
    obtain⟨L,h1,r,h2,h3⟩:=h
    injection h3 with h3
    subst h3
    obtain⟨g1,g2⟩:=JP h2
    refine⟨by simp[g1],fun k L' hk=>?_⟩
    cases k with
    | zero=>simp at hk;subst hk;exact⟨v,rfl,h1⟩
    | succ k=>simpa using g2 k L' (by simpa using hk)
theorem Uc{s:ASt}{l:List AV}{cs:List (List Int)}(h:Ln s l=some cs)(hl:l.length≤1000):UF cs:=by
  obtain⟨g1,g2⟩:=JP h
  refine⟨by omega,fun L hL=>?_⟩
  obtain⟨k,hk⟩:=List.mem_iff_getElem?.1 hL
  obtain⟨u,_,h2⟩:=g2 k L hk
  have:=Gr h2
  exact⟨this.2.1,by have:=this.2.2;omega⟩
theorem Pi{s:ASt}{v:AV}{cs:List (List Int)}(h:Lm s v=some cs):KR s.next s v cs∧UF cs:=by
  unfold Lm at h
  split at h
  · obtain⟨h1,h2⟩:=AJ h
    injection h2 with h2
    subst h2
    have:=pI h1
    subst this
    exact⟨⟨_,_,rfl,(fun k L hk=>by simp at hk)⟩,⟨by decide,(fun L hL=>by cases hL)⟩⟩
  · rename_i i o n c
    obtain⟨h1,h2⟩:=AJ h
    simp only[Bool.and_eq_true]at h1
    simp only[oE]at h2
    obtain⟨l,h3,h4⟩:=h2
    obtain⟨g3,g4⟩:=Mr h3
    obtain⟨g1,g2⟩:=JP h4
    refine⟨⟨some (i,o),c,by rw[← g3,g1],fun k L hk=>?_⟩,Uc h4 (by rw[g3];simpa[oQ]using h1.2)⟩
    obtain⟨u,k1,k2⟩:=g2 k L hk
    exact⟨i,o,u,rfl,by simpa[oq]using h1.1,g4 k u k1,(Gr k2).1⟩
  · cases h
theorem Fu.forget     {P : Program} {ρ : Rho} {s s1 : ASt} {w w' : World} {v : AV} {e : Ending} {m : Nat} (h : Fu     P ρ s w v s1 e w') (ho : Old s.next s s1) (hm : s1.next ≤ m) (hf : Bb     ρ s) : Fu     P ρ s w v ⟨m, s.heap⟩ e w' := by
  cases e with
  | panicked c=>exact h
  | outgrown=>exact h
  | returned v' =>
    obtain⟨ρ',h1,h2,h3⟩:=h
    have sub:∀i o,s.heap.get i=some o→s1.heap.get i=some o:=by
      intro i o hi
      have:i<s.next:=by
        rcases oI i s.next with h' | h'
        · exact h'
        · rw[(hf i h').2]at hi;cases hi
      rw[ho.2 i this];exact hi
    have hn:=ho.1
    refine⟨ρ',h1,⟨fun i o rb hi hr=>h2.obj i o rb (sub i o hi) hr,h2.lt,fun i j oi oj ri rj hne hi hj=>h2.sep i j oi oj ri rj hne (sub i oi hi) (sub j oj hj)⟩,
      ⟨h3.le,fun i hi hr=>h3.fresh i hi (hr.imp id fun(h':m≤i)=>by omega),oS hn hm,h3.size,h3.os,h3.tape,h3.output,h3.keep,?_,fun _ _ _=>rfl⟩⟩
    rintro b ⟨i,o,rb,k1,k2,k3,k4⟩
    exact h3.own b ⟨i,o,rb,sub i o k1,k2,k3,k4⟩
def lR:ak:=fun f xs s=>bif Nat.beq f 17 then (match xs with
  | [v,u]=>(Lm s v).bind fun cs=>(Gq s u).bind fun c=>(EJ 100 cs c).bind fun b=>some (.bool b,⟨s.next+2,s.heap⟩)
  | _=>none)else none
theorem ZT:An (env Try.prog):=⟨rfl,fun _ _ _ _=>rfl⟩
theorem c7(hm:Try.prog.follows .mixedOrders=true)(hng:Ef Try.prog):HY Try.prog lR:=by
  intro ρ s w f xs v s1 xs' h hi hf ha
  unfold lR at h
  cases hb:Nat.beq f 17 with
  | false=>rw[hb]at h;cases h
  | true =>
    rw[hb]at h
    have:=pI hb
    subst this
    simp only[cond_true]at h
    split at h
    · rename_i v0 u0
      simp only[oE]at h
      obtain⟨cs,h1,c,h2,b,h3,h4⟩:=h
      injection h4 with h4
      injection h4 with h4 h5
      subst h4;subst h5
      obtain⟨g1,g2⟩:=Pi h1
      obtain⟨g3,g4,g5⟩:=Gr h2
      obtain⟨n,p,k1,k2,k3⟩:=LJ ZT g2 g4 (by omega) g1 g3 h3
      have:=(sim hm hng rfl (Zu Try.prog) n).call ρ s w 17 _ p.1 p.2 xs' k1 hi hf ha
      refine⟨this.1,CallsIn.mono this.2 fun e w' he=>?_⟩
      rw[k2]at he
      exact he.forget k3.1 (by rw[k3.2];exact oD _) hf
    · cases h
def lJ:Env:=⟨Try.prog,lR⟩
theorem Lf:Try.prog.follows .mixedOrders=true:=by kernel_rfl
theorem JK:Lc Try.prog=true:=by kernel_rfl
theorem Vd:Tw ((D9 lJ 100000).call 21 [] st0)=true:=by kernel_rfl
theorem Ni           {n : Nat} {f : FuncId} (h : Tw      ((D9   lJ   n).call f [] st0) = true) (w : World) :
    (∃fn c,Try.prog.funcs[f]? = some fn∧fn.body=some c)∧CallsIn Fence.wide 0 Try.prog f #[] w fun e w'=>e=.returned (.bool true)∧L9 w w'∧w'.tape=w.tape:=by
  cases hr:(D9 lJ n).call f [] st0 with
  | none=>rw[hr]at h;cases h
  | some p =>
    obtain⟨v,s1⟩:=p
    rw[hr]at h
    cases v with
    | bool b =>
      have hb:b=true:=h
      subst hb
      have:=(sim Lf (Hn JK) rfl (c7 Lf (Hn JK)) n).call aD st0 w f [] _ _ #[] hr (np _ w) ZQ .nil
      refine⟨this.1,CallsIn.mono this.2 ?_⟩
      intro e w' he
      cases e with
      | panicked c=>exact he.elim
      | outgrown=>exact he.elim
      | returned v' =>
        obtain⟨ρ',h1,h2,h3⟩:=he
        cases h1
        exact⟨rfl,Ty h3 U5,h3.tape⟩
    | _=>cases h
def Zs:ak:=fun f xs s=>bif Nat.beq f 21 then (match xs with
  | []=>some (.bool true,s)
  | _=>none)else none
theorem c8      : HY     Try.prog Zs   := by
  intro ρ s w f xs v s1 xs' h hi hf ha
  unfold Zs at h
  cases hb:Nat.beq f 21 with
  | false=>rw[hb]at h;cases h
  | true =>
    rw[hb]at h
    have:=pI hb
    subst this
    simp only[cond_true]at h
    split at h
    · injection h with h
      injection h with h1 h2
      subst h1;subst h2
      have hx:xs'=#[]:=by
        have hl:=ha.length
        exact Array.eq_empty_of_size_eq_zero (by simpa using hl.symm)
      subst hx
      obtain⟨g1,g2⟩:=Ni Vd w
      refine⟨g1,CallsIn.mono g2 fun e w' he=>?_⟩
      obtain⟨rfl,hk,ht⟩:=he
      refine⟨ρ,.bool true,⟨fun i o rb hi' hr=>(hi.obj i o rb hi' hr).mono (Rho.le_refl ρ) (hk.heap rb.b (hi.lt i rb hr)),fun i rb hr=>oh (hi.lt i rb hr) hk.size,hi.sep⟩,
        ⟨Rho.le_refl ρ,fun _ h _=>h,oD _,hk.size,hk.os,ht,hk.output,fun b hb _=>hk.heap b hb,fun b hb=>.inl hb,fun _ _ _=>rfl⟩⟩
    · cases h
def lK:Env:=⟨Try.prog,Zs⟩
theorem SL(s:ASt):lK.nat 21 [] s=some (.bool true,s):=rfl
theorem Ue:An lK:=by
  refine⟨rfl,fun f xs s hf=>?_⟩
  show Zs f xs s=none
  unfold Zs
  have:Nat.beq f 21=false:=by
    cases hb:Nat.beq f 21 with
    | true=>exact absurd (pI hb) hf
    | false=>rfl
  rw[this];rfl
end
end Go.Proofs.Ytilhhmkdcoajnaa.Am
set_option linter.unusedVariables false
set_option linter.unusedSimpArgs false
namespace Go.Proofs.Ytilhhmkdcoajnaa.Am
open Go
noncomputable section
theorem PS{α β:Type}{f:α→Option β}:∀ {l:List α}{r:List β},l.mapM f=some r→r.length=l.length∧∀ (k:Nat)(a:α),l[k]? = some a→f a=r[k]?
  | [],r,h=>by
    simp at h
    subst h
    exact⟨rfl,fun k a hk=>by simp at hk⟩
  | x::l,r,h=>by
    rw[List.mapM_cons]at h
    simp only[bind,pure,oE]at h
    obtain⟨y,h1,r',h2,h3⟩:=h
    injection h3 with h3
    subst h3
    obtain⟨g1,g2⟩:=PS h2
    refine⟨by simp[g1],fun k a hk=>?_⟩
    cases k with
    | zero=>simp at hk;subst hk;simpa using h1
    | succ k=>simpa using g2 k a (by simpa using hk)
theorem JA{w:World}{a:Addr}{n:Nat}{cs:List Value}(h:w.cells? 0 a n=some cs):cs.length=n∧∀j,j<n→w.cell? (a.add j)=cs[j]? := by
  unfold World.cells? at h
  rw[if_pos (oK _)]at h
  obtain⟨g1,g2⟩:=PS h
  exact⟨by simpa using g1,fun j hj=>g2 j j (by simp[hj])⟩
theorem bw{w:World}{a:Addr}{v:Value}(h:w.cell? a=some v):a.block<w.heap.size:=by
  unfold World.cell? at h
  cases hb:w.heap[a.block]? with
  | none=>rw[hb]at h;cases h
  | some o =>
    rcases oI a.block w.heap.size with h' | h'
    · exact h'
    · rw[Array.getElem?_eq_none h']at hb;cases hb
theorem TN(b off n:Nat):(⟨b,off,none⟩:Addr).add n=⟨b,off+n,none⟩:=by
  unfold Addr.add
  split
  · rename_i h;subst h;rfl
  · rfl
section
variable{H:Type}{enc:TypeId×Value→H}{P:Program}{w:World}{held:Bool}
theorem Su         {t e : TypeId} {sz : Nat} (ht : P.underlying t = some (.slice e)) (hsz : P.cellsOf e = sz) (h0 : 0 < sz) {fuel : Nat} {cs : List Value} {x : DataW H × List MemPlace} (h : DataW.trod enc P w 0 (fun _ => true) held fuel t cs = some x) :
    cs=[.slice none 0 0]∨(∃a,cs=[.slice (some a) 0 0]) ∨
    ∃ (b off len cap n:Nat),cs=[.slice (some ⟨b,off,none⟩) len cap]∧len≤cap∧cap≤maxLen∧b<w.heap.size ∧
      ∀i,i<len→∃cs' y,DataW.trod enc P w 0 (fun _=>true) held n e cs'=some y∧cs'.length=sz∧∀j,j<sz→w.cell? ⟨b,off+i * sz+j,none⟩=cs'[j]? := by
  rcases DataW.trod_slice ht h with⟨h1,_⟩ | ⟨a,len,cap,elems,rest,n,h1,h2,h3,h4,h5,h6,h7,h8,h9,_⟩
  · exact .inl h1
  · rw[hsz]at h8 h9
    obtain⟨h9,h10⟩:=h9 rfl
    rcases pO cap with rfl | hcap
    · have:len=0:=by omega
      subst this
      exact .inr (.inl ⟨a,h2⟩)
    ·
      have first:∃v,w.cell? a=some v:=by
        rcases pO len with hl | hl
        · subst hl
          have:=h10 0 (by omega)
          have hlt:0<rest.length:=by omega
          rw[oM hlt]at this
          simp only[oE]at this
          obtain⟨cs',g1,_⟩:=this
          obtain⟨g2,g3⟩:=JA g1
          have g4:=g3 0 h0
          rw[oM (show 0<cs'.length by omega)]at g4
          exact⟨_,by simpa[Addr.add]using g4⟩
        · have:=h8 0 hl
          rw[oM (show 0<elems.length by omega)]at this
          simp only[oE]at this
          obtain⟨cs',g1,_⟩:=this
          obtain⟨g2,g3⟩:=JA g1
          have g4:=g3 0 h0
          rw[oM (show 0<cs'.length by omega)]at g4
          exact⟨_,by simpa[Addr.add]using g4⟩
      obtain⟨v,hv⟩:=first
      have hspot:=World.cell?_spot hv
      have hlt:=bw hv
      obtain⟨b,off,spot⟩:=a
      have hspot:spot=none:=hspot
      subst hspot
      refine .inr (.inr ⟨b,off,len,cap,n,h2,h5,h6,hlt,fun i hi=>?_⟩)
      have:=h8 i hi
      rw[oM (show i<elems.length by omega)]at this
      simp only[oE]at this
      obtain⟨cs',g1,g2⟩:=this
      obtain⟨g3,g4⟩:=JA g1
      refine⟨cs',_,g2,g3,fun j hj=>?_⟩
      have:=g4 j hj
      rw[TN,TN]at this
      exact this
structure HI(P:Program)(w:World)(ρ:Rho)(s:ASt):Prop where
  inv:Inv P ρ s w
  fresh:Bb ρ s
  ro:∀i o,s.heap.get i=some o→wr o=false
theorem nk(P:Program)(w:World):HI P w aD st0:=⟨np P w,ZQ,fun i o h=>by cases h⟩
theorem HI.notOwned{ρ:Rho}{s:ASt}(h:HI P w ρ s)(b:Nat):¬ GQ ρ s b:=fun⟨i,o,rb,h1,h2,_⟩=>by rw[h.ro i o h1]at h2;cases h2
def ir(e:TypeId)(sz:Nat)(cs:List AV):Cv:=.row { elem:=e,sz,n:=cs.length,c:=Aj.fill .leaf 0 cs,spare:=false,mode:=.ro,par:=none,bytes:=false }
theorem aF{cs:List AV}{k:Nat}{u:AV}(h:cs[k]? = some u):(Aj.fill .leaf 0 cs).get k=some u:=by
  have hlt:k<cs.length:=by
    rcases oI k cs.length with h' | h'
    · exact h'
    · rw[oe h']at h;cases h
  rw[Aj.get_fill,if_pos ⟨oK _,by omega⟩]
  simpa using h
theorem HI.row{ρ:Rho}{s:ASt}(h:HI P w ρ s)(e:TypeId)(sz b off:Nat)(cs:List AV)(hb:b<w.heap.size)(hc:∀k u,cs[k]? = some u→∃v,w.cell? ⟨b,off+k,none⟩=some v∧Aa ρ u v):
    ∃ρ',HI P w ρ' (AH s (ir e sz cs))∧ρ.le ρ'∧ρ' s.next=some ⟨b,off,cs.length,sz⟩:=by
  have hf:=h.fresh s.next (oD _)
  have hle:=Co (rb:=⟨b,off,cs.length,sz⟩) hf.1
  refine⟨Cr ρ s.next ⟨b,off,cs.length,sz⟩,⟨⟨?_,?_,?_⟩,?_,?_⟩,hle,A4 _ _⟩
  · intro i o rb hi hr
    rw[AO]at hi
    by_cases e':i=s.next
    · subst e'
      rw[if_pos rfl]at hi
      injection hi with hi
      subst hi
      rw[A4]at hr
      injection hr with hr
      subst hr
      refine⟨fun k v hk hv=>?_,oD _,rfl,fun _=>rfl,fun hm=>absurd rfl hm,fun p hp=>by cases hp⟩
      have hk:k<cs.length:=hk
      have hv:(Aj.fill .leaf 0 cs).get k=some v:=hv
      have hu:cs[k]? = some cs[k]:=oM hk
      rw[aF hu]at hv
      injection hv with hv
      subst hv
      obtain⟨v',h1,h2⟩:=hc k _ hu
      exact⟨v',h1,h2.mono hle⟩
    · rw [if_neg e'] at hi
      rw[Ay _ e']at hr
      exact(h.inv.obj i o rb hi hr).mono hle rfl
  · intro i rb hr
    by_cases e':i=s.next
    · subst e'
      rw[A4]at hr
      injection hr with hr
      subst hr
      exact hb
    · rw[Ay _ e']at hr
      exact h.inv.lt i rb hr
  · intro i j oi oj ri rj _ _ hj _ _ _ hw
    rw[AO]at hj
    by_cases e':j=s.next
    · rw[if_pos e']at hj
      injection hj with hj
      subst hj
      cases hw
    · rw [if_neg e'] at hj
      rw[h.ro j oj hj]at hw
      cases hw
  · intro i hi
    have hi:s.next+1≤i:=hi
    refine⟨?_,?_⟩
    · rw[Ay _ (by omega)];exact(h.fresh i (by omega)).1
    · rw[AO,if_neg (by omega)];exact(h.fresh i (by omega)).2
  · intro i o hi
    rw[AO]at hi
    by_cases e':i=s.next
    · rw[if_pos e']at hi
      injection hi with hi
      subst hi
      rfl
    · rw[if_neg e']at hi
      exact h.ro i o hi
def MM(P:Program)(w:World){α:Type}(p:ASt→List AV→α→Prop)(cs:List Value)(ρ:Rho)(s:ASt):Prop:=
  ∃ρ' s' us x,HI P w ρ' s'∧ρ.le ρ'∧Old s.next s s'∧AU ρ' us cs∧p s' us x
theorem SH         {α : Type} {p : ASt → List AV → α → Prop} (hp : ∀ s s' us x, p s us x → Old s.next s s' → p s' us x) {sz b off len : Nat}
    (hel:∀i,i<len→∃cs':List Value,cs'.length=sz∧(∀j,j<sz→w.cell? ⟨b,off+i * sz+j,none⟩=cs'[j]?)∧∀ρ s,HI P w ρ s→MM P w p cs' ρ s):
    ∀ (m : Nat), m ≤ len → ∀ ρ s, HI   P w ρ s → ∃ (ρ' : Rho) (s' : ASt) (us : List AV) (xs : List α), HI   P w ρ' s' ∧ ρ.le ρ' ∧ Old s.next s s' ∧ us.length = m * sz ∧ xs.length = m ∧
      (∀k u,us[k]? = some u→∃v,w.cell? ⟨b,off+k,none⟩=some v∧Aa ρ' u v)∧∀ (k:Nat) (x:α),xs[k]? = some x→p s' ((us.drop (k * sz)).take sz) x:=by
  intro m
  induction m with
  | zero=>intro _ ρ s h;exact⟨ρ,s,[],[],h,Rho.le_refl ρ,Old.refl _ _,by simp,rfl,fun k u hk=>by simp at hk,fun k x hk=>by simp at hk⟩
  | succ m ih =>
    intro hm ρ s h
    obtain⟨ρ1,s1,us,xs,g1,g2,g3,g4,g5,g6,g7⟩:=ih (by omega) ρ s h
    obtain⟨cs',k1,k2,k3⟩:=hel m (by omega)
    obtain⟨ρ2,s2,vs,y,q1,q2,q3,q4,q5⟩:=k3 ρ1 s1 g1
    have hvl:vs.length=sz:=by rw[q4.length,k1]
    refine⟨ρ2,s2,us++vs,xs++[y],q1,Rho.le_trans g2 q2,g3.trans (q3.mono g3.1),by rw[oL,g4,hvl,pC,Nat.one_mul],by simp[g5],fun k u hk=>?_,fun k x hk=>?_⟩
    · rcases oI           k us.length with hlt | hge
      · rw[oR hlt]at hk
        obtain⟨v,e1,e2⟩:=g6 k u hk
        exact⟨v,e1,e2.mono q2⟩
      · rw[oT hge]at hk
        have hj:k - us.length<sz:=by
          rcases oI (k - us.length) vs.length with h' | h'
          · omega
          · rw[oe h']at hk;cases hk
        obtain⟨v,e1,e2⟩:=q4.get hk
        refine⟨v,?_,e2⟩
        have:=k2 (k - us.length) hj
        rw[e1]at this
        rw[show off+k=off+m * sz+(k - us.length) by omega]
        exact this
    · rcases oI           k m with hlt | hge
      · rw[oR (by omega)]at hk
        have:=hp s1 s2 _ _ (g7 k x hk) q3
        have hks:(k+1) * sz≤m * sz:=pT _ hlt
        rw[pC,Nat.one_mul]at hks
        rw[List.drop_append_of_le_length (by omega),pA (by rw[pK];omega)]
        exact this
      · rw[oT (by omega)]at hk
        have hk0:k=m:=by
          rcases oI (k - xs.length) 1 with h' | h'
          · omega
          · rw[oe (by simpa using h')]at hk;cases hk
        subst hk0
        have hxy:y=x:=by simpa[g5]using hk
        subst hxy
        rw[← g4,List.drop_left' rfl,pw (by omega)]
        exact q5
def TF(s:ASt)(a:Option (Nat×Nat))(cap:Option Nat)(n sz:Nat):Prop:=(∃c,cap=some c∧n≤c∧(a=none→c=0))∨(n=0∧cap=none∧∃i r,a=some (i,0)∧i<s.next∧s.heap.get i=some (.row r)∧r.sz=sz)
theorem TF.old{s s':ASt}{a:Option (Nat×Nat)}{cap:Option Nat}{n sz:Nat}(h:TF s a cap n sz)(k:Old s.next s s'):TF s' a cap n sz:=by
  rcases h with h | ⟨h1,h2,i,r,h3,h4,h5,h6⟩
  · exact .inl h
  · exact .inr ⟨h1,h2,i,r,h3,oh h4 k.1,by rw[k.2 i h4];exact h5,h6⟩
def Dk{α:Type}(p:ASt→List AV→α→Prop)(sz:Nat)(s:ASt)(us:List AV)(xs:List α):Prop:=
  ∃a cap,us=[.slice a xs.length cap]∧xs.length≤maxLen∧TF s a cap xs.length sz∧∀ (k:Nat) (x:α),xs[k]? = some x→∃i o vs,a=some (i,o)∧i<s.next∧vs.length=sz∧(∀j u,vs[j]? = some u→load1 s i (o+k * sz+j)=some u)∧p s vs x
theorem Dk.old{α:Type}{p:ASt→List AV→α→Prop}(hp:∀s s' us x,p s us x→Old s.next s s'→p s' us x){sz:Nat}(s s':ASt)(us:List AV)(xs:List α)(h:Dk p sz s us xs)(k:Old s.next s s'):Dk p sz s' us xs:=by
  obtain⟨a,cap,h1,hl,hcap,h2⟩:=h
  refine⟨a,cap,h1,hl,hcap.old k,fun j x hj=>?_⟩
  obtain⟨i,o,vs,g1,g2,g3,g4,g5⟩:=h2 j x hj
  exact⟨i,o,vs,g1,oh g2 k.1,g3,fun j u hu=>by rw[CE (k.2 i g2)];exact g4 j u hu,hp s s' _ _ g5 k⟩
theorem Je          {α : Type} {p : ASt → List AV → α → Prop} (hp : ∀ s s' us x, p s us x → Old s.next s s' → p s' us x) {t e : TypeId} {sz : Nat} (ht : P.underlying t = some (.slice e)) (hsz : P.cellsOf e = sz) (h0 : 0 < sz)
    (hel:0<w.heap.size→∀ (n:Nat) (cs:List Value) (y:DataW H×List MemPlace),DataW.trod enc P w 0 (fun _=>true) held n e cs=some y→cs.length=sz→∀ρ s,HI P w ρ s→MM P w p cs ρ s)
    {fuel:Nat} {cs:List Value} {x:DataW H×List MemPlace} (h:DataW.trod enc P w 0 (fun _=>true) held fuel t cs=some x) (hw:∀a,cs=[.slice (some a) 0 0]→0<w.heap.size) {ρ:Rho} {s:ASt} (hd:HI P w ρ s):MM P w (Dk p sz) cs ρ s:=by
  rcases Su ht hsz h0 h with rfl | ⟨a,rfl⟩ | ⟨b,off,len,cap,n,rfl,h1,h2,h3,h4⟩
  · exact⟨ρ,s,[.slice none 0 (some 0)],[],hd,Rho.le_refl ρ,Old.refl _ _,.cons .sliceNil .nil,none,some 0,rfl,oK _,.inl ⟨0,rfl,oD _,fun _=>rfl⟩,fun k x hk=>by simp at hk⟩
  · obtain⟨ρ',g1,g2,g3⟩:=hd.row e sz 0 0 [] (hw a rfl) (fun k u hk=>by simp at hk)
    exact⟨ρ',_,[.slice (some (s.next,0)) 0 none],[],g1,g2,Old.new s _,.cons (.sliceEnd g3 h0 (oD _) (by show 0<0+sz;omega)) .nil,_,_,rfl,oK _,.inr ⟨rfl,rfl,s.next,{ elem:=e,sz,n:=0,c:=Aj.fill .leaf 0 [],spare:=false,mode:=.ro,par:=none,bytes:=false },rfl,pF _,by rw[AO,if_pos rfl];rfl,rfl⟩,fun k x hk=>by simp at hk⟩
  · obtain⟨ρ1,s1,us,xs,g1,g2,g3,g4,g5,g6,g7⟩:=SH (w:=w) (P:=P) hp (sz:=sz) (b:=b) (off:=off) (len:=len) (fun i hi=>by
      obtain⟨cs',y,q1,q2,q3⟩:=h4 i hi
      exact⟨cs',q2,q3,fun ρ s hd=>hel (by omega) n cs' y q1 q2 ρ s hd⟩) len (oD _) ρ s hd
    obtain⟨ρ2,k1,k2,k3⟩:=g1.row e sz b off us h3 g6
    have o2:Old s1.next s1 (AH s1 (ir e sz us)):=Old.new s1 _
    refine⟨ρ2,_,[.slice (some (s1.next,0)) xs.length (some cap)],xs,k1,Rho.le_trans g2 k2,g3.trans (o2.mono g3.1),?_,some (s1.next,0),some cap,rfl,by omega,.inl ⟨cap,rfl,by omega,fun h=>by cases h⟩,fun k x hk=>?_⟩
    · rw[g5]
      exact .cons (.slice k3 h1) .nil
    · have hkl:k<len:=by
        rcases oI k xs.length with h' | h'
        · omega
        · rw[oe h']at hk;cases hk
      have hks:(k+1) * sz≤len * sz:=pT _ hkl
      rw[pC,Nat.one_mul]at hks
      refine⟨s1.next,0,(us.drop (k * sz)).take sz,rfl,pF _,by rw[ou,pK];omega,fun j u hj=>?_,hp s1 _ _ _ (g7 k x hk) o2⟩
      rw[pl]at hj
      split at hj
      · rename_i hjs
        rw[pD]at hj
        rw[oN]
        exact BW (r:={ elem:=e,sz,n:=us.length,c:=Aj.fill .leaf 0 us,spare:=false,mode:=.ro,par:=none,bytes:=false }) (by rw[AO,if_pos rfl];rfl) (by show k * sz+j<us.length;omega) (aF hj)
      · cases hj
end
def CG(s:ASt)(v:AV)(n sz:Nat)(cs:List AV)(O:List Nat):Prop:=
  (∃a,v=.slice a n (some n)∧O=[]∧cs.length=n * sz∧(a=none→n=0)∧∀i o,a=some (i,o)→i<s.next∧loadN s i o (n * sz)=some cs) ∨
  (∃i p,v=.slice (some (i,0)) n none∧Jx 0 s.next s v n sz cs i p∧O=i::p.toList)
theorem CG.nil(s:ASt)(sz:Nat):CG s (.slice none 0 (some 0)) 0 sz [] []:=.inl ⟨none,rfl,rfl,by simp,fun _=>rfl,fun i o h=>by cases h⟩
theorem CG.len{s:ASt}{v:AV}{n sz:Nat}{cs:List AV}{O:List Nat}(h:CG s v n sz cs O):cs.length=n * sz:=by
  rcases h with⟨a,h1,h2,h3,h4⟩ | ⟨i,p,h1,h2,h3⟩
  · exact h3
  · exact h2.len
theorem Zm{s s':ASt}{i o n:Nat}(h:s'.heap.get i=s.heap.get i):loadN s' i o n=loadN s i o n:=by unfold loadN BA;rw[h]
theorem CG.lt   {s : ASt} {v : AV} {n sz : Nat} {cs : List AV} {O : List Nat} (h : CG   s v n sz cs O) : ∀ j ∈ O, j < s.next := by
  rcases h with⟨a,h1,h2,h3,h4⟩ | ⟨i,p,h1,h2,h3⟩
  · subst h2;intro j hj;cases hj
  · subst h3
    intro j hj
    rcases h2.ex with⟨e,_⟩ | ⟨_,_,k2,k3,_⟩
    · rw[h1]at e;cases e
    · rcases ov.1            hj with rfl | hj
      · exact k2
      · cases p with
        | none=>cases hj
        | some q =>
          have:j=q:=by simpa using hj
          rw[this]
          exact(k3 q rfl).2.1
def CU:AV→Option Nat
  | .slice (some (i,_)) _ _=>some i
  | _=>none
theorem CG.frame{s s':ASt}{v:AV}{n sz:Nat}{cs:List AV}{O:List Nat}(h:CG s v n sz cs O)(hn:s.next≤s'.next)(hf:∀j,CU v=some j→s'.heap.get j=s.heap.get j):CG s' v n sz cs O:=by
  rcases h with⟨a,rfl,h2,h3,h4,h5⟩ | ⟨i,p,rfl,h2,h3⟩
  · refine .inl ⟨a,rfl,h2,h3,h4,fun i o e=>?_⟩
    obtain⟨k1,k2⟩:=h5 i o e
    subst e
    exact⟨by omega,by rw[Zm (hf i rfl)];exact k2⟩
  · exact .inr ⟨i,p,rfl,(h2.mono hn).frame fun _ _=>hf i rfl,h3⟩
theorem CG.cells   {s : ASt} {v : AV} {n sz : Nat} {cs : List AV} {O : List Nat} (h : CG   s v n sz cs O) : ∃ a cap, v = .slice a n cap ∧ A8      s.next s a cs := by
  rcases h with⟨a,rfl,h2,h3,h4,h5⟩ | ⟨i,p,rfl,h2,h3⟩
  · refine⟨a,_,rfl,fun k u hk=>?_⟩
    have hlt:k<cs.length:=by
      rcases oI k cs.length with h | h
      · exact h
      · rw[oe h]at hk;cases hk
    cases a with
    | none=>rw[h4 rfl]at h3;simp at h3;subst h3;simp at hlt
    | some io =>
      obtain⟨i,o⟩:=io
      obtain⟨k1,k2⟩:=h5 i o rfl
      refine⟨i,o,rfl,k1,?_⟩
      unfold loadN at k2
      simp only[oE]at k2
      obtain⟨r,g1,g2⟩:=k2
      have g3:Nat.ble (o+n * sz) r.n=true∧r.c.take o (n * sz)=some cs:=by
        cases hb:Nat.ble (o+n * sz) r.n with
        | true=>rw[hb]at g2;exact⟨rfl,g2⟩
        | false=>rw[hb]at g2;cases g2
      have g4:o+n * sz≤r.n:=by simpa[oQ]using g3.1
      have g5:=Aj.take_get g3.2 k (by omega)
      rw[hk]at g5
      have g6:s.heap.get i=some (.row r):=by
        unfold BA at g1
        split at g1
        · injection g1 with g1;subst g1;assumption
        · cases g1
      exact BW g6 (by omega) g5
  · obtain⟨a,cap,e,hc⟩:=h2.cells
    exact⟨a,cap,e,hc⟩
theorem CG.append   {P : Program} {st xt e : TypeId} {sz by_ : Nat} (ht : P.underlying st = some (.slice e)) (hs : BB    P e = some sz) (hb : CM     P e = some by_) (h0 : 0 < sz) (hx : A9           P xt = true) (hz : By     P e sz = true) {s : ASt} {v : AV} {n : Nat} {cs : List AV} {O : List Nat} (h : CG   s v n sz cs O)
    {ax:Option (Nat×Nat)} {m:Nat} {cx:Option Nat} {add:List AV} (hsrc:Bg P s e sz (.slice ax m cx)=some (m,add)) (ha:add.length=m * sz) (hc:Af add=true) (h1:(n+m) * by_≤1099511627776) (h2:n+m≤1099511627776):
    ∃v' s' O',AY P s [st,xt] [v,.slice ax m cx]=some (v',s')∧CG s' v' (n+m) sz (cs++add) O'∧s.next≤s'.next∧s'.next≤s.next+1∧(∀j,j<s.next→j ∉ O→s'.heap.get j=s.heap.get j)∧(∀j∈O',j∈O∨s.next≤j)∧(∀j,CU v'=some j→CU v=some j∨s.next≤j):=by
  have hlen:=h.len
  rcases pO m with rfl | hm
  ·
    have hadd:add=[]:=by simp at ha;exact ha
    subst hadd
    rw[pQ,Nat.add_zero]
    rcases h with⟨a,rfl,rfl,h3,h4,h5⟩ | ⟨i,p,rfl,h6,h7⟩
    · refine ⟨.slice a n (some n), s, [], ?_, .inl ⟨a, rfl, rfl, h3, h4, h5⟩, oD          _, Nat.le_succ _, fun _ _ _ => rfl, fun j hj => (by cases hj), fun j hj => .inl hj⟩
      rw[BO ht hs hb h0 hx hsrc hc h1 h2]
      cases a with
      | none=>rw[h4 rfl];rfl
      | some io =>
        obtain⟨i,o⟩:=io
        simp only[appTo,Cw,Nat.add_zero,A1 (oD n),cond_true,CJ,Option.bind_some]
    · refine ⟨.slice (some (i, 0)) n none, s, O, ?_, .inr ⟨i, p, rfl, h6, h7⟩, oD          _, Nat.le_succ _, fun _ _ _ => rfl, fun j hj => .inl hj, fun j hj => .inl hj⟩
      rw[BO ht hs hb h0 hx hsrc hc h1 h2]
      rcases h6.ex with⟨e',_⟩ | ⟨_,k1,k2,k3,r,k4,k5,k6,k7,k8,k9⟩
      · cases e'
      · have hrow : BA    s i = some r := by simp [BA,    k4]
        have hrn:r.n=n * sz:=by rw[k5.1,h6.len]
        simp only[appTo,hrow,Option.bind_some,C2,k8,Dl rfl,AF,cond_true,Nat.add_zero,oN]
        rw[show Nat.ble (n * sz) r.n=true from A1 (by omega)]
        simp only[cond_true,CJ,Option.bind_some]
  · rcases h with ⟨a, rfl, rfl, h3, h4, h5⟩ | ⟨i, p, rfl, h6, h7⟩
    ·
      refine⟨.slice (some (s.next,0)) (n+m) none,AH s (B6 e sz (Aj.fill .leaf 0 (cs++add)) (cs++add).length none),[s.next],?_,?_,Nat.le_succ _,oD _,fun j hj _=>by rw[AO,if_neg (by omega)],fun j hj=>by simp at hj;right;omega,fun j hj=>by simp[CU]at hj;right;omega⟩
      · rw[BO ht hs hb h0 hx hsrc hc h1 h2]
        cases a with
        | none =>
          have hn0:=h4 rfl
          subst hn0
          have:cs=[]:=by simp at h3;exact h3
          subst this
          simp only[appTo,EB (show m≠0 by omega),cond_false,BV,AF,hz,cond_true,oz,oN]
        | some io =>
          obtain⟨i,o⟩:=io
          obtain⟨k1,k2⟩:=h5 i o rfl
          simp only[appTo,Cw,Ej (show n<n+m by omega),cond_false,k2,Option.bind_some,BV,AF,hz,cond_true]
      · refine .inr ⟨s.next,none,rfl,⟨by rw[oL,h3,ha,pC],.inr ⟨rfl,oK _,pF _,fun q hq=>(by cases hq),_,by rw[AO,if_pos rfl];rfl,⟨rfl,?_⟩,rfl,rfl,rfl,rfl⟩⟩,rfl⟩
        intro k u hk
        have hlt:k<(cs++add).length:=by
          rcases oI k (cs++add).length with h' | h'
          · exact h'
          · rw[oe h']at hk;cases hk
        show(Aj.fill .leaf 0 (cs++add)).get k=some u
        rw[Aj.get_fill,if_pos ⟨oK _,by omega⟩]
        simpa using hk
    · obtain⟨a,cap,v',s',e1,e2,i',p',g1,g2,g3,g4,g5,g6,_⟩:=h6.appTo (oD _) (oK _) hz h0 ha hm
      injection e1 with e1 e3 e4
      subst e1;subst e4
      have hv':v'=.slice (some (i',0)) (n+m) none:=by
        rcases g1.ex with⟨_,e⟩ | ⟨e,_⟩
        · omega
        · exact e
      refine⟨v',s',i'::p'.toList,?_,.inr ⟨i',p',hv',g1,rfl⟩,g2.1,by omega,?_,?_,?_⟩
      · rw[BO ht hs hb h0 hx hsrc hc h1 h2]
        exact e2
      · intro j hj hO
        subst h7
        refine g2.2 j hj (fun e=>hO (by simp[e])) (fun e=>hO (by simp[e]))
      · intro j hj
        subst h7
        rcases ov.1 hj with rfl | hj
        · right;omega
        · rcases g5 with rfl | rfl
          · cases hj
          · simp at hj;left;simp[hj]
      · intro j hj
        rw[hv']at hj
        simp[CU]at hj
        right;omega
theorem GA{P:Program}{e:TypeId}{s:ASt}{i:Nat}{cs:List AV}{n:Nat}{cap:Option Nat}{sz:Nat}(ty:TypeId)(z:Nat)(hg:s.heap.get i=some (AP ty z cs))(hl:cs.length=n * sz):Bg P s e sz (.slice (some (i,0)) n cap)=some (n,cs):=by
  obtain⟨r,h1,h2,_⟩:=Bo ty z cs
  rw[h1]at hg
  have:=Da hg h2 0 cs (by omega) (fun j u hj=>by simpa using hj)
  rw[hl]at this
  simp[Bg,JV this]
end
end Go.Proofs.Ytilhhmkdcoajnaa.Am
set_option linter.unusedVariables false
set_option linter.unusedSimpArgs false
namespace Go.Proofs.Ytilhhmkdcoajnaa.Am
open Go Go.Proofs
noncomputable section
theorem Bk{α:Type}{L l:List α}{k:Nat}{x:α}(h:L.drop k=x::l):k<L.length∧L[k]? = some x∧L.drop (k+1)=l:=by
  refine⟨?_,?_,?_⟩
  · have:=congrArg List.length h
    simp at this;omega
  · have:=congrArg (fun l=>l[0]?) h
    simpa using this
  · rw[← pZ,h];rfl
theorem Ck{α:Type}{L:List α}{k:Nat}(h:L.drop k=[])(hk:k≤L.length):k=L.length:=by
  have:=congrArg List.length h
  simp at this;omega
def atV(x:Int):List Int→Nat
  | []=>0
  | y::l=>if y<x then atV x l+1 else 0
def Ul(x:Int)(L:List Int):List Int:=if L[atV x L]? = some x then L else L.take (atV x L)++(x::L.drop (atV x L))
def Dd(x:Int):Bool:=decide (x=0∨x=-9223372036854775808)
def Ae(out:List Int):List Int→List Int
  | []=>out
  | x::l=>Ae (if Dd x then out else Ul x out) l
theorem jD(x:Int)(L:List Int):atV x L≤L.length:=by
  induction L with
  | nil=>exact oD 0
  | cons y l ih=>simp only[atV];split<;>simp;omega
theorem ZX(x:Int)(L:List Int):(Ul x L).length≤L.length+1:=by
  unfold Ul
  split
  · omega
  · have:=jD x L
    simp;omega
theorem G4{ax:Option (Nat×Nat)}{n:Nat}{cx:Option Nat}(h:ax=none→∃c,cx=some c):eqA (.slice ax n cx) (.slice ax n cx)=true:=by
  cases ax with
  | none=>obtain⟨c,rfl⟩:=h rfl;simp[eqA]
  | some io=>obtain⟨i,o⟩:=io;cases cx<;>simp[eqA]
theorem J5(s:ASt)(loc var:List AV)(f:ASt→List AV→Option AV)(xs:List CX)(a:CX):Fw s loc var ⟨none,.r f,xs,a⟩=T8 (f s (Qh loc var xs)) (cev loc var a):=by
  simp[Fw,OM,Eb,Ba]
theorem Az(u v:AV):T8 (some u) v=eqA u v:=rfl
theorem Cd{P:Program}{t e:TypeId}(ht:P.underlying t=some (.slice e))(hs:BB P e=some 1){z v:AV}(hz:B9 P e=some z)(hzc:z.cells.length=1)(hv:v.cells=[v]):
    Ad P t 1 (zipIdx [0] [v])=some (AP e 1 [v]):=by
  have hzl:(rep z.cells 1).length=1:=by simp[rep,hzc]
  have:∃c,rep z.cells 1=[c]:=List.length_eq_one_iff.1 hzl
  obtain⟨c,hc⟩:=this
  simp[Ad,ht,hs,AF,hz,hzc,zipIdx,Dm,hv,hc]
  rfl
theorem OY{P:Program}{t e:TypeId}(ht:P.underlying t=some (.slice e))(hs:BB P e=some 1){z:AV}(hz:B9 P e=some z)(hzc:z.cells.length=1):
    Ad P t 0 (zipIdx [] [])=some (AP e 1 []):=by
  simp[Ad,ht,hs,AF,hz,hzc,zipIdx,Dm,rep]
  rfl
theorem Ip:By Try.prog 3 1=true:=by simp[By,zr3,AV.cells]
theorem JW(t:TypeId)(e:TypeId)(h:Try.prog.underlying t=some (.slice e)):A9 Try.prog t=true:=by simp[A9,h]
theorem Ma(L:List Int):Af (ivs L)=true:=by
  induction L with
  | nil=>rfl
  | cons x l ih=>simpa[Af,AV.isCell]using ih
theorem Hi:∀ (l out:List Int),(Ae out l).length≤out.length+l.length
  | [],out=>oD _
  | x::l,out=>by
    simp only[Ae]
    have h2:=ZX x out
    cases h:Dd x with
    | true =>
      have:=Hi l out
      simp only[if_true,oZ];omega
    | false =>
      have:=Hi l (Ul x out)
      simp only[Bool.false_eq_true,if_false,oZ];omega
theorem CG.slot_lt{s:ASt}{v:AV}{n sz:Nat}{cs:List AV}{O:List Nat}(hd:CG s v n sz cs O):∀j,CU v=some j→j<s.next:=by
  intro j hj
  rcases hd with⟨a,rfl,h2,h3,h4,h5⟩ | ⟨i,p,rfl,h2,h3⟩
  · cases a with
    | none=>cases hj
    | some io=>obtain⟨i,o⟩:=io;simp[CU]at hj;subst hj;exact(h5 i o rfl).1
  · simp[CU]at hj;subst hj
    rcases h2.ex with⟨e,_⟩ | ⟨_,_,k2,_⟩
    · cases e
    · exact k2
theorem CG.new{s:ASt}{v:AV}{n sz:Nat}{cs:List AV}{O:List Nat}(hd:CG s v n sz cs O)(o:Cv):CG (AH s o) v n sz cs O:=
  hd.frame (Nat.le_succ _) fun j hj=>by rw[AO,if_neg (by have:=hd.slot_lt j hj;omega)]
def EM(K:List Int)(l:List Int):List Int:=l.filter fun x=>decide (-x ∉ K)
def E5(K:List Int)(l:List Int):Bool:=l.any fun x=>decide (x∈K)
def B2(K:List Int):List (List Int)→Bool→Option (List Int×Bool)
  | [],more=>some (K,more)
  | c::cs,more=>match EM K (Ae [] c)with
    | []=>none
    | [y]=>bif E5 K (Ae [] c)then B2 K cs more else B2 (K++[y]) cs true
    | _=>B2 K cs more
def Ia(cs:List (List Int)):Nat→List Int→Option Bool
  | 0,_=>none
  | n+1,K=>match B2 K cs false with
    | none=>some true
    | some (K',true)=>Ia cs n K'
    | some (_,false)=>some false
def IR(C:List Int)(K:List Int):List Int→Option (List Int)
  | []=>some K
  | x::l=>if -x∈C then none else IR C (K++[-x]) l
def E4(n:Nat)(cs:List (List Int))(c:List Int):Option Bool:=match IR (Ae [] c) [] (Ae [] c)with
  | none=>some true
  | some K=>Ia cs n K
def Vi(cs:List (List Int)):Prop:=cs.length≤1000∧∀L∈cs,C0 L∧L.length≤1000
theorem CG.slice{s:ASt}{v:AV}{n:Nat}{cs:List AV}{O:List Nat}(hd:CG s v n 1 cs O):AM s.next s v cs:=by
  obtain⟨a,cap,h1,h2⟩:=hd.cells
  have:=hd.len
  exact⟨a,cap,by rw[this,oV];exact h1,h2⟩
def Ah(b:Nat)(s:ASt)(us:List AV)(cs:List (List Int)):Prop:=us.length=cs.length∧∀ (k:Nat)(L:List Int),cs[k]? = some L→∃u:AV,us[k]? = some u∧AM b s u (ivs L)
theorem Ah.old{b:Nat}{s s':ASt}{us:List AV}{cs:List (List Int)}(h:Ah b s us cs)(k:Old b s s'):Ah b s' us cs:=
  ⟨h.1,fun j L hj=>let ⟨u,h1,h2⟩:=h.2 j L hj;⟨u,h1,h2.old k (oD _)⟩⟩
theorem Ah.mono{b b':Nat}{s:ASt}{us:List AV}{cs:List (List Int)}(h:Ah b s us cs)(k:b≤b'):Ah b' s us cs:=
  ⟨h.1,fun j L hj=>let ⟨u,h1,h2⟩:=h.2 j L hj;⟨u,h1,h2.mono k⟩⟩
theorem Ah.nil(b:Nat)(s:ASt):Ah b s [] []:=⟨rfl,fun k L h=>by simp at h⟩
theorem Ah.append{b:Nat}{s:ASt}{us us':List AV}{cs cs':List (List Int)}(h:Ah b s us cs)(h':Ah b s us' cs'):Ah b s (us++us') (cs++cs'):=by
  refine⟨by simp[h.1,h'.1],fun k L hk=>?_⟩
  rcases oI k cs.length with hlt | hge
  · rw[oR hlt]at hk
    obtain⟨u,h1,h2⟩:=h.2 k L hk
    exact⟨u,by rw[oR (by rw[h.1];exact hlt)];exact h1,h2⟩
  · rw[oT hge]at hk
    obtain⟨u,h1,h2⟩:=h'.2 _ L hk
    exact⟨u,by rw[oT (by rw[h.1];exact hge),h.1];exact h1,h2⟩
theorem Ah.take{b:Nat}{s:ASt}{us:List AV}{cs:List (List Int)}(h:Ah b s us cs)(n:Nat):Ah b s (us.take n) (cs.take n):=by
  refine⟨by simp[h.1],fun k L hk=>?_⟩
  rcases oI k n with hlt | hge
  · rw[pN hlt]at hk
    obtain⟨u,h1,h2⟩:=h.2 k L hk
    exact⟨u,by rw[pN hlt];exact h1,h2⟩
  · rw[oe (by simp;omega)]at hk;cases hk
theorem Ah.drop{b:Nat}{s:ASt}{us:List AV}{cs:List (List Int)}(h:Ah b s us cs)(n:Nat):Ah b s (us.drop n) (cs.drop n):=by
  refine⟨by simp[h.1],fun k L hk=>?_⟩
  rw[pD]at hk
  obtain⟨u,h1,h2⟩:=h.2 _ L hk
  exact⟨u,by rw[pD];exact h1,h2⟩
theorem Ah.one{b:Nat}{s:ASt}{u:AV}{L:List Int}(h:AM b s u (ivs L)):Ah b s [u] [L]:=by
  refine⟨rfl,fun k L' hk=>?_⟩
  cases k with
  | zero=>simp at hk;subst hk;exact⟨u,rfl,h⟩
  | succ k=>simp at hk
theorem Ah.cells{b:Nat}{s:ASt}{us:List AV}{cs:List (List Int)}(h:Ah b s us cs):Af us=true:=by
  have:∀ (l:List AV),(∀u∈l,u.isCell=true)→Af l=true:=by
    intro l
    induction l with
    | nil=>intro _;rfl
    | cons u l ih=>intro hl;simp only[Af,Bool.and_eq_true];exact⟨hl u oH,ih fun x hx=>hl x (oJ _ hx)⟩
  refine this us fun u hu=>?_
  obtain⟨k,hk⟩:=List.mem_iff_getElem?.1 hu
  have hlt:k<us.length:=by
    rcases oI k us.length with h' | h'
    · exact h'
    · rw[oe h']at hk;cases hk
  have hlt2:k<cs.length:=by rw[← h.1];exact hlt
  obtain⟨u',h1,a,cap,h2,_⟩:=h.2 k cs[k] (oM hlt2)
  rw[hk]at h1
  injection h1 with h1
  subst h1;subst h2
  rfl
theorem Ah.rows{b c:Nat}{s:ASt}{us:List AV}{cs:List (List Int)}(h:Ah b s us cs){a:Option (Nat×Nat)}(hc:A8 c s a us)(hbc:b≤c):Iu c s a cs:=by
  intro k L hk
  obtain⟨u,h1,h2⟩:=h.2 k L hk
  obtain⟨i,o,h3,h4,h5⟩:=hc k u h1
  exact⟨i,o,u,h3,h4,h5,h2.mono hbc⟩
theorem OP:By Try.prog 23 1=true:=by simp[By,TD,AV.cells]
def IY(cs:List (List Int))(c:List Int):Nat→Option Nat
  | 0=>none
  | k+1=>if Ae [] (cs.getD k [])=Ae [] c then some k else IY cs c k
def OO{α:Type}(l:List α):Option Nat→List α
  | none=>l
  | some i=>l.take i++l.drop (i+1)
def Mg(cs:List (List Int))(c:List Int):List (List Int):=OO cs (IY cs c cs.length)
theorem bB{P:Program}{t:TypeId}{k:IntKind}{a b:Int}(ha:0≤a)(hb:0<b):AI P .rem t (.int k a) (.int k b)=some (.int k (a % b)):=by
  have hne:b≠0:=by omega
  have e1:a.tmod b=a % b:=Int.tmod_eq_emod_of_nonneg ha
  have hk:Bs k k=true:=by cases k<;>rfl
  show AF (Bs k k) ((Eo P (Op.intDiv .rem k a b)).bind ofValue)=_
  rw[hk]
  unfold Op.intDiv
  rw[if_neg hne,e1]
  rfl
abbrev i8v(n:Int):AV:=.int .i8 n
def i8(n:Int):Prop:=-128≤n∧n≤127
theorem To{s:ASt}{n:Int}(h:i8 n):Cj Try.prog s 77 3 (i8v n)=some (iv n):=by
  obtain⟨h1,h2⟩:=h
  simp[Cj,Try.underlying77,Try.underlying3,FD (n:=n) ⟨by omega,by omega⟩]
theorem N2(a b:Int):DU true (iv a) [iv b]=some (iv (max a b)):=by
  show AF true (some (AV.int .i64 (bif ltI a b then b else a)))=_
  rw[D4]
  by_cases h:a<b
  · rw[decide_eq_true h];simp only[cond_true,AF];rw[Int.max_eq_right (by omega)]
  · rw[decide_eq_false h];simp only[cond_false,AF,cond_true];rw[Int.max_eq_left (by omega)]
def IZ(x:Int):Int:=if x<0 then -(1+max x (-x) % 6)else 1+max x (-x) % 6
def Jz(l:List Int):List Int:=(l.take 5).map IZ
def CN(l:List (List Int)):List (List Int):=(l.take 20).map Jz
theorem LW{x:Int}:-6≤IZ x∧IZ x≤6∧IZ x≠0:=by
  have h1:=Int.emod_nonneg (max x (-x)) (show(6:Int)≠0 by decide)
  have h2:=Int.emod_lt_of_pos (max x (-x)) (show(0:Int)<6 by decide)
  unfold IZ
  split<;>omega
theorem M1(l:List Int):C0 (Jz l)∧(Jz l).length≤5:=by
  refine⟨fun x hx=>?_,by simp[Jz];omega⟩
  obtain⟨y,_,rfl⟩:=List.mem_map.1 hx
  have:=LW (x:=y)
  exact⟨by omega,by omega⟩
theorem ME(l:List (List Int)):Vi (CN l)∧(CN l).length≤20:=by
  have:(CN l).length≤20:=by simp[CN];omega
  refine⟨⟨by omega,fun L hL=>?_⟩,this⟩
  obtain⟨y,_,rfl⟩:=List.mem_map.1 hL
  have:=M1 y
  exact⟨this.1,by omega⟩
abbrev ce(l:List Int):List AV:=l.map i8v
def I8s(l:List Int):Prop:=∀x∈l,i8 x
def TJ(b:Nat)(s:ASt)(a:Option (Nat×Nat))(ls:List (List Int)):Prop:=∀k L,ls[k]? = some L→∃i o u,a=some (i,o)∧i<b∧load1 s i (o+k)=some u∧AM b s u (ce L)
def TK(b:Nat)(s:ASt)(v:AV)(ls:List (List Int)):Prop:=∃a cap,v=.slice a ls.length cap∧TJ b s a ls
theorem ZR{l:List Int}{k:Nat}{x:Int}(h:l[k]? = some x):(ce l)[k]? = some (i8v x):=by rw[pL,h];rfl
theorem AM.keep{b:Nat}{s s':ASt}{u:AV}{cs:List AV}(h:AM b s u cs)(k:∀j,CU u=some j→s'.heap.get j=s.heap.get j):AM b s' u cs:=by
  obtain⟨a,cap,rfl,hc⟩:=h
  refine⟨a,cap,rfl,fun x y hy=>?_⟩
  obtain⟨i,o,rfl,h2,h3⟩:=hc x y hy
  exact⟨i,o,rfl,h2,by rw[CE (k i rfl)];exact h3⟩
theorem Ah.keep{b:Nat}{s s':ASt}{us:List AV}{cs:List (List Int)}(h:Ah b s us cs)(k:∀u∈us,∀j,CU u=some j→s'.heap.get j=s.heap.get j):Ah b s' us cs:=
  ⟨h.1,fun j L hj=>let ⟨u,h1,h2⟩:=h.2 j L hj;⟨u,h1,h2.keep (k u (oG h1))⟩⟩
theorem VE{st e:TypeId}{by_:Nat}(ht:Try.prog.underlying st=some (.slice e))(hs:BB Try.prog e=some 1)(hb:CM Try.prog e=some by_)(hby:by_≤100)(hx:A9 Try.prog st=true)(hz:By Try.prog e 1=true){s:ASt}{v:AV}{n:Nat}{us:List AV}{O:List Nat}(hd:CG s v n 1 us O)(hl:n≤1000000000){x:AV}(hc:x.isCell=true):
    ∃v' s' O',AY Try.prog (AH s (AP e 1 [x])) [st,st] [v,.slice (some (s.next,0)) 1 (some 1)]=some (v',s')∧CG s' v' (n+1) 1 (us++[x]) O'∧s.next≤s'.next ∧
      (∀j,j<s.next→j ∉ O→s'.heap.get j=s.heap.get j)∧(∀j∈O',j∈O∨s.next<j):=by
  have c1:=GA (P:=Try.prog) (e:=e) (s:=AH s (AP e 1 [x])) (n:=1) (cap:=some 1) (sz:=1) e 1 (by rw[AO,if_pos rfl]) rfl
  have hmul:(n+1) * by_≤(n+1) * 100:=px _ hby
  obtain⟨v',s',O',h1,h2,h3,h4,h5,h6,h7⟩:=(hd.new (AP e 1 [x])).append (P:=Try.prog) (st:=st) (xt:=st) ht hs hb (by decide) hx hz c1 rfl (by simp[Af,hc]) (by omega) (by omega)
  have hn:(AH s (AP e 1 [x])).next=s.next+1:=rfl
  refine⟨v',s',O',h1,h2,by omega,?_,?_⟩
  · intro j hj ho
    rw[h5 j (by omega) ho,AO,if_neg (by omega)]
  · intro j hj
    exact(h6 j hj).imp id (fun h=>by omega)
theorem VF{s:ASt}{v:AV}{L:List Int}{O:List Nat}(hd:CG s v L.length 1 (ivs L) O)(hl:L.length≤1000000000)(x:Int):
    ∃v' s' O',AY Try.prog (AH s (AP 3 1 [iv x])) [23,23] [v,.slice (some (s.next,0)) 1 (some 1)]=some (v',s')∧CG s' v' (L++[x]).length 1 (ivs (L++[x])) O'∧s.next≤s'.next ∧
      (∀j,j<s.next→j ∉ O→s'.heap.get j=s.heap.get j)∧(∀j∈O',j∈O∨s.next≤j)∧(∀j,CU v'=some j→CU v=some j∨s.next≤j):=by
  have c1:=GA (P:=Try.prog) (e:=3) (s:=AH s (AP 3 1 [iv x])) (n:=1) (cap:=some 1) (sz:=1) 3 1 (by rw[AO,if_pos rfl]) rfl
  obtain⟨v',s',O',h1,h2,h3,h4,h5,h6,h7⟩:=(hd.new (AP 3 1 [iv x])).append (P:=Try.prog) (st:=23) (xt:=23) Try.underlying23 sz3 by3 (by decide) (JW 23 3 Try.underlying23) Ip c1 rfl rfl (by omega) (by omega)
  have hn:(AH s (AP 3 1 [iv x])).next=s.next+1:=rfl
  refine⟨v',s',O',h1,?_,by omega,?_,?_,?_⟩
  · simpa using h2
  · intro j hj ho
    rw[h5 j (by omega) ho,AO,if_neg (by omega)]
  · intro j hj
    exact(h6 j hj).imp id (fun h=>by omega)
  · intro j hj
    exact(h7 j hj).imp id (fun h=>by omega)
set_option maxRecDepth 8000 in
theorem Uq        {E : Env} (hE : An   E) {n1 : Nat} {s1 : ASt} (hn1 : n1 ≤ s1.next) {L : List Int} (hL : I8s L) (hLl : L.length < 9223372036854775808) {a : Option (Nat × Nat)} {cap : Option Nat} (hc : A8      n1 s1 a (ce   L)) {v0 p : AV} {i4 : Nat}
    (g1:AC Try.prog 30 v0 (iv (i4:Int))=some p) (g2:∀s,Old n1 s1 s→AD Try.prog s 76 p=some (.slice a L.length cap)) (v2 v3 v9:AV) {Q:A6→Prop}:
    ∀ (m k : Nat) (out : List Int) (O : List Nat) (v5 : AV) (s : ASt) (x7 x8 x10 x11 : AV), m = 5 - k → k ≤ L.length → k ≤ 5 → out = (L.take k).map IZ   → CG   s v5 out.length 1 (ivs out) O → ((∀ j ∈ O, n1 ≤ j) ∧ ∀ j, CU   v5 = some j → n1 ≤ j) → Old n1 s1 s →
      (∀s' v' O' y6 y7 y8 y10 y11,CG s' v' (Jz L).length 1 (ivs (Jz L)) O'→((∀j∈O',n1≤j)∧∀j,CU v'=some j→n1≤j)→Old n1 s1 s'→Q ⟨.exit 2,[v0,iv 6,v2,v3,iv (i4:Int),v',y6,y7,y8,v9,y10,y11],[],s'⟩) →
      WC E none (.loop GU) Q [v0,iv 6,v2,v3,iv (i4:Int),v5,iv (k:Int),x7,x8,v9,x10,x11] [] s:=by
  intro m
  induction m with
  | zero =>
    intro k out O v5 s x7 x8 x10 x11 hm hk hk5 ho hd hO hold hq
    have hke:k=5:=by omega
    subst hke
    have:out=Jz L:=ho
    subst this
    refine WC.loop' ?_
    by_cases hlt:(5:Int)<(L.length:Int)
    · simp only[GU,MU,g1,g2 s hold,AZ Try.underlying76,hlt,decide_true,show((5:Nat):Int)=5 from rfl,beq_self_eq_true,om,decide_false,Qa,Qb,Qc,Qd,Qe,Qf,Qg,Qh,Qi,Qj,Qk,Ql,Qm,Qn,true_and,and_true,Qo,Qp,Qq,Qr,Qs,Qt,Qu,Qv,Qw,Qx,Qy,Qz,Ra,Rb,Rc,Rd,Re,Rf,Rg,Rh,Ri,Rj,Rk,Rl,Rm,Ya,Yb,Yc,Rn,Ro,Rp,Yd,Ye,Rq,Rs,Rt,Ru,Rv,Rw,Rx]
      exact hq s v5 O _ _ _ _ _ hd hO hold
    · simp only[GU,MU,g1,g2 s hold,AZ Try.underlying76,hlt,show((5:Nat):Int)=5 from rfl,decide_false,Bool.false_eq_true,Bool.false_beq,Bool.not_true,Qa,Qb,Qc,Qd,Qe,Qf,Qg,Qh,Qi,Qj,Qk,Ql,Qm,Qn,true_and,and_true,Qo,Qp,Qq,Qr,Qs,Qt,Qu,Qv,Qw,Qx,Qy,Qz,Ra,Rb,Rc,Rd,Re,Rf,Rg,Rh,Ri,Rj,Rk,Rl,Rm,Ya,Yb,Yc,Rn,Ro,Rp,Yd,Ye,Rq,Rs,Rt,Ru,Rv,Rw,Rx]
      exact hq s v5 O _ _ _ _ _ hd hO hold
  | succ m ih =>
    intro k out O v5 s x7 x8 x10 x11 hm hk hk5 ho hd hO hold hq
    have hk4:k<5:=by omega
    refine WC.loop' ?_
    by_cases hlt:k<L.length
    · have hx : L[k]? = some L[k] := oM                       hlt
      have hxi:=hL L[k] (List.getElem_mem _)
      obtain⟨i,o,rfl,hi,hload⟩:=hc k _ (ZR hx)
      have e1:=Aw (cap:=cap) (i:=i) (o:=o) Try.underlying76 sz77 hlt
      have ld:∀ {s':ASt},Old n1 s1 s'→AD Try.prog s' 77 (.ptr (some (i,o+k * 1)))=some (i8v L[k]):=fun h=>A7 ag77 (by rw[oV,CE (h.2 i hi)];exact hload)
      have hkk:decide ((k:Int)<(L.length:Int))=true:=decide_eq_true (by omega)
      have hkk5:decide ((k:Int)<5)=true:=decide_eq_true (by omega)
      have e3:=Aq Try.prog 3 (k:Int) 1 ⟨by omega,by omega⟩
      have hcast:((k:Int)+1)=((k+1:Nat):Int):=by omega
      obtain⟨hx1,hx2⟩:=hxi
      have hneg:=EY Try.prog L[k] ⟨by omega,by omega⟩
      have hmx:(0:Int)≤max L[k] (-L[k]):=by omega
      have hrem:=bB (P:=Try.prog) (t:=3) (k:=.i64) hmx (show(0:Int)<6 by decide)
      have h6:=Int.emod_lt_of_pos (max L[k] (-L[k])) (show(0:Int)<6 by decide)
      have h6':=Int.emod_nonneg (max L[k] (-L[k])) (show(6:Int)≠0 by decide)
      have hadd:=Aq Try.prog 3 1 (max L[k] (-L[k]) % 6) ⟨by omega,by omega⟩
      have hneg2:=EY Try.prog (1+max L[k] (-L[k]) % 6) ⟨by omega,by omega⟩
      have hout':out++[IZ L[k]]=(L.take (k+1)).map IZ:=by rw[ho,pn hlt,pB];rfl
      have holen:out.length≤5:=by rw[ho];simp;omega
      have b1:∀y:Int,Ad Try.prog 23 1 (zipIdx [0] [iv y])=some (AP 3 1 [iv y]):=fun y=>Cd Try.underlying23 sz3 zr3 rfl rfl
      have hmv:∀ (m:Nat) (i:Nat),Bv.val i (.slice m)=.slice (some (i,0)) m (some m):=fun _ _=>rfl
      obtain⟨v',s',O',p1,p2,p3,p4,p5,p6⟩:=VF hd (by omega) (IZ L[k])
      have hold':Old n1 s1 s':=hold.trans ⟨p3,fun j hj=>p4 j (by have:=hold.1;omega) (fun hm=>by have:=hO.1 j hm;omega)⟩
      have go:∀ (w7 w8 w10 w11:AV),WC E none (.loop GU) Q [v0,iv 6,v2,v3,iv (i4:Int),v',iv ((k+1:Nat):Int),w7,w8,v9,w10,w11] [] s':=fun w7 w8 w10 w11 =>
        ih (k+1) (out++[IZ L[k]]) O' v' s' _ _ _ _ (by omega) hlt (by omega) hout' p2 ⟨fun j hj=>(p5 j hj).elim (hO.1 j) (fun h=>by have:=hold.1;omega),fun j hj=>(p6 j hj).elim (hO.2 j) (fun h=>by have:=hold.1;omega)⟩ hold' hq
      by_cases hneg0:L[k]<0
      · have hlit:IZ L[k]=-(1+max L[k] (-L[k]) % 6):=by unfold IZ;rw[if_pos hneg0]
        rw[hlit]at p1
        simp only[GU,MU,XJ,XK,XL,XF,Q4,Q5,g1,g2 s hold,AZ Try.underlying76,hkk,hkk5,beq_self_eq_true,e1,ld hold,To ⟨hx1,hx2⟩,hneg,N2,hrem,hadd,hneg0,decide_true,hneg2,b1,hmv,p1,e3,hcast,Qa,Qb,Qc,Qd,Qe,Qf,Qg,Qh,Qi,Qj,Qk,Ql,Qm,Qn,true_and,and_true,Qo,Qp,Qq,Qr,Qs,Qt,Qu,Qv,Qw,Qx,Qy,Qz,Ra,Rb,Rc,Rd,Re,Rf,Rg,Rh,Ri,Rj,Rk,Rl,Rm,Ya,Yb,Yc,Rn,Ro,Rp,Yd,Ye,Rq,Rs,Rt,Ru,Rv,Rw,Rx]
        exact go _ _ _ _
      · have hlit:IZ L[k]=1+max L[k] (-L[k]) % 6:=by unfold IZ;rw[if_neg hneg0]
        rw[hlit]at p1
        simp only[GU,MU,XJ,XK,XL,Q4,Q5,g1,g2 s hold,AZ Try.underlying76,hkk,hkk5,beq_self_eq_true,e1,ld hold,To ⟨hx1,hx2⟩,hneg,N2,hrem,hadd,hneg0,decide_false,b1,hmv,p1,e3,hcast,Qa,Qb,Qc,Qd,Qe,Qf,Qg,Qh,Qi,Qj,Qk,Ql,Qm,Qn,true_and,and_true,Qo,Qp,Qq,Qr,Qs,Qt,Qu,Qv,Qw,Qx,Qy,Qz,Ra,Rb,Rc,Rd,Re,Rf,Rg,Rh,Ri,Rj,Rk,Rl,Rm,Ya,Yb,Yc,Rn,Ro,Rp,Yd,Ye,Rq,Rs,Rt,Ru,Rv,Rw,Rx]
        exact go _ _ _ _
    · have hkl : k = L.length := by omega
      have hrow:out=Jz L:=by rw[ho,hkl,pG];unfold Jz;rw[pw (by omega)]
      subst hrow
      have hkk:decide ((k:Int)<(L.length:Int))=false:=decide_eq_false (by omega)
      simp only[GU,MU,g1,g2 s hold,AZ Try.underlying76,hkk,Bool.false_beq,Bool.not_true,Qa,Qb,Qc,Qd,Qe,Qf,Qg,Qh,Qi,Qj,Qk,Ql,Qm,Qn,true_and,and_true,Qo,Qp,Qq,Qr,Qs,Qt,Qu,Qv,Qw,Qx,Qy,Qz,Ra,Rb,Rc,Rd,Re,Rf,Rg,Rh,Ri,Rj,Rk,Rl,Rm,Ya,Yb,Yc,Rn,Ro,Rp,Yd,Ye,Rq,Rs,Rt,Ru,Rv,Rw,Rx]
      exact hq s v5 O _ _ _ _ _ hd hO hold
structure KP(lo:Nat)(s:ASt)(v:AV)(us:List AV)(cs:List (List Int))(O:List Nat):Prop where
  dest:CG s v us.length 1 us O
  rows:Ah s.next s us cs
  slots:∀u∈us,∀j,CU u=some j→lo≤j∧j<s.next∧j ∉ O
  own:∀j∈O,lo≤j
theorem CG.isSlice{s:ASt}{v:AV}{n sz:Nat}{cs:List AV}{O:List Nat}(h:CG s v n sz cs O):v.isCell=true:=by
  obtain⟨a,cap,rfl,_⟩:=h.cells
  rfl
set_option maxRecDepth 8000 in
theorem Nh           {E : Env} (hE : An   E) {s0 : ASt} {b : Nat} (hb : b ≤ s0.next) {ls : List (List Int)} (hls : ∀ L ∈ ls, I8s L ∧ L.length < 9223372036854775808) (hlen : ls.length < 9223372036854775808) {a : Option (Nat × Nat)} {cap : Option Nat} (hc : TJ      b s0 a ls) (v2 : AV) {Q : A6   → Prop} :
    ∀ (m k : Nat) (us : List AV) (O : List Nat) (v3 : AV) (s : ASt) (x5 x6 x7 x8 x9 x10 x11 : AV), m = 20 - k → k ≤ ls.length → k ≤ 20 → KP     s0.next s v3 us ((ls.take k).map Jz)   O → Old s0.next s0 s →
      (∀s' v' us' O' y4 y5 y6 y7 y8 y9 y10 y11,KP s0.next s' v' us' (CN ls) O'→Old s0.next s0 s'→Q ⟨.exit 0,[.slice a ls.length cap,iv 6,v2,v',y4,y5,y6,y7,y8,y9,y10,y11],[],s'⟩) →
      WC E none (.loop I3) Q [.slice a ls.length cap,iv 6,v2,v3,iv (k:Int),x5,x6,x7,x8,x9,x10,x11] [] s:=by
  intro m
  induction m with
  | zero =>
    intro k us O v3 s x5 x6 x7 x8 x9 x10 x11 hm hk hk20 hmd hold hq
    have hke:k=20:=by omega
    subst hke
    refine WC.loop' ?_
    by_cases hlt:(20:Int)<(ls.length:Int)
    · simp only[I3,Oa,AZ Try.underlying30,hlt,decide_true,show((20:Nat):Int)=20 from rfl,beq_self_eq_true,om,decide_false,Qa,Qb,Qc,Qd,Qe,Qf,Qg,Qh,Qi,Qj,Qk,Ql,Qm,Qn,true_and,and_true,Qo,Qp,Qq,Qr,Qs,Qt,Qu,Qv,Qw,Qx,Qy,Qz,Ra,Rb,Rc,Rd,Re,Rf,Rg,Rh,Ri,Rj,Rk,Rl,Rm,Ya,Yb,Yc,Rn,Ro,Rp,Yd,Ye,Rq,Rs,Rt,Ru,Rv,Rw,Rx]
      exact hq s v3 us O _ _ _ _ _ _ _ _ hmd hold
    · simp only[I3,Oa,AZ Try.underlying30,hlt,show((20:Nat):Int)=20 from rfl,decide_false,Bool.false_beq,Bool.not_true,Qa,Qb,Qc,Qd,Qe,Qf,Qg,Qh,Qi,Qj,Qk,Ql,Qm,Qn,true_and,and_true,Qo,Qp,Qq,Qr,Qs,Qt,Qu,Qv,Qw,Qx,Qy,Qz,Ra,Rb,Rc,Rd,Re,Rf,Rg,Rh,Ri,Rj,Rk,Rl,Rm,Ya,Yb,Yc,Rn,Ro,Rp,Yd,Ye,Rq,Rs,Rt,Ru,Rv,Rw,Rx]
      exact hq s v3 us O _ _ _ _ _ _ _ _ hmd hold
  | succ m ih =>
    intro k us O v3 s x5 x6 x7 x8 x9 x10 x11 hm hk hk20 hmd hold hq
    have hk4:k<20:=by omega
    refine WC.loop' ?_
    by_cases hlt:k<ls.length
    · have hx:ls[k]? = some ls[k]:=oM hlt
      obtain⟨hL,hLl⟩:=hls ls[k] (List.getElem_mem _)
      obtain⟨i,o,u,rfl,hi,hload,au,cu,rfl,hcu⟩:=hc k _ hx
      rw[oF]at hload
      have e1:=Aw (cap:=cap) (i:=i) (o:=o) Try.underlying30 sz76 hlt
      have hns:s0.next≤s.next:=hold.1
      have ld:∀s',Old s.next s s'→AD Try.prog s' 76 (.ptr (some (i,o+k * 1)))=some (.slice au ls[k].length cu):=fun s' h=>A7 ag76 (by rw[oV,CE ((hold.trans (h.mono hns)).2 i (by omega))];exact hload)
      have hkk:decide ((k:Int)<(ls.length:Int))=true:=decide_eq_true (by omega)
      have hkk20:decide ((k:Int)<20)=true:=decide_eq_true (by omega)
      have e3:=Aq Try.prog 3 (k:Int) 1 ⟨by omega,by omega⟩
      have hcast:((k:Int)+1)=((k+1:Nat):Int):=by omega
      have hcu':A8 s.next s au (ce ls[k]):=(hcu.old hold hb).mono (oS hb hns)
      simp only[I3,Oa,d7,d8,AZ Try.underlying30,hkk,hkk20,beq_self_eq_true,Qa,Qb,Qc,Qd,Qe,Qf,Qg,Qh,Qi,Qj,Qk,Ql,Qm,Qn,true_and,and_true,Qo,Qp,Qq,Qr,Qs,Qt,Qu,Qv,Qw,Qx,Qy,Qz,Ra,Rb,Rc,Rd,Re,Rf,Rg,Rh,Ri,Rj,Rk,Rl,Rm,Ya,Yb,Yc,Rn,Ro,Rp,Yd,Ye,Rq,Rs,Rt,Ru,Rv,Rw,Rx]
      refine Uq hE (oD s.next) hL hLl hcu' e1 ld _ _ _ 5 0 [] [] _ s _ _ _ _ rfl (oK _) (by omega) rfl (CG.nil s 1) ⟨(fun j hj=>by cases hj),(fun j hj=>by cases hj)⟩ (Old.refl _ _) ?_
      intro s1 v5 O5 y6 y7 y8 y10 y11 hd5 hO5 hold1
      have hmv:∀ (m:Nat) (i:Nat),Bv.val i (.slice m)=.slice (some (i,0)) m (some m):=fun _ _=>rfl
      have hv5:v5.cells=[v5]:=by obtain⟨a',c',rfl,_⟩:=hd5.cells;rfl
      have b1:=Cd (P:=Try.prog) (t:=22) (v:=v5) Try.underlying22 BU TD rfl hv5
      have hslot:=hmd.dest.slot_lt
      have hd3:CG s1 v3 us.length 1 us O:=hmd.dest.frame hold1.1 fun j hj=>hold1.2 j (hslot j hj)
      have husl:us.length=k:=by have:=hmd.rows.1;simp at this;omega
      obtain⟨v',s2,O',p1,p2,p3,p4,p5⟩:=VE (st:=22) (e:=23) (by_:=24) Try.underlying22 BU OZ (by decide) (JW 22 23 Try.underlying22) OP hd3 (by omega) hd5.isSlice
      simp only[if_true,XG,b1,hmv,p1,XH,e3,hcast,Qa,Qb,Qc,Qd,Qe,Qf,Qg,Qh,Qi,Qj,Qk,Ql,Qm,Qn,true_and,and_true,Qo,Qp,Qq,Qr,Qs,Qt,Qu,Qv,Qw,Qx,Qy,Qz,Ra,Rb,Rc,Rd,Re,Rf,Rg,Rh,Ri,Rj,Rk,Rl,Rm,Ya,Yb,Yc,Rn,Ro,Rp,Yd,Ye,Rq,Rs,Rt,Ru,Rv,Rw,Rx]
      have hOlt:∀j∈O,j<s.next:=hmd.dest.lt
      have hs12:s1.next≤s2.next:=p3
      have hold2:Old s0.next s0 s2:=(hold.trans (hold1.mono hns)).trans ⟨p3,fun j hj=>p4 j (by have:=hold1.1;omega) (fun hm=>by have:=hmd.own j hm;omega)⟩
      have old_slot:∀u∈us,∀j,CU u=some j→s2.heap.get j=s.heap.get j:=by
        intro u hu j hj
        obtain⟨g1,g2,g3⟩:=hmd.slots u hu j hj
        rw[p4 j (by have:=hold1.1;omega) g3]
        exact hold1.2 j g2
      have v5_slot:∀j,CU v5=some j→s2.heap.get j=s1.heap.get j:=by
        intro j hj
        have h1:=hO5.2 j hj
        exact p4 j (hd5.slot_lt j hj) (fun hm=>by have:=hOlt j hm;omega)
      refine ih (k+1) (us++[v5]) O' v' s2 _ _ _ _ _ _ _ (by omega) hlt (by omega) ⟨?_,?_,?_,?_⟩ hold2 hq
      · rw[oL];exact p2
      · rw [pn                               hlt, pB]
        refine((hmd.rows.keep old_slot).mono (oS hold1.1 hs12)).append (Ah.one ?_)
        exact((hd5.slice).keep v5_slot).mono hs12
      · intro u hu j hj
        have hO'j:j<s1.next→j ∉ O→j ∉ O':=fun h1 h2 h3=>(p5 j h3).elim h2 (fun h=>by omega)
        rcases pg.1 hu with hu | hu
        · obtain⟨g1,g2,g3⟩:=hmd.slots u hu j hj
          exact⟨g1,by have:=hold1.1;omega,hO'j (by have:=hold1.1;omega) g3⟩
        · have:u=v5:=by simpa using hu
          subst this
          have h1:=hO5.2 j hj
          have h2:=hd5.slot_lt j hj
          exact⟨by omega,by omega,hO'j h2 (fun hm=>by have:=hOlt j hm;omega)⟩
      · intro j hj
        exact(p5 j hj).elim (hmd.own j) (fun h=>by have:=hold1.1;omega)
    · have hkl : k = ls.length := by omega
      have hcv:(ls.take k).map Jz=CN ls:=by rw[hkl,pG];unfold CN;rw[pw (by omega)]
      rw[hcv]at hmd
      have hkk:decide ((k:Int)<(ls.length:Int))=false:=decide_eq_false (by omega)
      simp only[I3,Oa,AZ Try.underlying30,hkk,Bool.false_beq,Bool.not_true,Qa,Qb,Qc,Qd,Qe,Qf,Qg,Qh,Qi,Qj,Qk,Ql,Qm,Qn,true_and,and_true,Qo,Qp,Qq,Qr,Qs,Qt,Qu,Qv,Qw,Qx,Qy,Qz,Ra,Rb,Rc,Rd,Re,Rf,Rg,Rh,Ri,Rj,Rk,Rl,Rm,Ya,Yb,Yc,Rn,Ro,Rp,Yd,Ye,Rq,Rs,Rt,Ru,Rv,Rw,Rx]
      exact hq s v3 us O _ _ _ _ _ _ _ _ hmd hold
set_option maxRecDepth 8000 in
theorem R8{E:Env}(hE:An E){s:ASt}{b:Nat}(hb:b≤s.next){ls:List (List Int)}(hls:∀L∈ls,I8s L∧L.length<9223372036854775808)(hlen:ls.length<9223372036854775808){v:AV}(hv:TK b s v ls):
    WF E 22 [v,iv 6] (fun r s'=>∃us O,KP s.next s' r us (CN ls) O∧Old s.next s s') s:=by
  obtain⟨a,cap,rfl,hc⟩:=hv
  refine hE.go kI (by decide) rfl ?_
  simp only[c22,dx,dy,d6,Qa,Qb,Qc,Qd,Qe,Qf,Qg,Qh,Qi,Qj,Qk,Ql,Qm,Qn,true_and,and_true,Qo,Qp,Qq,Qr,Qs,Qt,Qu,Qv,Qw,Qx,Qy,Qz,Ra,Rb,Rc,Rd,Re,Rf,Rg,Rh,Ri,Rj,Rk,Rl,Rm,Ya,Yb,Yc,Rn,Ro,Rp,Yd,Ye,Rq,Rs,Rt,Ru,Rv,Rw,Rx]
  refine Nh hE hb hls hlen hc _ 20 0 [] [] _ s _ _ _ _ _ _ _ rfl (oK _) (by omega) ⟨CG.nil s 1,Ah.nil _ _,(fun u hu=>by cases hu),(fun j hj=>by cases hj)⟩ (Old.refl _ _) ?_
  intro s' v' us' O' y4 y5 y6 y7 y8 y9 y10 y11 h1 h2
  simp only[XI,if_true,Qa,Qb,Qc,Qd,Qe,Qf,Qg,Qh,Qi,Qj,Qk,Ql,Qm,Qn,true_and,and_true,Qo,Qp,Qq,Qr,Qs,Qt,Qu,Qv,Qw,Qx,Qy,Qz,Ra,Rb,Rc,Rd,Re,Rf,Rg,Rh,Ri,Rj,Rk,Rl,Rm,Ya,Yb,Yc,Rn,Ro,Rp,Yd,Ye,Rq,Rs,Rt,Ru,Rv,Rw,Rx]
  exact⟨us',O',h1,h2⟩
theorem K8(j o:Nat):AB Try.prog 27 (.ptr (some (j,o))) 0=some (.ptr (some (j,o))):=by
  simp[AB,Try.underlying27,sz4,AF]
  rfl
theorem K9(j o:Nat):AB Try.prog 27 (.ptr (some (j,o))) 1=some (.ptr (some (j,o+1))):=by
  simp[AB,Try.underlying27,BU,AF]
  rfl
def Ir(s:ASt)(j:Nat)(c0 c1:AV):Prop:=∃r,s.heap.get j=some (.row r)∧HN r [c0,c1]∧r.mode=.own∧r.par=none
theorem Ir.keep{s s':ASt}{j:Nat}{c0 c1:AV}(h:Ir s j c0 c1)(k:s'.heap.get j=s.heap.get j):Ir s' j c0 c1:=by
  obtain⟨r,h1,h2⟩:=h
  exact⟨r,by rw[k];exact h1,h2⟩
theorem Ir.load0{s:ASt}{j:Nat}{c0 c1:AV}(h:Ir s j c0 c1):load1 s j 0=some c0:=by
  obtain⟨r,h1,h2,_⟩:=h
  exact BW h1 (by rw[h2.1];simp) (h2.2 0 c0 rfl)
theorem Ir.load1{s:ASt}{j:Nat}{c0 c1:AV}(h:Ir s j c0 c1):load1 s j 1=some c1:=by
  obtain⟨r,h1,h2,_⟩:=h
  exact BW h1 (by rw[h2.1];simp) (h2.2 1 c1 rfl)
theorem Hs{s:ASt}{i o:Nat}{r:EF}{vs:List AV}(hg:s.heap.get i=some (.row r))(hm:r.mode=.own)(hp:r.par=none)(hne:vs≠[])(ho:o+vs.length≤r.n)(hc:Af vs=true):
    CJ s i o vs=some (setObj s i (.row { r with c:=r.c.fill o vs,par:=none })):=by
  cases vs with
  | nil=>exact absurd rfl hne
  | cons v vs =>
    have hb:=A1 ho
    simp only[CJ,BA,hg,Option.bind_some,hm,FL,hb,hc,Bool.and_self,AF,cond_true,Ax,hp]
theorem Ir.store{s:ASt}{j:Nat}{c0 c1 d0 d1:AV}(h:Ir s j c0 c1)(h0:d0.isCell=true)(h1:d1.isCell=true):
    ∃s',AN Try.prog s 27 (.ptr (some (j,0))) (.agg [d0,d1])=some s'∧Ir s' j d0 d1∧s'.next=s.next∧∀x,x≠j→s'.heap.get x=s.heap.get x:=by
  obtain⟨r,g1,g2,g3,g4⟩:=h
  refine⟨setObj s j (.row { r with c:=r.c.fill 0 [d0,d1],par:=none }),?_,⟨{ r with c:=r.c.fill 0 [d0,d1],par:=none },by rw[Ai,if_pos rfl],⟨g2.1,?_⟩,g3,rfl⟩,rfl,fun x hx=>by rw[Ai,if_neg hx]⟩
  · simp[AN,OK,AV.cells,AF,Hs (vs:=[d0,d1]) (o:=0) g1 g3 g4 (by simp) (by rw[g2.1];exact oD _) (by simp[Af,h0,h1])]
  · intro k u hk
    have hlt:k<2:=by
      rcases oI k 2 with h' | h'
      · exact h'
      · rw[oe (by simpa using h')]at hk;cases hk
    show(Aj.fill r.c 0 [d0,d1]).get k=some u
    rw[Aj.get_fill,if_pos ⟨oK _,by simpa using hlt⟩]
    simpa using hk
abbrev As:=List (Bool×List Int)
def BS(b:Nat)(s:ASt)(us:List AV)(T:As):Prop:=us.length=T.length * 2∧∀ (k:Nat)(d:Bool)(L:List Int),T[k]? = some (d,L)→us[k * 2]? = some (.bool d)∧∃u:AV,us[k * 2+1]? = some u∧AM b s u (ivs L)
theorem BS.mono{b b':Nat}{s:ASt}{us:List AV}{T:As}(h:BS b s us T)(k:b≤b'):BS b' s us T:=
  ⟨h.1,fun j d L hj=>let ⟨h0,u,h1,h2⟩:=h.2 j d L hj;⟨h0,u,h1,h2.mono k⟩⟩
theorem BS.keep{b:Nat}{s s':ASt}{us:List AV}{T:As}(h:BS b s us T)(k:∀u∈us,∀j,CU u=some j→s'.heap.get j=s.heap.get j):BS b s' us T:=
  ⟨h.1,fun j d L hj=>let ⟨h0,u,h1,h2⟩:=h.2 j d L hj;⟨h0,u,h1,h2.keep (k u (oG h1))⟩⟩
theorem BS.nil(b:Nat)(s:ASt):BS b s [] []:=⟨rfl,fun k d L h=>by simp at h⟩
theorem BS.snoc{b:Nat}{s:ASt}{us:List AV}{T:As}(h:BS b s us T){d:Bool}{u:AV}{L:List Int}(hu:AM b s u (ivs L)):BS b s (us++[.bool d,u]) (T++[(d,L)]):=by
  refine⟨by simp[h.1];omega,fun k d' L' hk=>?_⟩
  rcases oI k T.length with hlt | hge
  · rw[oR hlt]at hk
    obtain⟨h0,u',h1,h2⟩:=h.2 k d' L' hk
    have hl:=h.1
    exact⟨by rw[oR (by omega)];exact h0,u',by rw[oR (by omega)];exact h1,h2⟩
  · rw[oT hge]at hk
    have hk0:k=T.length:=by
      rcases oI (k - T.length) 1 with h' | h'
      · omega
      · rw[oe (by simpa using h')]at hk;cases hk
    subst hk0
    rw[pX]at hk
    simp at hk
    obtain⟨rfl,rfl⟩:=hk
    have hl:=h.1
    refine⟨?_,u,?_,hu⟩
    · rw[oT (by omega),hl,pX];rfl
    · rw[oT (by omega),hl,show T.length * 2+1 - T.length * 2=1 from by omega];rfl
def u8(n:Int):Prop:=0≤n∧n≤255
theorem cS{s:ASt}{n:Int}(h:u8 n):Cj Try.prog s 5 3 (.int .u8 n)=some (iv n):=by
  obtain⟨h1,h2⟩:=h
  simp[Cj,Try.underlying5,Try.underlying3,FD (n:=n) ⟨by omega,by omega⟩]
theorem ae:By Try.prog 27 2=true:=by simp[By,TE,AV.cells]
theorem KW{d:Bool}{u:AV}:Ad Try.prog 33 1 (zipIdx [0] [.agg [.bool d,u]])=some (AP 27 2 [.bool d,u]):=by
  simp[Ad,Try.underlying33,OK,AF,TE,zipIdx,Dm,rep,AV.cells]
  rfl
theorem ap:BE Try.prog 27=some (AP 27 0 [.bool false,.slice none 0 (some 0)],.ptr):=by simp[BE,TE,AV.cells]
theorem AM.isCell{b:Nat}{s:ASt}{u:AV}{cs:List AV}(h:AM b s u cs):u.isCell=true∧u.cells=[u]:=by
  obtain⟨a,cap,rfl,_⟩:=h
  exact⟨rfl,rfl⟩
def WP:List AA:=[
  ⟨none,.p1 some,[(.const (.int .i64 (0)))],(.set 1),[]⟩]
def jT:List AA:=[
  ⟨none,.r1 (fun s x=>Cj Try.prog s 133 145 x),[.var 0],.push,[]⟩,
  ⟨none,.call 126,[.loc 0],.push,[]⟩,
  ⟨none,.p1 some,[.loc 0],(.set 1),[]⟩]
def WQ:List AA:=[
  ⟨none,.call 127,[.var 0],.push,[]⟩,
  ⟨none,.p1 some,[.loc 0],(.set 1),[]⟩]
def mU:Ar:=⟨1,2,(.seq (.ops WP) (.seq (.cond (.const (.bool false))
  (.seq (.ops jT) .ret)
  .skip) (.seq (.ops WQ) .ret))),[((.var 1),none)]⟩
def Wt:List AA:=[
  ⟨none,.p1 some,[(.const (.bool false))],(.set 2),[]⟩]
def Wu:List AA:=[
  ⟨none,.call 134,[.var 0],.push,[]⟩,
  ⟨(some ((.loc 0),true)),.p1 some,[.var 1],.push,[]⟩,
  ⟨(some ((.loc 1),true)),.call 134,[.loc 0],.push,[]⟩,
  ⟨(some ((.loc 2),true)),.p1 (unA Try.prog Go.UnOp.not),[.loc 0],.push,[]⟩,
  ⟨none,.p Rn,[(.loc 3),(.loc 0),(.const (.bool false))],.push,[]⟩,
  ⟨(some ((.loc 0),false)),.p1 some,[.var 0],.push,[]⟩,
  ⟨(some ((.loc 1),false)),.p1 some,[.var 1],.push,[]⟩,
  ⟨(some ((.loc 2),false)),.p2 (AI Try.prog .lss 3),[.loc 1,.loc 0],.push,[]⟩,
  ⟨none,.p Rn,[(.loc 3),(.const (.bool true)),(.loc 0)],.push,[]⟩,
  ⟨none,.p1 some,[.loc 0],(.set 2),[]⟩]
def mZ:Ar:=⟨2,3,(.seq (.ops Wt) (.seq (.ops Wu) .ret)),[((.var 2),none)]⟩
def Wv:List AA:=[
  ⟨none,.p1 some,[(.const (.int .i64 (0)))],(.set 1),[]⟩]
def Ww:List AA:=[
  ⟨none,.p2 (AI Try.prog .geq 147),[(.var 0),(.const (.int .u64 (4294967296)))],(.set 2),[]⟩]
def jV:List AA:=[
  ⟨none,.p1 some,[.var 0],.push,[]⟩,
  ⟨none,.p2 (AI Try.prog .shr 147),[(.loc 0),(.const (.int .u64 (32)))],.push,[]⟩,
  ⟨none,.p1 some,[.loc 0],(.set 0),[]⟩]
def jW:List AA:=[
  ⟨none,.p1 some,[(.const (.int .i64 (32)))],(.set 1),[]⟩]
def Wx:List AA:=[
  ⟨none,.p2 (AI Try.prog .geq 147),[(.var 0),(.const (.int .u64 (65536)))],(.set 3),[]⟩]
def jX:List AA:=[
  ⟨none,.p1 some,[.var 0],.push,[]⟩,
  ⟨none,.p2 (AI Try.prog .shr 147),[(.loc 0),(.const (.int .u64 (16)))],.push,[]⟩,
  ⟨none,.p1 some,[.loc 0],(.set 0),[]⟩]
def jY:List AA:=[
  ⟨none,.p1 some,[.var 1],.push,[]⟩,
  ⟨none,.p2 (AI Try.prog .add 3),[(.loc 0),(.const (.int .i64 (16)))],.push,[]⟩,
  ⟨none,.p1 some,[.loc 0],(.set 1),[]⟩]
def Wy:List AA:=[
  ⟨none,.p2 (AI Try.prog .geq 147),[(.var 0),(.const (.int .u64 (256)))],(.set 4),[]⟩]
def jZ:List AA:=[
  ⟨none,.p1 some,[.var 0],.push,[]⟩,
  ⟨none,.p2 (AI Try.prog .shr 147),[(.loc 0),(.const (.int .u64 (8)))],.push,[]⟩,
  ⟨none,.p1 some,[.loc 0],(.set 0),[]⟩]
def ja:List AA:=[
  ⟨none,.p1 some,[.var 1],.push,[]⟩,
  ⟨none,.p2 (AI Try.prog .add 3),[(.loc 0),(.const (.int .i64 (8)))],.push,[]⟩,
  ⟨none,.p1 some,[.loc 0],(.set 1),[]⟩]
def TU:List AA:=[
  ⟨none,.p1 some,[.var 1],.push,[]⟩,
  ⟨none,.r1 (fun s x=>Cj Try.prog s 147 5 x),[.var 0],.push,[]⟩,
  ⟨none,.p2 (Hk Try.prog 9),[(.const (.str [0,1,2,2,3,3,3,3,4,4,4,4,4,4,4,4,5,5,5,5,5,5,5,5,5,5,5,5,5,5,5,5,6,6,6,6,6,6,6,6,6,6,6,6,6,6,6,6,6,6,6,6,6,6,6,6,6,6,6,6,6,6,6,6,7,7,7,7,7,7,7,7,7,7,7,7,7,7,7,7,7,7,7,7,7,7,7,7,7,7,7,7,7,7,7,7,7,7,7,7,7,7,7,7,7,7,7,7,7,7,7,7,7,7,7,7,7,7,7,7,7,7,7,7,7,7,7,7,8,8,8,8,8,8,8,8,8,8,8,8,8,8,8,8,8,8,8,8,8,8,8,8,8,8,8,8,8,8,8,8,8,8,8,8,8,8,8,8,8,8,8,8,8,8,8,8,8,8,8,8,8,8,8,8,8,8,8,8,8,8,8,8,8,8,8,8,8,8,8,8,8,8,8,8,8,8,8,8,8,8,8,8,8,8,8,8,8,8,8,8,8,8,8,8,8,8,8,8,8,8,8,8,8,8,8,8,8,8,8,8,8,8,8,8,8,8,8,8,8,8,8,8,8,8,8,8])),(.loc 0)],.push,[]⟩,
  ⟨none,.r1 (fun s x=>Cj Try.prog s 5 3 x),[.loc 0],.push,[]⟩,
  ⟨none,.p2 (AI Try.prog .add 3),[.loc 3,.loc 0],.push,[]⟩,
  ⟨none,.p1 some,[.loc 0],(.set 1),[]⟩]
def ma:Ar:=⟨1,5,(.seq (.ops Wv) (.seq (.seq (.ops Ww) (.cond (.var 2)
  (.seq (.ops jV) (.ops jW))
  .skip)) (.seq (.seq (.ops Wx) (.cond (.var 3)
  (.seq (.ops jX) (.ops jY))
  .skip)) (.seq (.seq (.ops Wy) (.cond (.var 4)
  (.seq (.ops jZ) (.ops ja))
  .skip)) (.seq (.ops TU) .ret))))),[((.var 1),none)]⟩
def Wz:List AA:=[
  ⟨none,.p1 some,[(.const (.bool false))],(.set 1),[]⟩]
def W0:List AA:=[
  ⟨none,.p2 (AI Try.prog .neq 3),[.var 0,.var 0],.push,[]⟩,
  ⟨none,.p1 some,[.loc 0],(.set 1),[]⟩]
def mp:Ar:=⟨1,2,(.seq (.ops Wz) (.seq (.ops W0) .ret)),[((.var 1),none)]⟩
theorem cH:AQ Try.prog 109=some mU:=by kernel_rfl
theorem cN:AQ Try.prog 123=some mZ:=by kernel_rfl
theorem cO:AQ Try.prog 127=some ma:=by kernel_rfl
theorem cP:AQ Try.prog 134=some mp:=by kernel_rfl
def BD(s:ASt)(i:Nat)(cs:List AV):Prop:=∃r,s.heap.get i=some (.row r)∧HN r cs∧r.mode=.own∧r.par=none∧r.sz=1
theorem BD.keep{s s':ASt}{i:Nat}{cs:List AV}(h:BD s i cs)(k:s'.heap.get i=s.heap.get i):BD s' i cs:=by
  obtain⟨r,h1,h2⟩:=h
  exact⟨r,k.trans h1,h2⟩
theorem Ab{α:Type}{l:List α}{k:Nat}{u:α}(h:l[k]? = some u):k<l.length:=by
  rcases oI k l.length with h' | h'
  · exact h'
  · rw[oe h']at h;cases h
theorem BD.load1{s:ASt}{i k:Nat}{cs:List AV}{u:AV}(h:BD s i cs)(hk:cs[k]? = some u):load1 s i k=some u:=by
  obtain⟨r,h1,h2,_⟩:=h
  exact BW h1 (by rw[h2.1];exact Ab hk) (h2.2 k u hk)
theorem BD.load{s:ASt}{i k:Nat}{cs:List AV}{u:AV}(h:BD s i cs)(hk:cs[k]? = some u):AD Try.prog s 3 (.ptr (some (i,0+k * 1)))=some u:=by
  rw[oN,oV];exact A7 ag3 (h.load1 hk)
theorem BD.fill    {s : ASt} {i o : Nat} {cs vs : List AV} (h : BD    s i cs) (hne : vs ≠ []) (ho : o + vs.length ≤ cs.length) (hc : Af       vs = true) :
    ∃s',CJ s i o vs=some s'∧BD s' i (cs.take o++vs++cs.drop (o+vs.length))∧s'.next=s.next∧∀x,x≠i→s'.heap.get x=s.heap.get x:=by
  obtain⟨r,h1,h2,h3,h4,h5⟩:=h
  refine⟨_,Hs h1 h3 h4 hne (by rw[h2.1];exact ho) hc,⟨{ r with c:=r.c.fill o vs,par:=none },by rw[Ai,if_pos rfl],⟨?_,?_⟩,h3,rfl,h5⟩,rfl,fun x hx=>by rw[Ai,if_neg hx]⟩
  · show r.n=_
    rw[h2.1];simp;omega
  · intro k u hk
    show(Aj.fill r.c o vs).get k=some u
    rw[Aj.get_fill]
    by_cases hin:o≤k∧k<o+vs.length
    · rw [if_pos hin]
      rw[pS,oT (by simp;omega),oR (by simp;omega)]at hk
      have:(cs.take o).length=o:=by simp;omega
      rw[this]at hk
      exact hk
    · rw [if_neg hin]
      refine h2.2 k u ?_
      rcases oI k o with hlt | hge
      · rw[pS,oR (by simp;omega),pl,if_pos hlt]at hk
        exact hk
      · rw[oT (by simp;omega),pD]at hk
        have e:o+vs.length+(k - (cs.take o++vs).length)=k:=by simp;omega
        rw[e]at hk
        exact hk
theorem BD.store{s:ASt}{i k:Nat}{A B:List AV}{w u:AV}(h:BD s i (A++w::B))(hk:A.length=k)(h1:u.isCell=true)(h2:u.cells=[u]):
    ∃s',AN Try.prog s 3 (.ptr (some (i,0+k * 1))) u=some s'∧BD s' i (A++u::B)∧s'.next=s.next∧∀x,x≠i→s'.heap.get x=s.heap.get x:=by
  subst hk
  obtain⟨s',g1,g2,g3,g4⟩:=h.fill (o:=A.length) (vs:=[u]) (by simp) (by simp) (by simp[Af,h1])
  refine⟨s',?_,?_,g3,g4⟩
  · simp[AN,sz3,h2,AF,g1]
  · have e:(A++w::B).take A.length++[u]++(A++w::B).drop (A.length+[u].length)=A++u::B:=by
      rw[List.take_left',List.drop_append]
      · simp
      · rfl
    rw[e]at g2
    exact g2
theorem SS(A B:List Int):ivs (A++B)=ivs A++ivs B:=by simp
theorem Ce(A:List Int):(ivs A).length=A.length:=by simp
theorem FK{A B:List AV}{w:AV}{k:Nat}(hk:A.length=k):(A++w::B)[k]? = some w:=by
  subst hk;simp
theorem lQ{E:Env}(hE:An E){s:ASt}(x:Int):WF E 134 [iv x] (fun r s'=>r=.bool false∧s=s') s:=by
  refine hE.go cP (by decide) rfl ?_
  simp only[mp,Wz,W0,ne_eq,not_true,decide_false,Qa,Qb,Qc,Qd,Qe,Qf,Qg,Qh,Qi,Qj,Qk,Ql,Qm,Qn,true_and,and_true,Qo,Qp,Qq,Qr,Qs,Qt,Qu,Qv,Qw,Qx,Qy,Qz,Ra,Rb,Rc,Rd,Re,Rf,Rg,Rh,Ri,Rj,Rk,Rl,Rm,Ya,Yb,Yc,Rn,Ro,Rp,Yd,Ye,Rq,Rs,Rt,Ru,Rv,Rw,Rx]
theorem cq{E:Env}(hE:An E){s:ASt}(x y:Int):WF E 123 [iv x,iv y] (fun r s'=>r=.bool (decide (x<y))∧s=s') s:=by
  refine hE.go cN (by decide) rfl ?_
  simp only[mZ,Wt,Wu,Qa,Qb,Qc,Qd,Qe,Qf,Qg,Qh,Qi,Qj,Qk,Ql,Qm,Qn,true_and,and_true,Qo,Qp,Qq,Qr,Qs,Qt,Qu,Qv,Qw,Qx,Qy,Qz,Ra,Rb,Rc,Rd,Re,Rf,Rg,Rh,Ri,Rj,Rk,Rl,Rm,Ya,Yb,Yc,Rn,Ro,Rp,Yd,Ye,Rq,Rs,Rt,Ru,Rv,Rw,Rx]
  refine(lQ hE x).mono ?_
  rintro _ _ ⟨rfl,rfl⟩
  simp only[Qa,Qb,Qc,Qd,Qe,Qf,Qg,Qh,Qi,Qj,Qk,Ql,Qm,Qn,true_and,and_true,Qo,Qp,Qq,Qr,Qs,Qt,Qu,Qv,Qw,Qx,Qy,Qz,Ra,Rb,Rc,Rd,Re,Rf,Rg,Rh,Ri,Rj,Rk,Rl,Rm,Ya,Yb,Yc,Rn,Ro,Rp,Yd,Ye,Rq,Rs,Rt,Ru,Rv,Rw,Rx]
theorem cY(t:TypeId)(a b:Int):AI Try.prog .geq t (.int .u64 a) (.int .u64 b)=some (.bool (decide (b≤a))):=by
  show some (AV.bool (!ltI a b))=_
  rw[D4,← decide_not]
  congr 3
  exact propext Int.not_lt
theorem nn{n:Int}(h:u8 n):B0 .u8 n=true:=by
  obtain⟨h1,h2⟩:=h
  cases n with
  | ofNat m =>
    have h3:(m:Int)≤255:=h2
    simp[B0];omega
  | negSucc m=>omega
theorem lN{n:Int}(h:u8 n):B0 .u64 n=true:=by
  obtain⟨h1,h2⟩:=h
  cases n with
  | ofNat m =>
    have h3:(m:Int)≤255:=h2
    simp[B0];omega
  | negSucc m=>omega
theorem lW{l:List Nat}{n m:Nat}(h:l[n]? = some m):Hk Try.prog 9 (.str l) (.int .u8 (n:Int))=some (.int .u8 (m:Int)):=by
  simp[Hk,Cu,BX,Try.underlying9,h]
def iu:List Nat:=[0,1,2,2,3,3,3,3,4,4,4,4,4,4,4,4,5,5,5,5,5,5,5,5,5,5,5,5,5,5,5,5,6,6,6,6,6,6,6,6,6,6,6,6,6,6,6,6,6,6,6,6,6,6,6,6,6,6,6,6,6,6,6,6,7,7,7,7,7,7,7,7,7,7,7,7,7,7,7,7,7,7,7,7,7,7,7,7,7,7,7,7,7,7,7,7,7,7,7,7,7,7,7,7,7,7,7,7,7,7,7,7,7,7,7,7,7,7,7,7,7,7,7,7,7,7,7,7,8,8,8,8,8,8,8,8,8,8,8,8,8,8,8,8,8,8,8,8,8,8,8,8,8,8,8,8,8,8,8,8,8,8,8,8,8,8,8,8,8,8,8,8,8,8,8,8,8,8,8,8,8,8,8,8,8,8,8,8,8,8,8,8,8,8,8,8,8,8,8,8,8,8,8,8,8,8,8,8,8,8,8,8,8,8,8,8,8,8,8,8,8,8,8,8,8,8,8,8,8,8,8,8,8,8,8,8,8,8,8,8,8,8,8,8,8,8,8,8,8,8,8,8,8,8,8,8]
set_option maxRecDepth 20000 in
theorem Zh{E:Env}(hE:An E){s:ASt}(n:Nat)(hn:n≤12):WF E 127 [.int .u64 (n:Int)] (fun r s'=>(∃m:Int,r=iv m)∧s=s') s:=by
  refine hE.go cO (by decide) rfl ?_
  have g1:decide ((4294967296:Int)≤(n:Int))=false:=decide_eq_false (by omega)
  have g2:decide ((65536:Int)≤(n:Int))=false:=decide_eq_false (by omega)
  have g3:decide ((256:Int)≤(n:Int))=false:=decide_eq_false (by omega)
  have g4:Cj Try.prog s 147 5 (.int .u64 (n:Int))=some (.int .u8 (n:Int)):=by
    simp[Cj,Try.underlying147,Try.underlying5,L7 (nn (n:=n) ⟨by omega,by omega⟩)]
  have g5:∃m:Nat,m≤4∧Hk Try.prog 9 (.str iu) (.int .u8 (n:Int))=some (.int .u8 (m:Int)):=by
    have:n=0∨n=1∨n=2∨n=3∨n=4∨n=5∨n=6∨n=7∨n=8∨n=9∨n=10∨n=11∨n=12:=by omega
    rcases this with rfl | rfl | rfl | rfl | rfl | rfl | rfl | rfl | rfl | rfl | rfl | rfl | rfl<;>exact⟨_,by decide,lW rfl⟩
  obtain⟨m,hm,g5⟩:=g5
  have g6:Cj Try.prog s 5 3 (.int .u8 (m:Int))=some (iv (m:Int)):=cS ⟨by omega,by omega⟩
  have g7:=Aq Try.prog 3 0 (m:Int) ⟨by omega,by omega⟩
  unfold iu at g5
  simp only[ma,Wv,Ww,Wx,Wy,TU,cY,g1,g2,g3,g4,g5,g6,g7,Qa,Qb,Qc,Qd,Qe,Qf,Qg,Qh,Qi,Qj,Qk,Ql,Qm,Qn,true_and,and_true,Qo,Qp,Qq,Qr,Qs,Qt,Qu,Qv,Qw,Qx,Qy,Qz,Ra,Rb,Rc,Rd,Re,Rf,Rg,Rh,Ri,Rj,Rk,Rl,Rm,Ya,Yb,Yc,Rn,Ro,Rp,Yd,Ye,Rq,Rs,Rt,Ru,Rv,Rw,Rx]
  exact⟨_,rfl⟩
theorem Zi{E:Env}(hE:An E){s:ASt}(n:Nat)(hn:n≤12):WF E 109 [.int .u64 (n:Int)] (fun r s'=>(∃m:Int,r=iv m)∧s=s') s:=by
  refine hE.go cH (by decide) rfl ?_
  simp only[mU,WP,WQ,Qa,Qb,Qc,Qd,Qe,Qf,Qg,Qh,Qi,Qj,Qk,Ql,Qm,Qn,true_and,and_true,Qo,Qp,Qq,Qr,Qs,Qt,Qu,Qv,Qw,Qx,Qy,Qz,Ra,Rb,Rc,Rd,Re,Rf,Rg,Rh,Ri,Rj,Rk,Rl,Rm,Ya,Yb,Yc,Rn,Ro,Rp,Yd,Ye,Rq,Rs,Rt,Ru,Rv,Rw,Rx]
  refine(Zh hE n hn).mono ?_
  rintro _ _ ⟨⟨m,rfl⟩,rfl⟩
  simp only[Qa,Qb,Qc,Qd,Qe,Qf,Qg,Qh,Qi,Qj,Qk,Ql,Qm,Qn,true_and,and_true,Qo,Qp,Qq,Qr,Qs,Qt,Qu,Qv,Qw,Qx,Qy,Qz,Ra,Rb,Rc,Rd,Re,Rf,Rg,Rh,Ri,Rj,Rk,Rl,Rm,Ya,Yb,Yc,Rn,Ro,Rp,Yd,Ye,Rq,Rs,Rt,Ru,Rv,Rw,Rx]
  exact⟨_,rfl⟩
def El(x:Int):List Int→List Int
  | []=>[x]
  | y::q=>if x<y then y::El x q else x::y::q
def CV(L:List Int):List Int:=(L.foldl (fun q x=>El x q) []).reverse
theorem Gb(x:Int):∀q,(El x q).length=q.length+1
  | []=>rfl
  | y::q=>by
    unfold El
    split
    · simp[Gb x q]
    · simp
set_option maxRecDepth 8000 in
theorem dQ      {E : Env} (hE : An   E) {lo i n m : Nat} (hlo : lo ≤ i) (hn : n ≤ 1000) (x : Int) {Q : A6   → Prop} :
    ∀ (p T : List Int) (s : ASt) (x5 x6 : AV), p.length < n → n ≤ p.length + 1 + T.length → BD    s i (ivs (p.reverse ++ x :: T)) →
      (∀s' y4 y6,BD s' i (ivs ((El x p).reverse++T))→s'.next=s.next→(∀z,z≠i→s'.heap.get z=s.heap.get z)→Q ⟨.exit 2,[.slice (some (i,0)) n none,iv 0,iv (n:Int),iv (m:Int),y4,x5,y6],[],s'⟩) →
      WC E none (.loop Kc) Q [.slice (some (i,0)) n none,iv 0,iv (n:Int),iv (m:Int),iv (p.length:Int),x5,x6] [] s:=by
  intro p
  induction p with
  | nil =>
    intro T s x5 x6 h1 h2 hr hq
    refine WC.loop' ?_
    simp only[Kc,QV,pH,show((0:Nat):Int)=0 from rfl,om,decide_false,Qa,Qb,Qc,Qd,Qe,Qf,Qg,Qh,Qi,Qj,Qk,Ql,Qm,Qn,true_and,and_true,Qo,Qp,Qq,Qr,Qs,Qt,Qu,Qv,Qw,Qx,Qy,Qz,Ra,Rb,Rc,Rd,Re,Rf,Rg,Rh,Ri,Rj,Rk,Rl,Rm,Ya,Yb,Yc,Rn,Ro,Rp,Yd,Ye,Rq,Rs,Rt,Ru,Rv,Rw,Rx]
    exact hq s _ _ hr rfl fun _ _=>rfl
  | cons y q ih =>
    intro T s x5 x6 h1 h2 hr hq
    have hj:(y::q).length=q.length+1:=rfl
    rw[hj]at h1 h2 ⊢
    have hcells:ivs ((y::q).reverse++x::T)=ivs q.reverse++iv y::(iv x::ivs T):=by simp
    have hcells2:ivs ((y::q).reverse++x::T)=(ivs q.reverse++[iv y])++iv x::ivs T:=by simp
    have hql:(ivs q.reverse).length=q.length:=by simp
    have hql2:(ivs q.reverse++[iv y]).length=q.length+1:=by simp
    have hgt:decide ((0:Int)<((q.length+1:Nat):Int))=true:=decide_eq_true (by omega)
    have a1:AC Try.prog 23 (.slice (some (i,0)) n none) (iv ((q.length+1:Nat):Int))=some (.ptr (some (i,0+(q.length+1) * 1))):=Aw Try.underlying23 sz3 (by omega)
    have a0:AC Try.prog 23 (.slice (some (i,0)) n none) (iv ((q.length:Nat):Int))=some (.ptr (some (i,0+q.length * 1))):=Aw Try.underlying23 sz3 (by omega)
    have l1:AD Try.prog s 3 (.ptr (some (i,0+(q.length+1) * 1)))=some (iv x):=hr.load (by rw[hcells2];exact FK hql2)
    have l0:AD Try.prog s 3 (.ptr (some (i,0+q.length * 1)))=some (iv y):=hr.load (by rw[hcells];exact FK hql)
    have hs:=CD Try.prog 3 ((q.length+1:Nat):Int) 1 ⟨by omega,by omega⟩
    have hs1:(((q.length+1:Nat):Int) - 1)=((q.length:Nat):Int):=by omega
    rw[hs1]at hs
    refine WC.loop' ?_
    generalize hW:WC E none (AX.loop Kc) Q=W
    simp only[Kc,QV,hgt,a1,l1,hs,a0,l0,Qa,Qb,Qc,Qd,Qe,Qf,Qg,Qh,Qi,Qj,Qk,Ql,Qm,Qn,true_and,and_true,Qo,Qp,Qq,Qr,Qs,Qt,Qu,Qv,Qw,Qx,Qy,Qz,Ra,Rb,Rc,Rd,Re,Rf,Rg,Rh,Ri,Rj,Rk,Rl,Rm,Ya,Yb,Yc,Rn,Ro,Rp,Yd,Ye,Rq,Rs,Rt,Ru,Rv,Rw,Rx]
    refine(cq hE x y).mono ?_
    rintro _ _ ⟨rfl,rfl⟩
    by_cases h:x<y
    · rw[hcells2]at hr
      obtain⟨s1,g1,g2,g3,g4⟩:=hr.store (k:=q.length+1) (u:=iv y) hql2 rfl rfl
      have e1:(ivs q.reverse++[iv y])++iv y::ivs T=ivs q.reverse++iv y::(iv y::ivs T):=by simp
      rw[e1]at g2
      obtain⟨s2,k1,k2,k3,k4⟩:=g2.store (k:=q.length) (u:=iv x) hql rfl rfl
      simp only[h,decide_true,Wq,Wr,a1,l1,hs,a0,l0,on2,g1,k1,AT,Qa,Qb,Qc,Qd,Qe,Qf,Qg,Qh,Qi,Qj,Qk,Ql,Qm,Qn,true_and,and_true,Qo,Qp,Qq,Qr,Qs,Qt,Qu,Qv,Qw,Qx,Qy,Qz,Ra,Rb,Rc,Rd,Re,Rf,Rg,Rh,Ri,Rj,Rk,Rl,Rm,Ya,Yb,Yc,Rn,Ro,Rp,Yd,Ye,Rq,Rs,Rt,Ru,Rv,Rw,Rx]
      rw[← hW]
      have e2:El x (y::q)=y::El x q:=by simp[El,h]
      refine ih (y::T) s2 x5 _ (by omega) (by simp;omega) ?_ ?_
      · have e3:ivs (q.reverse++x::(y::T))=ivs q.reverse++iv x::(iv y::ivs T):=by simp
        rw[e3];exact k2
      · intro s' y4 y6 f1 f2 f3
        refine hq s' y4 y6 ?_ (by omega) fun z hz=>(f3 z hz).trans ((k4 z hz).trans (g4 z hz))
        rw[e2]
        have e4:(y::El x q).reverse++T=(El x q).reverse++(y::T):=by simp
        rw[e4];exact f1
    · have e2:El x (y::q)=x::y::q:=by simp[El,h]
      simp only[h,decide_false,Qa,Qb,Qc,Qd,Qe,Qf,Qg,Qh,Qi,Qj,Qk,Ql,Qm,Qn,true_and,and_true,Qo,Qp,Qq,Qr,Qs,Qt,Qu,Qv,Qw,Qx,Qy,Qz,Ra,Rb,Rc,Rd,Re,Rf,Rg,Rh,Ri,Rj,Rk,Rl,Rm,Ya,Yb,Yc,Rn,Ro,Rp,Yd,Ye,Rq,Rs,Rt,Ru,Rv,Rw,Rx]
      refine hq s _ _ ?_ rfl fun _ _=>rfl
      rw[e2]
      have e4:(x::y::q).reverse++T=(y::q).reverse++x::T:=by simp
      rw[e4];exact hr
def CC(lo:Nat)(s:ASt)(v:AV)(L:List Int):Prop:=(∃a,v=.slice a 0 (some 0)∧L=[])∨∃i,v=.slice (some (i,0)) L.length none∧lo≤i∧i<s.next∧BD s i (ivs L)
theorem CC.len{lo:Nat}{s:ASt}{v:AV}{L:List Int}(h:CC lo s v L):Ao Try.prog s 23 v=some (iv (L.length:Int)):=by
  rcases h with⟨a,rfl,rfl⟩ | ⟨i,rfl,_⟩
  · exact AZ Try.underlying23
  · exact AZ Try.underlying23
set_option maxRecDepth 8000 in
theorem Ps{E:Env}(hE:An E){lo i n:Nat}(hlo:lo≤i)(hn:n≤1000){Q:A6→Prop}:
    ∀ (R q : List Int) (s : ASt) (m : Nat) (x4 x5 x6 : AV), q.length = m → n = q.length + R.length → BD    s i (ivs (q.reverse ++ R)) →
      (∀s' y3 y4 y5 y6,BD s' i (ivs (R.foldl (fun q x=>El x q) q).reverse)→s'.next=s.next→(∀z,z≠i→s'.heap.get z=s.heap.get z)→Q ⟨.exit 0,[.slice (some (i,0)) n none,iv 0,iv (n:Int),y3,y4,y5,y6],[],s'⟩) →
      WC E none (.loop Fx) Q [.slice (some (i,0)) n none,iv 0,iv (n:Int),iv (m:Int),x4,x5,x6] [] s:=by
  intro R
  induction R with
  | nil =>
    intro q s m x4 x5 x6 hm hq hr hk
    subst hm
    have hlt:decide (((q.length:Nat):Int)<(n:Int))=false:=decide_eq_false (by simp at hq;omega)
    refine WC.loop' ?_
    simp only[Fx,Hg,hlt,Qa,Qb,Qc,Qd,Qe,Qf,Qg,Qh,Qi,Qj,Qk,Ql,Qm,Qn,true_and,and_true,Qo,Qp,Qq,Qr,Qs,Qt,Qu,Qv,Qw,Qx,Qy,Qz,Ra,Rb,Rc,Rd,Re,Rf,Rg,Rh,Ri,Rj,Rk,Rl,Rm,Ya,Yb,Yc,Rn,Ro,Rp,Yd,Ye,Rq,Rs,Rt,Ru,Rv,Rw,Rx]
    exact hk s _ _ _ _ (by simpa using hr) rfl fun _ _=>rfl
  | cons x T ih =>
    intro q s m x4 x5 x6 hm hq hr hk
    subst hm
    have hR:(x::T).length=T.length+1:=rfl
    rw[hR]at hq
    have hlt:decide (((q.length:Nat):Int)<(n:Int))=true:=decide_eq_true (by omega)
    have e3:=Aq Try.prog 3 ((q.length:Nat):Int) 1 ⟨by omega,by omega⟩
    have hcast:(((q.length:Nat):Int)+1)=((q.length+1:Nat):Int):=by omega
    refine WC.loop' ?_
    generalize hW:WC E none (AX.loop Fx) Q=W
    simp only[Fx,Hg,Wp,hlt,Qa,Qb,Qc,Qd,Qe,Qf,Qg,Qh,Qi,Qj,Qk,Ql,Qm,Qn,true_and,and_true,Qo,Qp,Qq,Qr,Qs,Qt,Qu,Qv,Qw,Qx,Qy,Qz,Ra,Rb,Rc,Rd,Re,Rf,Rg,Rh,Ri,Rj,Rk,Rl,Rm,Ya,Yb,Yc,Rn,Ro,Rp,Yd,Ye,Rq,Rs,Rt,Ru,Rv,Rw,Rx]
    refine dQ hE hlo hn x q T s _ _ (by omega) (by omega) hr ?_
    intro s' y4 y6 g1 g2 g3
    simp only[Ws,e3,hcast,if_true,Qa,Qb,Qc,Qd,Qe,Qf,Qg,Qh,Qi,Qj,Qk,Ql,Qm,Qn,true_and,and_true,Qo,Qp,Qq,Qr,Qs,Qt,Qu,Qv,Qw,Qx,Qy,Qz,Ra,Rb,Rc,Rd,Re,Rf,Rg,Rh,Ri,Rj,Rk,Rl,Rm,Ya,Yb,Yc,Rn,Ro,Rp,Yd,Ye,Rq,Rs,Rt,Ru,Rv,Rw,Rx]
    rw[← hW]
    refine ih (El x q) s' (q.length+1) _ _ _ (Gb x q) (by rw[Gb];omega) g1 ?_
    intro s2 y3 y4' y5 y6' h1 h2 h3
    exact hk s2 y3 y4' y5 y6' h1 (by omega) fun z hz=>(h3 z hz).trans (g3 z hz)
theorem dO      {E : Env} (hE : An   E) {lo : Nat} {s : ASt} {v : AV} {L : List Int} (h : CC     lo s v L) (hL : L.length ≤ 12) :
    WF E 117 [v,iv 0,iv (L.length:Int)] (fun r s'=>CC lo s' v (CV L)∧Old lo s s'∧s'.next=s.next) s:=by
  refine hE.go Tm (by decide) rfl ?_
  have e3:=Aq Try.prog 3 0 1 ⟨by omega,by omega⟩
  have e4:(0:Int)+1=1:=rfl
  rcases h with⟨a,rfl,rfl⟩ | ⟨i,rfl,h1,h2,h3⟩
  · simp only[Wo,Kd,e3,e4,pH,show((0:Nat):Int)=0 from rfl,Qa,Qb,Qc,Qd,Qe,Qf,Qg,Qh,Qi,Qj,Qk,Ql,Qm,Qn,true_and,and_true,Qo,Qp,Qq,Qr,Qs,Qt,Qu,Qv,Qw,Qx,Qy,Qz,Ra,Rb,Rc,Rd,Re,Rf,Rg,Rh,Ri,Rj,Rk,Rl,Rm,Ya,Yb,Yc,Rn,Ro,Rp,Yd,Ye,Rq,Rs,Rt,Ru,Rv,Rw,Rx]
    refine WC.loop' ?_
    simp only[Fx,Hg,show decide ((1:Int)<0)=false from rfl,if_true,Qa,Qb,Qc,Qd,Qe,Qf,Qg,Qh,Qi,Qj,Qk,Ql,Qm,Qn,true_and,and_true,Qo,Qp,Qq,Qr,Qs,Qt,Qu,Qv,Qw,Qx,Qy,Qz,Ra,Rb,Rc,Rd,Re,Rf,Rg,Rh,Ri,Rj,Rk,Rl,Rm,Ya,Yb,Yc,Rn,Ro,Rp,Yd,Ye,Rq,Rs,Rt,Ru,Rv,Rw,Rx]
    exact⟨.inl ⟨a,rfl,rfl⟩,Old.refl _ _⟩
  · simp only[Wo,Kd,e3,e4,Qa,Qb,Qc,Qd,Qe,Qf,Qg,Qh,Qi,Qj,Qk,Ql,Qm,Qn,true_and,and_true,Qo,Qp,Qq,Qr,Qs,Qt,Qu,Qv,Qw,Qx,Qy,Qz,Ra,Rb,Rc,Rd,Re,Rf,Rg,Rh,Ri,Rj,Rk,Rl,Rm,Ya,Yb,Yc,Rn,Ro,Rp,Yd,Ye,Rq,Rs,Rt,Ru,Rv,Rw,Rx]
    cases L with
    | nil =>
      refine WC.loop' ?_
      simp only[Fx,Hg,pH,show((0:Nat):Int)=0 from rfl,show decide ((1:Int)<0)=false from rfl,if_true,Qa,Qb,Qc,Qd,Qe,Qf,Qg,Qh,Qi,Qj,Qk,Ql,Qm,Qn,true_and,and_true,Qo,Qp,Qq,Qr,Qs,Qt,Qu,Qv,Qw,Qx,Qy,Qz,Ra,Rb,Rc,Rd,Re,Rf,Rg,Rh,Ri,Rj,Rk,Rl,Rm,Ya,Yb,Yc,Rn,Ro,Rp,Yd,Ye,Rq,Rs,Rt,Ru,Rv,Rw,Rx]
      exact⟨.inr ⟨i,rfl,h1,h2,h3⟩,Old.refl _ _⟩
    | cons x T =>
      refine Ps hE h1 (n:=(x::T).length) (by omega) T [x] s 1 _ _ _ rfl (by simp;omega) h3 ?_
      intro s' y3 y4 y5 y6 g1 g2 g3
      simp only[if_true,Qa,Qb,Qc,Qd,Qe,Qf,Qg,Qh,Qi,Qj,Qk,Ql,Qm,Qn,true_and,and_true,Qo,Qp,Qq,Qr,Qs,Qt,Qu,Qv,Qw,Qx,Qy,Qz,Ra,Rb,Rc,Rd,Re,Rf,Rg,Rh,Ri,Rj,Rk,Rl,Rm,Ya,Yb,Yc,Rn,Ro,Rp,Yd,Ye,Rq,Rs,Rt,Ru,Rv,Rw,Rx]
      have hl:(CV (x::T)).length=(x::T).length:=by
        have:∀ (R q:List Int),(R.foldl (fun q x=>El x q) q).length=q.length+R.length:=by
          intro R
          induction R with
          | nil=>intro q;rfl
          | cons y R ih=>intro q;simp only[pE,ih,Gb,oZ];omega
        unfold CV
        rw[List.length_reverse,this];simp
      refine⟨.inr ⟨i,by rw[hl],h1,by omega,g1⟩,⟨by omega,fun z hz=>g3 z (by omega)⟩,g2⟩
set_option maxRecDepth 8000 in
theorem dN{E:Env}(hE:An E){lo:Nat}{s:ASt}{v:AV}{L:List Int}(h:CC lo s v L)(hL:L.length≤12)(m:Int):
    WF E 108 [v,iv 0,iv (L.length:Int),iv m] (fun r s'=>CC lo s' v (CV L)∧Old lo s s'∧s'.next=s.next) s:=by
  refine hE.go Tl (by decide) rfl ?_
  have e3:=CD Try.prog 3 (L.length:Int) 0 ⟨by omega,by omega⟩
  have e4:(L.length:Int) - 0=(L.length:Int):=by omega
  have e5:decide ((L.length:Int)≤12)=true:=decide_eq_true (by omega)
  simp only[jN,QH,QI,Qa,Qb,Qc,Qd,Qe,Qf,Qg,Qh,Qi,Qj,Qk,Ql,Qm,Qn,true_and,and_true,Qo,Qp,Qq,Qr,Qs,Qt,Qu,Qv,Qw,Qx,Qy,Qz,Ra,Rb,Rc,Rd,Re,Rf,Rg,Rh,Ri,Rj,Rk,Rl,Rm,Ya,Yb,Yc,Rn,Ro,Rp,Yd,Ye,Rq,Rs,Rt,Ru,Rv,Rw,Rx]
  refine WC.loop' ?_
  generalize WC E none (AX.loop IB) _=W
  simp only[IB,QJ,QK,QL,e3,e4,e5,Qa,Qb,Qc,Qd,Qe,Qf,Qg,Qh,Qi,Qj,Qk,Ql,Qm,Qn,true_and,and_true,Qo,Qp,Qq,Qr,Qs,Qt,Qu,Qv,Qw,Qx,Qy,Qz,Ra,Rb,Rc,Rd,Re,Rf,Rg,Rh,Ri,Rj,Rk,Rl,Rm,Ya,Yb,Yc,Rn,Ro,Rp,Yd,Ye,Rq,Rs,Rt,Ru,Rv,Rw,Rx]
  refine(dO hE h hL).mono ?_
  rintro r s' h'
  simp only[Qa,Qb,Qc,Qd,Qe,Qf,Qg,Qh,Qi,Qj,Qk,Ql,Qm,Qn,true_and,and_true,Qo,Qp,Qq,Qr,Qs,Qt,Qu,Qv,Qw,Qx,Qy,Qz,Ra,Rb,Rc,Rd,Re,Rf,Rg,Rh,Ri,Rj,Rk,Rl,Rm,Ya,Yb,Yc,Rn,Ro,Rp,Yd,Ye,Rq,Rs,Rt,Ru,Rv,Rw,Rx]
  exact h'
theorem O3{s:ASt}{n:Nat}(h:n≤12):Cj Try.prog s 3 133 (iv (n:Int))=some (.int .u64 (n:Int)):=by
  simp[Cj,Try.underlying3,Try.underlying133,L7 (lN (n:=n) ⟨by omega,by omega⟩)]
theorem dR{E:Env}(hE:An E){lo:Nat}{s:ASt}{v:AV}{L:List Int}(h:CC lo s v L)(hL:L.length≤12):
    WF E 87 [v] (fun r s'=>CC lo s' v (CV L)∧Old lo s s'∧s'.next=s.next) s:=by
  refine hE.go ZE (by decide) rfl ?_
  simp only[c87,Ym,Yn,h.len,O3 hL,Qa,Qb,Qc,Qd,Qe,Qf,Qg,Qh,Qi,Qj,Qk,Ql,Qm,Qn,true_and,and_true,Qo,Qp,Qq,Qr,Qs,Qt,Qu,Qv,Qw,Qx,Qy,Qz,Ra,Rb,Rc,Rd,Re,Rf,Rg,Rh,Ri,Rj,Rk,Rl,Rm,Ya,Yb,Yc,Rn,Ro,Rp,Yd,Ye,Rq,Rs,Rt,Ru,Rv,Rw,Rx]
  refine(Zi hE L.length hL).mono ?_
  rintro _ _ ⟨⟨m,rfl⟩,rfl⟩
  simp only[Qa,Qb,Qc,Qd,Qe,Qf,Qg,Qh,Qi,Qj,Qk,Ql,Qm,Qn,true_and,and_true,Qo,Qp,Qq,Qr,Qs,Qt,Qu,Qv,Qw,Qx,Qy,Qz,Ra,Rb,Rc,Rd,Re,Rf,Rg,Rh,Ri,Rj,Rk,Rl,Rm,Ya,Yb,Yc,Rn,Ro,Rp,Yd,Ye,Rq,Rs,Rt,Ru,Rv,Rw,Rx]
  refine(dN hE h hL m).mono ?_
  rintro r s' h'
  simp only[Qa,Qb,Qc,Qd,Qe,Qf,Qg,Qh,Qi,Qj,Qk,Ql,Qm,Qn,true_and,and_true,Qo,Qp,Qq,Qr,Qs,Qt,Qu,Qv,Qw,Qx,Qy,Qz,Ra,Rb,Rc,Rd,Re,Rf,Rg,Rh,Ri,Rj,Rk,Rl,Rm,Ya,Yb,Yc,Rn,Ro,Rp,Yd,Ye,Rq,Rs,Rt,Ru,Rv,Rw,Rx]
  exact h'
theorem BD.loadAt{s:ASt}{i k a:Nat}{cs:List AV}{u:AV}(h:BD s i cs)(hk:cs[k]? = some u)(ha:a=k):AD Try.prog s 3 (.ptr (some (i,a)))=some u:=by
  subst ha;exact A7 ag3 (h.load1 hk)
theorem aH{s:ASt}{i n k:Nat}{cs:List AV}(h:BD s i cs)(hn:n≤cs.length)(hk:k≤n):AW Try.prog 23 true false false s [.slice (some (i,0)) n none,iv (k:Int)]=some (.slice (some (i,0+k * 1)) (n - k) none):=by
  obtain⟨r,h1,h2,h3,h4,h5⟩:=h
  have hb:At (iv (k:Int)) n=some k:=by simp[At,Cu,BX,AF,A1 hk]
  show Ap Try.prog s 23 (.slice (some (i,0)) n none) (some (iv (k:Int))) none none=_
  simp[Ap,Try.underlying23,sz3,BA,h1,h5,AF,hb,A1 (oK r.n),show Nat.beq 1 0=false from rfl]
theorem lV{s:ASt}{i n k:Nat}{cs:List AV}(h:BD s i cs)(hk:k≤cs.length):AW Try.prog 23 false true false s [.slice (some (i,0)) n none,iv (k:Int)]=some (.slice (some (i,0)) k none):=by
  obtain⟨r,h1,h2,h3,h4,h5⟩:=h
  have hb:At (iv (k:Int)) r.n=some k:=by simp[At,Cu,BX,AF,h2.1,A1 hk]
  show Ap Try.prog s 23 (.slice (some (i,0)) n none) none (some (iv (k:Int))) none=_
  simp[Ap,Try.underlying23,sz3,BA,h1,h5,AF,hb,A1 (oK r.n),show Nat.beq 1 0=false from rfl]
theorem Z9(m:Nat):rep (AV.cells (.int .i64 0)) m=ivs (List.replicate m 0):=by
  induction m with
  | zero=>rfl
  | succ m ih=>show iv 0::rep _ m=_;rw[ih];rfl
theorem VI        {s : ASt} {i m k : Nat} {A B : List AV} (h : BD    s i (A ++ B)) (hA : A.length = k) (hB : B.length = m) :
    ∃s' Z,Ez Try.prog s [23] [.slice (some (i,0+k * 1)) m none]=some (Au,s')∧Z.length=m∧BD s' i (A++Z)∧s'.next=s.next∧∀x,x≠i→s'.heap.get x=s.heap.get x:=by
  subst hA;subst hB
  cases B with
  | nil=>exact⟨s,[],by simp[Ez,Try.underlying23],rfl,h,rfl,fun _ _=>rfl⟩
  | cons b B =>
    obtain⟨s',g1,g2,g3,g4⟩:=h.fill (o:=A.length) (vs:=ivs (List.replicate (B.length+1) 0)) (by simp[List.replicate_succ]) (by simp) (Ma _)
    refine⟨s',ivs (List.replicate (B.length+1) 0),?_,by simp,?_,g3,g4⟩
    · have hz:B9 Try.prog 3=some (.int .i64 0):=zr3
      simp only[Ez,Try.underlying23,oZ,hz,Option.bind_some,Z9,oN,oV,g1]
    · have e:(A++b::B).take A.length++ivs (List.replicate (B.length+1) 0)++(A++b::B).drop (A.length+(ivs (List.replicate (B.length+1) 0)).length)=A++ivs (List.replicate (B.length+1) 0):=by
        rw[List.take_left' rfl,po (by simp)];simp
      rw[e]at g2
      exact g2
def dd(p:Int):List Int→List Int
  | []=>[]
  | x::r=>if x=p then dd p r else x::dd x r
def Dw:List Int→List Int
  | []=>[]
  | x::r=>x::dd x r
set_option maxRecDepth 8000 in
theorem cQ      {E : Env} (hE : An   E) {lo i n k0 : Nat} (hlo : lo ≤ i) (hn : n ≤ 1000) (hk0 : 0 < k0) {Q : A6   → Prop} (x1 x5 x6 x7 : AV) :
    ∀ (S W G : List Int) (p : Int) (s : ASt) (k2 : Nat) (x8 x9 : AV), 0 < k2 → k0 + k2 = W.length + G.length + 1 → n = W.length + G.length + 1 + S.length → k0 ≤ n → BD    s i (ivs (W ++ (G ++ p :: S))) →
      (∀s' W' G' y4 y8 y9,W'=W++dd p S→W'.length+G'.length=n→BD s' i (ivs (W'++G'))→s'.next=s.next→(∀z,z≠i→s'.heap.get z=s.heap.get z)→Q ⟨.exit 2,[.slice (some (i,0)) n none,x1,iv (W'.length:Int),.slice (some (i,0+k0 * 1)) (n - k0) none,y4,x5,x6,x7,y8,y9],[],s'⟩) →
      WC E none (.loop I8) Q [.slice (some (i,0)) n none,x1,iv (W.length:Int),.slice (some (i,0+k0 * 1)) (n - k0) none,iv (k2:Int),x5,x6,x7,x8,x9] [] s:=by
  intro S
  induction S with
  | nil =>
    intro W G p s k2 x8 x9 hk2 hk hnn hkn hr hq
    have hlt:decide (((k2:Nat):Int)<((n - k0:Nat):Int))=false:=decide_eq_false (by simp at hnn;omega)
    refine WC.loop' ?_
    simp only[I8,Tg,AZ Try.underlying23,hlt,Qa,Qb,Qc,Qd,Qe,Qf,Qg,Qh,Qi,Qj,Qk,Ql,Qm,Qn,true_and,and_true,Qo,Qp,Qq,Qr,Qs,Qt,Qu,Qv,Qw,Qx,Qy,Qz,Ra,Rb,Rc,Rd,Re,Rf,Rg,Rh,Ri,Rj,Rk,Rl,Rm,Ya,Yb,Yc,Rn,Ro,Rp,Yd,Ye,Rq,Rs,Rt,Ru,Rv,Rw,Rx]
    exact hq s W (G++[p]) _ _ _ (by simp[dd]) (by simp at hnn ⊢;omega) hr rfl fun _ _=>rfl
  | cons x T ih =>
    intro W G p s k2 x8 x9 hk2 hk hnn hkn hr hq
    have hS:(x::T).length=T.length+1:=rfl
    rw[hS]at hnn
    have hlt:decide (((k2:Nat):Int)<((n - k0:Nat):Int))=true:=decide_eq_true (by omega)
    have a1:AC Try.prog 23 (.slice (some (i,0+k0 * 1)) (n - k0) none) (iv (k2:Int))=some (.ptr (some (i,0+k0 * 1+k2 * 1))):=Aw Try.underlying23 sz3 (by omega)
    have hs:=CD Try.prog 3 (k2:Int) 1 ⟨by omega,by omega⟩
    have hs1:((k2:Int) - 1)=((k2 - 1:Nat):Int):=by omega
    rw[hs1]at hs
    have a0:AC Try.prog 23 (.slice (some (i,0+k0 * 1)) (n - k0) none) (iv ((k2 - 1:Nat):Int))=some (.ptr (some (i,0+k0 * 1+(k2 - 1) * 1))):=Aw Try.underlying23 sz3 (by omega)
    have aw:AC Try.prog 23 (.slice (some (i,0)) n none) (iv (W.length:Int))=some (.ptr (some (i,0+W.length * 1))):=Aw Try.underlying23 sz3 (by omega)
    have c1:ivs (W++(G++p::x::T))=ivs (W++G++[p])++iv x::ivs T:=by simp
    have c0:ivs (W++(G++p::x::T))=ivs (W++G)++iv p::ivs (x::T):=by simp
    have l1:AD Try.prog s 3 (.ptr (some (i,0+k0 * 1+k2 * 1)))=some (iv x):=hr.loadAt (k:=W.length+G.length+1) (by rw[c1];exact FK (by simp;omega)) (by omega)
    have l0:AD Try.prog s 3 (.ptr (some (i,0+k0 * 1+(k2 - 1) * 1)))=some (iv p):=hr.loadAt (k:=W.length+G.length) (by rw[c0];exact FK (by simp)) (by omega)
    have e3:=Aq Try.prog 3 (k2:Int) 1 ⟨by omega,by omega⟩
    have e3':((k2:Int)+1)=((k2+1:Nat):Int):=by omega
    have e4:=Aq Try.prog 3 (W.length:Int) 1 ⟨by omega,by omega⟩
    have e4':((W.length:Int)+1)=((W.length+1:Nat):Int):=by omega
    refine WC.loop' ?_
    generalize hW:WC E none (AX.loop I8) Q=WW
    by_cases h:x=p
    · subst h
      simp only[I8,Tg,Yt,Ry,AZ Try.underlying23,hlt,a1,a0,l1,hs,l0,e3,e3',ne_eq,not_true,decide_false,Qa,Qb,Qc,Qd,Qe,Qf,Qg,Qh,Qi,Qj,Qk,Ql,Qm,Qn,true_and,and_true,Qo,Qp,Qq,Qr,Qs,Qt,Qu,Qv,Qw,Qx,Qy,Qz,Ra,Rb,Rc,Rd,Re,Rf,Rg,Rh,Ri,Rj,Rk,Rl,Rm,Ya,Yb,Yc,Rn,Ro,Rp,Yd,Ye,Rq,Rs,Rt,Ru,Rv,Rw,Rx]
      rw[← hW]
      have hc:W++(G++x::x::T)=W++((G++[x])++x::T):=by simp
      rw[hc]at hr
      refine ih W (G++[x]) x s (k2+1) _ _ (by omega) (by simp;omega) (by simp;omega) hkn hr ?_
      intro s' W' G' y4 y8 y9 f1 f2 f3 f4 f5
      exact hq s' W' G' y4 y8 y9 (by rw[f1];simp[dd]) f2 f3 f4 f5
    · have hd:dd p (x::T)=x::dd x T:=by simp[dd,h]
      obtain⟨g0,tl,htl,hG⟩:∃g0 tl,G++p::x::T=g0::tl∧∃G1,tl=G1++x::T∧G1.length=G.length:=by
        cases G with
        | nil=>exact⟨p,x::T,rfl,[],rfl,rfl⟩
        | cons g G=>exact⟨g,G++p::x::T,rfl,G++[p],by simp,by simp⟩
      obtain⟨G1,rfl,hG1⟩:=hG
      have cw:ivs (W++(G++p::x::T))=ivs W++iv g0::ivs (G1++x::T):=by rw[htl];simp
      have hr2:=hr
      rw[cw]at hr2
      obtain⟨s1,g1,g2,g3,g4⟩:=hr2.store (k:=W.length) (u:=iv x) (by simp) rfl rfl
      simp only[I8,Tg,Yt,Yo,Yp,Ry,AZ Try.underlying23,hlt,a1,a0,aw,l1,hs,l0,e3,e3',e4,e4',h,ne_eq,not_false_eq_true,decide_true,on2,g1,AT,Qa,Qb,Qc,Qd,Qe,Qf,Qg,Qh,Qi,Qj,Qk,Ql,Qm,Qn,true_and,and_true,Qo,Qp,Qq,Qr,Qs,Qt,Qu,Qv,Qw,Qx,Qy,Qz,Ra,Rb,Rc,Rd,Re,Rf,Rg,Rh,Ri,Rj,Rk,Rl,Rm,Ya,Yb,Yc,Rn,Ro,Rp,Yd,Ye,Rq,Rs,Rt,Ru,Rv,Rw,Rx]
      rw[← hW]
      have hr3:BD s1 i (ivs ((W++[x])++(G1++x::T))):=by
        have:ivs ((W++[x])++(G1++x::T))=ivs W++iv x::ivs (G1++x::T):=by simp
        rw[this];exact g2
      have hwl:(W++[x]).length=W.length+1:=by simp
      have:=ih (W++[x]) G1 x s1 (k2+1) (.bool true) (.bool true) (by omega) (by rw[hwl];omega) (by rw[hwl];omega) hkn hr3 ?_
      · rw[hwl]at this
        exact this
      · intro s' W' G' y4 y8 y9 f1 f2 f3 f4 f5
        exact hq s' W' G' y4 y8 y9 (by rw[f1,hd];simp) f2 f3 (by omega) fun z hz=>(f5 z hz).trans (g4 z hz)
set_option maxRecDepth 8000 in
theorem O1       {E : Env} (hE : An   E) {lo i n : Nat} (hlo : lo ≤ i) (hn : n ≤ 1000) {Q : A6   → Prop} (x1 x5 : AV) :
    ∀ (R A : List Int) (y : Int) (s : ASt) (x3 x4 x6 x7 x8 x9 : AV), n = A.length + 1 + R.length → BD    s i (ivs (A ++ y :: R)) →
      (∀e s' W' (G':List AV) y1 y2 y3 y4 y6 y7 y8 y9,(e=.ret∧y1=.slice (some (i,0)) W'.length none∨e=.exit 0∧y1=x1∧W'.length=n)→W'=A++y::dd y R→BD s' i (ivs W'++G')→s'.next=s.next→(∀z,z≠i→s'.heap.get z=s.heap.get z) →
        Q ⟨e,[.slice (some (i,0)) n none,y1,y2,y3,y4,x5,y6,y7,y8,y9],[],s'⟩) →
      WC E none (.loop I9) Q [.slice (some (i,0)) n none,x1,iv ((A.length+1:Nat):Int),x3,x4,x5,x6,x7,x8,x9] [] s:=by
  intro R
  induction R with
  | nil =>
    intro A y s x3 x4 x6 x7 x8 x9 hnn hr hq
    have hlt:decide (((A.length+1:Nat):Int)<(n:Int))=false:=decide_eq_false (by simp at hnn;omega)
    refine WC.loop' ?_
    simp only[I9,Tf,AZ Try.underlying23,hlt,Qa,Qb,Qc,Qd,Qe,Qf,Qg,Qh,Qi,Qj,Qk,Ql,Qm,Qn,true_and,and_true,Qo,Qp,Qq,Qr,Qs,Qt,Qu,Qv,Qw,Qx,Qy,Qz,Ra,Rb,Rc,Rd,Re,Rf,Rg,Rh,Ri,Rj,Rk,Rl,Rm,Ya,Yb,Yc,Rn,Ro,Rp,Yd,Ye,Rq,Rs,Rt,Ru,Rv,Rw,Rx]
    exact hq _ s (A++[y]) [] _ _ _ _ _ _ _ _ (.inr ⟨rfl,rfl,by simp at hnn ⊢;omega⟩) (by simp[dd]) (by simpa using hr) rfl fun _ _=>rfl
  | cons x T ih =>
    intro A y s x3 x4 x6 x7 x8 x9 hnn hr hq
    have hS:(x::T).length=T.length+1:=rfl
    rw[hS]at hnn
    have hlt:decide (((A.length+1:Nat):Int)<(n:Int))=true:=decide_eq_true (by omega)
    have a1:AC Try.prog 23 (.slice (some (i,0)) n none) (iv ((A.length+1:Nat):Int))=some (.ptr (some (i,0+(A.length+1) * 1))):=Aw Try.underlying23 sz3 (by omega)
    have hs:=CD Try.prog 3 ((A.length+1:Nat):Int) 1 ⟨by omega,by omega⟩
    have hs1:(((A.length+1:Nat):Int) - 1)=((A.length:Nat):Int):=by omega
    rw[hs1]at hs
    have a0:AC Try.prog 23 (.slice (some (i,0)) n none) (iv ((A.length:Nat):Int))=some (.ptr (some (i,0+A.length * 1))):=Aw Try.underlying23 sz3 (by omega)
    have c1:ivs (A++y::x::T)=ivs (A++[y])++iv x::ivs T:=by simp
    have c0:ivs (A++y::x::T)=ivs A++iv y::ivs (x::T):=by simp
    have l1:AD Try.prog s 3 (.ptr (some (i,0+(A.length+1) * 1)))=some (iv x):=hr.loadAt (k:=A.length+1) (by rw[c1];exact FK (by simp)) (by omega)
    have l0:AD Try.prog s 3 (.ptr (some (i,0+A.length * 1)))=some (iv y):=hr.loadAt (k:=A.length) (by rw[c0];exact FK (by simp)) (by omega)
    have e3:=Aq Try.prog 3 ((A.length+1:Nat):Int) 1 ⟨by omega,by omega⟩
    have e3':(((A.length+1:Nat):Int)+1)=((A.length+2:Nat):Int):=by omega
    refine WC.loop' ?_
    generalize hW:WC E none (AX.loop I9) Q=WW
    by_cases h:x=y
    · subst h
      have hlen:(ivs (A++x::x::T)).length=n:=by simp;omega
      have s1:=aH (n:=n) (k:=A.length+1) hr (by omega) (by omega)
      simp only[I9,Tf,Ys,iS,iT,AZ Try.underlying23,hlt,a1,a0,l1,hs,l0,s1,decide_true,Qa,Qb,Qc,Qd,Qe,Qf,Qg,Qh,Qi,Qj,Qk,Ql,Qm,Qn,true_and,and_true,Qo,Qp,Qq,Qr,Qs,Qt,Qu,Qv,Qw,Qx,Qy,Qz,Ra,Rb,Rc,Rd,Re,Rf,Rg,Rh,Ri,Rj,Rk,Rl,Rm,Ya,Yb,Yc,Rn,Ro,Rp,Yd,Ye,Rq,Rs,Rt,Ru,Rv,Rw,Rx]
      have hc:A++x::x::T=(A++[x])++([]++x::T):=by simp
      rw[hc]at hr
      have hwl:(A++[x]).length=A.length+1:=by simp
      have:=cQ hE (n:=n) (k0:=A.length+1) hlo hn (by omega) (Q:=DM 2 (HM (Qa E none (.seq (.ops Rz) (.seq (.ops R0) .ret)) (DM 1 (HM (Qa E none (.ops Ng) (HM WW Q)) (HM WW Q)))) (DM 1 (HM (Qa E none (.ops Ng) (HM WW Q)) (HM WW Q))))) x1 x5 (.bool true) (.bool true) T (A++[x]) [] x s 1 x8 x9 (by omega) (by rw[hwl];simp) (by rw[hwl];simp;omega) (by omega) hr ?_
      · rw[hwl]at this
        simp only[Qa,Qb,Qc,Qd,Qe,Qf,Qg,Qh,Qi,Qj,Qk,Ql,Qm,Qn,true_and,and_true,Qo,Qp,Qq,Qr,Qs,Qt,Qu,Qv,Qw,Qx,Qy,Qz,Ra,Rb,Rc,Rd,Re,Rf,Rg,Rh,Ri,Rj,Rk,Rl,Rm,Ya,Yb,Yc,Rn,Ro,Rp,Yd,Ye,Rq,Rs,Rt,Ru,Rv,Rw,Rx]at this
        exact this
      · intro s' W' G' y4 y8 y9 f1 f2 f3 f4 f5
        have hlen':(ivs (W'++G')).length=n:=by simp;omega
        have t1:=aH (n:=n) (k:=W'.length) f3 (by omega) (by omega)
        rw[SS]at f3
        obtain⟨s2,Z,g1,g2,g3,g4,g5⟩:=VI f3 (k:=W'.length) (m:=n - W'.length) (by simp) (by simp;omega)
        have t2:=lV (n:=n) (k:=W'.length) g3 (by simp)
        simp only[Rz,R0,t1,g1,t2,if_true,Qa,Qb,Qc,Qd,Qe,Qf,Qg,Qh,Qi,Qj,Qk,Ql,Qm,Qn,true_and,and_true,Qo,Qp,Qq,Qr,Qs,Qt,Qu,Qv,Qw,Qx,Qy,Qz,Ra,Rb,Rc,Rd,Re,Rf,Rg,Rh,Ri,Rj,Rk,Rl,Rm,Ya,Yb,Yc,Rn,Ro,Rp,Yd,Ye,Rq,Rs,Rt,Ru,Rv,Rw,Rx]
        have hd:dd x (x::T)=dd x T:=by simp[dd]
        exact hq _ s2 W' Z _ _ _ _ _ _ _ _ (.inl ⟨rfl,rfl⟩) (by rw[f1,hd];simp) g3 (by omega) fun z hz=>(g5 z hz).trans (f5 z hz)
    · simp only[I9,Tf,Ys,Ng,AZ Try.underlying23,hlt,a1,a0,l1,hs,l0,e3,e3',h,decide_false,Qa,Qb,Qc,Qd,Qe,Qf,Qg,Qh,Qi,Qj,Qk,Ql,Qm,Qn,true_and,and_true,Qo,Qp,Qq,Qr,Qs,Qt,Qu,Qv,Qw,Qx,Qy,Qz,Ra,Rb,Rc,Rd,Re,Rf,Rg,Rh,Ri,Rj,Rk,Rl,Rm,Ya,Yb,Yc,Rn,Ro,Rp,Yd,Ye,Rq,Rs,Rt,Ru,Rv,Rw,Rx]
      rw[← hW]
      have hwl:(A++[y]).length=A.length+1:=by simp
      have hc:A++y::x::T=(A++[y])++x::T:=by simp
      rw[hc]at hr
      have:=ih (A++[y]) x s x3 x4 (.bool true) (.bool false) x8 x9 (by rw[hwl];omega) hr ?_
      · rw[hwl]at this
        exact this
      · intro e s' W' G' y1 y2 y3 y4 y6 y7 y8 y9 f1 f2 f3 f4 f5
        exact hq e s' W' G' y1 y2 y3 y4 y6 y7 y8 y9 f1 (by rw[f2];simp[dd,h]) f3 f4 f5
theorem cR      {E : Env} (hE : An   E) {lo : Nat} {s : ASt} {v : AV} {L : List Int} (h : CC     lo s v L) (hL : L.length ≤ 1000) :
    WF E 88 [v] (fun r s'=>AM s'.next s' r (ivs (Dw L))∧(∀j,CU r=some j→lo≤j∨CU v=some j)∧Old lo s s'∧s'.next=s.next∧eqA r r=true) s:=by
  refine hE.go ZF (by decide) rfl ?_
  have fin:∀ {s':ASt} {i:Nat} {W:List Int} {G:List AV},BD s' i (ivs W++G)→i<s'.next→AM s'.next s' (.slice (some (i,0)) W.length none) (ivs W):=by
    intro s' i W G hr hi
    refine⟨some (i,0),none,by simp,fun k u hk=>⟨i,0,rfl,hi,?_⟩⟩
    rw[oN]
    exact hr.load1 (by rw[oR (Ab hk)];exact hk)
  by_cases hlt:L.length<2
  · have hd : decide ((L.length : Int) < 2) = true := decide_eq_true (by omega)
    have hc:Dw L=L:=by
      cases L with
      | nil=>rfl
      | cons x r=>cases r with
        | nil=>rfl
        | cons y r=>simp at hlt;omega
    simp only[c88,Oq,Ot,Yq,h.len,hd,Qa,Qb,Qc,Qd,Qe,Qf,Qg,Qh,Qi,Qj,Qk,Ql,Qm,Qn,true_and,and_true,Qo,Qp,Qq,Qr,Qs,Qt,Qu,Qv,Qw,Qx,Qy,Qz,Ra,Rb,Rc,Rd,Re,Rf,Rg,Rh,Ri,Rj,Rk,Rl,Rm,Ya,Yb,Yc,Rn,Ro,Rp,Yd,Ye,Rq,Rs,Rt,Ru,Rv,Rw,Rx]
    rw[hc]
    refine⟨?_,fun j hj=>.inr hj,Old.refl _ _,?_⟩
    rotate_left
    · rcases h with ⟨a, rfl, rfl⟩ | ⟨i, rfl, h1, h2, h3⟩
      · exact G4 fun _=>⟨0,rfl⟩
      · exact G4 fun e=>by cases e
    rcases h with⟨a,rfl,rfl⟩ | ⟨i,rfl,h1,h2,h3⟩
    · exact⟨a,some 0,rfl,fun k u hk=>by simp at hk⟩
    · exact fin (G:=[]) (by simpa using h3) h2
  · have hd:decide ((L.length:Int)<2)=false:=decide_eq_false (by omega)
    rcases h with⟨a,rfl,rfl⟩ | ⟨i,rfl,h1,h2,h3⟩
    · simp at hlt
    cases L with
    | nil=>simp at hlt
    | cons y R =>
      simp only[c88,Oq,Ot,Yr,AZ Try.underlying23,hd,Qa,Qb,Qc,Qd,Qe,Qf,Qg,Qh,Qi,Qj,Qk,Ql,Qm,Qn,true_and,and_true,Qo,Qp,Qq,Qr,Qs,Qt,Qu,Qv,Qw,Qx,Qy,Qz,Ra,Rb,Rc,Rd,Re,Rf,Rg,Rh,Ri,Rj,Rk,Rl,Rm,Ya,Yb,Yc,Rn,Ro,Rp,Yd,Ye,Rq,Rs,Rt,Ru,Rv,Rw,Rx]
      refine O1 hE (n:=(y::R).length) h1 hL (.slice none 0 (some 0)) _ R [] y s _ _ _ _ _ _ (by simp;omega) h3 ?_
      rintro e s' W' G' y1 y2 y3 y4 y6 y7 y8 y9 (⟨rfl,rfl⟩ | ⟨rfl,rfl,hl⟩) f2 f3 f4 f5
      · simp only[Qa,Qb,Qc,Qd,Qe,Qf,Qg,Qh,Qi,Qj,Qk,Ql,Qm,Qn,true_and,and_true,Qo,Qp,Qq,Qr,Qs,Qt,Qu,Qv,Qw,Qx,Qy,Qz,Ra,Rb,Rc,Rd,Re,Rf,Rg,Rh,Ri,Rj,Rk,Rl,Rm,Ya,Yb,Yc,Rn,Ro,Rp,Yd,Ye,Rq,Rs,Rt,Ru,Rv,Rw,Rx]
        rw[show Dw (y::R)=W' from f2.symm]
        exact⟨fin f3 (by omega),fun j hj=>.inr hj,⟨by omega,fun z hz=>f5 z (by omega)⟩,f4,G4 fun e=>by cases e⟩
      · simp only[R3,if_true,Qa,Qb,Qc,Qd,Qe,Qf,Qg,Qh,Qi,Qj,Qk,Ql,Qm,Qn,true_and,and_true,Qo,Qp,Qq,Qr,Qs,Qt,Qu,Qv,Qw,Qx,Qy,Qz,Ra,Rb,Rc,Rd,Re,Rf,Rg,Rh,Ri,Rj,Rk,Rl,Rm,Ya,Yb,Yc,Rn,Ro,Rp,Yd,Ye,Rq,Rs,Rt,Ru,Rv,Rw,Rx]
        rw[show Dw (y::R)=W' from f2.symm,← hl]
        exact⟨fin f3 (by omega),fun j hj=>.inr hj,⟨by omega,fun z hz=>f5 z (by omega)⟩,f4,G4 fun e=>by cases e⟩
end
end Go.Proofs.Ytilhhmkdcoajnaa.Am
