/- What the functions sign, of, set, unit of layer 20 compute; conditions: the numbers fit. -/
import Derived.Test.YtilhhmkdcoajnaaAmDrupCode
import Derived.Test.YtilhhmkdcoajnaaAmEnd
import Derived.KernelRfl
import Derived.ChangeArms
import Derived.DataReads
import Derived.DataElems
import Derived.Test.YtilhhmkdcoajnaaAmData
import Derived.Test.YtilhhmkdcoajnaaAmGrow
set_option linter.unusedVariables false
set_option linter.unusedSimpArgs false
namespace Go.Proofs.Ytilhhmkdcoajnaa.Am
open Go Go.Proofs
noncomputable section
structure Good(E:Env):Prop where
  P:E.P=Try.prog
  nat:∀ (f:FuncId) (xs:List AV) (s:ASt),f≠21→E.nat f xs s=none
theorem Good.go{E:Env}(hE:Good E){f:FuncId}{xs:List AV}{cf:CFunc}{K:AV→ASt→Prop}{s:ASt}(hf:compFunc Try.prog f=some cf)(hne:f≠21)(ha:xs.length=cf.na)(h:Qa E none cf.body (Ends Try.prog cf.results K) (Ql xs cf.nv) [] s):WF E f xs K s:=
  WF.body' (hE.nat f xs s hne) (by rw[hE.P];exact hf) ha (by rw[hE.P];exact h)
def signV(x:Int):Int×Int:=if 0<x then (x,1)else if x<0∧x≠-9223372036854775808 then (-x,-1)else (0,0)
theorem sign_ok {E : Env} (hE : Good E) (x : Int) (s : ASt) (hx : i64 x) : WF E 48 [iv x] (fun v s' => v = .tuple [iv (signV x).1, iv (signV x).2] ∧ s = s') s := by
  obtain⟨hx1,hx2⟩:=hx
  refine hE.go comp48 (by decide) rfl ?_
  unfold signV
  by_cases h1:0<x
  · simp[c48,c48o0,c48o1,c48o2,c48o3,c48o4,c48o5,h1,Qa,Qb,Qc,Qd,Qe,Qf,Qg,Qh,Qi,Qj,Qk,Ql,Qm,Qn,true_and,and_true,Qo,Qp,Qq,Qr,Qs,Qt,Qu,Qv,Qw,Qx,Qy,Qz,Ra,Rb,Rc,Rd,Re,Rf,Rg,Rh,Ri,Rj,Rk,Rl,Rm,Ya,Yb,Yc,Rn,Ro,Rp,Yd,Ye,Rq,Rs,Rt,Ru,Rv,Rw,Rx]
  · by_cases h2 : x < 0
    · by_cases h3 : x = -9223372036854775808
      · subst h3
        simp[c48,c48o0,c48o1,c48o2,c48o3,c48o4,c48o5,un_neg_least,Qa,Qb,Qc,Qd,Qe,Qf,Qg,Qh,Qi,Qj,Qk,Ql,Qm,Qn,true_and,and_true,Qo,Qp,Qq,Qr,Qs,Qt,Qu,Qv,Qw,Qx,Qy,Qz,Ra,Rb,Rc,Rd,Re,Rf,Rg,Rh,Ri,Rj,Rk,Rl,Rm,Ya,Yb,Yc,Rn,Ro,Rp,Yd,Ye,Rq,Rs,Rt,Ru,Rv,Rw,Rx]
      · have h4:0 < -x:=by omega
        simp[c48,c48o0,c48o1,c48o2,c48o3,c48o4,c48o5,h1,h2,h3,h4,un_neg _ x ⟨by omega,by omega⟩,Qa,Qb,Qc,Qd,Qe,Qf,Qg,Qh,Qi,Qj,Qk,Ql,Qm,Qn,true_and,and_true,Qo,Qp,Qq,Qr,Qs,Qt,Qu,Qv,Qw,Qx,Qy,Qz,Ra,Rb,Rc,Rd,Re,Rf,Rg,Rh,Ri,Rj,Rk,Rl,Rm,Ya,Yb,Yc,Rn,Ro,Rp,Yd,Ye,Rq,Rs,Rt,Ru,Rv,Rw,Rx]
    · have:x=0:=by omega
      subst this
      simp[c48,c48o0,c48o1,c48o2,c48o3,c48o4,c48o5,Qa,Qb,Qc,Qd,Qe,Qf,Qg,Qh,Qi,Qj,Qk,Ql,Qm,Qn,true_and,and_true,Qo,Qp,Qq,Qr,Qs,Qt,Qu,Qv,Qw,Qx,Qy,Qz,Ra,Rb,Rc,Rd,Re,Rf,Rg,Rh,Ri,Rj,Rk,Rl,Rm,Ya,Yb,Yc,Rn,Ro,Rp,Yd,Ye,Rq,Rs,Rt,Ru,Rv,Rw,Rx]
theorem signV_range(x:Int)(hx:i64 x):i64 (signV x).1∧((signV x).2=1∨(signV x).2=-1∨(signV x).2=0):=by
  obtain⟨h1,h2⟩:=hx
  unfold signV
  split
  · exact⟨⟨by omega,by omega⟩,.inl rfl⟩
  · split
    · exact⟨⟨by simp only;omega,by simp only;omega⟩,.inr (.inl rfl)⟩
    · exact⟨⟨by decide,by decide⟩,.inr (.inr rfl)⟩
abbrev KMap:=List (Int×Int)
def look(M:KMap)(k:Int):Int:=match M with
  | []=>0
  | (j,v)::l=>if j=k then v else look l k
def putM(M:KMap)(k v:Int):KMap:=match M with
  | []=>[(k,v)]
  | (j,w)::l=>if j=k then (j,v)::l else (j,w)::putM l k v
def Signs(M:KMap):Prop:=∀p∈M,p.2=1∨p.2=-1
inductive EntsOf:KMap→List (AV×AV×Nat)→Prop
  | nil:EntsOf [] []
  | cons {k v:Int} {b:Nat} {M:KMap} {es:List (AV×AV×Nat)} (h:EntsOf M es):EntsOf ((k,v)::M) ((iv k,iv v,b)::es)
def MapAt(s:ASt)(i:Nat)(M:KMap):Prop:=∃es c,s.heap.get i=some (.map es c)∧EntsOf M es
theorem keyEq_iv(a b:Int):keyEq (iv a) (iv b)=some (decide (a=b)):=by
  show some (eqI a b)=_
  rw[eqI_eq];rfl
theorem findA_ents {M : KMap} {es : List (AV × AV × Nat)} (h : EntsOf M es) (k : Int) : ∀ n, (∃ j v b, findA (iv k) es n = some (some (j, iv v, b)) ∧ n ≤ j ∧ look M k = v ∧ (∀ w, EntsOf (putM M k w) (setNth es (j - n) (iv w)))) ∨ (findA (iv k) es n = some none ∧ look M k = 0 ∧ ∀ w c, EntsOf (putM M k w) (es ++ [(iv k, iv w, c)])) := by
  induction h with
  | nil=>intro n;exact .inr ⟨rfl,rfl,fun w c=>.cons .nil⟩
  | cons h ih =>
    rename_i j v b M es
    intro n
    by_cases e:j=k
    · subst e
      left
      refine⟨n,v,b,?_,Nat.le_refl n,by simp[look],fun w=>?_⟩
      · simp only[findA,keyEq_iv,decide_true,Option.bind_some]
      · rw[Nat.sub_self]
        simp only[putM,if_true,setNth]
        exact .cons h
    · have he:findA (iv k) ((iv j,iv v,b)::es) n=findA (iv k) es (n+1):=by
        simp only[findA,keyEq_iv,Option.bind_some]
        rw[show decide (k=j)=false from decide_eq_false (fun q=>e q.symm)]
      rcases ih (n+1)with⟨j',v',b',h1,h2,h3,h4⟩ | ⟨h1,h2,h3⟩
      · left
        refine⟨j',v',b',by rw[he];exact h1,by omega,by simp[look,e,h3],fun w=>?_⟩
        rw[show j' - n=(j' - (n+1))+1 from by omega]
        simp only[putM,if_neg e,setNth]
        exact .cons (h4 w)
      · right
        refine⟨by rw[he];exact h1,by simp[look,e,h2],fun w c=>?_⟩
        simp only[putM,if_neg e,List.cons_append]
        exact .cons (h3 w c)
theorem simpleKey_iv(k:Int):simpleKey Try.prog 3 (iv k)=true:=by
  simp[simpleKey,Try.underlying3,sameKind]
theorem lookup_map{s:ASt}{i:Nat}{M:KMap}(h:MapAt s i M)(k:Int):lookupA Try.prog s 69 (.map (some i)) (iv k) false=some (iv (look M k)):=by
  obtain⟨es,c,h1,h2⟩:=h
  simp only[lookupA,Try.underlying69,simpleKey_iv,guardB,cond_true,h1,Option.bind_some]
  rcases findA_ents h2 k 0 with⟨j,v,b,h3,_,h4,_⟩ | ⟨h3,h4,_⟩
  · rw[h3,h4];rfl
  · rw[h3,h4];simp only[Option.bind_some,zr3];rfl
theorem update_map{s:ASt}{i:Nat}{M:KMap}(h:MapAt s i M)(k v:Int):∃s',updateA Try.prog s 69 (.map (some i)) (iv k) (iv v)=some s'∧MapAt s' i (putM M k v)∧s'.next=s.next∧∀j,j≠i→s'.heap.get j=s.heap.get j:=by
  obtain⟨es,c,h1,h2⟩:=h
  simp only[updateA,Try.underlying69,simpleKey_iv,guardB,cond_true,h1,Option.bind_some]
  rcases findA_ents h2 k 0 with⟨j,u,b,h3,_,_,h4⟩ | ⟨h3,_,h4⟩
  · rw[h3]
    have h5:=h4 v
    rw[Nat.sub_zero]at h5
    exact⟨_,rfl,⟨_,_,by rw[heap_set,if_pos rfl],h5⟩,rfl,fun x hx=>by rw[heap_set,if_neg hx]⟩
  · rw[h3]
    exact⟨_,rfl,⟨_,_,by rw[heap_set,if_pos rfl],h4 v c⟩,rfl,fun x hx=>by rw[heap_set,if_neg hx]⟩
theorem look_signs{M:KMap}(h:Signs M)(k:Int):look M k=1∨look M k=-1∨look M k=0:=by
  induction M with
  | nil=>exact .inr (.inr rfl)
  | cons p M ih =>
    obtain⟨j,v⟩:=p
    simp only[look]
    split
    · exact(h (j,v) List.mem_cons_self).imp id .inl
    · exact ih fun q hq=>h q (List.mem_cons_of_mem _ hq)
theorem putM_signs{M:KMap}(h:Signs M){k v:Int}(hv:v=1∨v=-1):Signs (putM M k v):=by
  induction M with
  | nil=>intro p hp;simp[putM]at hp;subst hp;exact hv
  | cons p M ih =>
    obtain⟨j,w⟩:=p
    simp only[putM]
    split
    · intro q hq
      rcases List.mem_cons.1 hq with rfl | hq
      · exact hv
      · exact h q (List.mem_cons_of_mem _ hq)
    · intro q hq
      rcases List.mem_cons.1 hq with rfl | hq
      · exact h _ List.mem_cons_self
      · exact ih (fun q hq=>h q (List.mem_cons_of_mem _ hq)) q hq
def ofV(M:KMap)(x:Int):Int:=if (signV x).2=0 then -1 else look M (signV x).1 * (signV x).2
theorem of_ok{E:Env}(hE:Good E){s:ASt}{i:Nat}{M:KMap}(hm:MapAt s i M)(hg:Signs M)(x:Int)(hx:i64 x):WF E 49 [.map (some i),iv x] (fun v s'=>v=iv (ofV M x)∧s=s') s:=by
  have hr:=signV_range x hx
  have hl:=look_signs hg (signV x).1
  refine hE.go comp49 (by decide) rfl ?_
  simp only[c49,c49o0,c49o1,c49o2,c49o3,c49o4,Qa,Qb,Qc,Qd,Qe,Qf,Qg,Qh,Qi,Qj,Qk,Ql,Qm,Qn,true_and,and_true,Qo,Qp,Qq,Qr,Qs,Qt,Qu,Qv,Qw,Qx,Qy,Qz,Ra,Rb,Rc,Rd,Re,Rf,Rg,Rh,Ri,Rj,Rk,Rl,Rm,Ya,Yb,Yc,Rn,Ro,Rp,Yd,Ye,Rq,Rs,Rt,Ru,Rv,Rw,Rx]
  refine(sign_ok hE x s hx).mono ?_
  rintro _ _ ⟨rfl,rfl⟩
  have hmul:i64 (look M (signV x).1 * (signV x).2):=by
    rcases hl with h | h | h<;>rcases hr.2 with h' | h' | h'<;>rw[h,h']<;>exact⟨by decide,by decide⟩
  unfold ofV
  by_cases h0:(signV x).2=0
  · simp[h0,Qa,Qb,Qc,Qd,Qe,Qf,Qg,Qh,Qi,Qj,Qk,Ql,Qm,Qn,true_and,and_true,Qo,Qp,Qq,Qr,Qs,Qt,Qu,Qv,Qw,Qx,Qy,Qz,Ra,Rb,Rc,Rd,Re,Rf,Rg,Rh,Ri,Rj,Rk,Rl,Rm,Ya,Yb,Yc,Rn,Ro,Rp,Yd,Ye,Rq,Rs,Rt,Ru,Rv,Rw,Rx]
  · simp[h0,on2,lookup_map hm,bin_mul _ _ _ _ hmul,Qa,Qb,Qc,Qd,Qe,Qf,Qg,Qh,Qi,Qj,Qk,Ql,Qm,Qn,true_and,and_true,Qo,Qp,Qq,Qr,Qs,Qt,Qu,Qv,Qw,Qx,Qy,Qz,Ra,Rb,Rc,Rd,Re,Rf,Rg,Rh,Ri,Rj,Rk,Rl,Rm,Ya,Yb,Yc,Rn,Ro,Rp,Yd,Ye,Rq,Rs,Rt,Ru,Rv,Rw,Rx]
theorem set_ok{E:Env}(hE:Good E){s:ASt}{i:Nat}{M:KMap}(hm:MapAt s i M)(x:Int)(hx:i64 x):WF E 50 [.map (some i),iv x] (fun v s'=>v=.tuple []∧MapAt s' i (putM M (signV x).1 (signV x).2)∧s'.next=s.next∧∀j,j≠i→s'.heap.get j=s.heap.get j) s:=by
  refine hE.go comp50 (by decide) rfl ?_
  simp only[c50,c50o0,c50o1,Qa,Qb,Qc,Qd,Qe,Qf,Qg,Qh,Qi,Qj,Qk,Ql,Qm,Qn,true_and,and_true,Qo,Qp,Qq,Qr,Qs,Qt,Qu,Qv,Qw,Qx,Qy,Qz,Ra,Rb,Rc,Rd,Re,Rf,Rg,Rh,Ri,Rj,Rk,Rl,Rm,Ya,Yb,Yc,Rn,Ro,Rp,Yd,Ye,Rq,Rs,Rt,Ru,Rv,Rw,Rx]
  refine(sign_ok hE x s hx).mono ?_
  rintro _ _ ⟨rfl,rfl⟩
  obtain⟨s',h1,h2,h3,h4⟩:=update_map hm (signV x).1 (signV x).2
  simp only[on3,h1,withV,Qa,Qb,Qc,Qd,Qe,Qf,Qg,Qh,Qi,Qj,Qk,Ql,Qm,Qn,true_and,and_true,Qo,Qp,Qq,Qr,Qs,Qt,Qu,Qv,Qw,Qx,Qy,Qz,Ra,Rb,Rc,Rd,Re,Rf,Rg,Rh,Ri,Rj,Rk,Rl,Rm,Ya,Yb,Yc,Rn,Ro,Rp,Yd,Ye,Rq,Rs,Rt,Ru,Rv,Rw,Rx]
  exact⟨h2,h3,h4⟩
abbrev ivs(l:List Int):List AV:=l.map iv
def I64s(l:List Int):Prop:=∀x∈l,i64 x
theorem get_ivs{l:List Int}{k:Nat}{x:Int}(h:l[k]? = some x):(ivs l)[k]? = some (iv x):=by rw[List.getElem?_map,h];rfl
def unitV(M:KMap):List Int→Int→Int→Int×Int
  | [],lit,left=>(lit,left)
  | x::l,lit,left=>if 0<ofV M x then (0,2)else if ofV M x<0∨(left=1∧x=lit)then unitV M l lit left else if 1<left+1 then (0,2)else unitV M l x (left+1)
theorem unit_loop {E : Env} (hE : Good E) {s : ASt} {i b : Nat} {M : KMap} (hm : MapAt s i M) (hg : Signs M) {L : List Int} (hL : I64s L) (hlen : L.length < 9223372036854775808) {a : Option (Nat × Nat)} {cap : Option Nat} (hc : CellsAt b s a (ivs L)) (v0 v1 : AV) {Q : ARes → Prop} :
    ∀ (l : List Int) (k : Nat) (lit left : Int) (x4 x5 x9 x10 x11 x12 : AV), L.drop k = l → k ≤ L.length → (left = 0 ∨ left = 1) → v0 = .map (some i) →
      (∀ (e:AExit) (y4 y5 y6 y7 y8 y9 y10 y11 y12:AV),(e=.ret∨e=.exit 0)→Q ⟨e,[v0,v1,iv (unitV M l lit left).1,iv (unitV M l lit left).2,y4,y5,y6,y7,y8,y9,y10,y11,y12],[],s⟩) →
      WC E none (.loop c52l13) Q [v0,v1,iv lit,iv left,x4,x5,.slice a L.length cap,iv (L.length:Int),iv (k:Int),x9,x10,x11,x12] [] s:=by
  intro l
  induction l with
  | nil =>
    intro k lit left x4 x5 x9 x10 x11 x12 hd hk hl hv hq
    have hkl:k=L.length:=by
      have:=congrArg List.length hd
      simp at this;omega
    subst hkl
    refine WC.loop' ?_
    simp only[c52l13,c52o2,Qa,Qb,Qc,Qd,Qe,Qf,Qg,Qh,Qi,Qj,Qk,Ql,Qm,Qn,true_and,and_true,Qo,Qp,Qq,Qr,Qs,Qt,Qu,Qv,Qw,Qx,Qy,Qz,Ra,Rb,Rc,Rd,Re,Rf,Rg,Rh,Ri,Rj,Rk,Rl,Rm,Ya,Yb,Yc,Rn,Ro,Rp,Yd,Ye,Rq,Rs,Rt,Ru,Rv,Rw,Rx]
    simp only[Int.lt_irrefl,decide_false,Qa,Qb,Qc,Qd,Qe,Qf,Qg,Qh,Qi,Qj,Qk,Ql,Qm,Qn,true_and,and_true,Qo,Qp,Qq,Qr,Qs,Qt,Qu,Qv,Qw,Qx,Qy,Qz,Ra,Rb,Rc,Rd,Re,Rf,Rg,Rh,Ri,Rj,Rk,Rl,Rm,Ya,Yb,Yc,Rn,Ro,Rp,Yd,Ye,Rq,Rs,Rt,Ru,Rv,Rw,Rx]
    exact hq _ _ _ _ _ _ _ _ _ _ (.inr rfl)
  | cons x l ih =>
    intro k lit left x4 x5 x9 x10 x11 x12 hd hk hl hv hq
    have hlt:k<L.length:=by
      have:=congrArg List.length hd
      simp at this;omega
    have hx:L[k]? = some x:=by
      have:=congrArg (fun l=>l[0]?) hd
      simpa using this
    have hd':L.drop (k+1)=l:=by
      rw[← List.drop_drop,hd];rfl
    have hxi:i64 x:=hL x (List.mem_of_getElem? hx)
    subst hv
    obtain⟨j,o,rfl,hj,hload⟩:=hc k _ (get_ivs hx)
    have e1:=idx_slice (cap:=cap) (i:=j) (o:=o) Try.underlying23 sz3 hlt
    have e2:loadV Try.prog s 3 (.ptr (some (j,o+k * 1)))=some (iv x):=load_one ag3 (by rw[Nat.mul_one];exact hload)
    have hkk:decide ((k:Int)<(L.length:Int))=true:=decide_eq_true (by omega)
    have e3:=bin_add Try.prog 3 (k:Int) 1 ⟨by omega,by omega⟩
    refine WC.loop' ?_
    simp only[c52l13,c52o2,c52o3,c52o4,hkk,e1,e2,Qa,Qb,Qc,Qd,Qe,Qf,Qg,Qh,Qi,Qj,Qk,Ql,Qm,Qn,true_and,and_true,Qo,Qp,Qq,Qr,Qs,Qt,Qu,Qv,Qw,Qx,Qy,Qz,Ra,Rb,Rc,Rd,Re,Rf,Rg,Rh,Ri,Rj,Rk,Rl,Rm,Ya,Yb,Yc,Rn,Ro,Rp,Yd,Ye,Rq,Rs,Rt,Ru,Rv,Rw,Rx]
    refine(of_ok hE hm hg x hxi).mono ?_
    rintro _ _ ⟨rfl,rfl⟩
    by_cases h1:0<ofV M x
    · simp only[c52o5,c52o6,h1,decide_true,Qa,Qb,Qc,Qd,Qe,Qf,Qg,Qh,Qi,Qj,Qk,Ql,Qm,Qn,true_and,and_true,Qo,Qp,Qq,Qr,Qs,Qt,Qu,Qv,Qw,Qx,Qy,Qz,Ra,Rb,Rc,Rd,Re,Rf,Rg,Rh,Ri,Rj,Rk,Rl,Rm,Ya,Yb,Yc,Rn,Ro,Rp,Yd,Ye,Rq,Rs,Rt,Ru,Rv,Rw,Rx]
      have hu:unitV M (x::l) lit left=(0,2):=by simp[unitV,h1]
      rw[hu]at hq
      exact hq _ _ _ _ _ _ _ _ _ _ (.inl rfl)
    · have next:∀ (lit' left':Int) (x4' x5' x9' x10' x11' x12':AV),(left'=0∨left'=1)→unitV M (x::l) lit left=unitV M l lit' left' →
          WC E none (.loop c52l13) Q [.map (some i),v1,iv lit',iv left',x4',x5',.slice (some (j,o)) L.length cap,iv (L.length:Int),iv ((k:Int)+1),x9',x10',x11',x12'] [] s:=by
        intro lit' left' x4' x5' x9' x10' x11' x12' hl' he
        rw[show((k:Int)+1)=((k+1:Nat):Int)from by omega]
        refine ih (k+1) lit' left' _ _ _ _ _ _ hd' hlt hl' rfl ?_
        rw[← he]
        exact hq
      by_cases h2:ofV M x<0
      · simp only[c52o5,c52o7,c52o12,h1,h2,e3,decide_true,decide_false,Qa,Qb,Qc,Qd,Qe,Qf,Qg,Qh,Qi,Qj,Qk,Ql,Qm,Qn,true_and,and_true,Qo,Qp,Qq,Qr,Qs,Qt,Qu,Qv,Qw,Qx,Qy,Qz,Ra,Rb,Rc,Rd,Re,Rf,Rg,Rh,Ri,Rj,Rk,Rl,Rm,Ya,Yb,Yc,Rn,Ro,Rp,Yd,Ye,Rq,Rs,Rt,Ru,Rv,Rw,Rx]
        exact next lit left _ _ _ _ _ _ hl (by simp[unitV,h1,h2])
      · rcases hl with rfl | rfl
        · simp only [c52o5, c52o7, c52o8, c52o9, c52o11, c52o12, h1, h2, decide_true, decide_false, Qa, Qb, Qc, Qd, Qe, Qf, Qg, Qh, Qi, Qj, Qk, Ql, Qm, Qn, true_and, and_true, Qo, Qp, Qq, Qr, Qs, Qt, Qu, Qv, Qw, Qx, Qy, Qz, Ra, Rb, Rc, Rd, Re, Rf, Rg, Rh, Ri, Rj, Rk, Rl, Rm, Ya, Yb, Yc, Rn, Ro, Rp, Yd, Ye, Rq, Rs, Rt, Ru, Rv, Rw, Rx]
          simp[e3,Qa,Qb,Qc,Qd,Qe,Qf,Qg,Qh,Qi,Qj,Qk,Ql,Qm,Qn,true_and,and_true,Qo,Qp,Qq,Qr,Qs,Qt,Qu,Qv,Qw,Qx,Qy,Qz,Ra,Rb,Rc,Rd,Re,Rf,Rg,Rh,Ri,Rj,Rk,Rl,Rm,Ya,Yb,Yc,Rn,Ro,Rp,Yd,Ye,Rq,Rs,Rt,Ru,Rv,Rw,Rx,bin_add Try.prog 3 0 1 ⟨by decide,by decide⟩]
          exact next x 1 _ _ _ _ _ _ (.inr rfl) (by simp[unitV,h1,h2])
        · by_cases h3 : x = lit
          · subst h3
            simp only[c52o5,c52o7,c52o12,h1,h2,decide_true,decide_false,Qa,Qb,Qc,Qd,Qe,Qf,Qg,Qh,Qi,Qj,Qk,Ql,Qm,Qn,true_and,and_true,Qo,Qp,Qq,Qr,Qs,Qt,Qu,Qv,Qw,Qx,Qy,Qz,Ra,Rb,Rc,Rd,Re,Rf,Rg,Rh,Ri,Rj,Rk,Rl,Rm,Ya,Yb,Yc,Rn,Ro,Rp,Yd,Ye,Rq,Rs,Rt,Ru,Rv,Rw,Rx]
            simp[e3,Qa,Qb,Qc,Qd,Qe,Qf,Qg,Qh,Qi,Qj,Qk,Ql,Qm,Qn,true_and,and_true,Qo,Qp,Qq,Qr,Qs,Qt,Qu,Qv,Qw,Qx,Qy,Qz,Ra,Rb,Rc,Rd,Re,Rf,Rg,Rh,Ri,Rj,Rk,Rl,Rm,Ya,Yb,Yc,Rn,Ro,Rp,Yd,Ye,Rq,Rs,Rt,Ru,Rv,Rw,Rx]
            exact next x 1 _ _ _ _ _ _ (.inr rfl) (by simp[unitV,h1,h2])
          · simp only [c52o5, c52o7, c52o8, c52o9, c52o10, c52o12, h1, h2, h3, decide_true, decide_false, Qa, Qb, Qc, Qd, Qe, Qf, Qg, Qh, Qi, Qj, Qk, Ql, Qm, Qn, true_and, and_true, Qo, Qp, Qq, Qr, Qs, Qt, Qu, Qv, Qw, Qx, Qy, Qz, Ra, Rb, Rc, Rd, Re, Rf, Rg, Rh, Ri, Rj, Rk, Rl, Rm, Ya, Yb, Yc, Rn, Ro, Rp, Yd, Ye, Rq, Rs, Rt, Ru, Rv, Rw, Rx]
            simp[h3,e3,Qa,Qb,Qc,Qd,Qe,Qf,Qg,Qh,Qi,Qj,Qk,Ql,Qm,Qn,true_and,and_true,Qo,Qp,Qq,Qr,Qs,Qt,Qu,Qv,Qw,Qx,Qy,Qz,Ra,Rb,Rc,Rd,Re,Rf,Rg,Rh,Ri,Rj,Rk,Rl,Rm,Ya,Yb,Yc,Rn,Ro,Rp,Yd,Ye,Rq,Rs,Rt,Ru,Rv,Rw,Rx,bin_add Try.prog 3 1 1 ⟨by decide,by decide⟩]
            have hu:unitV M (x::l) lit 1=(0,2):=by simp[unitV,h1,h2,h3]
            rw[hu]at hq
            exact hq _ _ _ _ _ _ _ _ _ _ (.inl rfl)
theorem unit_ok{E:Env}(hE:Good E){s:ASt}{i b:Nat}{M:KMap}(hm:MapAt s i M)(hg:Signs M){L:List Int}(hL:I64s L)(hlen:L.length<9223372036854775808){c:AV}(hc:SliceAt b s c (ivs L)):
    WF E 52 [.map (some i),c] (fun v s'=>v=.tuple [iv (unitV M L 0 0).1,iv (unitV M L 0 0).2]∧s=s') s:=by
  obtain⟨a,cap,rfl,hc⟩:=hc
  rw[List.length_map]
  refine hE.go comp52 (by decide) rfl ?_
  simp only[c52,c52o0,c52o1,len_slice Try.underlying23,Qa,Qb,Qc,Qd,Qe,Qf,Qg,Qh,Qi,Qj,Qk,Ql,Qm,Qn,true_and,and_true,Qo,Qp,Qq,Qr,Qs,Qt,Qu,Qv,Qw,Qx,Qy,Qz,Ra,Rb,Rc,Rd,Re,Rf,Rg,Rh,Ri,Rj,Rk,Rl,Rm,Ya,Yb,Yc,Rn,Ro,Rp,Yd,Ye,Rq,Rs,Rt,Ru,Rv,Rw,Rx]
  refine unit_loop hE hm hg hL hlen hc _ _ L 0 0 0 _ _ _ _ _ _ rfl (Nat.zero_le _) (.inl rfl) rfl ?_
  rintro e y4 y5 y6 y7 y8 y9 y10 y11 y12 (rfl | rfl)
  · simp only[Qa,Qb,Qc,Qd,Qe,Qf,Qg,Qh,Qi,Qj,Qk,Ql,Qm,Qn,true_and,and_true,Qo,Qp,Qq,Qr,Qs,Qt,Qu,Qv,Qw,Qx,Qy,Qz,Ra,Rb,Rc,Rd,Re,Rf,Rg,Rh,Ri,Rj,Rk,Rl,Rm,Ya,Yb,Yc,Rn,Ro,Rp,Yd,Ye,Rq,Rs,Rt,Ru,Rv,Rw,Rx]
  · simp only[c52o14,if_true,Qa,Qb,Qc,Qd,Qe,Qf,Qg,Qh,Qi,Qj,Qk,Ql,Qm,Qn,true_and,and_true,Qo,Qp,Qq,Qr,Qs,Qt,Qu,Qv,Qw,Qx,Qy,Qz,Ra,Rb,Rc,Rd,Re,Rf,Rg,Rh,Ri,Rj,Rk,Rl,Rm,Ya,Yb,Yc,Rn,Ro,Rp,Yd,Ye,Rq,Rs,Rt,Ru,Rv,Rw,Rx]
def litPut(M:KMap)(x:Int):KMap:=putM M (signV x).1 (signV x).2
theorem unitV_one (M : KMap) : ∀ (L : List Int) (lit left : Int), (left = 0 ∨ left = 1) → (unitV M L lit left).2 = 1 → ((unitV M L lit left).1 ∈ L ∧ ofV M (unitV M L lit left).1 = 0) ∨ (left = 1 ∧ (unitV M L lit left).1 = lit) := by
  intro L
  induction L with
  | nil=>intro lit left _ h;exact .inr ⟨h,rfl⟩
  | cons x l ih =>
    intro lit left hl h
    simp only[unitV]at h ⊢
    split at h
    · simp at h
    · rename_i h1
      rw[if_neg h1]
      split at h
      · rename_i h2
        rw[if_pos h2]
        rcases ih lit left hl h with⟨h3,h4⟩ | h3
        · exact .inl ⟨List.mem_cons_of_mem _ h3,h4⟩
        · exact .inr h3
      · rename_i h2
        rw[if_neg h2]
        split at h
        · simp at h
        · rename_i h3
          rw[if_neg h3]
          rcases ih x (left+1) (by omega) h with⟨h4,h5⟩ | ⟨h4,h5⟩
          · exact .inl ⟨List.mem_cons_of_mem _ h4,h5⟩
          · rw[h5]
            exact .inl ⟨List.mem_cons_self,by omega⟩
theorem litPut_signs{M:KMap}(h:Signs M){x:Int}(hx:i64 x)(h0:ofV M x=0):Signs (litPut M x):=by
  refine putM_signs h ?_
  rcases(signV_range x hx).2 with h1 | h1 | h1
  · exact .inl h1
  · exact .inr h1
  · simp[ofV,h1]at h0
theorem store_one{P:Program}{t:TypeId}(hs:sizeT P t=some 1){s:ASt}{i o:Nat}{r:ARow}{v:AV}(hg:s.heap.get i=some (.row r))(hm:r.mode=.own)(hp:r.par=none)(ho:o<r.n)(hv:v.cells=[v])(hc:v.isCell=true):
    storeV P s t (.ptr (some (i,o))) v=some (setObj s i (.row { r with c:=r.c.fill o [v],par:=none })):=by
  simp[storeV,hs,guardB,hv,storeN,rowAt,hg,hm,isOwn,allCells,hc,ble_of (show o+1≤r.n by omega),unshare,hp]
structure Know(s:ASt)(i j:Nat)(M:KMap):Prop where
  map:MapAt s i M
  cell:load1 s j 0=some (.map (some i))
  ne:j≠i
  signs:Signs M
theorem look_ok{E:Env}(hE:Good E){s:ASt}{i j b:Nat}{M:KMap}(hk:Know s i j M){L:List Int}(hL:I64s L)(hlen:L.length<9223372036854775808){c:AV}(hc:SliceAt b s c (ivs L)):
    WF E 51 [c,.ptr (some (j,0))] (fun v s'=>v=.tuple [.bool (decide ((unitV M L 0 0).2=1)),.bool (decide ((unitV M L 0 0).2=0))] ∧
      Know s' i j (if (unitV M L 0 0).2=1 then litPut M (unitV M L 0 0).1 else M)∧s'.next=s.next∧∀x,x≠i→s'.heap.get x=s.heap.get x) s:=by
  have e1:loadV Try.prog s 69 (.ptr (some (j,0)))=some (.map (some i)):=load_one ag69 hk.cell
  refine hE.go comp51 (by decide) rfl ?_
  simp only[c51,c51o0,c51o1,e1,Qa,Qb,Qc,Qd,Qe,Qf,Qg,Qh,Qi,Qj,Qk,Ql,Qm,Qn,true_and,and_true,Qo,Qp,Qq,Qr,Qs,Qt,Qu,Qv,Qw,Qx,Qy,Qz,Ra,Rb,Rc,Rd,Re,Rf,Rg,Rh,Ri,Rj,Rk,Rl,Rm,Ya,Yb,Yc,Rn,Ro,Rp,Yd,Ye,Rq,Rs,Rt,Ru,Rv,Rw,Rx]
  refine(unit_ok hE hk.map hk.signs hL hlen hc).mono ?_
  rintro _ _ ⟨rfl,rfl⟩
  by_cases h:(unitV M L 0 0).2=1
  · have hu := (unitV_one M L 0 0 (.inl rfl) h).resolve_right (by simp)
    have hx:i64 (unitV M L 0 0).1:=hL _ hu.1
    simp only[c51o2,c51o3,h,decide_true,e1,Qa,Qb,Qc,Qd,Qe,Qf,Qg,Qh,Qi,Qj,Qk,Ql,Qm,Qn,true_and,and_true,Qo,Qp,Qq,Qr,Qs,Qt,Qu,Qv,Qw,Qx,Qy,Qz,Ra,Rb,Rc,Rd,Re,Rf,Rg,Rh,Ri,Rj,Rk,Rl,Rm,Ya,Yb,Yc,Rn,Ro,Rp,Yd,Ye,Rq,Rs,Rt,Ru,Rv,Rw,Rx]
    refine(set_ok hE hk.map _ hx).mono ?_
    rintro _ s' ⟨rfl,h1,h2,h3⟩
    simp only[c51o4,Qa,Qb,Qc,Qd,Qe,Qf,Qg,Qh,Qi,Qj,Qk,Ql,Qm,Qn,true_and,and_true,Qo,Qp,Qq,Qr,Qs,Qt,Qu,Qv,Qw,Qx,Qy,Qz,Ra,Rb,Rc,Rd,Re,Rf,Rg,Rh,Ri,Rj,Rk,Rl,Rm,Ya,Yb,Yc,Rn,Ro,Rp,Yd,Ye,Rq,Rs,Rt,Ru,Rv,Rw,Rx]
    simp only[Int.reduceEq,decide_false,decide_true,if_true,Qa,Qb,Qc,Qd,Qe,Qf,Qg,Qh,Qi,Qj,Qk,Ql,Qm,Qn,true_and,and_true,Qo,Qp,Qq,Qr,Qs,Qt,Qu,Qv,Qw,Qx,Qy,Qz,Ra,Rb,Rc,Rd,Re,Rf,Rg,Rh,Ri,Rj,Rk,Rl,Rm,Ya,Yb,Yc,Rn,Ro,Rp,Yd,Ye,Rq,Rs,Rt,Ru,Rv,Rw,Rx]
    exact⟨⟨h1,by rw[load1_eq (h3 j hk.ne)];exact hk.cell,hk.ne,litPut_signs hk.signs hx hu.2⟩,h2,h3⟩
  · simp only[c51o2,c51o4,h,decide_false,if_false,Qa,Qb,Qc,Qd,Qe,Qf,Qg,Qh,Qi,Qj,Qk,Ql,Qm,Qn,true_and,and_true,Qo,Qp,Qq,Qr,Qs,Qt,Qu,Qv,Qw,Qx,Qy,Qz,Ra,Rb,Rc,Rd,Re,Rf,Rg,Rh,Ri,Rj,Rk,Rl,Rm,Ya,Yb,Yc,Rn,Ro,Rp,Yd,Ye,Rq,Rs,Rt,Ru,Rv,Rw,Rx]
    exact⟨hk,fun _ _=>trivial⟩
def passV(M:KMap):List (List Int)→Bool→Option (KMap×Bool)
  | [],more=>some (M,more)
  | c::cs,more=>if (unitV M c 0 0).2=0 then none else if (unitV M c 0 0).2=1 then passV (litPut M (unitV M c 0 0).1) cs true else passV M cs more
def loopV(cs:List (List Int)):Nat→KMap→Option Bool
  | 0,_=>none
  | n+1,M=>match passV M cs false with
    | none=>some true
    | some (M',true)=>loopV cs n M'
    | some (_,false)=>some false
def initV(M:KMap):List Int→Option KMap
  | []=>some M
  | x::l=>if (signV x).2=0 then initV M l else if 0<ofV M x then none else initV (litPut M (-x)) l
def followsV(n:Nat)(cs:List (List Int))(c:List Int):Option Bool:=match initV [] c with
  | none=>some true
  | some M=>loopV cs n M
def RowsAt(b:Nat)(s:ASt)(a:Option (Nat×Nat))(cs:List (List Int)):Prop:=∀k L,cs[k]? = some L→∃i o u,a=some (i,o)∧i<b∧load1 s i (o+k)=some u∧SliceAt b s u (ivs L)
def Fits(cs:List (List Int)):Prop:=cs.length<9223372036854775808∧∀L∈cs,I64s L∧L.length<9223372036854775808
def RowsOf(b:Nat)(s:ASt)(v:AV)(cs:List (List Int)):Prop:=∃a cap,v=.slice a cs.length cap∧RowsAt b s a cs
structure FolMem(n:Nat)(s0 s:ASt)(i j:Nat)(M:KMap):Prop where
  know:Know s i j M
  old:Old n s0 s
  hi:n≤i
  nx:s.next=s0.next+2
def OldN(n:Nat)(s0 s:ASt):Prop:=Old n s0 s∧s.next=s0.next+2
theorem FolMem.oldN{n:Nat}{s0 s:ASt}{i j:Nat}{M:KMap}(h:FolMem n s0 s i j M):OldN n s0 s:=⟨h.old,h.nx⟩
theorem pass_loop {E : Env} (hE : Good E) {n : Nat} {s0 : ASt} {i j : Nat} {cs : List (List Int)} (hcs : Fits cs) {a : Option (Nat × Nat)} {cap : Option Nat} (hr : RowsAt n s0 a cs) (v0 v1 v3 : AV) {Q : ARes → Prop} :
    ∀ (l : List (List Int)) (k : Nat) (M : KMap) (more : Bool) (s : ASt) (x2 x4 x5 x8 x9 x10 x11 x12 x13 x14 x15 x16 x17 x21 x22 x23 : AV), cs.drop k = l → k ≤ cs.length → FolMem n s0 s i j M →
      (match passV M l more with
        | none=>∀s' y4 y5 y7 y8 y9 y10 y11 y12 y13 y14 y15 y16 y17 y18 y19 y20 y21 y22 y23,OldN n s0 s'→Q ⟨.ret,[v0,v1,.bool true,v3,y4,y5,.func 51 [] [.ptr (some (j,0))],y7,y8,y9,y10,y11,y12,y13,y14,y15,y16,y17,y18,y19,y20,y21,y22,y23],[],s'⟩
        | some (M',more')=>∀s' y2 y4 y5 y8 y9 y10 y11 y12 y13 y14 y15 y16 y17 y18 y19 y20 y21 y22 y23,FolMem n s0 s' i j M'→Q ⟨.exit 4,[v0,v1,y2,v3,y4,y5,.func 51 [] [.ptr (some (j,0))],.bool more',y8,y9,y10,y11,y12,y13,y14,y15,y16,y17,y18,y19,y20,y21,y22,y23],[],s'⟩) →
      WC E none (.loop c17l25) Q [v0,v1,x2,v3,x4,x5,.func 51 [] [.ptr (some (j,0))],.bool more,x8,x9,x10,x11,x12,x13,x14,x15,x16,x17,.slice a cs.length cap,iv (cs.length:Int),iv (k:Int),x21,x22,x23] [] s:=by
  intro l
  induction l with
  | nil =>
    intro k M more s x2 x4 x5 x8 x9 x10 x11 x12 x13 x14 x15 x16 x17 x21 x22 x23 hd hk hmem hq
    have hkl:k=cs.length:=by
      have:=congrArg List.length hd
      simp at this;omega
    subst hkl
    refine WC.loop' ?_
    simp only[c17l25,c17o17,Int.lt_irrefl,decide_false,Qa,Qb,Qc,Qd,Qe,Qf,Qg,Qh,Qi,Qj,Qk,Ql,Qm,Qn,true_and,and_true,Qo,Qp,Qq,Qr,Qs,Qt,Qu,Qv,Qw,Qx,Qy,Qz,Ra,Rb,Rc,Rd,Re,Rf,Rg,Rh,Ri,Rj,Rk,Rl,Rm,Ya,Yb,Yc,Rn,Ro,Rp,Yd,Ye,Rq,Rs,Rt,Ru,Rv,Rw,Rx]
    exact hq s _ _ _ _ _ _ _ _ _ _ _ _ _ _ _ _ _ _ _ hmem
  | cons L l ih =>
    intro k M more s x2 x4 x5 x8 x9 x10 x11 x12 x13 x14 x15 x16 x17 x21 x22 x23 hd hk hmem hq
    have hlt:k<cs.length:=by
      have:=congrArg List.length hd
      simp at this;omega
    have hx:cs[k]? = some L:=by
      have:=congrArg (fun l=>l[0]?) hd
      simpa using this
    have hd':cs.drop (k+1)=l:=by
      rw[← List.drop_drop,hd];rfl
    obtain⟨p,o,u,rfl,hp,hload,hu⟩:=hr k L hx
    obtain⟨hL,hLl⟩:=hcs.2 L (List.mem_of_getElem? hx)
    have e1:=idx_slice (cap:=cap) (i:=p) (o:=o) Try.underlying22 sz23 hlt
    have e2:loadV Try.prog s 23 (.ptr (some (p,o+k * 1)))=some u:=load_one ag23 (by rw[Nat.mul_one,load1_eq (hmem.old.2 p hp)];exact hload)
    have hkk:decide ((k:Int)<(cs.length:Int))=true:=decide_eq_true (by omega)
    have hcl:=hcs.1
    have e3:=bin_add Try.prog 3 (k:Int) 1 ⟨by omega,by omega⟩
    refine WC.loop' ?_
    simp only[c17l25,c17o17,c17o18,c17o19,hkk,e1,e2,List.nil_append,List.cons_append,Qa,Qb,Qc,Qd,Qe,Qf,Qg,Qh,Qi,Qj,Qk,Ql,Qm,Qn,true_and,and_true,Qo,Qp,Qq,Qr,Qs,Qt,Qu,Qv,Qw,Qx,Qy,Qz,Ra,Rb,Rc,Rd,Re,Rf,Rg,Rh,Ri,Rj,Rk,Rl,Rm,Ya,Yb,Yc,Rn,Ro,Rp,Yd,Ye,Rq,Rs,Rt,Ru,Rv,Rw,Rx]
    refine(look_ok hE hmem.know hL hLl (hu.old hmem.old (Nat.le_refl n))).mono ?_
    rintro _ s1 ⟨rfl,h1,h2,h3⟩
    have hnx:s1.next=s0.next+2:=h2.trans hmem.nx
    have hold:Old n s0 s1:=hmem.old.trans ⟨by omega,fun x hx=>h3 x (by have:=hmem.hi;omega)⟩
    by_cases h0:(unitV M L 0 0).2=0
    · have hp0:passV M (L::l) more=none:=by simp[passV,h0]
      rw[hp0]at hq
      simp only[c17o20,c17o21,h0,decide_true,Qa,Qb,Qc,Qd,Qe,Qf,Qg,Qh,Qi,Qj,Qk,Ql,Qm,Qn,true_and,and_true,Qo,Qp,Qq,Qr,Qs,Qt,Qu,Qv,Qw,Qx,Qy,Qz,Ra,Rb,Rc,Rd,Re,Rf,Rg,Rh,Ri,Rj,Rk,Rl,Rm,Ya,Yb,Yc,Rn,Ro,Rp,Yd,Ye,Rq,Rs,Rt,Ru,Rv,Rw,Rx]
      exact hq s1 _ _ _ _ _ _ _ _ _ _ _ _ _ _ _ _ _ _ _ ⟨hold,hnx⟩
    · by_cases hone : (unitV M L 0 0).2 = 1
      · have hp1:passV M (L::l) more=passV (litPut M (unitV M L 0 0).1) l true:=by simp[passV,hone]
        rw[hp1]at hq
        rw[if_pos hone]at h1
        simp only[c17o20,c17o22,c17o23,c17o24,hone,Int.reduceEq,decide_true,decide_false,Bool.not_true,e3,Qa,Qb,Qc,Qd,Qe,Qf,Qg,Qh,Qi,Qj,Qk,Ql,Qm,Qn,true_and,and_true,Qo,Qp,Qq,Qr,Qs,Qt,Qu,Qv,Qw,Qx,Qy,Qz,Ra,Rb,Rc,Rd,Re,Rf,Rg,Rh,Ri,Rj,Rk,Rl,Rm,Ya,Yb,Yc,Rn,Ro,Rp,Yd,Ye,Rq,Rs,Rt,Ru,Rv,Rw,Rx]
        rw[show((k:Int)+1)=((k+1:Nat):Int)from by omega]
        exact ih (k+1) _ true s1 _ _ _ _ _ _ _ _ _ _ _ _ _ _ _ _ hd' hlt ⟨h1,hold,hmem.hi,hnx⟩ hq
      · have hp1:passV M (L::l) more=passV M l more:=by simp[passV,hone,h0]
        rw[hp1]at hq
        rw[if_neg hone]at h1
        simp only[c17o20,c17o22,c17o24,hone,h0,decide_false,Bool.not_false,if_true,e3,Qa,Qb,Qc,Qd,Qe,Qf,Qg,Qh,Qi,Qj,Qk,Ql,Qm,Qn,true_and,and_true,Qo,Qp,Qq,Qr,Qs,Qt,Qu,Qv,Qw,Qx,Qy,Qz,Ra,Rb,Rc,Rd,Re,Rf,Rg,Rh,Ri,Rj,Rk,Rl,Rm,Ya,Yb,Yc,Rn,Ro,Rp,Yd,Ye,Rq,Rs,Rt,Ru,Rv,Rw,Rx]
        rw[show((k:Int)+1)=((k+1:Nat):Int)from by omega]
        exact ih (k+1) _ more s1 _ _ _ _ _ _ _ _ _ _ _ _ _ _ _ _ hd' hlt ⟨h1,hold,hmem.hi,hnx⟩ hq
theorem more_loop{E:Env}(hE:Good E){n:Nat}{s0:ASt}{i j:Nat}{cs:List (List Int)}(hcs:Fits cs){a:Option (Nat×Nat)}{cap:Option Nat}(hr:RowsAt n s0 a cs)(v1 v3:AV){Q:ARes→Prop}:
    ∀ (fuel : Nat) (M : KMap) (s : ASt) (b : Bool) (x2 x4 x5 x8 x9 x10 x11 x12 x13 x14 x15 x16 x17 x18 x19 x20 x21 x22 x23 : AV), loopV cs fuel M = some b → FolMem n s0 s i j M →
      (∀e s' y2 y4 y5 y6 y7 y8 y9 y10 y11 y12 y13 y14 y15 y16 y17 y18 y19 y20 y21 y22 y23,OldN n s0 s'→(e=.ret∧y2=.bool true∧b=true∨e=.exit 2∧b=false)→Q ⟨e,[.slice a cs.length cap,v1,y2,v3,y4,y5,y6,y7,y8,y9,y10,y11,y12,y13,y14,y15,y16,y17,y18,y19,y20,y21,y22,y23],[],s'⟩) →
      WC E none (.loop c17l26) Q [.slice a cs.length cap,v1,x2,v3,x4,x5,.func 51 [] [.ptr (some (j,0))],.bool true,x8,x9,x10,x11,x12,x13,x14,x15,x16,x17,x18,x19,x20,x21,x22,x23] [] s:=by
  intro fuel
  induction fuel with
  | zero=>intro M s b _ _ _ _ _ _ _ _ _ _ _ _ _ _ _ _ _ _ _ h;cases h
  | succ fuel ih =>
    intro M s b x2 x4 x5 x8 x9 x10 x11 x12 x13 x14 x15 x16 x17 x18 x19 x20 x21 x22 x23 hl hmem hq
    refine WC.loop' ?_
    simp only[c17l26,c17o14,c17o15,c17o16,len_slice Try.underlying22,Qa,Qb,Qc,Qd,Qe,Qf,Qg,Qh,Qi,Qj,Qk,Ql,Qm,Qn,true_and,and_true,Qo,Qp,Qq,Qr,Qs,Qt,Qu,Qv,Qw,Qx,Qy,Qz,Ra,Rb,Rc,Rd,Re,Rf,Rg,Rh,Ri,Rj,Rk,Rl,Rm,Ya,Yb,Yc,Rn,Ro,Rp,Yd,Ye,Rq,Rs,Rt,Ru,Rv,Rw,Rx]
    refine pass_loop hE hcs hr _ _ _ cs 0 M false s _ _ _ _ _ _ _ _ _ _ _ _ _ _ _ _ rfl (Nat.zero_le _) hmem ?_
    simp only[loopV]at hl
    split at hl
    · rename_i hp
      injection hl with hl
      subst hl
      rw[hp]
      intro s' y4 y5 y7 y8 y9 y10 y11 y12 y13 y14 y15 y16 y17 y18 y19 y20 y21 y22 y23 ho
      simp only[Qa,Qb,Qc,Qd,Qe,Qf,Qg,Qh,Qi,Qj,Qk,Ql,Qm,Qn,true_and,and_true,Qo,Qp,Qq,Qr,Qs,Qt,Qu,Qv,Qw,Qx,Qy,Qz,Ra,Rb,Rc,Rd,Re,Rf,Rg,Rh,Ri,Rj,Rk,Rl,Rm,Ya,Yb,Yc,Rn,Ro,Rp,Yd,Ye,Rq,Rs,Rt,Ru,Rv,Rw,Rx]
      exact hq _ _ _ _ _ _ _ _ _ _ _ _ _ _ _ _ _ _ _ _ _ _ _ ho (.inl ⟨rfl,rfl,rfl⟩)
    · rename_i M' hp
      rw[hp]
      intro s' y2 y4 y5 y8 y9 y10 y11 y12 y13 y14 y15 y16 y17 y18 y19 y20 y21 y22 y23 ho
      simp only[if_true,Qa,Qb,Qc,Qd,Qe,Qf,Qg,Qh,Qi,Qj,Qk,Ql,Qm,Qn,true_and,and_true,Qo,Qp,Qq,Qr,Qs,Qt,Qu,Qv,Qw,Qx,Qy,Qz,Ra,Rb,Rc,Rd,Re,Rf,Rg,Rh,Ri,Rj,Rk,Rl,Rm,Ya,Yb,Yc,Rn,Ro,Rp,Yd,Ye,Rq,Rs,Rt,Ru,Rv,Rw,Rx]
      exact ih M' s' b _ _ _ _ _ _ _ _ _ _ _ _ _ _ _ _ _ _ _ hl ho hq
    · rename_i M' hp
      injection hl with hl
      subst hl
      rw[hp]
      intro s' y2 y4 y5 y8 y9 y10 y11 y12 y13 y14 y15 y16 y17 y18 y19 y20 y21 y22 y23 ho
      simp only[if_true,Qa,Qb,Qc,Qd,Qe,Qf,Qg,Qh,Qi,Qj,Qk,Ql,Qm,Qn,true_and,and_true,Qo,Qp,Qq,Qr,Qs,Qt,Qu,Qv,Qw,Qx,Qy,Qz,Ra,Rb,Rc,Rd,Re,Rf,Rg,Rh,Ri,Rj,Rk,Rl,Rm,Ya,Yb,Yc,Rn,Ro,Rp,Yd,Ye,Rq,Rs,Rt,Ru,Rv,Rw,Rx]
      refine WC.loop' ?_
      simp only[c17l26,c17o14,Qa,Qb,Qc,Qd,Qe,Qf,Qg,Qh,Qi,Qj,Qk,Ql,Qm,Qn,true_and,and_true,Qo,Qp,Qq,Qr,Qs,Qt,Qu,Qv,Qw,Qx,Qy,Qz,Ra,Rb,Rc,Rd,Re,Rf,Rg,Rh,Ri,Rj,Rk,Rl,Rm,Ya,Yb,Yc,Rn,Ro,Rp,Yd,Ye,Rq,Rs,Rt,Ru,Rv,Rw,Rx]
      exact hq _ _ _ _ _ _ _ _ _ _ _ _ _ _ _ _ _ _ _ _ _ _ _ ho.oldN (.inr ⟨rfl,rfl⟩)
theorem signV_neg{x:Int}(hx:i64 x)(h:(signV x).2≠0):i64 (-x)∧(signV (-x)).2≠0:=by
  obtain⟨h1,h2⟩:=hx
  unfold signV at h ⊢
  split at h
  · rw[if_neg (by omega),if_pos ⟨by omega,by omega⟩]
    exact⟨⟨by omega,by omega⟩,by simp⟩
  · split at h
    · rw[if_pos (by omega)]
      exact⟨⟨by omega,by omega⟩,by simp⟩
    · simp at h
theorem init_loop {E : Env} (hE : Good E) {n : Nat} {s0 : ASt} {i j : Nat} {c : List Int} (hc : I64s c) (hcl : c.length < 9223372036854775808) {a : Option (Nat × Nat)} {cap : Option Nat} (hr : CellsAt n s0 a (ivs c)) (v0 v1 x6 x7 x8 x9 x10 : AV) {Q : ARes → Prop} :
    ∀ (l : List Int) (k : Nat) (M : KMap) (s : ASt) (x2 x4 x5 x14 x15 x16 x17 x18 x19 x20 x21 x22 x23 : AV), c.drop k = l → k ≤ c.length → FolMem n s0 s i j M →
      (match initV M l with
        | none=>∀s' y4 y5 y6 y7 y8 y9 y10 y11 y12 y13 y14 y15 y16 y17 y18 y19 y20 y21 y22 y23,OldN n s0 s'→Q ⟨.ret,[v0,v1,.bool true,.ptr (some (j,0)),y4,y5,y6,y7,y8,y9,y10,y11,y12,y13,y14,y15,y16,y17,y18,y19,y20,y21,y22,y23],[],s'⟩
        | some M'=>∀s' y2 y4 y5 y6 y7 y8 y9 y10 y11 y12 y13 y14 y15 y16 y17 y18 y19 y20 y21 y22 y23,FolMem n s0 s' i j M'→Q ⟨.exit 0,[v0,v1,y2,.ptr (some (j,0)),y4,y5,y6,y7,y8,y9,y10,y11,y12,y13,y14,y15,y16,y17,y18,y19,y20,y21,y22,y23],[],s'⟩) →
      WC E none (.loop c17l11) Q [v0,v1,x2,.ptr (some (j,0)),x4,x5,x6,x7,x8,x9,x10,.slice a c.length cap,iv (c.length:Int),iv (k:Int),x14,x15,x16,x17,x18,x19,x20,x21,x22,x23] [] s:=by
  intro l
  induction l with
  | nil =>
    intro k M s x2 x4 x5 x14 x15 x16 x17 x18 x19 x20 x21 x22 x23 hd hk hmem hq
    have hkl:k=c.length:=by
      have:=congrArg List.length hd
      simp at this;omega
    subst hkl
    refine WC.loop' ?_
    simp only[c17l11,c17o3,Int.lt_irrefl,decide_false,Qa,Qb,Qc,Qd,Qe,Qf,Qg,Qh,Qi,Qj,Qk,Ql,Qm,Qn,true_and,and_true,Qo,Qp,Qq,Qr,Qs,Qt,Qu,Qv,Qw,Qx,Qy,Qz,Ra,Rb,Rc,Rd,Re,Rf,Rg,Rh,Ri,Rj,Rk,Rl,Rm,Ya,Yb,Yc,Rn,Ro,Rp,Yd,Ye,Rq,Rs,Rt,Ru,Rv,Rw,Rx]
    exact hq s _ _ _ _ _ _ _ _ _ _ _ _ _ _ _ _ _ _ _ _ _ hmem
  | cons x l ih =>
    intro k M s x2 x4 x5 x14 x15 x16 x17 x18 x19 x20 x21 x22 x23 hd hk hmem hq
    have hlt:k<c.length:=by
      have:=congrArg List.length hd
      simp at this;omega
    have hx:c[k]? = some x:=by
      have:=congrArg (fun l=>l[0]?) hd
      simpa using this
    have hd':c.drop (k+1)=l:=by
      rw[← List.drop_drop,hd];rfl
    obtain⟨p,o,rfl,hp,hload⟩:=hr k _ (get_ivs hx)
    have hxi:=hc x (List.mem_of_getElem? hx)
    have e1:=idx_slice (cap:=cap) (i:=p) (o:=o) Try.underlying23 sz3 hlt
    have e2:loadV Try.prog s 3 (.ptr (some (p,o+k * 1)))=some (iv x):=load_one ag3 (by rw[Nat.mul_one,load1_eq (hmem.old.2 p hp)];exact hload)
    have hkk:decide ((k:Int)<(c.length:Int))=true:=decide_eq_true (by omega)
    have e3:=bin_add Try.prog 3 (k:Int) 1 ⟨by omega,by omega⟩
    have e4:loadV Try.prog s 69 (.ptr (some (j,0)))=some (.map (some i)):=load_one ag69 hmem.know.cell
    refine WC.loop' ?_
    simp only[c17l11,c17o3,c17o4,c17o5,hkk,e1,e2,Qa,Qb,Qc,Qd,Qe,Qf,Qg,Qh,Qi,Qj,Qk,Ql,Qm,Qn,true_and,and_true,Qo,Qp,Qq,Qr,Qs,Qt,Qu,Qv,Qw,Qx,Qy,Qz,Ra,Rb,Rc,Rd,Re,Rf,Rg,Rh,Ri,Rj,Rk,Rl,Rm,Ya,Yb,Yc,Rn,Ro,Rp,Yd,Ye,Rq,Rs,Rt,Ru,Rv,Rw,Rx]
    refine(sign_ok hE x s hxi).mono ?_
    rintro _ _ ⟨rfl,rfl⟩
    by_cases h0:(signV x).2=0
    · have hi0:initV M (x::l)=initV M l:=by simp[initV,h0]
      rw[hi0]at hq
      simp only[c17o6,c17o10,h0,decide_true,if_true,e3,Qa,Qb,Qc,Qd,Qe,Qf,Qg,Qh,Qi,Qj,Qk,Ql,Qm,Qn,true_and,and_true,Qo,Qp,Qq,Qr,Qs,Qt,Qu,Qv,Qw,Qx,Qy,Qz,Ra,Rb,Rc,Rd,Re,Rf,Rg,Rh,Ri,Rj,Rk,Rl,Rm,Ya,Yb,Yc,Rn,Ro,Rp,Yd,Ye,Rq,Rs,Rt,Ru,Rv,Rw,Rx]
      rw[show((k:Int)+1)=((k+1:Nat):Int)from by omega]
      exact ih (k+1) M s _ _ _ _ _ _ _ _ _ _ _ _ _ hd' hlt hmem hq
    · simp only[c17o6,c17o7,h0,decide_false,e4,Qa,Qb,Qc,Qd,Qe,Qf,Qg,Qh,Qi,Qj,Qk,Ql,Qm,Qn,true_and,and_true,Qo,Qp,Qq,Qr,Qs,Qt,Qu,Qv,Qw,Qx,Qy,Qz,Ra,Rb,Rc,Rd,Re,Rf,Rg,Rh,Ri,Rj,Rk,Rl,Rm,Ya,Yb,Yc,Rn,Ro,Rp,Yd,Ye,Rq,Rs,Rt,Ru,Rv,Rw,Rx]
      refine(of_ok hE hmem.know.map hmem.know.signs x hxi).mono ?_
      rintro _ _ ⟨rfl,rfl⟩
      by_cases h1:0<ofV M x
      · have hi1:initV M (x::l)=none:=by simp[initV,h0,h1]
        rw[hi1]at hq
        simp only[c17o8,h1,decide_true,Qa,Qb,Qc,Qd,Qe,Qf,Qg,Qh,Qi,Qj,Qk,Ql,Qm,Qn,true_and,and_true,Qo,Qp,Qq,Qr,Qs,Qt,Qu,Qv,Qw,Qx,Qy,Qz,Ra,Rb,Rc,Rd,Re,Rf,Rg,Rh,Ri,Rj,Rk,Rl,Rm,Ya,Yb,Yc,Rn,Ro,Rp,Yd,Ye,Rq,Rs,Rt,Ru,Rv,Rw,Rx]
        exact hq s _ _ _ _ _ _ _ _ _ _ _ _ _ _ _ _ _ _ _ _ hmem.oldN
      · obtain⟨hn1,hn2⟩:=signV_neg hxi h0
        have hi1:initV M (x::l)=initV (litPut M (-x)) l:=by simp[initV,h0,h1]
        rw[hi1]at hq
        simp only[c17o9,h1,decide_false,e4,un_neg _ x hn1,Qa,Qb,Qc,Qd,Qe,Qf,Qg,Qh,Qi,Qj,Qk,Ql,Qm,Qn,true_and,and_true,Qo,Qp,Qq,Qr,Qs,Qt,Qu,Qv,Qw,Qx,Qy,Qz,Ra,Rb,Rc,Rd,Re,Rf,Rg,Rh,Ri,Rj,Rk,Rl,Rm,Ya,Yb,Yc,Rn,Ro,Rp,Yd,Ye,Rq,Rs,Rt,Ru,Rv,Rw,Rx]
        refine(set_ok hE hmem.know.map (-x) hn1).mono ?_
        rintro _ s1 ⟨rfl,g1,g2,g3⟩
        simp only[c17o10,e3,Qa,Qb,Qc,Qd,Qe,Qf,Qg,Qh,Qi,Qj,Qk,Ql,Qm,Qn,true_and,and_true,Qo,Qp,Qq,Qr,Qs,Qt,Qu,Qv,Qw,Qx,Qy,Qz,Ra,Rb,Rc,Rd,Re,Rf,Rg,Rh,Ri,Rj,Rk,Rl,Rm,Ya,Yb,Yc,Rn,Ro,Rp,Yd,Ye,Rq,Rs,Rt,Ru,Rv,Rw,Rx]
        rw[show((k:Int)+1)=((k+1:Nat):Int)from by omega]
        refine ih (k+1) _ s1 _ _ _ _ _ _ _ _ _ _ _ _ _ hd' hlt ⟨⟨g1,by rw[load1_eq (g3 j hmem.know.ne)];exact hmem.know.cell,hmem.know.ne,putM_signs hmem.know.signs ?_⟩,hmem.old.trans ⟨by omega,fun y hy=>g3 y (by have:=hmem.hi;omega)⟩,hmem.hi,g2.trans hmem.nx⟩ hq
        rcases(signV_range (-x) hn1).2 with h | h | h
        · exact .inl h
        · exact .inr h
        · exact absurd h hn2
set_option maxRecDepth 4000 in
theorem follows_ok{E:Env}(hE:Good E){s:ASt}{cs:List (List Int)}{c:List Int}(hcs:Fits cs)(hc:I64s c)(hcl:c.length<9223372036854775808){v u:AV}(hr:RowsOf s.next s v cs)(hu:SliceAt s.next s u (ivs c)){fuel:Nat}{b:Bool}(hf:followsV fuel cs c=some b):
    WF E 17 [v,u] (fun r s'=>r=.bool b∧OldN s.next s s') s:=by
  obtain⟨a,cap,rfl,hr⟩:=hr
  obtain⟨a2,cap2,rfl,hu⟩:=hu
  rw[List.length_map]
  refine hE.go comp17 (by decide) rfl ?_
  have hz:allocA Try.prog 69=some (mkRow 69 0 [.map none],.ptr):=by simp[allocA,zr69,AV.cells]
  simp only[c17,c17o0,c17o1,c17o2,hz,Made.val,on2,len_slice Try.underlying23,Qa,Qb,Qc,Qd,Qe,Qf,Qg,Qh,Qi,Qj,Qk,Ql,Qm,Qn,true_and,and_true,Qo,Qp,Qq,Qr,Qs,Qt,Qu,Qv,Qw,Qx,Qy,Qz,Ra,Rb,Rc,Rd,Re,Rf,Rg,Rh,Ri,Rj,Rk,Rl,Rm,Ya,Yb,Yc,Rn,Ro,Rp,Yd,Ye,Rq,Rs,Rt,Ru,Rv,Rw,Rx]
  let s1:=newObj s (.map [] 0)
  let s2:=newObj s1 (mkRow 69 0 [.map none])
  obtain⟨r,hr1,hr2,_,_,hr5,hr6⟩:=holds_mkRow 69 0 [.map none]
  have hg:s2.heap.get (s.next+1)=some (.row r):=by
    rw[heap_new,if_pos (show s.next+1=s1.next from rfl),hr1]
  have hst:=store_one (P:=Try.prog) (t:=69) sz69 (o:=0) (v:=.map (some s.next)) hg hr5 hr6 (by rw[hr2.1];decide) rfl rfl
  have hst':storeV Try.prog (newObj (newObj s (.map [] 0)) (mkRow 69 0 [.map none])) 69 (.ptr (some ((newObj s (.map [] 0)).next,0))) (.map (some s.next))=_:=hst
  simp only[hst',withV,Qa,Qb,Qc,Qd,Qe,Qf,Qg,Qh,Qi,Qj,Qk,Ql,Qm,Qn,true_and,and_true,Qo,Qp,Qq,Qr,Qs,Qt,Qu,Qv,Qw,Qx,Qy,Qz,Ra,Rb,Rc,Rd,Re,Rf,Rg,Rh,Ri,Rj,Rk,Rl,Rm,Ya,Yb,Yc,Rn,Ro,Rp,Yd,Ye,Rq,Rs,Rt,Ru,Rv,Rw,Rx]
  generalize hs3:setObj s2 (s.next+1) (.row { r with c:=r.c.fill 0 [.map (some s.next)],par:=none })=s3
  have k3:∀x,s3.heap.get x=if x=s.next+1 then some (.row { r with c:=r.c.fill 0 [.map (some s.next)],par:=none })else if x=s.next then some (.map [] 0)else s.heap.get x:=by
    intro x
    rw[← hs3,heap_set]
    by_cases h1:x=s.next+1
    · rw[if_pos h1,if_pos h1]
    · rw[if_neg h1,if_neg h1,heap_new,if_neg (show ¬ x=s1.next from h1),heap_new]
  have hmem:FolMem s.next s s3 s.next (s.next+1) []:=by
    refine⟨⟨⟨[],0,by rw[k3,if_neg (by omega),if_pos rfl],.nil⟩,?_,by omega,fun p hp=>by cases hp⟩,⟨by rw[← hs3];show s.next≤s.next+1+1;omega,fun x hx=>by rw[k3,if_neg (by omega),if_neg (by omega)]⟩,Nat.le_refl _,by rw[← hs3];rfl⟩
    refine load1_row (r:={ r with c:=r.c.fill 0 [.map (some s.next)],par:=none }) (by rw[k3,if_pos rfl]) (by rw[hr2.1];decide) ?_
    show(Tree.fill r.c 0 [AV.map (some s.next)]).get 0=_
    rw[Tree.get_fill,if_pos ⟨Nat.le_refl _,by simp⟩]
    rfl
  have hnx:(newObj s (.map [] 0)).next=s.next+1:=rfl
  rw[hnx]
  refine init_loop hE hc hcl hu _ _ _ _ _ _ _ c 0 [] s3 _ _ _ _ _ _ _ _ _ _ _ _ _ rfl (Nat.zero_le _) hmem ?_
  unfold followsV at hf
  cases hi:initV [] c with
  | none =>
    rw[hi]at hf
    injection hf with hf
    subst hf
    intro s' y4 y5 y6 y7 y8 y9 y10 y11 y12 y13 y14 y15 y16 y17 y18 y19 y20 y21 y22 y23 ho
    simp only[Qa,Qb,Qc,Qd,Qe,Qf,Qg,Qh,Qi,Qj,Qk,Ql,Qm,Qn,true_and,and_true,Qo,Qp,Qq,Qr,Qs,Qt,Qu,Qv,Qw,Qx,Qy,Qz,Ra,Rb,Rc,Rd,Re,Rf,Rg,Rh,Ri,Rj,Rk,Rl,Rm,Ya,Yb,Yc,Rn,Ro,Rp,Yd,Ye,Rq,Rs,Rt,Ru,Rv,Rw,Rx]
    exact ho
  | some M =>
    rw[hi]at hf
    intro s' y2 y4 y5 y6 y7 y8 y9 y10 y11 y12 y13 y14 y15 y16 y17 y18 y19 y20 y21 y22 y23 ho
    simp only[if_true,c17o12,c17o13,List.take_zero,List.drop_zero,Qa,Qb,Qc,Qd,Qe,Qf,Qg,Qh,Qi,Qj,Qk,Ql,Qm,Qn,true_and,and_true,Qo,Qp,Qq,Qr,Qs,Qt,Qu,Qv,Qw,Qx,Qy,Qz,Ra,Rb,Rc,Rd,Re,Rf,Rg,Rh,Ri,Rj,Rk,Rl,Rm,Ya,Yb,Yc,Rn,Ro,Rp,Yd,Ye,Rq,Rs,Rt,Ru,Rv,Rw,Rx]
    have hf:loopV cs fuel M=some b:=hf
    refine more_loop hE hcs hr _ _ fuel M s' b _ _ _ _ _ _ _ _ _ _ _ _ _ _ _ _ _ _ _ hf ho ?_
    intro e s4 y2 y4 y5 y6 y7 y8 y9 y10 y11 y12 y13 y14 y15 y16 y17 y18 y19 y20 y21 y22 y23 ho4 he
    rcases he with⟨rfl,rfl,rfl⟩ | ⟨rfl,rfl⟩
    · simp only[Qa,Qb,Qc,Qd,Qe,Qf,Qg,Qh,Qi,Qj,Qk,Ql,Qm,Qn,true_and,and_true,Qo,Qp,Qq,Qr,Qs,Qt,Qu,Qv,Qw,Qx,Qy,Qz,Ra,Rb,Rc,Rd,Re,Rf,Rg,Rh,Ri,Rj,Rk,Rl,Rm,Ya,Yb,Yc,Rn,Ro,Rp,Yd,Ye,Rq,Rs,Rt,Ru,Rv,Rw,Rx]
      exact ho4
    · simp only[if_true,c17o27,Qa,Qb,Qc,Qd,Qe,Qf,Qg,Qh,Qi,Qj,Qk,Ql,Qm,Qn,true_and,and_true,Qo,Qp,Qq,Qr,Qs,Qt,Qu,Qv,Qw,Qx,Qy,Qz,Ra,Rb,Rc,Rd,Re,Rf,Rg,Rh,Ri,Rj,Rk,Rl,Rm,Ya,Yb,Yc,Rn,Ro,Rp,Yd,Ye,Rq,Rs,Rt,Ru,Rv,Rw,Rx]
      exact ho4
def intsOf:List AV→Option (List Int)
  | []=>some []
  | .int .i64 n::l=>guardB (inRange .i64 n) ((intsOf l).bind fun r=>some (n::r))
  | _=>none
def readInts(s:ASt):AV→Option (List Int)
  | .slice none n _=>guardB (Nat.beq n 0) (some [])
  | .slice (some (i,o)) n _=>guardB (Nat.blt i s.next && Nat.ble n 1000) ((loadN s i o n).bind intsOf)
  | _=>none
def rowsOf(s:ASt):List AV→Option (List (List Int))
  | []=>some []
  | v::l=>(readInts s v).bind fun L=>(rowsOf s l).bind fun r=>some (L::r)
def readRows(s:ASt):AV→Option (List (List Int))
  | .slice none n _=>guardB (Nat.beq n 0) (some [])
  | .slice (some (i,o)) n _=>guardB (Nat.blt i s.next && Nat.ble n 1000) ((loadN s i o n).bind (rowsOf s))
  | _=>none
theorem i64_inRange{n:Int}(h:inRange .i64 n=true):i64 n:=by
  cases n with
  | ofNat m =>
    simp only[inRange,Nat.ble_eq]at h
    have e:Int.ofNat m=(m:Int):=rfl
    rw[e]
    exact⟨by omega,by omega⟩
  | negSucc m=>simp only[inRange,Nat.ble_eq]at h;exact⟨by omega,by omega⟩
theorem intsOf_ok:∀ {l:List AV}{L:List Int},intsOf l=some L→l=ivs L∧I64s L
  | [],L,h=>by injection h with h;subst h;exact⟨rfl,(fun x hx=>by cases hx)⟩
  | v::l,L,h=>by
    unfold intsOf at h
    split at h
    · rename_i e;cases e
    · rename_i n l' e
      injection e with e1 e2
      subst e1;subst e2
      obtain⟨h1,h2⟩:=guardB_some h
      simp only[Option.bind_eq_some_iff]at h2
      obtain⟨r,h3,h4⟩:=h2
      injection h4 with h4
      subst h4
      obtain⟨g1,g2⟩:=intsOf_ok h3
      refine⟨by rw[g1];rfl,fun x hx=>?_⟩
      rcases List.mem_cons.1 hx with rfl | hx
      · exact i64_inRange h1
      · exact g2 x hx
    · cases h
theorem loadN_one{s:ASt}{i o n:Nat}{l:List AV}(h:loadN s i o n=some l):l.length=n∧∀k u,l[k]? = some u→load1 s i (o+k)=some u:=by
  unfold loadN at h
  simp only[Option.bind_eq_some_iff]at h
  obtain⟨r,h1,h2⟩:=h
  obtain⟨h3,h4⟩:=guardB_some h2
  have hl:=Tree.take_length h4
  refine⟨hl,fun k u hk=>?_⟩
  have hlt:k<n:=by
    rcases Nat.lt_or_ge k n with h' | h'
    · exact h'
    · rw[List.getElem?_eq_none (by omega)]at hk;cases hk
  have h3:o+n≤r.n:=by simpa[Nat.ble_eq]using h3
  exact load1_row (by unfold rowAt at h1; split at h1; · injection h1 with h1; subst h1; assumption
                      · cases h1) (by omega) ((Tree.take_get h4 k hlt).trans hk)
theorem readInts_ok{s:ASt}{v:AV}{L:List Int}(h:readInts s v=some L):SliceAt s.next s v (ivs L)∧I64s L∧L.length≤1000:=by
  unfold readInts at h
  split at h
  · obtain⟨h1,h2⟩:=guardB_some h
    injection h2 with h2
    subst h2
    have:=Nat.eq_of_beq_eq_true h1
    subst this
    exact⟨⟨_,_,rfl,CellsAt.nil⟩,(fun x hx=>by cases hx),by decide⟩
  · rename_i i o n c
    obtain⟨h1,h2⟩:=guardB_some h
    simp only[Bool.and_eq_true]at h1
    simp only[Option.bind_eq_some_iff]at h2
    obtain⟨l,h3,h4⟩:=h2
    obtain⟨g1,g2⟩:=intsOf_ok h4
    obtain⟨g3,g4⟩:=loadN_one h3
    subst g1
    have hn:L.length=n:=by rw[← g3];simp
    refine⟨⟨some (i,o),c,by rw[g3],fun k u hk=>⟨i,o,rfl,by simpa[Nat.blt_eq]using h1.1,g4 k u hk⟩⟩,g2,?_⟩
    rw[hn]
    simpa[Nat.ble_eq]using h1.2
  · cases h
theorem rowsOf_ok{s:ASt}:∀ {l:List AV}{cs:List (List Int)},rowsOf s l=some cs→l.length=cs.length∧(∀ (k:Nat)(L:List Int),cs[k]? = some L→∃u:AV,l[k]? = some u∧readInts s u=some L)
  | [],cs,h=>by injection h with h;subst h;exact⟨rfl,fun k L hk=>by simp at hk⟩
  | v::l,cs,h=>by
    simp only[rowsOf,Option.bind_eq_some_iff]at h
    obtain⟨L,h1,r,h2,h3⟩:=h
    injection h3 with h3
    subst h3
    obtain⟨g1,g2⟩:=rowsOf_ok h2
    refine⟨by simp[g1],fun k L' hk=>?_⟩
    cases k with
    | zero=>simp at hk;subst hk;exact⟨v,rfl,h1⟩
    | succ k=>simpa using g2 k L' (by simpa using hk)
theorem fits_rows{s:ASt}{l:List AV}{cs:List (List Int)}(h:rowsOf s l=some cs)(hl:l.length≤1000):Fits cs:=by
  obtain⟨g1,g2⟩:=rowsOf_ok h
  refine⟨by omega,fun L hL=>?_⟩
  obtain⟨k,hk⟩:=List.mem_iff_getElem?.1 hL
  obtain⟨u,_,h2⟩:=g2 k L hk
  have:=readInts_ok h2
  exact⟨this.2.1,by have:=this.2.2;omega⟩
theorem readRows_ok{s:ASt}{v:AV}{cs:List (List Int)}(h:readRows s v=some cs):RowsOf s.next s v cs∧Fits cs:=by
  unfold readRows at h
  split at h
  · obtain⟨h1,h2⟩:=guardB_some h
    injection h2 with h2
    subst h2
    have:=Nat.eq_of_beq_eq_true h1
    subst this
    exact⟨⟨_,_,rfl,(fun k L hk=>by simp at hk)⟩,⟨by decide,(fun L hL=>by cases hL)⟩⟩
  · rename_i i o n c
    obtain⟨h1,h2⟩:=guardB_some h
    simp only[Bool.and_eq_true]at h1
    simp only[Option.bind_eq_some_iff]at h2
    obtain⟨l,h3,h4⟩:=h2
    obtain⟨g3,g4⟩:=loadN_one h3
    obtain⟨g1,g2⟩:=rowsOf_ok h4
    refine⟨⟨some (i,o),c,by rw[← g3,g1],fun k L hk=>?_⟩,fits_rows h4 (by rw[g3];simpa[Nat.ble_eq]using h1.2)⟩
    obtain⟨u,k1,k2⟩:=g2 k L hk
    exact⟨i,o,u,rfl,by simpa[Nat.blt_eq]using h1.1,g4 k u k1,(readInts_ok k2).1⟩
  · cases h
theorem EndRel.forget {P : Program} {ρ : Rho} {s s1 : ASt} {w w' : World} {v : AV} {e : Ending} {m : Nat} (h : EndRel P ρ s w v s1 e w') (ho : Old s.next s s1) (hm : s1.next ≤ m) (hf : FreshH ρ s) : EndRel P ρ s w v ⟨m, s.heap⟩ e w' := by
  cases e with
  | panicked c=>exact h
  | outgrown=>exact h
  | returned v' =>
    obtain⟨ρ',h1,h2,h3⟩:=h
    have sub:∀i o,s.heap.get i=some o→s1.heap.get i=some o:=by
      intro i o hi
      have:i<s.next:=by
        rcases Nat.lt_or_ge i s.next with h' | h'
        · exact h'
        · rw[(hf i h').2]at hi;cases hi
      rw[ho.2 i this];exact hi
    have hn:=ho.1
    refine⟨ρ',h1,⟨fun i o rb hi hr=>h2.obj i o rb (sub i o hi) hr,h2.lt,fun i j oi oj ri rj hne hi hj=>h2.sep i j oi oj ri rj hne (sub i oi hi) (sub j oj hj)⟩,
      ⟨h3.le,fun i hi hr=>h3.fresh i hi (hr.imp id fun(h':m≤i)=>by omega),Nat.le_trans hn hm,h3.size,h3.os,h3.tape,h3.output,h3.keep,?_,fun _ _ _=>rfl⟩⟩
    rintro b ⟨i,o,rb,k1,k2,k3,k4⟩
    exact h3.own b ⟨i,o,rb,sub i o k1,k2,k3,k4⟩
def natF:NatF:=fun f xs s=>bif Nat.beq f 17 then (match xs with
  | [v,u]=>(readRows s v).bind fun cs=>(readInts s u).bind fun c=>(followsV 100 cs c).bind fun b=>some (.bool b,⟨s.next+2,s.heap⟩)
  | _=>none)else none
theorem good_env:Good (env Try.prog):=⟨rfl,fun _ _ _ _=>rfl⟩
theorem natF_ok(hm:Try.prog.follows .mixedOrders=true)(hng:NoCount Try.prog):CallOk Try.prog natF:=by
  intro ρ s w f xs v s1 xs' h hi hf ha
  unfold natF at h
  cases hb:Nat.beq f 17 with
  | false=>rw[hb]at h;cases h
  | true =>
    rw[hb]at h
    have:=Nat.eq_of_beq_eq_true hb
    subst this
    simp only[cond_true]at h
    split at h
    · rename_i v0 u0
      simp only[Option.bind_eq_some_iff]at h
      obtain⟨cs,h1,c,h2,b,h3,h4⟩:=h
      injection h4 with h4
      injection h4 with h4 h5
      subst h4;subst h5
      obtain⟨g1,g2⟩:=readRows_ok h1
      obtain⟨g3,g4,g5⟩:=readInts_ok h2
      obtain⟨n,p,k1,k2,k3⟩:=follows_ok good_env g2 g4 (by omega) g1 g3 h3
      have:=(sim hm hng rfl (noNat_ok Try.prog) n).call ρ s w 17 _ p.1 p.2 xs' k1 hi hf ha
      refine⟨this.1,CallsIn.mono this.2 fun e w' he=>?_⟩
      rw[k2]at he
      exact he.forget k3.1 (by rw[k3.2];exact Nat.le_refl _) hf
    · cases h
def envF:Env:=⟨Try.prog,natF⟩
theorem orders20:Try.prog.follows .mixedOrders=true:=by kernel_rfl
theorem noCount20:noCountB Try.prog=true:=by kernel_rfl
theorem works_ran:isTrueA ((runA envF 100000).call 21 [] st0)=true:=by kernel_rfl
theorem closed_trueT {n : Nat} {f : FuncId} (h : isTrueA ((runA envF n).call f [] st0) = true) (w : World) :
    (∃fn c,Try.prog.funcs[f]? = some fn∧fn.body=some c)∧CallsIn Fence.wide 0 Try.prog f #[] w fun e w'=>e=.returned (.bool true)∧Kept w w'∧w'.tape=w.tape:=by
  cases hr:(runA envF n).call f [] st0 with
  | none=>rw[hr]at h;cases h
  | some p =>
    obtain⟨v,s1⟩:=p
    rw[hr]at h
    cases v with
    | bool b =>
      have hb:b=true:=h
      subst hb
      have:=(sim orders20 (noCount_of noCount20) rfl (natF_ok orders20 (noCount_of noCount20)) n).call rho0 st0 w f [] _ _ #[] hr (inv0 _ w) fresh0 .nil
      refine⟨this.1,CallsIn.mono this.2 ?_⟩
      intro e w' he
      cases e with
      | panicked c=>exact he.elim
      | outgrown=>exact he.elim
      | returned v' =>
        obtain⟨ρ',h1,h2,h3⟩:=he
        cases h1
        exact⟨rfl,kept_of h3 notOwned0,h3.tape⟩
    | _=>cases h
def natW:NatF:=fun f xs s=>bif Nat.beq f 21 then (match xs with
  | []=>some (.bool true,s)
  | _=>none)else none
theorem natW_ok : CallOk Try.prog natW := by
  intro ρ s w f xs v s1 xs' h hi hf ha
  unfold natW at h
  cases hb:Nat.beq f 21 with
  | false=>rw[hb]at h;cases h
  | true =>
    rw[hb]at h
    have:=Nat.eq_of_beq_eq_true hb
    subst this
    simp only[cond_true]at h
    split at h
    · injection h with h
      injection h with h1 h2
      subst h1;subst h2
      have hx:xs'=#[]:=by
        have hl:=ha.length
        exact Array.eq_empty_of_size_eq_zero (by simpa using hl.symm)
      subst hx
      obtain⟨g1,g2⟩:=closed_trueT works_ran w
      refine⟨g1,CallsIn.mono g2 fun e w' he=>?_⟩
      obtain⟨rfl,hk,ht⟩:=he
      refine⟨ρ,.bool true,⟨fun i o rb hi' hr=>(hi.obj i o rb hi' hr).mono (Rho.le_refl ρ) (hk.heap rb.b (hi.lt i rb hr)),fun i rb hr=>Nat.lt_of_lt_of_le (hi.lt i rb hr) hk.size,hi.sep⟩,
        ⟨Rho.le_refl ρ,fun _ h _=>h,Nat.le_refl _,hk.size,hk.os,ht,hk.output,fun b hb _=>hk.heap b hb,fun b hb=>.inl hb,fun _ _ _=>rfl⟩⟩
    · cases h
def envW:Env:=⟨Try.prog,natW⟩
theorem good_envW:Good envW:=by
  refine⟨rfl,fun f xs s hf=>?_⟩
  show natW f xs s=none
  unfold natW
  have:Nat.beq f 21=false:=by
    cases hb:Nat.beq f 21 with
    | true=>exact absurd (Nat.eq_of_beq_eq_true hb) hf
    | false=>rfl
  rw[this];rfl
end
end Go.Proofs.Ytilhhmkdcoajnaa.Am
set_option linter.unusedVariables false
set_option linter.unusedSimpArgs false
namespace Go.Proofs.Ytilhhmkdcoajnaa.Am
open Go
noncomputable section
theorem mapM_get{α β:Type}{f:α→Option β}:∀ {l:List α}{r:List β},l.mapM f=some r→r.length=l.length∧∀ (k:Nat)(a:α),l[k]? = some a→f a=r[k]?
  | [],r,h=>by
    simp at h
    subst h
    exact⟨rfl,fun k a hk=>by simp at hk⟩
  | x::l,r,h=>by
    rw[List.mapM_cons]at h
    simp only[bind,pure,Option.bind_eq_some_iff]at h
    obtain⟨y,h1,r',h2,h3⟩:=h
    injection h3 with h3
    subst h3
    obtain⟨g1,g2⟩:=mapM_get h2
    refine⟨by simp[g1],fun k a hk=>?_⟩
    cases k with
    | zero=>simp at hk;subst hk;simpa using h1
    | succ k=>simpa using g2 k a (by simpa using hk)
theorem cells_get{w:World}{a:Addr}{n:Nat}{cs:List Value}(h:w.cells? 0 a n=some cs):cs.length=n∧∀j,j<n→w.cell? (a.add j)=cs[j]? := by
  unfold World.cells? at h
  rw[if_pos (Nat.zero_le _)]at h
  obtain⟨g1,g2⟩:=mapM_get h
  exact⟨by simpa using g1,fun j hj=>g2 j j (by simp[hj])⟩
theorem cell_lt{w:World}{a:Addr}{v:Value}(h:w.cell? a=some v):a.block<w.heap.size:=by
  unfold World.cell? at h
  cases hb:w.heap[a.block]? with
  | none=>rw[hb]at h;cases h
  | some o =>
    rcases Nat.lt_or_ge a.block w.heap.size with h' | h'
    · exact h'
    · rw[Array.getElem?_eq_none h']at hb;cases hb
theorem add_lit(b off n:Nat):(⟨b,off,none⟩:Addr).add n=⟨b,off+n,none⟩:=by
  unfold Addr.add
  split
  · rename_i h;subst h;rfl
  · rfl
section
variable{H:Type}{enc:TypeId×Value→H}{P:Program}{w:World}{held:Bool}
theorem slice_open {t e : TypeId} {sz : Nat} (ht : P.underlying t = some (.slice e)) (hsz : P.cellsOf e = sz) (h0 : 0 < sz) {fuel : Nat} {cs : List Value} {x : DataW H × List MemPlace} (h : DataW.trod enc P w 0 (fun _ => true) held fuel t cs = some x) :
    cs=[.slice none 0 0]∨(∃a,cs=[.slice (some a) 0 0]) ∨
    ∃ (b off len cap n:Nat),cs=[.slice (some ⟨b,off,none⟩) len cap]∧len≤cap∧cap≤maxLen∧b<w.heap.size ∧
      ∀i,i<len→∃cs' y,DataW.trod enc P w 0 (fun _=>true) held n e cs'=some y∧cs'.length=sz∧∀j,j<sz→w.cell? ⟨b,off+i * sz+j,none⟩=cs'[j]? := by
  rcases DataW.trod_slice ht h with⟨h1,_⟩ | ⟨a,len,cap,elems,rest,n,h1,h2,h3,h4,h5,h6,h7,h8,h9,_⟩
  · exact .inl h1
  · rw[hsz]at h8 h9
    obtain⟨h9,h10⟩:=h9 rfl
    rcases Nat.eq_zero_or_pos cap with rfl | hcap
    · have:len=0:=by omega
      subst this
      exact .inr (.inl ⟨a,h2⟩)
    ·
      have first:∃v,w.cell? a=some v:=by
        rcases Nat.eq_zero_or_pos len with hl | hl
        · subst hl
          have:=h10 0 (by omega)
          have hlt:0<rest.length:=by omega
          rw[List.getElem?_eq_getElem hlt]at this
          simp only[Option.bind_eq_some_iff]at this
          obtain⟨cs',g1,_⟩:=this
          obtain⟨g2,g3⟩:=cells_get g1
          have g4:=g3 0 h0
          rw[List.getElem?_eq_getElem (show 0<cs'.length by omega)]at g4
          exact⟨_,by simpa[Addr.add]using g4⟩
        · have:=h8 0 hl
          rw[List.getElem?_eq_getElem (show 0<elems.length by omega)]at this
          simp only[Option.bind_eq_some_iff]at this
          obtain⟨cs',g1,_⟩:=this
          obtain⟨g2,g3⟩:=cells_get g1
          have g4:=g3 0 h0
          rw[List.getElem?_eq_getElem (show 0<cs'.length by omega)]at g4
          exact⟨_,by simpa[Addr.add]using g4⟩
      obtain⟨v,hv⟩:=first
      have hspot:=World.cell?_spot hv
      have hlt:=cell_lt hv
      obtain⟨b,off,spot⟩:=a
      have hspot:spot=none:=hspot
      subst hspot
      refine .inr (.inr ⟨b,off,len,cap,n,h2,h5,h6,hlt,fun i hi=>?_⟩)
      have:=h8 i hi
      rw[List.getElem?_eq_getElem (show i<elems.length by omega)]at this
      simp only[Option.bind_eq_some_iff]at this
      obtain⟨cs',g1,g2⟩:=this
      obtain⟨g3,g4⟩:=cells_get g1
      refine⟨cs',_,g2,g3,fun j hj=>?_⟩
      have:=g4 j hj
      rw[add_lit,add_lit]at this
      exact this
structure Door(P:Program)(w:World)(ρ:Rho)(s:ASt):Prop where
  inv:Inv P ρ s w
  fresh:FreshH ρ s
  ro:∀i o,s.heap.get i=some o→wr o=false
theorem door0(P:Program)(w:World):Door P w rho0 st0:=⟨inv0 P w,fresh0,fun i o h=>by cases h⟩
theorem Door.notOwned{ρ:Rho}{s:ASt}(h:Door P w ρ s)(b:Nat):¬ Owned ρ s b:=fun⟨i,o,rb,h1,h2,_⟩=>by rw[h.ro i o h1]at h2;cases h2
def roRow(e:TypeId)(sz:Nat)(cs:List AV):AObj:=.row { elem:=e,sz,n:=cs.length,c:=Tree.fill .leaf 0 cs,spare:=false,mode:=.ro,par:=none,bytes:=false }
theorem ro_get{cs:List AV}{k:Nat}{u:AV}(h:cs[k]? = some u):(Tree.fill .leaf 0 cs).get k=some u:=by
  have hlt:k<cs.length:=by
    rcases Nat.lt_or_ge k cs.length with h' | h'
    · exact h'
    · rw[List.getElem?_eq_none h']at h;cases h
  rw[Tree.get_fill,if_pos ⟨Nat.zero_le _,by omega⟩]
  simpa using h
theorem Door.row{ρ:Rho}{s:ASt}(h:Door P w ρ s)(e:TypeId)(sz b off:Nat)(cs:List AV)(hb:b<w.heap.size)(hc:∀k u,cs[k]? = some u→∃v,w.cell? ⟨b,off+k,none⟩=some v∧VRel ρ u v):
    ∃ρ',Door P w ρ' (newObj s (roRow e sz cs))∧ρ.le ρ'∧ρ' s.next=some ⟨b,off,cs.length,sz⟩:=by
  have hf:=h.fresh s.next (Nat.le_refl _)
  have hle:=setRho_le (rb:=⟨b,off,cs.length,sz⟩) hf.1
  refine⟨setRho ρ s.next ⟨b,off,cs.length,sz⟩,⟨⟨?_,?_,?_⟩,?_,?_⟩,hle,setRho_same _ _⟩
  · intro i o rb hi hr
    rw[heap_new]at hi
    by_cases e':i=s.next
    · subst e'
      rw[if_pos rfl]at hi
      injection hi with hi
      subst hi
      rw[setRho_same]at hr
      injection hr with hr
      subst hr
      refine⟨fun k v hk hv=>?_,Nat.le_refl _,rfl,fun _=>rfl,fun hm=>absurd rfl hm,fun p hp=>by cases hp⟩
      have hk:k<cs.length:=hk
      have hv:(Tree.fill .leaf 0 cs).get k=some v:=hv
      have hu:cs[k]? = some cs[k]:=List.getElem?_eq_getElem hk
      rw[ro_get hu]at hv
      injection hv with hv
      subst hv
      obtain⟨v',h1,h2⟩:=hc k _ hu
      exact⟨v',h1,h2.mono hle⟩
    · rw [if_neg e'] at hi
      rw[setRho_other _ e']at hr
      exact(h.inv.obj i o rb hi hr).mono hle rfl
  · intro i rb hr
    by_cases e':i=s.next
    · subst e'
      rw[setRho_same]at hr
      injection hr with hr
      subst hr
      exact hb
    · rw[setRho_other _ e']at hr
      exact h.inv.lt i rb hr
  · intro i j oi oj ri rj _ _ hj _ _ _ hw
    rw[heap_new]at hj
    by_cases e':j=s.next
    · rw[if_pos e']at hj
      injection hj with hj
      subst hj
      cases hw
    · rw [if_neg e'] at hj
      rw[h.ro j oj hj]at hw
      cases hw
  · intro i hi
    have hi:s.next+1≤i:=hi
    refine⟨?_,?_⟩
    · rw[setRho_other _ (by omega)];exact(h.fresh i (by omega)).1
    · rw[heap_new,if_neg (by omega)];exact(h.fresh i (by omega)).2
  · intro i o hi
    rw[heap_new]at hi
    by_cases e':i=s.next
    · rw[if_pos e']at hi
      injection hi with hi
      subst hi
      rfl
    · rw[if_neg e']at hi
      exact h.ro i o hi
def Enter(P:Program)(w:World){α:Type}(p:ASt→List AV→α→Prop)(cs:List Value)(ρ:Rho)(s:ASt):Prop:=
  ∃ρ' s' us x,Door P w ρ' s'∧ρ.le ρ'∧Old s.next s s'∧VRels ρ' us cs∧p s' us x
theorem enter_list {α : Type} {p : ASt → List AV → α → Prop} (hp : ∀ s s' us x, p s us x → Old s.next s s' → p s' us x) {sz b off len : Nat}
    (hel:∀i,i<len→∃cs':List Value,cs'.length=sz∧(∀j,j<sz→w.cell? ⟨b,off+i * sz+j,none⟩=cs'[j]?)∧∀ρ s,Door P w ρ s→Enter P w p cs' ρ s):
    ∀ (m : Nat), m ≤ len → ∀ ρ s, Door P w ρ s → ∃ (ρ' : Rho) (s' : ASt) (us : List AV) (xs : List α), Door P w ρ' s' ∧ ρ.le ρ' ∧ Old s.next s s' ∧ us.length = m * sz ∧ xs.length = m ∧
      (∀k u,us[k]? = some u→∃v,w.cell? ⟨b,off+k,none⟩=some v∧VRel ρ' u v)∧∀ (k:Nat) (x:α),xs[k]? = some x→p s' ((us.drop (k * sz)).take sz) x:=by
  intro m
  induction m with
  | zero=>intro _ ρ s h;exact⟨ρ,s,[],[],h,Rho.le_refl ρ,Old.refl _ _,by simp,rfl,fun k u hk=>by simp at hk,fun k x hk=>by simp at hk⟩
  | succ m ih =>
    intro hm ρ s h
    obtain⟨ρ1,s1,us,xs,g1,g2,g3,g4,g5,g6,g7⟩:=ih (by omega) ρ s h
    obtain⟨cs',k1,k2,k3⟩:=hel m (by omega)
    obtain⟨ρ2,s2,vs,y,q1,q2,q3,q4,q5⟩:=k3 ρ1 s1 g1
    have hvl:vs.length=sz:=by rw[q4.length,k1]
    refine⟨ρ2,s2,us++vs,xs++[y],q1,Rho.le_trans g2 q2,g3.trans (q3.mono g3.1),by rw[List.length_append,g4,hvl,Nat.add_mul,Nat.one_mul],by simp[g5],fun k u hk=>?_,fun k x hk=>?_⟩
    · rcases Nat.lt_or_ge k us.length with hlt | hge
      · rw[List.getElem?_append_left hlt]at hk
        obtain⟨v,e1,e2⟩:=g6 k u hk
        exact⟨v,e1,e2.mono q2⟩
      · rw[List.getElem?_append_right hge]at hk
        have hj:k - us.length<sz:=by
          rcases Nat.lt_or_ge (k - us.length) vs.length with h' | h'
          · omega
          · rw[List.getElem?_eq_none h']at hk;cases hk
        obtain⟨v,e1,e2⟩:=q4.get hk
        refine⟨v,?_,e2⟩
        have:=k2 (k - us.length) hj
        rw[e1]at this
        rw[show off+k=off+m * sz+(k - us.length) by omega]
        exact this
    · rcases Nat.lt_or_ge k m with hlt | hge
      · rw[List.getElem?_append_left (by omega)]at hk
        have:=hp s1 s2 _ _ (g7 k x hk) q3
        have hks:(k+1) * sz≤m * sz:=Nat.mul_le_mul_right _ hlt
        rw[Nat.add_mul,Nat.one_mul]at hks
        rw[List.drop_append_of_le_length (by omega),List.take_append_of_le_length (by rw[List.length_drop];omega)]
        exact this
      · rw[List.getElem?_append_right (by omega)]at hk
        have hk0:k=m:=by
          rcases Nat.lt_or_ge (k - xs.length) 1 with h' | h'
          · omega
          · rw[List.getElem?_eq_none (by simpa using h')]at hk;cases hk
        subst hk0
        have hxy:y=x:=by simpa[g5]using hk
        subst hxy
        rw[← g4,List.drop_left' rfl,List.take_of_length_le (by omega)]
        exact q5
def CapIn(s:ASt)(a:Option (Nat×Nat))(cap:Option Nat)(n sz:Nat):Prop:=(∃c,cap=some c∧n≤c∧(a=none→c=0))∨(n=0∧cap=none∧∃i r,a=some (i,0)∧i<s.next∧s.heap.get i=some (.row r)∧r.sz=sz)
def SliceIn{α:Type}(p:ASt→List AV→α→Prop)(sz:Nat)(s:ASt)(us:List AV)(xs:List α):Prop:=
  ∃a cap,us=[.slice a xs.length cap]∧xs.length≤maxLen∧CapIn s a cap xs.length sz∧∀ (k:Nat) (x:α),xs[k]? = some x→∃i o vs,a=some (i,o)∧i<s.next∧vs.length=sz∧(∀j u,vs[j]? = some u→load1 s i (o+k * sz+j)=some u)∧p s vs x
theorem enter_slice {α : Type} {p : ASt → List AV → α → Prop} (hp : ∀ s s' us x, p s us x → Old s.next s s' → p s' us x) {t e : TypeId} {sz : Nat} (ht : P.underlying t = some (.slice e)) (hsz : P.cellsOf e = sz) (h0 : 0 < sz)
    (hel:0<w.heap.size→∀ (n:Nat) (cs:List Value) (y:DataW H×List MemPlace),DataW.trod enc P w 0 (fun _=>true) held n e cs=some y→cs.length=sz→∀ρ s,Door P w ρ s→Enter P w p cs ρ s)
    {fuel:Nat} {cs:List Value} {x:DataW H×List MemPlace} (h:DataW.trod enc P w 0 (fun _=>true) held fuel t cs=some x) (hw:∀a,cs=[.slice (some a) 0 0]→0<w.heap.size) {ρ:Rho} {s:ASt} (hd:Door P w ρ s):Enter P w (SliceIn p sz) cs ρ s:=by
  rcases slice_open ht hsz h0 h with rfl | ⟨a,rfl⟩ | ⟨b,off,len,cap,n,rfl,h1,h2,h3,h4⟩
  · exact⟨ρ,s,[.slice none 0 (some 0)],[],hd,Rho.le_refl ρ,Old.refl _ _,.cons .sliceNil .nil,none,some 0,rfl,Nat.zero_le _,.inl ⟨0,rfl,Nat.le_refl _,fun _=>rfl⟩,fun k x hk=>by simp at hk⟩
  · obtain⟨ρ',g1,g2,g3⟩:=hd.row e sz 0 0 [] (hw a rfl) (fun k u hk=>by simp at hk)
    exact⟨ρ',_,[.slice (some (s.next,0)) 0 none],[],g1,g2,Old.new s _,.cons (.sliceEnd g3 h0 (Nat.le_refl _) (by show 0<0+sz;omega)) .nil,_,_,rfl,Nat.zero_le _,.inr ⟨rfl,rfl,s.next,{ elem:=e,sz,n:=0,c:=Tree.fill .leaf 0 [],spare:=false,mode:=.ro,par:=none,bytes:=false },rfl,Nat.lt_succ_self _,by rw[heap_new,if_pos rfl];rfl,rfl⟩,fun k x hk=>by simp at hk⟩
  · obtain⟨ρ1,s1,us,xs,g1,g2,g3,g4,g5,g6,g7⟩:=enter_list (w:=w) (P:=P) hp (sz:=sz) (b:=b) (off:=off) (len:=len) (fun i hi=>by
      obtain⟨cs',y,q1,q2,q3⟩:=h4 i hi
      exact⟨cs',q2,q3,fun ρ s hd=>hel (by omega) n cs' y q1 q2 ρ s hd⟩) len (Nat.le_refl _) ρ s hd
    obtain⟨ρ2,k1,k2,k3⟩:=g1.row e sz b off us h3 g6
    have o2:Old s1.next s1 (newObj s1 (roRow e sz us)):=Old.new s1 _
    refine⟨ρ2,_,[.slice (some (s1.next,0)) xs.length (some cap)],xs,k1,Rho.le_trans g2 k2,g3.trans (o2.mono g3.1),?_,some (s1.next,0),some cap,rfl,by omega,.inl ⟨cap,rfl,by omega,fun h=>by cases h⟩,fun k x hk=>?_⟩
    · rw[g5]
      exact .cons (.slice k3 h1) .nil
    · have hkl:k<len:=by
        rcases Nat.lt_or_ge k xs.length with h' | h'
        · omega
        · rw[List.getElem?_eq_none h']at hk;cases hk
      have hks:(k+1) * sz≤len * sz:=Nat.mul_le_mul_right _ hkl
      rw[Nat.add_mul,Nat.one_mul]at hks
      refine⟨s1.next,0,(us.drop (k * sz)).take sz,rfl,Nat.lt_succ_self _,by rw[List.length_take,List.length_drop];omega,fun j u hj=>?_,hp s1 _ _ _ (g7 k x hk) o2⟩
      rw[List.getElem?_take]at hj
      split at hj
      · rename_i hjs
        rw[List.getElem?_drop]at hj
        rw[Nat.zero_add]
        exact load1_row (r:={ elem:=e,sz,n:=us.length,c:=Tree.fill .leaf 0 us,spare:=false,mode:=.ro,par:=none,bytes:=false }) (by rw[heap_new,if_pos rfl];rfl) (by show k * sz+j<us.length;omega) (ro_get hj)
      · cases hj
end
def Dest(s:ASt)(v:AV)(n sz:Nat)(cs:List AV)(O:List Nat):Prop:=
  (∃a,v=.slice a n (some n)∧O=[]∧cs.length=n * sz∧(a=none→n=0)∧∀i o,a=some (i,o)→i<s.next∧loadN s i o (n * sz)=some cs) ∨
  (∃i p,v=.slice (some (i,0)) n none∧Grow 0 s.next s v n sz cs i p∧O=i::p.toList)
theorem Dest.nil(s:ASt)(sz:Nat):Dest s (.slice none 0 (some 0)) 0 sz [] []:=.inl ⟨none,rfl,rfl,by simp,fun _=>rfl,fun i o h=>by cases h⟩
theorem Dest.len{s:ASt}{v:AV}{n sz:Nat}{cs:List AV}{O:List Nat}(h:Dest s v n sz cs O):cs.length=n * sz:=by
  rcases h with⟨a,h1,h2,h3,h4⟩ | ⟨i,p,h1,h2,h3⟩
  · exact h3
  · exact h2.len
theorem loadN_eq{s s':ASt}{i o n:Nat}(h:s'.heap.get i=s.heap.get i):loadN s' i o n=loadN s i o n:=by unfold loadN rowAt;rw[h]
theorem Dest.lt {s : ASt} {v : AV} {n sz : Nat} {cs : List AV} {O : List Nat} (h : Dest s v n sz cs O) : ∀ j ∈ O, j < s.next := by
  rcases h with⟨a,h1,h2,h3,h4⟩ | ⟨i,p,h1,h2,h3⟩
  · subst h2;intro j hj;cases hj
  · subst h3
    intro j hj
    rcases h2.ex with⟨e,_⟩ | ⟨_,_,k2,k3,_⟩
    · rw[h1]at e;cases e
    · rcases List.mem_cons.1 hj with rfl | hj
      · exact k2
      · cases p with
        | none=>cases hj
        | some q =>
          have:j=q:=by simpa using hj
          rw[this]
          exact(k3 q rfl).2.1
def slot:AV→Option Nat
  | .slice (some (i,_)) _ _=>some i
  | _=>none
theorem Dest.frame{s s':ASt}{v:AV}{n sz:Nat}{cs:List AV}{O:List Nat}(h:Dest s v n sz cs O)(hn:s.next≤s'.next)(hf:∀j,slot v=some j→s'.heap.get j=s.heap.get j):Dest s' v n sz cs O:=by
  rcases h with⟨a,rfl,h2,h3,h4,h5⟩ | ⟨i,p,rfl,h2,h3⟩
  · refine .inl ⟨a,rfl,h2,h3,h4,fun i o e=>?_⟩
    obtain⟨k1,k2⟩:=h5 i o e
    subst e
    exact⟨by omega,by rw[loadN_eq (hf i rfl)];exact k2⟩
  · exact .inr ⟨i,p,rfl,(h2.mono hn).frame fun _ _=>hf i rfl,h3⟩
theorem Dest.cells {s : ASt} {v : AV} {n sz : Nat} {cs : List AV} {O : List Nat} (h : Dest s v n sz cs O) : ∃ a cap, v = .slice a n cap ∧ CellsAt s.next s a cs := by
  rcases h with⟨a,rfl,h2,h3,h4,h5⟩ | ⟨i,p,rfl,h2,h3⟩
  · refine⟨a,_,rfl,fun k u hk=>?_⟩
    have hlt:k<cs.length:=by
      rcases Nat.lt_or_ge k cs.length with h | h
      · exact h
      · rw[List.getElem?_eq_none h]at hk;cases hk
    cases a with
    | none=>rw[h4 rfl]at h3;simp at h3;subst h3;simp at hlt
    | some io =>
      obtain⟨i,o⟩:=io
      obtain⟨k1,k2⟩:=h5 i o rfl
      refine⟨i,o,rfl,k1,?_⟩
      unfold loadN at k2
      simp only[Option.bind_eq_some_iff]at k2
      obtain⟨r,g1,g2⟩:=k2
      have g3:Nat.ble (o+n * sz) r.n=true∧r.c.take o (n * sz)=some cs:=by
        cases hb:Nat.ble (o+n * sz) r.n with
        | true=>rw[hb]at g2;exact⟨rfl,g2⟩
        | false=>rw[hb]at g2;cases g2
      have g4:o+n * sz≤r.n:=by simpa[Nat.ble_eq]using g3.1
      have g5:=Tree.take_get g3.2 k (by omega)
      rw[hk]at g5
      have g6:s.heap.get i=some (.row r):=by
        unfold rowAt at g1
        split at g1
        · injection g1 with g1;subst g1;assumption
        · cases g1
      exact load1_row g6 (by omega) g5
  · obtain⟨a,cap,e,hc⟩:=h2.cells
    exact⟨a,cap,e,hc⟩
theorem Dest.append {P : Program} {st xt e : TypeId} {sz by_ : Nat} (ht : P.underlying st = some (.slice e)) (hs : sizeT P e = some sz) (hb : bytesT P e = some by_) (h0 : 0 < sz) (hx : isSliceOrStr P xt = true) (hz : zeroOk P e sz = true) {s : ASt} {v : AV} {n : Nat} {cs : List AV} {O : List Nat} (h : Dest s v n sz cs O)
    {ax:Option (Nat×Nat)} {m:Nat} {cx:Option Nat} {add:List AV} (hsrc:srcCells P s e sz (.slice ax m cx)=some (m,add)) (ha:add.length=m * sz) (hc:allCells add=true) (h1:(n+m) * by_≤1099511627776) (h2:n+m≤1099511627776):
    ∃v' s' O',appendA P s [st,xt] [v,.slice ax m cx]=some (v',s')∧Dest s' v' (n+m) sz (cs++add) O'∧s.next≤s'.next∧s'.next≤s.next+1∧(∀j,j<s.next→j ∉ O→s'.heap.get j=s.heap.get j)∧(∀j∈O',j∈O∨s.next≤j)∧(∀j,slot v'=some j→slot v=some j∨s.next≤j):=by
  have hlen:=h.len
  rcases Nat.eq_zero_or_pos m with rfl | hm
  ·
    have hadd:add=[]:=by simp at ha;exact ha
    subst hadd
    rw[List.append_nil,Nat.add_zero]
    rcases h with⟨a,rfl,rfl,h3,h4,h5⟩ | ⟨i,p,rfl,h6,h7⟩
    · refine ⟨.slice a n (some n), s, [], ?_, .inl ⟨a, rfl, rfl, h3, h4, h5⟩, Nat.le_refl _, Nat.le_succ _, fun _ _ _ => rfl, fun j hj => (by cases hj), fun j hj => .inl hj⟩
      rw[appendA_eq ht hs hb h0 hx hsrc hc h1 h2]
      cases a with
      | none=>rw[h4 rfl];rfl
      | some io =>
        obtain⟨i,o⟩:=io
        simp only[appTo,appExact,Nat.add_zero,ble_of (Nat.le_refl n),cond_true,storeN,Option.bind_some]
    · refine ⟨.slice (some (i, 0)) n none, s, O, ?_, .inr ⟨i, p, rfl, h6, h7⟩, Nat.le_refl _, Nat.le_succ _, fun _ _ _ => rfl, fun j hj => .inl hj, fun j hj => .inl hj⟩
      rw[appendA_eq ht hs hb h0 hx hsrc hc h1 h2]
      rcases h6.ex with⟨e',_⟩ | ⟨_,k1,k2,k3,r,k4,k5,k6,k7,k8,k9⟩
      · cases e'
      · have hrow : rowAt s i = some r := by simp [rowAt, k4]
        have hrn:r.n=n * sz:=by rw[k5.1,h6.len]
        simp only[appTo,hrow,Option.bind_some,appOpen,k8,beq_of rfl,guardB,cond_true,Nat.add_zero,Nat.zero_add]
        rw[show Nat.ble (n * sz) r.n=true from ble_of (by omega)]
        simp only[cond_true,storeN,Option.bind_some]
  · rcases h with ⟨a, rfl, rfl, h3, h4, h5⟩ | ⟨i, p, rfl, h6, h7⟩
    ·
      refine⟨.slice (some (s.next,0)) (n+m) none,newObj s (grownRow e sz (Tree.fill .leaf 0 (cs++add)) (cs++add).length none),[s.next],?_,?_,Nat.le_succ _,Nat.le_refl _,fun j hj _=>by rw[heap_new,if_neg (by omega)],fun j hj=>by simp at hj;right;omega,fun j hj=>by simp[slot]at hj;right;omega⟩
      · rw[appendA_eq ht hs hb h0 hx hsrc hc h1 h2]
        cases a with
        | none =>
          have hn0:=h4 rfl
          subst hn0
          have:cs=[]:=by simp at h3;exact h3
          subst this
          simp only[appTo,beq_off (show m≠0 by omega),cond_false,appFresh,guardB,hz,cond_true,List.nil_append,Nat.zero_add]
        | some io =>
          obtain⟨i,o⟩:=io
          obtain⟨k1,k2⟩:=h5 i o rfl
          simp only[appTo,appExact,ble_off (show n<n+m by omega),cond_false,k2,Option.bind_some,appFresh,guardB,hz,cond_true]
      · refine .inr ⟨s.next,none,rfl,⟨by rw[List.length_append,h3,ha,Nat.add_mul],.inr ⟨rfl,Nat.zero_le _,Nat.lt_succ_self _,fun q hq=>(by cases hq),_,by rw[heap_new,if_pos rfl];rfl,⟨rfl,?_⟩,rfl,rfl,rfl,rfl⟩⟩,rfl⟩
        intro k u hk
        have hlt:k<(cs++add).length:=by
          rcases Nat.lt_or_ge k (cs++add).length with h' | h'
          · exact h'
          · rw[List.getElem?_eq_none h']at hk;cases hk
        show(Tree.fill .leaf 0 (cs++add)).get k=some u
        rw[Tree.get_fill,if_pos ⟨Nat.zero_le _,by omega⟩]
        simpa using hk
    · obtain⟨a,cap,v',s',e1,e2,i',p',g1,g2,g3,g4,g5,g6,_⟩:=h6.appTo (Nat.le_refl _) (Nat.zero_le _) hz h0 ha hm
      injection e1 with e1 e3 e4
      subst e1;subst e4
      have hv':v'=.slice (some (i',0)) (n+m) none:=by
        rcases g1.ex with⟨_,e⟩ | ⟨e,_⟩
        · omega
        · exact e
      refine⟨v',s',i'::p'.toList,?_,.inr ⟨i',p',hv',g1,rfl⟩,g2.1,by omega,?_,?_,?_⟩
      · rw[appendA_eq ht hs hb h0 hx hsrc hc h1 h2]
        exact e2
      · intro j hj hO
        subst h7
        refine g2.2 j hj (fun e=>hO (by simp[e])) (fun e=>hO (by simp[e]))
      · intro j hj
        subst h7
        rcases List.mem_cons.1 hj with rfl | hj
        · right;omega
        · rcases g5 with rfl | rfl
          · cases hj
          · simp at hj;left;simp[hj]
      · intro j hj
        rw[hv']at hj
        simp[slot]at hj
        right;omega
theorem src_one{P:Program}{e:TypeId}{s:ASt}{i:Nat}{cs:List AV}{n:Nat}{cap:Option Nat}{sz:Nat}(ty:TypeId)(z:Nat)(hg:s.heap.get i=some (mkRow ty z cs))(hl:cs.length=n * sz):srcCells P s e sz (.slice (some (i,0)) n cap)=some (n,cs):=by
  obtain⟨r,h1,h2,_⟩:=holds_mkRow ty z cs
  rw[h1]at hg
  have:=loadN_holds hg h2 0 cs (by omega) (fun j u hj=>by simpa using hj)
  rw[hl]at this
  simp[srcCells,srcN_load this]
end
end Go.Proofs.Ytilhhmkdcoajnaa.Am
set_option linter.unusedVariables false
set_option linter.unusedSimpArgs false
namespace Go.Proofs.Ytilhhmkdcoajnaa.Am
open Go Go.Proofs
noncomputable section
theorem drop_facts{α:Type}{L l:List α}{k:Nat}{x:α}(h:L.drop k=x::l):k<L.length∧L[k]? = some x∧L.drop (k+1)=l:=by
  refine⟨?_,?_,?_⟩
  · have:=congrArg List.length h
    simp at this;omega
  · have:=congrArg (fun l=>l[0]?) h
    simpa using this
  · rw[← List.drop_drop,h];rfl
theorem drop_end{α:Type}{L:List α}{k:Nat}(h:L.drop k=[])(hk:k≤L.length):k=L.length:=by
  have:=congrArg List.length h
  simp at this;omega
theorem again_r(s:ASt)(loc var:List AV)(f:ASt→List AV→Option AV)(xs:List CX)(a:CX):again1 s loc var ⟨none,.r f,xs,a⟩=sameA (f s (Qh loc var xs)) (cev loc var a):=by
  simp[again1,vals_eq,readA,wantedA]
theorem sameA_some(u v:AV):sameA (some u) v=eqA u v:=rfl
theorem bld_one{P:Program}{t e:TypeId}(ht:P.underlying t=some (.slice e))(hs:sizeT P e=some 1){z v:AV}(hz:zeroT P e=some z)(hzc:z.cells.length=1)(hv:v.cells=[v]):
    sliceRowA P t 1 (zipIdx [0] [v])=some (mkRow e 1 [v]):=by
  have hzl:(rep z.cells 1).length=1:=by simp[rep,hzc]
  have:∃c,rep z.cells 1=[c]:=List.length_eq_one_iff.1 hzl
  obtain⟨c,hc⟩:=this
  simp[sliceRowA,ht,hs,guardB,hz,hzc,zipIdx,fillA,hv,hc]
  rfl
theorem bld_zero{P:Program}{t e:TypeId}(ht:P.underlying t=some (.slice e))(hs:sizeT P e=some 1){z:AV}(hz:zeroT P e=some z)(hzc:z.cells.length=1):
    sliceRowA P t 0 (zipIdx [] [])=some (mkRow e 1 []):=by
  simp[sliceRowA,ht,hs,guardB,hz,hzc,zipIdx,fillA,rep]
  rfl
theorem zero3:zeroOk Try.prog 3 1=true:=by simp[zeroOk,zr3,AV.cells]
theorem strx(t:TypeId)(e:TypeId)(h:Try.prog.underlying t=some (.slice e)):isSliceOrStr Try.prog t=true:=by simp[isSliceOrStr,h]
theorem cells_ivs(L:List Int):allCells (ivs L)=true:=by
  induction L with
  | nil=>rfl
  | cons x l ih=>simpa[allCells,AV.isCell]using ih
theorem Dest.slot_lt{s:ASt}{v:AV}{n sz:Nat}{cs:List AV}{O:List Nat}(hd:Dest s v n sz cs O):∀j,slot v=some j→j<s.next:=by
  intro j hj
  rcases hd with⟨a,rfl,h2,h3,h4,h5⟩ | ⟨i,p,rfl,h2,h3⟩
  · cases a with
    | none=>cases hj
    | some io=>obtain⟨i,o⟩:=io;simp[slot]at hj;subst hj;exact(h5 i o rfl).1
  · simp[slot]at hj;subst hj
    rcases h2.ex with⟨e,_⟩ | ⟨_,_,k2,_⟩
    · cases e
    · exact k2
theorem Dest.new{s:ASt}{v:AV}{n sz:Nat}{cs:List AV}{O:List Nat}(hd:Dest s v n sz cs O)(o:AObj):Dest (newObj s o) v n sz cs O:=
  hd.frame (Nat.le_succ _) fun j hj=>by rw[heap_new,if_neg (by have:=hd.slot_lt j hj;omega)]
theorem Dest.slice{s:ASt}{v:AV}{n:Nat}{cs:List AV}{O:List Nat}(hd:Dest s v n 1 cs O):SliceAt s.next s v cs:=by
  obtain⟨a,cap,h1,h2⟩:=hd.cells
  have:=hd.len
  exact⟨a,cap,by rw[this,Nat.mul_one];exact h1,h2⟩
def RowCells(b:Nat)(s:ASt)(us:List AV)(cs:List (List Int)):Prop:=us.length=cs.length∧∀ (k:Nat)(L:List Int),cs[k]? = some L→∃u:AV,us[k]? = some u∧SliceAt b s u (ivs L)
theorem RowCells.mono{b b':Nat}{s:ASt}{us:List AV}{cs:List (List Int)}(h:RowCells b s us cs)(k:b≤b'):RowCells b' s us cs:=
  ⟨h.1,fun j L hj=>let ⟨u,h1,h2⟩:=h.2 j L hj;⟨u,h1,h2.mono k⟩⟩
theorem RowCells.nil(b:Nat)(s:ASt):RowCells b s [] []:=⟨rfl,fun k L h=>by simp at h⟩
theorem RowCells.append{b:Nat}{s:ASt}{us us':List AV}{cs cs':List (List Int)}(h:RowCells b s us cs)(h':RowCells b s us' cs'):RowCells b s (us++us') (cs++cs'):=by
  refine⟨by simp[h.1,h'.1],fun k L hk=>?_⟩
  rcases Nat.lt_or_ge k cs.length with hlt | hge
  · rw[List.getElem?_append_left hlt]at hk
    obtain⟨u,h1,h2⟩:=h.2 k L hk
    exact⟨u,by rw[List.getElem?_append_left (by rw[h.1];exact hlt)];exact h1,h2⟩
  · rw[List.getElem?_append_right hge]at hk
    obtain⟨u,h1,h2⟩:=h'.2 _ L hk
    exact⟨u,by rw[List.getElem?_append_right (by rw[h.1];exact hge),h.1];exact h1,h2⟩
theorem RowCells.one{b:Nat}{s:ASt}{u:AV}{L:List Int}(h:SliceAt b s u (ivs L)):RowCells b s [u] [L]:=by
  refine⟨rfl,fun k L' hk=>?_⟩
  cases k with
  | zero=>simp at hk;subst hk;exact⟨u,rfl,h⟩
  | succ k=>simp at hk
theorem zero23:zeroOk Try.prog 23 1=true:=by simp[zeroOk,zr23,AV.cells]
def without{α:Type}(l:List α):Option Nat→List α
  | none=>l
  | some i=>l.take i++l.drop (i+1)
theorem bin_rem{P:Program}{t:TypeId}{k:IntKind}{a b:Int}(ha:0≤a)(hb:0<b):binA P .rem t (.int k a) (.int k b)=some (.int k (a % b)):=by
  have hne:b≠0:=by omega
  have e1:a.tmod b=a % b:=Int.tmod_eq_emod_of_nonneg ha
  have hk:sameKind k k=true:=by cases k<;>rfl
  show guardB (sameKind k k) ((runP P (Op.intDiv .rem k a b)).bind ofValue)=_
  rw[hk]
  unfold Op.intDiv
  rw[if_neg hne,e1]
  rfl
def i8(n:Int):Prop:=-128≤n∧n≤127
theorem max_i64(a b:Int):minMax true (iv a) [iv b]=some (iv (max a b)):=by
  show guardB true (some (AV.int .i64 (bif ltI a b then b else a)))=_
  rw[ltI_eq]
  by_cases h:a<b
  · rw[decide_eq_true h];simp only[cond_true,guardB];rw[Int.max_eq_right (by omega)]
  · rw[decide_eq_false h];simp only[cond_false,guardB,cond_true];rw[Int.max_eq_left (by omega)]
theorem SliceAt.keep{b:Nat}{s s':ASt}{u:AV}{cs:List AV}(h:SliceAt b s u cs)(k:∀j,slot u=some j→s'.heap.get j=s.heap.get j):SliceAt b s' u cs:=by
  obtain⟨a,cap,rfl,hc⟩:=h
  refine⟨a,cap,rfl,fun x y hy=>?_⟩
  obtain⟨i,o,rfl,h2,h3⟩:=hc x y hy
  exact⟨i,o,rfl,h2,by rw[load1_eq (k i rfl)];exact h3⟩
theorem RowCells.keep{b:Nat}{s s':ASt}{us:List AV}{cs:List (List Int)}(h:RowCells b s us cs)(k:∀u∈us,∀j,slot u=some j→s'.heap.get j=s.heap.get j):RowCells b s' us cs:=
  ⟨h.1,fun j L hj=>let ⟨u,h1,h2⟩:=h.2 j L hj;⟨u,h1,h2.keep (k u (List.mem_of_getElem? h1))⟩⟩
theorem push_cell{st e:TypeId}{by_:Nat}(ht:Try.prog.underlying st=some (.slice e))(hs:sizeT Try.prog e=some 1)(hb:bytesT Try.prog e=some by_)(hby:by_≤100)(hx:isSliceOrStr Try.prog st=true)(hz:zeroOk Try.prog e 1=true){s:ASt}{v:AV}{n:Nat}{us:List AV}{O:List Nat}(hd:Dest s v n 1 us O)(hl:n≤1000000000){x:AV}(hc:x.isCell=true):
    ∃v' s' O',appendA Try.prog (newObj s (mkRow e 1 [x])) [st,st] [v,.slice (some (s.next,0)) 1 (some 1)]=some (v',s')∧Dest s' v' (n+1) 1 (us++[x]) O'∧s.next≤s'.next ∧
      (∀j,j<s.next→j ∉ O→s'.heap.get j=s.heap.get j)∧(∀j∈O',j∈O∨s.next<j):=by
  have c1:=src_one (P:=Try.prog) (e:=e) (s:=newObj s (mkRow e 1 [x])) (n:=1) (cap:=some 1) (sz:=1) e 1 (by rw[heap_new,if_pos rfl]) rfl
  have hmul:(n+1) * by_≤(n+1) * 100:=Nat.mul_le_mul_left _ hby
  obtain⟨v',s',O',h1,h2,h3,h4,h5,h6,h7⟩:=(hd.new (mkRow e 1 [x])).append (P:=Try.prog) (st:=st) (xt:=st) ht hs hb (by decide) hx hz c1 rfl (by simp[allCells,hc]) (by omega) (by omega)
  have hn:(newObj s (mkRow e 1 [x])).next=s.next+1:=rfl
  refine⟨v',s',O',h1,h2,by omega,?_,?_⟩
  · intro j hj ho
    rw[h5 j (by omega) ho,heap_new,if_neg (by omega)]
  · intro j hj
    exact(h6 j hj).imp id (fun h=>by omega)
theorem push_int'{s:ASt}{v:AV}{L:List Int}{O:List Nat}(hd:Dest s v L.length 1 (ivs L) O)(hl:L.length≤1000000000)(x:Int):
    ∃v' s' O',appendA Try.prog (newObj s (mkRow 3 1 [iv x])) [23,23] [v,.slice (some (s.next,0)) 1 (some 1)]=some (v',s')∧Dest s' v' (L++[x]).length 1 (ivs (L++[x])) O'∧s.next≤s'.next ∧
      (∀j,j<s.next→j ∉ O→s'.heap.get j=s.heap.get j)∧(∀j∈O',j∈O∨s.next≤j)∧(∀j,slot v'=some j→slot v=some j∨s.next≤j):=by
  have c1:=src_one (P:=Try.prog) (e:=3) (s:=newObj s (mkRow 3 1 [iv x])) (n:=1) (cap:=some 1) (sz:=1) 3 1 (by rw[heap_new,if_pos rfl]) rfl
  obtain⟨v',s',O',h1,h2,h3,h4,h5,h6,h7⟩:=(hd.new (mkRow 3 1 [iv x])).append (P:=Try.prog) (st:=23) (xt:=23) Try.underlying23 sz3 by3 (by decide) (strx 23 3 Try.underlying23) zero3 c1 rfl rfl (by omega) (by omega)
  have hn:(newObj s (mkRow 3 1 [iv x])).next=s.next+1:=rfl
  refine⟨v',s',O',h1,?_,by omega,?_,?_,?_⟩
  · simpa using h2
  · intro j hj ho
    rw[h5 j (by omega) ho,heap_new,if_neg (by omega)]
  · intro j hj
    exact(h6 j hj).imp id (fun h=>by omega)
  · intro j hj
    exact(h7 j hj).imp id (fun h=>by omega)
structure Made20(lo:Nat)(s:ASt)(v:AV)(us:List AV)(cs:List (List Int))(O:List Nat):Prop where
  dest:Dest s v us.length 1 us O
  rows:RowCells s.next s us cs
  slots:∀u∈us,∀j,slot u=some j→lo≤j∧j<s.next∧j ∉ O
  own:∀j∈O,lo≤j
theorem Dest.isSlice{s:ASt}{v:AV}{n sz:Nat}{cs:List AV}{O:List Nat}(h:Dest s v n sz cs O):v.isCell=true:=by
  obtain⟨a,cap,rfl,_⟩:=h.cells
  rfl
theorem fa27_0(j o:Nat):fieldAddrA Try.prog 27 (.ptr (some (j,o))) 0=some (.ptr (some (j,o))):=by
  simp[fieldAddrA,Try.underlying27,sz4,guardB]
  rfl
theorem fa27_1(j o:Nat):fieldAddrA Try.prog 27 (.ptr (some (j,o))) 1=some (.ptr (some (j,o+1))):=by
  simp[fieldAddrA,Try.underlying27,sz23,guardB]
  rfl
def Box2(s:ASt)(j:Nat)(c0 c1:AV):Prop:=∃r,s.heap.get j=some (.row r)∧Holds r [c0,c1]∧r.mode=.own∧r.par=none
theorem Box2.keep{s s':ASt}{j:Nat}{c0 c1:AV}(h:Box2 s j c0 c1)(k:s'.heap.get j=s.heap.get j):Box2 s' j c0 c1:=by
  obtain⟨r,h1,h2⟩:=h
  exact⟨r,by rw[k];exact h1,h2⟩
theorem Box2.load0{s:ASt}{j:Nat}{c0 c1:AV}(h:Box2 s j c0 c1):load1 s j 0=some c0:=by
  obtain⟨r,h1,h2,_⟩:=h
  exact load1_row h1 (by rw[h2.1];simp) (h2.2 0 c0 rfl)
theorem Box2.load1{s:ASt}{j:Nat}{c0 c1:AV}(h:Box2 s j c0 c1):load1 s j 1=some c1:=by
  obtain⟨r,h1,h2,_⟩:=h
  exact load1_row h1 (by rw[h2.1];simp) (h2.2 1 c1 rfl)
theorem storeN_row{s:ASt}{i o:Nat}{r:ARow}{vs:List AV}(hg:s.heap.get i=some (.row r))(hm:r.mode=.own)(hp:r.par=none)(hne:vs≠[])(ho:o+vs.length≤r.n)(hc:allCells vs=true):
    storeN s i o vs=some (setObj s i (.row { r with c:=r.c.fill o vs,par:=none })):=by
  cases vs with
  | nil=>exact absurd rfl hne
  | cons v vs =>
    have hb:=ble_of ho
    simp only[storeN,rowAt,hg,Option.bind_some,hm,isOwn,hb,hc,Bool.and_self,guardB,cond_true,unshare,hp]
theorem Box2.store{s:ASt}{j:Nat}{c0 c1 d0 d1:AV}(h:Box2 s j c0 c1)(h0:d0.isCell=true)(h1:d1.isCell=true):
    ∃s',storeV Try.prog s 27 (.ptr (some (j,0))) (.agg [d0,d1])=some s'∧Box2 s' j d0 d1∧s'.next=s.next∧∀x,x≠j→s'.heap.get x=s.heap.get x:=by
  obtain⟨r,g1,g2,g3,g4⟩:=h
  refine⟨setObj s j (.row { r with c:=r.c.fill 0 [d0,d1],par:=none }),?_,⟨{ r with c:=r.c.fill 0 [d0,d1],par:=none },by rw[heap_set,if_pos rfl],⟨g2.1,?_⟩,g3,rfl⟩,rfl,fun x hx=>by rw[heap_set,if_neg hx]⟩
  · simp[storeV,sz27,AV.cells,guardB,storeN_row (vs:=[d0,d1]) (o:=0) g1 g3 g4 (by simp) (by rw[g2.1];exact Nat.le_refl _) (by simp[allCells,h0,h1])]
  · intro k u hk
    have hlt:k<2:=by
      rcases Nat.lt_or_ge k 2 with h' | h'
      · exact h'
      · rw[List.getElem?_eq_none (by simpa using h')]at hk;cases hk
    show(Tree.fill r.c 0 [d0,d1]).get k=some u
    rw[Tree.get_fill,if_pos ⟨Nat.zero_le _,by simpa using hlt⟩]
    simpa using hk
abbrev Trace20:=List (Bool×List Int)
def LineCells(b:Nat)(s:ASt)(us:List AV)(T:Trace20):Prop:=us.length=T.length * 2∧∀ (k:Nat)(d:Bool)(L:List Int),T[k]? = some (d,L)→us[k * 2]? = some (.bool d)∧∃u:AV,us[k * 2+1]? = some u∧SliceAt b s u (ivs L)
theorem LineCells.mono{b b':Nat}{s:ASt}{us:List AV}{T:Trace20}(h:LineCells b s us T)(k:b≤b'):LineCells b' s us T:=
  ⟨h.1,fun j d L hj=>let ⟨h0,u,h1,h2⟩:=h.2 j d L hj;⟨h0,u,h1,h2.mono k⟩⟩
theorem LineCells.keep{b:Nat}{s s':ASt}{us:List AV}{T:Trace20}(h:LineCells b s us T)(k:∀u∈us,∀j,slot u=some j→s'.heap.get j=s.heap.get j):LineCells b s' us T:=
  ⟨h.1,fun j d L hj=>let ⟨h0,u,h1,h2⟩:=h.2 j d L hj;⟨h0,u,h1,h2.keep (k u (List.mem_of_getElem? h1))⟩⟩
theorem LineCells.nil(b:Nat)(s:ASt):LineCells b s [] []:=⟨rfl,fun k d L h=>by simp at h⟩
theorem LineCells.snoc{b:Nat}{s:ASt}{us:List AV}{T:Trace20}(h:LineCells b s us T){d:Bool}{u:AV}{L:List Int}(hu:SliceAt b s u (ivs L)):LineCells b s (us++[.bool d,u]) (T++[(d,L)]):=by
  refine⟨by simp[h.1];omega,fun k d' L' hk=>?_⟩
  rcases Nat.lt_or_ge k T.length with hlt | hge
  · rw[List.getElem?_append_left hlt]at hk
    obtain⟨h0,u',h1,h2⟩:=h.2 k d' L' hk
    have hl:=h.1
    exact⟨by rw[List.getElem?_append_left (by omega)];exact h0,u',by rw[List.getElem?_append_left (by omega)];exact h1,h2⟩
  · rw[List.getElem?_append_right hge]at hk
    have hk0:k=T.length:=by
      rcases Nat.lt_or_ge (k - T.length) 1 with h' | h'
      · omega
      · rw[List.getElem?_eq_none (by simpa using h')]at hk;cases hk
    subst hk0
    rw[Nat.sub_self]at hk
    simp at hk
    obtain⟨rfl,rfl⟩:=hk
    have hl:=h.1
    refine⟨?_,u,?_,hu⟩
    · rw[List.getElem?_append_right (by omega),hl,Nat.sub_self];rfl
    · rw[List.getElem?_append_right (by omega),hl,show T.length * 2+1 - T.length * 2=1 from by omega];rfl
def u8(n:Int):Prop:=0≤n∧n≤255
theorem conv_u8{s:ASt}{n:Int}(h:u8 n):convA Try.prog s 5 3 (.int .u8 n)=some (iv n):=by
  obtain⟨h1,h2⟩:=h
  simp[convA,Try.underlying5,Try.underlying3,wrap_i64 (n:=n) ⟨by omega,by omega⟩]
theorem zero27:zeroOk Try.prog 27 2=true:=by simp[zeroOk,zr27,AV.cells]
theorem bld_line{d:Bool}{u:AV}:sliceRowA Try.prog 33 1 (zipIdx [0] [.agg [.bool d,u]])=some (mkRow 27 2 [.bool d,u]):=by
  simp[sliceRowA,Try.underlying33,sz27,guardB,zr27,zipIdx,fillA,rep,AV.cells]
  rfl
theorem alloc27:allocA Try.prog 27=some (mkRow 27 0 [.bool false,.slice none 0 (some 0)],.ptr):=by simp[allocA,zr27,AV.cells]
theorem SliceAt.isCell{b:Nat}{s:ASt}{u:AV}{cs:List AV}(h:SliceAt b s u cs):u.isCell=true∧u.cells=[u]:=by
  obtain⟨a,cap,rfl,_⟩:=h
  exact⟨rfl,rfl⟩
def c109o0:List CItem:=[
  ⟨none,.p1 some,[(.const (.int .i64 (0)))],(.set 1),[]⟩]
def c109o1:List CItem:=[
  ⟨none,.r1 (fun s x=>convA Try.prog s 133 145 x),[.var 0],.push,[]⟩,
  ⟨none,.call 126,[.loc 0],.push,[]⟩,
  ⟨none,.p1 some,[.loc 0],(.set 1),[]⟩]
def c109o2:List CItem:=[
  ⟨none,.call 127,[.var 0],.push,[]⟩,
  ⟨none,.p1 some,[.loc 0],(.set 1),[]⟩]
def c109:CFunc:=⟨1,2,(.seq (.ops c109o0) (.seq (.cond (.const (.bool false))
  (.seq (.ops c109o1) .ret)
  .skip) (.seq (.ops c109o2) .ret))),[((.var 1),none)]⟩
def c123o0:List CItem:=[
  ⟨none,.p1 some,[(.const (.bool false))],(.set 2),[]⟩]
def c123o1:List CItem:=[
  ⟨none,.call 134,[.var 0],.push,[]⟩,
  ⟨(some ((.loc 0),true)),.p1 some,[.var 1],.push,[]⟩,
  ⟨(some ((.loc 1),true)),.call 134,[.loc 0],.push,[]⟩,
  ⟨(some ((.loc 2),true)),.p1 (unA Try.prog Go.UnOp.not),[.loc 0],.push,[]⟩,
  ⟨none,.p Rn,[(.loc 3),(.loc 0),(.const (.bool false))],.push,[]⟩,
  ⟨(some ((.loc 0),false)),.p1 some,[.var 0],.push,[]⟩,
  ⟨(some ((.loc 1),false)),.p1 some,[.var 1],.push,[]⟩,
  ⟨(some ((.loc 2),false)),.p2 (binA Try.prog .lss 3),[.loc 1,.loc 0],.push,[]⟩,
  ⟨none,.p Rn,[(.loc 3),(.const (.bool true)),(.loc 0)],.push,[]⟩,
  ⟨none,.p1 some,[.loc 0],(.set 2),[]⟩]
def c123:CFunc:=⟨2,3,(.seq (.ops c123o0) (.seq (.ops c123o1) .ret)),[((.var 2),none)]⟩
def c127o0:List CItem:=[
  ⟨none,.p1 some,[(.const (.int .i64 (0)))],(.set 1),[]⟩]
def c127o1:List CItem:=[
  ⟨none,.p2 (binA Try.prog .geq 147),[(.var 0),(.const (.int .u64 (4294967296)))],(.set 2),[]⟩]
def c127o2:List CItem:=[
  ⟨none,.p1 some,[.var 0],.push,[]⟩,
  ⟨none,.p2 (binA Try.prog .shr 147),[(.loc 0),(.const (.int .u64 (32)))],.push,[]⟩,
  ⟨none,.p1 some,[.loc 0],(.set 0),[]⟩]
def c127o3:List CItem:=[
  ⟨none,.p1 some,[(.const (.int .i64 (32)))],(.set 1),[]⟩]
def c127o4:List CItem:=[
  ⟨none,.p2 (binA Try.prog .geq 147),[(.var 0),(.const (.int .u64 (65536)))],(.set 3),[]⟩]
def c127o5:List CItem:=[
  ⟨none,.p1 some,[.var 0],.push,[]⟩,
  ⟨none,.p2 (binA Try.prog .shr 147),[(.loc 0),(.const (.int .u64 (16)))],.push,[]⟩,
  ⟨none,.p1 some,[.loc 0],(.set 0),[]⟩]
def c127o6:List CItem:=[
  ⟨none,.p1 some,[.var 1],.push,[]⟩,
  ⟨none,.p2 (binA Try.prog .add 3),[(.loc 0),(.const (.int .i64 (16)))],.push,[]⟩,
  ⟨none,.p1 some,[.loc 0],(.set 1),[]⟩]
def c127o7:List CItem:=[
  ⟨none,.p2 (binA Try.prog .geq 147),[(.var 0),(.const (.int .u64 (256)))],(.set 4),[]⟩]
def c127o8:List CItem:=[
  ⟨none,.p1 some,[.var 0],.push,[]⟩,
  ⟨none,.p2 (binA Try.prog .shr 147),[(.loc 0),(.const (.int .u64 (8)))],.push,[]⟩,
  ⟨none,.p1 some,[.loc 0],(.set 0),[]⟩]
def c127o9:List CItem:=[
  ⟨none,.p1 some,[.var 1],.push,[]⟩,
  ⟨none,.p2 (binA Try.prog .add 3),[(.loc 0),(.const (.int .i64 (8)))],.push,[]⟩,
  ⟨none,.p1 some,[.loc 0],(.set 1),[]⟩]
def c127o10:List CItem:=[
  ⟨none,.p1 some,[.var 1],.push,[]⟩,
  ⟨none,.r1 (fun s x=>convA Try.prog s 147 5 x),[.var 0],.push,[]⟩,
  ⟨none,.p2 (indexA Try.prog 9),[(.const (.str [0,1,2,2,3,3,3,3,4,4,4,4,4,4,4,4,5,5,5,5,5,5,5,5,5,5,5,5,5,5,5,5,6,6,6,6,6,6,6,6,6,6,6,6,6,6,6,6,6,6,6,6,6,6,6,6,6,6,6,6,6,6,6,6,7,7,7,7,7,7,7,7,7,7,7,7,7,7,7,7,7,7,7,7,7,7,7,7,7,7,7,7,7,7,7,7,7,7,7,7,7,7,7,7,7,7,7,7,7,7,7,7,7,7,7,7,7,7,7,7,7,7,7,7,7,7,7,7,8,8,8,8,8,8,8,8,8,8,8,8,8,8,8,8,8,8,8,8,8,8,8,8,8,8,8,8,8,8,8,8,8,8,8,8,8,8,8,8,8,8,8,8,8,8,8,8,8,8,8,8,8,8,8,8,8,8,8,8,8,8,8,8,8,8,8,8,8,8,8,8,8,8,8,8,8,8,8,8,8,8,8,8,8,8,8,8,8,8,8,8,8,8,8,8,8,8,8,8,8,8,8,8,8,8,8,8,8,8,8,8,8,8,8,8,8,8,8,8,8,8,8,8,8,8,8,8])),(.loc 0)],.push,[]⟩,
  ⟨none,.r1 (fun s x=>convA Try.prog s 5 3 x),[.loc 0],.push,[]⟩,
  ⟨none,.p2 (binA Try.prog .add 3),[.loc 3,.loc 0],.push,[]⟩,
  ⟨none,.p1 some,[.loc 0],(.set 1),[]⟩]
def c127:CFunc:=⟨1,5,(.seq (.ops c127o0) (.seq (.seq (.ops c127o1) (.cond (.var 2)
  (.seq (.ops c127o2) (.ops c127o3))
  .skip)) (.seq (.seq (.ops c127o4) (.cond (.var 3)
  (.seq (.ops c127o5) (.ops c127o6))
  .skip)) (.seq (.seq (.ops c127o7) (.cond (.var 4)
  (.seq (.ops c127o8) (.ops c127o9))
  .skip)) (.seq (.ops c127o10) .ret))))),[((.var 1),none)]⟩
def c134o0:List CItem:=[
  ⟨none,.p1 some,[(.const (.bool false))],(.set 1),[]⟩]
def c134o1:List CItem:=[
  ⟨none,.p2 (binA Try.prog .neq 3),[.var 0,.var 0],.push,[]⟩,
  ⟨none,.p1 some,[.loc 0],(.set 1),[]⟩]
def c134:CFunc:=⟨1,2,(.seq (.ops c134o0) (.seq (.ops c134o1) .ret)),[((.var 1),none)]⟩
theorem comp109:compFunc Try.prog 109=some c109:=by kernel_rfl
theorem comp123:compFunc Try.prog 123=some c123:=by kernel_rfl
theorem comp127:compFunc Try.prog 127=some c127:=by kernel_rfl
theorem comp134:compFunc Try.prog 134=some c134:=by kernel_rfl
def RowAt(s:ASt)(i:Nat)(cs:List AV):Prop:=∃r,s.heap.get i=some (.row r)∧Holds r cs∧r.mode=.own∧r.par=none∧r.sz=1
theorem RowAt.keep{s s':ASt}{i:Nat}{cs:List AV}(h:RowAt s i cs)(k:s'.heap.get i=s.heap.get i):RowAt s' i cs:=by
  obtain⟨r,h1,h2⟩:=h
  exact⟨r,k.trans h1,h2⟩
theorem lt_of_get{α:Type}{l:List α}{k:Nat}{u:α}(h:l[k]? = some u):k<l.length:=by
  rcases Nat.lt_or_ge k l.length with h' | h'
  · exact h'
  · rw[List.getElem?_eq_none h']at h;cases h
theorem RowAt.load1{s:ASt}{i k:Nat}{cs:List AV}{u:AV}(h:RowAt s i cs)(hk:cs[k]? = some u):load1 s i k=some u:=by
  obtain⟨r,h1,h2,_⟩:=h
  exact load1_row h1 (by rw[h2.1];exact lt_of_get hk) (h2.2 k u hk)
theorem RowAt.load{s:ASt}{i k:Nat}{cs:List AV}{u:AV}(h:RowAt s i cs)(hk:cs[k]? = some u):loadV Try.prog s 3 (.ptr (some (i,0+k * 1)))=some u:=by
  rw[Nat.zero_add,Nat.mul_one];exact load_one ag3 (h.load1 hk)
theorem RowAt.fill {s : ASt} {i o : Nat} {cs vs : List AV} (h : RowAt s i cs) (hne : vs ≠ []) (ho : o + vs.length ≤ cs.length) (hc : allCells vs = true) :
    ∃s',storeN s i o vs=some s'∧RowAt s' i (cs.take o++vs++cs.drop (o+vs.length))∧s'.next=s.next∧∀x,x≠i→s'.heap.get x=s.heap.get x:=by
  obtain⟨r,h1,h2,h3,h4,h5⟩:=h
  refine⟨_,storeN_row h1 h3 h4 hne (by rw[h2.1];exact ho) hc,⟨{ r with c:=r.c.fill o vs,par:=none },by rw[heap_set,if_pos rfl],⟨?_,?_⟩,h3,rfl,h5⟩,rfl,fun x hx=>by rw[heap_set,if_neg hx]⟩
  · show r.n=_
    rw[h2.1];simp;omega
  · intro k u hk
    show(Tree.fill r.c o vs).get k=some u
    rw[Tree.get_fill]
    by_cases hin:o≤k∧k<o+vs.length
    · rw [if_pos hin]
      rw[List.append_assoc,List.getElem?_append_right (by simp;omega),List.getElem?_append_left (by simp;omega)]at hk
      have:(cs.take o).length=o:=by simp;omega
      rw[this]at hk
      exact hk
    · rw [if_neg hin]
      refine h2.2 k u ?_
      rcases Nat.lt_or_ge k o with hlt | hge
      · rw[List.append_assoc,List.getElem?_append_left (by simp;omega),List.getElem?_take,if_pos hlt]at hk
        exact hk
      · rw[List.getElem?_append_right (by simp;omega),List.getElem?_drop]at hk
        have e:o+vs.length+(k - (cs.take o++vs).length)=k:=by simp;omega
        rw[e]at hk
        exact hk
theorem RowAt.store{s:ASt}{i k:Nat}{A B:List AV}{w u:AV}(h:RowAt s i (A++w::B))(hk:A.length=k)(h1:u.isCell=true)(h2:u.cells=[u]):
    ∃s',storeV Try.prog s 3 (.ptr (some (i,0+k * 1))) u=some s'∧RowAt s' i (A++u::B)∧s'.next=s.next∧∀x,x≠i→s'.heap.get x=s.heap.get x:=by
  subst hk
  obtain⟨s',g1,g2,g3,g4⟩:=h.fill (o:=A.length) (vs:=[u]) (by simp) (by simp) (by simp[allCells,h1])
  refine⟨s',?_,?_,g3,g4⟩
  · simp[storeV,sz3,h2,guardB,g1]
  · have e:(A++w::B).take A.length++[u]++(A++w::B).drop (A.length+[u].length)=A++u::B:=by
      rw[List.take_left',List.drop_append]
      · simp
      · rfl
    rw[e]at g2
    exact g2
theorem ivs_append(A B:List Int):ivs (A++B)=ivs A++ivs B:=by simp
theorem ivs_len(A:List Int):(ivs A).length=A.length:=by simp
theorem get_mid{A B:List AV}{w:AV}{k:Nat}(hk:A.length=k):(A++w::B)[k]? = some w:=by
  subst hk;simp
theorem nan_ok{E:Env}(hE:Good E){s:ASt}(x:Int):WF E 134 [iv x] (fun r s'=>r=.bool false∧s=s') s:=by
  refine hE.go comp134 (by decide) rfl ?_
  simp only[c134,c134o0,c134o1,ne_eq,not_true,decide_false,Qa,Qb,Qc,Qd,Qe,Qf,Qg,Qh,Qi,Qj,Qk,Ql,Qm,Qn,true_and,and_true,Qo,Qp,Qq,Qr,Qs,Qt,Qu,Qv,Qw,Qx,Qy,Qz,Ra,Rb,Rc,Rd,Re,Rf,Rg,Rh,Ri,Rj,Rk,Rl,Rm,Ya,Yb,Yc,Rn,Ro,Rp,Yd,Ye,Rq,Rs,Rt,Ru,Rv,Rw,Rx]
theorem less_ok{E:Env}(hE:Good E){s:ASt}(x y:Int):WF E 123 [iv x,iv y] (fun r s'=>r=.bool (decide (x<y))∧s=s') s:=by
  refine hE.go comp123 (by decide) rfl ?_
  simp only[c123,c123o0,c123o1,Qa,Qb,Qc,Qd,Qe,Qf,Qg,Qh,Qi,Qj,Qk,Ql,Qm,Qn,true_and,and_true,Qo,Qp,Qq,Qr,Qs,Qt,Qu,Qv,Qw,Qx,Qy,Qz,Ra,Rb,Rc,Rd,Re,Rf,Rg,Rh,Ri,Rj,Rk,Rl,Rm,Ya,Yb,Yc,Rn,Ro,Rp,Yd,Ye,Rq,Rs,Rt,Ru,Rv,Rw,Rx]
  refine(nan_ok hE x).mono ?_
  rintro _ _ ⟨rfl,rfl⟩
  simp only[Qa,Qb,Qc,Qd,Qe,Qf,Qg,Qh,Qi,Qj,Qk,Ql,Qm,Qn,true_and,and_true,Qo,Qp,Qq,Qr,Qs,Qt,Qu,Qv,Qw,Qx,Qy,Qz,Ra,Rb,Rc,Rd,Re,Rf,Rg,Rh,Ri,Rj,Rk,Rl,Rm,Ya,Yb,Yc,Rn,Ro,Rp,Yd,Ye,Rq,Rs,Rt,Ru,Rv,Rw,Rx]
theorem geq_u64(t:TypeId)(a b:Int):binA Try.prog .geq t (.int .u64 a) (.int .u64 b)=some (.bool (decide (b≤a))):=by
  show some (AV.bool (!ltI a b))=_
  rw[ltI_eq,← decide_not]
  congr 3
  exact propext Int.not_lt
theorem in_u8{n:Int}(h:u8 n):inRange .u8 n=true:=by
  obtain⟨h1,h2⟩:=h
  cases n with
  | ofNat m =>
    have h3:(m:Int)≤255:=h2
    simp[inRange];omega
  | negSucc m=>omega
theorem in_u64{n:Int}(h:u8 n):inRange .u64 n=true:=by
  obtain⟨h1,h2⟩:=h
  cases n with
  | ofNat m =>
    have h3:(m:Int)≤255:=h2
    simp[inRange];omega
  | negSucc m=>omega
theorem tab_at{l:List Nat}{n m:Nat}(h:l[n]? = some m):indexA Try.prog 9 (.str l) (.int .u8 (n:Int))=some (.int .u8 (m:Int)):=by
  simp[indexA,idxOf,natOf_nat,Try.underlying9,h]
def tab64:List Nat:=[0,1,2,2,3,3,3,3,4,4,4,4,4,4,4,4,5,5,5,5,5,5,5,5,5,5,5,5,5,5,5,5,6,6,6,6,6,6,6,6,6,6,6,6,6,6,6,6,6,6,6,6,6,6,6,6,6,6,6,6,6,6,6,6,7,7,7,7,7,7,7,7,7,7,7,7,7,7,7,7,7,7,7,7,7,7,7,7,7,7,7,7,7,7,7,7,7,7,7,7,7,7,7,7,7,7,7,7,7,7,7,7,7,7,7,7,7,7,7,7,7,7,7,7,7,7,7,7,8,8,8,8,8,8,8,8,8,8,8,8,8,8,8,8,8,8,8,8,8,8,8,8,8,8,8,8,8,8,8,8,8,8,8,8,8,8,8,8,8,8,8,8,8,8,8,8,8,8,8,8,8,8,8,8,8,8,8,8,8,8,8,8,8,8,8,8,8,8,8,8,8,8,8,8,8,8,8,8,8,8,8,8,8,8,8,8,8,8,8,8,8,8,8,8,8,8,8,8,8,8,8,8,8,8,8,8,8,8,8,8,8,8,8,8,8,8,8,8,8,8,8,8,8,8,8,8]
set_option maxRecDepth 20000 in
theorem len64_ok{E:Env}(hE:Good E){s:ASt}(n:Nat)(hn:n≤12):WF E 127 [.int .u64 (n:Int)] (fun r s'=>(∃m:Int,r=iv m)∧s=s') s:=by
  refine hE.go comp127 (by decide) rfl ?_
  have g1:decide ((4294967296:Int)≤(n:Int))=false:=decide_eq_false (by omega)
  have g2:decide ((65536:Int)≤(n:Int))=false:=decide_eq_false (by omega)
  have g3:decide ((256:Int)≤(n:Int))=false:=decide_eq_false (by omega)
  have g4:convA Try.prog s 147 5 (.int .u64 (n:Int))=some (.int .u8 (n:Int)):=by
    simp[convA,Try.underlying147,Try.underlying5,wrapA_of (in_u8 (n:=n) ⟨by omega,by omega⟩)]
  have g5:∃m:Nat,m≤4∧indexA Try.prog 9 (.str tab64) (.int .u8 (n:Int))=some (.int .u8 (m:Int)):=by
    have:n=0∨n=1∨n=2∨n=3∨n=4∨n=5∨n=6∨n=7∨n=8∨n=9∨n=10∨n=11∨n=12:=by omega
    rcases this with rfl | rfl | rfl | rfl | rfl | rfl | rfl | rfl | rfl | rfl | rfl | rfl | rfl<;>exact⟨_,by decide,tab_at rfl⟩
  obtain⟨m,hm,g5⟩:=g5
  have g6:convA Try.prog s 5 3 (.int .u8 (m:Int))=some (iv (m:Int)):=conv_u8 ⟨by omega,by omega⟩
  have g7:=bin_add Try.prog 3 0 (m:Int) ⟨by omega,by omega⟩
  unfold tab64 at g5
  simp only[c127,c127o0,c127o1,c127o4,c127o7,c127o10,geq_u64,g1,g2,g3,g4,g5,g6,g7,Qa,Qb,Qc,Qd,Qe,Qf,Qg,Qh,Qi,Qj,Qk,Ql,Qm,Qn,true_and,and_true,Qo,Qp,Qq,Qr,Qs,Qt,Qu,Qv,Qw,Qx,Qy,Qz,Ra,Rb,Rc,Rd,Re,Rf,Rg,Rh,Ri,Rj,Rk,Rl,Rm,Ya,Yb,Yc,Rn,Ro,Rp,Yd,Ye,Rq,Rs,Rt,Ru,Rv,Rw,Rx]
  exact⟨_,rfl⟩
theorem len_ok{E:Env}(hE:Good E){s:ASt}(n:Nat)(hn:n≤12):WF E 109 [.int .u64 (n:Int)] (fun r s'=>(∃m:Int,r=iv m)∧s=s') s:=by
  refine hE.go comp109 (by decide) rfl ?_
  simp only[c109,c109o0,c109o2,Qa,Qb,Qc,Qd,Qe,Qf,Qg,Qh,Qi,Qj,Qk,Ql,Qm,Qn,true_and,and_true,Qo,Qp,Qq,Qr,Qs,Qt,Qu,Qv,Qw,Qx,Qy,Qz,Ra,Rb,Rc,Rd,Re,Rf,Rg,Rh,Ri,Rj,Rk,Rl,Rm,Ya,Yb,Yc,Rn,Ro,Rp,Yd,Ye,Rq,Rs,Rt,Ru,Rv,Rw,Rx]
  refine(len64_ok hE n hn).mono ?_
  rintro _ _ ⟨⟨m,rfl⟩,rfl⟩
  simp only[Qa,Qb,Qc,Qd,Qe,Qf,Qg,Qh,Qi,Qj,Qk,Ql,Qm,Qn,true_and,and_true,Qo,Qp,Qq,Qr,Qs,Qt,Qu,Qv,Qw,Qx,Qy,Qz,Ra,Rb,Rc,Rd,Re,Rf,Rg,Rh,Ri,Rj,Rk,Rl,Rm,Ya,Yb,Yc,Rn,Ro,Rp,Yd,Ye,Rq,Rs,Rt,Ru,Rv,Rw,Rx]
  exact⟨_,rfl⟩
def down(x:Int):List Int→List Int
  | []=>[x]
  | y::q=>if x<y then y::down x q else x::y::q
def sortV(L:List Int):List Int:=(L.foldl (fun q x=>down x q) []).reverse
theorem down_len(x:Int):∀q,(down x q).length=q.length+1
  | []=>rfl
  | y::q=>by
    unfold down
    split
    · simp[down_len x q]
    · simp
set_option maxRecDepth 8000 in
theorem sort_in {E : Env} (hE : Good E) {lo i n m : Nat} (hlo : lo ≤ i) (hn : n ≤ 1000) (x : Int) {Q : ARes → Prop} :
    ∀ (p T : List Int) (s : ASt) (x5 x6 : AV), p.length < n → n ≤ p.length + 1 + T.length → RowAt s i (ivs (p.reverse ++ x :: T)) →
      (∀s' y4 y6,RowAt s' i (ivs ((down x p).reverse++T))→s'.next=s.next→(∀z,z≠i→s'.heap.get z=s.heap.get z)→Q ⟨.exit 2,[.slice (some (i,0)) n none,iv 0,iv (n:Int),iv (m:Int),y4,x5,y6],[],s'⟩) →
      WC E none (.loop c117l6) Q [.slice (some (i,0)) n none,iv 0,iv (n:Int),iv (m:Int),iv (p.length:Int),x5,x6] [] s:=by
  intro p
  induction p with
  | nil =>
    intro T s x5 x6 h1 h2 hr hq
    refine WC.loop' ?_
    simp only[c117l6,c117o3,List.length_nil,show((0:Nat):Int)=0 from rfl,Int.lt_irrefl,decide_false,Qa,Qb,Qc,Qd,Qe,Qf,Qg,Qh,Qi,Qj,Qk,Ql,Qm,Qn,true_and,and_true,Qo,Qp,Qq,Qr,Qs,Qt,Qu,Qv,Qw,Qx,Qy,Qz,Ra,Rb,Rc,Rd,Re,Rf,Rg,Rh,Ri,Rj,Rk,Rl,Rm,Ya,Yb,Yc,Rn,Ro,Rp,Yd,Ye,Rq,Rs,Rt,Ru,Rv,Rw,Rx]
    exact hq s _ _ hr rfl fun _ _=>rfl
  | cons y q ih =>
    intro T s x5 x6 h1 h2 hr hq
    have hj:(y::q).length=q.length+1:=rfl
    rw[hj]at h1 h2 ⊢
    have hcells:ivs ((y::q).reverse++x::T)=ivs q.reverse++iv y::(iv x::ivs T):=by simp
    have hcells2:ivs ((y::q).reverse++x::T)=(ivs q.reverse++[iv y])++iv x::ivs T:=by simp
    have hql:(ivs q.reverse).length=q.length:=by simp
    have hql2:(ivs q.reverse++[iv y]).length=q.length+1:=by simp
    have hgt:decide ((0:Int)<((q.length+1:Nat):Int))=true:=decide_eq_true (by omega)
    have a1:indexAddrA Try.prog 23 (.slice (some (i,0)) n none) (iv ((q.length+1:Nat):Int))=some (.ptr (some (i,0+(q.length+1) * 1))):=idx_slice Try.underlying23 sz3 (by omega)
    have a0:indexAddrA Try.prog 23 (.slice (some (i,0)) n none) (iv ((q.length:Nat):Int))=some (.ptr (some (i,0+q.length * 1))):=idx_slice Try.underlying23 sz3 (by omega)
    have l1:loadV Try.prog s 3 (.ptr (some (i,0+(q.length+1) * 1)))=some (iv x):=hr.load (by rw[hcells2];exact get_mid hql2)
    have l0:loadV Try.prog s 3 (.ptr (some (i,0+q.length * 1)))=some (iv y):=hr.load (by rw[hcells];exact get_mid hql)
    have hs:=bin_sub Try.prog 3 ((q.length+1:Nat):Int) 1 ⟨by omega,by omega⟩
    have hs1:(((q.length+1:Nat):Int) - 1)=((q.length:Nat):Int):=by omega
    rw[hs1]at hs
    refine WC.loop' ?_
    generalize hW:WC E none (CCode.loop c117l6) Q=W
    simp only[c117l6,c117o3,hgt,a1,l1,hs,a0,l0,Qa,Qb,Qc,Qd,Qe,Qf,Qg,Qh,Qi,Qj,Qk,Ql,Qm,Qn,true_and,and_true,Qo,Qp,Qq,Qr,Qs,Qt,Qu,Qv,Qw,Qx,Qy,Qz,Ra,Rb,Rc,Rd,Re,Rf,Rg,Rh,Ri,Rj,Rk,Rl,Rm,Ya,Yb,Yc,Rn,Ro,Rp,Yd,Ye,Rq,Rs,Rt,Ru,Rv,Rw,Rx]
    refine(less_ok hE x y).mono ?_
    rintro _ _ ⟨rfl,rfl⟩
    by_cases h:x<y
    · rw[hcells2]at hr
      obtain⟨s1,g1,g2,g3,g4⟩:=hr.store (k:=q.length+1) (u:=iv y) hql2 rfl rfl
      have e1:(ivs q.reverse++[iv y])++iv y::ivs T=ivs q.reverse++iv y::(iv y::ivs T):=by simp
      rw[e1]at g2
      obtain⟨s2,k1,k2,k3,k4⟩:=g2.store (k:=q.length) (u:=iv x) hql rfl rfl
      simp only[h,decide_true,c117o4,c117o5,a1,l1,hs,a0,l0,on2,g1,k1,withV,Qa,Qb,Qc,Qd,Qe,Qf,Qg,Qh,Qi,Qj,Qk,Ql,Qm,Qn,true_and,and_true,Qo,Qp,Qq,Qr,Qs,Qt,Qu,Qv,Qw,Qx,Qy,Qz,Ra,Rb,Rc,Rd,Re,Rf,Rg,Rh,Ri,Rj,Rk,Rl,Rm,Ya,Yb,Yc,Rn,Ro,Rp,Yd,Ye,Rq,Rs,Rt,Ru,Rv,Rw,Rx]
      rw[← hW]
      have e2:down x (y::q)=y::down x q:=by simp[down,h]
      refine ih (y::T) s2 x5 _ (by omega) (by simp;omega) ?_ ?_
      · have e3:ivs (q.reverse++x::(y::T))=ivs q.reverse++iv x::(iv y::ivs T):=by simp
        rw[e3];exact k2
      · intro s' y4 y6 f1 f2 f3
        refine hq s' y4 y6 ?_ (by omega) fun z hz=>(f3 z hz).trans ((k4 z hz).trans (g4 z hz))
        rw[e2]
        have e4:(y::down x q).reverse++T=(down x q).reverse++(y::T):=by simp
        rw[e4];exact f1
    · have e2:down x (y::q)=x::y::q:=by simp[down,h]
      simp only[h,decide_false,Qa,Qb,Qc,Qd,Qe,Qf,Qg,Qh,Qi,Qj,Qk,Ql,Qm,Qn,true_and,and_true,Qo,Qp,Qq,Qr,Qs,Qt,Qu,Qv,Qw,Qx,Qy,Qz,Ra,Rb,Rc,Rd,Re,Rf,Rg,Rh,Ri,Rj,Rk,Rl,Rm,Ya,Yb,Yc,Rn,Ro,Rp,Yd,Ye,Rq,Rs,Rt,Ru,Rv,Rw,Rx]
      refine hq s _ _ ?_ rfl fun _ _=>rfl
      rw[e2]
      have e4:(x::y::q).reverse++T=(y::q).reverse++x::T:=by simp
      rw[e4];exact hr
def IntArr(lo:Nat)(s:ASt)(v:AV)(L:List Int):Prop:=(∃a,v=.slice a 0 (some 0)∧L=[])∨∃i,v=.slice (some (i,0)) L.length none∧lo≤i∧i<s.next∧RowAt s i (ivs L)
theorem IntArr.len{lo:Nat}{s:ASt}{v:AV}{L:List Int}(h:IntArr lo s v L):lenA Try.prog s 23 v=some (iv (L.length:Int)):=by
  rcases h with⟨a,rfl,rfl⟩ | ⟨i,rfl,_⟩
  · exact len_slice Try.underlying23
  · exact len_slice Try.underlying23
set_option maxRecDepth 8000 in
theorem sort_out{E:Env}(hE:Good E){lo i n:Nat}(hlo:lo≤i)(hn:n≤1000){Q:ARes→Prop}:
    ∀ (R q : List Int) (s : ASt) (m : Nat) (x4 x5 x6 : AV), q.length = m → n = q.length + R.length → RowAt s i (ivs (q.reverse ++ R)) →
      (∀s' y3 y4 y5 y6,RowAt s' i (ivs (R.foldl (fun q x=>down x q) q).reverse)→s'.next=s.next→(∀z,z≠i→s'.heap.get z=s.heap.get z)→Q ⟨.exit 0,[.slice (some (i,0)) n none,iv 0,iv (n:Int),y3,y4,y5,y6],[],s'⟩) →
      WC E none (.loop c117l8) Q [.slice (some (i,0)) n none,iv 0,iv (n:Int),iv (m:Int),x4,x5,x6] [] s:=by
  intro R
  induction R with
  | nil =>
    intro q s m x4 x5 x6 hm hq hr hk
    subst hm
    have hlt:decide (((q.length:Nat):Int)<(n:Int))=false:=decide_eq_false (by simp at hq;omega)
    refine WC.loop' ?_
    simp only[c117l8,c117o1,hlt,Qa,Qb,Qc,Qd,Qe,Qf,Qg,Qh,Qi,Qj,Qk,Ql,Qm,Qn,true_and,and_true,Qo,Qp,Qq,Qr,Qs,Qt,Qu,Qv,Qw,Qx,Qy,Qz,Ra,Rb,Rc,Rd,Re,Rf,Rg,Rh,Ri,Rj,Rk,Rl,Rm,Ya,Yb,Yc,Rn,Ro,Rp,Yd,Ye,Rq,Rs,Rt,Ru,Rv,Rw,Rx]
    exact hk s _ _ _ _ (by simpa using hr) rfl fun _ _=>rfl
  | cons x T ih =>
    intro q s m x4 x5 x6 hm hq hr hk
    subst hm
    have hR:(x::T).length=T.length+1:=rfl
    rw[hR]at hq
    have hlt:decide (((q.length:Nat):Int)<(n:Int))=true:=decide_eq_true (by omega)
    have e3:=bin_add Try.prog 3 ((q.length:Nat):Int) 1 ⟨by omega,by omega⟩
    have hcast:(((q.length:Nat):Int)+1)=((q.length+1:Nat):Int):=by omega
    refine WC.loop' ?_
    generalize hW:WC E none (CCode.loop c117l8) Q=W
    simp only[c117l8,c117o1,c117o2,hlt,Qa,Qb,Qc,Qd,Qe,Qf,Qg,Qh,Qi,Qj,Qk,Ql,Qm,Qn,true_and,and_true,Qo,Qp,Qq,Qr,Qs,Qt,Qu,Qv,Qw,Qx,Qy,Qz,Ra,Rb,Rc,Rd,Re,Rf,Rg,Rh,Ri,Rj,Rk,Rl,Rm,Ya,Yb,Yc,Rn,Ro,Rp,Yd,Ye,Rq,Rs,Rt,Ru,Rv,Rw,Rx]
    refine sort_in hE hlo hn x q T s _ _ (by omega) (by omega) hr ?_
    intro s' y4 y6 g1 g2 g3
    simp only[c117o7,e3,hcast,if_true,Qa,Qb,Qc,Qd,Qe,Qf,Qg,Qh,Qi,Qj,Qk,Ql,Qm,Qn,true_and,and_true,Qo,Qp,Qq,Qr,Qs,Qt,Qu,Qv,Qw,Qx,Qy,Qz,Ra,Rb,Rc,Rd,Re,Rf,Rg,Rh,Ri,Rj,Rk,Rl,Rm,Ya,Yb,Yc,Rn,Ro,Rp,Yd,Ye,Rq,Rs,Rt,Ru,Rv,Rw,Rx]
    rw[← hW]
    refine ih (down x q) s' (q.length+1) _ _ _ (down_len x q) (by rw[down_len];omega) g1 ?_
    intro s2 y3 y4' y5 y6' h1 h2 h3
    exact hk s2 y3 y4' y5 y6' h1 (by omega) fun z hz=>(h3 z hz).trans (g3 z hz)
theorem conv_u64{s:ASt}{n:Nat}(h:n≤12):convA Try.prog s 3 133 (iv (n:Int))=some (.int .u64 (n:Int)):=by
  simp[convA,Try.underlying3,Try.underlying133,wrapA_of (in_u64 (n:=n) ⟨by omega,by omega⟩)]
theorem RowAt.loadAt{s:ASt}{i k a:Nat}{cs:List AV}{u:AV}(h:RowAt s i cs)(hk:cs[k]? = some u)(ha:a=k):loadV Try.prog s 3 (.ptr (some (i,a)))=some u:=by
  subst ha;exact load_one ag3 (h.load1 hk)
theorem row_lo{s:ASt}{i n k:Nat}{cs:List AV}(h:RowAt s i cs)(hn:n≤cs.length)(hk:k≤n):sliceOpnds Try.prog 23 true false false s [.slice (some (i,0)) n none,iv (k:Int)]=some (.slice (some (i,0+k * 1)) (n - k) none):=by
  obtain⟨r,h1,h2,h3,h4,h5⟩:=h
  have hb:boundA (iv (k:Int)) n=some k:=by simp[boundA,idxOf,natOf_nat,guardB,ble_of hk]
  show sliceA Try.prog s 23 (.slice (some (i,0)) n none) (some (iv (k:Int))) none none=_
  simp[sliceA,Try.underlying23,sz3,rowAt,h1,h5,guardB,hb,ble_of (Nat.zero_le r.n),show Nat.beq 1 0=false from rfl]
theorem row_hi{s:ASt}{i n k:Nat}{cs:List AV}(h:RowAt s i cs)(hk:k≤cs.length):sliceOpnds Try.prog 23 false true false s [.slice (some (i,0)) n none,iv (k:Int)]=some (.slice (some (i,0)) k none):=by
  obtain⟨r,h1,h2,h3,h4,h5⟩:=h
  have hb:boundA (iv (k:Int)) r.n=some k:=by simp[boundA,idxOf,natOf_nat,guardB,h2.1,ble_of hk]
  show sliceA Try.prog s 23 (.slice (some (i,0)) n none) none (some (iv (k:Int))) none=_
  simp[sliceA,Try.underlying23,sz3,rowAt,h1,h5,guardB,hb,ble_of (Nat.zero_le r.n),show Nat.beq 1 0=false from rfl]
theorem rep_zero(m:Nat):rep (AV.cells (.int .i64 0)) m=ivs (List.replicate m 0):=by
  induction m with
  | zero=>rfl
  | succ m ih=>show iv 0::rep _ m=_;rw[ih];rfl
theorem row_clear {s : ASt} {i m k : Nat} {A B : List AV} (h : RowAt s i (A ++ B)) (hA : A.length = k) (hB : B.length = m) :
    ∃s' Z,clearA Try.prog s [23] [.slice (some (i,0+k * 1)) m none]=some (undefA,s')∧Z.length=m∧RowAt s' i (A++Z)∧s'.next=s.next∧∀x,x≠i→s'.heap.get x=s.heap.get x:=by
  subst hA;subst hB
  cases B with
  | nil=>exact⟨s,[],by simp[clearA,Try.underlying23],rfl,h,rfl,fun _ _=>rfl⟩
  | cons b B =>
    obtain⟨s',g1,g2,g3,g4⟩:=h.fill (o:=A.length) (vs:=ivs (List.replicate (B.length+1) 0)) (by simp[List.replicate_succ]) (by simp) (cells_ivs _)
    refine⟨s',ivs (List.replicate (B.length+1) 0),?_,by simp,?_,g3,g4⟩
    · have hz:zeroT Try.prog 3=some (.int .i64 0):=zr3
      simp only[clearA,Try.underlying23,List.length_cons,hz,Option.bind_some,rep_zero,Nat.zero_add,Nat.mul_one,g1]
    · have e:(A++b::B).take A.length++ivs (List.replicate (B.length+1) 0)++(A++b::B).drop (A.length+(ivs (List.replicate (B.length+1) 0)).length)=A++ivs (List.replicate (B.length+1) 0):=by
        rw[List.take_left' rfl,List.drop_eq_nil_of_le (by simp)];simp
      rw[e]at g2
      exact g2
def dd(p:Int):List Int→List Int
  | []=>[]
  | x::r=>if x=p then dd p r else x::dd x r
def compV:List Int→List Int
  | []=>[]
  | x::r=>x::dd x r
set_option maxRecDepth 8000 in
theorem comp_in {E : Env} (hE : Good E) {lo i n k0 : Nat} (hlo : lo ≤ i) (hn : n ≤ 1000) (hk0 : 0 < k0) {Q : ARes → Prop} (x1 x5 x6 x7 : AV) :
    ∀ (S W G : List Int) (p : Int) (s : ASt) (k2 : Nat) (x8 x9 : AV), 0 < k2 → k0 + k2 = W.length + G.length + 1 → n = W.length + G.length + 1 + S.length → k0 ≤ n → RowAt s i (ivs (W ++ (G ++ p :: S))) →
      (∀s' W' G' y4 y8 y9,W'=W++dd p S→W'.length+G'.length=n→RowAt s' i (ivs (W'++G'))→s'.next=s.next→(∀z,z≠i→s'.heap.get z=s.heap.get z)→Q ⟨.exit 2,[.slice (some (i,0)) n none,x1,iv (W'.length:Int),.slice (some (i,0+k0 * 1)) (n - k0) none,y4,x5,x6,x7,y8,y9],[],s'⟩) →
      WC E none (.loop c88l13) Q [.slice (some (i,0)) n none,x1,iv (W.length:Int),.slice (some (i,0+k0 * 1)) (n - k0) none,iv (k2:Int),x5,x6,x7,x8,x9] [] s:=by
  intro S
  induction S with
  | nil =>
    intro W G p s k2 x8 x9 hk2 hk hnn hkn hr hq
    have hlt:decide (((k2:Nat):Int)<((n - k0:Nat):Int))=false:=decide_eq_false (by simp at hnn;omega)
    refine WC.loop' ?_
    simp only[c88l13,c88o8,len_slice Try.underlying23,hlt,Qa,Qb,Qc,Qd,Qe,Qf,Qg,Qh,Qi,Qj,Qk,Ql,Qm,Qn,true_and,and_true,Qo,Qp,Qq,Qr,Qs,Qt,Qu,Qv,Qw,Qx,Qy,Qz,Ra,Rb,Rc,Rd,Re,Rf,Rg,Rh,Ri,Rj,Rk,Rl,Rm,Ya,Yb,Yc,Rn,Ro,Rp,Yd,Ye,Rq,Rs,Rt,Ru,Rv,Rw,Rx]
    exact hq s W (G++[p]) _ _ _ (by simp[dd]) (by simp at hnn ⊢;omega) hr rfl fun _ _=>rfl
  | cons x T ih =>
    intro W G p s k2 x8 x9 hk2 hk hnn hkn hr hq
    have hS:(x::T).length=T.length+1:=rfl
    rw[hS]at hnn
    have hlt:decide (((k2:Nat):Int)<((n - k0:Nat):Int))=true:=decide_eq_true (by omega)
    have a1:indexAddrA Try.prog 23 (.slice (some (i,0+k0 * 1)) (n - k0) none) (iv (k2:Int))=some (.ptr (some (i,0+k0 * 1+k2 * 1))):=idx_slice Try.underlying23 sz3 (by omega)
    have hs:=bin_sub Try.prog 3 (k2:Int) 1 ⟨by omega,by omega⟩
    have hs1:((k2:Int) - 1)=((k2 - 1:Nat):Int):=by omega
    rw[hs1]at hs
    have a0:indexAddrA Try.prog 23 (.slice (some (i,0+k0 * 1)) (n - k0) none) (iv ((k2 - 1:Nat):Int))=some (.ptr (some (i,0+k0 * 1+(k2 - 1) * 1))):=idx_slice Try.underlying23 sz3 (by omega)
    have aw:indexAddrA Try.prog 23 (.slice (some (i,0)) n none) (iv (W.length:Int))=some (.ptr (some (i,0+W.length * 1))):=idx_slice Try.underlying23 sz3 (by omega)
    have c1:ivs (W++(G++p::x::T))=ivs (W++G++[p])++iv x::ivs T:=by simp
    have c0:ivs (W++(G++p::x::T))=ivs (W++G)++iv p::ivs (x::T):=by simp
    have l1:loadV Try.prog s 3 (.ptr (some (i,0+k0 * 1+k2 * 1)))=some (iv x):=hr.loadAt (k:=W.length+G.length+1) (by rw[c1];exact get_mid (by simp;omega)) (by omega)
    have l0:loadV Try.prog s 3 (.ptr (some (i,0+k0 * 1+(k2 - 1) * 1)))=some (iv p):=hr.loadAt (k:=W.length+G.length) (by rw[c0];exact get_mid (by simp)) (by omega)
    have e3:=bin_add Try.prog 3 (k2:Int) 1 ⟨by omega,by omega⟩
    have e3':((k2:Int)+1)=((k2+1:Nat):Int):=by omega
    have e4:=bin_add Try.prog 3 (W.length:Int) 1 ⟨by omega,by omega⟩
    have e4':((W.length:Int)+1)=((W.length+1:Nat):Int):=by omega
    refine WC.loop' ?_
    generalize hW:WC E none (CCode.loop c88l13) Q=WW
    by_cases h:x=p
    · subst h
      simp only[c88l13,c88o8,c88o9,c88o12,len_slice Try.underlying23,hlt,a1,a0,l1,hs,l0,e3,e3',ne_eq,not_true,decide_false,Qa,Qb,Qc,Qd,Qe,Qf,Qg,Qh,Qi,Qj,Qk,Ql,Qm,Qn,true_and,and_true,Qo,Qp,Qq,Qr,Qs,Qt,Qu,Qv,Qw,Qx,Qy,Qz,Ra,Rb,Rc,Rd,Re,Rf,Rg,Rh,Ri,Rj,Rk,Rl,Rm,Ya,Yb,Yc,Rn,Ro,Rp,Yd,Ye,Rq,Rs,Rt,Ru,Rv,Rw,Rx]
      rw[← hW]
      have hc:W++(G++x::x::T)=W++((G++[x])++x::T):=by simp
      rw[hc]at hr
      refine ih W (G++[x]) x s (k2+1) _ _ (by omega) (by simp;omega) (by simp;omega) hkn hr ?_
      intro s' W' G' y4 y8 y9 f1 f2 f3 f4 f5
      exact hq s' W' G' y4 y8 y9 (by rw[f1];simp[dd]) f2 f3 f4 f5
    · have hd:dd p (x::T)=x::dd x T:=by simp[dd,h]
      obtain⟨g0,tl,htl,hG⟩:∃g0 tl,G++p::x::T=g0::tl∧∃G1,tl=G1++x::T∧G1.length=G.length:=by
        cases G with
        | nil=>exact⟨p,x::T,rfl,[],rfl,rfl⟩
        | cons g G=>exact⟨g,G++p::x::T,rfl,G++[p],by simp,by simp⟩
      obtain⟨G1,rfl,hG1⟩:=hG
      have cw:ivs (W++(G++p::x::T))=ivs W++iv g0::ivs (G1++x::T):=by rw[htl];simp
      have hr2:=hr
      rw[cw]at hr2
      obtain⟨s1,g1,g2,g3,g4⟩:=hr2.store (k:=W.length) (u:=iv x) (by simp) rfl rfl
      simp only[c88l13,c88o8,c88o9,c88o10,c88o11,c88o12,len_slice Try.underlying23,hlt,a1,a0,aw,l1,hs,l0,e3,e3',e4,e4',h,ne_eq,not_false_eq_true,decide_true,on2,g1,withV,Qa,Qb,Qc,Qd,Qe,Qf,Qg,Qh,Qi,Qj,Qk,Ql,Qm,Qn,true_and,and_true,Qo,Qp,Qq,Qr,Qs,Qt,Qu,Qv,Qw,Qx,Qy,Qz,Ra,Rb,Rc,Rd,Re,Rf,Rg,Rh,Ri,Rj,Rk,Rl,Rm,Ya,Yb,Yc,Rn,Ro,Rp,Yd,Ye,Rq,Rs,Rt,Ru,Rv,Rw,Rx]
      rw[← hW]
      have hr3:RowAt s1 i (ivs ((W++[x])++(G1++x::T))):=by
        have:ivs ((W++[x])++(G1++x::T))=ivs W++iv x::ivs (G1++x::T):=by simp
        rw[this];exact g2
      have hwl:(W++[x]).length=W.length+1:=by simp
      have:=ih (W++[x]) G1 x s1 (k2+1) (.bool true) (.bool true) (by omega) (by rw[hwl];omega) (by rw[hwl];omega) hkn hr3 ?_
      · rw[hwl]at this
        exact this
      · intro s' W' G' y4 y8 y9 f1 f2 f3 f4 f5
        exact hq s' W' G' y4 y8 y9 (by rw[f1,hd];simp) f2 f3 (by omega) fun z hz=>(f5 z hz).trans (g4 z hz)
set_option maxRecDepth 8000 in
theorem comp_out {E : Env} (hE : Good E) {lo i n : Nat} (hlo : lo ≤ i) (hn : n ≤ 1000) {Q : ARes → Prop} (x1 x5 : AV) :
    ∀ (R A : List Int) (y : Int) (s : ASt) (x3 x4 x6 x7 x8 x9 : AV), n = A.length + 1 + R.length → RowAt s i (ivs (A ++ y :: R)) →
      (∀e s' W' (G':List AV) y1 y2 y3 y4 y6 y7 y8 y9,(e=.ret∧y1=.slice (some (i,0)) W'.length none∨e=.exit 0∧y1=x1∧W'.length=n)→W'=A++y::dd y R→RowAt s' i (ivs W'++G')→s'.next=s.next→(∀z,z≠i→s'.heap.get z=s.heap.get z) →
        Q ⟨e,[.slice (some (i,0)) n none,y1,y2,y3,y4,x5,y6,y7,y8,y9],[],s'⟩) →
      WC E none (.loop c88l17) Q [.slice (some (i,0)) n none,x1,iv ((A.length+1:Nat):Int),x3,x4,x5,x6,x7,x8,x9] [] s:=by
  intro R
  induction R with
  | nil =>
    intro A y s x3 x4 x6 x7 x8 x9 hnn hr hq
    have hlt:decide (((A.length+1:Nat):Int)<(n:Int))=false:=decide_eq_false (by simp at hnn;omega)
    refine WC.loop' ?_
    simp only[c88l17,c88o4,len_slice Try.underlying23,hlt,Qa,Qb,Qc,Qd,Qe,Qf,Qg,Qh,Qi,Qj,Qk,Ql,Qm,Qn,true_and,and_true,Qo,Qp,Qq,Qr,Qs,Qt,Qu,Qv,Qw,Qx,Qy,Qz,Ra,Rb,Rc,Rd,Re,Rf,Rg,Rh,Ri,Rj,Rk,Rl,Rm,Ya,Yb,Yc,Rn,Ro,Rp,Yd,Ye,Rq,Rs,Rt,Ru,Rv,Rw,Rx]
    exact hq _ s (A++[y]) [] _ _ _ _ _ _ _ _ (.inr ⟨rfl,rfl,by simp at hnn ⊢;omega⟩) (by simp[dd]) (by simpa using hr) rfl fun _ _=>rfl
  | cons x T ih =>
    intro A y s x3 x4 x6 x7 x8 x9 hnn hr hq
    have hS:(x::T).length=T.length+1:=rfl
    rw[hS]at hnn
    have hlt:decide (((A.length+1:Nat):Int)<(n:Int))=true:=decide_eq_true (by omega)
    have a1:indexAddrA Try.prog 23 (.slice (some (i,0)) n none) (iv ((A.length+1:Nat):Int))=some (.ptr (some (i,0+(A.length+1) * 1))):=idx_slice Try.underlying23 sz3 (by omega)
    have hs:=bin_sub Try.prog 3 ((A.length+1:Nat):Int) 1 ⟨by omega,by omega⟩
    have hs1:(((A.length+1:Nat):Int) - 1)=((A.length:Nat):Int):=by omega
    rw[hs1]at hs
    have a0:indexAddrA Try.prog 23 (.slice (some (i,0)) n none) (iv ((A.length:Nat):Int))=some (.ptr (some (i,0+A.length * 1))):=idx_slice Try.underlying23 sz3 (by omega)
    have c1:ivs (A++y::x::T)=ivs (A++[y])++iv x::ivs T:=by simp
    have c0:ivs (A++y::x::T)=ivs A++iv y::ivs (x::T):=by simp
    have l1:loadV Try.prog s 3 (.ptr (some (i,0+(A.length+1) * 1)))=some (iv x):=hr.loadAt (k:=A.length+1) (by rw[c1];exact get_mid (by simp)) (by omega)
    have l0:loadV Try.prog s 3 (.ptr (some (i,0+A.length * 1)))=some (iv y):=hr.loadAt (k:=A.length) (by rw[c0];exact get_mid (by simp)) (by omega)
    have e3:=bin_add Try.prog 3 ((A.length+1:Nat):Int) 1 ⟨by omega,by omega⟩
    have e3':(((A.length+1:Nat):Int)+1)=((A.length+2:Nat):Int):=by omega
    refine WC.loop' ?_
    generalize hW:WC E none (CCode.loop c88l17) Q=WW
    by_cases h:x=y
    · subst h
      have hlen:(ivs (A++x::x::T)).length=n:=by simp;omega
      have s1:=row_lo (n:=n) (k:=A.length+1) hr (by omega) (by omega)
      simp only[c88l17,c88o4,c88o5,c88o6,c88o7,len_slice Try.underlying23,hlt,a1,a0,l1,hs,l0,s1,decide_true,Qa,Qb,Qc,Qd,Qe,Qf,Qg,Qh,Qi,Qj,Qk,Ql,Qm,Qn,true_and,and_true,Qo,Qp,Qq,Qr,Qs,Qt,Qu,Qv,Qw,Qx,Qy,Qz,Ra,Rb,Rc,Rd,Re,Rf,Rg,Rh,Ri,Rj,Rk,Rl,Rm,Ya,Yb,Yc,Rn,Ro,Rp,Yd,Ye,Rq,Rs,Rt,Ru,Rv,Rw,Rx]
      have hc:A++x::x::T=(A++[x])++([]++x::T):=by simp
      rw[hc]at hr
      have hwl:(A++[x]).length=A.length+1:=by simp
      have:=comp_in hE (n:=n) (k0:=A.length+1) hlo hn (by omega) (Q:=InBlock 2 (seqK (Qa E none (.seq (.ops c88o14) (.seq (.ops c88o15) .ret)) (InBlock 1 (seqK (Qa E none (.ops c88o16) (seqK WW Q)) (seqK WW Q)))) (InBlock 1 (seqK (Qa E none (.ops c88o16) (seqK WW Q)) (seqK WW Q))))) x1 x5 (.bool true) (.bool true) T (A++[x]) [] x s 1 x8 x9 (by omega) (by rw[hwl];simp) (by rw[hwl];simp;omega) (by omega) hr ?_
      · rw[hwl]at this
        simp only[Qa,Qb,Qc,Qd,Qe,Qf,Qg,Qh,Qi,Qj,Qk,Ql,Qm,Qn,true_and,and_true,Qo,Qp,Qq,Qr,Qs,Qt,Qu,Qv,Qw,Qx,Qy,Qz,Ra,Rb,Rc,Rd,Re,Rf,Rg,Rh,Ri,Rj,Rk,Rl,Rm,Ya,Yb,Yc,Rn,Ro,Rp,Yd,Ye,Rq,Rs,Rt,Ru,Rv,Rw,Rx]at this
        exact this
      · intro s' W' G' y4 y8 y9 f1 f2 f3 f4 f5
        have hlen':(ivs (W'++G')).length=n:=by simp;omega
        have t1:=row_lo (n:=n) (k:=W'.length) f3 (by omega) (by omega)
        rw[ivs_append]at f3
        obtain⟨s2,Z,g1,g2,g3,g4,g5⟩:=row_clear f3 (k:=W'.length) (m:=n - W'.length) (by simp) (by simp;omega)
        have t2:=row_hi (n:=n) (k:=W'.length) g3 (by simp)
        simp only[c88o14,c88o15,t1,g1,t2,if_true,Qa,Qb,Qc,Qd,Qe,Qf,Qg,Qh,Qi,Qj,Qk,Ql,Qm,Qn,true_and,and_true,Qo,Qp,Qq,Qr,Qs,Qt,Qu,Qv,Qw,Qx,Qy,Qz,Ra,Rb,Rc,Rd,Re,Rf,Rg,Rh,Ri,Rj,Rk,Rl,Rm,Ya,Yb,Yc,Rn,Ro,Rp,Yd,Ye,Rq,Rs,Rt,Ru,Rv,Rw,Rx]
        have hd:dd x (x::T)=dd x T:=by simp[dd]
        exact hq _ s2 W' Z _ _ _ _ _ _ _ _ (.inl ⟨rfl,rfl⟩) (by rw[f1,hd];simp) g3 (by omega) fun z hz=>(g5 z hz).trans (f5 z hz)
    · simp only[c88l17,c88o4,c88o5,c88o16,len_slice Try.underlying23,hlt,a1,a0,l1,hs,l0,e3,e3',h,decide_false,Qa,Qb,Qc,Qd,Qe,Qf,Qg,Qh,Qi,Qj,Qk,Ql,Qm,Qn,true_and,and_true,Qo,Qp,Qq,Qr,Qs,Qt,Qu,Qv,Qw,Qx,Qy,Qz,Ra,Rb,Rc,Rd,Re,Rf,Rg,Rh,Ri,Rj,Rk,Rl,Rm,Ya,Yb,Yc,Rn,Ro,Rp,Yd,Ye,Rq,Rs,Rt,Ru,Rv,Rw,Rx]
      rw[← hW]
      have hwl:(A++[y]).length=A.length+1:=by simp
      have hc:A++y::x::T=(A++[y])++x::T:=by simp
      rw[hc]at hr
      have:=ih (A++[y]) x s x3 x4 (.bool true) (.bool false) x8 x9 (by rw[hwl];omega) hr ?_
      · rw[hwl]at this
        exact this
      · intro e s' W' G' y1 y2 y3 y4 y6 y7 y8 y9 f1 f2 f3 f4 f5
        exact hq e s' W' G' y1 y2 y3 y4 y6 y7 y8 y9 f1 (by rw[f2];simp[dd,h]) f3 f4 f5
theorem rowAt_of_load1{s:ASt}{i o:Nat}{u:AV}(h:load1 s i o=some u):∃r,rowAt s i=some r∧o<r.n∧r.c.get o=some u:=by
  unfold load1 at h
  simp only[Option.bind_eq_some_iff]at h
  obtain⟨r,h1,h2⟩:=h
  cases hb:Nat.blt o r.n with
  | true=>rw[hb]at h2;exact⟨r,h1,by simpa[Nat.blt_eq]using hb,h2⟩
  | false=>rw[hb]at h2;cases h2
theorem CellsAt.loadN{b:Nat}{s:ASt}{i o:Nat}{cs:List AV}(h:CellsAt b s (some (i,o)) cs)(hne:cs≠[]):loadN s i o cs.length=some cs:=by
  have hp:∀k u,cs[k]? = some u→load1 s i (o+k)=some u:=by
    intro k u hk
    obtain⟨i',o',e,_,h2⟩:=h k u hk
    injection e with e;injection e with e1 e2;subst e1;subst e2
    exact h2
  have hpos:0<cs.length:=List.length_pos_iff.2 hne
  obtain⟨r,h1,h2,_⟩:=rowAt_of_load1 (hp (cs.length - 1) cs[cs.length - 1] (List.getElem?_eq_getElem (by omega)))
  unfold Go.Proofs.Ytilhhmkdcoajnaa.Am.loadN
  rw[h1]
  have hb:Nat.ble (o+cs.length) r.n=true:=ble_of (by omega)
  simp only[Option.bind_some,guardB,hb,cond_true]
  refine take_of _ _ fun j u hj=>?_
  obtain⟨r',g1,_,g3⟩:=rowAt_of_load1 (hp j u hj)
  rw[h1]at g1;injection g1 with g1;subst g1
  exact g3
theorem SliceAt.src{b:Nat}{s:ASt}{a:Option (Nat×Nat)}{n:Nat}{cap:Option Nat}{cs:List AV}(h:CellsAt b s a cs)(hn:cs.length=n)(h0:0<n){e:TypeId}:srcCells Try.prog s e 1 (.slice a n cap)=some (n,cs):=by
  subst hn
  have hne:cs≠[]:=List.length_pos_iff.1 h0
  cases a with
  | none =>
    obtain⟨i,o,e,_⟩:=h 0 cs[0] (List.getElem?_eq_getElem h0)
    cases e
  | some io =>
    obtain⟨i,o⟩:=io
    have:=srcN_load (size:=1) (by rw[Nat.mul_one];exact h.loadN hne)
    simp[srcCells,this]
theorem eq_nil23{a:Option (Nat×Nat)}{n:Nat}{cap:Option Nat}:binA Try.prog .eql 23 (.slice a n cap) (.slice none 0 (some 0))=some (.bool a.isNone):=by
  have h:isSliceT Try.prog 23=true:=by simp[isSliceT,Try.underlying23]
  cases a<;>simp[binA,eqV,guardB,h]
set_option maxRecDepth 8000 in
theorem clone_ok {E : Env} (hE : Good E) {b : Nat} {s : ASt} {v : AV} {L : List Int} (hb : b ≤ s.next) (h : SliceAt b s v (ivs L)) (hL : L.length ≤ 1000000) :
    WF E 60 [v] (fun r s'=>IntArr s.next s' r L∧Old s.next s s') s:=by
  obtain⟨a,cap,rfl,hc⟩:=h
  rw[ivs_len]at *
  refine hE.go comp60 (by decide) rfl ?_
  cases ha:a with
  | none =>
    subst ha
    have hL0:L=[]:=by
      cases L with
      | nil=>rfl
      | cons x L=>obtain⟨i,o,e,_⟩:=hc 0 (iv x) rfl;cases e
    subst hL0
    simp only[c60,c60o0,c60o1,c60o2,eq_nil23,Option.isNone_none,Qa,Qb,Qc,Qd,Qe,Qf,Qg,Qh,Qi,Qj,Qk,Ql,Qm,Qn,true_and,and_true,Qo,Qp,Qq,Qr,Qs,Qt,Qu,Qv,Qw,Qx,Qy,Qz,Ra,Rb,Rc,Rd,Re,Rf,Rg,Rh,Ri,Rj,Rk,Rl,Rm,Ya,Yb,Yc,Rn,Ro,Rp,Yd,Ye,Rq,Rs,Rt,Ru,Rv,Rw,Rx]
    exact⟨.inl ⟨none,rfl,rfl⟩,Old.refl _ _⟩
  | some io =>
    obtain⟨i,o⟩:=io
    subst ha
    have b0:=bld_zero (P:=Try.prog) (t:=23) Try.underlying23 sz3 zr3 rfl
    have hmv:∀ (m:Nat) (i:Nat),Made.val i (.slice m)=.slice (some (i,0)) m (some m):=fun _ _=>rfl
    generalize hs1:newObj s (mkRow 3 1 [])=s1
    have n1:s1.next=s.next+1:=by rw[← hs1];rfl
    have o1:Old s.next s s1:=by rw[← hs1];exact Old.new s _
    have hld:loadN s1 s.next 0 (0 * 1)=some []:=by
      obtain⟨r,h1,h2,_⟩:=holds_mkRow 3 1 []
      exact loadN_holds (s:=s1) (i:=s.next) (by rw[← hs1,heap_new,if_pos rfl,h1]) h2 0 [] (Nat.le_refl _) (fun j u hj=>by simp at hj)
    have hx:isSliceOrStr Try.prog 23=true:=strx 23 3 Try.underlying23
    cases hLc:L with
    | nil =>
      subst hLc
      have hsrc:srcCells Try.prog s1 3 1 (.slice (some (i,o)) 0 cap)=some (0,[]):=rfl
      have happ:appendA Try.prog s1 [23,23] [.slice (some (s.next,0)) 0 (some 0),.slice (some (i,o)) 0 cap]=some (.slice (some (s.next,0)) 0 (some 0),s1):=by
        rw[appendA_eq Try.underlying23 sz3 by3 (by decide) hx hsrc rfl (by omega) (by omega)]
        rfl
      simp only[c60,c60o0,c60o1,c60o3,eq_nil23,Option.isNone_some,List.length_nil,b0,hs1,hmv,happ,Qa,Qb,Qc,Qd,Qe,Qf,Qg,Qh,Qi,Qj,Qk,Ql,Qm,Qn,true_and,and_true,Qo,Qp,Qq,Qr,Qs,Qt,Qu,Qv,Qw,Qx,Qy,Qz,Ra,Rb,Rc,Rd,Re,Rf,Rg,Rh,Ri,Rj,Rk,Rl,Rm,Ya,Yb,Yc,Rn,Ro,Rp,Yd,Ye,Rq,Rs,Rt,Ru,Rv,Rw,Rx]
      exact⟨.inl ⟨_,rfl,rfl⟩,o1⟩
    | cons x T =>
      rw[← hLc]
      have hne:0<L.length:=by rw[hLc];simp
      have hc1:CellsAt b s1 (some (i,o)) (ivs L):=hc.old o1 hb
      have hsrc:=SliceAt.src (e:=3) (cap:=cap) hc1 (ivs_len L) hne
      have happ:appendA Try.prog s1 [23,23] [.slice (some (s.next,0)) 0 (some 0),.slice (some (i,o)) L.length cap]=some (.slice (some (s1.next,0)) L.length none,newObj s1 (grownRow 3 1 (Tree.fill .leaf 0 (ivs L)) (ivs L).length none)):=by
        rw[appendA_eq Try.underlying23 sz3 by3 (by decide) hx hsrc (cells_ivs L) (by omega) (by omega)]
        simp only[appTo,appExact,show Nat.ble (0+L.length) 0=false from ble_off (by omega),Nat.zero_add,show Nat.ble L.length 0=false from ble_off (by omega),cond_false,hld,Option.bind_some,appFresh,guardB,zero3,cond_true,List.nil_append,Nat.zero_add]
      simp only[c60,c60o0,c60o1,c60o3,eq_nil23,Option.isNone_some,b0,hs1,hmv,happ,Qa,Qb,Qc,Qd,Qe,Qf,Qg,Qh,Qi,Qj,Qk,Ql,Qm,Qn,true_and,and_true,Qo,Qp,Qq,Qr,Qs,Qt,Qu,Qv,Qw,Qx,Qy,Qz,Ra,Rb,Rc,Rd,Re,Rf,Rg,Rh,Ri,Rj,Rk,Rl,Rm,Ya,Yb,Yc,Rn,Ro,Rp,Yd,Ye,Rq,Rs,Rt,Ru,Rv,Rw,Rx]
      refine⟨.inr ⟨s1.next,rfl,by omega,Nat.lt_succ_self _,_,by rw[heap_new,if_pos rfl];rfl,⟨rfl,?_⟩,rfl,rfl,rfl⟩,o1.trans ((Old.new s1 _).mono (by omega))⟩
      intro k u hk
      have hlt:=lt_of_get hk
      show(Tree.fill .leaf 0 (ivs L)).get k=some u
      rw[Tree.get_fill,if_pos ⟨Nat.zero_le _,by omega⟩]
      simpa using hk
theorem IntArr.slice{lo:Nat}{s:ASt}{v:AV}{L:List Int}(h:IntArr lo s v L):SliceAt s.next s v (ivs L):=by
  rcases h with⟨a,rfl,rfl⟩ | ⟨i,rfl,h1,h2,h3⟩
  · exact⟨a,some 0,rfl,CellsAt.nil⟩
  · exact⟨some (i,0),none,by simp,fun k u hk=>⟨i,0,rfl,h2,by rw[Nat.zero_add];exact h3.load1 hk⟩⟩
theorem sortV_len(L:List Int):(sortV L).length=L.length:=by
  have:∀ (R q:List Int),(R.foldl (fun q x=>down x q) q).length=q.length+R.length:=by
    intro R
    induction R with
    | nil=>intro q;rfl
    | cons y R ih=>intro q;simp only[List.foldl_cons,ih,down_len,List.length_cons];omega
  unfold sortV
  rw[List.length_reverse,this];simp
abbrev Rise(l:List Int):Prop:=l.Pairwise (·<·)
abbrev Fall(l:List Int):Prop:=l.Pairwise (fun a b=>b≤a)
theorem down_mem (x z : Int) : ∀ q, z ∈ down x q ↔ z = x ∨ z ∈ q
  | []=>by simp[down]
  | y::q=>by
    have ih:=down_mem x z q
    unfold down
    split
    · simp only[List.mem_cons,ih]
      constructor
      · rintro (h | h | h)
        · exact .inr (.inl h)
        · exact .inl h
        · exact .inr (.inr h)
      · rintro (h | h | h)
        · exact .inr (.inl h)
        · exact .inl h
        · exact .inr (.inr h)
    · simp only[List.mem_cons]
theorem down_fall{x:Int}:∀ {q},Fall q→Fall (down x q)
  | [],_=>by simp[down]
  | y::q,h=>by
    obtain⟨h1,h2⟩:=List.pairwise_cons.1 h
    unfold down
    split
    · rename_i hlt
      refine List.pairwise_cons.2 ⟨fun z hz=>?_,down_fall h2⟩
      rcases(down_mem x z q).1 hz with rfl | hz
      · omega
      · exact h1 z hz
    · rename_i hn
      refine List.pairwise_cons.2 ⟨fun z hz=>?_,h⟩
      rcases List.mem_cons.1 hz with rfl | hz
      · omega
      · have:=h1 z hz;omega
theorem foldDown:∀ (R:List Int){q:List Int},Fall q→Fall (R.foldl (fun q x=>down x q) q)∧∀z,z∈R.foldl (fun q x=>down x q) q↔z∈q∨z∈R
  | [],q,h=>⟨h,fun z=>by simp⟩
  | x::R,q,h=>by
    obtain⟨h1,h2⟩:=foldDown R (down_fall (x:=x) h)
    refine⟨h1,fun z=>?_⟩
    rw[List.foldl_cons,h2,down_mem,List.mem_cons]
    constructor
    · rintro ((h | h) | h)
      · exact .inr (.inl h)
      · exact .inl h
      · exact .inr (.inr h)
    · rintro (h | h | h)
      · exact .inl (.inr h)
      · exact .inl (.inl h)
      · exact .inr h
theorem dd_rise : ∀ (l : List Int) (p : Int), (p :: l).Pairwise (· ≤ ·) → Rise (p :: dd p l) ∧ ∀ z, z ∈ p :: dd p l ↔ z ∈ p :: l
  | [],p,_=>⟨by simp[dd],fun z=>by simp[dd]⟩
  | x::l,p,h=>by
    obtain⟨h1,h2⟩:=List.pairwise_cons.1 h
    unfold dd
    split
    · rename_i e
      subst e
      obtain⟨k1,k2⟩:=dd_rise l x h2
      refine⟨k1,fun z=>?_⟩
      rw[k2,List.mem_cons,List.mem_cons,List.mem_cons]
      constructor
      · rintro (h | h)
        · exact .inl h
        · exact .inr (.inr h)
      · rintro (h | h | h)
        · exact .inl h
        · exact .inl h
        · exact .inr h
    · rename_i hne
      obtain⟨k1,k2⟩:=dd_rise l x h2
      refine⟨List.pairwise_cons.2 ⟨fun z hz=>?_,k1⟩,fun z=>?_⟩
      · have hpx:=h1 x List.mem_cons_self
        rcases List.mem_cons.1 ((k2 z).1 hz)with rfl | hz'
        · omega
        · have:=(List.pairwise_cons.1 h2).1 z hz';omega
      · rw[List.mem_cons,k2,List.mem_cons (l:=x::l)]
def PendK(Q:ARes→Prop)(var:List AV)(marks:List Nat)(s:ASt)(pd:Option Code):Prop:=match pd with
  | none=>Q ⟨.normal,var,marks,s⟩
  | some .ret=>Q ⟨.ret,var,marks,s⟩
  | some (.exit id)=>Q ⟨.exit id,var,marks,s⟩
  | some _=>False
theorem pend_run{Q:ARes→Prop}{var:List AV}{marks:List Nat}{s:ASt}{pd:Option Code}(h:PendK Q var marks s pd):∃r,cPending var marks s pd=some r∧Q r:=by
  unfold PendK at h
  unfold cPending
  split at h
  · exact⟨_,rfl,h⟩
  · exact⟨_,rfl,h⟩
  · exact⟨_,rfl,h⟩
  · exact h.elim
def loopObj(fn:FuncId)(var:List AV)(ps:Array Tmp)(a b:Code)(dfr:Nat):ALoop:={ state:=.ready,pending:=none,fn,var,params:=ps,assign:=a,body:=b,dfr }
theorem WC.range{E:Env}{Q:ARes→Prop}{var:List AV}{marks:List Nat}{s:ASt}{fn:FuncId}{f:CX}{ps:Array Tmp}{a b:Code}{g:FuncId}{first cap:List AV}(hf:cev [] var f=.func g first cap)
    (h:WF E g (first++([.yield (s.next+1)]++cap)) (fun _ s'=>∃r,loopAt s' (s.next+1)=some r∧isBusy r.state=false∧PendK Q var (s.next::marks) (setObj s' (s.next+1) (.loop { r with state:=.exhausted })) r.pending)
      (newObj (newObj s .mark) (.loop (loopObj fn var ps a b s.next)))):WC E none (.rangeFunc fn f ps a b) Q var marks s:=by
  obtain⟨n,p,h1,r,h2,h3,h4⟩:=h
  obtain⟨res,h5,h6⟩:=pend_run h4
  refine⟨n+1,res,?_,h6⟩
  show stepC (runA E n) none (.rangeFunc fn f ps a b) var marks s=some res
  simp only[stepC,cRange,cRange2,cRangeEnd,hf,callV]
  have e:(newObj s .mark).next=s.next+1:=rfl
  rw[e]
  have h1':=h1
  unfold loopObj at h1'
  rw[h1']
  simp only[Option.bind_some,h2,h3,cond_false,h5]
theorem WR.round{E:Env}{K:AV→ASt→Prop}{l:Nat}{xs:List AV}{s:ASt}{r:ALoop}{var:List AV}{ca cb:CCode}(h1:loopAt s l=some r)(h2:zipParams (varsIn E.P r.fn) r.var r.params.toList xs=some var)
    (h3:compIn E.P r.fn r.assign=some ca) (h4:compIn E.P r.fn r.body=some cb)
    (h:WC E (some l) ca (fun q=>q.exit=.normal∧∃r',loopAt q.st l=some r'∧isReady r'.state=true ∧
      WC E (some l) cb (fun q2=>∃r'',loopAt q2.st l=some r''∧K (.bool (exitCode q2.exit).isNone) (setObj q2.st l (.loop { r'' with state:=stateOf (exitCode q2.exit),pending:=exitCode q2.exit }))) q.var q.marks (setObj q.st l (.loop { r' with state:=.busy }))) var [] s):WR E l xs K s:=by
  obtain⟨n,q,g1,g2,r',g3,g4,m,q2,g5,r'',g6,g7⟩:=h
  refine⟨max n m+1,(_,_),?_,g7⟩
  show stepR E (runA E (max n m)) l xs s=_
  simp only[stepR,h1,Option.bind_some,h2,h3,h4,roundBody,(runA_le E (Nat.le_max_left n m)).code g1,g2,isNormal,cond_true,g3,g4,roundEnd,(runA_le E (Nat.le_max_right n m)).code g5,g6]
  rfl
def codeRange:Code→Option (Code×Code)
  | .seq x y=>match codeRange x with
    | some p=>some p
    | none=>codeRange y
  | .cond _ x y=>match codeRange x with
    | some p=>some p
    | none=>codeRange y
  | .block _ c=>codeRange c
  | .loop c=>codeRange c
  | .scope c=>codeRange c
  | .rangeFunc _ _ a b=>some (a,b)
  | _=>none
def rangeOf (f:FuncId):Code×Code:=(((Try.prog.funcs[f]?).bind fun fn=>fn.body.bind codeRange)).getD (.skip,.skip)
def Box1(s:ASt)(j:Nat)(c:AV):Prop:=∃r,s.heap.get j=some (.row r)∧Holds r [c]∧r.mode=.own∧r.par=none
theorem Box1.keep{s s':ASt}{j:Nat}{c:AV}(h:Box1 s j c)(k:s'.heap.get j=s.heap.get j):Box1 s' j c:=by
  obtain⟨r,h1,h2⟩:=h
  exact⟨r,k.trans h1,h2⟩
theorem Box1.load{s:ASt}{j:Nat}{c:AV}(h:Box1 s j c){t:TypeId}(ht:aggT Try.prog t=some false):loadV Try.prog s t (.ptr (some (j,0)))=some c:=by
  obtain⟨r,h1,h2,_⟩:=h
  exact load_one ht (load1_row h1 (by rw[h2.1];simp) (h2.2 0 c rfl))
theorem Box1.store{s:ASt}{j:Nat}{c d:AV}(h:Box1 s j c){t:TypeId}(ht:sizeT Try.prog t=some 1)(h1:d.isCell=true)(h2:d.cells=[d]):
    ∃s',storeV Try.prog s t (.ptr (some (j,0))) d=some s'∧Box1 s' j d∧s'.next=s.next∧∀x,x≠j→s'.heap.get x=s.heap.get x:=by
  obtain⟨r,g1,g2,g3,g4⟩:=h
  refine⟨setObj s j (.row { r with c:=r.c.fill 0 [d],par:=none }),?_,⟨{ r with c:=r.c.fill 0 [d],par:=none },by rw[heap_set,if_pos rfl],⟨g2.1,?_⟩,g3,rfl⟩,rfl,fun x hx=>by rw[heap_set,if_neg hx]⟩
  · simp[storeV,ht,h2,guardB,storeN_row (vs:=[d]) (o:=0) g1 g3 g4 (by simp) (by rw[g2.1];simp) (by simp[allCells,h1])]
  · intro k u hk
    have:=lt_of_get hk
    show(Tree.fill r.c 0 [d]).get k=some u
    rw[Tree.get_fill,if_pos ⟨Nat.zero_le _,by simpa using this⟩]
    simpa using hk
theorem Box1.new{s:ASt}{t:TypeId}{c:AV}:Box1 (newObj s (mkRow t 0 [c])) s.next c:=by
  obtain⟨r,h1,h2,_,_,h5,h6⟩:=holds_mkRow t 0 [c]
  exact⟨r,by rw[heap_new,if_pos rfl,h1],h2,h5,h6⟩
section
end
theorem loopAt_eq{s s':ASt}{l:Nat}(h:s'.heap.get l=s.heap.get l):loopAt s' l=loopAt s l:=by unfold loopAt;rw[h]
theorem loopAt_set(s:ASt)(l:Nat)(r:ALoop):loopAt (setObj s l (.loop r)) l=some r:=by unfold loopAt;rw[heap_set,if_pos rfl]
theorem again_r1(s:ASt)(loc var:List AV)(f:ASt→AV→Option AV)(x a:CX):again1 s loc var ⟨none,.r1 f,[x],a⟩=sameA (f s (cev loc var x)) (cev loc var a):=rfl
theorem results_load(P:Program)(s:ASt)(v:List AV)(x:CX)(t:TypeId)(l:List (CX×Option TypeId)):resultsA P s v ((x,some t)::l)=(loadV P s t (cev [] v x)).bind fun u=>(resultsA P s v l).bind fun r=>some (u::r):=rfl
theorem alloc23:allocA Try.prog 23=some (mkRow 23 0 [.slice none 0 (some 0)],.ptr):=by simp[allocA,zr23,AV.cells]
end
end Go.Proofs.Ytilhhmkdcoajnaa.Am
