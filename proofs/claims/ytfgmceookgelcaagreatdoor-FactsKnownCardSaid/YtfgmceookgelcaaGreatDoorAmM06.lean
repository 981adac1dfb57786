/- Package nat: rows of limbs; Clone and Trim, walked; conditions: none. -/
import Derived.Test.YtfgmceookgelcaaGreatDoorAmM05
import Derived.Test.YtfgmceookgelcaaGreatDoorProg
set_option linter.unusedVariables false
set_option linter.unusedSimpArgs false
set_option maxRecDepth 12000
namespace Go.Proofs.YtfgmceookgelcaaGreatDoor.Am
open Go Go.Proofs
noncomputable section
def cE:List FuncId:=[74,79,86,40,42,95,83,78,265]
structure An(E:Cg):Prop where
 P:E.P=Tryz.prog
 nat:∀ (f:FuncId) (xs:List AV) (s:AE),f ∉ cE→E.nat f xs s=none
theorem An.go{E:Cg}(hE:An E){f:FuncId}{xs:List AV}{cf:Ay}{K:AV→AE→Prop}{s:AE}(hf:AS Tryz.prog f=some cf)(hne:f ∉ cE)(ha:xs.length=cf.na)(h:Qa E none cf.body (Ends Tryz.prog cf.results K) (Ql xs cf.nv) [] s):WF E f xs K s:=
 WF.body' (hE.nat f xs s hne) (by rw[hE.P];exact hf) ha (by rw[hE.P];exact h)
def Lv(s:AE)(a:Option (Nat×Nat))(cap:Option Nat)(n:Nat):Prop:=
 (∃c,cap=some c∧n≤c∧(a=none→c=0))∨(cap=none∧∃i o r,a=some (i,o)∧i<s.next∧s.heap.get i=some (.row r)∧r.sz=1∧o+n≤r.n)
theorem Lv.old{s s':AE}{a:Option (Nat×Nat)}{cap:Option Nat}{n:Nat}(h:Lv s a cap n)(k:A8 s.next s s'):Lv s' a cap n:=by
 rcases h with h | ⟨h1,i,o,r,h3,h4,h5,h6⟩
 ·exact .inl h
 ·exact .inr ⟨h1,i,o,r,h3,fy h4 k.1,by rw[k.2 i h4];exact h5,h6⟩
theorem Lv.less{s:AE}{a:Option (Nat×Nat)}{cap:Option Nat}{n k:Nat}(h:Lv s a cap n)(hk:k≤n):Lv s a cap k:=by
 rcases h with⟨c,h1,h2,h3⟩ | ⟨h1,i,o,r,h3,h4,h5,h6,h7⟩
 ·exact .inl ⟨c,h1,by omega,h3⟩
 ·exact .inr ⟨h1,i,o,r,h3,h4,h5,h6,by omega⟩
theorem XS{t e:TypeId}(ht:Tryz.prog.underlying t=some (.slice e))(hs:A2 Tryz.prog e=some 1){s:AE}{a:Option (Nat×Nat)}{cap:Option Nat}{n k:Nat}(hc:Lv s a cap n)(hk:k≤n):
    Bg Tryz.prog t false true false s [.slice a n cap,iv (k:Int)]=some (.slice a k cap):=by
  show Bf Tryz.prog s t (.slice a n cap) none (some (iv (k:Int))) none=_
  rcases hc with⟨c,rfl,h1,h2⟩ | ⟨rfl,i,o,r,rfl,h3,h4,h5,h6⟩
  · have hb:BT (iv (k:Int)) c=some k:=by simp[BT,GX,AH,Cy (show k≤c by omega),Er]
    cases a with
    | none=>simp[Bf,ht,hs,hb]
    | some io=>obtain⟨i,o⟩:=io;cases hb2:Nat.beq c 0<;>simp[Bf,ht,hs,hb,hb2]
  · have hrow : rowAt s i = some r := by unfold rowAt; rw [h4]
    have hb:BT (iv (k:Int)) ((r.n - o) / 1)=some k:=by simp[BT,GX,AH,Cy (show k≤r.n - o by omega),Er]
    have hsz:Nat.beq 1 r.sz=true:=Gl h5.symm
    simp only[Bf,ht,hs,hrow,hsz,AH,hb,Cy (show o≤r.n by omega),show Nat.beq 1 0=false from rfl,Option.bind_some,Bool.true_and,Bool.and_true,Bool.not_false,cond_true]
    simp
def CW(s:AE)(v:AV)(l:List Nat):Prop:=∃a cap,v=.slice a l.length cap∧Lv s a cap l.length∧Ai s.next s a (us l)
theorem CW.old{s s':AE}{v:AV}{l:List Nat}(h:CW s v l)(k:A8 s.next s s'):CW s' v l:=by
 obtain⟨a,cap,h1,h2,h3⟩:=h
 exact⟨a,cap,h1,h2.old k,(h3.old k (fu _)).mono k.1⟩
theorem CW.at{s:AE}{a:Option (Nat×Nat)}{l:List Nat}(h:Ai s.next s a (us l)){k x:Nat}(hk:l[k]? = some x):∃i o,a=some (i,o)∧i<s.next∧Cc s i (o+k)=some (BO x):=h k _ (DB hk)
theorem CW.take{s:AE}{a:Option (Nat×Nat)}{cap:Option Nat}{l:List Nat}(h2:Lv s a cap l.length)(h3:Ai s.next s a (us l)){k:Nat}(hk:k≤l.length):CW s (.slice a k cap) (l.take k):=by
 have hl:(l.take k).length=k:=by rw[gS];omega
 refine⟨a,cap,by rw[hl],by rw[hl];exact h2.less hk,fun j u hu=>?_⟩
 rw[Sm,List.getElem?_take]at hu
 split at hu
 ·exact h3 j u hu
 ·cases hu
def fW(s:AE)(v:AV)(l:List Nat):Prop:=∃i,v=.slice (some (i,0)) l.length none∧i<s.next∧B3 s i (us l) none
def NR(b:Nat)(s:AE)(v:AV)(l:List Nat):Prop:=∃O,CT 203 s v l.length 1 (us l) O∧(∀j∈O,b≤j)∧(∀j,C8 v=some j→b≤j)∧(l≠[]→fW s v l)
theorem CT.n32{s:AE}{v:AV}{l O:List Nat}(h1:CT 203 s v l.length 1 (us l) O):CW s v l:=by
 obtain⟨a,cap,rfl,hc⟩:=h1.cells
 refine⟨a,cap,rfl,?_,hc⟩
 rcases h1 with⟨a',e,_,_,h4,_⟩ | ⟨i,p,e,h2,_⟩
 ·injection e with e1 e2 e3
  subst e1;subst e3
  exact .inl ⟨_,rfl,fu _,h4⟩
 ·injection e with e1 e2 e3
  subst e1;subst e3
  rcases h2.ex with⟨e',_⟩ | ⟨_,_,k2,_,r,k4,k5,_,_,k8,_⟩
  ·cases e'
  ·exact .inr ⟨rfl,i,0,r,rfl,k2,k4,k8,by rw[k5.1,CM];omega⟩
theorem NR.n32{b:Nat}{s:AE}{v:AV}{l:List Nat}(h:NR b s v l):CW s v l:=by
 obtain⟨O,h1,_,_⟩:=h
 exact h1.n32
theorem NR.mono{b b':Nat}{s:AE}{v:AV}{l:List Nat}(h:NR b s v l)(k:b'≤b):NR b' s v l:=by
 obtain⟨O,h1,h2,h3,h4⟩:=h
 exact⟨O,h1,fun j hj=>fx k (h2 j hj),fun j hj=>fx k (h3 j hj),h4⟩
theorem NR.nil(b:Nat)(s:AE):NR b s (.slice none 0 (some 0)) []:=⟨[],CT.nil s 1,fun j hj=>(by cases hj),fun j hj=>(by cases hj),fun h=>absurd rfl h⟩
theorem NR.old{b:Nat}{s s':AE}{v:AV}{l:List Nat}(h:NR b s v l)(k:A8 s.next s s'):NR b s' v l:=by
 obtain⟨O,h1,h2,h3,h4⟩:=h
 refine⟨O,h1.frame k.1 (fun j hj=>?_),h2,h3,fun hne=>by obtain⟨i,q1,q2,q3⟩:=h4 hne;exact⟨i,q1,fy q2 k.1,q3.keep (k.2 i q2)⟩⟩
 refine k.2 j ?_
 rcases h1 with⟨a,rfl,_,_,_,h5⟩ | ⟨i,p,rfl,h6,_⟩
 ·cases a with
  | none=>cases hj
  | some io=>obtain⟨i,o⟩:=io;injection hj with hj;subst hj;exact(h5 i o rfl).1
 ·injection hj with hj
  subst hj
  rcases h6.ex with⟨e',_⟩ | ⟨_,_,k2,_⟩
  ·cases e'
  ·exact k2
theorem Su:Bs Tryz.prog 59=true:=by kernel_rfl
theorem NJ:Cm Tryz.prog 203 1=true:=by kernel_rfl
theorem bN:Ak Tryz.prog 59 0 (zipIdx [] [])=some (R 203 1 false []):=by kernel_rfl
theorem FQ(x:Int):Ak Tryz.prog 59 1 (zipIdx [0] [.int .u32 x])=some (R 203 1 false [.int .u32 x]):=by kernel_rfl
theorem M7(x y:Int):Ak Tryz.prog 59 2 (zipIdx [0,1] [.int .u32 x,.int .u32 y])=some (R 203 1 false [.int .u32 x,.int .u32 y]):=by kernel_rfl
theorem ZF(l:List Nat):Aq (us l)=true:=by
 induction l with
 | nil=>rfl
 | cons x l ih=>show((BO x).isCell && Aq (us l))=true;rw[ih];rfl
theorem Y1{s:AE}{a:Option (Nat×Nat)}{cap:Option Nat}{l:List Nat}(h:Ai s.next s a (us l)):B0 Tryz.prog s 203 1 (.slice a l.length cap)=some (l.length,us l):=by
 cases l with
 | nil =>
  cases a with
  | none=>rfl
  | some io=>obtain⟨i,o⟩:=io;rfl
 | cons x l =>
  obtain⟨i,o,rfl,_,_⟩:=h 0 _ rfl
  have hld:=ao (o:=s.heap.get i) (us (x::l)) o (fun j u hj=>by
   obtain⟨i',o',e,_,h3⟩:=h j u hj
   injection e with e
   injection e with e1 e2
   subst e1;subst e2
   exact h3) (by simp[us])
  rw[CM]at hld
  show(QV s i o (x::l).length 1).bind _=_
  rw[show QV s i o (x::l).length 1=Be s i o ((x::l).length * 1)from by unfold QV;rw[Dq (show(x::l).length≠0 by simp)];rfl,gB,Mm,hld]
  rfl
theorem NQ{s:AE}{i o:Nat}(hz:Be s i o 0=some []){ax:Option (Nat×Nat)}{m:Nat}{cx:Option Nat}{add:List AV}(hsrc:B0 Tryz.prog s 203 1 (.slice ax m cx)=some (m,add))(ha:add.length=m)(hc:Aq add=true)(hm:0<m)(hml:m≤100000000000):
  A7 Tryz.prog s [59,59] [.slice (some (i,o)) 0 (some 0),.slice ax m cx]=some (.slice (some (s.next,0)) m none,newObj s (R 203 1 true add)):=by
 rw[DE Tryz.underlying59 Bj NZ (by omega) Su hsrc hc (by omega) (by omega)]
 simp only[appTo,Fa,gA,MB hm,cond_false,Nat.zero_mul,hz,Option.bind_some,B7,AH,NJ,cond_true,List.nil_append]
 rfl
section
variable{E:Cg}{s:AE}
theorem Jm(hE:An E){v:AV}{l:List Nat}(hv:CW s v l)(hl:l.length≤100000000000){K:AV→AE→Prop}(hK:∀s' v',A8 s.next s s'→NR s.next s' v' l→K v' s'):WF E 242 [v] K s:=by
  obtain⟨a,cap,rfl,hcap,hc⟩:=hv
  refine hE.go SD (by decide) rfl ?_
  by_cases hnil:a=none
  · subst hnil
    have hl0:l=[]:=by
      cases l with
      | nil=>rfl
      | cons x l=>obtain⟨_,_,e,_⟩:=hc 0 _ rfl;cases e
    subst hl0
    have e1:AN Tryz.prog .eql 59 (.slice none 0 cap) (.slice none 0 (some 0))=some (.bool true):=by kernel_rfl
    simp only[Ze,MP,MQ,PX,List.length_nil,e1,Qa,Qb,Qc,Qd,Qe,Qf,Qg,Qh,Qi,Qj,Qk,Ql,Qm,Qn,true_and,and_true,Qo,Qp,Qq,Qr,Qs,Qt,Qu,Qv,Qw,Qx,Qy,Qz,Ra,Rb,Rc,Rd,Re,Rf,Rg,Rh,Ri,Rj,Rk,Rm,Rn,Ro,Rp,Rq,Rs,Ya,Yb,Yc,Rt,Ru,Za,Yd,Ye,Rx,Ry,Rz,Wa,Wb,Wc,Wd]
    exact hK s _ (A8.refl _ _) (NR.nil _ _)
  · obtain⟨⟨i,o⟩,rfl⟩:∃io,a=some io:=by cases a with | none=>exact absurd rfl hnil | some io=>exact⟨io,rfl⟩
    have e1:∀n,AN Tryz.prog .eql 59 (.slice (some (i,o)) n cap) (.slice none 0 (some 0))=some (.bool false):=fun n=>by kernel_rfl
    have ho:=A8.new s (R 203 1 false [])
    have hd:CT 203 (newObj s (R 203 1 false [])) (.slice (some (s.next,0)) 0 (some 0)) 0 1 [] []:=.inl ⟨some (s.next,0),rfl,rfl,rfl,fun e=>(by cases e),fun i o e=>by
      injection e with e
      injection e with e1 e2
      subst e1;subst e2
      exact⟨gY _,by rw[Mm,AO,if_pos rfl];rfl⟩⟩
    have hc2:Ai (newObj s (R 203 1 false [])).next (newObj s (R 203 1 false [])) (some (i,o)) (us l):=(hc.old ho (fu _)).mono ho.1
    obtain⟨v',s',O',happ,hd',hn1,hn2,hf,hO,hsl⟩:=hd.append (xt:=59) Tryz.underlying59 Bj NZ (by omega) Su NJ (Y1 (cap:=cap) hc2) (by rw[CM];omega) (ZF l) (by omega) (by omega)
    simp only[Ze,MP,MQ,Vw,e1,bN,Xd,happ,Qa,Qb,Qc,Qd,Qe,Qf,Qg,Qh,Qi,Qj,Qk,Ql,Qm,Qn,true_and,and_true,Qo,Qp,Qq,Qr,Qs,Qt,Qu,Qv,Qw,Qx,Qy,Qz,Ra,Rb,Rc,Rd,Re,Rf,Rg,Rh,Ri,Rj,Rk,Rm,Rn,Ro,Rp,Rq,Rs,Ya,Yb,Yc,Rt,Ru,Za,Yd,Ye,Rx,Ry,Rz,Wa,Wb,Wc,Wd]
    have hsn:(newObj s (R 203 1 false [])).next=s.next+1:=rfl
    refine hK s' v' ⟨by omega,fun j hj=>by rw[hf j (by omega) (by simp),AO,if_neg (by omega)]⟩ ⟨O',by simpa using hd',fun j hj=>?_,fun j hj=>?_,fun hne=>?_⟩
    · rcases hO j hj with h | h
      · cases h
      · omega
    · rcases hsl j hj with h | h
      · injection h with h;omega
      · omega
    · have hlp : 0 < l.length := List.length_pos_iff.2 hne
      have h2:=NQ (i:=s.next) (o:=0) (s:=newObj s (R 203 1 false [])) (by rw[Mm,AO,if_pos rfl];rfl) (Y1 (cap:=cap) hc2) (CM l) (ZF l) hlp (by omega)
      rw[h2]at happ
      injection happ with happ
      injection happ with e5 e6
      rw[← e5,← e6]
      exact⟨_,rfl,gY _,B3.of_R (by rw[AO,if_pos rfl])⟩
theorem Ko(l:List Nat)(x:Nat):C9 (l++[x])=if x=0 then C9 l else l++[x]:=by
 induction l with
 | nil=>by_cases h:x=0<;>simp[C9,h]
 | cons y l ih =>
  show(if y=0∧C9 (l++[x])=[]then []else y::C9 (l++[x]))=_
  rw[ih]
  by_cases h:x=0
  ·simp only[h,if_true];rfl
  ·simp[h]
theorem Ln{a:Option (Nat×Nat)}{cap:Option Nat}{l:List Nat}(hc:Ai s.next s a (us l))(hl:l.length≤100000000000){Q:Au→Prop}(x1:AV)
  (hq:∀ (k:Nat) (y3:AV),k≤l.length→C9 l=l.take k→Q ⟨.exit 0,[.slice a l.length cap,x1,iv (k:Int),y3],[],s⟩):
  ∀ (k:Nat) (x3:AV),k≤l.length→C9 l=C9 (l.take k)→WC E none (.loop Hv) Q [.slice a l.length cap,x1,iv (k:Int),x3] [] s:=by
 intro k
 induction k with
 | zero =>
  intro x3 hk ht
  have d0:decide ((0:Int)<((0:Nat):Int))=false:=rfl
  refine WC.loop' ?_
  simp only[Hv,MI,Ry,d0,Qa,Qb,Qc,Qd,Qe,Qf,Qg,Qh,Qi,Qj,Qk,Ql,Qm,Qn,true_and,and_true,Qo,Qp,Qq,Qr,Qs,Qt,Qu,Qv,Qw,Qx,Qy,Qz,Ra,Rb,Rc,Rd,Re,Rf,Rg,Rh,Ri,Rj,Rk,Rm,Rn,Ro,Rp,Rq,Rs,Ya,Yb,Yc,Rt,Ru,Za,Yd,Ye,Rx,Ry,Rz,Wa,Wb,Wc,Wd]
  exact hq 0 _ hk (by rw[ht];rfl)
 | succ k ih =>
  intro x3 hk ht
  have hx:l[k]? = some l[k]:=f9 (by omega)
  generalize l[k]=x at hx
  obtain⟨i,o,rfl,_,hload⟩:=CW.at hc hx
  have htk:l.take (k+1)=l.take k++[x]:=by rw[List.take_add_one,hx];rfl
  have d0:decide ((0:Int)<((k+1:Nat):Int))=true:=decide_eq_true (by omega)
  have e1:=Br Tryz.prog 3 ((k+1:Nat):Int) 1 ⟨by omega,by omega⟩
  have e2:((k+1:Nat):Int) - 1=(k:Int):=by omega
  have e3:=Aw (cap:=cap) (i:=i) (o:=o) Tryz.underlying59 Bj (show k<l.length by omega)
  have e4:AF Tryz.prog s 203 (.ptr (some (i,o+k * 1)))=some (BO x):=B9 EO (by rw[gB];exact hload)
  have e5:AN Tryz.prog .eql 203 (BO x) (.int .u32 0)=some (.bool (decide (x=0))):=cM Tryz.prog 203 (b:=0) .u32
  refine WC.loop' ?_
  generalize hW:WC E none (Ab.loop Hv) Q=WW
  by_cases h0:x=0
  ·have d1:decide (x=0)=true:=decide_eq_true h0
   simp only[Hv,MI,Up,Ry,d0,e1,e2,e3,e4,e5,d1,Qa,Qb,Qc,Qd,Qe,Qf,Qg,Qh,Qi,Qj,Qk,Ql,Qm,Qn,true_and,and_true,Qo,Qp,Qq,Qr,Qs,Qt,Qu,Qv,Qw,Qx,Qy,Qz,Ra,Rb,Rc,Rd,Re,Rf,Rg,Rh,Ri,Rj,Rk,Rm,Rn,Ro,Rp,Rq,Rs,Ya,Yb,Yc,Rt,Ru,Za,Yd,Ye,Rx,Ry,Rz,Wa,Wb,Wc,Wd]
   rw[← hW]
   exact ih _ (by omega) (by rw[ht,htk,Ko,if_pos h0])
  ·have d1:decide (x=0)=false:=decide_eq_false h0
   simp only[Hv,MI,Ry,d0,e1,e2,e3,e4,e5,d1,Qa,Qb,Qc,Qd,Qe,Qf,Qg,Qh,Qi,Qj,Qk,Ql,Qm,Qn,true_and,and_true,Qo,Qp,Qq,Qr,Qs,Qt,Qu,Qv,Qw,Qx,Qy,Qz,Ra,Rb,Rc,Rd,Re,Rf,Rg,Rh,Ri,Rj,Rk,Rm,Rn,Ro,Rp,Rq,Rs,Ya,Yb,Yc,Rt,Ru,Za,Yd,Ye,Rx,Ry,Rz,Wa,Wb,Wc,Wd]
   exact hq (k+1) _ hk (by rw[ht,htk,Ko,if_neg h0])
theorem DM(l:List Nat):(C9 l).length≤l.length:=by
 induction l with
 | nil=>exact fu _
 | cons x l ih=>unfold C9;split<;>simp<;>omega
theorem Bz(hE:An E){v:AV}{l:List Nat}(hv:CW s v l)(hl:l.length≤100000000000){K:AV→AE→Prop}(hK:∀s' v',A8 s.next s s'→NR s.next s' v' (C9 l)→K v' s'):WF E 208 [v] K s:=by
 obtain⟨a,cap,rfl,hcap,hc⟩:=hv
 refine hE.go SC (by decide) rfl ?_
 simp only[cW,PG,PH,AW Tryz.underlying59,Qa,Qb,Qc,Qd,Qe,Qf,Qg,Qh,Qi,Qj,Qk,Ql,Qm,Qn,true_and,and_true,Qo,Qp,Qq,Qr,Qs,Qt,Qu,Qv,Qw,Qx,Qy,Qz,Ra,Rb,Rc,Rd,Re,Rf,Rg,Rh,Ri,Rj,Rk,Rm,Rn,Ro,Rp,Rq,Rs,Ya,Yb,Yc,Rt,Ru,Za,Yd,Ye,Rx,Ry,Rz,Wa,Wb,Wc,Wd]
 refine Ln hc hl _ (fun k y3 hk ht=>?_) l.length _ (fu _) (by rw[List.take_length])
 have e1:=XS Tryz.underlying59 Bj hcap hk
 simp only[PI,e1,if_true,Qa,Qb,Qc,Qd,Qe,Qf,Qg,Qh,Qi,Qj,Qk,Ql,Qm,Qn,true_and,and_true,Qo,Qp,Qq,Qr,Qs,Qt,Qu,Qv,Qw,Qx,Qy,Qz,Ra,Rb,Rc,Rd,Re,Rf,Rg,Rh,Ri,Rj,Rk,Rm,Rn,Ro,Rp,Rq,Rs,Ya,Yb,Yc,Rt,Ru,Za,Yd,Ye,Rx,Ry,Rz,Wa,Wb,Wc,Wd]
 refine Jm hE (CW.take hcap hc hk) (by rw[gS];omega) fun s' v' h1 h2=>?_
 simp only[Qa,Qb,Qc,Qd,Qe,Qf,Qg,Qh,Qi,Qj,Qk,Ql,Qm,Qn,true_and,and_true,Qo,Qp,Qq,Qr,Qs,Qt,Qu,Qv,Qw,Qx,Qy,Qz,Ra,Rb,Rc,Rd,Re,Rf,Rg,Rh,Ri,Rj,Rk,Rm,Rn,Ro,Rp,Rq,Rs,Ya,Yb,Yc,Rt,Ru,Za,Yd,Ye,Rx,Ry,Rz,Wa,Wb,Wc,Wd]
 rw[← ht]at h2
 exact hK s' v' h1 h2
theorem S9(hE:An E){K:AV→AE→Prop}(hK:K (.slice none 0 (some 0)) s):WF E 242 [.slice none 0 (some 0)] K s:=by
 refine hE.go SD (by decide) rfl ?_
 have e1:AN Tryz.prog .eql 59 (.slice none 0 (some 0)) (.slice none 0 (some 0))=some (.bool true):=by kernel_rfl
 simp only[Ze,MP,MQ,PX,e1,Qa,Qb,Qc,Qd,Qe,Qf,Qg,Qh,Qi,Qj,Qk,Ql,Qm,Qn,true_and,and_true,Qo,Qp,Qq,Qr,Qs,Qt,Qu,Qv,Qw,Qx,Qy,Qz,Ra,Rb,Rc,Rd,Re,Rf,Rg,Rh,Ri,Rj,Rk,Rm,Rn,Ro,Rp,Rq,Rs,Ya,Yb,Yc,Rt,Ru,Za,Yd,Ye,Rx,Ry,Rz,Wa,Wb,Wc,Wd]
 exact hK
theorem Y9(hE:An E){K:AV→AE→Prop}(hK:K (.slice none 0 (some 0)) s):WF E 208 [.slice none 0 (some 0)] K s:=by
 refine hE.go SC (by decide) rfl ?_
 have hn:=(NR.nil 0 s).n32
 obtain⟨a,cap,e,hcap,hc⟩:=hn
 injection e with e1 e2 e3
 subst e1;subst e3
 simp only[cW,PG,PH,AW Tryz.underlying59,Qa,Qb,Qc,Qd,Qe,Qf,Qg,Qh,Qi,Qj,Qk,Ql,Qm,Qn,true_and,and_true,Qo,Qp,Qq,Qr,Qs,Qt,Qu,Qv,Qw,Qx,Qy,Qz,Ra,Rb,Rc,Rd,Re,Rf,Rg,Rh,Ri,Rj,Rk,Rm,Rn,Ro,Rp,Rq,Rs,Ya,Yb,Yc,Rt,Ru,Za,Yd,Ye,Rx,Ry,Rz,Wa,Wb,Wc,Wd]
 refine Ln (l:=[]) hc (by simp) _ (fun k y3 hk ht=>?_) 0 _ (fu _) rfl
 have hk0:k=0:=by simpa using hk
 subst hk0
 have e1:=XS Tryz.underlying59 Bj hcap (fu 0)
 simp only[List.length_nil]at e1
 simp only[PI,List.length_nil,e1,if_true,Qa,Qb,Qc,Qd,Qe,Qf,Qg,Qh,Qi,Qj,Qk,Ql,Qm,Qn,true_and,and_true,Qo,Qp,Qq,Qr,Qs,Qt,Qu,Qv,Qw,Qx,Qy,Qz,Ra,Rb,Rc,Rd,Re,Rf,Rg,Rh,Ri,Rj,Rk,Rm,Rn,Ro,Rp,Rq,Rs,Ya,Yb,Yc,Rt,Ru,Za,Yd,Ye,Rx,Ry,Rz,Wa,Wb,Wc,Wd]
 refine S9 hE ?_
 simp only[Qa,Qb,Qc,Qd,Qe,Qf,Qg,Qh,Qi,Qj,Qk,Ql,Qm,Qn,true_and,and_true,Qo,Qp,Qq,Qr,Qs,Qt,Qu,Qv,Qw,Qx,Qy,Qz,Ra,Rb,Rc,Rd,Re,Rf,Rg,Rh,Ri,Rj,Rk,Rm,Rn,Ro,Rp,Rq,Rs,Ya,Yb,Yc,Rt,Ru,Za,Yd,Ye,Rx,Ry,Rz,Wa,Wb,Wc,Wd]
 exact hK
end
theorem Bd{s:AE}{n:Nat}:Af Tryz.prog s 205 203 (AT n)=some (BO (n % 4294967296)):=by
 have:Af Tryz.prog s 205 203 (AT n)=some (.int .u32 (CN .u32 (n:Int))):=by
  simp[Af,Tryz.underlying205,Tryz.underlying203]
 rw[this,Tq]
 rfl
theorem BP{s:AE}{n:Nat}(h:n<4294967296):Af Tryz.prog s 203 205 (BO n)=some (AT n):=by
 have:Af Tryz.prog s 203 205 (BO n)=some (.int .u64 (CN .u64 (n:Int))):=by
  simp[Af,Tryz.underlying205,Tryz.underlying203]
 rw[this,Kr (by omega)]
theorem Hb      {s : AE}  {v : AV} {l : List Nat} {O : List Nat} (hd : CT   203 s v l.length 1 (us l) O) (x : Nat) (hl : l.length ≤ 100000000000) :
    ∃v' s' O',A7 Tryz.prog (newObj s (R 203 1 false [BO x])) [59,59] [v,.slice (some (s.next,0)) 1 (some 1)]=some (v',s')∧CT 203 s' v' (l++[x]).length 1 (us (l++[x])) O'∧s.next≤s'.next ∧
      (∀j,j<s.next→j ∉ O→s'.heap.get j=s.heap.get j)∧(∀j∈O',j∈O∨s.next≤j)∧(∀j,C8 v'=some j→C8 v=some j∨s.next≤j):=by
  have hsn:(newObj s (R 203 1 false [BO x])).next=s.next+1:=rfl
  have Pw:CT 203 (newObj s (R 203 1 false [BO x])) v l.length 1 (us l) O:=hd.frame (by omega) (fun j hj=>by
    rw[AO,if_neg]
    intro e
    subst e
    rcases hd with⟨a,rfl,_,_,_,h5⟩ | ⟨i,p,rfl,h6,_⟩
    · cases a with
      | none=>cases hj
      | some io =>
        obtain⟨i,o⟩:=io
        injection hj with hj
        have:=(h5 i o rfl).1
        omega
    · injection hj with hj
      rcases h6.ex with⟨e',_⟩ | ⟨_,_,k2,_⟩
      · cases e'
      · omega)
  have hsrc:B0 Tryz.prog (newObj s (R 203 1 false [BO x])) 203 1 (.slice (some (s.next,0)) 1 (some 1))=some (1,[BO x]):=NB 203 1 (by rw[AO,if_pos rfl];rfl) rfl
  obtain⟨v',s',O',happ,hd',hn1,hn2,hf,hO,hsl⟩:=Pw.append (xt:=59) Tryz.underlying59 Bj NZ (by omega) Su NJ hsrc rfl rfl (by omega) (by omega)
  refine⟨v',s',O',happ,?_,by omega,fun j hj hjO=>by rw[hf j (by omega) hjO,AO,if_neg (by omega)],fun j hj=>(hO j hj).imp id (fun h=>by omega),fun j hj=>(hsl j hj).imp id (fun h=>by omega)⟩
  rw[Lr,gI]
  exact hd'
theorem Hr.dest{s:AE}{v:AV}{n:Nat}{cs:List AV}{O:List Nat}(h:Hr 203 1 s v n cs O):CT 203 s v n 1 cs O:=by
 rcases h with⟨rfl,rfl,rfl,rfl⟩ | ⟨i,p,h1,h2,h3⟩
 ·exact CT.nil s 1
 ·exact .inr ⟨i,p,h1,h2,h3⟩
def NW(b:Nat)(s:AE)(v:AV)(l:List Nat):Prop:=∃O,Hr 203 1 s v l.length (us l) O∧∀j∈O,b≤j
theorem NW.n32'{b:Nat}{s:AE}{v:AV}{l:List Nat}(h:NW b s v l):CW s v l:=by
 obtain⟨O,h1,h2⟩:=h
 exact h1.dest.n32
theorem NW.own{b:Nat}{s:AE}{v:AV}{l:List Nat}(h:NW b s v l)(h0:l≠[]):∃i p,v=.slice (some (i,0)) l.length none∧b≤i∧i<s.next∧B3 s i (us l) p∧∀q,p=some q→b≤q∧q<s.next∧q≠i:=by
  obtain⟨O,h1,h2⟩:=h
  rcases h1 with⟨_,h3,_⟩ | ⟨i,p,rfl,h3,rfl⟩
  · exact absurd (hY h3) h0
  · rcases h3.ex with ⟨e, _⟩ | ⟨_, _, k2, k3, r, k4, k5, _, k7, k8, k9, _⟩
    · cases e
    · refine⟨i,p,rfl,h2 i (by simp),k2,⟨r,k4,k5,by rw[k7];rfl,k8,.inr k9⟩,fun q hq=>?_⟩
      obtain⟨_,q2,q3⟩:=k3 q hq
      exact⟨h2 q (by simp[hq]),q2,q3⟩
theorem OK{s:AE}{v:AV}{l:List Nat}{O:List Nat}(hd:Hr 203 1 s v l.length (us l) O)(x:Nat)(hl:l.length≤100000000000):
  ∃v' s' O',A7 Tryz.prog (newObj s (R 203 1 false [BO x])) [59,59] [v,.slice (some (s.next,0)) 1 (some 1)]=some (v',s')∧Hr 203 1 s' v' (l++[x]).length (us (l++[x])) O'∧s.next≤s'.next ∧
   (∀j,j<s.next→j ∉ O→s'.heap.get j=s.heap.get j)∧(∀j∈O',j∈O∨s.next≤j)∧(∀j,C8 v'=some j→C8 v=some j∨s.next≤j):=by
 have hsn:(newObj s (R 203 1 false [BO x])).next=s.next+1:=rfl
 have Pw:=hd.frame (s':=newObj s (R 203 1 false [BO x])) (by omega) (fun j hj=>by rw[AO,if_neg (by have:=hd.lt j hj;omega)])
 have hsrc:B0 Tryz.prog (newObj s (R 203 1 false [BO x])) 203 1 (.slice (some (s.next,0)) 1 (some 1))=some (1,[BO x]):=NB 203 1 (by rw[AO,if_pos rfl];rfl) rfl
 obtain⟨v',s',O',happ,hb',hn',hf,hO,hsl⟩:=Pw.append (xt:=59) (m:=1) Tryz.underlying59 Bj NZ (by omega) Su NJ (by omega) hsrc rfl rfl (by omega) (by omega)
 refine⟨v',s',O',happ,?_,by omega,fun j hj hjO=>by rw[hf j (by omega) hjO,AO,if_neg (by omega)],fun j hj=>(hO j hj).imp id (fun h=>by omega),fun j hj=>?_⟩
 ·rw[Lr,gI]
  exact hb'
 ·rw[hsl]at hj
  injection hj with hj
  exact .inr (by omega)
section
variable{E:Cg}{s:AE}
theorem TP(n:Nat):AD [n % 4294967296,n / 4294967296]=n:=by
 show n % 4294967296+LB * (n / 4294967296+LB * 0)=n
 rw[show LB=4294967296 from rfl]
 omega
theorem SR(hE:An E){n:Nat}(hn:n<18446744073709551616){K:AV→AE→Prop}(hK:∀s' v',A8 s.next s s'→NR s.next s' v' (AI n)→K v' s'):WF E 167 [AT n] K s:=by
 refine hE.go Zo (by decide) rfl ?_
 have e1:=It Tryz.prog 205 hn
 have e2:=Ho Tryz.prog 205 (a:=n) (k:=.u64) (n:=32) (by decide)
 have e2:AN Tryz.prog .shr 205 (AT n) (.int .u64 32)=some (AT (n / 4294967296)):=e2
 have e3:n % 4294967296 % 4294967296=n % 4294967296:=iH _ _
 have e4:n / 4294967296 % 4294967296=n / 4294967296:=gT (by omega)
 have hrow:CW (newObj s (R 203 1 false [BO (n % 4294967296),BO (n / 4294967296)])) (.slice (some (s.next,0)) 2 (some 2)) [n % 4294967296,n / 4294967296]:=by
  refine⟨some (s.next,0),some 2,rfl,.inl ⟨2,rfl,fu _,fun e=>by cases e⟩,?_⟩
  exact MW (e:=203) (sz:=1) (sp:=false) (by rw[AO,if_pos rfl];rfl) (gY _)
 simp only[eE,UV,UW,e1,e2,Bd,e3,e4,M7,Xd,Qa,Qb,Qc,Qd,Qe,Qf,Qg,Qh,Qi,Qj,Qk,Ql,Qm,Qn,true_and,and_true,Qo,Qp,Qq,Qr,Qs,Qt,Qu,Qv,Qw,Qx,Qy,Qz,Ra,Rb,Rc,Rd,Re,Rf,Rg,Rh,Ri,Rj,Rk,Rm,Rn,Ro,Rp,Rq,Rs,Ya,Yb,Yc,Rt,Ru,Za,Yd,Ye,Rx,Ry,Rz,Wa,Wb,Wc,Wd]
 refine Bz hE hrow (by simp) fun s' v' h1 h2=>?_
 have hs:BV [n % 4294967296,n / 4294967296]:=fun x hx=>by
  have hB:LB=4294967296:=rfl
  simp only[hZ,List.not_mem_nil,or_false]at hx
  rcases hx with rfl | rfl
  ·exact gO _ (by decide)
  ·omega
 rw[BJ hs,TP]at h2
 simp only[Qa,Qb,Qc,Qd,Qe,Qf,Qg,Qh,Qi,Qj,Qk,Ql,Qm,Qn,true_and,and_true,Qo,Qp,Qq,Qr,Qs,Qt,Qu,Qv,Qw,Qx,Qy,Qz,Ra,Rb,Rc,Rd,Re,Rf,Rg,Rh,Ri,Rj,Rk,Rm,Rn,Ro,Rp,Rq,Rs,Ya,Yb,Yc,Rt,Ru,Za,Yd,Ye,Rx,Ry,Rz,Wa,Wb,Wc,Wd]
 exact hK s' v' ((A8.new s _).trans (h1.mono (gZ _))) (h2.mono (gZ _))
theorem Zd{x:Nat}(hx:x<4294967296){a:Option (Nat×Nat)}{cap:Option Nat}{l:List Nat}{b:Nat}(hc:Ai b s a (us l))(hb:b≤s.next)(hl:l.length≤10000000000)(hs:BV l){T:List Nat}{Q:Au→Prop}(x0 x3:AV)
  (hq:∀ (s':AE) (c:Nat) (v4:AV) (d O:List Nat) (y5 y8 y9:AV),A8 s.next s s'→c<4294967296→d++[c]=T→Hr 203 1 s' v4 d.length (us d) O→(∀j∈O,s.next≤j)→(∀j,C8 v4=some j→s.next≤j) →
   Q ⟨.exit 0,[x0,AT x,AT c,x3,v4,y5,.slice a l.length cap,iv (l.length:Int),y8,y9],[],s'⟩):
  ∀ (r:List Nat) (k:Nat) (s':AE) (c:Nat) (v4:AV) (d O:List Nat) (x5 x9:AV),l.drop k=r→k≤l.length→d.length=k→A8 s.next s s'→c<4294967296→d++Iy r x c=T→Hr 203 1 s' v4 d.length (us d) O→(∀j∈O,s.next≤j)→(∀j,C8 v4=some j→s.next≤j) →
   WC E none (.loop Jg) Q [x0,AT x,AT c,x3,v4,x5,.slice a l.length cap,iv (l.length:Int),iv (k:Int),x9] [] s':=by
 intro r
 induction r with
 | nil =>
  intro k s' c v4 d O x5 x9 hd hk hdl ho hc' hT hD hO hsl
  have hkl:k=l.length:=by
   have:=congrArg List.length hd
   simp at this
   omega
  subst hkl
  refine WC.loop' ?_
  simp only[Jg,PO,Rx,Int.lt_irrefl,decide_false,Qa,Qb,Qc,Qd,Qe,Qf,Qg,Qh,Qi,Qj,Qk,Ql,Qm,Qn,true_and,and_true,Qo,Qp,Qq,Qr,Qs,Qt,Qu,Qv,Qw,Qx,Qy,Qz,Ra,Rb,Rc,Rd,Re,Rf,Rg,Rh,Ri,Rj,Rk,Rm,Rn,Ro,Rp,Rq,Rs,Ya,Yb,Yc,Rt,Ru,Za,Yd,Ye,Rx,Ry,Rz,Wa,Wb,Wc,Wd]
  exact hq s' c v4 d O _ _ _ ho hc' hT hD hO hsl
 | cons y r ih =>
  intro k s' c v4 d O x5 x9 hd hk hdl ho hc' hT hD hO hsl
  have hlt:k<l.length:=by
   rcases fv k l.length with h' | h'
   ·exact h'
   ·rw[gt h']at hd;cases hd
  have hy:l[k]? = some y:=by
   have:=congrArg (fun l=>l[0]?) hd
   simpa using this
  have hd':l.drop (k+1)=r:=by
   have:=congrArg (List.drop 1) hd
   simpa[g8]using this
  have hys:y<4294967296:=hs y (gR hy)
  obtain⟨i,o,rfl,hi,hload⟩:=hc k _ (DB hy)
  have hkk:decide ((k:Int)<(l.length:Int))=true:=decide_eq_true (by omega)
  have e1:=Aw (cap:=cap) (i:=i) (o:=o) Tryz.underlying59 Bj hlt
  have e2:AF Tryz.prog s' 203 (.ptr (some (i,o+k * 1)))=some (BO y):=B9 EO (by rw[gB,DV (ho.2 i (by omega))];exact hload)
  have hxy:x * y≤4294967295 * 4294967295:=gz (by omega) (by omega)
  have e3:=Om Tryz.prog 205 (a:=x) (b:=y) (by omega)
  have e4:=F4 Tryz.prog 205 (a:=c) (b:=x * y) (by omega)
  have e5:=It Tryz.prog 205 (a:=c+x * y) (by omega)
  have e6:(c+x * y) % 4294967296 % 4294967296=(c+x * y) % 4294967296:=iH _ _
  have e7:AN Tryz.prog .shr 205 (AT (c+x * y)) (.int .u64 32)=some (AT ((c+x * y) / 4294967296)):=Ho Tryz.prog 205 (k:=.u64) (n:=32) (by decide)
  have e8:=By Tryz.prog 3 (k:Int) 1 ⟨by omega,by omega⟩
  have e8':((k:Int)+1)=((k+1:Nat):Int):=by omega
  obtain⟨v',s2,O',happ,hD',hn',hf',hO',hsl'⟩:=OK hD ((c+x * y) % 4294967296) (by omega)
  refine WC.loop' ?_
  generalize hW:WC E none (Ab.loop Jg) Q=WW
  simp only[Jg,PO,VV,VW,VX,VY,VZ,Rx,hkk,e1,e2,BP hys,e3,e4,e5,Bd,e6,FQ,Xd,happ,e7,e8,e8',Qa,Qb,Qc,Qd,Qe,Qf,Qg,Qh,Qi,Qj,Qk,Ql,Qm,Qn,true_and,and_true,Qo,Qp,Qq,Qr,Qs,Qt,Qu,Qv,Qw,Qx,Qy,Qz,Ra,Rb,Rc,Rd,Re,Rf,Rg,Rh,Ri,Rj,Rk,Rm,Rn,Ro,Rp,Rq,Rs,Ya,Yb,Yc,Rt,Ru,Za,Yd,Ye,Rx,Ry,Rz,Wa,Wb,Wc,Wd]
  rw[← hW]
  refine ih (k+1) s2 ((c+x * y) / 4294967296) v' (d++[(c+x * y) % 4294967296]) O' _ _ hd' hlt (by rw[gI,hdl];rfl) ⟨by have:=ho.1;omega,fun j hj=>by rw[hf' j (by have:=ho.1;omega) (fun hjO=>by have:=hO j hjO;omega)];exact ho.2 j hj⟩ (by omega) ?_ hD' (fun j hj=>(hO' j hj).elim (hO j) (fun h=>by have:=ho.1;omega)) (fun j hj=>(hsl' j hj).elim (hsl j) (fun h=>by have:=ho.1;omega))
  rw[← hT,gP]
  rfl
theorem dw(hE:An E){v:AV}{l:List Nat}(hv:CW s v l)(hl:l.length≤10000000000)(hs:BV l){x c:Nat}(hx:x<4294967296)(hc:c<4294967296){K:AV→AE→Prop}(hK:∀s' v',A8 s.next s s'→NW s.next s' v' (Iy l x c)→K v' s'):
  WF E 217 [v,AT x,AT c] K s:=by
 obtain⟨a,cap,rfl,hcap,hcc⟩:=hv
 refine hE.go Zz (by decide) rfl ?_
 simp only[eP,VS,VT,VU,AW Tryz.underlying59,Qa,Qb,Qc,Qd,Qe,Qf,Qg,Qh,Qi,Qj,Qk,Ql,Qm,Qn,true_and,and_true,Qo,Qp,Qq,Qr,Qs,Qt,Qu,Qv,Qw,Qx,Qy,Qz,Ra,Rb,Rc,Rd,Re,Rf,Rg,Rh,Ri,Rj,Rk,Rm,Rn,Ro,Rp,Rq,Rs,Ya,Yb,Yc,Rt,Ru,Za,Yd,Ye,Rx,Ry,Rz,Wa,Wb,Wc,Wd]
 refine Zd hx hcc (fu _) hl hs (T:=Iy l x c) _ _ (fun s' c' v4 d O y5 y8 y9 ho hc' hT hD hO hsl=>?_) l 0 s c _ [] [] _ _ rfl (gF _) rfl (A8.refl _ _) hc rfl (Hr.nil _ _ s) (fun j hj=>(by cases hj)) (fun j hj=>(by cases hj))
 have hdl:d.length=l.length:=by
  have:=congrArg List.length hT
  have h2:∀ (l:List Nat) (c:Nat),(Iy l x c).length=l.length+1:=by
   intro l
   induction l with
   | nil=>intro c;rfl
   | cons y l ih=>intro c;show(Iy l x _).length+1=_;rw[ih];rfl
  rw[gI,h2]at this
  simpa using this
 obtain⟨v',s2,O',happ,hD',hn',hf',hO',hsl'⟩:=OK hD c' (by omega)
 have e6:c' % 4294967296=c':=gT hc'
 simp only[RZ,Bd,e6,FQ,Xd,happ,if_true,Qa,Qb,Qc,Qd,Qe,Qf,Qg,Qh,Qi,Qj,Qk,Ql,Qm,Qn,true_and,and_true,Qo,Qp,Qq,Qr,Qs,Qt,Qu,Qv,Qw,Qx,Qy,Qz,Ra,Rb,Rc,Rd,Re,Rf,Rg,Rh,Ri,Rj,Rk,Rm,Rn,Ro,Rp,Rq,Rs,Ya,Yb,Yc,Rt,Ru,Za,Yd,Ye,Rx,Ry,Rz,Wa,Wb,Wc,Wd]
 rw[hT]at hD'
 refine hK s2 v' ⟨by have:=ho.1;omega,fun j hj=>by rw[hf' j (by have:=ho.1;omega) (fun hjO=>by have:=hO j hjO;omega)];exact ho.2 j hj⟩ ⟨O',hD',fun j hj=>(hO' j hj).elim (hO j) (fun h=>by have:=ho.1;omega)⟩
theorem cN(hE:An E){v:AV}{l:List Nat}(hv:CW s v l)(hl:l.length≤10000000000)(hs:BV l){n:Nat}(hn:n<32){K:AV→AE→Prop}(hK:∀s' v',A8 s.next s s'→NW s.next s' v' (Iy l (2 ^ n) 0)→K v' s'):WF E 211 [v,AT n] K s:=by
 have h2:2 ^ n≤2 ^ 31:=g0 (by decide) (by omega)
 have e31:(2:Nat) ^ 31=2147483648:=by decide
 rw[e31]at h2
 have e1:AN Tryz.prog .shl 205 (.int .u64 1) (AT n)=some (AT (2 ^ n)):=by
  have:=Lp Tryz.prog 205 (a:=1) (k:=.u64) (n:=n) (by omega) (by rw[Nat.one_mul];omega)
  rw[Nat.one_mul]at this
  exact this
 refine hE.go Zv (by decide) rfl ?_
 simp only[eL,U5,U6,e1,Qa,Qb,Qc,Qd,Qe,Qf,Qg,Qh,Qi,Qj,Qk,Ql,Qm,Qn,true_and,and_true,Qo,Qp,Qq,Qr,Qs,Qt,Qu,Qv,Qw,Qx,Qy,Qz,Ra,Rb,Rc,Rd,Re,Rf,Rg,Rh,Ri,Rj,Rk,Rm,Rn,Ro,Rp,Rq,Rs,Ya,Yb,Yc,Rt,Ru,Za,Yd,Ye,Rx,Ry,Rz,Wa,Wb,Wc,Wd]
 refine dw hE hv hl hs (show 2 ^ n<4294967296 by omega) (show 0<4294967296 by decide) fun s' v' h1 h2=>?_
 simp only[Qa,Qb,Qc,Qd,Qe,Qf,Qg,Qh,Qi,Qj,Qk,Ql,Qm,Qn,true_and,and_true,Qo,Qp,Qq,Qr,Qs,Qt,Qu,Qv,Qw,Qx,Qy,Qz,Ra,Rb,Rc,Rd,Re,Rf,Rg,Rh,Ri,Rj,Rk,Rm,Rn,Ro,Rp,Rq,Rs,Ya,Yb,Yc,Rt,Ru,Za,Yd,Ye,Rx,Ry,Rz,Wa,Wb,Wc,Wd]
 exact hK s' v' h1 h2
end
def GR(a b:Nat):Int:=if a<b then -1 else if b<a then 1 else 0
theorem J3:∀ (n:Nat),n≠0→LB ^ ((AI n).length - 1)≤n:=by
  intro n
  induction n using Nat.strongRecOn with
  | _ n ih =>
    intro h
    rw[D1 h,gh,iN]
    by_cases h2:n / LB=0
    · rw[h2,A6]
      show LB ^ 0≤n
      rw[Nat.pow_zero];omega
    · have := ih (n / LB) (Nat.div_lt_self (by omega) (by decide)) h2
      have hne:(AI (n / LB)).length≠0:=fun e=>Cb h2 (hY e)
      obtain⟨m,hm⟩:∃m,(AI (n / LB)).length=m+1:=⟨(AI (n / LB)).length - 1,by omega⟩
      rw[hm,iN]at this
      rw[hm,gg]
      exact fx (gL LB this) (Nat.div_mul_le_self n LB)
theorem X5(n:Nat):n<LB ^ (AI n).length:=by
 have:=CF (AR n)
 rw[AY]at this
 exact this
theorem C1{a b:Nat}(h:(AI a).length<(AI b).length):a<b:=by
 have hb:b≠0:=fun e=>by subst e;rw[A6]at h;simp at h
 have h1:=X5 a
 have h2:=J3 b hb
 have:LB ^ (AI a).length≤LB ^ ((AI b).length - 1):=g0 A3 (by omega)
 omega
theorem N0{la lb:List Nat}{k x y:Nat}(hl:la.length=lb.length)(ha:BV la)(hb:BV lb)(hx:la[k]? = some x)(hy:lb[k]? = some y)(hd:la.drop (k+1)=lb.drop (k+1))(h:x<y):AD la<AD lb:=by
 have hka:k<la.length:=by
  rcases fv k la.length with h' | h'
  ·exact h'
  ·rw[gH h']at hx;cases hx
 have e:∀ (l:List Nat) (z:Nat),l[k]? = some z→k<l.length→AD l=AD (l.take k)+LB ^ k * (z+LB * AD (l.drop (k+1))):=by
  intro l z hz hkl
  have h1:=BA (l.take k) (l.drop k)
  rw[iO,gS,hX (by omega),El hz]at h1
  exact h1
 rw[e la x hx hka,e lb y hy (by omega),hd]
 have h1:=CF (ha.take k)
 rw[gS,hX (by omega)]at h1
 generalize LB * AD (lb.drop (k+1))=z
 have h2:LB ^ k * (x+z+1)≤LB ^ k * (y+z):=gU _ (by omega)
 rw[gM,gB]at h2
 omega
section
variable{E:Cg}{s:AE}
theorem XL       {a b : Option (Nat × Nat)} {ca cb : Option Nat} {la lb : List Nat} (hl : la.length = lb.length) (ha : BV  la) (hb : BV  lb) (hca : Ai      s.next s a (us la)) (hcb : Ai      s.next s b (us lb)) (h63 : la.length ≤ 100000000000) {Q : Au   → Prop} (x2 x4 x5 : AV)
    (hq:la=lb→∀y3 y6 y7 y8,Q ⟨.exit 1,[.slice a la.length ca,.slice b lb.length cb,x2,y3,x4,x5,y6,y7,y8],[],s⟩)
    (hr:∀z y3 y6 y7 y8,z=GR (AD la) (AD lb)→Q ⟨.ret,[.slice a la.length ca,.slice b lb.length cb,iv z,y3,x4,x5,y6,y7,y8],[],s⟩):
    ∀ (k:Nat) (x6 x7 x8:AV),k≤la.length→la.drop k=lb.drop k→WC E none (.loop FB) Q [.slice a la.length ca,.slice b lb.length cb,x2,iv ((k:Int) - 1),x4,x5,x6,x7,x8] [] s:=by
  intro k
  induction k with
  | zero =>
    intro x6 x7 x8 hk hd
    refine WC.loop' ?_
    have d0:decide ((0:Int)≤((0:Nat):Int) - 1)=false:=rfl
    simp only[FB,Ja,Wa,d0,Qa,Qb,Qc,Qd,Qe,Qf,Qg,Qh,Qi,Qj,Qk,Ql,Qm,Qn,true_and,and_true,Qo,Qp,Qq,Qr,Qs,Qt,Qu,Qv,Qw,Qx,Qy,Qz,Ra,Rb,Rc,Rd,Re,Rf,Rg,Rh,Ri,Rj,Rk,Rm,Rn,Ro,Rp,Rq,Rs,Ya,Yb,Yc,Rt,Ru,Za,Yd,Ye,Rx,Ry,Rz,Wa,Wb,Wc,Wd]
    exact hq (by simpa using hd) _ _ _ _
  | succ k ih =>
    intro x6 x7 x8 hk hd
    have hx:la[k]? = some la[k]:=f9 (by omega)
    generalize la[k]=x at hx
    have hy:lb[k]? = some (lb[k]'(by omega)):=f9 (by omega)
    generalize lb[k]'(by omega)=y at hy
    obtain⟨i,o,rfl,_,hload⟩:=hca k _ (DB hx)
    obtain⟨i2,o2,rfl,_,hload2⟩:=hcb k _ (DB hy)
    have e0:((k+1:Nat):Int) - 1=(k:Int):=by omega
    have d0:decide ((0:Int)≤(k:Int))=true:=decide_eq_true (by omega)
    have e1:=Aw (cap:=ca) (i:=i) (o:=o) Tryz.underlying59 Bj (show k<la.length by omega)
    have e2:AF Tryz.prog s 203 (.ptr (some (i,o+k * 1)))=some (BO x):=B9 EO (by rw[gB];exact hload)
    have e3:=Aw (cap:=cb) (i:=i2) (o:=o2) Tryz.underlying59 Bj (show k<lb.length by omega)
    have e4:AF Tryz.prog s 203 (.ptr (some (i2,o2+k * 1)))=some (BO y):=B9 EO (by rw[gB];exact hload2)
    have e5:=fN Tryz.prog 203 (a:=x) (b:=y) .u32
    have e6:=Lo Tryz.prog 203 (a:=x) (b:=y) .u32
    have e7:=Br Tryz.prog 3 (k:Int) 1 ⟨by omega,by omega⟩
    refine WC.loop' ?_
    generalize hW:WC E none (Ab.loop FB) Q=WW
    rw[e0]
    by_cases h1:x<y
    · have d1:decide (x<y)=true:=decide_eq_true h1
      simp only[FB,Ja,ML,Uv,Wa,d0,e1,e2,e3,e4,e5,d1,Qa,Qb,Qc,Qd,Qe,Qf,Qg,Qh,Qi,Qj,Qk,Ql,Qm,Qn,true_and,and_true,Qo,Qp,Qq,Qr,Qs,Qt,Qu,Qv,Qw,Qx,Qy,Qz,Ra,Rb,Rc,Rd,Re,Rf,Rg,Rh,Ri,Rj,Rk,Rm,Rn,Ro,Rp,Rq,Rs,Ya,Yb,Yc,Rt,Ru,Za,Yd,Ye,Rx,Ry,Rz,Wa,Wb,Wc,Wd]
      refine hr _ _ _ _ _ ?_
      have:=N0 hl ha hb hx hy hd h1
      unfold GR
      rw[if_pos this]
    · have d1:decide (x<y)=false:=decide_eq_false h1
      by_cases h2:y<x
      · have d2:decide (y<x)=true:=decide_eq_true h2
        simp only[FB,Ja,ML,MJ,RU,Wa,d0,e1,e2,e3,e4,e5,e6,d1,d2,Qa,Qb,Qc,Qd,Qe,Qf,Qg,Qh,Qi,Qj,Qk,Ql,Qm,Qn,true_and,and_true,Qo,Qp,Qq,Qr,Qs,Qt,Qu,Qv,Qw,Qx,Qy,Qz,Ra,Rb,Rc,Rd,Re,Rf,Rg,Rh,Ri,Rj,Rk,Rm,Rn,Ro,Rp,Rq,Rs,Ya,Yb,Yc,Rt,Ru,Za,Yd,Ye,Rx,Ry,Rz,Wa,Wb,Wc,Wd]
        refine hr _ _ _ _ _ ?_
        have:=N0 hl.symm hb ha hy hx hd.symm h2
        unfold GR
        rw[if_neg (by omega),if_pos this]
      · have d2 : decide (y < x) = false := decide_eq_false h2
        have hxy:x=y:=by omega
        simp only[FB,Ja,ML,MJ,RV,Wa,d0,e1,e2,e3,e4,e5,e6,d1,d2,e7,Qa,Qb,Qc,Qd,Qe,Qf,Qg,Qh,Qi,Qj,Qk,Ql,Qm,Qn,true_and,and_true,Qo,Qp,Qq,Qr,Qs,Qt,Qu,Qv,Qw,Qx,Qy,Qz,Ra,Rb,Rc,Rd,Re,Rf,Rg,Rh,Ri,Rj,Rk,Rm,Rn,Ro,Rp,Rq,Rs,Ya,Yb,Yc,Rt,Ru,Za,Yd,Ye,Rx,Ry,Rz,Wa,Wb,Wc,Wd]
        rw[← hW]
        refine ih _ _ _ (by omega) ?_
        rw[gc (show k<la.length by omega),gc (show k<lb.length by omega),hd]
        have g1:la[k]=x:=by rw[f9 (by omega)]at hx;exact Option.some.inj hx
        have g2:lb[k]'(by omega)=y:=by rw[f9 (by omega)]at hy;exact Option.some.inj hy
        rw[g1,g2,hxy]
theorem XM     (hE : An    E) {va vb : AV} {la lb : List Nat} (ha : CW  s va la) (hb : CW  s vb lb) (hla : la.length ≤ 100000000000) (hlb : lb.length ≤ 100000000000) (hsa : BV  la) (hsb : BV  lb) {K : AV → AE  → Prop}
    (hK:∀s',A8 s.next s s'→K (iv (GR (AD la) (AD lb))) s'):WF E 209 [va,vb] K s:=by
  refine hE.go Zt (by decide) rfl ?_
  simp only[eJ,Uq,Ur,Qa,Qb,Qc,Qd,Qe,Qf,Qg,Qh,Qi,Qj,Qk,Ql,Qm,Qn,true_and,and_true,Qo,Qp,Qq,Qr,Qs,Qt,Qu,Qv,Qw,Qx,Qy,Qz,Ra,Rb,Rc,Rd,Re,Rf,Rg,Rh,Ri,Rj,Rk,Rm,Rn,Ro,Rp,Rq,Rs,Ya,Yb,Yc,Rt,Ru,Za,Yd,Ye,Rx,Ry,Rz,Wa,Wb,Wc,Wd]
  refine Bz hE ha hla fun s1 v1 o1 r1=>?_
  simp only[Qa,Qb,Qc,Qd,Qe,Qf,Qg,Qh,Qi,Qj,Qk,Ql,Qm,Qn,true_and,and_true,Qo,Qp,Qq,Qr,Qs,Qt,Qu,Qv,Qw,Qx,Qy,Qz,Ra,Rb,Rc,Rd,Re,Rf,Rg,Rh,Ri,Rj,Rk,Rm,Rn,Ro,Rp,Rq,Rs,Ya,Yb,Yc,Rt,Ru,Za,Yd,Ye,Rx,Ry,Rz,Wa,Wb,Wc,Wd]
  refine Bz hE (hb.old o1) hlb fun s2 v2 o2 r2=>?_
  have n1:=r1.n32.old o2
  have n2:=r2.n32
  have hend:=hK s2 (o1.trans (o2.mono o1.1))
  have t1:=DM la
  have t2:=DM lb
  rw[BJ hsa]at n1 t1
  rw[BJ hsb]at n2 t2
  generalize AD la=A at *
  generalize AD lb=B at *
  obtain⟨a,ca,rfl,_,hca⟩:=n1
  obtain⟨b,cb,rfl,_,hcb⟩:=n2
  by_cases h1:(AI A).length<(AI B).length
  · have d1 : decide (((AI    A).length : Int) < ((AI    B).length : Int)) = true := decide_eq_true (by omega)
    have e:GR A B=-1:=by unfold GR;rw[if_pos (C1 h1)]
    rw[e]at hend
    simp only[MK,Us,AW Tryz.underlying59,Rx,d1,Qa,Qb,Qc,Qd,Qe,Qf,Qg,Qh,Qi,Qj,Qk,Ql,Qm,Qn,true_and,and_true,Qo,Qp,Qq,Qr,Qs,Qt,Qu,Qv,Qw,Qx,Qy,Qz,Ra,Rb,Rc,Rd,Re,Rf,Rg,Rh,Ri,Rj,Rk,Rm,Rn,Ro,Rp,Rq,Rs,Ya,Yb,Yc,Rt,Ru,Za,Yd,Ye,Rx,Ry,Rz,Wa,Wb,Wc,Wd]
    exact hend
  · have d1:decide (((AI A).length:Int)<((AI B).length:Int))=false:=decide_eq_false (by omega)
    by_cases h2:(AI B).length<(AI A).length
    · have d2 : decide (((AI    B).length : Int) < ((AI    A).length : Int)) = true := decide_eq_true (by omega)
      have hlt:=C1 h2
      have e:GR A B=1:=by unfold GR;rw[if_neg (by omega),if_pos hlt]
      rw[e]at hend
      simp only[MK,PJ,Ut,AW Tryz.underlying59,Rx,Ry,d1,d2,Qa,Qb,Qc,Qd,Qe,Qf,Qg,Qh,Qi,Qj,Qk,Ql,Qm,Qn,true_and,and_true,Qo,Qp,Qq,Qr,Qs,Qt,Qu,Qv,Qw,Qx,Qy,Qz,Ra,Rb,Rc,Rd,Re,Rf,Rg,Rh,Ri,Rj,Rk,Rm,Rn,Ro,Rp,Rq,Rs,Ya,Yb,Yc,Rt,Ru,Za,Yd,Ye,Rx,Ry,Rz,Wa,Wb,Wc,Wd]
      exact hend
    · have d2 : decide (((AI    B).length : Int) < ((AI    A).length : Int)) = false := decide_eq_false (by omega)
      have hl:(AI A).length=(AI B).length:=by omega
      have e7:=Br Tryz.prog 3 ((AI A).length:Int) 1 ⟨by omega,by omega⟩
      simp only[MK,PJ,Uu,AW Tryz.underlying59,Rx,Ry,d1,d2,e7,Qa,Qb,Qc,Qd,Qe,Qf,Qg,Qh,Qi,Qj,Qk,Ql,Qm,Qn,true_and,and_true,Qo,Qp,Qq,Qr,Qs,Qt,Qu,Qv,Qw,Qx,Qy,Qz,Ra,Rb,Rc,Rd,Re,Rf,Rg,Rh,Ri,Rj,Rk,Rm,Rn,Ro,Rp,Rq,Rs,Ya,Yb,Yc,Rt,Ru,Za,Yd,Ye,Rx,Ry,Rz,Wa,Wb,Wc,Wd]
      refine XL hl (AR A) (AR B) hca hcb (by omega) _ _ _ (fun heq y3 y6 y7 y8=>?_) (fun z y3 y6 y7 y8 hz=>?_) (AI A).length _ _ _ (fu _) (by rw[List.drop_length,hl,List.drop_length])
      · have:A=B:=TM heq
        subst this
        have e:GR A A=0:=by unfold GR;rw[if_neg (Nat.lt_irrefl _),if_neg (Nat.lt_irrefl _)]
        rw[e]at hend
        simp only[RW,if_true,Qa,Qb,Qc,Qd,Qe,Qf,Qg,Qh,Qi,Qj,Qk,Ql,Qm,Qn,true_and,and_true,Qo,Qp,Qq,Qr,Qs,Qt,Qu,Qv,Qw,Qx,Qy,Qz,Ra,Rb,Rc,Rd,Re,Rf,Rg,Rh,Ri,Rj,Rk,Rm,Rn,Ro,Rp,Rq,Rs,Ya,Yb,Yc,Rt,Ru,Za,Yd,Ye,Rx,Ry,Rz,Wa,Wb,Wc,Wd]
        exact hend
      · rw[AY,AY]at hz
        subst hz
        simp only[Qa,Qb,Qc,Qd,Qe,Qf,Qg,Qh,Qi,Qj,Qk,Ql,Qm,Qn,true_and,and_true,Qo,Qp,Qq,Qr,Qs,Qt,Qu,Qv,Qw,Qx,Qy,Qz,Ra,Rb,Rc,Rd,Re,Rf,Rg,Rh,Ri,Rj,Rk,Rm,Rn,Ro,Rp,Rq,Rs,Ya,Yb,Yc,Rt,Ru,Za,Yd,Ye,Rx,Ry,Rz,Wa,Wb,Wc,Wd]
        exact hend
end
theorem dQ(n:Nat):QG [AV.int .u32 0] n=us (List.replicate n 0):=by
 induction n with
 | zero=>rfl
 | succ n ih=>show [AV.int .u32 0]++QG [AV.int .u32 0] n=_;rw[ih];rfl
theorem Mo(n:Nat)(h:n≤100000000000):Bv Tryz.prog 59 (iv (n:Int)) (iv (n:Int))=some (R 203 1 false (us (List.replicate n 0)),.slice n):=by
 have e:Bv Tryz.prog 59 (.int .i64 (.ofNat n)) (.int .i64 (.ofNat n))=some (Fu 203 1 (QG [AV.int .u32 0] n),.slice n):=by
  simp[Bv,Tryz.underlying59,NZ,Bj,fQ,AH,Cy (show 4 * n≤1099511627776 by omega),Cy (show n≤1099511627776 by omega),AV.cells]
 rw[dQ]at e
 exact e
structure Ks(s s':AE)(i:Nat):Prop where
 next:s'.next=s.next
 get:∀j,j≠i→s'.heap.get j=s.heap.get j
theorem Ks.refl(s:AE)(i:Nat):Ks s s i:=⟨rfl,fun _ _=>rfl⟩
theorem Ks.set{s s':AE}{i:Nat}(h:Ks s s' i)(o:AX):Ks s (setObj s' i o) i:=⟨h.next,fun j hj=>(Ww o hj).trans (h.get j hj)⟩
theorem Ks.old{s s':AE}{i b:Nat}(h:Ks s s' i)(hb:b≤i):A8 b s s':=⟨gV h.next.symm,fun j hj=>h.get j (by omega)⟩
section
variable{E:Cg}{s:AE}
theorem QT{s1:AE}{x:Nat}(hx:0<x)(hxB:x≤4294967296){a:Option (Nat×Nat)}{cap:Option Nat}{l:List Nat}{b qi:Nat}(hc:Ai b s1 a (us l))(hb:b≤qi)(hl:l.length≤100000000000)(hs:BV l){Q:Au→Prop}
  (hq:∀ (s':AE) (y4 y5:AV),Ks s1 s' qi→s'.heap.get qi=some (R 203 1 false (us (A1 x l).1))→Q ⟨.exit 0,[.slice a l.length cap,AT x,.slice (some (qi,0)) l.length (some l.length),AT (A1 x l).2,y4,y5],[],s'⟩):
  ∀ (k:Nat) (s':AE) (x5:AV),k≤l.length→Ks s1 s' qi→s'.heap.get qi=some (R 203 1 false (us (List.replicate k 0++(A1 x (l.drop k)).1))) →
   WC E none (.loop Jb) Q [.slice a l.length cap,AT x,.slice (some (qi,0)) l.length (some l.length),AT (A1 x (l.drop k)).2,iv ((k:Int) - 1),x5] [] s':=by
 intro k
 induction k with
 | zero =>
  intro s' x5 hk ho hg
  have d0:decide ((0:Int)≤((0:Nat):Int) - 1)=false:=rfl
  refine WC.loop' ?_
  simp only[Jb,PL,Wa,d0,Qa,Qb,Qc,Qd,Qe,Qf,Qg,Qh,Qi,Qj,Qk,Ql,Qm,Qn,true_and,and_true,Qo,Qp,Qq,Qr,Qs,Qt,Qu,Qv,Qw,Qx,Qy,Qz,Ra,Rb,Rc,Rd,Re,Rf,Rg,Rh,Ri,Rj,Rk,Rm,Rn,Ro,Rp,Rq,Rs,Ya,Yb,Yc,Rt,Ru,Za,Yd,Ye,Rx,Ry,Rz,Wa,Wb,Wc,Wd]
  exact hq s' _ _ ho hg
 | succ k ih =>
  intro s' x5 hk ho hg
  have hy:l[k]? = some l[k]:=f9 (by omega)
  have hdk:l.drop k=l[k]::l.drop (k+1):=gc (by omega)
  generalize l[k]=y at hy hdk
  have hys:y<4294967296:=hs y (gR hy)
  obtain⟨i,o,rfl,hi,hload⟩:=hc k _ (DB hy)
  obtain⟨_,v2,v3⟩:=Cl hx (l.drop (k+1))
  have hsl:A1 x (l.drop k)=(((A1 x (l.drop (k+1))).2 * LB+y) / x::(A1 x (l.drop (k+1))).1,((A1 x (l.drop (k+1))).2 * LB+y) % x):=by rw[hdk];rfl
  have hLB:LB=4294967296:=rfl
  rw[hLB]at hsl
  rw[hsl]at ih
  generalize A1 x (l.drop (k+1))=T at *
  obtain⟨q,r⟩:=T
  simp only at *
  have hqlt:(r * 4294967296+y) / x<4294967296:=by
   rw[ge hx]
   have:(r+1) * 4294967296≤x * 4294967296:=gL _ v2
   rw[gW]at this
   rw[gD _ x]
   omega
  have e0:((k+1:Nat):Int) - 1=(k:Int):=by omega
  have d0:decide ((0:Int)≤(k:Int))=true:=decide_eq_true (by omega)
  have e1:AN Tryz.prog .shl 205 (AT r) (.int .u64 32)=some (AT (r * 4294967296)):=Lp Tryz.prog 205 (k:=.u64) (n:=32) (by decide) (by show r * 4294967296<_;omega)
  have e2:=Aw (cap:=cap) (i:=i) (o:=o) Tryz.underlying59 Bj (show k<l.length by omega)
  have e3:AF Tryz.prog s' 203 (.ptr (some (i,o+k * 1)))=some (BO y):=B9 EO (by rw[gB,DV (ho.get i (by omega))];exact hload)
  have e4:=bX Tryz.prog 205 (a:=r) (b:=y) (by omega) hys
  have e5:=ZC Tryz.prog 205 (a:=r * 4294967296+y) (b:=x) (by omega) (by omega)
  have e6:(r * 4294967296+y) / x % 4294967296=(r * 4294967296+y) / x:=gT hqlt
  have e7:=Aw (cap:=some l.length) (i:=qi) (o:=0) Tryz.underlying59 Bj (show k<l.length by omega)
  rw[gB,gA]at e7
  have hlen:k<(us (List.replicate (k+1) 0++q)).length:=by rw[CM,gI,List.length_replicate];omega
  have e8:=Cf (P:=Tryz.prog) (t:=203) (v:=BO ((r * 4294967296+y) / x)) Bj hg hlen rfl
  have e9:=ZD Tryz.prog 205 (a:=r * 4294967296+y) (b:=x) (by omega)
  have e10:=Br Tryz.prog 3 (k:Int) 1 ⟨by omega,by omega⟩
  have hrow:(us (List.replicate (k+1) 0++q)).set k (BO ((r * 4294967296+y) / x))=us (List.replicate k 0++((r * 4294967296+y) / x::q)):=by
   rw[IS]
   congr 1
   rw[List.replicate_succ',gP,List.set_append_right _ _ (by simp)]
   simp
  rw[hrow]at e8
  refine WC.loop' ?_
  generalize hW:WC E none (Ab.loop Jb) Q=WW
  rw[e0]
  simp only[Jb,PL,Uz,U1,U2,U3,Wa,d0,e1,e2,e3,BP hys,e4,e5,Bd,e6,e7,e8,e9,e10,Xx,Xz,Qa,Qb,Qc,Qd,Qe,Qf,Qg,Qh,Qi,Qj,Qk,Ql,Qm,Qn,true_and,and_true,Qo,Qp,Qq,Qr,Qs,Qt,Qu,Qv,Qw,Qx,Qy,Qz,Ra,Rb,Rc,Rd,Re,Rf,Rg,Rh,Ri,Rj,Rk,Rm,Rn,Ro,Rp,Rq,Rs,Ya,Yb,Yc,Rt,Ru,Za,Yd,Ye,Rx,Ry,Rz,Wa,Wb,Wc,Wd]
  rw[← hW]
  exact ih _ _ (by omega) (ho.set _) (Wv _ _ _)
theorem Ki(hE:An E){v:AV}{l:List Nat}(hv:CW s v l)(hl:l.length≤10000000000)(hs:BV l){x:Nat}(hx:0<x)(hxB:x≤4294967296){K:AV→AE→Prop}(hK:∀s' v',A8 s.next s s'→NR s.next s' v' (C9 (A1 x l).1)→K (.tuple [v',AT (A1 x l).2]) s'):
  WF E 210 [v,AT x] K s:=by
 obtain⟨a,cap,rfl,hcap,hc⟩:=hv
 have e1:=Mo l.length (by omega)
 have e2:=Br Tryz.prog 3 (l.length:Int) 1 ⟨by omega,by omega⟩
 have ho:=A8.new s (R 203 1 false (us (List.replicate l.length 0)))
 refine hE.go Zu (by decide) rfl ?_
 simp only[eK,Uw,Ux,Uy,AW Tryz.underlying59,e1,e2,Xx,Xd,Qa,Qb,Qc,Qd,Qe,Qf,Qg,Qh,Qi,Qj,Qk,Ql,Qm,Qn,true_and,and_true,Qo,Qp,Qq,Qr,Qs,Qt,Qu,Qv,Qw,Qx,Qy,Qz,Ra,Rb,Rc,Rd,Re,Rf,Rg,Rh,Ri,Rj,Rk,Rm,Rn,Ro,Rp,Rq,Rs,Ya,Yb,Yc,Rt,Ru,Za,Yd,Ye,Rx,Ry,Rz,Wa,Wb,Wc,Wd]
 have hg0:(newObj s (R 203 1 false (us (List.replicate l.length 0)))).heap.get s.next=some (R 203 1 false (us (List.replicate l.length 0++(A1 x (l.drop l.length)).1))):=by
  rw[AO,if_pos rfl,List.drop_length]
  simp[A1]
 have h0:AV.int .u64 0=AT (A1 x (l.drop l.length)).2:=by rw[List.drop_length];rfl
 rw[h0]
 refine QT (s1:=newObj s (R 203 1 false (us (List.replicate l.length 0)))) hx hxB (hc.old ho (fu _)) (fu s.next) (by omega) hs (fun s' y4 y5 o' hg'=>?_) l.length _ _ (fu _) (Ks.refl _ _) hg0
 obtain⟨v1,v2,v3⟩:=Cl hx l
 have hsn:s'.next=s.next+1:=o'.next
 have hq:CW s' (.slice (some (s.next,0)) l.length (some l.length)) (A1 x l).1:=
  ⟨some (s.next,0),some l.length,by rw[v3],.inl ⟨l.length,rfl,by omega,fun e=>by cases e⟩,MW hg' (by omega)⟩
 simp only[U4,if_true,Qa,Qb,Qc,Qd,Qe,Qf,Qg,Qh,Qi,Qj,Qk,Ql,Qm,Qn,true_and,and_true,Qo,Qp,Qq,Qr,Qs,Qt,Qu,Qv,Qw,Qx,Qy,Qz,Ra,Rb,Rc,Rd,Re,Rf,Rg,Rh,Ri,Rj,Rk,Rm,Rn,Ro,Rp,Rq,Rs,Ya,Yb,Yc,Rt,Ru,Za,Yd,Ye,Rx,Ry,Rz,Wa,Wb,Wc,Wd]
 refine Bz hE hq (by omega) fun s2 v2 o2 r2=>?_
 simp only[Qa,Qb,Qc,Qd,Qe,Qf,Qg,Qh,Qi,Qj,Qk,Ql,Qm,Qn,true_and,and_true,Qo,Qp,Qq,Qr,Qs,Qt,Qu,Qv,Qw,Qx,Qy,Qz,Ra,Rb,Rc,Rd,Re,Rf,Rg,Rh,Ri,Rj,Rk,Rm,Rn,Ro,Rp,Rq,Rs,Ya,Yb,Yc,Rt,Ru,Za,Yd,Ye,Rx,Ry,Rz,Wa,Wb,Wc,Wd]
 exact hK s2 v2 (ho.trans ((o'.old (fu _)).trans (o2.mono (by omega)))) (r2.mono (by omega))
end
def E0(cu:List Nat)(off:Nat)(d:List Nat):List Nat:=cu.take off++d++cu.drop (off+d.length)
theorem Mr(cu:List Nat)(off:Nat):E0 cu off []=cu:=by simp[E0,iO]
theorem GF{cu:List Nat}{off:Nat}{d:List Nat}(h:off+d.length≤cu.length):(E0 cu off d).length=cu.length:=by
 unfold E0
 simp only[gI,gS,gr]
 omega
theorem Mq{cu:List Nat}{off:Nat}{d:List Nat}(h:off+d.length<cu.length):(E0 cu off d)[off+d.length]? = cu[off+d.length]? := by
 unfold E0
 rw[gj (by simp;omega)]
 simp only[gI,gS]
 rw[iV]
 congr 1
 omega
theorem JG{cu:List Nat}{off:Nat}{d:List Nat}(h:off+d.length<cu.length)(x:Nat):(E0 cu off d).set (off+d.length) x=E0 cu off (d++[x]):=by
 unfold E0
 have hl:(cu.take off++d).length=off+d.length:=by simp;omega
 rw[List.set_append_right _ _ (by omega),hl,Nat.sub_self]
 rw[gc h]
 simp[gP,gX]
section
variable{E:Cg}{s:AE}
theorem Tl{s1:AE}{q:Nat}(hq32:q<4294967296){ui off:Nat}{capu:Option Nat}{pp:Option Nat}{cu w:List Nat}(hcu:off+w.length≤cu.length)(hsu:BV cu)(hsw:BV w){a9:Option (Nat×Nat)}{c9:Option Nat}{b:Nat}(hc9:Ai b s1 a9 (us w))(h9:∀i o,a9=some (i,o)→i≠ui∧some i≠pp)
    (hwl:w.length≤100000000000) {D:List Nat} {cf bf:Nat} {Q:Au→Prop} (x1 x3:AV)
    (hq:∀ (s':AE) (c br:Nat) (d:List Nat) (y6 y7 y8 y11 y12:AV),CY s1 s' ui pp→d=D→br=bf→B3 s' ui (us (E0 cu off d)) pp →
      Q ⟨.exit 0,[.slice (some (ui,off)) w.length capu,x1,AT q,x3,AT c,AT br,y6,y7,y8,.slice a9 w.length c9,iv (w.length:Int),y11,y12],[],s'⟩):
    ∀ (r : List Nat) (s' : AE)  (c br : Nat) (d : List Nat) (x6 x7 x8 x12 : AV), w.drop d.length = r → d.length ≤ w.length → CY    s1 s' ui pp → c < 4294967296 → br ≤ 1 →
      (d++(Bo q ((cu.drop (off+d.length)).zip r) c br).1,(Bo q ((cu.drop (off+d.length)).zip r) c br).2)=(D,cf,bf)→B3 s' ui (us (E0 cu off d)) pp →
      WC E none (.loop HC) Q [.slice (some (ui,off)) w.length capu,x1,AT q,x3,AT c,AT br,x6,x7,x8,.slice a9 w.length c9,iv (w.length:Int),iv (d.length:Int),x12] [] s':=by
  intro r
  induction r with
  | nil =>
    intro s' c br d x6 x7 x8 x12 hd hk ho hc hb hT hg
    have hkl:d.length=w.length:=by
      have:=congrArg List.length hd
      simp at this
      omega
    rw[List.zip_nil_right]at hT
    simp only[Bo,iC,Prod.mk.injEq]at hT
    have dd:decide ((d.length:Int)<(w.length:Int))=false:=decide_eq_false (by omega)
    refine WC.loop' ?_
    simp only[HC,PM,Rx,dd,Qa,Qb,Qc,Qd,Qe,Qf,Qg,Qh,Qi,Qj,Qk,Ql,Qm,Qn,true_and,and_true,Qo,Qp,Qq,Qr,Qs,Qt,Qu,Qv,Qw,Qx,Qy,Qz,Ra,Rb,Rc,Rd,Re,Rf,Rg,Rh,Ri,Rj,Rk,Rm,Rn,Ro,Rp,Rq,Rs,Ya,Yb,Yc,Rt,Ru,Za,Yd,Ye,Rx,Ry,Rz,Wa,Wb,Wc,Wd]
    exact hq s' c br d _ _ _ _ _ ho hT.1 hT.2.2 hg
  | cons y r ih =>
    intro s' c br d x6 x7 x8 x12 hd hk ho hc hb hT hg
    have hlt:d.length<w.length:=by
      rcases fv d.length w.length with h' | h'
      · exact h'
      · rw[gt h']at hd;cases hd
    have hy:w[d.length]? = some y:=by
      have:=congrArg (fun l=>l[0]?) hd
      simpa using this
    have hd':w.drop (d.length+1)=r:=by
      have:=congrArg (List.drop 1) hd
      simpa[g8]using this
    have hys:y<4294967296:=hsw y (gR hy)
    have hlu:off+d.length<cu.length:=by omega
    have hu:cu[off+d.length]? = some cu[off+d.length]:=f9 hlu
    have hdu:cu.drop (off+d.length)=cu[off+d.length]::cu.drop (off+(d.length+1)):=gc hlu
    generalize cu[off+d.length]=u at hu hdu
    have hus:u<4294967296:=hsu u (gR hu)
    rw[hdu,iG]at hT
    simp only[Bo]at hT
    obtain⟨i,o,rfl,hi,hload⟩:=hc9 d.length _ (DB hy)
    have hne:=h9 i o rfl
    have hkk:decide ((d.length:Int)<(w.length:Int))=true:=decide_eq_true (by omega)
    have e1:=Aw (cap:=c9) (i:=i) (o:=o) Tryz.underlying59 Bj hlt
    have e2:AF Tryz.prog s' 203 (.ptr (some (i,o+d.length * 1)))=some (BO y):=B9 EO (by rw[gB,DV (ho.get i hne.1 hne.2)];exact hload)
    have hqy:q * y≤4294967295 * 4294967295:=gz (by omega) (by omega)
    have e3:=Om Tryz.prog 205 (a:=q) (b:=y) (by omega)
    have e4:=F4 Tryz.prog 205 (a:=c) (b:=q * y) (by omega)
    have e5:=Aw (cap:=capu) (i:=ui) (o:=off) Tryz.underlying59 Bj hlt
    have hcell:(us (E0 cu off d))[off+d.length * 1]? = some (BO u):=by rw[gB];exact DB ((Mq hlu).trans hu)
    have e6:=Ft (P:=Tryz.prog) (t:=203) EO hg hcell
    have hLB:LB=4294967296:=rfl
    rw[hLB]at hT
    generalize hc1:c+q * y=c1 at hT e4
    have hc1b:c1<18446744073709551616:=by omega
    have e7:=It Tryz.prog 205 hc1b
    have hm:c1 % 4294967296<4294967296:=gO _ (by decide)
    generalize hmm:c1 % 4294967296=m at hT e7 hm
    have e8:=Lq Tryz.prog 205 (a:=u) (b:=m) (by omega)
    have e9:=Lq Tryz.prog 205 (a:=(u+18446744073709551616 - m) % 18446744073709551616) (b:=br) (by omega)
    generalize hdd:((u+18446744073709551616 - m) % 18446744073709551616+18446744073709551616 - br) % 18446744073709551616=dd at e9
    have hddb:dd<18446744073709551616:=by rw[← hdd];exact gO _ (by decide)
    have e10:=It Tryz.prog 205 hddb
    have e11:dd % 4294967296 % 4294967296=dd % 4294967296:=iH _ _
    have e12:dd % 4294967296=(u+4294967296 - m - br) % 4294967296:=by omega
    have e13:AN Tryz.prog .shr 205 (AT dd) (.int .u64 63)=some (AT (dd / 9223372036854775808)):=Ho Tryz.prog 205 (k:=.u64) (n:=63) (by decide)
    have e14:dd / 9223372036854775808=if u<m+br then 1 else 0:=by split<;>omega
    have e15:AN Tryz.prog .shr 205 (AT c1) (.int .u64 32)=some (AT (c1 / 4294967296)):=Ho Tryz.prog 205 (k:=.u64) (n:=32) (by decide)
    rw[e12]at e10 e11
    generalize hx:(u+4294967296 - m - br) % 4294967296=x at hT e10 e11 e12
    have hlm:off+d.length * 1<(us (E0 cu off d)).length:=by rw[CM,GF (by omega)];omega
    obtain⟨s2,e16,w1,w2,w3⟩:=DL (P:=Tryz.prog) (t:=203) (v:=BO x) Bj hg hlm rfl
    rw[gB]at e16
    rw[gB,IS,JG hlu]at w1
    rw[gB]at e5 e6
    have e17:=By Tryz.prog 3 (d.length:Int) 1 ⟨by omega,by omega⟩
    have e17':((d.length:Int)+1)=((d.length+1:Nat):Int):=by omega
    refine WC.loop' ?_
    generalize hW:WC E none (Ab.loop HC) Q=WW
    simp only[HC,PM,VF,VG,VH,VI,VJ,VK,RX,Rx,hkk,e1,e2,BP hys,e3,e4,e5,e6,BP hus,e7,e8,e9,e10,Bd,e11,e16,e15,e13,e14,e17,e17',Xx,Xz,Qa,Qb,Qc,Qd,Qe,Qf,Qg,Qh,Qi,Qj,Qk,Ql,Qm,Qn,true_and,and_true,Qo,Qp,Qq,Qr,Qs,Qt,Qu,Qv,Qw,Qx,Qy,Qz,Ra,Rb,Rc,Rd,Re,Rf,Rg,Rh,Ri,Rj,Rk,Rm,Rn,Ro,Rp,Rq,Rs,Ya,Yb,Yc,Rt,Ru,Za,Yd,Ye,Rx,Ry,Rz,Wa,Wb,Wc,Wd]
    rw[← hW]
    have hlen1:(d++[x]).length=d.length+1:=by rw[gI];rfl
    have key:=ih s2 (c1 / 4294967296) (if u<m+br then 1 else 0) (d++[x])
    rw[hlen1]at key
    exact key _ _ _ _ hd' hlt (ho.step w2 w3) (by omega) (by split<;>omega) (by rw[gP];exact hT) w1
theorem bS(hE:An E){q:Nat}(hq32:q<4294967296){ui off:Nat}{capu:Option Nat}{pp:Option Nat}{cu vl:List Nat}(hui:ui<s.next)(hpp:∀q,pp=some q→q<s.next)(hg:B3 s ui (us cu) pp)(hcu:off+(vl.length+1)≤cu.length)(hsu:BV cu)(hsv:BV vl){vv:AV}(hv:CW s vv vl)(hvl:vl.length≤10000000000){K:AV→AE→Prop}
  (hK:∀s',s.next≤s'.next→(∀j,j<s.next→j≠ui→some j≠pp→s'.heap.get j=s.heap.get j)→B3 s' ui (us (E0 cu off (Bo q ((cu.drop off).zip (vl++[0])) 0 0).1)) pp →
   K (.bool (decide (0<(Bo q ((cu.drop off).zip (vl++[0])) 0 0).2.2))) s'):WF E 213 [.slice (some (ui,off)) (vl.length+1) capu,vv,AT q] K s:=by
 refine hE.go Zx (by decide) rfl ?_
 simp only[eN,VC,VD,VE,Qa,Qb,Qc,Qd,Qe,Qf,Qg,Qh,Qi,Qj,Qk,Ql,Qm,Qn,true_and,and_true,Qo,Qp,Qq,Qr,Qs,Qt,Qu,Qv,Qw,Qx,Qy,Qz,Ra,Rb,Rc,Rd,Re,Rf,Rg,Rh,Ri,Rj,Rk,Rm,Rn,Ro,Rp,Rq,Rs,Ya,Yb,Yc,Rt,Ru,Za,Yd,Ye,Rx,Ry,Rz,Wa,Wb,Wc,Wd]
 refine Jm hE hv (by omega) fun s1 v1 o1 r1=>?_
 obtain⟨O,hD,hO,hsl,_⟩:=r1
 obtain⟨v2,s2,O2,happ,hD2,hn2,hf2,hO2,hsl2⟩:=Hb hD 0 (by omega)
 have hn12:s.next≤s2.next:=by have:=o1.1;omega
 have hkeep:∀j,j<s.next→s2.heap.get j=s.heap.get j:=fun j hj=>by rw[hf2 j (by have:=o1.1;omega) (fun h=>by have:=hO j h;omega)];exact o1.2 j hj
 obtain⟨a9,c9,rfl,hc9⟩:=hD2.cells
 have hids:∀i o,a9=some (i,o)→i≠ui∧some i≠pp:=fun i o e=>by
  subst e
  have hge:s.next≤i:=by
   rcases hsl2 i rfl with h | h
   ·exact hsl i h
   ·have:=o1.1;omega
  exact⟨by omega,fun e=>by have:=hpp i e.symm;omega⟩
 have hw:(vl++[0]).length=vl.length+1:=by rw[gI];rfl
 have happ':A7 Tryz.prog (newObj s1 (R 203 1 false [.int .u32 0])) [59,59] [v1,.slice (some (s1.next,0)) 1 (some 1)]=some (.slice a9 (vl++[0]).length c9,s2):=happ
 simp only[FQ,Xd,happ',AW Tryz.underlying59,Qa,Qb,Qc,Qd,Qe,Qf,Qg,Qh,Qi,Qj,Qk,Ql,Qm,Qn,true_and,and_true,Qo,Qp,Qq,Qr,Qs,Qt,Qu,Qv,Qw,Qx,Qy,Qz,Ra,Rb,Rc,Rd,Re,Rf,Rg,Rh,Ri,Rj,Rk,Rm,Rn,Ro,Rp,Rq,Rs,Ya,Yb,Yc,Rt,Ru,Za,Yd,Ye,Rx,Ry,Rz,Wa,Wb,Wc,Wd]
 have hsw:BV (vl++[0]):=hsv.append (fun x hx=>by rw[List.mem_singleton.1 hx];exact A3)
 rw[← hw]
 refine Tl (s1:=s2) hq32 (w:=vl++[0]) (by rw[hw];exact hcu) hsu hsw hc9 hids (by rw[hw];omega) (D:=(Bo q ((cu.drop off).zip (vl++[0])) 0 0).1) (cf:=(Bo q ((cu.drop off).zip (vl++[0])) 0 0).2.1) (bf:=(Bo q ((cu.drop off).zip (vl++[0])) 0 0).2.2) _ _
  (fun s' c br d y6 y7 y8 y11 y12 ho hd hbr hg'=>?_) (vl++[0]) s2 0 0 [] _ _ _ _ rfl (gF _) (CY.refl _ _ _) (by decide) (by decide) rfl (by rw[Mr];exact hg.keep (hkeep ui hui))
 subst hd;subst hbr
 have e1:AN Tryz.prog .gtr 205 (AT (Bo q ((cu.drop off).zip (vl++[0])) 0 0).2.2) (.int .u64 0)=some (.bool (decide (0<(Bo q ((cu.drop off).zip (vl++[0])) 0 0).2.2))):=Lo Tryz.prog 205 (b:=0) .u64
 simp only[RY,e1,if_true,Qa,Qb,Qc,Qd,Qe,Qf,Qg,Qh,Qi,Qj,Qk,Ql,Qm,Qn,true_and,and_true,Qo,Qp,Qq,Qr,Qs,Qt,Qu,Qv,Qw,Qx,Qy,Qz,Ra,Rb,Rc,Rd,Re,Rf,Rg,Rh,Ri,Rj,Rk,Rm,Rn,Ro,Rp,Rq,Rs,Ya,Yb,Yc,Rt,Ru,Za,Yd,Ye,Rx,Ry,Rz,Wa,Wb,Wc,Wd]
 exact hK s' (by have:=ho.next;omega) (fun j hj hne hnp=>(ho.get j hne hnp).trans (hkeep j hj)) hg'
theorem Sy{s1:AE}{ui off:Nat}{capu:Option Nat}{pp:Option Nat}{cu w:List Nat}(hcu:off+w.length≤cu.length)(hsu:BV cu)(hsw:BV w){a9:Option (Nat×Nat)}{c9:Option Nat}{b:Nat}(hc9:Ai b s1 a9 (us w))(h9:∀i o,a9=some (i,o)→i≠ui∧some i≠pp)
  (hwl:w.length≤100000000000) {D:List Nat} {Q:Au→Prop} (x1:AV)
  (hq:∀ (s':AE) (d:List Nat) (y2 y3 y4 y7 y8:AV),CY s1 s' ui pp→d=D→B3 s' ui (us (E0 cu off d)) pp →
   Q ⟨.exit 0,[.slice (some (ui,off)) w.length capu,x1,y2,y3,y4,.slice a9 w.length c9,iv (w.length:Int),y7,y8],[],s'⟩):
  ∀ (r:List Nat) (s':AE) (c:Nat) (d:List Nat) (x3 x4 x8:AV),w.drop d.length=r→d.length≤w.length→CY s1 s' ui pp→c≤1 →
   d++(DS ((cu.drop (off+d.length)).zip r) c).1=D→B3 s' ui (us (E0 cu off d)) pp →
   WC E none (.loop Jf) Q [.slice (some (ui,off)) w.length capu,x1,AT c,x3,x4,.slice a9 w.length c9,iv (w.length:Int),iv (d.length:Int),x8] [] s':=by
 intro r
 induction r with
 | nil =>
  intro s' c d x3 x4 x8 hd hk ho hc hT hg
  have hkl:d.length=w.length:=by
   have:=congrArg List.length hd
   simp at this
   omega
  rw[List.zip_nil_right]at hT
  simp only[DS,iC]at hT
  have dd:decide ((d.length:Int)<(w.length:Int))=false:=decide_eq_false (by omega)
  refine WC.loop' ?_
  simp only[Jf,PN,Rx,dd,Qa,Qb,Qc,Qd,Qe,Qf,Qg,Qh,Qi,Qj,Qk,Ql,Qm,Qn,true_and,and_true,Qo,Qp,Qq,Qr,Qs,Qt,Qu,Qv,Qw,Qx,Qy,Qz,Ra,Rb,Rc,Rd,Re,Rf,Rg,Rh,Ri,Rj,Rk,Rm,Rn,Ro,Rp,Rq,Rs,Ya,Yb,Yc,Rt,Ru,Za,Yd,Ye,Rx,Ry,Rz,Wa,Wb,Wc,Wd]
  exact hq s' d _ _ _ _ _ ho hT hg
 | cons y r ih =>
  intro s' c d x3 x4 x8 hd hk ho hc hT hg
  have hlt:d.length<w.length:=by
   rcases fv d.length w.length with h' | h'
   ·exact h'
   ·rw[gt h']at hd;cases hd
  have hy:w[d.length]? = some y:=by
   have:=congrArg (fun l=>l[0]?) hd
   simpa using this
  have hd':w.drop (d.length+1)=r:=by
   have:=congrArg (List.drop 1) hd
   simpa[g8]using this
  have hys:y<4294967296:=hsw y (gR hy)
  have hlu:off+d.length<cu.length:=by omega
  have hu:cu[off+d.length]? = some cu[off+d.length]:=f9 hlu
  have hdu:cu.drop (off+d.length)=cu[off+d.length]::cu.drop (off+(d.length+1)):=gc hlu
  generalize cu[off+d.length]=u at hu hdu
  have hus:u<4294967296:=hsu u (gR hu)
  rw[hdu,iG]at hT
  simp only[DS]at hT
  obtain⟨i,o,rfl,hi,hload⟩:=hc9 d.length _ (DB hy)
  have hne:=h9 i o rfl
  have hkk:decide ((d.length:Int)<(w.length:Int))=true:=decide_eq_true (by omega)
  have e1:=Aw (cap:=c9) (i:=i) (o:=o) Tryz.underlying59 Bj hlt
  have e2:AF Tryz.prog s' 203 (.ptr (some (i,o+d.length * 1)))=some (BO y):=B9 EO (by rw[gB,DV (ho.get i hne.1 hne.2)];exact hload)
  have e5:=Aw (cap:=capu) (i:=ui) (o:=off) Tryz.underlying59 Bj hlt
  have hcell:(us (E0 cu off d))[off+d.length * 1]? = some (BO u):=by rw[gB];exact DB ((Mq hlu).trans hu)
  have e6:=Ft (P:=Tryz.prog) (t:=203) EO hg hcell
  have e3:=F4 Tryz.prog 205 (a:=u) (b:=y) (by omega)
  have e4:=F4 Tryz.prog 205 (a:=c) (b:=u+y) (by omega)
  have hLB:LB=4294967296:=rfl
  rw[hLB,show u+y+c=c+(u+y) by omega]at hT
  generalize hc1:c+(u+y)=c1 at hT e4
  have hc1b:c1<18446744073709551616:=by omega
  have e7:=It Tryz.prog 205 hc1b
  have e11:c1 % 4294967296 % 4294967296=c1 % 4294967296:=iH _ _
  have e15:AN Tryz.prog .shr 205 (AT c1) (.int .u64 32)=some (AT (c1 / 4294967296)):=Ho Tryz.prog 205 (k:=.u64) (n:=32) (by decide)
  generalize hx:c1 % 4294967296=x at hT e7 e11
  have hlm:off+d.length * 1<(us (E0 cu off d)).length:=by rw[CM,GF (by omega)];omega
  obtain⟨s2,e16,w1,w2,w3⟩:=DL (P:=Tryz.prog) (t:=203) (v:=BO x) Bj hg hlm rfl
  rw[gB]at e16
  rw[gB,IS,JG hlu]at w1
  rw[gB]at e5 e6
  have e17:=By Tryz.prog 3 (d.length:Int) 1 ⟨by omega,by omega⟩
  have e17':((d.length:Int)+1)=((d.length+1:Nat):Int):=by omega
  refine WC.loop' ?_
  generalize hW:WC E none (Ab.loop Jf) Q=WW
  simp only[Jf,PN,VN,VO,VP,VQ,VR,Rx,hkk,e1,e2,e5,e6,BP hus,BP hys,e3,e4,e7,Bd,e11,e16,e15,e17,e17',Xx,Xz,Qa,Qb,Qc,Qd,Qe,Qf,Qg,Qh,Qi,Qj,Qk,Ql,Qm,Qn,true_and,and_true,Qo,Qp,Qq,Qr,Qs,Qt,Qu,Qv,Qw,Qx,Qy,Qz,Ra,Rb,Rc,Rd,Re,Rf,Rg,Rh,Ri,Rj,Rk,Rm,Rn,Ro,Rp,Rq,Rs,Ya,Yb,Yc,Rt,Ru,Za,Yd,Ye,Rx,Ry,Rz,Wa,Wb,Wc,Wd]
  rw[← hW]
  have hlen1:(d++[x]).length=d.length+1:=by rw[gI];rfl
  have key:=ih s2 (c1 / 4294967296) (d++[x])
  rw[hlen1]at key
  exact key _ _ _ hd' hlt (ho.step w2 w3) (by omega) (by rw[gP];exact hT) w1
theorem ZT(hE:An E){ui off:Nat}{capu:Option Nat}{pp:Option Nat}{cu vl:List Nat}(hui:ui<s.next)(hpp:∀q,pp=some q→q<s.next)(hg:B3 s ui (us cu) pp)(hcu:off+(vl.length+1)≤cu.length)(hsu:BV cu)(hsv:BV vl){vv:AV}(hv:CW s vv vl)(hvl:vl.length≤10000000000){K:AV→AE→Prop}
  (hK:∀s' r,s.next≤s'.next→(∀j,j<s.next→j≠ui→some j≠pp→s'.heap.get j=s.heap.get j)→B3 s' ui (us (E0 cu off (DS ((cu.drop off).zip (vl++[0])) 0).1)) pp→K r s'):WF E 214 [.slice (some (ui,off)) (vl.length+1) capu,vv] K s:=by
 refine hE.go Zy (by decide) rfl ?_
 simp only[eO,VL,VM,Qa,Qb,Qc,Qd,Qe,Qf,Qg,Qh,Qi,Qj,Qk,Ql,Qm,Qn,true_and,and_true,Qo,Qp,Qq,Qr,Qs,Qt,Qu,Qv,Qw,Qx,Qy,Qz,Ra,Rb,Rc,Rd,Re,Rf,Rg,Rh,Ri,Rj,Rk,Rm,Rn,Ro,Rp,Rq,Rs,Ya,Yb,Yc,Rt,Ru,Za,Yd,Ye,Rx,Ry,Rz,Wa,Wb,Wc,Wd]
 refine Jm hE hv (by omega) fun s1 v1 o1 r1=>?_
 obtain⟨O,hD,hO,hsl,_⟩:=r1
 obtain⟨v2,s2,O2,happ,hD2,hn2,hf2,hO2,hsl2⟩:=Hb hD 0 (by omega)
 have hn12:s.next≤s2.next:=by have:=o1.1;omega
 have hkeep:∀j,j<s.next→s2.heap.get j=s.heap.get j:=fun j hj=>by rw[hf2 j (by have:=o1.1;omega) (fun h=>by have:=hO j h;omega)];exact o1.2 j hj
 obtain⟨a9,c9,rfl,hc9⟩:=hD2.cells
 have hids:∀i o,a9=some (i,o)→i≠ui∧some i≠pp:=fun i o e=>by
  subst e
  have hge:s.next≤i:=by
   rcases hsl2 i rfl with h | h
   ·exact hsl i h
   ·have:=o1.1;omega
  exact⟨by omega,fun e=>by have:=hpp i e.symm;omega⟩
 have hw:(vl++[0]).length=vl.length+1:=by rw[gI];rfl
 have happ':A7 Tryz.prog (newObj s1 (R 203 1 false [.int .u32 0])) [59,59] [v1,.slice (some (s1.next,0)) 1 (some 1)]=some (.slice a9 (vl++[0]).length c9,s2):=happ
 simp only[FQ,Xd,happ',AW Tryz.underlying59,Qa,Qb,Qc,Qd,Qe,Qf,Qg,Qh,Qi,Qj,Qk,Ql,Qm,Qn,true_and,and_true,Qo,Qp,Qq,Qr,Qs,Qt,Qu,Qv,Qw,Qx,Qy,Qz,Ra,Rb,Rc,Rd,Re,Rf,Rg,Rh,Ri,Rj,Rk,Rm,Rn,Ro,Rp,Rq,Rs,Ya,Yb,Yc,Rt,Ru,Za,Yd,Ye,Rx,Ry,Rz,Wa,Wb,Wc,Wd]
 have hsw:BV (vl++[0]):=hsv.append (fun x hx=>by rw[List.mem_singleton.1 hx];exact A3)
 rw[← hw]
 refine Sy (s1:=s2) (w:=vl++[0]) (by rw[hw];exact hcu) hsu hsw hc9 hids (by rw[hw];omega) (D:=(DS ((cu.drop off).zip (vl++[0])) 0).1) _
  (fun s' d y2 y3 y4 y7 y8 ho hd hg'=>?_) (vl++[0]) s2 0 [] _ _ _ rfl (gF _) (CY.refl _ _ _) (by decide) rfl (by rw[Mr];exact hg.keep (hkeep ui hui))
 subst hd
 simp only[if_true,Qa,Qb,Qc,Qd,Qe,Qf,Qg,Qh,Qi,Qj,Qk,Ql,Qm,Qn,true_and,and_true,Qo,Qp,Qq,Qr,Qs,Qt,Qu,Qv,Qw,Qx,Qy,Qz,Ra,Rb,Rc,Rd,Re,Rf,Rg,Rh,Ri,Rj,Rk,Rm,Rn,Ro,Rp,Rq,Rs,Ya,Yb,Yc,Rt,Ru,Za,Yd,Ye,Rx,Ry,Rz,Wa,Wb,Wc,Wd]
 exact hK s' _ (by have:=ho.next;omega) (fun j hj hne hnp=>(ho.get j hne hnp).trans (hkeep j hj)) hg'
end
section
variable{E:Cg}{s:AE}
theorem DQ{a:Option (Nat×Nat)}{l:List Nat}{b:Nat}(hc:Ai b s a (us l)){n k x:Nat}{cap:Option Nat}(hk:k<n)(hx:l[k]? = some x):
  ∃p,AQ Tryz.prog 59 (.slice a n cap) (iv (k:Int))=some p∧AF Tryz.prog s 203 p=some (BO x):=by
 obtain⟨i,o,rfl,_,hload⟩:=hc k _ (DB hx)
 exact⟨_,Aw Tryz.underlying59 Bj hk,B9 EO (by rw[gB];exact hload)⟩
theorem Pv         {plo vlo : List Nat} {u2 u1 u0 v2 v1 : Nat} {ap av : Option (Nat × Nat)} {cp cv : Option Nat} (hp : Ai      s.next s ap (us (plo ++ [u2, u1, u0]))) (hv : Ai      s.next s av (us (vlo ++ [v2, v1]))) (hlen : plo.length = vlo.length) (hml : vlo.length ≤ 10000000000) {Q : Au   → Prop} (x2 x4 : AV)
    (hq:∀ (g:Nat) (y6 y7 y8:AV),g<4294967296→AD (plo++[u2,u1,u0]) / AD (vlo++[v2,v1])≤g→g≤AD (plo++[u2,u1,u0]) / AD (vlo++[v2,v1])+1 →
      Q ⟨.exit 0,[.slice ap (vlo.length+3) cp,.slice av (vlo.length+2) cv,x2,iv ((vlo.length+2:Nat):Int),x4,AT g,y6,y7,y8],[],s⟩):
    ∀ (g left:Nat) (x7 x8:AV),FV plo vlo u2 u1 u0 v2 v1 g left→left<4294967296→g≤4294967297 →
      WC E none (.loop Gn) Q [.slice ap (vlo.length+3) cp,.slice av (vlo.length+2) cv,x2,iv ((vlo.length+2:Nat):Int),x4,AT g,AT left,x7,x8] [] s:=by
  have hLB:LB=4294967296:=rfl
  intro g
  induction g with
  | zero =>
    intro left x7 x8 hI hl hg
    have hc2:=hI.c2
    have hc1:=hI.c1
    have hb2:=hI.b2
    rw[hLB]at hc2 hc1 hb2
    have s1:=Br Tryz.prog 3 ((vlo.length+2:Nat):Int) 1 ⟨by omega,by omega⟩
    have s1':((vlo.length+2:Nat):Int) - 1=((vlo.length+1:Nat):Int):=by omega
    have s2:=Br Tryz.prog 3 ((vlo.length+2:Nat):Int) 2 ⟨by omega,by omega⟩
    have s2':((vlo.length+2:Nat):Int) - 2=((vlo.length:Nat):Int):=by omega
    obtain⟨p1,i1,l1⟩:=DQ (cap:=cv) (n:=vlo.length+2) hv (show vlo.length<vlo.length+2 by omega) (x:=v2) (by simp)
    obtain⟨p2,i2,l2⟩:=DQ (cap:=cp) (n:=vlo.length+3) hp (k:=vlo.length) (by omega) (x:=u2) (by rw[← hlen];simp)
    have d0:AN Tryz.prog .gtr 205 (AT 0) (.int .u64 4294967295)=some (.bool false):=by kernel_rfl
    have m1:=Om Tryz.prog 205 (a:=0) (b:=v2) (by omega)
    have m2:AN Tryz.prog .shl 205 (AT left) (.int .u64 32)=some (AT (left * 4294967296)):=Lp Tryz.prog 205 (k:=.u64) (n:=32) (by decide) (by show left * 4294967296<_;omega)
    have m3:=bX Tryz.prog 205 (a:=left) (b:=u2) (by omega) hb2
    have m4:=Lo Tryz.prog 205 (a:=0 * v2) (b:=left * 4294967296+u2) .u64
    have m5:decide (left * 4294967296+u2<0 * v2)=false:=decide_eq_false (by omega)
    refine WC.loop' ?_
    simp only[Gn,Hw,d0,s2,s2',i1,l1,BP hc2,m1,m2,i2,l2,BP hb2,m3,m4,m5,Qa,Qb,Qc,Qd,Qe,Qf,Qg,Qh,Qi,Qj,Qk,Ql,Qm,Qn,true_and,and_true,Qo,Qp,Qq,Qr,Qs,Qt,Qu,Qv,Qw,Qx,Qy,Qz,Ra,Rb,Rc,Rd,Re,Rf,Rg,Rh,Ri,Rj,Rk,Rm,Rn,Ro,Rp,Rq,Rs,Ya,Yb,Yc,Rt,Ru,Za,Yd,Ye,Rx,Ry,Rz,Wa,Wb,Wc,Wd]
    exact hq 0 _ _ _ (by decide) hI.low (hI.done (by decide) (by omega))
  | succ g ih =>
    intro left x7 x8 hI hl hg
    have hc2:=hI.c2
    have hc1:=hI.c1
    have hb2:=hI.b2
    have hb1:=hI.b1
    have htop:=hI.top
    have hsum:=hI.sum
    rw[hLB]at hc2 hc1 hb2 hb1 hsum
    have s1:=Br Tryz.prog 3 ((vlo.length+2:Nat):Int) 1 ⟨by omega,by omega⟩
    have s1':((vlo.length+2:Nat):Int) - 1=((vlo.length+1:Nat):Int):=by omega
    have s2:=Br Tryz.prog 3 ((vlo.length+2:Nat):Int) 2 ⟨by omega,by omega⟩
    have s2':((vlo.length+2:Nat):Int) - 2=((vlo.length:Nat):Int):=by omega
    obtain⟨p1,i1,l1⟩:=DQ (cap:=cv) (n:=vlo.length+2) hv (show vlo.length<vlo.length+2 by omega) (x:=v2) (by simp)
    obtain⟨p2,i2,l2⟩:=DQ (cap:=cp) (n:=vlo.length+3) hp (k:=vlo.length) (by omega) (x:=u2) (by rw[← hlen];simp)
    obtain⟨p3,i3,l3⟩:=DQ (cap:=cv) (n:=vlo.length+2) hv (show vlo.length+1<vlo.length+2 by omega) (x:=v1) (by simp)
    have m6:AN Tryz.prog .sub 205 (AT (g+1)) (.int .u64 1)=some (AT g):=by
      have:=Lq Tryz.prog 205 (a:=g+1) (b:=1) (by decide)
      rw[show(g+1+18446744073709551616 - 1) % 18446744073709551616=g by omega]at this
      exact this
    have m7:=F4 Tryz.prog 205 (a:=left) (b:=v1) (by omega)
    have m8:AN Tryz.prog .gtr 205 (AT (left+v1)) (.int .u64 4294967295)=some (.bool (decide (4294967295<left+v1))):=Lo Tryz.prog 205 (b:=4294967295) .u64
    have down:(4294967296≤g+1∨left * 4294967296+u2<(g+1) * v2)→Qa E none (.block 1 (.seq (.ops Jc) (.seq (.ops Jd) (.seq (.ops Je) (.cond (.var 8) (.exit 0) .skip))))) (Ke (WC E none (.loop Gn) Q) Q) [.slice ap (vlo.length+3) cp,.slice av (vlo.length+2) cv,x2,iv ((vlo.length+2:Nat):Int),x4,AT (g+1),AT left,.bool true,x8] [] s:=by
      intro hc
      obtain⟨_,hI'⟩:=hI.dec (by rw[hLB];exact hc)
      rw[iN]at hI'
      generalize hW:WC E none (Ab.loop Gn) Q=WW
      by_cases hbk:4294967295<left+v1
      · have db : decide (4294967295 < left + v1) = true := decide_eq_true hbk
        have hgB:g<4294967296:=by
          rcases fv g 4294967296 with h | h
          · exact h
          · exfalso
            have h1:4294967297 * v1≤(g+1) * v1:=gL v1 (by omega)
            have h2:u0 * 4294967296≤v1 * 4294967296:=gL _ htop
            omega
        have hle:g * v2≤4294967295 * 4294967295:=gz (by omega) (by omega)
        have hdone:=hI'.done (by rw[hLB];exact hgB) (by rw[hLB];omega)
        simp only[Jc,Jd,Je,m6,s1,s1',i3,l3,BP hc1,m7,m8,db,Qa,Qb,Qc,Qd,Qe,Qf,Qg,Qh,Qi,Qj,Qk,Ql,Qm,Qn,true_and,and_true,Qo,Qp,Qq,Qr,Qs,Qt,Qu,Qv,Qw,Qx,Qy,Qz,Ra,Rb,Rc,Rd,Re,Rf,Rg,Rh,Ri,Rj,Rk,Rm,Rn,Ro,Rp,Rq,Rs,Ya,Yb,Yc,Rt,Ru,Za,Yd,Ye,Rx,Ry,Rz,Wa,Wb,Wc,Wd]
        exact hq g _ _ _ hgB hI'.low hdone
      · have db:decide (4294967295<left+v1)=false:=decide_eq_false hbk
        simp only[Jc,Jd,Je,m6,s1,s1',i3,l3,BP hc1,m7,m8,db,Qa,Qb,Qc,Qd,Qe,Qf,Qg,Qh,Qi,Qj,Qk,Ql,Qm,Qn,true_and,and_true,Qo,Qp,Qq,Qr,Qs,Qt,Qu,Qv,Qw,Qx,Qy,Qz,Ra,Rb,Rc,Rd,Re,Rf,Rg,Rh,Ri,Rj,Rk,Rm,Rn,Ro,Rp,Rq,Rs,Ya,Yb,Yc,Rt,Ru,Za,Yd,Ye,Rx,Ry,Rz,Wa,Wb,Wc,Wd]
        rw[← hW]
        exact ih (left+v1) _ _ hI' (by omega) (by omega)
    have d0:AN Tryz.prog .gtr 205 (AT (g+1)) (.int .u64 4294967295)=some (.bool (decide (4294967295<g+1))):=Lo Tryz.prog 205 (b:=4294967295) .u64
    refine WC.loop' ?_
    generalize hW:WC E none (Ab.loop Gn) Q=WW
    rw[hW]at down
    generalize hB:Ab.block 1 (.seq (.ops Jc) (.seq (.ops Jd) (.seq (.ops Je) (.cond (.var 8) (.exit 0) .skip))))=BB at down
    have hl8:Gn=.seq (.seq (.ops Hw) (.cond (.var 7) .skip (.exit 0))) BB:=by rw[← hB];rfl
    by_cases hgB:4294967295<g+1
    · have db:decide (4294967295<g+1)=true:=decide_eq_true hgB
      rw[hl8]
      generalize hBW:Qa E none BB (Ke WW Q)=BW at down
      simp only[Hw,d0,db,hBW,Qa,Qb,Qc,Qd,Qe,Qf,Qg,Qh,Qi,Qj,Qk,Ql,Qm,Qn,true_and,and_true,Qo,Qp,Qq,Qr,Qs,Qt,Qu,Qv,Qw,Qx,Qy,Qz,Ra,Rb,Rc,Rd,Re,Rf,Rg,Rh,Ri,Rj,Rk,Rm,Rn,Ro,Rp,Rq,Rs,Ya,Yb,Yc,Rt,Ru,Za,Yd,Ye,Rx,Ry,Rz,Wa,Wb,Wc,Wd]
      exact down (.inl (by omega))
    · have db : decide (4294967295 < g + 1) = false := decide_eq_false hgB
      have hgv:(g+1) * v2≤4294967295 * 4294967295:=gz (by omega) (by omega)
      have m1:=Om Tryz.prog 205 (a:=g+1) (b:=v2) (by omega)
      have m2:AN Tryz.prog .shl 205 (AT left) (.int .u64 32)=some (AT (left * 4294967296)):=Lp Tryz.prog 205 (k:=.u64) (n:=32) (by decide) (by show left * 4294967296<_;omega)
      have m3:=bX Tryz.prog 205 (a:=left) (b:=u2) (by omega) hb2
      have m4:=Lo Tryz.prog 205 (a:=(g+1) * v2) (b:=left * 4294967296+u2) .u64
      by_cases hc:left * 4294967296+u2<(g+1) * v2
      · have m5:decide (left * 4294967296+u2<(g+1) * v2)=true:=decide_eq_true hc
        rw[hl8]
        generalize hBW:Qa E none BB (Ke WW Q)=BW at down
        simp only[Hw,d0,db,s2,s2',i1,l1,BP hc2,m1,m2,i2,l2,BP hb2,m3,m4,m5,hBW,Qa,Qb,Qc,Qd,Qe,Qf,Qg,Qh,Qi,Qj,Qk,Ql,Qm,Qn,true_and,and_true,Qo,Qp,Qq,Qr,Qs,Qt,Qu,Qv,Qw,Qx,Qy,Qz,Ra,Rb,Rc,Rd,Re,Rf,Rg,Rh,Ri,Rj,Rk,Rm,Rn,Ro,Rp,Rq,Rs,Ya,Yb,Yc,Rt,Ru,Za,Yd,Ye,Rx,Ry,Rz,Wa,Wb,Wc,Wd]
        exact down (.inr hc)
      · have m5:decide (left * 4294967296+u2<(g+1) * v2)=false:=decide_eq_false hc
        rw[hl8]
        generalize hBW:Qa E none BB (Ke WW Q)=BW at down
        simp only[Hw,d0,db,s2,s2',i1,l1,BP hc2,m1,m2,i2,l2,BP hb2,m3,m4,m5,hBW,Qa,Qb,Qc,Qd,Qe,Qf,Qg,Qh,Qi,Qj,Qk,Ql,Qm,Qn,true_and,and_true,Qo,Qp,Qq,Qr,Qs,Qt,Qu,Qv,Qw,Qx,Qy,Qz,Ra,Rb,Rc,Rd,Re,Rf,Rg,Rh,Ri,Rj,Rk,Rm,Rn,Ro,Rp,Rq,Rs,Ya,Yb,Yc,Rt,Ru,Za,Yd,Ye,Rx,Ry,Rz,Wa,Wb,Wc,Wd]
        exact hq (g+1) _ _ _ (by omega) hI.low (hI.done (by rw[hLB];omega) (by rw[hLB];omega))
theorem Xu(hE:An E){plo vlo:List Nat}{u2 u1 u0 v2 v1:Nat}{vp vv:AV}(hp:CW s vp (plo++[u2,u1,u0]))(hv:CW s vv (vlo++[v2,v1]))(hI:FV plo vlo u2 u1 u0 v2 v1 ((u0 * LB+u1) / v1) ((u0 * LB+u1) % v1))(hml:vlo.length≤10000000000)(hu0:u0<4294967296){K:AV→AE→Prop}
  (hK:∀g,g<4294967296→AD (plo++[u2,u1,u0]) / AD (vlo++[v2,v1])≤g→g≤AD (plo++[u2,u1,u0]) / AD (vlo++[v2,v1])+1→K (AT g) s):WF E 212 [vp,vv] K s:=by
 have hLB:LB=4294967296:=rfl
 have hlen:=hI.len
 obtain⟨ap,cp,rfl,_,hcp⟩:=hp
 obtain⟨av,cv,rfl,_,hcv⟩:=hv
 have hc1:=hI.c1
 have hb1:=hI.b1
 have hbig:=hI.big
 have htop:=hI.top
 rw[hLB]at hc1 hb1 hbig
 have hlp:(plo++[u2,u1,u0]).length=vlo.length+3:=by simp[hlen]
 have hlv:(vlo++[v2,v1]).length=vlo.length+2:=by simp
 rw[hlp,hlv]
 have s1:=Br Tryz.prog 3 ((vlo.length+2:Nat):Int) 1 ⟨by omega,by omega⟩
 have s1':((vlo.length+2:Nat):Int) - 1=((vlo.length+1:Nat):Int):=by omega
 obtain⟨p1,i1,l1⟩:=DQ (cap:=cp) (n:=vlo.length+3) hcp (k:=vlo.length+2) (by omega) (x:=u0) (by rw[← hlen];simp)
 obtain⟨p2,i2,l2⟩:=DQ (cap:=cp) (n:=vlo.length+3) hcp (k:=vlo.length+1) (by omega) (x:=u1) (by rw[← hlen];simp)
 obtain⟨p3,i3,l3⟩:=DQ (cap:=cv) (n:=vlo.length+2) hcv (show vlo.length+1<vlo.length+2 by omega) (x:=v1) (by simp)
 have m2:AN Tryz.prog .shl 205 (AT u0) (.int .u64 32)=some (AT (u0 * 4294967296)):=Lp Tryz.prog 205 (k:=.u64) (n:=32) (by decide) (by show u0 * 4294967296<_;omega)
 have m3:=bX Tryz.prog 205 (a:=u0) (b:=u1) (by omega) hb1
 have m4:=ZC Tryz.prog 205 (a:=u0 * 4294967296+u1) (b:=v1) (by omega) (by omega)
 have m5:=ZD Tryz.prog 205 (a:=u0 * 4294967296+u1) (b:=v1) (by omega)
 rw[hLB]at hI
 have hsum:=hI.sum
 rw[hLB]at hsum
 have hl:(u0 * 4294967296+u1) % v1<v1:=gO _ (by omega)
 have hgle:(u0 * 4294967296+u1) / v1≤4294967297:=by
  rw[← Nat.lt_succ_iff,ge (by omega)]
  have:u0 * 4294967296≤v1 * 4294967296:=gL _ htop
  show _<4294967298 * v1
  omega
 refine hE.go Zw (by decide) rfl ?_
 simp only[eM,U7,U8,U9,VA,AW Tryz.underlying59,s1,s1',i1,l1,i2,l2,i3,l3,BP hu0,BP hb1,BP hc1,m2,m3,m4,m5,Qa,Qb,Qc,Qd,Qe,Qf,Qg,Qh,Qi,Qj,Qk,Ql,Qm,Qn,true_and,and_true,Qo,Qp,Qq,Qr,Qs,Qt,Qu,Qv,Qw,Qx,Qy,Qz,Ra,Rb,Rc,Rd,Re,Rf,Rg,Rh,Ri,Rj,Rk,Rm,Rn,Ro,Rp,Rq,Rs,Ya,Yb,Yc,Rt,Ru,Za,Yd,Ye,Rx,Ry,Rz,Wa,Wb,Wc,Wd]
 refine Pv hcp hcv hlen hml _ _ (fun g y6 y7 y8 g1 g2 g3=>?_) _ _ _ _ hI (by omega) hgle
 simp only[VB,if_true,Qa,Qb,Qc,Qd,Qe,Qf,Qg,Qh,Qi,Qj,Qk,Ql,Qm,Qn,true_and,and_true,Qo,Qp,Qq,Qr,Qs,Qt,Qu,Qv,Qw,Qx,Qy,Qz,Ra,Rb,Rc,Rd,Re,Rf,Rg,Rh,Ri,Rj,Rk,Rm,Rn,Ro,Rp,Rq,Rs,Ya,Yb,Yc,Rt,Ru,Za,Yd,Ye,Rx,Ry,Rz,Wa,Wb,Wc,Wd]
 exact hK g g1 g2 g3
end
theorem CW.keep{s s':AE}{v:AV}{l:List Nat}(h:CW s v l)(hn:s.next≤s'.next)(hf:∀j,C8 v=some j→j<s.next→s'.heap.get j=s.heap.get j):CW s' v l:=by
  obtain⟨a,cap,rfl,h2,h3⟩:=h
  refine⟨a,cap,rfl,?_,fun k u hu=>?_⟩
  · rcases h2 with h2 | ⟨g1, i, o, r, rfl, g3, g4, g5⟩
    · exact .inl h2
    · exact .inr ⟨g1,i,o,r,rfl,by omega,by rw[hf i rfl g3];exact g4,g5⟩
  · obtain⟨i,o,rfl,g2,g3⟩:=h3 k u hu
    exact⟨i,o,rfl,by omega,by rw[DV (hf i rfl g2)];exact g3⟩
theorem aQ{s:AE}{i lo hi n:Nat}{cs:List AV}{p:Option Nat}(h:B3 s i cs p)(hi':i<s.next)(h1:lo≤hi)(h2:hi≤cs.length):
  Bg Tryz.prog 59 true true false s [.slice (some (i,0)) n none,iv (lo:Int),iv (hi:Int)]=some (.slice (some (i,lo)) (hi - lo) none):=by
 obtain⟨r,g1,g2,_,g4,_⟩:=h
 have hrow:rowAt s i=some r:=by unfold rowAt;rw[g1]
 have hrn:r.n=cs.length:=g2.1
 show Bf Tryz.prog s 59 (.slice (some (i,0)) n none) (some (iv (lo:Int))) (some (iv (hi:Int))) none=_
 have hb1:BT (iv (hi:Int)) ((r.n - 0) / 1)=some hi:=by simp[BT,GX,AH,Cy (show hi≤r.n by omega),Er]
 have hb2:BT (iv (lo:Int)) hi=some lo:=by simp[BT,GX,AH,Cy h1,Er]
 have hsz:Nat.beq 1 r.sz=true:=Gl g4.symm
 simp only[Bf,Tryz.underlying59,Bj,hrow,hsz,AH,hb1,hb2,Cy (gF r.n),show Nat.beq 1 0=false from rfl,Option.bind_some,Bool.true_and,Bool.and_true,Bool.not_false,cond_true]
 simp
theorem OI{s:AE}{i lo m:Nat}{cu:List Nat}{p:Option Nat}(h:B3 s i (us cu) p)(hi':i<s.next)(h2:lo+m≤cu.length):CW s (.slice (some (i,lo)) m none) ((cu.drop lo).take m):=by
 have hc:=H0 h hi'
 obtain⟨r,g1,g2,_,g4,_⟩:=h
 have hrn:r.n=cu.length:=by rw[g2.1,CM]
 have hl:((cu.drop lo).take m).length=m:=by rw[gS,gr];omega
 refine⟨some (i,lo),none,by rw[hl],.inr ⟨rfl,i,lo,r,rfl,hi',g1,g4,by rw[hl];omega⟩,fun k u hu=>?_⟩
 have hk:k<m:=by
  rcases fv k m with h' | h'
  ·exact h'
  ·rw[gH (by rw[CM,hl];exact h')]at hu;cases hu
 have hu':(us cu)[lo+k]? = some u:=by
  rw[Sm,iP hk]at hu
  unfold us at hu ⊢
  rw[List.map_drop,iV]at hu
  exact hu
 obtain⟨i',o',e,q2,q3⟩:=hc (lo+k) u hu'
 injection e with e
 injection e with e1 e2
 subst e1;subst e2
 rw[gA]at q3
 exact⟨i,lo,rfl,q2,q3⟩
section
variable{E:Cg}{s:AE}
structure fe(s0:AE)(ui qi:Nat)(pp:Option Nat)(U0 V:List Nat)(S:AE)(cu qs:List Nat)(k:Nat):Prop where
 next:s0.next≤S.next
 keep:∀j,j<s0.next→j≠ui→some j≠pp→j≠qi→S.heap.get j=s0.heap.get j
 u:B3 S ui (us cu) pp
 q:B3 S qi (us qs) none
 inv:Ov U0 V cu qs k
 qlen:qs.length+V.length=U0.length
set_option maxHeartbeats 1000000 in
theorem XX       (hE : An    E) {s0 : AE}  {ui qi : Nat} {pp : Option Nat} (hui : ui < s0.next) (hqi : qi < s0.next) (hne : ui ≠ qi) (hpp : ∀ q, pp = some q → q < s0.next ∧ q ≠ qi) {U0 vlo : List Nat} {v2 v1 : Nat} (hsV : BV  (vlo ++ [v2, v1])) (hv1 : 2147483648 ≤ v1) (hul : U0.length ≤ 10000000000)
    {vv:AV} (hvv:CW s0 vv (vlo++[v2,v1])) (hvs:∀j,C8 vv=some j→j≠ui∧some j≠pp∧j≠qi) {Q:Au→Prop} (a0 a1 a3 a4 a5 a6 a7 a13 a14 a15 a16:AV)
    (hq:∀ (S:AE) (cu qs:List Nat) (y10 y11 y12 y17 y18:AV),fe s0 ui qi pp U0 (vlo++[v2,v1]) S cu qs 0 →
      Q ⟨.exit 3,[a0,a1,.slice (some (qi,0)) (U0.length - (vlo.length+2)) (some (U0.length - (vlo.length+2))),a3,a4,a5,a6,a7,.slice (some (ui,0)) U0.length none,vv,y10,y11,y12,a13,a14,a15,a16,y17,y18],[],S⟩):
    ∀ (k:Nat) (S:AE) (cu qs:List Nat) (x11 x12 x17 x18:AV),fe s0 ui qi pp U0 (vlo++[v2,v1]) S cu qs k→k+(vlo.length+2)≤U0.length →
      WC E none (.loop F8) Q [a0,a1,.slice (some (qi,0)) (U0.length - (vlo.length+2)) (some (U0.length - (vlo.length+2))),a3,a4,a5,a6,a7,.slice (some (ui,0)) U0.length none,vv,iv ((k:Int) - 1),x11,x12,a13,a14,a15,a16,x17,x18] [] S:=by
  have hLB:LB=4294967296:=rfl
  have hVl:(vlo++[v2,v1]).length=vlo.length+2:=by simp
  have hv1b:v1<LB:=hsV v1 (by simp)
  have hv2b:v2<LB:=hsV v2 (by simp)
  have hVpos:0<AD (vlo++[v2,v1]):=by
    rw[HV]
    have h2:0<v1 * LB+v2:=by have:=Nat.mul_pos (show 0<v1 by omega) A3;omega
    have:=Nat.mul_pos (gp A3 (n:=vlo.length)) h2
    omega
  intro k
  induction k with
  | zero =>
    intro S cu qs x11 x12 x17 x18 hS hk
    have d0:decide ((0:Int)≤((0:Nat):Int) - 1)=false:=rfl
    refine WC.loop' ?_
    simp only[F8,ME,Wa,d0,Qa,Qb,Qc,Qd,Qe,Qf,Qg,Qh,Qi,Qj,Qk,Ql,Qm,Qn,true_and,and_true,Qo,Qp,Qq,Qr,Qs,Qt,Qu,Qv,Qw,Qx,Qy,Qz,Ra,Rb,Rc,Rd,Re,Rf,Rg,Rh,Ri,Rj,Rk,Rm,Rn,Ro,Rp,Rq,Rs,Ya,Yb,Yc,Rt,Ru,Za,Yd,Ye,Rx,Ry,Rz,Wa,Wb,Wc,Wd]
    exact hq S cu qs _ _ _ _ _ hS
  | succ k ih =>
    intro S cu qs x11 x12 x17 x18 hS hk
    have hcl:cu.length=U0.length:=hS.inv.len
    have hql:qs.length=U0.length - (vlo.length+2):=by have:=hS.qlen;rw[hVl]at this;omega
    have hkq:k<qs.length:=by omega
    obtain⟨p1,p2,p3⟩:=hS.inv.part hsV hVpos (by rw[hVl];omega)
    have hw1:((vlo++[v2,v1])++[0]).length=(vlo++[v2,v1]).length+1:=by rw[gI];rfl
    have hpl:((cu.drop k).take ((vlo++[v2,v1]).length+1)).length=vlo.length+3:=by rw[gS,gr,hVl];omega
    have hps:BV ((cu.drop k).take ((vlo++[v2,v1]).length+1)):=(hS.inv.sm.drop k).take _
    have hplt:AD ((cu.drop k).take ((vlo++[v2,v1]).length+1))<AD (vlo++[v2,v1]) * LB:=by rw[p1];exact p2
    have hpart:=OI hS.u (fy hui hS.next) (lo:=k) (m:=(vlo++[v2,v1]).length+1) (by rw[hVl];omega)
    have hzip:=F7 (cu.drop k) ((vlo++[v2,v1])++[0])
    rw[hw1]at hzip
    have hdig:=fun g h1 h2 h3=>XW (p:=(cu.drop k).take ((vlo++[v2,v1]).length+1)) (v:=vlo++[v2,v1]) (by rw[hpl,hVl]) hps hsV hVpos (g:=g) h1 h2 h3
    rw[hzip]at hdig
    have hstep:∀D:List Nat,D.length=(vlo++[v2,v1]).length+1→BV D→AD D=AD ((cu.drop k).take ((vlo++[v2,v1]).length+1)) % AD (vlo++[v2,v1])→∀x:Nat,x=AD ((cu.drop k).take ((vlo++[v2,v1]).length+1)) / AD (vlo++[v2,v1]) →
        Ov U0 (vlo++[v2,v1]) (E0 cu k D) (qs.set k x) k:=fun D hD hDs hDv x hx=>by
      have:=hS.inv.step hsV hVpos (by rw[hVl];omega) hkq hD hDs hDv hx
      unfold E0
      rw[hD,← gX]
      exact this
    have hxB:AD ((cu.drop k).take ((vlo++[v2,v1]).length+1)) / AD (vlo++[v2,v1])<4294967296:=by
      rw[← hLB,ge hVpos,gD]
      exact hplt
    have hDl:=fun g=>IQ g ((cu.drop k).zip ((vlo++[v2,v1])++[0])) 0 0
    have hDs:=fun g=>F3 g ((cu.drop k).zip ((vlo++[v2,v1])++[0])) 0 0
    have hzl:((cu.drop k).zip ((vlo++[v2,v1])++[0])).length=(vlo++[v2,v1]).length+1:=by rw[iE,hw1,gr,hVl];omega
    obtain⟨plo,u2,u1,u0,hpe,hplo⟩:∃plo u2 u1 u0,(cu.drop k).take ((vlo++[v2,v1]).length+1)=plo++[u2,u1,u0]∧plo.length=vlo.length:=by
      obtain⟨l1,t1,e1,f1⟩:=EU (n:=vlo.length+2) (by rw[hpl])
      obtain⟨l2,t2,e2,f2⟩:=EU (n:=vlo.length+1) f1
      obtain⟨l3,t3,e3,f3⟩:=EU (n:=vlo.length) f2
      exact⟨l3,t3,t2,t1,by rw[e1,e2,e3];simp,f3⟩
    have hu0:u0<LB:=by rw[hpe]at hps;exact hps u0 (by simp)
    have hG:FV plo vlo u2 u1 u0 v2 v1 ((u0 * LB+u1) / v1) ((u0 * LB+u1) % v1):=by
      rw[hpe]at hps hplt
      exact FV.start (u0:=u0) hplo (fun x hx=>hps x (iF _ hx)) (fun x hx=>hsV x (iF _ hx)) (hps u2 (by simp)) (hps u1 (by simp)) hv2b hv1b (by rw[hLB];omega) hplt
    have hvS:CW S vv (vlo++[v2,v1]):=hvv.keep hS.next fun j hj hjl=>by
      obtain⟨g1,g2,g3⟩:=hvs j hj
      exact hS.keep j hjl g1 g2 g3
    have hguess:=fun K hK=>Xu (s:=S) (K:=K) (vp:=.slice (some (ui,k)) ((vlo++[v2,v1]).length+1) none) hE (by rw[← hpe];exact hpart) hvS hG (by omega) (by rw[← hLB];exact hu0) hK
    rw[← hpe]at hguess
    obtain⟨av,cv,rfl,_,_⟩:=id hvv
    have e0:((k+1:Nat):Int) - 1=(k:Int):=by omega
    have d0:decide ((0:Int)≤(k:Int))=true:=decide_eq_true (by omega)
    have i1:=By Tryz.prog 3 (k:Int) (((vlo++[v2,v1]).length:Nat):Int) ⟨by omega,by omega⟩
    have i2:=By Tryz.prog 3 ((k:Int)+(((vlo++[v2,v1]).length:Nat):Int)) 1 ⟨by omega,by omega⟩
    have i2':(k:Int)+(((vlo++[v2,v1]).length:Nat):Int)+1=((k+((vlo++[v2,v1]).length+1):Nat):Int):=by omega
    have i3:=aQ (n:=U0.length) hS.u (fy hui hS.next) (lo:=k) (hi:=k+((vlo++[v2,v1]).length+1)) (by omega) (by rw[CM];omega)
    have i3':k+((vlo++[v2,v1]).length+1) - k=(vlo++[v2,v1]).length+1:=by omega
    rw[i3']at i3
    have e10:=Br Tryz.prog 3 (k:Int) 1 ⟨by omega,by omega⟩
    have e11:=Aw (cap:=some (U0.length - (vlo.length+2))) (i:=qi) (o:=0) Tryz.underlying59 Bj (show k<U0.length - (vlo.length+2) by omega)
    rw[gB,gA]at e11
    have hpS:∀q,pp=some q→q<S.next:=fun q hq=>fy (hpp q hq).1 hS.next
    have last:∀ (S2:AE) (D:List Nat) (x:Nat) (y18:AV),S.next≤S2.next→(∀j,j<S.next→j≠ui→some j≠pp→S2.heap.get j=S.heap.get j)→B3 S2 ui (us (E0 cu k D)) pp→D.length=(vlo++[v2,v1]).length+1→BV D →
        AD D=AD ((cu.drop k).take ((vlo++[v2,v1]).length+1)) % AD (vlo++[v2,v1])→x=AD ((cu.drop k).take ((vlo++[v2,v1]).length+1)) / AD (vlo++[v2,v1]) →
        Qb E MF (fun v s'=>Qb E MG (fun v s'=>WC E none (.loop F8) Q v [] s') [] v s') [] [a0,a1,.slice (some (qi,0)) (U0.length - (vlo.length+2)) (some (U0.length - (vlo.length+2))),a3,a4,a5,a6,a7,.slice (some (ui,0)) U0.length none,.slice av (vlo++[v2,v1]).length cv,iv (k:Int),.slice (some (ui,k)) ((vlo++[v2,v1]).length+1) none,AT x,a13,a14,a15,a16,.bool true,y18] S2:=by
      intro S2 D x y18 n2 f2 o2 hDl hDs hDv hx
      have hxb:x<4294967296:=by rw[hx];exact hxB
      have hq2:B3 S2 qi (us qs) none:=hS.q.keep (f2 qi (fy hqi hS.next) (Ne.symm hne) (fun e=>(hpp qi e.symm).2 rfl))
      obtain⟨S3,st,w1,w2,w3⟩:=DL (P:=Tryz.prog) (t:=203) (v:=BO x) (o:=k) Bj hq2 (by rw[CM];exact hkq) rfl
      rw[IS]at w1
      have ex:x % 4294967296=x:=gT hxb
      simp only[MF,MG,Bd,ex,e11,st,e10,Xx,Xz,Qa,Qb,Qc,Qd,Qe,Qf,Qg,Qh,Qi,Qj,Qk,Ql,Qm,Qn,true_and,and_true,Qo,Qp,Qq,Qr,Qs,Qt,Qu,Qv,Qw,Qx,Qy,Qz,Ra,Rb,Rc,Rd,Re,Rf,Rg,Rh,Ri,Rj,Rk,Rm,Rn,Ro,Rp,Rq,Rs,Ya,Yb,Yc,Rt,Ru,Za,Yd,Ye,Rx,Ry,Rz,Wa,Wb,Wc,Wd]
      refine ih S3 (E0 cu k D) (qs.set k x) _ _ _ _ ⟨by have:=hS.next;omega,fun j hj j1 j2 j3=>?_,?_,w1,hstep D hDl hDs hDv x hx,by rw[iA];exact hS.qlen⟩ (by omega)
      · rw[w3 j j3 (fun e=>by cases e),f2 j (fy hj hS.next) j1 j2]
        exact hS.keep j hj j1 j2 j3
      · exact o2.keep (w3 ui hne (fun e=>by cases e))
    refine WC.loop' ?_
    generalize hW:WC E none (Ab.loop F8) Q=WW
    rw[hW]at last
    rw[e0]
    simp only[F8,ME,RH,RI,Wa,d0,AW Tryz.underlying59,i1,i2,i2',i3,Qa,Qb,Qc,Qd,Qe,Qf,Qg,Qh,Qi,Qj,Qk,Ql,Qm,Qn,true_and,and_true,Qo,Qp,Qq,Qr,Qs,Qt,Qu,Qv,Qw,Qx,Qy,Qz,Ra,Rb,Rc,Rd,Re,Rf,Rg,Rh,Ri,Rj,Rk,Rm,Rn,Ro,Rp,Rq,Rs,Ya,Yb,Yc,Rt,Ru,Za,Yd,Ye,Rx,Ry,Rz,Wa,Wb,Wc,Wd]
    refine hguess _ fun g g1 g2 g3=>?_
    obtain⟨dg1,dg2⟩:=hdig g g2 g3 (by rw[hLB];exact g1)
    have hDl:=hDl g
    have hDs:=hDs g
    rw[hzl]at hDl
    simp only[RJ,Qa,Qb,Qc,Qd,Qe,Qf,Qg,Qh,Qi,Qj,Qk,Ql,Qm,Qn,true_and,and_true,Qo,Qp,Qq,Qr,Qs,Qt,Qu,Qv,Qw,Qx,Qy,Qz,Ra,Rb,Rc,Rd,Re,Rf,Rg,Rh,Ri,Rj,Rk,Rm,Rn,Ro,Rp,Rq,Rs,Ya,Yb,Yc,Rt,Ru,Za,Yd,Ye,Rx,Ry,Rz,Wa,Wb,Wc,Wd]
    refine bS hE g1 (fy hui hS.next) hpS hS.u (off:=k) (vl:=vlo++[v2,v1]) (by rw[hVl];omega) hS.inv.sm hsV hvS (by rw[hVl];omega) fun S2 n2 f2 o2=>?_
    generalize Bo g ((cu.drop k).zip ((vlo++[v2,v1])++[0])) 0 0=T at *
    obtain⟨D,c,br⟩:=T
    simp only at *
    by_cases hbr:br=0
    · obtain⟨r1,r2⟩:=dg1 hbr
      have db:decide (0<br)=false:=decide_eq_false (by omega)
      simp only[db,Qa,Qb,Qc,Qd,Qe,Qf,Qg,Qh,Qi,Qj,Qk,Ql,Qm,Qn,true_and,and_true,Qo,Qp,Qq,Qr,Qs,Qt,Qu,Qv,Qw,Qx,Qy,Qz,Ra,Rb,Rc,Rd,Re,Rf,Rg,Rh,Ri,Rj,Rk,Rm,Rn,Ro,Rp,Rq,Rs,Ya,Yb,Yc,Rt,Ru,Za,Yd,Ye,Rx,Ry,Rz,Wa,Wb,Wc,Wd]
      exact last S2 D g (.bool false) n2 f2 o2 hDl hDs r2 r1
    · obtain⟨r1,r2⟩:=dg2 hbr
      have db:decide (0<br)=true:=decide_eq_true (by omega)
      have hg1:1≤g:=fx (Nat.succ_le_succ (gF _)) (gV r1.symm)
      have hvS2:CW S2 (.slice av (vlo++[v2,v1]).length cv) (vlo++[v2,v1]):=hvS.keep n2 fun j hj hjl=>by
        obtain⟨q1,q2,q3⟩:=hvs j hj
        exact f2 j hjl q1 q2
      have hml:(E0 cu k D).length=cu.length:=GF (by rw[hDl,hVl];omega)
      have hms:BV (E0 cu k D):=((hS.inv.sm.take k).append hDs).append (hS.inv.sm.drop _)
      have hmd:((E0 cu k D).drop k).zip ((vlo++[v2,v1])++[0])=D.zip ((vlo++[v2,v1])++[0]):=by
        unfold E0
        rw[gP,List.drop_left' (by rw[gS];omega)]
        exact ZM (by rw[hDl,hw1]) _
      have m6:AN Tryz.prog .sub 205 (AT g) (.int .u64 1)=some (AT (g - 1)):=by
        have:=Lq Tryz.prog 205 (a:=g) (b:=1) (by decide)
        rw[show(g+18446744073709551616 - 1) % 18446744073709551616=g - 1 by omega]at this
        exact this
      simp only[db,RK,Qa,Qb,Qc,Qd,Qe,Qf,Qg,Qh,Qi,Qj,Qk,Ql,Qm,Qn,true_and,and_true,Qo,Qp,Qq,Qr,Qs,Qt,Qu,Qv,Qw,Qx,Qy,Qz,Ra,Rb,Rc,Rd,Re,Rf,Rg,Rh,Ri,Rj,Rk,Rm,Rn,Ro,Rp,Rq,Rs,Ya,Yb,Yc,Rt,Ru,Za,Yd,Ye,Rx,Ry,Rz,Wa,Wb,Wc,Wd]
      refine ZT hE (fy hui (fx hS.next n2)) (fun q hq=>fy (hpS q hq) n2) o2 (off:=k) (vl:=vlo++[v2,v1]) (by rw[hVl];omega) hms hsV hvS2 (by rw[hVl];omega) fun S3 y n3 f3 o3=>?_
      rw[hmd]at o3
      have hOl:=G7 (D.zip ((vlo++[v2,v1])++[0])) 0
      have hOs:=E6 (D.zip ((vlo++[v2,v1])++[0])) 0
      rw[iE,hw1,hDl,Nat.min_self]at hOl
      generalize (DS (D.zip ((vlo++[v2,v1])++[0])) 0).1=O at *
      have hmm:E0 (E0 cu k D) k O=E0 cu k O:=by
        unfold E0
        have htk:(cu.take k).length=k:=by rw[gS];omega
        have e1:(cu.take k++D++cu.drop (k+D.length)).take k=cu.take k:=by rw[gP,List.take_left' htk]
        have e2:(cu.take k++D++cu.drop (k+D.length)).drop (k+O.length)=cu.drop (k+O.length):=by
          rw[hOl,← hDl]
          rw[List.drop_left' (by rw[gI,htk])]
        rw[e1,e2]
      rw[hmm]at o3
      simp only[RL,m6,Qa,Qb,Qc,Qd,Qe,Qf,Qg,Qh,Qi,Qj,Qk,Ql,Qm,Qn,true_and,and_true,Qo,Qp,Qq,Qr,Qs,Qt,Qu,Qv,Qw,Qx,Qy,Qz,Ra,Rb,Rc,Rd,Re,Rf,Rg,Rh,Ri,Rj,Rk,Rm,Rn,Ro,Rp,Rq,Rs,Ya,Yb,Yc,Rt,Ru,Za,Yd,Ye,Rx,Ry,Rz,Wa,Wb,Wc,Wd]
      exact last S3 O (g - 1) (.bool true) (fx n2 n3) (fun j hj j1 j2=>(f3 j (fy hj n2) j1 j2).trans (f2 j hj j1 j2)) o3 hOl hOs r2 (by rw[r1,iN])
end
section
variable(P:Program)(t:TypeId){a:Nat}
theorem bV{k:IntKind}{n:Nat}(hn:n≤32):AN P .shl t (BO a) (.int k (n:Int))=some (BO (a * 2 ^ n % 4294967296)):=by
 show(C7 P (Op.shift .shl .u32 (a:Int) k (n:Int))).bind ofValue=_
 unfold Op.shift
 rw[if_neg (by omega)]
 show some (AV.int .u32 (IntKind.wrap .u32 ((a:Int) * 2 ^ min (n:Int).toNat 32)))=_
 rw[show min (n:Int).toNat 32=n by omega,LM]
 congr 2
theorem bW{k:IntKind}{n:Nat}(hn:n≤32):AN P .shr t (BO a) (.int k (n:Int))=some (BO (a / 2 ^ n)):=by
 show(C7 P (Op.shift .shr .u32 (a:Int) k (n:Int))).bind ofValue=_
 unfold Op.shift
 rw[if_neg (by omega)]
 show some (AV.int .u32 ((a:Int).fdiv (2 ^ min (n:Int).toNat 32)))=_
 rw[show min (n:Int).toNat 32=n by omega]
 congr 2
 rw[show((2:Int) ^ n)=((2 ^ n:Nat):Int) by push_cast;rfl]
 exact(Int.ofNat_fdiv a (2 ^ n)).symm
end
theorem Q7{s:AE}{loc var:List AV}(f:AE→List AV→Option AV)(xs:List CX)(a:CX):E8 s loc var ⟨none,.r f,xs,a⟩=OS (f s (Qh loc var xs)) (CO loc var a):=by
 have:∀l:List CX,Cs loc var l=Qh loc var l:=by
  intro l
  induction l with
  | nil=>rfl
  | cons x l ih=>show CO loc var x::Cs loc var l=CO loc var x::Qh loc var l;rw[ih]
 show(!BK loc var none || OS (Dl (.r f) (Cs loc var xs) s) (CO loc var a))=_
 rw[this]
 rfl
theorem Kb(u v:AV):OS (some u) v=EV u v:=rfl
theorem Xc(n:Int):EV (iv n) (iv n)=true:=by simp[EV,EW,Bn]
section
variable{E:Cg}{s:AE}
theorem TT{b:Option (Nat×Nat)}{cb:Option Nat}{lo:List Nat}{bt:Nat}(hc:Ai s.next s b (us (lo++[bt])))(hbt:0<bt)(hb:bt<4294967296)(hl:lo.length≤10000000000){Q:Au→Prop}(a0 a2 a3 a4 a5 a6 a8 a9 a10 a11 a12 a13 a14 a15 a17 a18:AV)
  (hq:∀ (n:Nat) (y16:AV),n≤31→2147483648≤bt * 2 ^ n→bt * 2 ^ n<4294967296→Q ⟨.exit 1,[a0,.slice b (lo.length+1) cb,a2,a3,a4,a5,a6,AT n,a8,a9,a10,a11,a12,a13,a14,a15,y16,a17,a18],[],s⟩):
  ∀ (m n:Nat) (x16:AV),n+m=32→bt * 2 ^ n<4294967296→WC E none (.loop G9) Q [a0,.slice b (lo.length+1) cb,a2,a3,a4,a5,a6,AT n,a8,a9,a10,a11,a12,a13,a14,a15,x16,a17,a18] [] s:=by
 intro m
 induction m with
 | zero =>
  intro n x16 hn hlt
  exfalso
  have:n=32:=by omega
  subst this
  have e:(2:Nat) ^ 32=4294967296:=by decide
  rw[e]at hlt
  have:=gL 4294967296 hbt
  omega
 | succ m ih =>
  intro n x16 hn hlt
  have s1:=Br Tryz.prog 3 ((lo.length+1:Nat):Int) 1 ⟨by omega,by omega⟩
  have s1':((lo.length+1:Nat):Int) - 1=(lo.length:Int):=by omega
  obtain⟨p1,i1,l1⟩:=DQ (cap:=cb) (n:=lo.length+1) hc (k:=lo.length) (by omega) (x:=bt) (by simp)
  have m1:=bV Tryz.prog 203 (a:=bt) (k:=.u64) (n:=n) (by omega)
  rw[gT hlt]at m1
  have m2:AN Tryz.prog .shr 203 (BO (bt * 2 ^ n)) (.int .u64 31)=some (BO (bt * 2 ^ n / 2147483648)):=bW Tryz.prog 203 (k:=.u64) (n:=31) (by decide)
  have m3:AN Tryz.prog .eql 203 (BO (bt * 2 ^ n / 2147483648)) (.int .u32 0)=some (.bool (decide (bt * 2 ^ n / 2147483648=0))):=cM Tryz.prog 203 (b:=0) .u32
  have m4:AN Tryz.prog .add 161 (AT n) (.int .u64 1)=some (AT (n+1)):=F4 Tryz.prog 161 (b:=1) (by omega)
  refine WC.loop' ?_
  generalize hW:WC E none (Ab.loop G9) Q=WW
  by_cases h:2147483648≤bt * 2 ^ n
  ·have db:decide (bt * 2 ^ n / 2147483648=0)=false:=decide_eq_false (by omega)
   simp only[G9,MD,AW Tryz.underlying59,s1,s1',i1,l1,m1,m2,m3,db,Qa,Qb,Qc,Qd,Qe,Qf,Qg,Qh,Qi,Qj,Qk,Ql,Qm,Qn,true_and,and_true,Qo,Qp,Qq,Qr,Qs,Qt,Qu,Qv,Qw,Qx,Qy,Qz,Ra,Rb,Rc,Rd,Re,Rf,Rg,Rh,Ri,Rj,Rk,Rm,Rn,Ro,Rp,Rq,Rs,Ya,Yb,Yc,Rt,Ru,Za,Yd,Ye,Rx,Ry,Rz,Wa,Wb,Wc,Wd]
   exact hq n _ (by omega) h hlt
  ·have db:decide (bt * 2 ^ n / 2147483648=0)=true:=decide_eq_true (by omega)
   simp only[G9,MD,RD,AW Tryz.underlying59,s1,s1',i1,l1,m1,m2,m3,db,m4,Qa,Qb,Qc,Qd,Qe,Qf,Qg,Qh,Qi,Qj,Qk,Ql,Qm,Qn,true_and,and_true,Qo,Qp,Qq,Qr,Qs,Qt,Qu,Qv,Qw,Qx,Qy,Qz,Ra,Rb,Rc,Rd,Re,Rf,Rg,Rh,Ri,Rj,Rk,Rm,Rn,Ro,Rp,Rq,Rs,Ya,Yb,Yc,Rt,Ru,Za,Yd,Ye,Rx,Ry,Rz,Wa,Wb,Wc,Wd]
   rw[← hW]
   exact ih (n+1) _ (by omega) (by rw[gg,← gK];omega)
theorem SH      (hE : An    E) {va vb : AV} {la lb : List Nat} (ha : CW  s va la) (hb : CW  s vb lb) (hla : la.length ≤ 1000000000) (hlb : lb.length ≤ 1000000000) (hsa : BV  la) (hsb : BV  lb) {K : AV → AE  → Prop}
    (hK0:AD lb=0→∀s',A8 s.next s s'→K (.tuple [.slice none 0 (some 0),.slice none 0 (some 0),iv 3]) s')
    (hK1:AD lb≠0→∀s' vq vr,A8 s.next s s'→NR s.next s' vq (AI (AD la / AD lb))→NR s.next s' vr (AI (AD la % AD lb))→(AD la<AD lb→vq=.slice none 0 (some 0))→K (.tuple [vq,vr,iv 0]) s'):WF E 166 [va,vb] K s:=by
  have hLB:LB=4294967296:=rfl
  refine hE.go Zn (by decide) rfl ?_
  simp only[eC,UN,UO,Qa,Qb,Qc,Qd,Qe,Qf,Qg,Qh,Qi,Qj,Qk,Ql,Qm,Qn,true_and,and_true,Qo,Qp,Qq,Qr,Qs,Qt,Qu,Qv,Qw,Qx,Qy,Qz,Ra,Rb,Rc,Rd,Re,Rf,Rg,Rh,Ri,Rj,Rk,Rm,Rn,Ro,Rp,Rq,Rs,Ya,Yb,Yc,Rt,Ru,Za,Yd,Ye,Rx,Ry,Rz,Wa,Wb,Wc,Wd]
  refine Bz hE ha (by omega) fun s1 v1 o1 r1=>?_
  simp only[Qa,Qb,Qc,Qd,Qe,Qf,Qg,Qh,Qi,Qj,Qk,Ql,Qm,Qn,true_and,and_true,Qo,Qp,Qq,Qr,Qs,Qt,Qu,Qv,Qw,Qx,Qy,Qz,Ra,Rb,Rc,Rd,Re,Rf,Rg,Rh,Ri,Rj,Rk,Rm,Rn,Ro,Rp,Rq,Rs,Ya,Yb,Yc,Rt,Ru,Za,Yd,Ye,Rx,Ry,Rz,Wa,Wb,Wc,Wd]
  refine Bz hE (hb.old o1) (by omega) fun s2 v2 o2 r2=>?_
  have t1:=DM la
  have t2:=DM lb
  have R1:NR s.next s2 v1 (AI (AD la)):=by have:=r1.old o2;rw[BJ hsa]at this;exact this
  have R2:NR s.next s2 v2 (AI (AD lb)):=by have:=r2.mono o1.1;rw[BJ hsb]at this;exact this
  rw[BJ hsa]at t1
  rw[BJ hsb]at t2
  have oS:A8 s.next s s2:=o1.trans (o2.mono o1.1)
  have n1:=R1.n32
  have n2:=R2.n32
  clear r1 r2 o1 o2 ha hb hsa hsb
  generalize AD la=A at *
  generalize AD lb=B at *
  have hsA:=AR A
  have hsB:=AR B
  have hvA:=AY A
  have hvB:=AY B
  obtain⟨b,cb,rfl,hcapb,hcb⟩:=id n2
  by_cases hB0:B=0
  · subst hB0
    have hl0:(AI 0).length=0:=by rw[A6];rfl
    have d0:decide (((AI 0).length:Int)=0)=true:=decide_eq_true (by omega)
    simp only[PB,UP,AW Tryz.underlying59,Wb,d0,Qa,Qb,Qc,Qd,Qe,Qf,Qg,Qh,Qi,Qj,Qk,Ql,Qm,Qn,true_and,and_true,Qo,Qp,Qq,Qr,Qs,Qt,Qu,Qv,Qw,Qx,Qy,Qz,Ra,Rb,Rc,Rd,Re,Rf,Rg,Rh,Ri,Rj,Rk,Rm,Rn,Ro,Rp,Rq,Rs,Ya,Yb,Yc,Rt,Ru,Za,Yd,Ye,Rx,Ry,Rz,Wa,Wb,Wc,Wd]
    exact hK0 rfl s2 oS
  · have hBl : (AI    B).length ≠ 0 := fun e => Cb       hB0 (hY                            e)
    have d0:decide (((AI B).length:Int)=0)=false:=decide_eq_false (by omega)
    simp only[PB,UQ,AW Tryz.underlying59,Wb,d0,Qa,Qb,Qc,Qd,Qe,Qf,Qg,Qh,Qi,Qj,Qk,Ql,Qm,Qn,true_and,and_true,Qo,Qp,Qq,Qr,Qs,Qt,Qu,Qv,Qw,Qx,Qy,Qz,Ra,Rb,Rc,Rd,Re,Rf,Rg,Rh,Ri,Rj,Rk,Rm,Rn,Ro,Rp,Rq,Rs,Ya,Yb,Yc,Rt,Ru,Za,Yd,Ye,Rx,Ry,Rz,Wa,Wb,Wc,Wd]
    refine XM hE n1 n2 (by omega) (by omega) hsA hsB fun s3 o3=>?_
    rw[hvA,hvB]
    have oS3:A8 s.next s s3:=oS.trans (o3.mono oS.1)
    have R1':=R1.old o3
    have n1':=n1.old o3
    have n2':=n2.old o3
    by_cases hlt:A<B
    · have ec : GR   A B = -1 := by unfold GR;   rw [if_pos hlt]
      have d1:decide ((-1:Int)<0)=true:=by decide
      simp only[ec,Rx,d1,UR,Qa,Qb,Qc,Qd,Qe,Qf,Qg,Qh,Qi,Qj,Qk,Ql,Qm,Qn,true_and,and_true,Qo,Qp,Qq,Qr,Qs,Qt,Qu,Qv,Qw,Qx,Qy,Qz,Ra,Rb,Rc,Rd,Re,Rf,Rg,Rh,Ri,Rj,Rk,Rm,Rn,Ro,Rp,Rq,Rs,Ya,Yb,Yc,Rt,Ru,Za,Yd,Ye,Rx,Ry,Rz,Wa,Wb,Wc,Wd]
      refine hK1 hB0 s3 _ _ oS3 ?_ ?_ (fun _=>rfl)
      · rw[gw hlt,A6];exact NR.nil _ _
      · rw[gT hlt];exact R1'
    · have d1:decide (GR A B<0)=false:=by
        unfold GR
        rw[if_neg hlt]
        split<;>decide
      by_cases h1:(AI B).length=1
      · have d2:decide (((AI B).length:Int)=1)=true:=decide_eq_true (by omega)
        obtain⟨y,hy⟩:∃y,AI B=[y]:=by
          match hlb:AI B,h1 with
          | [y],_=>exact⟨y,rfl⟩
        have hyB:y=B:=by
          have:=hvB
          rw[hy]at this
          show y=B
          have e:AD [y]=y:=by show y+LB * 0=y;omega
          rw[e]at this;exact this
        subst hyB
        have hy32:y<4294967296:=by have:=hsB y (by rw[hy];simp);exact this
        obtain⟨p1,i1,l1⟩:=DQ (cap:=cb) (n:=(AI y).length) (hcb.old o3 (fu _)) (k:=0) (by omega) (x:=y) (by rw[hy];rfl)
        have i1':AQ Tryz.prog 59 (.slice b (AI y).length cb) (.int .i64 0)=some p1:=i1
        simp only[Rx,d1,PC,US,AW Tryz.underlying59,Wb,d2,i1',l1,BP hy32,Qa,Qb,Qc,Qd,Qe,Qf,Qg,Qh,Qi,Qj,Qk,Ql,Qm,Qn,true_and,and_true,Qo,Qp,Qq,Qr,Qs,Qt,Qu,Qv,Qw,Qx,Qy,Qz,Ra,Rb,Rc,Rd,Re,Rf,Rg,Rh,Ri,Rj,Rk,Rm,Rn,Ro,Rp,Rq,Rs,Ya,Yb,Yc,Rt,Ru,Za,Yd,Ye,Rx,Ry,Rz,Wa,Wb,Wc,Wd]
        refine Ki hE n1' (by omega) hsA (x:=y) (by omega) (by omega) fun s4 vq o4 r4=>?_
        obtain⟨w1,w2,w3⟩:=Cl (show 0<y by omega) (AI A)
        rw[hvA]at w1
        have hsq:=Dx (show 0<y by omega) hsA
        generalize A1 y (AI A)=T at *
        have hq:AD T.1=A / y:=by
          rw[w1,Nat.mul_add_div (by omega),gw w2,gJ]
        have hr:T.2=A % y:=by
          rw[w1,Nat.mul_add_mod,gT w2]
        rw[BJ hsq,hq]at r4
        rw[hr]
        simp only[UT,Za,Qa,Qb,Qc,Qd,Qe,Qf,Qg,Qh,Qi,Qj,Qk,Ql,Qm,Qn,true_and,and_true,Qo,Qp,Qq,Qr,Qs,Qt,Qu,Qv,Qw,Qx,Qy,Qz,Ra,Rb,Rc,Rd,Re,Rf,Rg,Rh,Ri,Rj,Rk,Rm,Rn,Ro,Rp,Rq,Rs,Ya,Yb,Yc,Rt,Ru,Za,Yd,Ye,Rx,Ry,Rz,Wa,Wb,Wc,Wd]
        refine SR hE (n:=A % y) (by have:=gO A (show 0<y by omega);omega) fun s5 vr o5 r5=>?_
        simp only[Qa,Qb,Qc,Qd,Qe,Qf,Qg,Qh,Qi,Qj,Qk,Ql,Qm,Qn,true_and,and_true,Qo,Qp,Qq,Qr,Qs,Qt,Qu,Qv,Qw,Qx,Qy,Qz,Ra,Rb,Rc,Rd,Re,Rf,Rg,Rh,Ri,Rj,Rk,Rm,Rn,Ro,Rp,Rq,Rs,Ya,Yb,Yc,Rt,Ru,Za,Yd,Ye,Rx,Ry,Rz,Wa,Wb,Wc,Wd]
        exact hK1 hB0 s5 vq vr (oS3.trans ((o4.mono oS3.1).trans (o5.mono (fx oS3.1 o4.1)))) ((r4.old o5).mono oS3.1) (r5.mono (fx oS3.1 o4.1)) (fun h=>absurd h hlt)
      · have d2:decide (((AI B).length:Int)=1)=false:=decide_eq_false (by omega)
        obtain⟨lo,bt,hlo,hlol⟩:=EU (n:=(AI B).length - 1) (l:=AI B) (by omega)
        obtain⟨m,hm⟩:∃m,lo.length=m+1:=⟨lo.length - 1,by omega⟩
        have hbt32:bt<4294967296:=hsB bt (by rw[hlo];simp)
        have hbt0:0<bt:=by
          rcases gq bt with h | h
          · exfalso
            have e1:=J3 B hB0
            have e2:=CF (fun x hx=>hsB x (by rw[hlo];exact iF _ hx):BV lo)
            rw[hlo,Cp,h,gn,gJ]at hvB
            rw[hlol]at e2
            omega
          · exact h
        simp only[Rx,d1,PC,UU,AW Tryz.underlying59,Wb,d2,Qa,Qb,Qc,Qd,Qe,Qf,Qg,Qh,Qi,Qj,Qk,Ql,Qm,Qn,true_and,and_true,Qo,Qp,Qq,Qr,Qs,Qt,Qu,Qv,Qw,Qx,Qy,Qz,Ra,Rb,Rc,Rd,Re,Rf,Rg,Rh,Ri,Rj,Rk,Rm,Rn,Ro,Rp,Rq,Rs,Ya,Yb,Yc,Rt,Ru,Za,Yd,Ye,Rx,Ry,Rz,Wa,Wb,Wc,Wd]
        have hcb3:Ai s3.next s3 b (us (lo++[bt])):=by rw[← hlo];exact(hcb.old o3 (fu _)).mono o3.1
        have hbl:(AI B).length=lo.length+1:=by rw[hlo];simp
        rw[hbl]
        refine TT hcb3 hbt0 hbt32 (by omega) _ _ _ _ _ _ _ _ _ _ _ _ _ _ _ _ (fun n y16 hn31 hn1 hn2=>?_) 32 0 _ rfl (by simpa using hbt32)
        have hnv:=dN (lo:=lo) (bt:=bt) (by rw[← hlo];exact hsB) hn31 hn1 hn2
        obtain⟨hV,vlo0,v1',hVe,hvlo0,hv1'⟩:=hnv
        rw[← hlo,hvB]at hV
        rw[← hlo]at hVe
        obtain⟨vlo,v2',hvloe,hvlol⟩:=EU (n:=m) (by rw[hvlo0,hm])
        have hVe2:(Iy (AI B) (2 ^ n) 0).take (lo.length+1)=vlo++[v2',v1']:=by rw[hVe,hvloe];simp
        have h2n:2 ^ n<LB:=by
          rw[hLB]
          have e32:(2:Nat) ^ 32=4294967296:=by decide
          rw[← e32]
          exact Nat.pow_lt_pow_right (by decide) (by omega)
        have hsU:=Ei h2n hsA A3
        have hsW:=Ei h2n hsB A3
        have hUl:=G8 (2 ^ n) (AI A) 0
        have hWl:=G8 (2 ^ n) (AI B) 0
        have hUv:=I4 (AI A) (2 ^ n) 0
        rw[hvA,gJ]at hUv
        have hAB:lo.length+1≤(AI A).length:=by
          rcases fv (AI A).length (lo.length+1)with h | h
          · rw[← hbl]at h
            exact absurd (C1 h) hlt
          · exact h
        have hnu:=dM (vlo:=vlo0) hsA hn31 hv1' (by omega)
        rw[← hVe,hvlo0]at hnu
        have hsV:BV (vlo++[v2',v1']):=by rw[← hVe2];exact hsW.take _
        rw[hVe2]at hV hnu
        simp only[if_true,RE,AW Tryz.underlying59,Qa,Qb,Qc,Qd,Qe,Qf,Qg,Qh,Qi,Qj,Qk,Ql,Qm,Qn,true_and,and_true,Qo,Qp,Qq,Qr,Qs,Qt,Qu,Qv,Qw,Qx,Qy,Qz,Ra,Rb,Rc,Rd,Re,Rf,Rg,Rh,Ri,Rj,Rk,Rm,Rn,Ro,Rp,Rq,Rs,Ya,Yb,Yc,Rt,Ru,Za,Yd,Ye,Rx,Ry,Rz,Wa,Wb,Wc,Wd]
        have n2'':CW s3 (.slice b (lo.length+1) cb) (AI B):=by rw[← hbl];exact n2'
        refine cN hE n1' (by omega) hsA (n:=n) (by omega) fun s4 vu o4 r4=>?_
        simp only[Q7,AW Tryz.underlying59,Kb,Xc,Qa,Qb,Qc,Qd,Qe,Qf,Qg,Qh,Qi,Qj,Qk,Ql,Qm,Qn,true_and,and_true,Qo,Qp,Qq,Qr,Qs,Qt,Qu,Qv,Qw,Qx,Qy,Qz,Ra,Rb,Rc,Rd,Re,Rf,Rg,Rh,Ri,Rj,Rk,Rm,Rn,Ro,Rp,Rq,Rs,Ya,Yb,Yc,Rt,Ru,Za,Yd,Ye,Rx,Ry,Rz,Wa,Wb,Wc,Wd]
        refine cN hE (n2''.old o4) (by omega) hsB (n:=n) (by omega) fun s5 vw o5 r5=>?_
        have nw:=r5.n32'
        obtain⟨ui,pu,rfl,hu1,hu2,hu3,hu4⟩:=r4.own (by intro e;rw[e]at hUl;simp at hUl)
        obtain⟨wi,pw,rfl,hw1,hw2,hw3,hw4⟩:=r5.own (by intro e;rw[e]at hWl;simp at hWl)
        obtain⟨aw,cw,ew,hcapw,hcw⟩:=nw
        injection ew with ew1 ew2 ew3
        subst ew1;subst ew3
        have e1:=XS Tryz.underlying59 Bj hcapw (k:=lo.length+1) (by rw[hWl];omega)
        have nV:=CW.take hcapw hcw (k:=lo.length+1) (by rw[hWl];omega)
        rw[hVe2]at nV
        have e2:=Br Tryz.prog 3 (((Iy (AI A) (2 ^ n) 0).length:Nat):Int) ((lo.length+1:Nat):Int) ⟨by omega,by omega⟩
        have e2':(((Iy (AI A) (2 ^ n) 0).length:Nat):Int) - ((lo.length+1:Nat):Int)=(((Iy (AI A) (2 ^ n) 0).length - (lo.length+1):Nat):Int):=by omega
        have e3:=Mo ((Iy (AI A) (2 ^ n) 0).length - (lo.length+1)) (by omega)
        have e4:=Br Tryz.prog 3 (((Iy (AI A) (2 ^ n) 0).length - (lo.length+1):Nat):Int) 1 ⟨by omega,by omega⟩
        simp only[Q7,AW Tryz.underlying59,Kb,Xc,e1,RF,RG,e2,e2',Xx,e3,Xd,e4,Qa,Qb,Qc,Qd,Qe,Qf,Qg,Qh,Qi,Qj,Qk,Ql,Qm,Qn,true_and,and_true,Qo,Qp,Qq,Qr,Qs,Qt,Qu,Qv,Qw,Qx,Qy,Qz,Ra,Rb,Rc,Rd,Re,Rf,Rg,Rh,Ri,Rj,Rk,Rm,Rn,Ro,Rp,Rq,Rs,Ya,Yb,Yc,Rt,Ru,Za,Yd,Ye,Rx,Ry,Rz,Wa,Wb,Wc,Wd]
        generalize hU0:Iy (AI A) (2 ^ n) 0=U0 at *
        have hml:m=vlo.length:=hvlol.symm
        have hll:lo.length+1=vlo.length+2:=by omega
        rw[hll]at nV
        rw[hll]at *
        have hn5:s5.next<(newObj s5 (R 203 1 false (us (List.replicate (U0.length - (vlo.length+2)) 0)))).next:=gY _
        have o6:=A8.new s5 (R 203 1 false (us (List.replicate (U0.length - (vlo.length+2)) 0)))
        have hVl:(vlo++[v2',v1']).length=vlo.length+2:=by simp
        generalize hs6:newObj s5 (R 203 1 false (us (List.replicate (U0.length - (vlo.length+2)) 0)))=s6 at *
        have hq6:s6.heap.get s5.next=some (R 203 1 false (us (List.replicate (U0.length - (vlo.length+2)) 0))):=by rw[← hs6,AO,if_pos rfl]
        have o46:A8 s4.next s4 s6:=o5.trans (o6.mono o5.1)
        have hu6:B3 s6 ui (us U0) pu:=hu3.keep (o46.2 ui hu2)
        refine XX hE (s0:=s6) (U0:=U0) (ui:=ui) (qi:=s5.next) (pp:=pu) (fy hu2 o46.1) hn5 (by have:=o5.1;omega) (fun q hq=>⟨by have:=(hu4 q hq).2.1;have:=o46.1;omega,by have:=(hu4 q hq).2.1;have:=o5.1;omega⟩) hsV hv1' (by omega)
          (nV.old o6) (fun j hj=>?_) _ _ _ _ _ _ _ _ _ _ _ (fun S cu qs y10 y11 y12 y17 y18 hS=>?_) (U0.length - (vlo.length+2)) s6 U0 (List.replicate (U0.length - (vlo.length+2)) 0) _ _ _ _ ⟨fu _,fun j _ _ _ _=>rfl,hu6,B3.of_R hq6,?_,?_⟩ (by omega)
        · injection hj with hj
          subst hj
          exact⟨by omega,fun e=>by have:=(hu4 wi e.symm).2.1;omega,by omega⟩
        ·
          have hVpos:0<AD (vlo++[v2',v1']):=by
            rw[hV]
            exact Nat.mul_pos (by omega) (gp (by decide))
          have hrem:=hS.inv.rem
          have hquo:=hS.inv.quo
          rw[iI,iI,hUv,hV]at hrem hquo
          rw[Nat.mul_div_mul_right _ _ (gp (by decide))]at hquo
          rw[Nat.mul_mod_mul_right]at hrem
          have hcl:=hS.inv.len
          have hql:qs.length=U0.length - (vlo.length+2):=by have:=hS.qlen;rw[hVl]at this;omega
          have huiS:ui<S.next:=by have:=hS.next;have:=o46.1;omega
          have nu:=OI hS.u huiS (lo:=0) (m:=cu.length) (by omega)
          rw[iI,List.take_length,hcl]at nu
          have p31:2 ^ n≤2147483648:=by
            have e31:(2:Nat) ^ 31=2147483648:=by decide
            rw[← e31]
            exact g0 (by decide) hn31
          have p0:0<2 ^ n:=gp (by decide)
          have es:AN Tryz.prog .shl 205 (.int .u64 1) (AT n)=some (AT (2 ^ n)):=by
            have:=Lp Tryz.prog 205 (a:=1) (k:=.u64) (n:=n) (by omega) (by rw[Nat.one_mul];omega)
            rw[Nat.one_mul]at this
            exact this
          simp only[if_true,RM,es,Qa,Qb,Qc,Qd,Qe,Qf,Qg,Qh,Qi,Qj,Qk,Ql,Qm,Qn,true_and,and_true,Qo,Qp,Qq,Qr,Qs,Qt,Qu,Qv,Qw,Qx,Qy,Qz,Ra,Rb,Rc,Rd,Re,Rf,Rg,Rh,Ri,Rj,Rk,Rm,Rn,Ro,Rp,Rq,Rs,Ya,Yb,Yc,Rt,Ru,Za,Yd,Ye,Rx,Ry,Rz,Wa,Wb,Wc,Wd]
          refine Ki hE nu (by omega) hS.inv.sm p0 (by omega) fun s8 vr o8 r8=>?_
          obtain⟨w1,w2,w3⟩:=Cl p0 cu
          have hss:=Dx p0 hS.inv.sm
          rw[hrem]at w1
          generalize A1 (2 ^ n) cu=T at *
          have hr:AD T.1=A % B:=by
            have e1:2 ^ n * AD T.1+T.2=2 ^ n * (A % B):=by rw[← w1,gD]
            have e2:(2 ^ n * AD T.1+T.2) / 2 ^ n=2 ^ n * (A % B) / 2 ^ n:=by rw[e1]
            rw[Nat.mul_add_div p0,gw w2,gJ,Nat.mul_div_cancel_left _ p0]at e2
            exact e2
          rw[BJ hss,hr]at r8
          have hqiS:s5.next<S.next:=by have:=hS.next;omega
          have hq8:=hS.q.keep (o8.2 s5.next hqiS)
          have nq:CW s8 (.slice (some (s5.next,0)) (U0.length - (vlo.length+2)) (some (U0.length - (vlo.length+2)))) qs:=
            ⟨some (s5.next,0),some (U0.length - (vlo.length+2)),by rw[hql],.inl ⟨_,rfl,by omega,fun e=>by cases e⟩,H0 hq8 (fy hqiS o8.1)⟩
          simp only[RN,Za,Qa,Qb,Qc,Qd,Qe,Qf,Qg,Qh,Qi,Qj,Qk,Ql,Qm,Qn,true_and,and_true,Qo,Qp,Qq,Qr,Qs,Qt,Qu,Qv,Qw,Qx,Qy,Qz,Ra,Rb,Rc,Rd,Re,Rf,Rg,Rh,Ri,Rj,Rk,Rm,Rn,Ro,Rp,Rq,Rs,Ya,Yb,Yc,Rt,Ru,Za,Yd,Ye,Rx,Ry,Rz,Wa,Wb,Wc,Wd]
          refine Bz hE nq (by omega) fun s9 vq o9 r9=>?_
          rw[BJ hS.inv.qsm,hquo]at r9
          have hbase:s.next≤S.next:=by have:=oS3.1;have:=o4.1;have:=o46.1;have:=hS.next;omega
          have oSS:A8 s.next s S:=⟨hbase,fun j hj=>by
            have h3:j<s3.next:=fy hj oS3.1
            have h4:j<s4.next:=fy h3 o4.1
            rw[hS.keep j (fy h4 o46.1) (by omega) (fun e=>by have:=(hu4 j e.symm).1;omega) (by have:=o5.1;omega),o46.2 j h4,o4.2 j h3]
            exact oS3.2 j hj⟩
          simp only[Qa,Qb,Qc,Qd,Qe,Qf,Qg,Qh,Qi,Qj,Qk,Ql,Qm,Qn,true_and,and_true,Qo,Qp,Qq,Qr,Qs,Qt,Qu,Qv,Qw,Qx,Qy,Qz,Ra,Rb,Rc,Rd,Re,Rf,Rg,Rh,Ri,Rj,Rk,Rm,Rn,Ro,Rp,Rq,Rs,Ya,Yb,Yc,Rt,Ru,Za,Yd,Ye,Rx,Ry,Rz,Wa,Wb,Wc,Wd]
          exact hK1 hB0 s9 vq vr (oSS.trans ((o8.mono hbase).trans (o9.mono (fx hbase o8.1)))) (r9.mono (fx hbase o8.1)) ((r8.old o9).mono hbase) (fun h=>absurd h hlt)
        · have hd:AD (U0.drop (U0.length - (vlo.length+2)))<AD (vlo++[v2',v1']):=by
            have:U0.length - (vlo.length+2)=(AI A).length - lo.length:=by omega
            rw[this];exact hnu
          refine⟨rfl,rfl,hsU,(gT hd).symm,fun x hx=>?_,?_⟩
          · rw[List.eq_of_mem_replicate hx];exact A3
          · rw [gw               hd, gt                     (by simp)]
            rfl
        · rw[List.length_replicate,hVl];omega
theorem XY(hE:An E){va vb:AV}{la lb:List Nat}(ha:CW s va la)(hb:CW s vb lb)(hla:la.length≤1000000000)(hlb:lb.length≤1000000000)(hsa:BV la)(hsb:BV lb){K:AV→AE→Prop}
  (hK0:AD lb=0→∀s',A8 s.next s s'→K (.tuple [.slice none 0 (some 0),.slice none 0 (some 0),iv 3]) s')
  (hK1:AD lb≠0→∀s' vq vr,A8 s.next s s'→NR s.next s' vq (AI (AD la / AD lb))→NR s.next s' vr (AI (AD la % AD lb))→K (.tuple [vq,vr,iv 0]) s'):WF E 166 [va,vb] K s:=
 SH hE ha hb hla hlb hsa hsb hK0 fun h s' vq vr o r1 r2 _=>hK1 h s' vq vr o r1 r2
end
theorem FJ{a b:Nat}(h:a≤b):(AI a).length≤(AI b).length:=by
 rcases fv (AI b).length (AI a).length with h' | h'
 ·have:=C1 h';omega
 ·exact h'
section
variable{E:Cg}{s:AE}
theorem Xr(hE:An E){b:Nat}{Q:Au→Prop}(x2:AV):
    ∀ (n A B : Nat) (S : AE)  (va vb x3 x4 : AV), B < n → A8  b s S → b ≤ S.next → NR b S va (AI    A) → NR b S vb (AI    B) → (AI    A).length ≤ 1000000000 → (AI    B).length ≤ 1000000000 →
      (∀ (S:AE) (va vb y3 y4:AV),A8 b s S→NR b S va (AI (Nat.gcd A B))→Q ⟨.exit 0,[va,vb,x2,y3,y4],[],S⟩) →
      WC E none (.loop JZ) Q [va,vb,x2,x3,x4] [] S:=by
  intro n
  induction n with
  | zero=>intro A B S va vb x3 x4 hB;omega
  | succ n ih =>
    intro A B S va vb x3 x4 hB ho hbS ha hb hla hlb hq
    have nb:=hb.n32
    have hlen:Bk Tryz.prog S 59 vb=some (iv ((AI B).length:Int)):=by
      obtain⟨a,cap,rfl,_,_⟩:=nb
      exact AW Tryz.underlying59
    refine WC.loop' ?_
    generalize hW:WC E none (Ab.loop JZ) Q=WW
    by_cases h0:B=0
    · subst h0
      have dd:decide ((0:Int)<((AI 0).length:Int))=false:=by rw[A6];rfl
      simp only[JZ,PA,hlen,Ry,dd,Qa,Qb,Qc,Qd,Qe,Qf,Qg,Qh,Qi,Qj,Qk,Ql,Qm,Qn,true_and,and_true,Qo,Qp,Qq,Qr,Qs,Qt,Qu,Qv,Qw,Qx,Qy,Qz,Ra,Rb,Rc,Rd,Re,Rf,Rg,Rh,Ri,Rj,Rk,Rm,Rn,Ro,Rp,Rq,Rs,Ya,Yb,Yc,Rt,Ru,Za,Yd,Ye,Rx,Ry,Rz,Wa,Wb,Wc,Wd]
      refine hq S va vb _ _ ho ?_
      rw[Nat.gcd_zero_right]
      exact ha
    · have hpos : 0 < (AI    B).length := List.length_pos_iff.2 (Cb       h0)
      have dd:decide ((0:Int)<((AI B).length:Int))=true:=decide_eq_true (by omega)
      simp only[JZ,PA,UK,hlen,Ry,dd,Qa,Qb,Qc,Qd,Qe,Qf,Qg,Qh,Qi,Qj,Qk,Ql,Qm,Qn,true_and,and_true,Qo,Qp,Qq,Qr,Qs,Qt,Qu,Qv,Qw,Qx,Qy,Qz,Ra,Rb,Rc,Rd,Re,Rf,Rg,Rh,Ri,Rj,Rk,Rm,Rn,Ro,Rp,Rq,Rs,Ya,Yb,Yc,Rt,Ru,Za,Yd,Ye,Rx,Ry,Rz,Wa,Wb,Wc,Wd]
      refine XY hE ha.n32 nb hla hlb (AR A) (AR B) (fun e=>absurd (by rw[AY]at e;exact e) h0) fun _ s' vq vr o' rq rr=>?_
      rw[AY,AY]at rr
      have hlt:A % B<B:=gO _ (by omega)
      simp only[UL,Za,Qa,Qb,Qc,Qd,Qe,Qf,Qg,Qh,Qi,Qj,Qk,Ql,Qm,Qn,true_and,and_true,Qo,Qp,Qq,Qr,Qs,Qt,Qu,Qv,Qw,Qx,Qy,Qz,Ra,Rb,Rc,Rd,Re,Rf,Rg,Rh,Ri,Rj,Rk,Rm,Rn,Ro,Rp,Rq,Rs,Ya,Yb,Yc,Rt,Ru,Za,Yd,Ye,Rx,Ry,Rz,Wa,Wb,Wc,Wd]
      rw[← hW]
      have e:Nat.gcd A B=Nat.gcd B (A % B):=by rw[Nat.gcd_comm,Nat.gcd_rec,Nat.gcd_comm]
      rw[e]at hq
      refine ih B (A % B) s' vb vr _ _ (by omega) (ho.trans (o'.mono hbS)) (fx hbS o'.1) (hb.old o') (rr.mono hbS) hlb (fx (FJ (Nat.le_of_lt hlt)) hlb) hq
theorem dF(hE:An E){va vb:AV}{la lb:List Nat}(ha:CW s va la)(hb:CW s vb lb)(hla:la.length≤1000000000)(hlb:lb.length≤1000000000)(hsa:BV la)(hsb:BV lb){K:AV→AE→Prop}
  (hK:∀s' v,A8 s.next s s'→NR s.next s' v (AI (Nat.gcd (AD la) (AD lb)))→K v s'):WF E 165 [va,vb] K s:=by
 refine hE.go Zm (by decide) rfl ?_
 simp only[d8,UI,UJ,Qa,Qb,Qc,Qd,Qe,Qf,Qg,Qh,Qi,Qj,Qk,Ql,Qm,Qn,true_and,and_true,Qo,Qp,Qq,Qr,Qs,Qt,Qu,Qv,Qw,Qx,Qy,Qz,Ra,Rb,Rc,Rd,Re,Rf,Rg,Rh,Ri,Rj,Rk,Rm,Rn,Ro,Rp,Rq,Rs,Ya,Yb,Yc,Rt,Ru,Za,Yd,Ye,Rx,Ry,Rz,Wa,Wb,Wc,Wd]
 refine Bz hE ha (by omega) fun s1 v1 o1 r1=>?_
 simp only[Qa,Qb,Qc,Qd,Qe,Qf,Qg,Qh,Qi,Qj,Qk,Ql,Qm,Qn,true_and,and_true,Qo,Qp,Qq,Qr,Qs,Qt,Qu,Qv,Qw,Qx,Qy,Qz,Ra,Rb,Rc,Rd,Re,Rf,Rg,Rh,Ri,Rj,Rk,Rm,Rn,Ro,Rp,Rq,Rs,Ya,Yb,Yc,Rt,Ru,Za,Yd,Ye,Rx,Ry,Rz,Wa,Wb,Wc,Wd]
 refine Bz hE (hb.old o1) (by omega) fun s2 v2 o2 r2=>?_
 have t1:=DM la
 have t2:=DM lb
 have R1:NR s.next s2 v1 (AI (AD la)):=by have:=r1.old o2;rw[BJ hsa]at this;exact this
 have R2:NR s.next s2 v2 (AI (AD lb)):=by have:=r2.mono o1.1;rw[BJ hsb]at this;exact this
 rw[BJ hsa]at t1
 rw[BJ hsb]at t2
 have o12:=o1.trans (o2.mono o1.1)
 simp only[Qa,Qb,Qc,Qd,Qe,Qf,Qg,Qh,Qi,Qj,Qk,Ql,Qm,Qn,true_and,and_true,Qo,Qp,Qq,Qr,Qs,Qt,Qu,Qv,Qw,Qx,Qy,Qz,Ra,Rb,Rc,Rd,Re,Rf,Rg,Rh,Ri,Rj,Rk,Rm,Rn,Ro,Rp,Rq,Rs,Ya,Yb,Yc,Rt,Ru,Za,Yd,Ye,Rx,Ry,Rz,Wa,Wb,Wc,Wd]
 refine Xr (s:=s) hE _ (AD lb+1) _ _ s2 v1 v2 _ _ (gY _) o12 o12.1 R1 R2 (by omega) (by omega) fun S va vb y3 y4 hS hr=>?_
 simp only[UM,if_true,Qa,Qb,Qc,Qd,Qe,Qf,Qg,Qh,Qi,Qj,Qk,Ql,Qm,Qn,true_and,and_true,Qo,Qp,Qq,Qr,Qs,Qt,Qu,Qv,Qw,Qx,Qy,Qz,Ra,Rb,Rc,Rd,Re,Rf,Rg,Rh,Ri,Rj,Rk,Rm,Rn,Ro,Rp,Rq,Rs,Ya,Yb,Yc,Rt,Ru,Za,Yd,Ye,Rx,Ry,Rz,Wa,Wb,Wc,Wd]
 exact hK S va hS hr
end
theorem Lu:∀ (l w:List Nat),l.zip (w.take l.length)=l.zip w
 | [],w=>by simp
 | x::l,[]=>by simp
 | x::l,y::w=>by rw[gh,List.take_succ_cons,iG,iG,Lu l w]
structure Sv(la lb cu:List Nat)(i:Nat):Prop where
 len:cu.length=la.length+lb.length
 sm:BV cu
 val:AD cu=AD (la.take i) * AD lb
 zero:cu.drop (i+lb.length)=List.replicate (la.length - i) 0
theorem Sv.step{la lb cu:List Nat}{i x:Nat}(h:Sv la lb cu i)(hx:la[i]? = some x)(hxs:x<LB)(hb:BV lb):
  Sv la lb (E0 cu i ((Ep x (lb.zip (cu.drop i)) 0).1++[(Ep x (lb.zip (cu.drop i)) 0).2])) (i+1):=by
 obtain⟨h1,h2,h3,h4⟩:=h
 have hi:i<la.length:=(List.getElem?_eq_some_iff.1 hx).1
 have hz:lb.zip (cu.drop i)=lb.zip ((cu.drop i).take lb.length):=(Lu _ _).symm
 rw[hz]
 have hwl:((cu.drop i).take lb.length).length=lb.length:=by rw[gS,gr];omega
 have hv:=N3 x (lb.zip ((cu.drop i).take lb.length)) 0
 have hl:=KE x (lb.zip ((cu.drop i).take lb.length)) 0
 have hzl:(lb.zip ((cu.drop i).take lb.length)).length=lb.length:=by rw[iE,hwl,Nat.min_self]
 obtain⟨c1,c2⟩:=Gs (x:=x) (P:=lb.zip ((cu.drop i).take lb.length)) (c:=0) hxs (fun p hp=>by
  have:=List.of_mem_zip (a:=p.1) (b:=p.2) hp
  exact⟨hb _ this.1,(h2.drop i).take lb.length _ this.2⟩) A3
 rw[NH hwl.symm,NI hwl.symm,hzl]at hv
 rw[hzl]at hl
 generalize Ep x (lb.zip ((cu.drop i).take lb.length)) 0=T at *
 obtain⟨T1,T2⟩:=T
 simp only at *
 have hdl:(T1++[T2]).length=lb.length+1:=by rw[gI,hl];rfl
 have hd0:cu.drop (i+(lb.length+1))=List.replicate (la.length - (i+1)) 0:=by
  rw[← gX,← g8,h4,List.drop_replicate]
  congr 1
 have hcu:AD cu=AD (cu.take i)+LB ^ i * AD ((cu.drop i).take lb.length):=by
  have e1:cu=cu.take i++((cu.drop i).take lb.length++cu.drop (i+lb.length)):=by
   rw[← g8,iO,iO]
  have e2:=congrArg AD e1
  rw[BA,h4,BA,GP,gn,gJ,gS,hX (by omega)]at e2
  exact e2
 have hta:AD (la.take (i+1))=AD (la.take i)+LB ^ i * x:=by
  rw[List.take_add_one,hx,BA,gS,hX (by omega)]
  simp[AD]
 refine⟨?_,?_,?_,?_⟩
 ·rw[GF (by rw[hdl];omega)];exact h1
 ·unfold E0
  refine((h2.take i).append (c2.append fun y hy=>?_)).append (h2.drop _)
  rw[List.mem_singleton.1 hy];exact c1
 ·unfold E0
  rw[hdl,hd0,BA,GP,gn,gJ,BA,BA,hl,hta,gS,hX (by omega)]
  have e3:AD [T2]=T2:=by simp[AD]
  rw[e3,hv,gQ,← h3,hcu,gJ,gM,gK]
  omega
 ·unfold E0
  rw[show i+1+lb.length=(cu.take i++(T1++[T2])).length by simp[hl];omega,List.drop_left,hdl]
  exact hd0
section
variable{E:Cg}{s:AE}
theorem Yt{s1:AE}{x:Nat}(hxs:x<4294967296){ui off N:Nat}{cu w:List Nat}(hN:N=cu.length)(hcu:off+w.length≤cu.length)(hcl:cu.length≤100000000000)(hsu:BV cu)(hsw:BV w){a9:Option (Nat×Nat)}{c9:Option Nat}{b:Nat}(hc9:Ai b s1 a9 (us w))(h9:b≤ui)
    {T:List Nat×Nat} {Q:Au→Prop} (y0 y1 y2 y9 y10 y11 y12:AV)
    (hq:∀ (s':AE) (y7 y8 y15 y16:AV),CY s1 s' ui none→B3 s' ui (us (E0 cu off T.1)) none →
      Q ⟨.exit 2,[y0,y1,y2,.slice (some (ui,0)) N (some N),iv (off:Int),BO x,AT T.2,y7,y8,y9,y10,y11,y12,.slice a9 w.length c9,iv (w.length:Int),y15,y16],[],s'⟩):
    ∀ (r : List Nat) (s' : AE)  (c : Nat) (d : List Nat) (x7 x8 x16 : AV), w.drop d.length = r → d.length ≤ w.length → CY    s1 s' ui none → c < 4294967296 →
      (d++(Ep x (r.zip (cu.drop (off+d.length))) c).1,(Ep x (r.zip (cu.drop (off+d.length))) c).2)=T→B3 s' ui (us (E0 cu off d)) none →
      WC E none (.loop HA) Q [y0,y1,y2,.slice (some (ui,0)) N (some N),iv (off:Int),BO x,AT c,x7,x8,y9,y10,y11,y12,.slice a9 w.length c9,iv (w.length:Int),iv (d.length:Int),x16] [] s':=by
  subst hN
  intro r
  induction r with
  | nil =>
    intro s' c d x7 x8 x16 hd hk ho hc hT hg
    have hkl:d.length=w.length:=by
      have:=congrArg List.length hd
      simp at this
      omega
    rw[List.zip_nil_left]at hT
    simp only[Ep,iC]at hT
    have dd:decide ((d.length:Int)<(w.length:Int))=false:=decide_eq_false (by omega)
    refine WC.loop' ?_
    simp only[HA,PF,Rx,dd,Qa,Qb,Qc,Qd,Qe,Qf,Qg,Qh,Qi,Qj,Qk,Ql,Qm,Qn,true_and,and_true,Qo,Qp,Qq,Qr,Qs,Qt,Qu,Qv,Qw,Qx,Qy,Qz,Ra,Rb,Rc,Rd,Re,Rf,Rg,Rh,Ri,Rj,Rk,Rm,Rn,Ro,Rp,Rq,Rs,Ya,Yb,Yc,Rt,Ru,Za,Yd,Ye,Rx,Ry,Rz,Wa,Wb,Wc,Wd]
    subst hT
    exact hq s' _ _ _ _ ho hg
  | cons y r ih =>
    intro s' c d x7 x8 x16 hd hk ho hc hT hg
    have hlt:d.length<w.length:=by
      rcases fv d.length w.length with h' | h'
      · exact h'
      · rw[gt h']at hd;cases hd
    have hy:w[d.length]? = some y:=by
      have:=congrArg (fun l=>l[0]?) hd
      simpa using this
    have hd':w.drop (d.length+1)=r:=by
      have:=congrArg (List.drop 1) hd
      simpa[g8]using this
    have hys:y<4294967296:=hsw y (gR hy)
    have hlu:off+d.length<cu.length:=by omega
    have hu:cu[off+d.length]? = some cu[off+d.length]:=f9 hlu
    have hdu:cu.drop (off+d.length)=cu[off+d.length]::cu.drop (off+(d.length+1)):=gc hlu
    generalize cu[off+d.length]=u at hu hdu
    have hus:u<4294967296:=hsu u (gR hu)
    rw[hdu,iG]at hT
    simp only[Ep]at hT
    obtain⟨i,o,rfl,hi,hload⟩:=hc9 d.length _ (DB hy)
    have hne:i≠ui:=by omega
    have hkk:decide ((d.length:Int)<(w.length:Int))=true:=decide_eq_true (by omega)
    have e1:=Aw (cap:=c9) (i:=i) (o:=o) Tryz.underlying59 Bj hlt
    have e2:AF Tryz.prog s' 203 (.ptr (some (i,o+d.length * 1)))=some (BO y):=B9 EO (by rw[gB,DV (ho.get i hne (by simp))];exact hload)
    have e0:=By Tryz.prog 3 (off:Int) (d.length:Int) ⟨by omega,by omega⟩
    have e0':((off:Int)+(d.length:Int))=((off+d.length:Nat):Int):=by omega
    have e5:=Aw (cap:=some cu.length) (i:=ui) (o:=0) Tryz.underlying59 Bj hlu
    have hcell:(us (E0 cu off d))[0+(off+d.length) * 1]? = some (BO u):=by rw[gB,gA];exact DB ((Mq hlu).trans hu)
    have e6:=Ft (P:=Tryz.prog) (t:=203) EO hg hcell
    have hxy:x * y≤4294967295 * 4294967295:=gz (by omega) (by omega)
    have e3:=Om Tryz.prog 205 (a:=x) (b:=y) (by omega)
    have e3':=F4 Tryz.prog 205 (a:=x * y) (b:=u) (by omega)
    have e4:=F4 Tryz.prog 205 (a:=c) (b:=x * y+u) (by omega)
    have hLB:LB=4294967296:=rfl
    rw[hLB]at hT
    generalize hc1:c+(x * y+u)=c1 at hT e4
    have hc1b:c1<18446744073709551616:=by omega
    have e7:=It Tryz.prog 205 hc1b
    have e11:c1 % 4294967296 % 4294967296=c1 % 4294967296:=iH _ _
    have e15:AN Tryz.prog .shr 205 (AT c1) (.int .u64 32)=some (AT (c1 / 4294967296)):=Ho Tryz.prog 205 (k:=.u64) (n:=32) (by decide)
    have hcq:c1 / 4294967296<4294967296:=by omega
    generalize hx:c1 % 4294967296=z at hT e7 e11
    have hlm:0+(off+d.length) * 1<(us (E0 cu off d)).length:=by rw[CM,GF (by omega)];omega
    obtain⟨s2,e16,w1,w2,w3⟩:=DL (P:=Tryz.prog) (t:=203) (v:=BO z) Bj hg hlm rfl
    rw[gB,gA]at e16
    rw[gB,gA,IS,JG hlu]at w1
    rw[gB,gA]at e5 e6
    have e17:=By Tryz.prog 3 (d.length:Int) 1 ⟨by omega,by omega⟩
    have e17':((d.length:Int)+1)=((d.length+1:Nat):Int):=by omega
    refine WC.loop' ?_
    generalize hW:WC E none (Ab.loop HA) Q=WW
    simp only[HA,PF,Ui,Uj,RO,RP,RQ,Rx,hkk,e0,e0',e1,e2,e5,e6,BP hus,BP hys,BP hxs,e3,e3',e4,e7,Bd,e11,e16,e15,e17,e17',Xx,Xz,Qa,Qb,Qc,Qd,Qe,Qf,Qg,Qh,Qi,Qj,Qk,Ql,Qm,Qn,true_and,and_true,Qo,Qp,Qq,Qr,Qs,Qt,Qu,Qv,Qw,Qx,Qy,Qz,Ra,Rb,Rc,Rd,Re,Rf,Rg,Rh,Ri,Rj,Rk,Rm,Rn,Ro,Rp,Rq,Rs,Ya,Yb,Yc,Rt,Ru,Za,Yd,Ye,Rx,Ry,Rz,Wa,Wb,Wc,Wd]
    rw[← hW]
    have hlen1:(d++[z]).length=d.length+1:=by rw[gI];rfl
    have key:=ih s2 (c1 / 4294967296) (d++[z])
    rw[hlen1]at key
    exact key _ _ _ hd' hlt (ho.step w2 w3) hcq (by rw[gP];exact hT) w1
end
section
variable{E:Cg}{s:AE}
theorem YB       {s1 : AE}  {qi : Nat} {a b : Option (Nat × Nat)} {ca cb : Option Nat} {la lb : List Nat} (hca : Ai      qi s1 a (us la)) (hcb : Ai      qi s1 b (us lb)) (hla : la.length ≤ 10000000000) (hlb : lb.length ≤ 10000000000) (hsa : BV  la) (hsb : BV  lb) {Q : Au   → Prop} (y2 : AV)
    (hq:∀ (s':AE) (cu:List Nat) (y4 y5 y6 y7 y8 y11 y12 y13 y14 y15 y16:AV),CY s1 s' qi none→B3 s' qi (us cu) none→Sv la lb cu la.length →
      Q ⟨.exit 0,[.slice a la.length ca,.slice b lb.length cb,y2,.slice (some (qi,0)) (la.length+lb.length) (some (la.length+lb.length)),y4,y5,y6,y7,y8,.slice a la.length ca,iv (la.length:Int),y11,y12,y13,y14,y15,y16],[],s'⟩):
    ∀ (k i:Nat) (s':AE) (cu:List Nat) (x4 x5 x6 x7 x8 x12 x13 x14 x15 x16:AV),i+k=la.length→CY s1 s' qi none→B3 s' qi (us cu) none→Sv la lb cu i →
      WC E none (.loop HB) Q [.slice a la.length ca,.slice b lb.length cb,y2,.slice (some (qi,0)) (la.length+lb.length) (some (la.length+lb.length)),x4,x5,x6,x7,x8,.slice a la.length ca,iv (la.length:Int),iv (i:Int),x12,x13,x14,x15,x16] [] s':=by
  intro k
  induction k with
  | zero =>
    intro i s' cu x4 x5 x6 x7 x8 x12 x13 x14 x15 x16 hik ho hg hm
    have e:i=la.length:=by omega
    subst e
    have dd:decide ((la.length:Int)<(la.length:Int))=false:=decide_eq_false (by omega)
    refine WC.loop' ?_
    simp only[HB,PE,Rx,dd,Qa,Qb,Qc,Qd,Qe,Qf,Qg,Qh,Qi,Qj,Qk,Ql,Qm,Qn,true_and,and_true,Qo,Qp,Qq,Qr,Qs,Qt,Qu,Qv,Qw,Qx,Qy,Qz,Ra,Rb,Rc,Rd,Re,Rf,Rg,Rh,Ri,Rj,Rk,Rm,Rn,Ro,Rp,Rq,Rs,Ya,Yb,Yc,Rt,Ru,Za,Yd,Ye,Rx,Ry,Rz,Wa,Wb,Wc,Wd]
    exact hq s' cu _ _ _ _ _ _ _ _ _ _ _ ho hg hm
  | succ k ih =>
    intro i s' cu x4 x5 x6 x7 x8 x12 x13 x14 x15 x16 hik ho hg hm
    have hi:i<la.length:=by omega
    have hx:la[i]? = some la[i]:=f9 hi
    generalize la[i]=x at hx
    have hxs:x<4294967296:=hsa x (gR hx)
    have hstep:=hm.step hx hxs hsb
    obtain⟨pi,o,rfl,hpi,hload⟩:=hca i _ (DB hx)
    have dd:decide ((i:Int)<(la.length:Int))=true:=decide_eq_true (by omega)
    have e1:=Aw (cap:=ca) (i:=pi) (o:=o) Tryz.underlying59 Bj hi
    have e2:AF Tryz.prog s' 203 (.ptr (some (pi,o+i * 1)))=some (BO x):=B9 EO (by rw[gB,DV (ho.get pi (by omega) (by simp))];exact hload)
    have hTl:(Ep x (lb.zip (cu.drop i)) 0).1.length=lb.length:=by
      rw[KE,iE,gr,hm.len];omega
    generalize hT:Ep x (lb.zip (cu.drop i)) 0=T at *
    have hlen:=hm.len
    have hil:i+T.1.length<cu.length:=by omega
    refine WC.loop' ?_
    generalize hW:WC E none (Ab.loop HB) Q=WW
    simp only[HB,PE,Uf,Ug,Uh,AW Tryz.underlying59,Rx,dd,e1,e2,Qa,Qb,Qc,Qd,Qe,Qf,Qg,Qh,Qi,Qj,Qk,Ql,Qm,Qn,true_and,and_true,Qo,Qp,Qq,Qr,Qs,Qt,Qu,Qv,Qw,Qx,Qy,Qz,Ra,Rb,Rc,Rd,Re,Rf,Rg,Rh,Ri,Rj,Rk,Rm,Rn,Ro,Rp,Rq,Rs,Ya,Yb,Yc,Rt,Ru,Za,Yd,Ye,Rx,Ry,Rz,Wa,Wb,Wc,Wd]
    refine Yt (s1:=s1) (x:=x) hxs (ui:=qi) (off:=i) (N:=la.length+lb.length) (cu:=cu) (w:=lb) (a9:=b) (c9:=cb) (b:=qi) hm.len.symm (by omega) (by omega) hm.sm hsb hcb (fu _) (T:=T) _ _ _ _ _ _ _ (fun s2 y7 y8 y15 y16 ho2 hg2=>?_) lb s' 0 [] _ _ _ rfl (gF _) ho (by decide) (by rw[← hT];rfl) (by rw[Mr];exact hg)
    have e3:=By Tryz.prog 3 (i:Int) (lb.length:Int) ⟨by omega,by omega⟩
    have e3':((i:Int)+(lb.length:Int))=((i+lb.length:Nat):Int):=by omega
    have e4:=Aw (cap:=some (la.length+lb.length)) (i:=qi) (o:=0) Tryz.underlying59 Bj (show i+lb.length<la.length+lb.length by omega)
    have hT2:T.2<4294967296:=by
      rw[← hT]
      exact(Gs (x:=x) hxs (fun p hp=>by
        have:=List.of_mem_zip (a:=p.1) (b:=p.2) hp
        exact⟨hsb _ this.1,hm.sm.drop i _ this.2⟩) A3).1
    have e5:T.2 % 4294967296=T.2:=gT hT2
    have hlm:0+(i+lb.length) * 1<(us (E0 cu i T.1)).length:=by rw[CM,GF (by omega)];omega
    obtain⟨s3,e16,w1,w2,w3⟩:=DL (P:=Tryz.prog) (t:=203) (v:=BO T.2) Bj hg2 hlm rfl
    rw[gB,gA]at e16 e4
    rw[gB,gA,IS,← hTl,JG hil]at w1
    have e17:=By Tryz.prog 3 (i:Int) 1 ⟨by omega,by omega⟩
    have e17':((i:Int)+1)=((i+1:Nat):Int):=by omega
    simp only[RR,RS,if_true,AW Tryz.underlying59,Bd,e3,e3',e4,e5,e16,e17,e17',Xx,Xz,Qa,Qb,Qc,Qd,Qe,Qf,Qg,Qh,Qi,Qj,Qk,Ql,Qm,Qn,true_and,and_true,Qo,Qp,Qq,Qr,Qs,Qt,Qu,Qv,Qw,Qx,Qy,Qz,Ra,Rb,Rc,Rd,Re,Rf,Rg,Rh,Ri,Rj,Rk,Rm,Rn,Ro,Rp,Rq,Rs,Ya,Yb,Yc,Rt,Ru,Za,Yd,Ye,Rx,Ry,Rz,Wa,Wb,Wc,Wd]
    rw[← hW]
    exact ih (i+1) s3 _ _ _ _ _ _ _ _ _ _ _ (by omega) (ho2.step w2 w3) w1 hstep
theorem P8(hE:An E){va vb:AV}{la lb:List Nat}(ha:CW s va la)(hb:CW s vb lb)(hla:la.length≤1000000000)(hlb:lb.length≤1000000000)(hsa:BV la)(hsb:BV lb){K:AV→AE→Prop}
  (hK:∀s' v,A8 s.next s s'→NR s.next s' v (AI (AD la * AD lb))→K v s'):WF E 172 [va,vb] K s:=by
 obtain⟨a,ca,rfl,hcapa,hca⟩:=ha
 obtain⟨b,cb,rfl,hcapb,hcb⟩:=hb
 have e0:=By Tryz.prog 3 (la.length:Int) (lb.length:Int) ⟨by omega,by omega⟩
 have e0':((la.length:Int)+(lb.length:Int))=((la.length+lb.length:Nat):Int):=by omega
 have e1:=Mo (la.length+lb.length) (by omega)
 have ho:=A8.new s (R 203 1 false (us (List.replicate (la.length+lb.length) 0)))
 refine hE.go Zq (by decide) rfl ?_
 simp only[eG,Uc,Ud,Ue,AW Tryz.underlying59,e0,e0',e1,Xx,Xd,Qa,Qb,Qc,Qd,Qe,Qf,Qg,Qh,Qi,Qj,Qk,Ql,Qm,Qn,true_and,and_true,Qo,Qp,Qq,Qr,Qs,Qt,Qu,Qv,Qw,Qx,Qy,Qz,Ra,Rb,Rc,Rd,Re,Rf,Rg,Rh,Ri,Rj,Rk,Rm,Rn,Ro,Rp,Rq,Rs,Ya,Yb,Yc,Rt,Ru,Za,Yd,Ye,Rx,Ry,Rz,Wa,Wb,Wc,Wd]
 have hg0:(newObj s (R 203 1 false (us (List.replicate (la.length+lb.length) 0)))).heap.get s.next=some (R 203 1 false (us (List.replicate (la.length+lb.length) 0))):=by
  rw[AO,if_pos rfl]
 have hR0:Sv la lb (List.replicate (la.length+lb.length) 0) 0:=by
  refine⟨by simp,fun x hx=>by rw[List.eq_of_mem_replicate hx];exact A3,?_,?_⟩
  ·rw[GP,iT]
   show 0=0 * _
   rw[Nat.zero_mul]
  ·rw[List.drop_replicate]
   congr 1
   omega
 refine YB (s1:=newObj s (R 203 1 false (us (List.replicate (la.length+lb.length) 0)))) (qi:=s.next) (hca.old ho (fu _)) (hcb.old ho (fu _)) (by omega) (by omega) hsa hsb _
  (fun s' cu y4 y5 y6 y7 y8 y11 y12 y13 y14 y15 y16 o' hg' hm=>?_) la.length 0 _ _ _ _ _ _ _ _ _ _ _ _ (by omega) (CY.refl _ _ _) (B3.of_R hg0) hR0
 have hsn:s'.next=s.next+1:=o'.next
 have hq:CW s' (.slice (some (s.next,0)) (la.length+lb.length) (some (la.length+lb.length))) cu:=
  ⟨some (s.next,0),some (la.length+lb.length),by rw[hm.len],.inl ⟨_,rfl,by have:=hm.len;omega,fun e=>by cases e⟩,H0 hg' (by omega)⟩
 simp only[RT,if_true,Qa,Qb,Qc,Qd,Qe,Qf,Qg,Qh,Qi,Qj,Qk,Ql,Qm,Qn,true_and,and_true,Qo,Qp,Qq,Qr,Qs,Qt,Qu,Qv,Qw,Qx,Qy,Qz,Ra,Rb,Rc,Rd,Re,Rf,Rg,Rh,Ri,Rj,Rk,Rm,Rn,Ro,Rp,Rq,Rs,Ya,Yb,Yc,Rt,Ru,Za,Yd,Ye,Rx,Ry,Rz,Wa,Wb,Wc,Wd]
 refine Bz hE hq (by have:=hm.len;omega) fun s2 v2 o2 r2=>?_
 rw[BJ hm.sm,hm.val,List.take_length]at r2
 simp only[Qa,Qb,Qc,Qd,Qe,Qf,Qg,Qh,Qi,Qj,Qk,Ql,Qm,Qn,true_and,and_true,Qo,Qp,Qq,Qr,Qs,Qt,Qu,Qv,Qw,Qx,Qy,Qz,Ra,Rb,Rc,Rd,Re,Rf,Rg,Rh,Ri,Rj,Rk,Rm,Rn,Ro,Rp,Rq,Rs,Ya,Yb,Yc,Rt,Ru,Za,Yd,Ye,Rx,Ry,Rz,Wa,Wb,Wc,Wd]
 exact hK s2 v2 (ho.trans (A8.trans ⟨by have:s.next≤(newObj s (R 203 1 false (us (List.replicate (la.length+lb.length) 0)))).next:=gZ _;have:=o'.next;omega,fun j hj=>o'.get j (by omega) (by simp)⟩ (o2.mono (by omega)))) (r2.mono (by omega))
end
end
end Go.Proofs.YtfgmceookgelcaaGreatDoor.Am
set_option linter.unusedVariables false
set_option linter.unusedSimpArgs false
namespace Go.Proofs.YtfgmceookgelcaaGreatDoor.Am
open Go Go.Proofs
noncomputable section
theorem LO{s s':AE}{l:Nat}(h:s'.heap.get l=s.heap.get l):BZ s' l=BZ s l:=by unfold BZ;rw[h]
theorem FK(s:AE)(l:Nat)(r:EN):BZ (setObj s l (.loop r)) l=some r:=by unfold BZ;rw[Jy,if_pos rfl]
def NK(Q:Au→Prop)(var:List AV)(marks:List Nat)(s:AE)(pd:Option Code):Prop:=match pd with
 | none=>Q ⟨.normal,var,marks,s⟩
 | some .ret=>Q ⟨.ret,var,marks,s⟩
 | some (.exit id)=>Q ⟨.exit id,var,marks,s⟩
 | some _=>False
theorem YX{Q:Au→Prop}{var:List AV}{marks:List Nat}{s:AE}{pd:Option Code}(h:NK Q var marks s pd):∃r,Fd var marks s pd=some r∧Q r:=by
 unfold NK at h
 unfold Fd
 split at h
 ·exact⟨_,rfl,h⟩
 ·exact⟨_,rfl,h⟩
 ·exact⟨_,rfl,h⟩
 ·exact h.elim
def JF(fn:FuncId)(var:List AV)(ps:Array Tmp)(a b:Code)(dfr:Nat):EN:={ state:=.ready,pending:=none,fn,var,params:=ps,assign:=a,body:=b,dfr }
theorem WC.range{E:Cg}{Q:Au→Prop}{var:List AV}{marks:List Nat}{s:AE}{fn:FuncId}{f:CX}{ps:Array Tmp}{a b:Code}{g:FuncId}{first cap:List AV}(hf:CO [] var f=.func g first cap)
  (h:WF E g (first++([.yield (s.next+1)]++cap)) (fun _ s'=>∃r,BZ s' (s.next+1)=some r∧Pz r.state=false∧NK Q var (s.next::marks) (setObj s' (s.next+1) (.loop { r with state:=.exhausted })) r.pending)
   (newObj (newObj s .mark) (.loop (JF fn var ps a b s.next)))):WC E none (.rangeFunc fn f ps a b) Q var marks s:=by
 obtain⟨n,p,h1,r,h2,h3,h4⟩:=h
 obtain⟨res,h5,h6⟩:=YX h4
 refine⟨n+1,res,?_,h6⟩
 show CG (Ct E n) none (.rangeFunc fn f ps a b) var marks s=some res
 simp only[CG,Jj,EP,GA,hf,Fg]
 have e:(newObj s .mark).next=s.next+1:=rfl
 rw[e]
 have h1':=h1
 unfold JF at h1'
 rw[h1']
 simp only[Option.bind_some,h2,h3,cond_false,h5]
theorem WR.round{E:Cg}{K:AV→AE→Prop}{l:Nat}{xs:List AV}{s:AE}{r:EN}{var:List AV}{ca cb:Ab}(h1:BZ s l=some r)(h2:DN (Dg E.P r.fn) r.var r.params.toList xs=some var)
  (h3:FC E.P r.fn r.assign=some ca) (h4:FC E.P r.fn r.body=some cb)
  (h:WC E (some l) ca (fun q=>q.exit=.normal∧∃r',BZ q.st l=some r'∧JC r'.state=true ∧
   WC E (some l) cb (fun q2=>∃r'',BZ q2.st l=some r''∧K (.bool (CZ q2.exit).isNone) (setObj q2.st l (.loop { r'' with state:=GN (CZ q2.exit),pending:=CZ q2.exit }))) q.var q.marks (setObj q.st l (.loop { r' with state:=.busy }))) var [] s):WR E l xs K s:=by
 obtain⟨n,q,g1,g2,r',g3,g4,m,q2,g5,r'',g6,g7⟩:=h
 refine⟨max n m+1,(_,_),?_,g7⟩
 show Is E (Ct E (max n m)) l xs s=_
 simp only[Is,h1,Option.bind_some,h2,h3,h4,GJ,(FR E (Nat.le_max_left n m)).code g1,g2,Fl,cond_true,g3,g4,Hg,(FR E (Nat.le_max_right n m)).code g5,g6]
 rfl
def Bt:Code→List (Code×Code)
 | .seq x y=>Bt x++Bt y
 | .cond _ x y=>Bt x++Bt y
 | .block _ c=>Bt c
 | .loop c=>Bt c
 | .scope c=>Bt c
 | .rangeFunc _ _ a b=>Bt a++Bt b++[(a,b)]
 | _=>[]
def JI (f k:Nat):Code×Code:=(((Tryz.prog.funcs[f]?).bind fun fn=>fn.body.bind fun c=>(Bt c)[k]?)).getD (.skip,.skip)
end
end Go.Proofs.YtfgmceookgelcaaGreatDoor.Am
