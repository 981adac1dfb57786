/- Long division: what it begins with; conditions: told in each theorem. Plain Lean: no program in sight. -/
import Derived.Test.YtdmgdlbodeemeaaGreatDoorAmM05
import Derived.Test.YtdmgdlbodeemeaaGreatDoorProg
set_option linter.unusedVariables false
set_option linter.unusedSimpArgs false
namespace Go.Proofs.YtdmgdlbodeemeaaGreatDoor.Am
noncomputable section
theorem G4(x:Nat):∀ (l:List Nat)(c:Nat),(It l x c).length=l.length+1
 | [],_=>rfl
 | y::l,c=>by show(It l x _).length+1=_;rw[G4 x l];rfl
theorem EY{x:Nat}(hx:x<LB):∀ {l:List Nat}{c:Nat},BY l→c<LB→BY (It l x c)
  | [],c,_,hc=>fun z hz=>by rw[List.mem_singleton.1 hz];exact hc
  | y::l,c,hl,hc=>fun z hz=>by
    have hy:=hl y fc
    rcases gg.1 hz with e | e
    · rw[e];exact fo _ A4
    · refine EY        hx hl.tail ?_ z e
      rw[gF A4]
      have:x * y≤(LB - 1) * (LB - 1):=gW (by omega) (by omega)
      have hB:LB=4294967296:=rfl
      rw[hB]at this hc ⊢
      omega
theorem EL{l:List Nat}{n:Nat}(h:l.length=n+1):∃lo t,l=lo++[t]∧lo.length=n:=by
 refine⟨l.take n,l[n]'(by omega),?_,by rw[fx];omega⟩
 have h1:=(gw n l).symm
 rw[gE (by omega),gQ (by omega)]at h1
 exact h1
theorem Cp(lo:List Nat)(t:Nat):AC (lo++[t])=AC lo+LB ^ lo.length * t:=by
 rw[BA]
 show _+_ * (t+LB * 0)=_
 simp
theorem cl{lo:List Nat}{bt n:Nat}(hs:BY (lo++[bt]))(hn:n≤31)(h1:2147483648≤bt * 2 ^ n)(h2:bt * 2 ^ n<4294967296):
  AC ((It (lo++[bt]) (2 ^ n) 0).take (lo.length+1))=AC (lo++[bt]) * 2 ^ n∧∃vlo v1,(It (lo++[bt]) (2 ^ n) 0).take (lo.length+1)=vlo++[v1]∧vlo.length=lo.length∧2147483648≤v1:=by
 have hLB:LB=4294967296:=rfl
 have e32:(2:Nat) ^ 32=4294967296:=by decide
 have h2n:0<2 ^ n:=gN (by decide)
 have hn32:2 ^ n<LB:=by
  rw[hLB,← e32]
  exact Nat.pow_lt_pow_right (by decide) (by omega)
 have hbt:(bt+1) * 2 ^ n≤4294967296:=by
  have e:(4294967296:Nat)=2 ^ (32 - n) * 2 ^ n:=by rw[← Nat.pow_add,show 32 - n+n=32 by omega]
  rw[e]at h2 ⊢
  exact fj _ (gi h2)
 have hval:=I0 (lo++[bt]) (2 ^ n) 0
 have hlen:=G4 (2 ^ n) (lo++[bt]) 0
 have hsm:=EY hn32 hs (show 0<LB from A4)
 have hll:(lo++[bt]).length=lo.length+1:=by simp
 rw[hll]at hlen
 generalize It (lo++[bt]) (2 ^ n) 0=W at *
 obtain⟨V,t,rfl,hV⟩:=EL hlen
 have hlo:BY lo:=fun x hx=>hs x (gk _ hx)
 have hvl:=CE hlo
 have hsV:BY V:=fun x hx=>hsm x (gk _ hx)
 rw[Cp,hV]at hval
 have hup:AC (lo++[bt]) * 2 ^ n<LB ^ (lo.length+1):=by
  rw[Cp]
  have g1:AC lo+LB ^ lo.length * bt<LB ^ lo.length * (bt+1):=by rw[fw,fZ];omega
  have g2:(AC lo+LB ^ lo.length * bt) * 2 ^ n<LB ^ lo.length * (bt+1) * 2 ^ n:=hY g1 h2n
  have g3:LB ^ lo.length * (bt+1) * 2 ^ n≤LB ^ (lo.length+1):=by
   rw[gG,fk]
   exact fz _ (by rw[hLB];exact hbt)
  omega
 have ht:t=0:=by
  rcases gO t with h | h
  ·exact h
  ·exfalso
   have:=fz (LB ^ (lo.length+1)) h
   omega
 have htk:(V++[t]).take (lo.length+1)=V:=by rw[← hV];simp
 rw[htk]
 rw[ht,gM,fi,fi]at hval
 refine⟨hval,?_⟩
 obtain⟨vlo,v1,rfl,hvlo⟩:=EL hV
 refine⟨vlo,v1,rfl,hvlo,?_⟩
 have hvs:BY vlo:=fun x hx=>hsV x (gk _ hx)
 have hvv:=CE hvs
 rw[Cp,hvlo,Cp]at hval
 rw[hvlo]at hvv
 have g4:LB ^ lo.length * 2147483648≤(AC lo+LB ^ lo.length * bt) * 2 ^ n:=by
  rw[fu,fk]
  exact fU (fz _ h1) (Nat.le_add_left _ _)
 rcases fS v1 2147483648 with h | h
 ·exfalso
  have:=fz (LB ^ lo.length) (show v1+1≤2147483648 from h)
  rw[fw,fZ]at this
  omega
 ·exact h
theorem ck{la vlo:List Nat}{v1 n:Nat}(hs:BY la)(hn:n≤31)(hv1:2147483648≤v1)(hlen:vlo.length+1≤la.length):
  AC ((It la (2 ^ n) 0).drop (la.length - vlo.length))<AC (vlo++[v1]):=by
 have hLB:LB=4294967296:=rfl
 have e31:(2:Nat) ^ 31=2147483648:=by decide
 have h2n:2 ^ n≤2147483648:=by rw[← e31];exact gX (by decide) hn
 have hval:=I0 la (2 ^ n) 0
 have hl:=G4 (2 ^ n) la 0
 have hsm:=EY (show 2 ^ n<LB by rw[hLB];omega) hs (show 0<LB from A4)
 generalize It la (2 ^ n) 0=W at *
 obtain⟨U,t,rfl,hU⟩:=EL hl
 rw[Cp,hU,fi]at hval
 have hA:=CE hs
 have ht:t<2 ^ n:=by
  rcases fS t (2 ^ n)with h | h
  ·exact h
  ·exfalso
   have g1:=fz (LB ^ la.length) h
   have g2:AC la * 2 ^ n<LB ^ la.length * 2 ^ n:=hY hA (gN (by decide))
   omega
 have hd:(U++[t]).drop (la.length - vlo.length)=U.drop (la.length - vlo.length)++[t]:=by
  rw[List.drop_append_of_le_length (by omega)]
 rw[hd,Cp,Cp]
 have hsU:BY U:=fun x hx=>hsm x (gk _ hx)
 have h3:=CE (hsU.drop (la.length - vlo.length))
 have hdl:(U.drop (la.length - vlo.length)).length=vlo.length:=by rw[gP];omega
 rw[hdl]at h3 ⊢
 have g1:LB ^ vlo.length * (t+1)≤LB ^ vlo.length * v1:=fz _ (by omega)
 rw[fw,fZ]at g1
 omega
theorem F7:∀ (l w:List Nat),(l.take w.length).zip w=l.zip w
 | [],w=>by simp
 | _::_,[]=>by simp
 | x::l,y::w=>by
  rw[gH,List.take_succ_cons,gm,gm,F7 l w]
theorem Y4{d w:List Nat}(h:d.length=w.length)(x:List Nat):(d++x).zip w=d.zip w:=by
 have:=F7 (d++x) w
 rw[← h,List.take_left]at this
 exact this.symm
end
end Go.Proofs.YtdmgdlbodeemeaaGreatDoor.Am
set_option linter.unusedVariables false
set_option linter.unusedSimpArgs false
set_option maxRecDepth 12000
namespace Go.Proofs.YtdmgdlbodeemeaaGreatDoor.Am
open Go Go.Proofs
noncomputable section
def bV:List FuncId:=[97,5,113,115,52,53,129,117,112,249]
structure Al(E:Cf):Prop where
 P:E.P=Tryz.prog
 nat:∀ (f:FuncId) (xs:List AV) (s:AD),f ∉ bV→E.nat f xs s=none
theorem Al.go{E:Cf}(hE:Al E){f:FuncId}{xs:List AV}{cf:Az}{K:AV→AD→Prop}{s:AD}(hf:AS Tryz.prog f=some cf)(hne:f ∉ bV)(ha:xs.length=cf.na)(h:Qa E none cf.body (Ends Tryz.prog cf.results K) (Ql xs cf.nv) [] s):WF E f xs K s:=
 WF.body' (hE.nat f xs s hne) (by rw[hE.P];exact hf) ha (by rw[hE.P];exact h)
def Ls(s:AD)(a:Option (Nat×Nat))(cap:Option Nat)(n:Nat):Prop:=
 (∃c,cap=some c∧n≤c∧(a=none→c=0))∨(cap=none∧∃i o r,a=some (i,o)∧i<s.next∧s.heap.get i=some (.row r)∧r.sz=1∧o+n≤r.n)
theorem Ls.old{s s':AD}{a:Option (Nat×Nat)}{cap:Option Nat}{n:Nat}(h:Ls s a cap n)(k:A9 s.next s s'):Ls s' a cap n:=by
 rcases h with h | ⟨h1,i,o,r,h3,h4,h5,h6⟩
 ·exact .inl h
 ·exact .inr ⟨h1,i,o,r,h3,fV h4 k.1,by rw[k.2 i h4];exact h5,h6⟩
theorem Ls.less{s:AD}{a:Option (Nat×Nat)}{cap:Option Nat}{n k:Nat}(h:Ls s a cap n)(hk:k≤n):Ls s a cap k:=by
 rcases h with⟨c,h1,h2,h3⟩ | ⟨h1,i,o,r,h3,h4,h5,h6,h7⟩
 ·exact .inl ⟨c,h1,by omega,h3⟩
 ·exact .inr ⟨h1,i,o,r,h3,h4,h5,h6,by omega⟩
theorem XF{t e:TypeId}(ht:Tryz.prog.underlying t=some (.slice e))(hs:A3 Tryz.prog e=some 1){s:AD}{a:Option (Nat×Nat)}{cap:Option Nat}{n k:Nat}(hc:Ls s a cap n)(hk:k≤n):
    Bg Tryz.prog t false true false s [.slice a n cap,iv (k:Int)]=some (.slice a k cap):=by
  show Bf Tryz.prog s t (.slice a n cap) none (some (iv (k:Int))) none=_
  rcases hc with⟨c,rfl,h1,h2⟩ | ⟨rfl,i,o,r,rfl,h3,h4,h5,h6⟩
  · have hb:BT (iv (k:Int)) c=some k:=by simp[BT,GW,AG,Cw (show k≤c by omega),Eh]
    cases a with
    | none=>simp[Bf,ht,hs,hb]
    | some io=>obtain⟨i,o⟩:=io;cases hb2:Nat.beq c 0<;>simp[Bf,ht,hs,hb,hb2]
  · have hrow : rowAt s i = some r := by unfold rowAt; rw [h4]
    have hb:BT (iv (k:Int)) ((r.n - o) / 1)=some k:=by simp[BT,GW,AG,Cw (show k≤r.n - o by omega),Eh]
    have hsz:Nat.beq 1 r.sz=true:=Gi h5.symm
    simp only[Bf,ht,hs,hrow,hsz,AG,hb,Cw (show o≤r.n by omega),show Nat.beq 1 0=false from rfl,Option.bind_some,Bool.true_and,Bool.and_true,Bool.not_false,cond_true]
    simp
def CV(s:AD)(v:AV)(l:List Nat):Prop:=∃a cap,v=.slice a l.length cap∧Ls s a cap l.length∧Ah s.next s a (us l)
theorem CV.old{s s':AD}{v:AV}{l:List Nat}(h:CV s v l)(k:A9 s.next s s'):CV s' v l:=by
 obtain⟨a,cap,h1,h2,h3⟩:=h
 exact⟨a,cap,h1,h2.old k,(h3.old k (fR _)).mono k.1⟩
theorem CV.at{s:AD}{a:Option (Nat×Nat)}{l:List Nat}(h:Ah s.next s a (us l)){k x:Nat}(hk:l[k]? = some x):∃i o,a=some (i,o)∧i<s.next∧Cb s i (o+k)=some (BO x):=h k _ (C9 hk)
theorem CV.take{s:AD}{a:Option (Nat×Nat)}{cap:Option Nat}{l:List Nat}(h2:Ls s a cap l.length)(h3:Ah s.next s a (us l)){k:Nat}(hk:k≤l.length):CV s (.slice a k cap) (l.take k):=by
 have hl:(l.take k).length=k:=by rw[fx];omega
 refine⟨a,cap,by rw[hl],by rw[hl];exact h2.less hk,fun j u hu=>?_⟩
 rw[SX,List.getElem?_take]at hu
 split at hu
 ·exact h3 j u hu
 ·cases hu
def eu(s:AD)(v:AV)(l:List Nat):Prop:=∃i,v=.slice (some (i,0)) l.length none∧i<s.next∧B5 s i (us l) none
def NR(b:Nat)(s:AD)(v:AV)(l:List Nat):Prop:=∃O,CR 192 s v l.length 1 (us l) O∧(∀j∈O,b≤j)∧(∀j,C6 v=some j→b≤j)∧(l≠[]→eu s v l)
theorem CR.n32{s:AD}{v:AV}{l O:List Nat}(h1:CR 192 s v l.length 1 (us l) O):CV s v l:=by
 obtain⟨a,cap,rfl,hc⟩:=h1.cells
 refine⟨a,cap,rfl,?_,hc⟩
 rcases h1 with⟨a',e,_,_,h4,_⟩ | ⟨i,p,e,h2,_⟩
 ·injection e with e1 e2 e3
  subst e1;subst e3
  exact .inl ⟨_,rfl,fR _,h4⟩
 ·injection e with e1 e2 e3
  subst e1;subst e3
  rcases h2.ex with⟨e',_⟩ | ⟨_,_,k2,_,r,k4,k5,_,_,k8,_⟩
  ·cases e'
  ·exact .inr ⟨rfl,i,0,r,rfl,k2,k4,k8,by rw[k5.1,CK];omega⟩
theorem NR.n32{b:Nat}{s:AD}{v:AV}{l:List Nat}(h:NR b s v l):CV s v l:=by
 obtain⟨O,h1,_,_⟩:=h
 exact h1.n32
theorem NR.mono{b b':Nat}{s:AD}{v:AV}{l:List Nat}(h:NR b s v l)(k:b'≤b):NR b' s v l:=by
 obtain⟨O,h1,h2,h3,h4⟩:=h
 exact⟨O,h1,fun j hj=>fU k (h2 j hj),fun j hj=>fU k (h3 j hj),h4⟩
theorem NR.nil(b:Nat)(s:AD):NR b s (.slice none 0 (some 0)) []:=⟨[],CR.nil s 1,fun j hj=>(by cases hj),fun j hj=>(by cases hj),fun h=>absurd rfl h⟩
theorem NR.old{b:Nat}{s s':AD}{v:AV}{l:List Nat}(h:NR b s v l)(k:A9 s.next s s'):NR b s' v l:=by
 obtain⟨O,h1,h2,h3,h4⟩:=h
 refine⟨O,h1.frame k.1 (fun j hj=>?_),h2,h3,fun hne=>by obtain⟨i,q1,q2,q3⟩:=h4 hne;exact⟨i,q1,fV q2 k.1,q3.keep (k.2 i q2)⟩⟩
 refine k.2 j ?_
 rcases h1 with⟨a,rfl,_,_,_,h5⟩ | ⟨i,p,rfl,h6,_⟩
 ·cases a with
  | none=>cases hj
  | some io=>obtain⟨i,o⟩:=io;injection hj with hj;subst hj;exact(h5 i o rfl).1
 ·injection hj with hj
  subst hj
  rcases h6.ex with⟨e',_⟩ | ⟨_,_,k2,_⟩
  ·cases e'
  ·exact k2
theorem Sg:Bs Tryz.prog 30=true:=by kernel_rfl
theorem NB:Cm Tryz.prog 192 1=true:=by kernel_rfl
theorem ak:Ak Tryz.prog 30 0 (zipIdx [] [])=some (R 192 1 false []):=by kernel_rfl
theorem FM(x:Int):Ak Tryz.prog 30 1 (zipIdx [0] [.int .u32 x])=some (R 192 1 false [.int .u32 x]):=by kernel_rfl
theorem M0(x y:Int):Ak Tryz.prog 30 2 (zipIdx [0,1] [.int .u32 x,.int .u32 y])=some (R 192 1 false [.int .u32 x,.int .u32 y]):=by kernel_rfl
theorem Yy(l:List Nat):Ar (us l)=true:=by
 induction l with
 | nil=>rfl
 | cons x l ih=>show((BO x).isCell && Ar (us l))=true;rw[ih];rfl
theorem Yk{s:AD}{a:Option (Nat×Nat)}{cap:Option Nat}{l:List Nat}(h:Ah s.next s a (us l)):B1 Tryz.prog s 192 1 (.slice a l.length cap)=some (l.length,us l):=by
 cases l with
 | nil =>
  cases a with
  | none=>rfl
  | some io=>obtain⟨i,o⟩:=io;rfl
 | cons x l =>
  obtain⟨i,o,rfl,_,_⟩:=h 0 _ rfl
  have hld:=aN (o:=s.heap.get i) (us (x::l)) o (fun j u hj=>by
   obtain⟨i',o',e,_,h3⟩:=h j u hj
   injection e with e
   injection e with e1 e2
   subst e1;subst e2
   exact h3) (by simp[us])
  rw[CK]at hld
  show(QF s i o (x::l).length 1).bind _=_
  rw[show QF s i o (x::l).length 1=Be s i o ((x::l).length * 1)from by unfold QF;rw[Dm (show(x::l).length≠0 by simp)];rfl,fZ,Me,hld]
  rfl
theorem NI{s:AD}{i o:Nat}(hz:Be s i o 0=some []){ax:Option (Nat×Nat)}{m:Nat}{cx:Option Nat}{add:List AV}(hsrc:B1 Tryz.prog s 192 1 (.slice ax m cx)=some (m,add))(ha:add.length=m)(hc:Ar add=true)(hm:0<m)(hml:m≤100000000000):
  A8 Tryz.prog s [30,30] [.slice (some (i,o)) 0 (some 0),.slice ax m cx]=some (.slice (some (s.next,0)) m none,newObj s (R 192 1 true add)):=by
 rw[DC Tryz.underlying30 Bj NP (by omega) Sg hsrc hc (by omega) (by omega)]
 simp only[appTo,FZ,fY,L5 hm,cond_false,Nat.zero_mul,hz,Option.bind_some,B8,AG,NB,cond_true,List.nil_append]
 rfl
section
variable{E:Cf}{s:AD}
theorem Jh(hE:Al E){v:AV}{l:List Nat}(hv:CV s v l)(hl:l.length≤100000000000){K:AV→AD→Prop}(hK:∀s' v',A9 s.next s s'→NR s.next s' v' l→K v' s'):WF E 232 [v] K s:=by
  obtain⟨a,cap,rfl,hcap,hc⟩:=hv
  refine hE.go Rl (by decide) rfl ?_
  by_cases hnil:a=none
  · subst hnil
    have hl0:l=[]:=by
      cases l with
      | nil=>rfl
      | cons x l=>obtain⟨_,_,e,_⟩:=hc 0 _ rfl;cases e
    subst hl0
    have e1:AM Tryz.prog .eql 30 (.slice none 0 cap) (.slice none 0 (some 0))=some (.bool true):=by kernel_rfl
    simp only[ZM,MJ,MK,PC,List.length_nil,e1,Qa,Qb,Qc,Qd,Qe,Qf,Qg,Qh,Qi,Qj,Qk,Ql,Qm,Qn,true_and,and_true,Qo,Qp,Qq,Qr,Qs,Qt,Qu,Qv,Qw,Qx,Qy,Qz,Ra,Rb,Rc,Rd,Re,Rf,Rg,Rh,Ri,Rj,Rk,Rm,Rn,Ro,Rp,Rq,Rs,Ya,Yb,Yc,Rt,Ru,Za,Yd,Ye,Rx,Ry,Rz,Wa,Wb,Wc,Wd]
    exact hK s _ (A9.refl _ _) (NR.nil _ _)
  · obtain⟨⟨i,o⟩,rfl⟩:∃io,a=some io:=by cases a with | none=>exact absurd rfl hnil | some io=>exact⟨io,rfl⟩
    have e1:∀n,AM Tryz.prog .eql 30 (.slice (some (i,o)) n cap) (.slice none 0 (some 0))=some (.bool false):=fun n=>by kernel_rfl
    have ho:=A9.new s (R 192 1 false [])
    have hd:CR 192 (newObj s (R 192 1 false [])) (.slice (some (s.next,0)) 0 (some 0)) 0 1 [] []:=.inl ⟨some (s.next,0),rfl,rfl,rfl,fun e=>(by cases e),fun i o e=>by
      injection e with e
      injection e with e1 e2
      subst e1;subst e2
      exact⟨gC _,by rw[Me,AN,if_pos rfl];rfl⟩⟩
    have hc2:Ah (newObj s (R 192 1 false [])).next (newObj s (R 192 1 false [])) (some (i,o)) (us l):=(hc.old ho (fR _)).mono ho.1
    obtain⟨v',s',O',happ,hd',hn1,hn2,hf,hO,hsl⟩:=hd.append (xt:=30) Tryz.underlying30 Bj NP (by omega) Sg NB (Yk (cap:=cap) hc2) (by rw[CK];omega) (Yy l) (by omega) (by omega)
    simp only[ZM,MJ,MK,VJ,e1,ak,Xd,happ,Qa,Qb,Qc,Qd,Qe,Qf,Qg,Qh,Qi,Qj,Qk,Ql,Qm,Qn,true_and,and_true,Qo,Qp,Qq,Qr,Qs,Qt,Qu,Qv,Qw,Qx,Qy,Qz,Ra,Rb,Rc,Rd,Re,Rf,Rg,Rh,Ri,Rj,Rk,Rm,Rn,Ro,Rp,Rq,Rs,Ya,Yb,Yc,Rt,Ru,Za,Yd,Ye,Rx,Ry,Rz,Wa,Wb,Wc,Wd]
    have hsn:(newObj s (R 192 1 false [])).next=s.next+1:=rfl
    refine hK s' v' ⟨by omega,fun j hj=>by rw[hf j (by omega) (by simp),AN,if_neg (by omega)]⟩ ⟨O',by simpa using hd',fun j hj=>?_,fun j hj=>?_,fun hne=>?_⟩
    · rcases hO j hj with h | h
      · cases h
      · omega
    · rcases hsl j hj with h | h
      · injection h with h;omega
      · omega
    · have hlp : 0 < l.length := List.length_pos_iff.2 hne
      have h2:=NI (i:=s.next) (o:=0) (s:=newObj s (R 192 1 false [])) (by rw[Me,AN,if_pos rfl];rfl) (Yk (cap:=cap) hc2) (CK l) (Yy l) hlp (by omega)
      rw[h2]at happ
      injection happ with happ
      injection happ with e5 e6
      rw[← e5,← e6]
      exact⟨_,rfl,gC _,B5.of_R (by rw[AN,if_pos rfl])⟩
theorem Kl(l:List Nat)(x:Nat):C7 (l++[x])=if x=0 then C7 l else l++[x]:=by
 induction l with
 | nil=>by_cases h:x=0<;>simp[C7,h]
 | cons y l ih =>
  show(if y=0∧C7 (l++[x])=[]then []else y::C7 (l++[x]))=_
  rw[ih]
  by_cases h:x=0
  ·simp only[h,if_true];rfl
  ·simp[h]
theorem Lk{a:Option (Nat×Nat)}{cap:Option Nat}{l:List Nat}(hc:Ah s.next s a (us l))(hl:l.length≤100000000000){Q:Aq→Prop}(x1:AV)
  (hq:∀ (k:Nat) (y3:AV),k≤l.length→C7 l=l.take k→Q ⟨.exit 0,[.slice a l.length cap,x1,iv (k:Int),y3],[],s⟩):
  ∀ (k:Nat) (x3:AV),k≤l.length→C7 l=C7 (l.take k)→WC E none (.loop Hs) Q [.slice a l.length cap,x1,iv (k:Int),x3] [] s:=by
 intro k
 induction k with
 | zero =>
  intro x3 hk ht
  have d0:decide ((0:Int)<((0:Nat):Int))=false:=rfl
  refine WC.loop' ?_
  simp only[Hs,MC,Ry,d0,Qa,Qb,Qc,Qd,Qe,Qf,Qg,Qh,Qi,Qj,Qk,Ql,Qm,Qn,true_and,and_true,Qo,Qp,Qq,Qr,Qs,Qt,Qu,Qv,Qw,Qx,Qy,Qz,Ra,Rb,Rc,Rd,Re,Rf,Rg,Rh,Ri,Rj,Rk,Rm,Rn,Ro,Rp,Rq,Rs,Ya,Yb,Yc,Rt,Ru,Za,Yd,Ye,Rx,Ry,Rz,Wa,Wb,Wc,Wd]
  exact hq 0 _ hk (by rw[ht];rfl)
 | succ k ih =>
  intro x3 hk ht
  have hx:l[k]? = some l[k]:=fX (by omega)
  generalize l[k]=x at hx
  obtain⟨i,o,rfl,_,hload⟩:=CV.at hc hx
  have htk:l.take (k+1)=l.take k++[x]:=by rw[List.take_add_one,hx];rfl
  have d0:decide ((0:Int)<((k+1:Nat):Int))=true:=decide_eq_true (by omega)
  have e1:=Br Tryz.prog 3 ((k+1:Nat):Int) 1 ⟨by omega,by omega⟩
  have e2:((k+1:Nat):Int) - 1=(k:Int):=by omega
  have e3:=Ax (cap:=cap) (i:=i) (o:=o) Tryz.underlying30 Bj (show k<l.length by omega)
  have e4:AE Tryz.prog s 192 (.ptr (some (i,o+k * 1)))=some (BO x):=B9 EF (by rw[fZ];exact hload)
  have e5:AM Tryz.prog .eql 192 (BO x) (.int .u32 0)=some (.bool (decide (x=0))):=bu Tryz.prog 192 (b:=0) .u32
  refine WC.loop' ?_
  generalize hW:WC E none (Ab.loop Hs) Q=WW
  by_cases h0:x=0
  ·have d1:decide (x=0)=true:=decide_eq_true h0
   simp only[Hs,MC,UT,Ry,d0,e1,e2,e3,e4,e5,d1,Qa,Qb,Qc,Qd,Qe,Qf,Qg,Qh,Qi,Qj,Qk,Ql,Qm,Qn,true_and,and_true,Qo,Qp,Qq,Qr,Qs,Qt,Qu,Qv,Qw,Qx,Qy,Qz,Ra,Rb,Rc,Rd,Re,Rf,Rg,Rh,Ri,Rj,Rk,Rm,Rn,Ro,Rp,Rq,Rs,Ya,Yb,Yc,Rt,Ru,Za,Yd,Ye,Rx,Ry,Rz,Wa,Wb,Wc,Wd]
   rw[← hW]
   exact ih _ (by omega) (by rw[ht,htk,Kl,if_pos h0])
  ·have d1:decide (x=0)=false:=decide_eq_false h0
   simp only[Hs,MC,Ry,d0,e1,e2,e3,e4,e5,d1,Qa,Qb,Qc,Qd,Qe,Qf,Qg,Qh,Qi,Qj,Qk,Ql,Qm,Qn,true_and,and_true,Qo,Qp,Qq,Qr,Qs,Qt,Qu,Qv,Qw,Qx,Qy,Qz,Ra,Rb,Rc,Rd,Re,Rf,Rg,Rh,Ri,Rj,Rk,Rm,Rn,Ro,Rp,Rq,Rs,Ya,Yb,Yc,Rt,Ru,Za,Yd,Ye,Rx,Ry,Rz,Wa,Wb,Wc,Wd]
   exact hq (k+1) _ hk (by rw[ht,htk,Kl,if_neg h0])
theorem DL(l:List Nat):(C7 l).length≤l.length:=by
 induction l with
 | nil=>exact fR _
 | cons x l ih=>unfold C7;split<;>simp<;>omega
theorem Bz(hE:Al E){v:AV}{l:List Nat}(hv:CV s v l)(hl:l.length≤100000000000){K:AV→AD→Prop}(hK:∀s' v',A9 s.next s s'→NR s.next s' v' (C7 l)→K v' s'):WF E 177 [v] K s:=by
 obtain⟨a,cap,rfl,hcap,hc⟩:=hv
 refine hE.go RZ (by decide) rfl ?_
 simp only[cH,O0,O1,AY Tryz.underlying30,Qa,Qb,Qc,Qd,Qe,Qf,Qg,Qh,Qi,Qj,Qk,Ql,Qm,Qn,true_and,and_true,Qo,Qp,Qq,Qr,Qs,Qt,Qu,Qv,Qw,Qx,Qy,Qz,Ra,Rb,Rc,Rd,Re,Rf,Rg,Rh,Ri,Rj,Rk,Rm,Rn,Ro,Rp,Rq,Rs,Ya,Yb,Yc,Rt,Ru,Za,Yd,Ye,Rx,Ry,Rz,Wa,Wb,Wc,Wd]
 refine Lk hc hl _ (fun k y3 hk ht=>?_) l.length _ (fR _) (by rw[List.take_length])
 have e1:=XF Tryz.underlying30 Bj hcap hk
 simp only[O3,e1,if_true,Qa,Qb,Qc,Qd,Qe,Qf,Qg,Qh,Qi,Qj,Qk,Ql,Qm,Qn,true_and,and_true,Qo,Qp,Qq,Qr,Qs,Qt,Qu,Qv,Qw,Qx,Qy,Qz,Ra,Rb,Rc,Rd,Re,Rf,Rg,Rh,Ri,Rj,Rk,Rm,Rn,Ro,Rp,Rq,Rs,Ya,Yb,Yc,Rt,Ru,Za,Yd,Ye,Rx,Ry,Rz,Wa,Wb,Wc,Wd]
 refine Jh hE (CV.take hcap hc hk) (by rw[fx];omega) fun s' v' h1 h2=>?_
 simp only[Qa,Qb,Qc,Qd,Qe,Qf,Qg,Qh,Qi,Qj,Qk,Ql,Qm,Qn,true_and,and_true,Qo,Qp,Qq,Qr,Qs,Qt,Qu,Qv,Qw,Qx,Qy,Qz,Ra,Rb,Rc,Rd,Re,Rf,Rg,Rh,Ri,Rj,Rk,Rm,Rn,Ro,Rp,Rq,Rs,Ya,Yb,Yc,Rt,Ru,Za,Yd,Ye,Rx,Ry,Rz,Wa,Wb,Wc,Wd]
 rw[← ht]at h2
 exact hK s' v' h1 h2
theorem St(hE:Al E){K:AV→AD→Prop}(hK:K (.slice none 0 (some 0)) s):WF E 232 [.slice none 0 (some 0)] K s:=by
 refine hE.go Rl (by decide) rfl ?_
 have e1:AM Tryz.prog .eql 30 (.slice none 0 (some 0)) (.slice none 0 (some 0))=some (.bool true):=by kernel_rfl
 simp only[ZM,MJ,MK,PC,e1,Qa,Qb,Qc,Qd,Qe,Qf,Qg,Qh,Qi,Qj,Qk,Ql,Qm,Qn,true_and,and_true,Qo,Qp,Qq,Qr,Qs,Qt,Qu,Qv,Qw,Qx,Qy,Qz,Ra,Rb,Rc,Rd,Re,Rf,Rg,Rh,Ri,Rj,Rk,Rm,Rn,Ro,Rp,Rq,Rs,Ya,Yb,Yc,Rt,Ru,Za,Yd,Ye,Rx,Ry,Rz,Wa,Wb,Wc,Wd]
 exact hK
theorem Ys(hE:Al E){K:AV→AD→Prop}(hK:K (.slice none 0 (some 0)) s):WF E 177 [.slice none 0 (some 0)] K s:=by
 refine hE.go RZ (by decide) rfl ?_
 have hn:=(NR.nil 0 s).n32
 obtain⟨a,cap,e,hcap,hc⟩:=hn
 injection e with e1 e2 e3
 subst e1;subst e3
 simp only[cH,O0,O1,AY Tryz.underlying30,Qa,Qb,Qc,Qd,Qe,Qf,Qg,Qh,Qi,Qj,Qk,Ql,Qm,Qn,true_and,and_true,Qo,Qp,Qq,Qr,Qs,Qt,Qu,Qv,Qw,Qx,Qy,Qz,Ra,Rb,Rc,Rd,Re,Rf,Rg,Rh,Ri,Rj,Rk,Rm,Rn,Ro,Rp,Rq,Rs,Ya,Yb,Yc,Rt,Ru,Za,Yd,Ye,Rx,Ry,Rz,Wa,Wb,Wc,Wd]
 refine Lk (l:=[]) hc (by simp) _ (fun k y3 hk ht=>?_) 0 _ (fR _) rfl
 have hk0:k=0:=by simpa using hk
 subst hk0
 have e1:=XF Tryz.underlying30 Bj hcap (fR 0)
 simp only[List.length_nil]at e1
 simp only[O3,List.length_nil,e1,if_true,Qa,Qb,Qc,Qd,Qe,Qf,Qg,Qh,Qi,Qj,Qk,Ql,Qm,Qn,true_and,and_true,Qo,Qp,Qq,Qr,Qs,Qt,Qu,Qv,Qw,Qx,Qy,Qz,Ra,Rb,Rc,Rd,Re,Rf,Rg,Rh,Ri,Rj,Rk,Rm,Rn,Ro,Rp,Rq,Rs,Ya,Yb,Yc,Rt,Ru,Za,Yd,Ye,Rx,Ry,Rz,Wa,Wb,Wc,Wd]
 refine St hE ?_
 simp only[Qa,Qb,Qc,Qd,Qe,Qf,Qg,Qh,Qi,Qj,Qk,Ql,Qm,Qn,true_and,and_true,Qo,Qp,Qq,Qr,Qs,Qt,Qu,Qv,Qw,Qx,Qy,Qz,Ra,Rb,Rc,Rd,Re,Rf,Rg,Rh,Ri,Rj,Rk,Rm,Rn,Ro,Rp,Rq,Rs,Ya,Yb,Yc,Rt,Ru,Za,Yd,Ye,Rx,Ry,Rz,Wa,Wb,Wc,Wd]
 exact hK
end
theorem Bd{s:AD}{n:Nat}:Ae Tryz.prog s 173 192 (AU n)=some (BO (n % 4294967296)):=by
 have:Ae Tryz.prog s 173 192 (AU n)=some (.int .u32 (CL .u32 (n:Int))):=by
  simp[Ae,Tryz.underlying173,Tryz.underlying192]
 rw[this,Td]
 rfl
theorem BP{s:AD}{n:Nat}(h:n<4294967296):Ae Tryz.prog s 192 173 (BO n)=some (AU n):=by
 have:Ae Tryz.prog s 192 173 (BO n)=some (.int .u64 (CL .u64 (n:Int))):=by
  simp[Ae,Tryz.underlying173,Tryz.underlying192]
 rw[this,Ko (by omega)]
theorem HZ      {s : AD}  {v : AV} {l : List Nat} {O : List Nat} (hd : CR   192 s v l.length 1 (us l) O) (x : Nat) (hl : l.length ≤ 100000000000) :
    ∃v' s' O',A8 Tryz.prog (newObj s (R 192 1 false [BO x])) [30,30] [v,.slice (some (s.next,0)) 1 (some 1)]=some (v',s')∧CR 192 s' v' (l++[x]).length 1 (us (l++[x])) O'∧s.next≤s'.next ∧
      (∀j,j<s.next→j ∉ O→s'.heap.get j=s.heap.get j)∧(∀j∈O',j∈O∨s.next≤j)∧(∀j,C6 v'=some j→C6 v=some j∨s.next≤j):=by
  have hsn:(newObj s (R 192 1 false [BO x])).next=s.next+1:=rfl
  have Pg:CR 192 (newObj s (R 192 1 false [BO x])) v l.length 1 (us l) O:=hd.frame (by omega) (fun j hj=>by
    rw[AN,if_neg]
    intro e
    subst e
    rcases hd with⟨a,rfl,_,_,_,h5⟩ | ⟨i,p,rfl,h6,_⟩
    · cases a with
      | none=>cases hj
      | some io =>
        obtain⟨i,o⟩:=io
        injection hj with hj
        have:=(h5 i o rfl).1
        omega
    · injection hj with hj
      rcases h6.ex with⟨e',_⟩ | ⟨_,_,k2,_⟩
      · cases e'
      · omega)
  have hsrc:B1 Tryz.prog (newObj s (R 192 1 false [BO x])) 192 1 (.slice (some (s.next,0)) 1 (some 1))=some (1,[BO x]):=M3 192 1 (by rw[AN,if_pos rfl];rfl) rfl
  obtain⟨v',s',O',happ,hd',hn1,hn2,hf,hO,hsl⟩:=Pg.append (xt:=30) Tryz.underlying30 Bj NP (by omega) Sg NB hsrc rfl rfl (by omega) (by omega)
  refine⟨v',s',O',happ,?_,by omega,fun j hj hjO=>by rw[hf j (by omega) hjO,AN,if_neg (by omega)],fun j hj=>(hO j hj).imp id (fun h=>by omega),fun j hj=>(hsl j hj).imp id (fun h=>by omega)⟩
  rw[Lo,fg]
  exact hd'
theorem Hp.dest{s:AD}{v:AV}{n:Nat}{cs:List AV}{O:List Nat}(h:Hp 192 1 s v n cs O):CR 192 s v n 1 cs O:=by
 rcases h with⟨rfl,rfl,rfl,rfl⟩ | ⟨i,p,h1,h2,h3⟩
 ·exact CR.nil s 1
 ·exact .inr ⟨i,p,h1,h2,h3⟩
def NW(b:Nat)(s:AD)(v:AV)(l:List Nat):Prop:=∃O,Hp 192 1 s v l.length (us l) O∧∀j∈O,b≤j
theorem NW.n32'{b:Nat}{s:AD}{v:AV}{l:List Nat}(h:NW b s v l):CV s v l:=by
 obtain⟨O,h1,h2⟩:=h
 exact h1.dest.n32
theorem NW.own{b:Nat}{s:AD}{v:AV}{l:List Nat}(h:NW b s v l)(h0:l≠[]):∃i p,v=.slice (some (i,0)) l.length none∧b≤i∧i<s.next∧B5 s i (us l) p∧∀q,p=some q→b≤q∧q<s.next∧q≠i:=by
  obtain⟨O,h1,h2⟩:=h
  rcases h1 with⟨_,h3,_⟩ | ⟨i,p,rfl,h3,rfl⟩
  · exact absurd (gc h3) h0
  · rcases h3.ex with ⟨e, _⟩ | ⟨_, _, k2, k3, r, k4, k5, _, k7, k8, k9, _⟩
    · cases e
    · refine⟨i,p,rfl,h2 i (by simp),k2,⟨r,k4,k5,by rw[k7];rfl,k8,.inr k9⟩,fun q hq=>?_⟩
      obtain⟨_,q2,q3⟩:=k3 q hq
      exact⟨h2 q (by simp[hq]),q2,q3⟩
theorem OC{s:AD}{v:AV}{l:List Nat}{O:List Nat}(hd:Hp 192 1 s v l.length (us l) O)(x:Nat)(hl:l.length≤100000000000):
  ∃v' s' O',A8 Tryz.prog (newObj s (R 192 1 false [BO x])) [30,30] [v,.slice (some (s.next,0)) 1 (some 1)]=some (v',s')∧Hp 192 1 s' v' (l++[x]).length (us (l++[x])) O'∧s.next≤s'.next ∧
   (∀j,j<s.next→j ∉ O→s'.heap.get j=s.heap.get j)∧(∀j∈O',j∈O∨s.next≤j)∧(∀j,C6 v'=some j→C6 v=some j∨s.next≤j):=by
 have hsn:(newObj s (R 192 1 false [BO x])).next=s.next+1:=rfl
 have Pg:=hd.frame (s':=newObj s (R 192 1 false [BO x])) (by omega) (fun j hj=>by rw[AN,if_neg (by have:=hd.lt j hj;omega)])
 have hsrc:B1 Tryz.prog (newObj s (R 192 1 false [BO x])) 192 1 (.slice (some (s.next,0)) 1 (some 1))=some (1,[BO x]):=M3 192 1 (by rw[AN,if_pos rfl];rfl) rfl
 obtain⟨v',s',O',happ,hb',hn',hf,hO,hsl⟩:=Pg.append (xt:=30) (m:=1) Tryz.underlying30 Bj NP (by omega) Sg NB (by omega) hsrc rfl rfl (by omega) (by omega)
 refine⟨v',s',O',happ,?_,by omega,fun j hj hjO=>by rw[hf j (by omega) hjO,AN,if_neg (by omega)],fun j hj=>(hO j hj).imp id (fun h=>by omega),fun j hj=>?_⟩
 ·rw[Lo,fg]
  exact hb'
 ·rw[hsl]at hj
  injection hj with hj
  exact .inr (by omega)
section
variable{E:Cf}{s:AD}
theorem TB(n:Nat):AC [n % 4294967296,n / 4294967296]=n:=by
 show n % 4294967296+LB * (n / 4294967296+LB * 0)=n
 rw[show LB=4294967296 from rfl]
 omega
theorem SC(hE:Al E){n:Nat}(hn:n<18446744073709551616){K:AV→AD→Prop}(hK:∀s' v',A9 s.next s s'→NR s.next s' v' (AI n)→K v' s'):WF E 131 [AU n] K s:=by
 refine hE.go ZS (by decide) rfl ?_
 have e1:=Io Tryz.prog 173 hn
 have e2:=Hm Tryz.prog 173 (a:=n) (k:=.u64) (n:=32) (by decide)
 have e2:AM Tryz.prog .shr 173 (AU n) (.int .u64 32)=some (AU (n / 4294967296)):=e2
 have e3:n % 4294967296 % 4294967296=n % 4294967296:=gn _ _
 have e4:n / 4294967296 % 4294967296=n / 4294967296:=fy (by omega)
 have hrow:CV (newObj s (R 192 1 false [BO (n % 4294967296),BO (n / 4294967296)])) (.slice (some (s.next,0)) 2 (some 2)) [n % 4294967296,n / 4294967296]:=by
  refine⟨some (s.next,0),some 2,rfl,.inl ⟨2,rfl,fR _,fun e=>by cases e⟩,?_⟩
  exact MQ (e:=192) (sz:=1) (sp:=false) (by rw[AN,if_pos rfl];rfl) (gC _)
 simp only[dU,Tu,Tv,e1,e2,Bd,e3,e4,M0,Xd,Qa,Qb,Qc,Qd,Qe,Qf,Qg,Qh,Qi,Qj,Qk,Ql,Qm,Qn,true_and,and_true,Qo,Qp,Qq,Qr,Qs,Qt,Qu,Qv,Qw,Qx,Qy,Qz,Ra,Rb,Rc,Rd,Re,Rf,Rg,Rh,Ri,Rj,Rk,Rm,Rn,Ro,Rp,Rq,Rs,Ya,Yb,Yc,Rt,Ru,Za,Yd,Ye,Rx,Ry,Rz,Wa,Wb,Wc,Wd]
 refine Bz hE hrow (by simp) fun s' v' h1 h2=>?_
 have hs:BY [n % 4294967296,n / 4294967296]:=fun x hx=>by
  have hB:LB=4294967296:=rfl
  simp only[gg,List.not_mem_nil,or_false]at hx
  rcases hx with rfl | rfl
  ·exact fo _ (by decide)
  ·omega
 rw[BJ hs,TB]at h2
 simp only[Qa,Qb,Qc,Qd,Qe,Qf,Qg,Qh,Qi,Qj,Qk,Ql,Qm,Qn,true_and,and_true,Qo,Qp,Qq,Qr,Qs,Qt,Qu,Qv,Qw,Qx,Qy,Qz,Ra,Rb,Rc,Rd,Re,Rf,Rg,Rh,Ri,Rj,Rk,Rm,Rn,Ro,Rp,Rq,Rs,Ya,Yb,Yc,Rt,Ru,Za,Yd,Ye,Rx,Ry,Rz,Wa,Wb,Wc,Wd]
 exact hK s' v' ((A9.new s _).trans (h1.mono (gD _))) (h2.mono (gD _))
theorem ZL{x:Nat}(hx:x<4294967296){a:Option (Nat×Nat)}{cap:Option Nat}{l:List Nat}{b:Nat}(hc:Ah b s a (us l))(hb:b≤s.next)(hl:l.length≤10000000000)(hs:BY l){T:List Nat}{Q:Aq→Prop}(x0 x3:AV)
  (hq:∀ (s':AD) (c:Nat) (v4:AV) (d O:List Nat) (y5 y8 y9:AV),A9 s.next s s'→c<4294967296→d++[c]=T→Hp 192 1 s' v4 d.length (us d) O→(∀j∈O,s.next≤j)→(∀j,C6 v4=some j→s.next≤j) →
   Q ⟨.exit 0,[x0,AU x,AU c,x3,v4,y5,.slice a l.length cap,iv (l.length:Int),y8,y9],[],s'⟩):
  ∀ (r:List Nat) (k:Nat) (s':AD) (c:Nat) (v4:AV) (d O:List Nat) (x5 x9:AV),l.drop k=r→k≤l.length→d.length=k→A9 s.next s s'→c<4294967296→d++It r x c=T→Hp 192 1 s' v4 d.length (us d) O→(∀j∈O,s.next≤j)→(∀j,C6 v4=some j→s.next≤j) →
   WC E none (.loop Jb) Q [x0,AU x,AU c,x3,v4,x5,.slice a l.length cap,iv (l.length:Int),iv (k:Int),x9] [] s':=by
 intro r
 induction r with
 | nil =>
  intro k s' c v4 d O x5 x9 hd hk hdl ho hc' hT hD hO hsl
  have hkl:k=l.length:=by
   have:=congrArg List.length hd
   simp at this
   omega
  subst hkl
  refine WC.loop' ?_
  simp only[Jb,PD,Rx,Int.lt_irrefl,decide_false,Qa,Qb,Qc,Qd,Qe,Qf,Qg,Qh,Qi,Qj,Qk,Ql,Qm,Qn,true_and,and_true,Qo,Qp,Qq,Qr,Qs,Qt,Qu,Qv,Qw,Qx,Qy,Qz,Ra,Rb,Rc,Rd,Re,Rf,Rg,Rh,Ri,Rj,Rk,Rm,Rn,Ro,Rp,Rq,Rs,Ya,Yb,Yc,Rt,Ru,Za,Yd,Ye,Rx,Ry,Rz,Wa,Wb,Wc,Wd]
  exact hq s' c v4 d O _ _ _ ho hc' hT hD hO hsl
 | cons y r ih =>
  intro k s' c v4 d O x5 x9 hd hk hdl ho hc' hT hD hO hsl
  have hlt:k<l.length:=by
   rcases fS k l.length with h' | h'
   ·exact h'
   ·rw[gQ h']at hd;cases hd
  have hy:l[k]? = some y:=by
   have:=congrArg (fun l=>l[0]?) hd
   simpa using this
  have hd':l.drop (k+1)=r:=by
   have:=congrArg (List.drop 1) hd
   simpa[gY]using this
  have hys:y<4294967296:=hs y (fv hy)
  obtain⟨i,o,rfl,hi,hload⟩:=hc k _ (C9 hy)
  have hkk:decide ((k:Int)<(l.length:Int))=true:=decide_eq_true (by omega)
  have e1:=Ax (cap:=cap) (i:=i) (o:=o) Tryz.underlying30 Bj hlt
  have e2:AE Tryz.prog s' 192 (.ptr (some (i,o+k * 1)))=some (BO y):=B9 EF (by rw[fZ,DT (ho.2 i (by omega))];exact hload)
  have hxy:x * y≤4294967295 * 4294967295:=gW (by omega) (by omega)
  have e3:=Oc Tryz.prog 173 (a:=x) (b:=y) (by omega)
  have e4:=F4 Tryz.prog 173 (a:=c) (b:=x * y) (by omega)
  have e5:=Io Tryz.prog 173 (a:=c+x * y) (by omega)
  have e6:(c+x * y) % 4294967296 % 4294967296=(c+x * y) % 4294967296:=gn _ _
  have e7:AM Tryz.prog .shr 173 (AU (c+x * y)) (.int .u64 32)=some (AU ((c+x * y) / 4294967296)):=Hm Tryz.prog 173 (k:=.u64) (n:=32) (by decide)
  have e8:=By Tryz.prog 3 (k:Int) 1 ⟨by omega,by omega⟩
  have e8':((k:Int)+1)=((k+1:Nat):Int):=by omega
  obtain⟨v',s2,O',happ,hD',hn',hf',hO',hsl'⟩:=OC hD ((c+x * y) % 4294967296) (by omega)
  refine WC.loop' ?_
  generalize hW:WC E none (Ab.loop Jb) Q=WW
  simp only[Jb,PD,VN,VO,VP,VQ,VR,Rx,hkk,e1,e2,BP hys,e3,e4,e5,Bd,e6,FM,Xd,happ,e7,e8,e8',Qa,Qb,Qc,Qd,Qe,Qf,Qg,Qh,Qi,Qj,Qk,Ql,Qm,Qn,true_and,and_true,Qo,Qp,Qq,Qr,Qs,Qt,Qu,Qv,Qw,Qx,Qy,Qz,Ra,Rb,Rc,Rd,Re,Rf,Rg,Rh,Ri,Rj,Rk,Rm,Rn,Ro,Rp,Rq,Rs,Ya,Yb,Yc,Rt,Ru,Za,Yd,Ye,Rx,Ry,Rz,Wa,Wb,Wc,Wd]
  rw[← hW]
  refine ih (k+1) s2 ((c+x * y) / 4294967296) v' (d++[(c+x * y) % 4294967296]) O' _ _ hd' hlt (by rw[fg,hdl];rfl) ⟨by have:=ho.1;omega,fun j hj=>by rw[hf' j (by have:=ho.1;omega) (fun hjO=>by have:=hO j hjO;omega)];exact ho.2 j hj⟩ (by omega) ?_ hD' (fun j hj=>(hO' j hj).elim (hO j) (fun h=>by have:=ho.1;omega)) (fun j hj=>(hsl' j hj).elim (hsl j) (fun h=>by have:=ho.1;omega))
  rw[← hT,ft]
  rfl
theorem dS(hE:Al E){v:AV}{l:List Nat}(hv:CV s v l)(hl:l.length≤10000000000)(hs:BY l){x c:Nat}(hx:x<4294967296)(hc:c<4294967296){K:AV→AD→Prop}(hK:∀s' v',A9 s.next s s'→NW s.next s' v' (It l x c)→K v' s'):
  WF E 234 [v,AU x,AU c] K s:=by
 obtain⟨a,cap,rfl,hcap,hcc⟩:=hv
 refine hE.go Zk (by decide) rfl ?_
 simp only[du,VK,VL,VM,AY Tryz.underlying30,Qa,Qb,Qc,Qd,Qe,Qf,Qg,Qh,Qi,Qj,Qk,Ql,Qm,Qn,true_and,and_true,Qo,Qp,Qq,Qr,Qs,Qt,Qu,Qv,Qw,Qx,Qy,Qz,Ra,Rb,Rc,Rd,Re,Rf,Rg,Rh,Ri,Rj,Rk,Rm,Rn,Ro,Rp,Rq,Rs,Ya,Yb,Yc,Rt,Ru,Za,Yd,Ye,Rx,Ry,Rz,Wa,Wb,Wc,Wd]
 refine ZL hx hcc (fR _) hl hs (T:=It l x c) _ _ (fun s' c' v4 d O y5 y8 y9 ho hc' hT hD hO hsl=>?_) l 0 s c _ [] [] _ _ rfl (fa _) rfl (A9.refl _ _) hc rfl (Hp.nil _ _ s) (fun j hj=>(by cases hj)) (fun j hj=>(by cases hj))
 have hdl:d.length=l.length:=by
  have:=congrArg List.length hT
  have h2:∀ (l:List Nat) (c:Nat),(It l x c).length=l.length+1:=by
   intro l
   induction l with
   | nil=>intro c;rfl
   | cons y l ih=>intro c;show(It l x _).length+1=_;rw[ih];rfl
  rw[fg,h2]at this
  simpa using this
 obtain⟨v',s2,O',happ,hD',hn',hf',hO',hsl'⟩:=OC hD c' (by omega)
 have e6:c' % 4294967296=c':=fy hc'
 simp only[RN,Bd,e6,FM,Xd,happ,if_true,Qa,Qb,Qc,Qd,Qe,Qf,Qg,Qh,Qi,Qj,Qk,Ql,Qm,Qn,true_and,and_true,Qo,Qp,Qq,Qr,Qs,Qt,Qu,Qv,Qw,Qx,Qy,Qz,Ra,Rb,Rc,Rd,Re,Rf,Rg,Rh,Ri,Rj,Rk,Rm,Rn,Ro,Rp,Rq,Rs,Ya,Yb,Yc,Rt,Ru,Za,Yd,Ye,Rx,Ry,Rz,Wa,Wb,Wc,Wd]
 rw[hT]at hD'
 refine hK s2 v' ⟨by have:=ho.1;omega,fun j hj=>by rw[hf' j (by have:=ho.1;omega) (fun hjO=>by have:=hO j hjO;omega)];exact ho.2 j hj⟩ ⟨O',hD',fun j hj=>(hO' j hj).elim (hO j) (fun h=>by have:=ho.1;omega)⟩
theorem bv(hE:Al E){v:AV}{l:List Nat}(hv:CV s v l)(hl:l.length≤10000000000)(hs:BY l){n:Nat}(hn:n<32){K:AV→AD→Prop}(hK:∀s' v',A9 s.next s s'→NW s.next s' v' (It l (2 ^ n) 0)→K v' s'):WF E 182 [v,AU n] K s:=by
 have h2:2 ^ n≤2 ^ 31:=gX (by decide) (by omega)
 have e31:(2:Nat) ^ 31=2147483648:=by decide
 rw[e31]at h2
 have e1:AM Tryz.prog .shl 173 (.int .u64 1) (AU n)=some (AU (2 ^ n)):=by
  have:=Lm Tryz.prog 173 (a:=1) (k:=.u64) (n:=n) (by omega) (by rw[Nat.one_mul];omega)
  rw[Nat.one_mul]at this
  exact this
 refine hE.go Zc (by decide) rfl ?_
 simp only[dg,Ui,Uj,e1,Qa,Qb,Qc,Qd,Qe,Qf,Qg,Qh,Qi,Qj,Qk,Ql,Qm,Qn,true_and,and_true,Qo,Qp,Qq,Qr,Qs,Qt,Qu,Qv,Qw,Qx,Qy,Qz,Ra,Rb,Rc,Rd,Re,Rf,Rg,Rh,Ri,Rj,Rk,Rm,Rn,Ro,Rp,Rq,Rs,Ya,Yb,Yc,Rt,Ru,Za,Yd,Ye,Rx,Ry,Rz,Wa,Wb,Wc,Wd]
 refine dS hE hv hl hs (show 2 ^ n<4294967296 by omega) (show 0<4294967296 by decide) fun s' v' h1 h2=>?_
 simp only[Qa,Qb,Qc,Qd,Qe,Qf,Qg,Qh,Qi,Qj,Qk,Ql,Qm,Qn,true_and,and_true,Qo,Qp,Qq,Qr,Qs,Qt,Qu,Qv,Qw,Qx,Qy,Qz,Ra,Rb,Rc,Rd,Re,Rf,Rg,Rh,Ri,Rj,Rk,Rm,Rn,Ro,Rp,Rq,Rs,Ya,Yb,Yc,Rt,Ru,Za,Yd,Ye,Rx,Ry,Rz,Wa,Wb,Wc,Wd]
 exact hK s' v' h1 h2
end
def GQ(a b:Nat):Int:=if a<b then -1 else if b<a then 1 else 0
theorem J1:∀ (n:Nat),n≠0→LB ^ ((AI n).length - 1)≤n:=by
  intro n
  induction n using Nat.strongRecOn with
  | _ n ih =>
    intro h
    rw[Dv h,gH,gv]
    by_cases h2:n / LB=0
    · rw[h2,A7]
      show LB ^ 0≤n
      rw[Nat.pow_zero];omega
    · have := ih (n / LB) (Nat.div_lt_self (by omega) (by decide)) h2
      have hne:(AI (n / LB)).length≠0:=fun e=>Ca h2 (gc e)
      obtain⟨m,hm⟩:∃m,(AI (n / LB)).length=m+1:=⟨(AI (n / LB)).length - 1,by omega⟩
      rw[hm,gv]at this
      rw[hm,gG]
      exact fU (fj LB this) (Nat.div_mul_le_self n LB)
theorem Xk(n:Nat):n<LB ^ (AI n).length:=by
 have:=CE (AR n)
 rw[AZ]at this
 exact this
theorem Cz{a b:Nat}(h:(AI a).length<(AI b).length):a<b:=by
 have hb:b≠0:=fun e=>by subst e;rw[A7]at h;simp at h
 have h1:=Xk a
 have h2:=J1 b hb
 have:LB ^ (AI a).length≤LB ^ ((AI b).length - 1):=gX A4 (by omega)
 omega
theorem Nu{la lb:List Nat}{k x y:Nat}(hl:la.length=lb.length)(ha:BY la)(hb:BY lb)(hx:la[k]? = some x)(hy:lb[k]? = some y)(hd:la.drop (k+1)=lb.drop (k+1))(h:x<y):AC la<AC lb:=by
 have hka:k<la.length:=by
  rcases fS k la.length with h' | h'
  ·exact h'
  ·rw[ff h']at hx;cases hx
 have e:∀ (l:List Nat) (z:Nat),l[k]? = some z→k<l.length→AC l=AC (l.take k)+LB ^ k * (z+LB * AC (l.drop (k+1))):=by
  intro l z hz hkl
  have h1:=BA (l.take k) (l.drop k)
  rw[gw,fx,gZ (by omega),Eb hz]at h1
  exact h1
 rw[e la x hx hka,e lb y hy (by omega),hd]
 have h1:=CE (ha.take k)
 rw[fx,gZ (by omega)]at h1
 generalize LB * AC (lb.drop (k+1))=z
 have h2:LB ^ k * (x+z+1)≤LB ^ k * (y+z):=fz _ (by omega)
 rw[fw,fZ]at h2
 omega
section
variable{E:Cf}{s:AD}
theorem W6       {a b : Option (Nat × Nat)} {ca cb : Option Nat} {la lb : List Nat} (hl : la.length = lb.length) (ha : BY  la) (hb : BY  lb) (hca : Ah      s.next s a (us la)) (hcb : Ah      s.next s b (us lb)) (h63 : la.length ≤ 100000000000) {Q : Aq   → Prop} (x2 x4 x5 : AV)
    (hq:la=lb→∀y3 y6 y7 y8,Q ⟨.exit 1,[.slice a la.length ca,.slice b lb.length cb,x2,y3,x4,x5,y6,y7,y8],[],s⟩)
    (hr:∀z y3 y6 y7 y8,z=GQ (AC la) (AC lb)→Q ⟨.ret,[.slice a la.length ca,.slice b lb.length cb,iv z,y3,x4,x5,y6,y7,y8],[],s⟩):
    ∀ (k:Nat) (x6 x7 x8:AV),k≤la.length→la.drop k=lb.drop k→WC E none (.loop E5) Q [.slice a la.length ca,.slice b lb.length cb,x2,iv ((k:Int) - 1),x4,x5,x6,x7,x8] [] s:=by
  intro k
  induction k with
  | zero =>
    intro x6 x7 x8 hk hd
    refine WC.loop' ?_
    have d0:decide ((0:Int)≤((0:Nat):Int) - 1)=false:=rfl
    simp only[E5,JV,Wa,d0,Qa,Qb,Qc,Qd,Qe,Qf,Qg,Qh,Qi,Qj,Qk,Ql,Qm,Qn,true_and,and_true,Qo,Qp,Qq,Qr,Qs,Qt,Qu,Qv,Qw,Qx,Qy,Qz,Ra,Rb,Rc,Rd,Re,Rf,Rg,Rh,Ri,Rj,Rk,Rm,Rn,Ro,Rp,Rq,Rs,Ya,Yb,Yc,Rt,Ru,Za,Yd,Ye,Rx,Ry,Rz,Wa,Wb,Wc,Wd]
    exact hq (by simpa using hd) _ _ _ _
  | succ k ih =>
    intro x6 x7 x8 hk hd
    have hx:la[k]? = some la[k]:=fX (by omega)
    generalize la[k]=x at hx
    have hy:lb[k]? = some (lb[k]'(by omega)):=fX (by omega)
    generalize lb[k]'(by omega)=y at hy
    obtain⟨i,o,rfl,_,hload⟩:=hca k _ (C9 hx)
    obtain⟨i2,o2,rfl,_,hload2⟩:=hcb k _ (C9 hy)
    have e0:((k+1:Nat):Int) - 1=(k:Int):=by omega
    have d0:decide ((0:Int)≤(k:Int))=true:=decide_eq_true (by omega)
    have e1:=Ax (cap:=ca) (i:=i) (o:=o) Tryz.underlying30 Bj (show k<la.length by omega)
    have e2:AE Tryz.prog s 192 (.ptr (some (i,o+k * 1)))=some (BO x):=B9 EF (by rw[fZ];exact hload)
    have e3:=Ax (cap:=cb) (i:=i2) (o:=o2) Tryz.underlying30 Bj (show k<lb.length by omega)
    have e4:AE Tryz.prog s 192 (.ptr (some (i2,o2+k * 1)))=some (BO y):=B9 EF (by rw[fZ];exact hload2)
    have e5:=eg Tryz.prog 192 (a:=x) (b:=y) .u32
    have e6:=Ll Tryz.prog 192 (a:=x) (b:=y) .u32
    have e7:=Br Tryz.prog 3 (k:Int) 1 ⟨by omega,by omega⟩
    refine WC.loop' ?_
    generalize hW:WC E none (Ab.loop E5) Q=WW
    rw[e0]
    by_cases h1:x<y
    · have d1:decide (x<y)=true:=decide_eq_true h1
      simp only[E5,JV,MF,UZ,Wa,d0,e1,e2,e3,e4,e5,d1,Qa,Qb,Qc,Qd,Qe,Qf,Qg,Qh,Qi,Qj,Qk,Ql,Qm,Qn,true_and,and_true,Qo,Qp,Qq,Qr,Qs,Qt,Qu,Qv,Qw,Qx,Qy,Qz,Ra,Rb,Rc,Rd,Re,Rf,Rg,Rh,Ri,Rj,Rk,Rm,Rn,Ro,Rp,Rq,Rs,Ya,Yb,Yc,Rt,Ru,Za,Yd,Ye,Rx,Ry,Rz,Wa,Wb,Wc,Wd]
      refine hr _ _ _ _ _ ?_
      have:=Nu hl ha hb hx hy hd h1
      unfold GQ
      rw[if_pos this]
    · have d1:decide (x<y)=false:=decide_eq_false h1
      by_cases h2:y<x
      · have d2:decide (y<x)=true:=decide_eq_true h2
        simp only[E5,JV,MF,MD,RH,Wa,d0,e1,e2,e3,e4,e5,e6,d1,d2,Qa,Qb,Qc,Qd,Qe,Qf,Qg,Qh,Qi,Qj,Qk,Ql,Qm,Qn,true_and,and_true,Qo,Qp,Qq,Qr,Qs,Qt,Qu,Qv,Qw,Qx,Qy,Qz,Ra,Rb,Rc,Rd,Re,Rf,Rg,Rh,Ri,Rj,Rk,Rm,Rn,Ro,Rp,Rq,Rs,Ya,Yb,Yc,Rt,Ru,Za,Yd,Ye,Rx,Ry,Rz,Wa,Wb,Wc,Wd]
        refine hr _ _ _ _ _ ?_
        have:=Nu hl.symm hb ha hy hx hd.symm h2
        unfold GQ
        rw[if_neg (by omega),if_pos this]
      · have d2 : decide (y < x) = false := decide_eq_false h2
        have hxy:x=y:=by omega
        simp only[E5,JV,MF,MD,RI,Wa,d0,e1,e2,e3,e4,e5,e6,d1,d2,e7,Qa,Qb,Qc,Qd,Qe,Qf,Qg,Qh,Qi,Qj,Qk,Ql,Qm,Qn,true_and,and_true,Qo,Qp,Qq,Qr,Qs,Qt,Qu,Qv,Qw,Qx,Qy,Qz,Ra,Rb,Rc,Rd,Re,Rf,Rg,Rh,Ri,Rj,Rk,Rm,Rn,Ro,Rp,Rq,Rs,Ya,Yb,Yc,Rt,Ru,Za,Yd,Ye,Rx,Ry,Rz,Wa,Wb,Wc,Wd]
        rw[← hW]
        refine ih _ _ _ (by omega) ?_
        rw[gE (show k<la.length by omega),gE (show k<lb.length by omega),hd]
        have g1:la[k]=x:=by rw[fX (by omega)]at hx;exact Option.some.inj hx
        have g2:lb[k]'(by omega)=y:=by rw[fX (by omega)]at hy;exact Option.some.inj hy
        rw[g1,g2,hxy]
theorem W7     (hE : Al    E) {va vb : AV} {la lb : List Nat} (ha : CV  s va la) (hb : CV  s vb lb) (hla : la.length ≤ 100000000000) (hlb : lb.length ≤ 100000000000) (hsa : BY  la) (hsb : BY  lb) {K : AV → AD  → Prop}
    (hK:∀s',A9 s.next s s'→K (iv (GQ (AC la) (AC lb))) s'):WF E 180 [va,vb] K s:=by
  refine hE.go ZZ (by decide) rfl ?_
  simp only[de,UU,UV,Qa,Qb,Qc,Qd,Qe,Qf,Qg,Qh,Qi,Qj,Qk,Ql,Qm,Qn,true_and,and_true,Qo,Qp,Qq,Qr,Qs,Qt,Qu,Qv,Qw,Qx,Qy,Qz,Ra,Rb,Rc,Rd,Re,Rf,Rg,Rh,Ri,Rj,Rk,Rm,Rn,Ro,Rp,Rq,Rs,Ya,Yb,Yc,Rt,Ru,Za,Yd,Ye,Rx,Ry,Rz,Wa,Wb,Wc,Wd]
  refine Bz hE ha hla fun s1 v1 o1 r1=>?_
  simp only[Qa,Qb,Qc,Qd,Qe,Qf,Qg,Qh,Qi,Qj,Qk,Ql,Qm,Qn,true_and,and_true,Qo,Qp,Qq,Qr,Qs,Qt,Qu,Qv,Qw,Qx,Qy,Qz,Ra,Rb,Rc,Rd,Re,Rf,Rg,Rh,Ri,Rj,Rk,Rm,Rn,Ro,Rp,Rq,Rs,Ya,Yb,Yc,Rt,Ru,Za,Yd,Ye,Rx,Ry,Rz,Wa,Wb,Wc,Wd]
  refine Bz hE (hb.old o1) hlb fun s2 v2 o2 r2=>?_
  have n1:=r1.n32.old o2
  have n2:=r2.n32
  have hend:=hK s2 (o1.trans (o2.mono o1.1))
  have t1:=DL la
  have t2:=DL lb
  rw[BJ hsa]at n1 t1
  rw[BJ hsb]at n2 t2
  generalize AC la=A at *
  generalize AC lb=B at *
  obtain⟨a,ca,rfl,_,hca⟩:=n1
  obtain⟨b,cb,rfl,_,hcb⟩:=n2
  by_cases h1:(AI A).length<(AI B).length
  · have d1 : decide (((AI    A).length : Int) < ((AI    B).length : Int)) = true := decide_eq_true (by omega)
    have e:GQ A B=-1:=by unfold GQ;rw[if_pos (Cz h1)]
    rw[e]at hend
    simp only[ME,UW,AY Tryz.underlying30,Rx,d1,Qa,Qb,Qc,Qd,Qe,Qf,Qg,Qh,Qi,Qj,Qk,Ql,Qm,Qn,true_and,and_true,Qo,Qp,Qq,Qr,Qs,Qt,Qu,Qv,Qw,Qx,Qy,Qz,Ra,Rb,Rc,Rd,Re,Rf,Rg,Rh,Ri,Rj,Rk,Rm,Rn,Ro,Rp,Rq,Rs,Ya,Yb,Yc,Rt,Ru,Za,Yd,Ye,Rx,Ry,Rz,Wa,Wb,Wc,Wd]
    exact hend
  · have d1:decide (((AI A).length:Int)<((AI B).length:Int))=false:=decide_eq_false (by omega)
    by_cases h2:(AI B).length<(AI A).length
    · have d2 : decide (((AI    B).length : Int) < ((AI    A).length : Int)) = true := decide_eq_true (by omega)
      have hlt:=Cz h2
      have e:GQ A B=1:=by unfold GQ;rw[if_neg (by omega),if_pos hlt]
      rw[e]at hend
      simp only[ME,O4,UX,AY Tryz.underlying30,Rx,Ry,d1,d2,Qa,Qb,Qc,Qd,Qe,Qf,Qg,Qh,Qi,Qj,Qk,Ql,Qm,Qn,true_and,and_true,Qo,Qp,Qq,Qr,Qs,Qt,Qu,Qv,Qw,Qx,Qy,Qz,Ra,Rb,Rc,Rd,Re,Rf,Rg,Rh,Ri,Rj,Rk,Rm,Rn,Ro,Rp,Rq,Rs,Ya,Yb,Yc,Rt,Ru,Za,Yd,Ye,Rx,Ry,Rz,Wa,Wb,Wc,Wd]
      exact hend
    · have d2 : decide (((AI    B).length : Int) < ((AI    A).length : Int)) = false := decide_eq_false (by omega)
      have hl:(AI A).length=(AI B).length:=by omega
      have e7:=Br Tryz.prog 3 ((AI A).length:Int) 1 ⟨by omega,by omega⟩
      simp only[ME,O4,UY,AY Tryz.underlying30,Rx,Ry,d1,d2,e7,Qa,Qb,Qc,Qd,Qe,Qf,Qg,Qh,Qi,Qj,Qk,Ql,Qm,Qn,true_and,and_true,Qo,Qp,Qq,Qr,Qs,Qt,Qu,Qv,Qw,Qx,Qy,Qz,Ra,Rb,Rc,Rd,Re,Rf,Rg,Rh,Ri,Rj,Rk,Rm,Rn,Ro,Rp,Rq,Rs,Ya,Yb,Yc,Rt,Ru,Za,Yd,Ye,Rx,Ry,Rz,Wa,Wb,Wc,Wd]
      refine W6 hl (AR A) (AR B) hca hcb (by omega) _ _ _ (fun heq y3 y6 y7 y8=>?_) (fun z y3 y6 y7 y8 hz=>?_) (AI A).length _ _ _ (fR _) (by rw[List.drop_length,hl,List.drop_length])
      · have:A=B:=S8 heq
        subst this
        have e:GQ A A=0:=by unfold GQ;rw[if_neg (Nat.lt_irrefl _),if_neg (Nat.lt_irrefl _)]
        rw[e]at hend
        simp only[RJ,if_true,Qa,Qb,Qc,Qd,Qe,Qf,Qg,Qh,Qi,Qj,Qk,Ql,Qm,Qn,true_and,and_true,Qo,Qp,Qq,Qr,Qs,Qt,Qu,Qv,Qw,Qx,Qy,Qz,Ra,Rb,Rc,Rd,Re,Rf,Rg,Rh,Ri,Rj,Rk,Rm,Rn,Ro,Rp,Rq,Rs,Ya,Yb,Yc,Rt,Ru,Za,Yd,Ye,Rx,Ry,Rz,Wa,Wb,Wc,Wd]
        exact hend
      · rw[AZ,AZ]at hz
        subst hz
        simp only[Qa,Qb,Qc,Qd,Qe,Qf,Qg,Qh,Qi,Qj,Qk,Ql,Qm,Qn,true_and,and_true,Qo,Qp,Qq,Qr,Qs,Qt,Qu,Qv,Qw,Qx,Qy,Qz,Ra,Rb,Rc,Rd,Re,Rf,Rg,Rh,Ri,Rj,Rk,Rm,Rn,Ro,Rp,Rq,Rs,Ya,Yb,Yc,Rt,Ru,Za,Yd,Ye,Rx,Ry,Rz,Wa,Wb,Wc,Wd]
        exact hend
end
theorem co(n:Nat):P3 [AV.int .u32 0] n=us (List.replicate n 0):=by
 induction n with
 | zero=>rfl
 | succ n ih=>show [AV.int .u32 0]++P3 [AV.int .u32 0] n=_;rw[ih];rfl
theorem Mg(n:Nat)(h:n≤100000000000):Bv Tryz.prog 30 (iv (n:Int)) (iv (n:Int))=some (R 192 1 false (us (List.replicate n 0)),.slice n):=by
 have e:Bv Tryz.prog 30 (.int .i64 (.ofNat n)) (.int .i64 (.ofNat n))=some (Fq 192 1 (P3 [AV.int .u32 0] n),.slice n):=by
  simp[Bv,Tryz.underlying30,NP,Bj,em,AG,Cw (show 4 * n≤1099511627776 by omega),Cw (show n≤1099511627776 by omega),AV.cells]
 rw[co]at e
 exact e
structure Kq(s s':AD)(i:Nat):Prop where
 next:s'.next=s.next
 get:∀j,j≠i→s'.heap.get j=s.heap.get j
theorem Kq.refl(s:AD)(i:Nat):Kq s s i:=⟨rfl,fun _ _=>rfl⟩
theorem Kq.set{s s':AD}{i:Nat}(h:Kq s s' i)(o:Af):Kq s (setObj s' i o) i:=⟨h.next,fun j hj=>(Ww o hj).trans (h.get j hj)⟩
theorem Kq.old{s s':AD}{i b:Nat}(h:Kq s s' i)(hb:b≤i):A9 b s s':=⟨f9 h.next.symm,fun j hj=>h.get j (by omega)⟩
section
variable{E:Cf}{s:AD}
theorem QD{s1:AD}{x:Nat}(hx:0<x)(hxB:x≤4294967296){a:Option (Nat×Nat)}{cap:Option Nat}{l:List Nat}{b qi:Nat}(hc:Ah b s1 a (us l))(hb:b≤qi)(hl:l.length≤100000000000)(hs:BY l){Q:Aq→Prop}
  (hq:∀ (s':AD) (y4 y5:AV),Kq s1 s' qi→s'.heap.get qi=some (R 192 1 false (us (A2 x l).1))→Q ⟨.exit 0,[.slice a l.length cap,AU x,.slice (some (qi,0)) l.length (some l.length),AU (A2 x l).2,y4,y5],[],s'⟩):
  ∀ (k:Nat) (s':AD) (x5:AV),k≤l.length→Kq s1 s' qi→s'.heap.get qi=some (R 192 1 false (us (List.replicate k 0++(A2 x (l.drop k)).1))) →
   WC E none (.loop JW) Q [.slice a l.length cap,AU x,.slice (some (qi,0)) l.length (some l.length),AU (A2 x (l.drop k)).2,iv ((k:Int) - 1),x5] [] s':=by
 intro k
 induction k with
 | zero =>
  intro s' x5 hk ho hg
  have d0:decide ((0:Int)≤((0:Nat):Int) - 1)=false:=rfl
  refine WC.loop' ?_
  simp only[JW,O5,Wa,d0,Qa,Qb,Qc,Qd,Qe,Qf,Qg,Qh,Qi,Qj,Qk,Ql,Qm,Qn,true_and,and_true,Qo,Qp,Qq,Qr,Qs,Qt,Qu,Qv,Qw,Qx,Qy,Qz,Ra,Rb,Rc,Rd,Re,Rf,Rg,Rh,Ri,Rj,Rk,Rm,Rn,Ro,Rp,Rq,Rs,Ya,Yb,Yc,Rt,Ru,Za,Yd,Ye,Rx,Ry,Rz,Wa,Wb,Wc,Wd]
  exact hq s' _ _ ho hg
 | succ k ih =>
  intro s' x5 hk ho hg
  have hy:l[k]? = some l[k]:=fX (by omega)
  have hdk:l.drop k=l[k]::l.drop (k+1):=gE (by omega)
  generalize l[k]=y at hy hdk
  have hys:y<4294967296:=hs y (fv hy)
  obtain⟨i,o,rfl,hi,hload⟩:=hc k _ (C9 hy)
  obtain⟨_,v2,v3⟩:=Cl hx (l.drop (k+1))
  have hsl:A2 x (l.drop k)=(((A2 x (l.drop (k+1))).2 * LB+y) / x::(A2 x (l.drop (k+1))).1,((A2 x (l.drop (k+1))).2 * LB+y) % x):=by rw[hdk];rfl
  have hLB:LB=4294967296:=rfl
  rw[hLB]at hsl
  rw[hsl]at ih
  generalize A2 x (l.drop (k+1))=T at *
  obtain⟨q,r⟩:=T
  simp only at *
  have hqlt:(r * 4294967296+y) / x<4294967296:=by
   rw[gF hx]
   have:(r+1) * 4294967296≤x * 4294967296:=fj _ v2
   rw[gA]at this
   rw[fe _ x]
   omega
  have e0:((k+1:Nat):Int) - 1=(k:Int):=by omega
  have d0:decide ((0:Int)≤(k:Int))=true:=decide_eq_true (by omega)
  have e1:AM Tryz.prog .shl 173 (AU r) (.int .u64 32)=some (AU (r * 4294967296)):=Lm Tryz.prog 173 (k:=.u64) (n:=32) (by decide) (by show r * 4294967296<_;omega)
  have e2:=Ax (cap:=cap) (i:=i) (o:=o) Tryz.underlying30 Bj (show k<l.length by omega)
  have e3:AE Tryz.prog s' 192 (.ptr (some (i,o+k * 1)))=some (BO y):=B9 EF (by rw[fZ,DT (ho.get i (by omega))];exact hload)
  have e4:=bE Tryz.prog 173 (a:=r) (b:=y) (by omega) hys
  have e5:=Yv Tryz.prog 173 (a:=r * 4294967296+y) (b:=x) (by omega) (by omega)
  have e6:(r * 4294967296+y) / x % 4294967296=(r * 4294967296+y) / x:=fy hqlt
  have e7:=Ax (cap:=some l.length) (i:=qi) (o:=0) Tryz.underlying30 Bj (show k<l.length by omega)
  rw[fZ,fY]at e7
  have hlen:k<(us (List.replicate (k+1) 0++q)).length:=by rw[CK,fg,List.length_replicate];omega
  have e8:=Ce (P:=Tryz.prog) (t:=192) (v:=BO ((r * 4294967296+y) / x)) Bj hg hlen rfl
  have e9:=Yw Tryz.prog 173 (a:=r * 4294967296+y) (b:=x) (by omega)
  have e10:=Br Tryz.prog 3 (k:Int) 1 ⟨by omega,by omega⟩
  have hrow:(us (List.replicate (k+1) 0++q)).set k (BO ((r * 4294967296+y) / x))=us (List.replicate k 0++((r * 4294967296+y) / x::q)):=by
   rw[IQ]
   congr 1
   rw[List.replicate_succ',ft,List.set_append_right _ _ (by simp)]
   simp
  rw[hrow]at e8
  refine WC.loop' ?_
  generalize hW:WC E none (Ab.loop JW) Q=WW
  rw[e0]
  simp only[JW,O5,Ud,Ue,Uf,Ug,Wa,d0,e1,e2,e3,BP hys,e4,e5,Bd,e6,e7,e8,e9,e10,Xx,Xz,Qa,Qb,Qc,Qd,Qe,Qf,Qg,Qh,Qi,Qj,Qk,Ql,Qm,Qn,true_and,and_true,Qo,Qp,Qq,Qr,Qs,Qt,Qu,Qv,Qw,Qx,Qy,Qz,Ra,Rb,Rc,Rd,Re,Rf,Rg,Rh,Ri,Rj,Rk,Rm,Rn,Ro,Rp,Rq,Rs,Ya,Yb,Yc,Rt,Ru,Za,Yd,Ye,Rx,Ry,Rz,Wa,Wb,Wc,Wd]
  rw[← hW]
  exact ih _ _ (by omega) (ho.set _) (Wv _ _ _)
theorem Kf(hE:Al E){v:AV}{l:List Nat}(hv:CV s v l)(hl:l.length≤10000000000)(hs:BY l){x:Nat}(hx:0<x)(hxB:x≤4294967296){K:AV→AD→Prop}(hK:∀s' v',A9 s.next s s'→NR s.next s' v' (C7 (A2 x l).1)→K (.tuple [v',AU (A2 x l).2]) s'):
  WF E 181 [v,AU x] K s:=by
 obtain⟨a,cap,rfl,hcap,hc⟩:=hv
 have e1:=Mg l.length (by omega)
 have e2:=Br Tryz.prog 3 (l.length:Int) 1 ⟨by omega,by omega⟩
 have ho:=A9.new s (R 192 1 false (us (List.replicate l.length 0)))
 refine hE.go Zb (by decide) rfl ?_
 simp only[df,Ua,Ub,Uc,AY Tryz.underlying30,e1,e2,Xx,Xd,Qa,Qb,Qc,Qd,Qe,Qf,Qg,Qh,Qi,Qj,Qk,Ql,Qm,Qn,true_and,and_true,Qo,Qp,Qq,Qr,Qs,Qt,Qu,Qv,Qw,Qx,Qy,Qz,Ra,Rb,Rc,Rd,Re,Rf,Rg,Rh,Ri,Rj,Rk,Rm,Rn,Ro,Rp,Rq,Rs,Ya,Yb,Yc,Rt,Ru,Za,Yd,Ye,Rx,Ry,Rz,Wa,Wb,Wc,Wd]
 have hg0:(newObj s (R 192 1 false (us (List.replicate l.length 0)))).heap.get s.next=some (R 192 1 false (us (List.replicate l.length 0++(A2 x (l.drop l.length)).1))):=by
  rw[AN,if_pos rfl,List.drop_length]
  simp[A2]
 have h0:AV.int .u64 0=AU (A2 x (l.drop l.length)).2:=by rw[List.drop_length];rfl
 rw[h0]
 refine QD (s1:=newObj s (R 192 1 false (us (List.replicate l.length 0)))) hx hxB (hc.old ho (fR _)) (fR s.next) (by omega) hs (fun s' y4 y5 o' hg'=>?_) l.length _ _ (fR _) (Kq.refl _ _) hg0
 obtain⟨v1,v2,v3⟩:=Cl hx l
 have hsn:s'.next=s.next+1:=o'.next
 have hq:CV s' (.slice (some (s.next,0)) l.length (some l.length)) (A2 x l).1:=
  ⟨some (s.next,0),some l.length,by rw[v3],.inl ⟨l.length,rfl,by omega,fun e=>by cases e⟩,MQ hg' (by omega)⟩
 simp only[Uh,if_true,Qa,Qb,Qc,Qd,Qe,Qf,Qg,Qh,Qi,Qj,Qk,Ql,Qm,Qn,true_and,and_true,Qo,Qp,Qq,Qr,Qs,Qt,Qu,Qv,Qw,Qx,Qy,Qz,Ra,Rb,Rc,Rd,Re,Rf,Rg,Rh,Ri,Rj,Rk,Rm,Rn,Ro,Rp,Rq,Rs,Ya,Yb,Yc,Rt,Ru,Za,Yd,Ye,Rx,Ry,Rz,Wa,Wb,Wc,Wd]
 refine Bz hE hq (by omega) fun s2 v2 o2 r2=>?_
 simp only[Qa,Qb,Qc,Qd,Qe,Qf,Qg,Qh,Qi,Qj,Qk,Ql,Qm,Qn,true_and,and_true,Qo,Qp,Qq,Qr,Qs,Qt,Qu,Qv,Qw,Qx,Qy,Qz,Ra,Rb,Rc,Rd,Re,Rf,Rg,Rh,Ri,Rj,Rk,Rm,Rn,Ro,Rp,Rq,Rs,Ya,Yb,Yc,Rt,Ru,Za,Yd,Ye,Rx,Ry,Rz,Wa,Wb,Wc,Wd]
 exact hK s2 v2 (ho.trans ((o'.old (fR _)).trans (o2.mono (by omega)))) (r2.mono (by omega))
end
def Er(cu:List Nat)(off:Nat)(d:List Nat):List Nat:=cu.take off++d++cu.drop (off+d.length)
theorem Mj(cu:List Nat)(off:Nat):Er cu off []=cu:=by simp[Er,gw]
theorem GF{cu:List Nat}{off:Nat}{d:List Nat}(h:off+d.length≤cu.length):(Er cu off d).length=cu.length:=by
 unfold Er
 simp only[fg,fx,gP]
 omega
theorem Mi{cu:List Nat}{off:Nat}{d:List Nat}(h:off+d.length<cu.length):(Er cu off d)[off+d.length]? = cu[off+d.length]? := by
 unfold Er
 rw[gJ (by simp;omega)]
 simp only[fg,fx]
 rw[hX]
 congr 1
 omega
theorem JC{cu:List Nat}{off:Nat}{d:List Nat}(h:off+d.length<cu.length)(x:Nat):(Er cu off d).set (off+d.length) x=Er cu off (d++[x]):=by
 unfold Er
 have hl:(cu.take off++d).length=off+d.length:=by simp;omega
 rw[List.set_append_right _ _ (by omega),hl,Nat.sub_self]
 rw[gE h]
 simp[ft,gB]
section
variable{E:Cf}{s:AD}
theorem TY{s1:AD}{q:Nat}(hq32:q<4294967296){ui off:Nat}{capu:Option Nat}{pp:Option Nat}{cu w:List Nat}(hcu:off+w.length≤cu.length)(hsu:BY cu)(hsw:BY w){a9:Option (Nat×Nat)}{c9:Option Nat}{b:Nat}(hc9:Ah b s1 a9 (us w))(h9:∀i o,a9=some (i,o)→i≠ui∧some i≠pp)
    (hwl:w.length≤100000000000) {D:List Nat} {cf bf:Nat} {Q:Aq→Prop} (x1 x3:AV)
    (hq:∀ (s':AD) (c br:Nat) (d:List Nat) (y6 y7 y8 y11 y12:AV),CW s1 s' ui pp→d=D→br=bf→B5 s' ui (us (Er cu off d)) pp →
      Q ⟨.exit 0,[.slice (some (ui,off)) w.length capu,x1,AU q,x3,AU c,AU br,y6,y7,y8,.slice a9 w.length c9,iv (w.length:Int),y11,y12],[],s'⟩):
    ∀ (r : List Nat) (s' : AD)  (c br : Nat) (d : List Nat) (x6 x7 x8 x12 : AV), w.drop d.length = r → d.length ≤ w.length → CW    s1 s' ui pp → c < 4294967296 → br ≤ 1 →
      (d++(Bo q ((cu.drop (off+d.length)).zip r) c br).1,(Bo q ((cu.drop (off+d.length)).zip r) c br).2)=(D,cf,bf)→B5 s' ui (us (Er cu off d)) pp →
      WC E none (.loop G8) Q [.slice (some (ui,off)) w.length capu,x1,AU q,x3,AU c,AU br,x6,x7,x8,.slice a9 w.length c9,iv (w.length:Int),iv (d.length:Int),x12] [] s':=by
  intro r
  induction r with
  | nil =>
    intro s' c br d x6 x7 x8 x12 hd hk ho hc hb hT hg
    have hkl:d.length=w.length:=by
      have:=congrArg List.length hd
      simp at this
      omega
    rw[List.zip_nil_right]at hT
    simp only[Bo,gh,Prod.mk.injEq]at hT
    have dd:decide ((d.length:Int)<(w.length:Int))=false:=decide_eq_false (by omega)
    refine WC.loop' ?_
    simp only[G8,O6,Rx,dd,Qa,Qb,Qc,Qd,Qe,Qf,Qg,Qh,Qi,Qj,Qk,Ql,Qm,Qn,true_and,and_true,Qo,Qp,Qq,Qr,Qs,Qt,Qu,Qv,Qw,Qx,Qy,Qz,Ra,Rb,Rc,Rd,Re,Rf,Rg,Rh,Ri,Rj,Rk,Rm,Rn,Ro,Rp,Rq,Rs,Ya,Yb,Yc,Rt,Ru,Za,Yd,Ye,Rx,Ry,Rz,Wa,Wb,Wc,Wd]
    exact hq s' c br d _ _ _ _ _ ho hT.1 hT.2.2 hg
  | cons y r ih =>
    intro s' c br d x6 x7 x8 x12 hd hk ho hc hb hT hg
    have hlt:d.length<w.length:=by
      rcases fS d.length w.length with h' | h'
      · exact h'
      · rw[gQ h']at hd;cases hd
    have hy:w[d.length]? = some y:=by
      have:=congrArg (fun l=>l[0]?) hd
      simpa using this
    have hd':w.drop (d.length+1)=r:=by
      have:=congrArg (List.drop 1) hd
      simpa[gY]using this
    have hys:y<4294967296:=hsw y (fv hy)
    have hlu:off+d.length<cu.length:=by omega
    have hu:cu[off+d.length]? = some cu[off+d.length]:=fX hlu
    have hdu:cu.drop (off+d.length)=cu[off+d.length]::cu.drop (off+(d.length+1)):=gE hlu
    generalize cu[off+d.length]=u at hu hdu
    have hus:u<4294967296:=hsu u (fv hu)
    rw[hdu,gm]at hT
    simp only[Bo]at hT
    obtain⟨i,o,rfl,hi,hload⟩:=hc9 d.length _ (C9 hy)
    have hne:=h9 i o rfl
    have hkk:decide ((d.length:Int)<(w.length:Int))=true:=decide_eq_true (by omega)
    have e1:=Ax (cap:=c9) (i:=i) (o:=o) Tryz.underlying30 Bj hlt
    have e2:AE Tryz.prog s' 192 (.ptr (some (i,o+d.length * 1)))=some (BO y):=B9 EF (by rw[fZ,DT (ho.get i hne.1 hne.2)];exact hload)
    have hqy:q * y≤4294967295 * 4294967295:=gW (by omega) (by omega)
    have e3:=Oc Tryz.prog 173 (a:=q) (b:=y) (by omega)
    have e4:=F4 Tryz.prog 173 (a:=c) (b:=q * y) (by omega)
    have e5:=Ax (cap:=capu) (i:=ui) (o:=off) Tryz.underlying30 Bj hlt
    have hcell:(us (Er cu off d))[off+d.length * 1]? = some (BO u):=by rw[fZ];exact C9 ((Mi hlu).trans hu)
    have e6:=Fp (P:=Tryz.prog) (t:=192) EF hg hcell
    have hLB:LB=4294967296:=rfl
    rw[hLB]at hT
    generalize hc1:c+q * y=c1 at hT e4
    have hc1b:c1<18446744073709551616:=by omega
    have e7:=Io Tryz.prog 173 hc1b
    have hm:c1 % 4294967296<4294967296:=fo _ (by decide)
    generalize hmm:c1 % 4294967296=m at hT e7 hm
    have e8:=Ln Tryz.prog 173 (a:=u) (b:=m) (by omega)
    have e9:=Ln Tryz.prog 173 (a:=(u+18446744073709551616 - m) % 18446744073709551616) (b:=br) (by omega)
    generalize hdd:((u+18446744073709551616 - m) % 18446744073709551616+18446744073709551616 - br) % 18446744073709551616=dd at e9
    have hddb:dd<18446744073709551616:=by rw[← hdd];exact fo _ (by decide)
    have e10:=Io Tryz.prog 173 hddb
    have e11:dd % 4294967296 % 4294967296=dd % 4294967296:=gn _ _
    have e12:dd % 4294967296=(u+4294967296 - m - br) % 4294967296:=by omega
    have e13:AM Tryz.prog .shr 173 (AU dd) (.int .u64 63)=some (AU (dd / 9223372036854775808)):=Hm Tryz.prog 173 (k:=.u64) (n:=63) (by decide)
    have e14:dd / 9223372036854775808=if u<m+br then 1 else 0:=by split<;>omega
    have e15:AM Tryz.prog .shr 173 (AU c1) (.int .u64 32)=some (AU (c1 / 4294967296)):=Hm Tryz.prog 173 (k:=.u64) (n:=32) (by decide)
    rw[e12]at e10 e11
    generalize hx:(u+4294967296 - m - br) % 4294967296=x at hT e10 e11 e12
    have hlm:off+d.length * 1<(us (Er cu off d)).length:=by rw[CK,GF (by omega)];omega
    obtain⟨s2,e16,w1,w2,w3⟩:=DK (P:=Tryz.prog) (t:=192) (v:=BO x) Bj hg hlm rfl
    rw[fZ]at e16
    rw[fZ,IQ,JC hlu]at w1
    rw[fZ]at e5 e6
    have e17:=By Tryz.prog 3 (d.length:Int) 1 ⟨by omega,by omega⟩
    have e17':((d.length:Int)+1)=((d.length+1:Nat):Int):=by omega
    refine WC.loop' ?_
    generalize hW:WC E none (Ab.loop G8) Q=WW
    simp only[G8,O6,Us,Ut,Uu,Uv,Uw,Ux,RK,Rx,hkk,e1,e2,BP hys,e3,e4,e5,e6,BP hus,e7,e8,e9,e10,Bd,e11,e16,e15,e13,e14,e17,e17',Xx,Xz,Qa,Qb,Qc,Qd,Qe,Qf,Qg,Qh,Qi,Qj,Qk,Ql,Qm,Qn,true_and,and_true,Qo,Qp,Qq,Qr,Qs,Qt,Qu,Qv,Qw,Qx,Qy,Qz,Ra,Rb,Rc,Rd,Re,Rf,Rg,Rh,Ri,Rj,Rk,Rm,Rn,Ro,Rp,Rq,Rs,Ya,Yb,Yc,Rt,Ru,Za,Yd,Ye,Rx,Ry,Rz,Wa,Wb,Wc,Wd]
    rw[← hW]
    have hlen1:(d++[x]).length=d.length+1:=by rw[fg];rfl
    have key:=ih s2 (c1 / 4294967296) (if u<m+br then 1 else 0) (d++[x])
    rw[hlen1]at key
    exact key _ _ _ _ hd' hlt (ho.step w2 w3) (by omega) (by split<;>omega) (by rw[ft];exact hT) w1
theorem az(hE:Al E){q:Nat}(hq32:q<4294967296){ui off:Nat}{capu:Option Nat}{pp:Option Nat}{cu vl:List Nat}(hui:ui<s.next)(hpp:∀q,pp=some q→q<s.next)(hg:B5 s ui (us cu) pp)(hcu:off+(vl.length+1)≤cu.length)(hsu:BY cu)(hsv:BY vl){vv:AV}(hv:CV s vv vl)(hvl:vl.length≤10000000000){K:AV→AD→Prop}
  (hK:∀s',s.next≤s'.next→(∀j,j<s.next→j≠ui→some j≠pp→s'.heap.get j=s.heap.get j)→B5 s' ui (us (Er cu off (Bo q ((cu.drop off).zip (vl++[0])) 0 0).1)) pp →
   K (.bool (decide (0<(Bo q ((cu.drop off).zip (vl++[0])) 0 0).2.2))) s'):WF E 184 [.slice (some (ui,off)) (vl.length+1) capu,vv,AU q] K s:=by
 refine hE.go Ze (by decide) rfl ?_
 simp only[di,Up,Uq,Ur,Qa,Qb,Qc,Qd,Qe,Qf,Qg,Qh,Qi,Qj,Qk,Ql,Qm,Qn,true_and,and_true,Qo,Qp,Qq,Qr,Qs,Qt,Qu,Qv,Qw,Qx,Qy,Qz,Ra,Rb,Rc,Rd,Re,Rf,Rg,Rh,Ri,Rj,Rk,Rm,Rn,Ro,Rp,Rq,Rs,Ya,Yb,Yc,Rt,Ru,Za,Yd,Ye,Rx,Ry,Rz,Wa,Wb,Wc,Wd]
 refine Jh hE hv (by omega) fun s1 v1 o1 r1=>?_
 obtain⟨O,hD,hO,hsl,_⟩:=r1
 obtain⟨v2,s2,O2,happ,hD2,hn2,hf2,hO2,hsl2⟩:=HZ hD 0 (by omega)
 have hn12:s.next≤s2.next:=by have:=o1.1;omega
 have hkeep:∀j,j<s.next→s2.heap.get j=s.heap.get j:=fun j hj=>by rw[hf2 j (by have:=o1.1;omega) (fun h=>by have:=hO j h;omega)];exact o1.2 j hj
 obtain⟨a9,c9,rfl,hc9⟩:=hD2.cells
 have hids:∀i o,a9=some (i,o)→i≠ui∧some i≠pp:=fun i o e=>by
  subst e
  have hge:s.next≤i:=by
   rcases hsl2 i rfl with h | h
   ·exact hsl i h
   ·have:=o1.1;omega
  exact⟨by omega,fun e=>by have:=hpp i e.symm;omega⟩
 have hw:(vl++[0]).length=vl.length+1:=by rw[fg];rfl
 have happ':A8 Tryz.prog (newObj s1 (R 192 1 false [.int .u32 0])) [30,30] [v1,.slice (some (s1.next,0)) 1 (some 1)]=some (.slice a9 (vl++[0]).length c9,s2):=happ
 simp only[FM,Xd,happ',AY Tryz.underlying30,Qa,Qb,Qc,Qd,Qe,Qf,Qg,Qh,Qi,Qj,Qk,Ql,Qm,Qn,true_and,and_true,Qo,Qp,Qq,Qr,Qs,Qt,Qu,Qv,Qw,Qx,Qy,Qz,Ra,Rb,Rc,Rd,Re,Rf,Rg,Rh,Ri,Rj,Rk,Rm,Rn,Ro,Rp,Rq,Rs,Ya,Yb,Yc,Rt,Ru,Za,Yd,Ye,Rx,Ry,Rz,Wa,Wb,Wc,Wd]
 have hsw:BY (vl++[0]):=hsv.append (fun x hx=>by rw[List.mem_singleton.1 hx];exact A4)
 rw[← hw]
 refine TY (s1:=s2) hq32 (w:=vl++[0]) (by rw[hw];exact hcu) hsu hsw hc9 hids (by rw[hw];omega) (D:=(Bo q ((cu.drop off).zip (vl++[0])) 0 0).1) (cf:=(Bo q ((cu.drop off).zip (vl++[0])) 0 0).2.1) (bf:=(Bo q ((cu.drop off).zip (vl++[0])) 0 0).2.2) _ _
  (fun s' c br d y6 y7 y8 y11 y12 ho hd hbr hg'=>?_) (vl++[0]) s2 0 0 [] _ _ _ _ rfl (fa _) (CW.refl _ _ _) (by decide) (by decide) rfl (by rw[Mj];exact hg.keep (hkeep ui hui))
 subst hd;subst hbr
 have e1:AM Tryz.prog .gtr 173 (AU (Bo q ((cu.drop off).zip (vl++[0])) 0 0).2.2) (.int .u64 0)=some (.bool (decide (0<(Bo q ((cu.drop off).zip (vl++[0])) 0 0).2.2))):=Ll Tryz.prog 173 (b:=0) .u64
 simp only[RL,e1,if_true,Qa,Qb,Qc,Qd,Qe,Qf,Qg,Qh,Qi,Qj,Qk,Ql,Qm,Qn,true_and,and_true,Qo,Qp,Qq,Qr,Qs,Qt,Qu,Qv,Qw,Qx,Qy,Qz,Ra,Rb,Rc,Rd,Re,Rf,Rg,Rh,Ri,Rj,Rk,Rm,Rn,Ro,Rp,Rq,Rs,Ya,Yb,Yc,Rt,Ru,Za,Yd,Ye,Rx,Ry,Rz,Wa,Wb,Wc,Wd]
 exact hK s' (by have:=ho.next;omega) (fun j hj hne hnp=>(ho.get j hne hnp).trans (hkeep j hj)) hg'
theorem Sm{s1:AD}{ui off:Nat}{capu:Option Nat}{pp:Option Nat}{cu w:List Nat}(hcu:off+w.length≤cu.length)(hsu:BY cu)(hsw:BY w){a9:Option (Nat×Nat)}{c9:Option Nat}{b:Nat}(hc9:Ah b s1 a9 (us w))(h9:∀i o,a9=some (i,o)→i≠ui∧some i≠pp)
  (hwl:w.length≤100000000000) {D:List Nat} {Q:Aq→Prop} (x1:AV)
  (hq:∀ (s':AD) (d:List Nat) (y2 y3 y4 y7 y8:AV),CW s1 s' ui pp→d=D→B5 s' ui (us (Er cu off d)) pp →
   Q ⟨.exit 0,[.slice (some (ui,off)) w.length capu,x1,y2,y3,y4,.slice a9 w.length c9,iv (w.length:Int),y7,y8],[],s'⟩):
  ∀ (r:List Nat) (s':AD) (c:Nat) (d:List Nat) (x3 x4 x8:AV),w.drop d.length=r→d.length≤w.length→CW s1 s' ui pp→c≤1 →
   d++(DQ ((cu.drop (off+d.length)).zip r) c).1=D→B5 s' ui (us (Er cu off d)) pp →
   WC E none (.loop Ja) Q [.slice (some (ui,off)) w.length capu,x1,AU c,x3,x4,.slice a9 w.length c9,iv (w.length:Int),iv (d.length:Int),x8] [] s':=by
 intro r
 induction r with
 | nil =>
  intro s' c d x3 x4 x8 hd hk ho hc hT hg
  have hkl:d.length=w.length:=by
   have:=congrArg List.length hd
   simp at this
   omega
  rw[List.zip_nil_right]at hT
  simp only[DQ,gh]at hT
  have dd:decide ((d.length:Int)<(w.length:Int))=false:=decide_eq_false (by omega)
  refine WC.loop' ?_
  simp only[Ja,O7,Rx,dd,Qa,Qb,Qc,Qd,Qe,Qf,Qg,Qh,Qi,Qj,Qk,Ql,Qm,Qn,true_and,and_true,Qo,Qp,Qq,Qr,Qs,Qt,Qu,Qv,Qw,Qx,Qy,Qz,Ra,Rb,Rc,Rd,Re,Rf,Rg,Rh,Ri,Rj,Rk,Rm,Rn,Ro,Rp,Rq,Rs,Ya,Yb,Yc,Rt,Ru,Za,Yd,Ye,Rx,Ry,Rz,Wa,Wb,Wc,Wd]
  exact hq s' d _ _ _ _ _ ho hT hg
 | cons y r ih =>
  intro s' c d x3 x4 x8 hd hk ho hc hT hg
  have hlt:d.length<w.length:=by
   rcases fS d.length w.length with h' | h'
   ·exact h'
   ·rw[gQ h']at hd;cases hd
  have hy:w[d.length]? = some y:=by
   have:=congrArg (fun l=>l[0]?) hd
   simpa using this
  have hd':w.drop (d.length+1)=r:=by
   have:=congrArg (List.drop 1) hd
   simpa[gY]using this
  have hys:y<4294967296:=hsw y (fv hy)
  have hlu:off+d.length<cu.length:=by omega
  have hu:cu[off+d.length]? = some cu[off+d.length]:=fX hlu
  have hdu:cu.drop (off+d.length)=cu[off+d.length]::cu.drop (off+(d.length+1)):=gE hlu
  generalize cu[off+d.length]=u at hu hdu
  have hus:u<4294967296:=hsu u (fv hu)
  rw[hdu,gm]at hT
  simp only[DQ]at hT
  obtain⟨i,o,rfl,hi,hload⟩:=hc9 d.length _ (C9 hy)
  have hne:=h9 i o rfl
  have hkk:decide ((d.length:Int)<(w.length:Int))=true:=decide_eq_true (by omega)
  have e1:=Ax (cap:=c9) (i:=i) (o:=o) Tryz.underlying30 Bj hlt
  have e2:AE Tryz.prog s' 192 (.ptr (some (i,o+d.length * 1)))=some (BO y):=B9 EF (by rw[fZ,DT (ho.get i hne.1 hne.2)];exact hload)
  have e5:=Ax (cap:=capu) (i:=ui) (o:=off) Tryz.underlying30 Bj hlt
  have hcell:(us (Er cu off d))[off+d.length * 1]? = some (BO u):=by rw[fZ];exact C9 ((Mi hlu).trans hu)
  have e6:=Fp (P:=Tryz.prog) (t:=192) EF hg hcell
  have e3:=F4 Tryz.prog 173 (a:=u) (b:=y) (by omega)
  have e4:=F4 Tryz.prog 173 (a:=c) (b:=u+y) (by omega)
  have hLB:LB=4294967296:=rfl
  rw[hLB,show u+y+c=c+(u+y) by omega]at hT
  generalize hc1:c+(u+y)=c1 at hT e4
  have hc1b:c1<18446744073709551616:=by omega
  have e7:=Io Tryz.prog 173 hc1b
  have e11:c1 % 4294967296 % 4294967296=c1 % 4294967296:=gn _ _
  have e15:AM Tryz.prog .shr 173 (AU c1) (.int .u64 32)=some (AU (c1 / 4294967296)):=Hm Tryz.prog 173 (k:=.u64) (n:=32) (by decide)
  generalize hx:c1 % 4294967296=x at hT e7 e11
  have hlm:off+d.length * 1<(us (Er cu off d)).length:=by rw[CK,GF (by omega)];omega
  obtain⟨s2,e16,w1,w2,w3⟩:=DK (P:=Tryz.prog) (t:=192) (v:=BO x) Bj hg hlm rfl
  rw[fZ]at e16
  rw[fZ,IQ,JC hlu]at w1
  rw[fZ]at e5 e6
  have e17:=By Tryz.prog 3 (d.length:Int) 1 ⟨by omega,by omega⟩
  have e17':((d.length:Int)+1)=((d.length+1:Nat):Int):=by omega
  refine WC.loop' ?_
  generalize hW:WC E none (Ab.loop Ja) Q=WW
  simp only[Ja,O7,U1,U2,U3,U4,U5,Rx,hkk,e1,e2,e5,e6,BP hus,BP hys,e3,e4,e7,Bd,e11,e16,e15,e17,e17',Xx,Xz,Qa,Qb,Qc,Qd,Qe,Qf,Qg,Qh,Qi,Qj,Qk,Ql,Qm,Qn,true_and,and_true,Qo,Qp,Qq,Qr,Qs,Qt,Qu,Qv,Qw,Qx,Qy,Qz,Ra,Rb,Rc,Rd,Re,Rf,Rg,Rh,Ri,Rj,Rk,Rm,Rn,Ro,Rp,Rq,Rs,Ya,Yb,Yc,Rt,Ru,Za,Yd,Ye,Rx,Ry,Rz,Wa,Wb,Wc,Wd]
  rw[← hW]
  have hlen1:(d++[x]).length=d.length+1:=by rw[fg];rfl
  have key:=ih s2 (c1 / 4294967296) (d++[x])
  rw[hlen1]at key
  exact key _ _ _ hd' hlt (ho.step w2 w3) (by omega) (by rw[ft];exact hT) w1
theorem ZB(hE:Al E){ui off:Nat}{capu:Option Nat}{pp:Option Nat}{cu vl:List Nat}(hui:ui<s.next)(hpp:∀q,pp=some q→q<s.next)(hg:B5 s ui (us cu) pp)(hcu:off+(vl.length+1)≤cu.length)(hsu:BY cu)(hsv:BY vl){vv:AV}(hv:CV s vv vl)(hvl:vl.length≤10000000000){K:AV→AD→Prop}
  (hK:∀s' r,s.next≤s'.next→(∀j,j<s.next→j≠ui→some j≠pp→s'.heap.get j=s.heap.get j)→B5 s' ui (us (Er cu off (DQ ((cu.drop off).zip (vl++[0])) 0).1)) pp→K r s'):WF E 185 [.slice (some (ui,off)) (vl.length+1) capu,vv] K s:=by
 refine hE.go Zf (by decide) rfl ?_
 simp only[dj,Uy,Uz,Qa,Qb,Qc,Qd,Qe,Qf,Qg,Qh,Qi,Qj,Qk,Ql,Qm,Qn,true_and,and_true,Qo,Qp,Qq,Qr,Qs,Qt,Qu,Qv,Qw,Qx,Qy,Qz,Ra,Rb,Rc,Rd,Re,Rf,Rg,Rh,Ri,Rj,Rk,Rm,Rn,Ro,Rp,Rq,Rs,Ya,Yb,Yc,Rt,Ru,Za,Yd,Ye,Rx,Ry,Rz,Wa,Wb,Wc,Wd]
 refine Jh hE hv (by omega) fun s1 v1 o1 r1=>?_
 obtain⟨O,hD,hO,hsl,_⟩:=r1
 obtain⟨v2,s2,O2,happ,hD2,hn2,hf2,hO2,hsl2⟩:=HZ hD 0 (by omega)
 have hn12:s.next≤s2.next:=by have:=o1.1;omega
 have hkeep:∀j,j<s.next→s2.heap.get j=s.heap.get j:=fun j hj=>by rw[hf2 j (by have:=o1.1;omega) (fun h=>by have:=hO j h;omega)];exact o1.2 j hj
 obtain⟨a9,c9,rfl,hc9⟩:=hD2.cells
 have hids:∀i o,a9=some (i,o)→i≠ui∧some i≠pp:=fun i o e=>by
  subst e
  have hge:s.next≤i:=by
   rcases hsl2 i rfl with h | h
   ·exact hsl i h
   ·have:=o1.1;omega
  exact⟨by omega,fun e=>by have:=hpp i e.symm;omega⟩
 have hw:(vl++[0]).length=vl.length+1:=by rw[fg];rfl
 have happ':A8 Tryz.prog (newObj s1 (R 192 1 false [.int .u32 0])) [30,30] [v1,.slice (some (s1.next,0)) 1 (some 1)]=some (.slice a9 (vl++[0]).length c9,s2):=happ
 simp only[FM,Xd,happ',AY Tryz.underlying30,Qa,Qb,Qc,Qd,Qe,Qf,Qg,Qh,Qi,Qj,Qk,Ql,Qm,Qn,true_and,and_true,Qo,Qp,Qq,Qr,Qs,Qt,Qu,Qv,Qw,Qx,Qy,Qz,Ra,Rb,Rc,Rd,Re,Rf,Rg,Rh,Ri,Rj,Rk,Rm,Rn,Ro,Rp,Rq,Rs,Ya,Yb,Yc,Rt,Ru,Za,Yd,Ye,Rx,Ry,Rz,Wa,Wb,Wc,Wd]
 have hsw:BY (vl++[0]):=hsv.append (fun x hx=>by rw[List.mem_singleton.1 hx];exact A4)
 rw[← hw]
 refine Sm (s1:=s2) (w:=vl++[0]) (by rw[hw];exact hcu) hsu hsw hc9 hids (by rw[hw];omega) (D:=(DQ ((cu.drop off).zip (vl++[0])) 0).1) _
  (fun s' d y2 y3 y4 y7 y8 ho hd hg'=>?_) (vl++[0]) s2 0 [] _ _ _ rfl (fa _) (CW.refl _ _ _) (by decide) rfl (by rw[Mj];exact hg.keep (hkeep ui hui))
 subst hd
 simp only[if_true,Qa,Qb,Qc,Qd,Qe,Qf,Qg,Qh,Qi,Qj,Qk,Ql,Qm,Qn,true_and,and_true,Qo,Qp,Qq,Qr,Qs,Qt,Qu,Qv,Qw,Qx,Qy,Qz,Ra,Rb,Rc,Rd,Re,Rf,Rg,Rh,Ri,Rj,Rk,Rm,Rn,Ro,Rp,Rq,Rs,Ya,Yb,Yc,Rt,Ru,Za,Yd,Ye,Rx,Ry,Rz,Wa,Wb,Wc,Wd]
 exact hK s' _ (by have:=ho.next;omega) (fun j hj hne hnp=>(ho.get j hne hnp).trans (hkeep j hj)) hg'
end
section
variable{E:Cf}{s:AD}
theorem DO{a:Option (Nat×Nat)}{l:List Nat}{b:Nat}(hc:Ah b s a (us l)){n k x:Nat}{cap:Option Nat}(hk:k<n)(hx:l[k]? = some x):
  ∃p,AP Tryz.prog 30 (.slice a n cap) (iv (k:Int))=some p∧AE Tryz.prog s 192 p=some (BO x):=by
 obtain⟨i,o,rfl,_,hload⟩:=hc k _ (C9 hx)
 exact⟨_,Ax Tryz.underlying30 Bj hk,B9 EF (by rw[fZ];exact hload)⟩
theorem Pf         {plo vlo : List Nat} {u2 u1 u0 v2 v1 : Nat} {ap av : Option (Nat × Nat)} {cp cv : Option Nat} (hp : Ah      s.next s ap (us (plo ++ [u2, u1, u0]))) (hv : Ah      s.next s av (us (vlo ++ [v2, v1]))) (hlen : plo.length = vlo.length) (hml : vlo.length ≤ 10000000000) {Q : Aq   → Prop} (x2 x4 : AV)
    (hq:∀ (g:Nat) (y6 y7 y8:AV),g<4294967296→AC (plo++[u2,u1,u0]) / AC (vlo++[v2,v1])≤g→g≤AC (plo++[u2,u1,u0]) / AC (vlo++[v2,v1])+1 →
      Q ⟨.exit 0,[.slice ap (vlo.length+3) cp,.slice av (vlo.length+2) cv,x2,iv ((vlo.length+2:Nat):Int),x4,AU g,y6,y7,y8],[],s⟩):
    ∀ (g left:Nat) (x7 x8:AV),FT plo vlo u2 u1 u0 v2 v1 g left→left<4294967296→g≤4294967297 →
      WC E none (.loop Gk) Q [.slice ap (vlo.length+3) cp,.slice av (vlo.length+2) cv,x2,iv ((vlo.length+2:Nat):Int),x4,AU g,AU left,x7,x8] [] s:=by
  have hLB:LB=4294967296:=rfl
  intro g
  induction g with
  | zero =>
    intro left x7 x8 hI hl hg
    have hc2:=hI.c2
    have hc1:=hI.c1
    have hb2:=hI.b2
    rw[hLB]at hc2 hc1 hb2
    have s1:=Br Tryz.prog 3 ((vlo.length+2:Nat):Int) 1 ⟨by omega,by omega⟩
    have s1':((vlo.length+2:Nat):Int) - 1=((vlo.length+1:Nat):Int):=by omega
    have s2:=Br Tryz.prog 3 ((vlo.length+2:Nat):Int) 2 ⟨by omega,by omega⟩
    have s2':((vlo.length+2:Nat):Int) - 2=((vlo.length:Nat):Int):=by omega
    obtain⟨p1,i1,l1⟩:=DO (cap:=cv) (n:=vlo.length+2) hv (show vlo.length<vlo.length+2 by omega) (x:=v2) (by simp)
    obtain⟨p2,i2,l2⟩:=DO (cap:=cp) (n:=vlo.length+3) hp (k:=vlo.length) (by omega) (x:=u2) (by rw[← hlen];simp)
    have d0:AM Tryz.prog .gtr 173 (AU 0) (.int .u64 4294967295)=some (.bool false):=by kernel_rfl
    have m1:=Oc Tryz.prog 173 (a:=0) (b:=v2) (by omega)
    have m2:AM Tryz.prog .shl 173 (AU left) (.int .u64 32)=some (AU (left * 4294967296)):=Lm Tryz.prog 173 (k:=.u64) (n:=32) (by decide) (by show left * 4294967296<_;omega)
    have m3:=bE Tryz.prog 173 (a:=left) (b:=u2) (by omega) hb2
    have m4:=Ll Tryz.prog 173 (a:=0 * v2) (b:=left * 4294967296+u2) .u64
    have m5:decide (left * 4294967296+u2<0 * v2)=false:=decide_eq_false (by omega)
    refine WC.loop' ?_
    simp only[Gk,Ht,d0,s2,s2',i1,l1,BP hc2,m1,m2,i2,l2,BP hb2,m3,m4,m5,Qa,Qb,Qc,Qd,Qe,Qf,Qg,Qh,Qi,Qj,Qk,Ql,Qm,Qn,true_and,and_true,Qo,Qp,Qq,Qr,Qs,Qt,Qu,Qv,Qw,Qx,Qy,Qz,Ra,Rb,Rc,Rd,Re,Rf,Rg,Rh,Ri,Rj,Rk,Rm,Rn,Ro,Rp,Rq,Rs,Ya,Yb,Yc,Rt,Ru,Za,Yd,Ye,Rx,Ry,Rz,Wa,Wb,Wc,Wd]
    exact hq 0 _ _ _ (by decide) hI.low (hI.done (by decide) (by omega))
  | succ g ih =>
    intro left x7 x8 hI hl hg
    have hc2:=hI.c2
    have hc1:=hI.c1
    have hb2:=hI.b2
    have hb1:=hI.b1
    have htop:=hI.top
    have hsum:=hI.sum
    rw[hLB]at hc2 hc1 hb2 hb1 hsum
    have s1:=Br Tryz.prog 3 ((vlo.length+2:Nat):Int) 1 ⟨by omega,by omega⟩
    have s1':((vlo.length+2:Nat):Int) - 1=((vlo.length+1:Nat):Int):=by omega
    have s2:=Br Tryz.prog 3 ((vlo.length+2:Nat):Int) 2 ⟨by omega,by omega⟩
    have s2':((vlo.length+2:Nat):Int) - 2=((vlo.length:Nat):Int):=by omega
    obtain⟨p1,i1,l1⟩:=DO (cap:=cv) (n:=vlo.length+2) hv (show vlo.length<vlo.length+2 by omega) (x:=v2) (by simp)
    obtain⟨p2,i2,l2⟩:=DO (cap:=cp) (n:=vlo.length+3) hp (k:=vlo.length) (by omega) (x:=u2) (by rw[← hlen];simp)
    obtain⟨p3,i3,l3⟩:=DO (cap:=cv) (n:=vlo.length+2) hv (show vlo.length+1<vlo.length+2 by omega) (x:=v1) (by simp)
    have m6:AM Tryz.prog .sub 173 (AU (g+1)) (.int .u64 1)=some (AU g):=by
      have:=Ln Tryz.prog 173 (a:=g+1) (b:=1) (by decide)
      rw[show(g+1+18446744073709551616 - 1) % 18446744073709551616=g by omega]at this
      exact this
    have m7:=F4 Tryz.prog 173 (a:=left) (b:=v1) (by omega)
    have m8:AM Tryz.prog .gtr 173 (AU (left+v1)) (.int .u64 4294967295)=some (.bool (decide (4294967295<left+v1))):=Ll Tryz.prog 173 (b:=4294967295) .u64
    have down:(4294967296≤g+1∨left * 4294967296+u2<(g+1) * v2)→Qa E none (.block 1 (.seq (.ops JX) (.seq (.ops JY) (.seq (.ops JZ) (.cond (.var 8) (.exit 0) .skip))))) (Kb (WC E none (.loop Gk) Q) Q) [.slice ap (vlo.length+3) cp,.slice av (vlo.length+2) cv,x2,iv ((vlo.length+2:Nat):Int),x4,AU (g+1),AU left,.bool true,x8] [] s:=by
      intro hc
      obtain⟨_,hI'⟩:=hI.dec (by rw[hLB];exact hc)
      rw[gv]at hI'
      generalize hW:WC E none (Ab.loop Gk) Q=WW
      by_cases hbk:4294967295<left+v1
      · have db : decide (4294967295 < left + v1) = true := decide_eq_true hbk
        have hgB:g<4294967296:=by
          rcases fS g 4294967296 with h | h
          · exact h
          · exfalso
            have h1:4294967297 * v1≤(g+1) * v1:=fj v1 (by omega)
            have h2:u0 * 4294967296≤v1 * 4294967296:=fj _ htop
            omega
        have hle:g * v2≤4294967295 * 4294967295:=gW (by omega) (by omega)
        have hdone:=hI'.done (by rw[hLB];exact hgB) (by rw[hLB];omega)
        simp only[JX,JY,JZ,m6,s1,s1',i3,l3,BP hc1,m7,m8,db,Qa,Qb,Qc,Qd,Qe,Qf,Qg,Qh,Qi,Qj,Qk,Ql,Qm,Qn,true_and,and_true,Qo,Qp,Qq,Qr,Qs,Qt,Qu,Qv,Qw,Qx,Qy,Qz,Ra,Rb,Rc,Rd,Re,Rf,Rg,Rh,Ri,Rj,Rk,Rm,Rn,Ro,Rp,Rq,Rs,Ya,Yb,Yc,Rt,Ru,Za,Yd,Ye,Rx,Ry,Rz,Wa,Wb,Wc,Wd]
        exact hq g _ _ _ hgB hI'.low hdone
      · have db:decide (4294967295<left+v1)=false:=decide_eq_false hbk
        simp only[JX,JY,JZ,m6,s1,s1',i3,l3,BP hc1,m7,m8,db,Qa,Qb,Qc,Qd,Qe,Qf,Qg,Qh,Qi,Qj,Qk,Ql,Qm,Qn,true_and,and_true,Qo,Qp,Qq,Qr,Qs,Qt,Qu,Qv,Qw,Qx,Qy,Qz,Ra,Rb,Rc,Rd,Re,Rf,Rg,Rh,Ri,Rj,Rk,Rm,Rn,Ro,Rp,Rq,Rs,Ya,Yb,Yc,Rt,Ru,Za,Yd,Ye,Rx,Ry,Rz,Wa,Wb,Wc,Wd]
        rw[← hW]
        exact ih (left+v1) _ _ hI' (by omega) (by omega)
    have d0:AM Tryz.prog .gtr 173 (AU (g+1)) (.int .u64 4294967295)=some (.bool (decide (4294967295<g+1))):=Ll Tryz.prog 173 (b:=4294967295) .u64
    refine WC.loop' ?_
    generalize hW:WC E none (Ab.loop Gk) Q=WW
    rw[hW]at down
    generalize hB:Ab.block 1 (.seq (.ops JX) (.seq (.ops JY) (.seq (.ops JZ) (.cond (.var 8) (.exit 0) .skip))))=BB at down
    have hl8:Gk=.seq (.seq (.ops Ht) (.cond (.var 7) .skip (.exit 0))) BB:=by rw[← hB];rfl
    by_cases hgB:4294967295<g+1
    · have db:decide (4294967295<g+1)=true:=decide_eq_true hgB
      rw[hl8]
      generalize hBW:Qa E none BB (Kb WW Q)=BW at down
      simp only[Ht,d0,db,hBW,Qa,Qb,Qc,Qd,Qe,Qf,Qg,Qh,Qi,Qj,Qk,Ql,Qm,Qn,true_and,and_true,Qo,Qp,Qq,Qr,Qs,Qt,Qu,Qv,Qw,Qx,Qy,Qz,Ra,Rb,Rc,Rd,Re,Rf,Rg,Rh,Ri,Rj,Rk,Rm,Rn,Ro,Rp,Rq,Rs,Ya,Yb,Yc,Rt,Ru,Za,Yd,Ye,Rx,Ry,Rz,Wa,Wb,Wc,Wd]
      exact down (.inl (by omega))
    · have db : decide (4294967295 < g + 1) = false := decide_eq_false hgB
      have hgv:(g+1) * v2≤4294967295 * 4294967295:=gW (by omega) (by omega)
      have m1:=Oc Tryz.prog 173 (a:=g+1) (b:=v2) (by omega)
      have m2:AM Tryz.prog .shl 173 (AU left) (.int .u64 32)=some (AU (left * 4294967296)):=Lm Tryz.prog 173 (k:=.u64) (n:=32) (by decide) (by show left * 4294967296<_;omega)
      have m3:=bE Tryz.prog 173 (a:=left) (b:=u2) (by omega) hb2
      have m4:=Ll Tryz.prog 173 (a:=(g+1) * v2) (b:=left * 4294967296+u2) .u64
      by_cases hc:left * 4294967296+u2<(g+1) * v2
      · have m5:decide (left * 4294967296+u2<(g+1) * v2)=true:=decide_eq_true hc
        rw[hl8]
        generalize hBW:Qa E none BB (Kb WW Q)=BW at down
        simp only[Ht,d0,db,s2,s2',i1,l1,BP hc2,m1,m2,i2,l2,BP hb2,m3,m4,m5,hBW,Qa,Qb,Qc,Qd,Qe,Qf,Qg,Qh,Qi,Qj,Qk,Ql,Qm,Qn,true_and,and_true,Qo,Qp,Qq,Qr,Qs,Qt,Qu,Qv,Qw,Qx,Qy,Qz,Ra,Rb,Rc,Rd,Re,Rf,Rg,Rh,Ri,Rj,Rk,Rm,Rn,Ro,Rp,Rq,Rs,Ya,Yb,Yc,Rt,Ru,Za,Yd,Ye,Rx,Ry,Rz,Wa,Wb,Wc,Wd]
        exact down (.inr hc)
      · have m5:decide (left * 4294967296+u2<(g+1) * v2)=false:=decide_eq_false hc
        rw[hl8]
        generalize hBW:Qa E none BB (Kb WW Q)=BW at down
        simp only[Ht,d0,db,s2,s2',i1,l1,BP hc2,m1,m2,i2,l2,BP hb2,m3,m4,m5,hBW,Qa,Qb,Qc,Qd,Qe,Qf,Qg,Qh,Qi,Qj,Qk,Ql,Qm,Qn,true_and,and_true,Qo,Qp,Qq,Qr,Qs,Qt,Qu,Qv,Qw,Qx,Qy,Qz,Ra,Rb,Rc,Rd,Re,Rf,Rg,Rh,Ri,Rj,Rk,Rm,Rn,Ro,Rp,Rq,Rs,Ya,Yb,Yc,Rt,Ru,Za,Yd,Ye,Rx,Ry,Rz,Wa,Wb,Wc,Wd]
        exact hq (g+1) _ _ _ (by omega) hI.low (hI.done (by rw[hLB];omega) (by rw[hLB];omega))
theorem XY(hE:Al E){plo vlo:List Nat}{u2 u1 u0 v2 v1:Nat}{vp vv:AV}(hp:CV s vp (plo++[u2,u1,u0]))(hv:CV s vv (vlo++[v2,v1]))(hI:FT plo vlo u2 u1 u0 v2 v1 ((u0 * LB+u1) / v1) ((u0 * LB+u1) % v1))(hml:vlo.length≤10000000000)(hu0:u0<4294967296){K:AV→AD→Prop}
  (hK:∀g,g<4294967296→AC (plo++[u2,u1,u0]) / AC (vlo++[v2,v1])≤g→g≤AC (plo++[u2,u1,u0]) / AC (vlo++[v2,v1])+1→K (AU g) s):WF E 183 [vp,vv] K s:=by
 have hLB:LB=4294967296:=rfl
 have hlen:=hI.len
 obtain⟨ap,cp,rfl,_,hcp⟩:=hp
 obtain⟨av,cv,rfl,_,hcv⟩:=hv
 have hc1:=hI.c1
 have hb1:=hI.b1
 have hbig:=hI.big
 have htop:=hI.top
 rw[hLB]at hc1 hb1 hbig
 have hlp:(plo++[u2,u1,u0]).length=vlo.length+3:=by simp[hlen]
 have hlv:(vlo++[v2,v1]).length=vlo.length+2:=by simp
 rw[hlp,hlv]
 have s1:=Br Tryz.prog 3 ((vlo.length+2:Nat):Int) 1 ⟨by omega,by omega⟩
 have s1':((vlo.length+2:Nat):Int) - 1=((vlo.length+1:Nat):Int):=by omega
 obtain⟨p1,i1,l1⟩:=DO (cap:=cp) (n:=vlo.length+3) hcp (k:=vlo.length+2) (by omega) (x:=u0) (by rw[← hlen];simp)
 obtain⟨p2,i2,l2⟩:=DO (cap:=cp) (n:=vlo.length+3) hcp (k:=vlo.length+1) (by omega) (x:=u1) (by rw[← hlen];simp)
 obtain⟨p3,i3,l3⟩:=DO (cap:=cv) (n:=vlo.length+2) hcv (show vlo.length+1<vlo.length+2 by omega) (x:=v1) (by simp)
 have m2:AM Tryz.prog .shl 173 (AU u0) (.int .u64 32)=some (AU (u0 * 4294967296)):=Lm Tryz.prog 173 (k:=.u64) (n:=32) (by decide) (by show u0 * 4294967296<_;omega)
 have m3:=bE Tryz.prog 173 (a:=u0) (b:=u1) (by omega) hb1
 have m4:=Yv Tryz.prog 173 (a:=u0 * 4294967296+u1) (b:=v1) (by omega) (by omega)
 have m5:=Yw Tryz.prog 173 (a:=u0 * 4294967296+u1) (b:=v1) (by omega)
 rw[hLB]at hI
 have hsum:=hI.sum
 rw[hLB]at hsum
 have hl:(u0 * 4294967296+u1) % v1<v1:=fo _ (by omega)
 have hgle:(u0 * 4294967296+u1) / v1≤4294967297:=by
  rw[← Nat.lt_succ_iff,gF (by omega)]
  have:u0 * 4294967296≤v1 * 4294967296:=fj _ htop
  show _<4294967298 * v1
  omega
 refine hE.go Zd (by decide) rfl ?_
 simp only[dh,Uk,Ul,Um,Un,AY Tryz.underlying30,s1,s1',i1,l1,i2,l2,i3,l3,BP hu0,BP hb1,BP hc1,m2,m3,m4,m5,Qa,Qb,Qc,Qd,Qe,Qf,Qg,Qh,Qi,Qj,Qk,Ql,Qm,Qn,true_and,and_true,Qo,Qp,Qq,Qr,Qs,Qt,Qu,Qv,Qw,Qx,Qy,Qz,Ra,Rb,Rc,Rd,Re,Rf,Rg,Rh,Ri,Rj,Rk,Rm,Rn,Ro,Rp,Rq,Rs,Ya,Yb,Yc,Rt,Ru,Za,Yd,Ye,Rx,Ry,Rz,Wa,Wb,Wc,Wd]
 refine Pf hcp hcv hlen hml _ _ (fun g y6 y7 y8 g1 g2 g3=>?_) _ _ _ _ hI (by omega) hgle
 simp only[Uo,if_true,Qa,Qb,Qc,Qd,Qe,Qf,Qg,Qh,Qi,Qj,Qk,Ql,Qm,Qn,true_and,and_true,Qo,Qp,Qq,Qr,Qs,Qt,Qu,Qv,Qw,Qx,Qy,Qz,Ra,Rb,Rc,Rd,Re,Rf,Rg,Rh,Ri,Rj,Rk,Rm,Rn,Ro,Rp,Rq,Rs,Ya,Yb,Yc,Rt,Ru,Za,Yd,Ye,Rx,Ry,Rz,Wa,Wb,Wc,Wd]
 exact hK g g1 g2 g3
end
theorem CV.keep{s s':AD}{v:AV}{l:List Nat}(h:CV s v l)(hn:s.next≤s'.next)(hf:∀j,C6 v=some j→j<s.next→s'.heap.get j=s.heap.get j):CV s' v l:=by
  obtain⟨a,cap,rfl,h2,h3⟩:=h
  refine⟨a,cap,rfl,?_,fun k u hu=>?_⟩
  · rcases h2 with h2 | ⟨g1, i, o, r, rfl, g3, g4, g5⟩
    · exact .inl h2
    · exact .inr ⟨g1,i,o,r,rfl,by omega,by rw[hf i rfl g3];exact g4,g5⟩
  · obtain⟨i,o,rfl,g2,g3⟩:=h3 k u hu
    exact⟨i,o,rfl,by omega,by rw[DT (hf i rfl g2)];exact g3⟩
theorem Z5{s:AD}{i lo hi n:Nat}{cs:List AV}{p:Option Nat}(h:B5 s i cs p)(hi':i<s.next)(h1:lo≤hi)(h2:hi≤cs.length):
  Bg Tryz.prog 30 true true false s [.slice (some (i,0)) n none,iv (lo:Int),iv (hi:Int)]=some (.slice (some (i,lo)) (hi - lo) none):=by
 obtain⟨r,g1,g2,_,g4,_⟩:=h
 have hrow:rowAt s i=some r:=by unfold rowAt;rw[g1]
 have hrn:r.n=cs.length:=g2.1
 show Bf Tryz.prog s 30 (.slice (some (i,0)) n none) (some (iv (lo:Int))) (some (iv (hi:Int))) none=_
 have hb1:BT (iv (hi:Int)) ((r.n - 0) / 1)=some hi:=by simp[BT,GW,AG,Cw (show hi≤r.n by omega),Eh]
 have hb2:BT (iv (lo:Int)) hi=some lo:=by simp[BT,GW,AG,Cw h1,Eh]
 have hsz:Nat.beq 1 r.sz=true:=Gi g4.symm
 simp only[Bf,Tryz.underlying30,Bj,hrow,hsz,AG,hb1,hb2,Cw (fa r.n),show Nat.beq 1 0=false from rfl,Option.bind_some,Bool.true_and,Bool.and_true,Bool.not_false,cond_true]
 simp
theorem N9{s:AD}{i lo m:Nat}{cu:List Nat}{p:Option Nat}(h:B5 s i (us cu) p)(hi':i<s.next)(h2:lo+m≤cu.length):CV s (.slice (some (i,lo)) m none) ((cu.drop lo).take m):=by
 have hc:=Hx h hi'
 obtain⟨r,g1,g2,_,g4,_⟩:=h
 have hrn:r.n=cu.length:=by rw[g2.1,CK]
 have hl:((cu.drop lo).take m).length=m:=by rw[fx,gP];omega
 refine⟨some (i,lo),none,by rw[hl],.inr ⟨rfl,i,lo,r,rfl,hi',g1,g4,by rw[hl];omega⟩,fun k u hu=>?_⟩
 have hk:k<m:=by
  rcases fS k m with h' | h'
  ·exact h'
  ·rw[ff (by rw[CK,hl];exact h')]at hu;cases hu
 have hu':(us cu)[lo+k]? = some u:=by
  rw[SX,gx hk]at hu
  unfold us at hu ⊢
  rw[List.map_drop,hX]at hu
  exact hu
 obtain⟨i',o',e,q2,q3⟩:=hc (lo+k) u hu'
 injection e with e
 injection e with e1 e2
 subst e1;subst e2
 rw[fY]at q3
 exact⟨i,lo,rfl,q2,q3⟩
section
variable{E:Cf}{s:AD}
structure fL(s0:AD)(ui qi:Nat)(pp:Option Nat)(U0 V:List Nat)(S:AD)(cu qs:List Nat)(k:Nat):Prop where
 next:s0.next≤S.next
 keep:∀j,j<s0.next→j≠ui→some j≠pp→j≠qi→S.heap.get j=s0.heap.get j
 u:B5 S ui (us cu) pp
 q:B5 S qi (us qs) none
 inv:Oh U0 V cu qs k
 qlen:qs.length+V.length=U0.length
set_option maxHeartbeats 1000000 in
theorem XJ       (hE : Al    E) {s0 : AD}  {ui qi : Nat} {pp : Option Nat} (hui : ui < s0.next) (hqi : qi < s0.next) (hne : ui ≠ qi) (hpp : ∀ q, pp = some q → q < s0.next ∧ q ≠ qi) {U0 vlo : List Nat} {v2 v1 : Nat} (hsV : BY  (vlo ++ [v2, v1])) (hv1 : 2147483648 ≤ v1) (hul : U0.length ≤ 10000000000)
    {vv:AV} (hvv:CV s0 vv (vlo++[v2,v1])) (hvs:∀j,C6 vv=some j→j≠ui∧some j≠pp∧j≠qi) {Q:Aq→Prop} (a0 a1 a3 a4 a5 a6 a7 a13 a14 a15 a16:AV)
    (hq:∀ (S:AD) (cu qs:List Nat) (y10 y11 y12 y17 y18:AV),fL s0 ui qi pp U0 (vlo++[v2,v1]) S cu qs 0 →
      Q ⟨.exit 3,[a0,a1,.slice (some (qi,0)) (U0.length - (vlo.length+2)) (some (U0.length - (vlo.length+2))),a3,a4,a5,a6,a7,.slice (some (ui,0)) U0.length none,vv,y10,y11,y12,a13,a14,a15,a16,y17,y18],[],S⟩):
    ∀ (k:Nat) (S:AD) (cu qs:List Nat) (x11 x12 x17 x18:AV),fL s0 ui qi pp U0 (vlo++[v2,v1]) S cu qs k→k+(vlo.length+2)≤U0.length →
      WC E none (.loop F8) Q [a0,a1,.slice (some (qi,0)) (U0.length - (vlo.length+2)) (some (U0.length - (vlo.length+2))),a3,a4,a5,a6,a7,.slice (some (ui,0)) U0.length none,vv,iv ((k:Int) - 1),x11,x12,a13,a14,a15,a16,x17,x18] [] S:=by
  have hLB:LB=4294967296:=rfl
  have hVl:(vlo++[v2,v1]).length=vlo.length+2:=by simp
  have hv1b:v1<LB:=hsV v1 (by simp)
  have hv2b:v2<LB:=hsV v2 (by simp)
  have hVpos:0<AC (vlo++[v2,v1]):=by
    rw[HS]
    have h2:0<v1 * LB+v2:=by have:=Nat.mul_pos (show 0<v1 by omega) A4;omega
    have:=Nat.mul_pos (gN A4 (n:=vlo.length)) h2
    omega
  intro k
  induction k with
  | zero =>
    intro S cu qs x11 x12 x17 x18 hS hk
    have d0:decide ((0:Int)≤((0:Nat):Int) - 1)=false:=rfl
    refine WC.loop' ?_
    simp only[F8,L9,Wa,d0,Qa,Qb,Qc,Qd,Qe,Qf,Qg,Qh,Qi,Qj,Qk,Ql,Qm,Qn,true_and,and_true,Qo,Qp,Qq,Qr,Qs,Qt,Qu,Qv,Qw,Qx,Qy,Qz,Ra,Rb,Rc,Rd,Re,Rf,Rg,Rh,Ri,Rj,Rk,Rm,Rn,Ro,Rp,Rq,Rs,Ya,Yb,Yc,Rt,Ru,Za,Yd,Ye,Rx,Ry,Rz,Wa,Wb,Wc,Wd]
    exact hq S cu qs _ _ _ _ _ hS
  | succ k ih =>
    intro S cu qs x11 x12 x17 x18 hS hk
    have hcl:cu.length=U0.length:=hS.inv.len
    have hql:qs.length=U0.length - (vlo.length+2):=by have:=hS.qlen;rw[hVl]at this;omega
    have hkq:k<qs.length:=by omega
    obtain⟨p1,p2,p3⟩:=hS.inv.part hsV hVpos (by rw[hVl];omega)
    have hw1:((vlo++[v2,v1])++[0]).length=(vlo++[v2,v1]).length+1:=by rw[fg];rfl
    have hpl:((cu.drop k).take ((vlo++[v2,v1]).length+1)).length=vlo.length+3:=by rw[fx,gP,hVl];omega
    have hps:BY ((cu.drop k).take ((vlo++[v2,v1]).length+1)):=(hS.inv.sm.drop k).take _
    have hplt:AC ((cu.drop k).take ((vlo++[v2,v1]).length+1))<AC (vlo++[v2,v1]) * LB:=by rw[p1];exact p2
    have hpart:=N9 hS.u (fV hui hS.next) (lo:=k) (m:=(vlo++[v2,v1]).length+1) (by rw[hVl];omega)
    have hzip:=F7 (cu.drop k) ((vlo++[v2,v1])++[0])
    rw[hw1]at hzip
    have hdig:=fun g h1 h2 h3=>XI (p:=(cu.drop k).take ((vlo++[v2,v1]).length+1)) (v:=vlo++[v2,v1]) (by rw[hpl,hVl]) hps hsV hVpos (g:=g) h1 h2 h3
    rw[hzip]at hdig
    have hstep:∀D:List Nat,D.length=(vlo++[v2,v1]).length+1→BY D→AC D=AC ((cu.drop k).take ((vlo++[v2,v1]).length+1)) % AC (vlo++[v2,v1])→∀x:Nat,x=AC ((cu.drop k).take ((vlo++[v2,v1]).length+1)) / AC (vlo++[v2,v1]) →
        Oh U0 (vlo++[v2,v1]) (Er cu k D) (qs.set k x) k:=fun D hD hDs hDv x hx=>by
      have:=hS.inv.step hsV hVpos (by rw[hVl];omega) hkq hD hDs hDv hx
      unfold Er
      rw[hD,← gB]
      exact this
    have hxB:AC ((cu.drop k).take ((vlo++[v2,v1]).length+1)) / AC (vlo++[v2,v1])<4294967296:=by
      rw[← hLB,gF hVpos,fe]
      exact hplt
    have hDl:=fun g=>IN g ((cu.drop k).zip ((vlo++[v2,v1])++[0])) 0 0
    have hDs:=fun g=>F3 g ((cu.drop k).zip ((vlo++[v2,v1])++[0])) 0 0
    have hzl:((cu.drop k).zip ((vlo++[v2,v1])++[0])).length=(vlo++[v2,v1]).length+1:=by rw[gj,hw1,gP,hVl];omega
    obtain⟨plo,u2,u1,u0,hpe,hplo⟩:∃plo u2 u1 u0,(cu.drop k).take ((vlo++[v2,v1]).length+1)=plo++[u2,u1,u0]∧plo.length=vlo.length:=by
      obtain⟨l1,t1,e1,f1⟩:=EL (n:=vlo.length+2) (by rw[hpl])
      obtain⟨l2,t2,e2,f2⟩:=EL (n:=vlo.length+1) f1
      obtain⟨l3,t3,e3,f3⟩:=EL (n:=vlo.length) f2
      exact⟨l3,t3,t2,t1,by rw[e1,e2,e3];simp,f3⟩
    have hu0:u0<LB:=by rw[hpe]at hps;exact hps u0 (by simp)
    have hG:FT plo vlo u2 u1 u0 v2 v1 ((u0 * LB+u1) / v1) ((u0 * LB+u1) % v1):=by
      rw[hpe]at hps hplt
      exact FT.start (u0:=u0) hplo (fun x hx=>hps x (gk _ hx)) (fun x hx=>hsV x (gk _ hx)) (hps u2 (by simp)) (hps u1 (by simp)) hv2b hv1b (by rw[hLB];omega) hplt
    have hvS:CV S vv (vlo++[v2,v1]):=hvv.keep hS.next fun j hj hjl=>by
      obtain⟨g1,g2,g3⟩:=hvs j hj
      exact hS.keep j hjl g1 g2 g3
    have hguess:=fun K hK=>XY (s:=S) (K:=K) (vp:=.slice (some (ui,k)) ((vlo++[v2,v1]).length+1) none) hE (by rw[← hpe];exact hpart) hvS hG (by omega) (by rw[← hLB];exact hu0) hK
    rw[← hpe]at hguess
    obtain⟨av,cv,rfl,_,_⟩:=id hvv
    have e0:((k+1:Nat):Int) - 1=(k:Int):=by omega
    have d0:decide ((0:Int)≤(k:Int))=true:=decide_eq_true (by omega)
    have i1:=By Tryz.prog 3 (k:Int) (((vlo++[v2,v1]).length:Nat):Int) ⟨by omega,by omega⟩
    have i2:=By Tryz.prog 3 ((k:Int)+(((vlo++[v2,v1]).length:Nat):Int)) 1 ⟨by omega,by omega⟩
    have i2':(k:Int)+(((vlo++[v2,v1]).length:Nat):Int)+1=((k+((vlo++[v2,v1]).length+1):Nat):Int):=by omega
    have i3:=Z5 (n:=U0.length) hS.u (fV hui hS.next) (lo:=k) (hi:=k+((vlo++[v2,v1]).length+1)) (by omega) (by rw[CK];omega)
    have i3':k+((vlo++[v2,v1]).length+1) - k=(vlo++[v2,v1]).length+1:=by omega
    rw[i3']at i3
    have e10:=Br Tryz.prog 3 (k:Int) 1 ⟨by omega,by omega⟩
    have e11:=Ax (cap:=some (U0.length - (vlo.length+2))) (i:=qi) (o:=0) Tryz.underlying30 Bj (show k<U0.length - (vlo.length+2) by omega)
    rw[fZ,fY]at e11
    have hpS:∀q,pp=some q→q<S.next:=fun q hq=>fV (hpp q hq).1 hS.next
    have last:∀ (S2:AD) (D:List Nat) (x:Nat) (y18:AV),S.next≤S2.next→(∀j,j<S.next→j≠ui→some j≠pp→S2.heap.get j=S.heap.get j)→B5 S2 ui (us (Er cu k D)) pp→D.length=(vlo++[v2,v1]).length+1→BY D →
        AC D=AC ((cu.drop k).take ((vlo++[v2,v1]).length+1)) % AC (vlo++[v2,v1])→x=AC ((cu.drop k).take ((vlo++[v2,v1]).length+1)) / AC (vlo++[v2,v1]) →
        Qb E MA (fun v s'=>Qb E MB (fun v s'=>WC E none (.loop F8) Q v [] s') [] v s') [] [a0,a1,.slice (some (qi,0)) (U0.length - (vlo.length+2)) (some (U0.length - (vlo.length+2))),a3,a4,a5,a6,a7,.slice (some (ui,0)) U0.length none,.slice av (vlo++[v2,v1]).length cv,iv (k:Int),.slice (some (ui,k)) ((vlo++[v2,v1]).length+1) none,AU x,a13,a14,a15,a16,.bool true,y18] S2:=by
      intro S2 D x y18 n2 f2 o2 hDl hDs hDv hx
      have hxb:x<4294967296:=by rw[hx];exact hxB
      have hq2:B5 S2 qi (us qs) none:=hS.q.keep (f2 qi (fV hqi hS.next) (Ne.symm hne) (fun e=>(hpp qi e.symm).2 rfl))
      obtain⟨S3,st,w1,w2,w3⟩:=DK (P:=Tryz.prog) (t:=192) (v:=BO x) (o:=k) Bj hq2 (by rw[CK];exact hkq) rfl
      rw[IQ]at w1
      have ex:x % 4294967296=x:=fy hxb
      simp only[MA,MB,Bd,ex,e11,st,e10,Xx,Xz,Qa,Qb,Qc,Qd,Qe,Qf,Qg,Qh,Qi,Qj,Qk,Ql,Qm,Qn,true_and,and_true,Qo,Qp,Qq,Qr,Qs,Qt,Qu,Qv,Qw,Qx,Qy,Qz,Ra,Rb,Rc,Rd,Re,Rf,Rg,Rh,Ri,Rj,Rk,Rm,Rn,Ro,Rp,Rq,Rs,Ya,Yb,Yc,Rt,Ru,Za,Yd,Ye,Rx,Ry,Rz,Wa,Wb,Wc,Wd]
      refine ih S3 (Er cu k D) (qs.set k x) _ _ _ _ ⟨by have:=hS.next;omega,fun j hj j1 j2 j3=>?_,?_,w1,hstep D hDl hDs hDv x hx,by rw[ge];exact hS.qlen⟩ (by omega)
      · rw[w3 j j3 (fun e=>by cases e),f2 j (fV hj hS.next) j1 j2]
        exact hS.keep j hj j1 j2 j3
      · exact o2.keep (w3 ui hne (fun e=>by cases e))
    refine WC.loop' ?_
    generalize hW:WC E none (Ab.loop F8) Q=WW
    rw[hW]at last
    rw[e0]
    simp only[F8,L9,Q3,Q4,Wa,d0,AY Tryz.underlying30,i1,i2,i2',i3,Qa,Qb,Qc,Qd,Qe,Qf,Qg,Qh,Qi,Qj,Qk,Ql,Qm,Qn,true_and,and_true,Qo,Qp,Qq,Qr,Qs,Qt,Qu,Qv,Qw,Qx,Qy,Qz,Ra,Rb,Rc,Rd,Re,Rf,Rg,Rh,Ri,Rj,Rk,Rm,Rn,Ro,Rp,Rq,Rs,Ya,Yb,Yc,Rt,Ru,Za,Yd,Ye,Rx,Ry,Rz,Wa,Wb,Wc,Wd]
    refine hguess _ fun g g1 g2 g3=>?_
    obtain⟨dg1,dg2⟩:=hdig g g2 g3 (by rw[hLB];exact g1)
    have hDl:=hDl g
    have hDs:=hDs g
    rw[hzl]at hDl
    simp only[Q5,Qa,Qb,Qc,Qd,Qe,Qf,Qg,Qh,Qi,Qj,Qk,Ql,Qm,Qn,true_and,and_true,Qo,Qp,Qq,Qr,Qs,Qt,Qu,Qv,Qw,Qx,Qy,Qz,Ra,Rb,Rc,Rd,Re,Rf,Rg,Rh,Ri,Rj,Rk,Rm,Rn,Ro,Rp,Rq,Rs,Ya,Yb,Yc,Rt,Ru,Za,Yd,Ye,Rx,Ry,Rz,Wa,Wb,Wc,Wd]
    refine az hE g1 (fV hui hS.next) hpS hS.u (off:=k) (vl:=vlo++[v2,v1]) (by rw[hVl];omega) hS.inv.sm hsV hvS (by rw[hVl];omega) fun S2 n2 f2 o2=>?_
    generalize Bo g ((cu.drop k).zip ((vlo++[v2,v1])++[0])) 0 0=T at *
    obtain⟨D,c,br⟩:=T
    simp only at *
    by_cases hbr:br=0
    · obtain⟨r1,r2⟩:=dg1 hbr
      have db:decide (0<br)=false:=decide_eq_false (by omega)
      simp only[db,Qa,Qb,Qc,Qd,Qe,Qf,Qg,Qh,Qi,Qj,Qk,Ql,Qm,Qn,true_and,and_true,Qo,Qp,Qq,Qr,Qs,Qt,Qu,Qv,Qw,Qx,Qy,Qz,Ra,Rb,Rc,Rd,Re,Rf,Rg,Rh,Ri,Rj,Rk,Rm,Rn,Ro,Rp,Rq,Rs,Ya,Yb,Yc,Rt,Ru,Za,Yd,Ye,Rx,Ry,Rz,Wa,Wb,Wc,Wd]
      exact last S2 D g (.bool false) n2 f2 o2 hDl hDs r2 r1
    · obtain⟨r1,r2⟩:=dg2 hbr
      have db:decide (0<br)=true:=decide_eq_true (by omega)
      have hg1:1≤g:=fU (Nat.succ_le_succ (fa _)) (f9 r1.symm)
      have hvS2:CV S2 (.slice av (vlo++[v2,v1]).length cv) (vlo++[v2,v1]):=hvS.keep n2 fun j hj hjl=>by
        obtain⟨q1,q2,q3⟩:=hvs j hj
        exact f2 j hjl q1 q2
      have hml:(Er cu k D).length=cu.length:=GF (by rw[hDl,hVl];omega)
      have hms:BY (Er cu k D):=((hS.inv.sm.take k).append hDs).append (hS.inv.sm.drop _)
      have hmd:((Er cu k D).drop k).zip ((vlo++[v2,v1])++[0])=D.zip ((vlo++[v2,v1])++[0]):=by
        unfold Er
        rw[ft,List.drop_left' (by rw[fx];omega)]
        exact Y4 (by rw[hDl,hw1]) _
      have m6:AM Tryz.prog .sub 173 (AU g) (.int .u64 1)=some (AU (g - 1)):=by
        have:=Ln Tryz.prog 173 (a:=g) (b:=1) (by decide)
        rw[show(g+18446744073709551616 - 1) % 18446744073709551616=g - 1 by omega]at this
        exact this
      simp only[db,Q6,Qa,Qb,Qc,Qd,Qe,Qf,Qg,Qh,Qi,Qj,Qk,Ql,Qm,Qn,true_and,and_true,Qo,Qp,Qq,Qr,Qs,Qt,Qu,Qv,Qw,Qx,Qy,Qz,Ra,Rb,Rc,Rd,Re,Rf,Rg,Rh,Ri,Rj,Rk,Rm,Rn,Ro,Rp,Rq,Rs,Ya,Yb,Yc,Rt,Ru,Za,Yd,Ye,Rx,Ry,Rz,Wa,Wb,Wc,Wd]
      refine ZB hE (fV hui (fU hS.next n2)) (fun q hq=>fV (hpS q hq) n2) o2 (off:=k) (vl:=vlo++[v2,v1]) (by rw[hVl];omega) hms hsV hvS2 (by rw[hVl];omega) fun S3 y n3 f3 o3=>?_
      rw[hmd]at o3
      have hOl:=G3 (D.zip ((vlo++[v2,v1])++[0])) 0
      have hOs:=Ex (D.zip ((vlo++[v2,v1])++[0])) 0
      rw[gj,hw1,hDl,Nat.min_self]at hOl
      generalize (DQ (D.zip ((vlo++[v2,v1])++[0])) 0).1=O at *
      have hmm:Er (Er cu k D) k O=Er cu k O:=by
        unfold Er
        have htk:(cu.take k).length=k:=by rw[fx];omega
        have e1:(cu.take k++D++cu.drop (k+D.length)).take k=cu.take k:=by rw[ft,List.take_left' htk]
        have e2:(cu.take k++D++cu.drop (k+D.length)).drop (k+O.length)=cu.drop (k+O.length):=by
          rw[hOl,← hDl]
          rw[List.drop_left' (by rw[fg,htk])]
        rw[e1,e2]
      rw[hmm]at o3
      simp only[Q7,m6,Qa,Qb,Qc,Qd,Qe,Qf,Qg,Qh,Qi,Qj,Qk,Ql,Qm,Qn,true_and,and_true,Qo,Qp,Qq,Qr,Qs,Qt,Qu,Qv,Qw,Qx,Qy,Qz,Ra,Rb,Rc,Rd,Re,Rf,Rg,Rh,Ri,Rj,Rk,Rm,Rn,Ro,Rp,Rq,Rs,Ya,Yb,Yc,Rt,Ru,Za,Yd,Ye,Rx,Ry,Rz,Wa,Wb,Wc,Wd]
      exact last S3 O (g - 1) (.bool true) (fU n2 n3) (fun j hj j1 j2=>(f3 j (fV hj n2) j1 j2).trans (f2 j hj j1 j2)) o3 hOl hOs r2 (by rw[r1,gv])
end
section
variable(P:Program)(t:TypeId){a:Nat}
theorem bC{k:IntKind}{n:Nat}(hn:n≤32):AM P .shl t (BO a) (.int k (n:Int))=some (BO (a * 2 ^ n % 4294967296)):=by
 show(C4 P (Op.shift .shl .u32 (a:Int) k (n:Int))).bind ofValue=_
 unfold Op.shift
 rw[if_neg (by omega)]
 show some (AV.int .u32 (IntKind.wrap .u32 ((a:Int) * 2 ^ min (n:Int).toNat 32)))=_
 rw[show min (n:Int).toNat 32=n by omega,LJ]
 congr 2
theorem bD{k:IntKind}{n:Nat}(hn:n≤32):AM P .shr t (BO a) (.int k (n:Int))=some (BO (a / 2 ^ n)):=by
 show(C4 P (Op.shift .shr .u32 (a:Int) k (n:Int))).bind ofValue=_
 unfold Op.shift
 rw[if_neg (by omega)]
 show some (AV.int .u32 ((a:Int).fdiv (2 ^ min (n:Int).toNat 32)))=_
 rw[show min (n:Int).toNat 32=n by omega]
 congr 2
 rw[show((2:Int) ^ n)=((2 ^ n:Nat):Int) by push_cast;rfl]
 exact(Int.ofNat_fdiv a (2 ^ n)).symm
end
theorem QT{s:AD}{loc var:List AV}(f:AD→List AV→Option AV)(xs:List CX)(a:CX):Ez s loc var ⟨none,.r f,xs,a⟩=OK (f s (Qh loc var xs)) (CM loc var a):=by
 have:∀l:List CX,Cs loc var l=Qh loc var l:=by
  intro l
  induction l with
  | nil=>rfl
  | cons x l ih=>show CM loc var x::Cs loc var l=CM loc var x::Qh loc var l;rw[ih]
 show(!BK loc var none || OK (Di (.r f) (Cs loc var xs) s) (CM loc var a))=_
 rw[this]
 rfl
theorem KY(u v:AV):OK (some u) v=Ep u v:=rfl
theorem XM(n:Int):Ep (iv n) (iv n)=true:=by simp[Ep,EN,Bn]
section
variable{E:Cf}{s:AD}
theorem TF{b:Option (Nat×Nat)}{cb:Option Nat}{lo:List Nat}{bt:Nat}(hc:Ah s.next s b (us (lo++[bt])))(hbt:0<bt)(hb:bt<4294967296)(hl:lo.length≤10000000000){Q:Aq→Prop}(a0 a2 a3 a4 a5 a6 a8 a9 a10 a11 a12 a13 a14 a15 a17 a18:AV)
  (hq:∀ (n:Nat) (y16:AV),n≤31→2147483648≤bt * 2 ^ n→bt * 2 ^ n<4294967296→Q ⟨.exit 1,[a0,.slice b (lo.length+1) cb,a2,a3,a4,a5,a6,AU n,a8,a9,a10,a11,a12,a13,a14,a15,y16,a17,a18],[],s⟩):
  ∀ (m n:Nat) (x16:AV),n+m=32→bt * 2 ^ n<4294967296→WC E none (.loop G5) Q [a0,.slice b (lo.length+1) cb,a2,a3,a4,a5,a6,AU n,a8,a9,a10,a11,a12,a13,a14,a15,x16,a17,a18] [] s:=by
 intro m
 induction m with
 | zero =>
  intro n x16 hn hlt
  exfalso
  have:n=32:=by omega
  subst this
  have e:(2:Nat) ^ 32=4294967296:=by decide
  rw[e]at hlt
  have:=fj 4294967296 hbt
  omega
 | succ m ih =>
  intro n x16 hn hlt
  have s1:=Br Tryz.prog 3 ((lo.length+1:Nat):Int) 1 ⟨by omega,by omega⟩
  have s1':((lo.length+1:Nat):Int) - 1=(lo.length:Int):=by omega
  obtain⟨p1,i1,l1⟩:=DO (cap:=cb) (n:=lo.length+1) hc (k:=lo.length) (by omega) (x:=bt) (by simp)
  have m1:=bC Tryz.prog 192 (a:=bt) (k:=.u64) (n:=n) (by omega)
  rw[fy hlt]at m1
  have m2:AM Tryz.prog .shr 192 (BO (bt * 2 ^ n)) (.int .u64 31)=some (BO (bt * 2 ^ n / 2147483648)):=bD Tryz.prog 192 (k:=.u64) (n:=31) (by decide)
  have m3:AM Tryz.prog .eql 192 (BO (bt * 2 ^ n / 2147483648)) (.int .u32 0)=some (.bool (decide (bt * 2 ^ n / 2147483648=0))):=bu Tryz.prog 192 (b:=0) .u32
  have m4:AM Tryz.prog .add 193 (AU n) (.int .u64 1)=some (AU (n+1)):=F4 Tryz.prog 193 (b:=1) (by omega)
  refine WC.loop' ?_
  generalize hW:WC E none (Ab.loop G5) Q=WW
  by_cases h:2147483648≤bt * 2 ^ n
  ·have db:decide (bt * 2 ^ n / 2147483648=0)=false:=decide_eq_false (by omega)
   simp only[G5,L8,AY Tryz.underlying30,s1,s1',i1,l1,m1,m2,m3,db,Qa,Qb,Qc,Qd,Qe,Qf,Qg,Qh,Qi,Qj,Qk,Ql,Qm,Qn,true_and,and_true,Qo,Qp,Qq,Qr,Qs,Qt,Qu,Qv,Qw,Qx,Qy,Qz,Ra,Rb,Rc,Rd,Re,Rf,Rg,Rh,Ri,Rj,Rk,Rm,Rn,Ro,Rp,Rq,Rs,Ya,Yb,Yc,Rt,Ru,Za,Yd,Ye,Rx,Ry,Rz,Wa,Wb,Wc,Wd]
   exact hq n _ (by omega) h hlt
  ·have db:decide (bt * 2 ^ n / 2147483648=0)=true:=decide_eq_true (by omega)
   simp only[G5,L8,QY,AY Tryz.underlying30,s1,s1',i1,l1,m1,m2,m3,db,m4,Qa,Qb,Qc,Qd,Qe,Qf,Qg,Qh,Qi,Qj,Qk,Ql,Qm,Qn,true_and,and_true,Qo,Qp,Qq,Qr,Qs,Qt,Qu,Qv,Qw,Qx,Qy,Qz,Ra,Rb,Rc,Rd,Re,Rf,Rg,Rh,Ri,Rj,Rk,Rm,Rn,Ro,Rp,Rq,Rs,Ya,Yb,Yc,Rt,Ru,Za,Yd,Ye,Rx,Ry,Rz,Wa,Wb,Wc,Wd]
   rw[← hW]
   exact ih (n+1) _ (by omega) (by rw[gG,← fk];omega)
theorem R4      (hE : Al    E) {va vb : AV} {la lb : List Nat} (ha : CV  s va la) (hb : CV  s vb lb) (hla : la.length ≤ 1000000000) (hlb : lb.length ≤ 1000000000) (hsa : BY  la) (hsb : BY  lb) {K : AV → AD  → Prop}
    (hK0:AC lb=0→∀s',A9 s.next s s'→K (.tuple [.slice none 0 (some 0),.slice none 0 (some 0),iv 3]) s')
    (hK1:AC lb≠0→∀s' vq vr,A9 s.next s s'→NR s.next s' vq (AI (AC la / AC lb))→NR s.next s' vr (AI (AC la % AC lb))→(AC la<AC lb→vq=.slice none 0 (some 0))→K (.tuple [vq,vr,iv 0]) s'):WF E 134 [va,vb] K s:=by
  have hLB:LB=4294967296:=rfl
  refine hE.go ZU (by decide) rfl ?_
  simp only[dW,T3,T4,Qa,Qb,Qc,Qd,Qe,Qf,Qg,Qh,Qi,Qj,Qk,Ql,Qm,Qn,true_and,and_true,Qo,Qp,Qq,Qr,Qs,Qt,Qu,Qv,Qw,Qx,Qy,Qz,Ra,Rb,Rc,Rd,Re,Rf,Rg,Rh,Ri,Rj,Rk,Rm,Rn,Ro,Rp,Rq,Rs,Ya,Yb,Yc,Rt,Ru,Za,Yd,Ye,Rx,Ry,Rz,Wa,Wb,Wc,Wd]
  refine Bz hE ha (by omega) fun s1 v1 o1 r1=>?_
  simp only[Qa,Qb,Qc,Qd,Qe,Qf,Qg,Qh,Qi,Qj,Qk,Ql,Qm,Qn,true_and,and_true,Qo,Qp,Qq,Qr,Qs,Qt,Qu,Qv,Qw,Qx,Qy,Qz,Ra,Rb,Rc,Rd,Re,Rf,Rg,Rh,Ri,Rj,Rk,Rm,Rn,Ro,Rp,Rq,Rs,Ya,Yb,Yc,Rt,Ru,Za,Yd,Ye,Rx,Ry,Rz,Wa,Wb,Wc,Wd]
  refine Bz hE (hb.old o1) (by omega) fun s2 v2 o2 r2=>?_
  have t1:=DL la
  have t2:=DL lb
  have R1:NR s.next s2 v1 (AI (AC la)):=by have:=r1.old o2;rw[BJ hsa]at this;exact this
  have R2:NR s.next s2 v2 (AI (AC lb)):=by have:=r2.mono o1.1;rw[BJ hsb]at this;exact this
  rw[BJ hsa]at t1
  rw[BJ hsb]at t2
  have oS:A9 s.next s s2:=o1.trans (o2.mono o1.1)
  have n1:=R1.n32
  have n2:=R2.n32
  clear r1 r2 o1 o2 ha hb hsa hsb
  generalize AC la=A at *
  generalize AC lb=B at *
  have hsA:=AR A
  have hsB:=AR B
  have hvA:=AZ A
  have hvB:=AZ B
  obtain⟨b,cb,rfl,hcapb,hcb⟩:=id n2
  by_cases hB0:B=0
  · subst hB0
    have hl0:(AI 0).length=0:=by rw[A7];rfl
    have d0:decide (((AI 0).length:Int)=0)=true:=decide_eq_true (by omega)
    simp only[Ou,T5,AY Tryz.underlying30,Wb,d0,Qa,Qb,Qc,Qd,Qe,Qf,Qg,Qh,Qi,Qj,Qk,Ql,Qm,Qn,true_and,and_true,Qo,Qp,Qq,Qr,Qs,Qt,Qu,Qv,Qw,Qx,Qy,Qz,Ra,Rb,Rc,Rd,Re,Rf,Rg,Rh,Ri,Rj,Rk,Rm,Rn,Ro,Rp,Rq,Rs,Ya,Yb,Yc,Rt,Ru,Za,Yd,Ye,Rx,Ry,Rz,Wa,Wb,Wc,Wd]
    exact hK0 rfl s2 oS
  · have hBl : (AI    B).length ≠ 0 := fun e => Ca       hB0 (gc                            e)
    have d0:decide (((AI B).length:Int)=0)=false:=decide_eq_false (by omega)
    simp only[Ou,T6,AY Tryz.underlying30,Wb,d0,Qa,Qb,Qc,Qd,Qe,Qf,Qg,Qh,Qi,Qj,Qk,Ql,Qm,Qn,true_and,and_true,Qo,Qp,Qq,Qr,Qs,Qt,Qu,Qv,Qw,Qx,Qy,Qz,Ra,Rb,Rc,Rd,Re,Rf,Rg,Rh,Ri,Rj,Rk,Rm,Rn,Ro,Rp,Rq,Rs,Ya,Yb,Yc,Rt,Ru,Za,Yd,Ye,Rx,Ry,Rz,Wa,Wb,Wc,Wd]
    refine W7 hE n1 n2 (by omega) (by omega) hsA hsB fun s3 o3=>?_
    rw[hvA,hvB]
    have oS3:A9 s.next s s3:=oS.trans (o3.mono oS.1)
    have R1':=R1.old o3
    have n1':=n1.old o3
    have n2':=n2.old o3
    by_cases hlt:A<B
    · have ec : GQ   A B = -1 := by unfold GQ;   rw [if_pos hlt]
      have d1:decide ((-1:Int)<0)=true:=by decide
      simp only[ec,Rx,d1,T7,Qa,Qb,Qc,Qd,Qe,Qf,Qg,Qh,Qi,Qj,Qk,Ql,Qm,Qn,true_and,and_true,Qo,Qp,Qq,Qr,Qs,Qt,Qu,Qv,Qw,Qx,Qy,Qz,Ra,Rb,Rc,Rd,Re,Rf,Rg,Rh,Ri,Rj,Rk,Rm,Rn,Ro,Rp,Rq,Rs,Ya,Yb,Yc,Rt,Ru,Za,Yd,Ye,Rx,Ry,Rz,Wa,Wb,Wc,Wd]
      refine hK1 hB0 s3 _ _ oS3 ?_ ?_ (fun _=>rfl)
      · rw[gT hlt,A7];exact NR.nil _ _
      · rw[fy hlt];exact R1'
    · have d1:decide (GQ A B<0)=false:=by
        unfold GQ
        rw[if_neg hlt]
        split<;>decide
      by_cases h1:(AI B).length=1
      · have d2:decide (((AI B).length:Int)=1)=true:=decide_eq_true (by omega)
        obtain⟨y,hy⟩:∃y,AI B=[y]:=by
          match hlb:AI B,h1 with
          | [y],_=>exact⟨y,rfl⟩
        have hyB:y=B:=by
          have:=hvB
          rw[hy]at this
          show y=B
          have e:AC [y]=y:=by show y+LB * 0=y;omega
          rw[e]at this;exact this
        subst hyB
        have hy32:y<4294967296:=by have:=hsB y (by rw[hy];simp);exact this
        obtain⟨p1,i1,l1⟩:=DO (cap:=cb) (n:=(AI y).length) (hcb.old o3 (fR _)) (k:=0) (by omega) (x:=y) (by rw[hy];rfl)
        have i1':AP Tryz.prog 30 (.slice b (AI y).length cb) (.int .i64 0)=some p1:=i1
        simp only[Rx,d1,Ov,T8,AY Tryz.underlying30,Wb,d2,i1',l1,BP hy32,Qa,Qb,Qc,Qd,Qe,Qf,Qg,Qh,Qi,Qj,Qk,Ql,Qm,Qn,true_and,and_true,Qo,Qp,Qq,Qr,Qs,Qt,Qu,Qv,Qw,Qx,Qy,Qz,Ra,Rb,Rc,Rd,Re,Rf,Rg,Rh,Ri,Rj,Rk,Rm,Rn,Ro,Rp,Rq,Rs,Ya,Yb,Yc,Rt,Ru,Za,Yd,Ye,Rx,Ry,Rz,Wa,Wb,Wc,Wd]
        refine Kf hE n1' (by omega) hsA (x:=y) (by omega) (by omega) fun s4 vq o4 r4=>?_
        obtain⟨w1,w2,w3⟩:=Cl (show 0<y by omega) (AI A)
        rw[hvA]at w1
        have hsq:=Dt (show 0<y by omega) hsA
        generalize A2 y (AI A)=T at *
        have hq:AC T.1=A / y:=by
          rw[w1,Nat.mul_add_div (by omega),gT w2,fi]
        have hr:T.2=A % y:=by
          rw[w1,Nat.mul_add_mod,fy w2]
        rw[BJ hsq,hq]at r4
        rw[hr]
        simp only[T9,Za,Qa,Qb,Qc,Qd,Qe,Qf,Qg,Qh,Qi,Qj,Qk,Ql,Qm,Qn,true_and,and_true,Qo,Qp,Qq,Qr,Qs,Qt,Qu,Qv,Qw,Qx,Qy,Qz,Ra,Rb,Rc,Rd,Re,Rf,Rg,Rh,Ri,Rj,Rk,Rm,Rn,Ro,Rp,Rq,Rs,Ya,Yb,Yc,Rt,Ru,Za,Yd,Ye,Rx,Ry,Rz,Wa,Wb,Wc,Wd]
        refine SC hE (n:=A % y) (by have:=fo A (show 0<y by omega);omega) fun s5 vr o5 r5=>?_
        simp only[Qa,Qb,Qc,Qd,Qe,Qf,Qg,Qh,Qi,Qj,Qk,Ql,Qm,Qn,true_and,and_true,Qo,Qp,Qq,Qr,Qs,Qt,Qu,Qv,Qw,Qx,Qy,Qz,Ra,Rb,Rc,Rd,Re,Rf,Rg,Rh,Ri,Rj,Rk,Rm,Rn,Ro,Rp,Rq,Rs,Ya,Yb,Yc,Rt,Ru,Za,Yd,Ye,Rx,Ry,Rz,Wa,Wb,Wc,Wd]
        exact hK1 hB0 s5 vq vr (oS3.trans ((o4.mono oS3.1).trans (o5.mono (fU oS3.1 o4.1)))) ((r4.old o5).mono oS3.1) (r5.mono (fU oS3.1 o4.1)) (fun h=>absurd h hlt)
      · have d2:decide (((AI B).length:Int)=1)=false:=decide_eq_false (by omega)
        obtain⟨lo,bt,hlo,hlol⟩:=EL (n:=(AI B).length - 1) (l:=AI B) (by omega)
        obtain⟨m,hm⟩:∃m,lo.length=m+1:=⟨lo.length - 1,by omega⟩
        have hbt32:bt<4294967296:=hsB bt (by rw[hlo];simp)
        have hbt0:0<bt:=by
          rcases gO bt with h | h
          · exfalso
            have e1:=J1 B hB0
            have e2:=CE (fun x hx=>hsB x (by rw[hlo];exact gk _ hx):BY lo)
            rw[hlo,Cp,h,gM,fi]at hvB
            rw[hlol]at e2
            omega
          · exact h
        simp only[Rx,d1,Ov,UA,AY Tryz.underlying30,Wb,d2,Qa,Qb,Qc,Qd,Qe,Qf,Qg,Qh,Qi,Qj,Qk,Ql,Qm,Qn,true_and,and_true,Qo,Qp,Qq,Qr,Qs,Qt,Qu,Qv,Qw,Qx,Qy,Qz,Ra,Rb,Rc,Rd,Re,Rf,Rg,Rh,Ri,Rj,Rk,Rm,Rn,Ro,Rp,Rq,Rs,Ya,Yb,Yc,Rt,Ru,Za,Yd,Ye,Rx,Ry,Rz,Wa,Wb,Wc,Wd]
        have hcb3:Ah s3.next s3 b (us (lo++[bt])):=by rw[← hlo];exact(hcb.old o3 (fR _)).mono o3.1
        have hbl:(AI B).length=lo.length+1:=by rw[hlo];simp
        rw[hbl]
        refine TF hcb3 hbt0 hbt32 (by omega) _ _ _ _ _ _ _ _ _ _ _ _ _ _ _ _ (fun n y16 hn31 hn1 hn2=>?_) 32 0 _ rfl (by simpa using hbt32)
        have hnv:=cl (lo:=lo) (bt:=bt) (by rw[← hlo];exact hsB) hn31 hn1 hn2
        obtain⟨hV,vlo0,v1',hVe,hvlo0,hv1'⟩:=hnv
        rw[← hlo,hvB]at hV
        rw[← hlo]at hVe
        obtain⟨vlo,v2',hvloe,hvlol⟩:=EL (n:=m) (by rw[hvlo0,hm])
        have hVe2:(It (AI B) (2 ^ n) 0).take (lo.length+1)=vlo++[v2',v1']:=by rw[hVe,hvloe];simp
        have h2n:2 ^ n<LB:=by
          rw[hLB]
          have e32:(2:Nat) ^ 32=4294967296:=by decide
          rw[← e32]
          exact Nat.pow_lt_pow_right (by decide) (by omega)
        have hsU:=EY h2n hsA A4
        have hsW:=EY h2n hsB A4
        have hUl:=G4 (2 ^ n) (AI A) 0
        have hWl:=G4 (2 ^ n) (AI B) 0
        have hUv:=I0 (AI A) (2 ^ n) 0
        rw[hvA,fi]at hUv
        have hAB:lo.length+1≤(AI A).length:=by
          rcases fS (AI A).length (lo.length+1)with h | h
          · rw[← hbl]at h
            exact absurd (Cz h) hlt
          · exact h
        have hnu:=ck (vlo:=vlo0) hsA hn31 hv1' (by omega)
        rw[← hVe,hvlo0]at hnu
        have hsV:BY (vlo++[v2',v1']):=by rw[← hVe2];exact hsW.take _
        rw[hVe2]at hV hnu
        simp only[if_true,QZ,AY Tryz.underlying30,Qa,Qb,Qc,Qd,Qe,Qf,Qg,Qh,Qi,Qj,Qk,Ql,Qm,Qn,true_and,and_true,Qo,Qp,Qq,Qr,Qs,Qt,Qu,Qv,Qw,Qx,Qy,Qz,Ra,Rb,Rc,Rd,Re,Rf,Rg,Rh,Ri,Rj,Rk,Rm,Rn,Ro,Rp,Rq,Rs,Ya,Yb,Yc,Rt,Ru,Za,Yd,Ye,Rx,Ry,Rz,Wa,Wb,Wc,Wd]
        have n2'':CV s3 (.slice b (lo.length+1) cb) (AI B):=by rw[← hbl];exact n2'
        refine bv hE n1' (by omega) hsA (n:=n) (by omega) fun s4 vu o4 r4=>?_
        simp only[QT,AY Tryz.underlying30,KY,XM,Qa,Qb,Qc,Qd,Qe,Qf,Qg,Qh,Qi,Qj,Qk,Ql,Qm,Qn,true_and,and_true,Qo,Qp,Qq,Qr,Qs,Qt,Qu,Qv,Qw,Qx,Qy,Qz,Ra,Rb,Rc,Rd,Re,Rf,Rg,Rh,Ri,Rj,Rk,Rm,Rn,Ro,Rp,Rq,Rs,Ya,Yb,Yc,Rt,Ru,Za,Yd,Ye,Rx,Ry,Rz,Wa,Wb,Wc,Wd]
        refine bv hE (n2''.old o4) (by omega) hsB (n:=n) (by omega) fun s5 vw o5 r5=>?_
        have nw:=r5.n32'
        obtain⟨ui,pu,rfl,hu1,hu2,hu3,hu4⟩:=r4.own (by intro e;rw[e]at hUl;simp at hUl)
        obtain⟨wi,pw,rfl,hw1,hw2,hw3,hw4⟩:=r5.own (by intro e;rw[e]at hWl;simp at hWl)
        obtain⟨aw,cw,ew,hcapw,hcw⟩:=nw
        injection ew with ew1 ew2 ew3
        subst ew1;subst ew3
        have e1:=XF Tryz.underlying30 Bj hcapw (k:=lo.length+1) (by rw[hWl];omega)
        have nV:=CV.take hcapw hcw (k:=lo.length+1) (by rw[hWl];omega)
        rw[hVe2]at nV
        have e2:=Br Tryz.prog 3 (((It (AI A) (2 ^ n) 0).length:Nat):Int) ((lo.length+1:Nat):Int) ⟨by omega,by omega⟩
        have e2':(((It (AI A) (2 ^ n) 0).length:Nat):Int) - ((lo.length+1:Nat):Int)=(((It (AI A) (2 ^ n) 0).length - (lo.length+1):Nat):Int):=by omega
        have e3:=Mg ((It (AI A) (2 ^ n) 0).length - (lo.length+1)) (by omega)
        have e4:=Br Tryz.prog 3 (((It (AI A) (2 ^ n) 0).length - (lo.length+1):Nat):Int) 1 ⟨by omega,by omega⟩
        simp only[QT,AY Tryz.underlying30,KY,XM,e1,Q1,Q2,e2,e2',Xx,e3,Xd,e4,Qa,Qb,Qc,Qd,Qe,Qf,Qg,Qh,Qi,Qj,Qk,Ql,Qm,Qn,true_and,and_true,Qo,Qp,Qq,Qr,Qs,Qt,Qu,Qv,Qw,Qx,Qy,Qz,Ra,Rb,Rc,Rd,Re,Rf,Rg,Rh,Ri,Rj,Rk,Rm,Rn,Ro,Rp,Rq,Rs,Ya,Yb,Yc,Rt,Ru,Za,Yd,Ye,Rx,Ry,Rz,Wa,Wb,Wc,Wd]
        generalize hU0:It (AI A) (2 ^ n) 0=U0 at *
        have hml:m=vlo.length:=hvlol.symm
        have hll:lo.length+1=vlo.length+2:=by omega
        rw[hll]at nV
        rw[hll]at *
        have hn5:s5.next<(newObj s5 (R 192 1 false (us (List.replicate (U0.length - (vlo.length+2)) 0)))).next:=gC _
        have o6:=A9.new s5 (R 192 1 false (us (List.replicate (U0.length - (vlo.length+2)) 0)))
        have hVl:(vlo++[v2',v1']).length=vlo.length+2:=by simp
        generalize hs6:newObj s5 (R 192 1 false (us (List.replicate (U0.length - (vlo.length+2)) 0)))=s6 at *
        have hq6:s6.heap.get s5.next=some (R 192 1 false (us (List.replicate (U0.length - (vlo.length+2)) 0))):=by rw[← hs6,AN,if_pos rfl]
        have o46:A9 s4.next s4 s6:=o5.trans (o6.mono o5.1)
        have hu6:B5 s6 ui (us U0) pu:=hu3.keep (o46.2 ui hu2)
        refine XJ hE (s0:=s6) (U0:=U0) (ui:=ui) (qi:=s5.next) (pp:=pu) (fV hu2 o46.1) hn5 (by have:=o5.1;omega) (fun q hq=>⟨by have:=(hu4 q hq).2.1;have:=o46.1;omega,by have:=(hu4 q hq).2.1;have:=o5.1;omega⟩) hsV hv1' (by omega)
          (nV.old o6) (fun j hj=>?_) _ _ _ _ _ _ _ _ _ _ _ (fun S cu qs y10 y11 y12 y17 y18 hS=>?_) (U0.length - (vlo.length+2)) s6 U0 (List.replicate (U0.length - (vlo.length+2)) 0) _ _ _ _ ⟨fR _,fun j _ _ _ _=>rfl,hu6,B5.of_R hq6,?_,?_⟩ (by omega)
        · injection hj with hj
          subst hj
          exact⟨by omega,fun e=>by have:=(hu4 wi e.symm).2.1;omega,by omega⟩
        ·
          have hVpos:0<AC (vlo++[v2',v1']):=by
            rw[hV]
            exact Nat.mul_pos (by omega) (gN (by decide))
          have hrem:=hS.inv.rem
          have hquo:=hS.inv.quo
          rw[gp,gp,hUv,hV]at hrem hquo
          rw[Nat.mul_div_mul_right _ _ (gN (by decide))]at hquo
          rw[Nat.mul_mod_mul_right]at hrem
          have hcl:=hS.inv.len
          have hql:qs.length=U0.length - (vlo.length+2):=by have:=hS.qlen;rw[hVl]at this;omega
          have huiS:ui<S.next:=by have:=hS.next;have:=o46.1;omega
          have nu:=N9 hS.u huiS (lo:=0) (m:=cu.length) (by omega)
          rw[gp,List.take_length,hcl]at nu
          have p31:2 ^ n≤2147483648:=by
            have e31:(2:Nat) ^ 31=2147483648:=by decide
            rw[← e31]
            exact gX (by decide) hn31
          have p0:0<2 ^ n:=gN (by decide)
          have es:AM Tryz.prog .shl 173 (.int .u64 1) (AU n)=some (AU (2 ^ n)):=by
            have:=Lm Tryz.prog 173 (a:=1) (k:=.u64) (n:=n) (by omega) (by rw[Nat.one_mul];omega)
            rw[Nat.one_mul]at this
            exact this
          simp only[if_true,Q8,es,Qa,Qb,Qc,Qd,Qe,Qf,Qg,Qh,Qi,Qj,Qk,Ql,Qm,Qn,true_and,and_true,Qo,Qp,Qq,Qr,Qs,Qt,Qu,Qv,Qw,Qx,Qy,Qz,Ra,Rb,Rc,Rd,Re,Rf,Rg,Rh,Ri,Rj,Rk,Rm,Rn,Ro,Rp,Rq,Rs,Ya,Yb,Yc,Rt,Ru,Za,Yd,Ye,Rx,Ry,Rz,Wa,Wb,Wc,Wd]
          refine Kf hE nu (by omega) hS.inv.sm p0 (by omega) fun s8 vr o8 r8=>?_
          obtain⟨w1,w2,w3⟩:=Cl p0 cu
          have hss:=Dt p0 hS.inv.sm
          rw[hrem]at w1
          generalize A2 (2 ^ n) cu=T at *
          have hr:AC T.1=A % B:=by
            have e1:2 ^ n * AC T.1+T.2=2 ^ n * (A % B):=by rw[← w1,fe]
            have e2:(2 ^ n * AC T.1+T.2) / 2 ^ n=2 ^ n * (A % B) / 2 ^ n:=by rw[e1]
            rw[Nat.mul_add_div p0,gT w2,fi,Nat.mul_div_cancel_left _ p0]at e2
            exact e2
          rw[BJ hss,hr]at r8
          have hqiS:s5.next<S.next:=by have:=hS.next;omega
          have hq8:=hS.q.keep (o8.2 s5.next hqiS)
          have nq:CV s8 (.slice (some (s5.next,0)) (U0.length - (vlo.length+2)) (some (U0.length - (vlo.length+2)))) qs:=
            ⟨some (s5.next,0),some (U0.length - (vlo.length+2)),by rw[hql],.inl ⟨_,rfl,by omega,fun e=>by cases e⟩,Hx hq8 (fV hqiS o8.1)⟩
          simp only[Q9,Za,Qa,Qb,Qc,Qd,Qe,Qf,Qg,Qh,Qi,Qj,Qk,Ql,Qm,Qn,true_and,and_true,Qo,Qp,Qq,Qr,Qs,Qt,Qu,Qv,Qw,Qx,Qy,Qz,Ra,Rb,Rc,Rd,Re,Rf,Rg,Rh,Ri,Rj,Rk,Rm,Rn,Ro,Rp,Rq,Rs,Ya,Yb,Yc,Rt,Ru,Za,Yd,Ye,Rx,Ry,Rz,Wa,Wb,Wc,Wd]
          refine Bz hE nq (by omega) fun s9 vq o9 r9=>?_
          rw[BJ hS.inv.qsm,hquo]at r9
          have hbase:s.next≤S.next:=by have:=oS3.1;have:=o4.1;have:=o46.1;have:=hS.next;omega
          have oSS:A9 s.next s S:=⟨hbase,fun j hj=>by
            have h3:j<s3.next:=fV hj oS3.1
            have h4:j<s4.next:=fV h3 o4.1
            rw[hS.keep j (fV h4 o46.1) (by omega) (fun e=>by have:=(hu4 j e.symm).1;omega) (by have:=o5.1;omega),o46.2 j h4,o4.2 j h3]
            exact oS3.2 j hj⟩
          simp only[Qa,Qb,Qc,Qd,Qe,Qf,Qg,Qh,Qi,Qj,Qk,Ql,Qm,Qn,true_and,and_true,Qo,Qp,Qq,Qr,Qs,Qt,Qu,Qv,Qw,Qx,Qy,Qz,Ra,Rb,Rc,Rd,Re,Rf,Rg,Rh,Ri,Rj,Rk,Rm,Rn,Ro,Rp,Rq,Rs,Ya,Yb,Yc,Rt,Ru,Za,Yd,Ye,Rx,Ry,Rz,Wa,Wb,Wc,Wd]
          exact hK1 hB0 s9 vq vr (oSS.trans ((o8.mono hbase).trans (o9.mono (fU hbase o8.1)))) (r9.mono (fU hbase o8.1)) ((r8.old o9).mono hbase) (fun h=>absurd h hlt)
        · have hd:AC (U0.drop (U0.length - (vlo.length+2)))<AC (vlo++[v2',v1']):=by
            have:U0.length - (vlo.length+2)=(AI A).length - lo.length:=by omega
            rw[this];exact hnu
          refine⟨rfl,rfl,hsU,(fy hd).symm,fun x hx=>?_,?_⟩
          · rw[List.eq_of_mem_replicate hx];exact A4
          · rw [gT               hd, gQ                     (by simp)]
            rfl
        · rw[List.length_replicate,hVl];omega
theorem XK(hE:Al E){va vb:AV}{la lb:List Nat}(ha:CV s va la)(hb:CV s vb lb)(hla:la.length≤1000000000)(hlb:lb.length≤1000000000)(hsa:BY la)(hsb:BY lb){K:AV→AD→Prop}
  (hK0:AC lb=0→∀s',A9 s.next s s'→K (.tuple [.slice none 0 (some 0),.slice none 0 (some 0),iv 3]) s')
  (hK1:AC lb≠0→∀s' vq vr,A9 s.next s s'→NR s.next s' vq (AI (AC la / AC lb))→NR s.next s' vr (AI (AC la % AC lb))→K (.tuple [vq,vr,iv 0]) s'):WF E 134 [va,vb] K s:=
 R4 hE ha hb hla hlb hsa hsb hK0 fun h s' vq vr o r1 r2 _=>hK1 h s' vq vr o r1 r2
end
theorem FE{a b:Nat}(h:a≤b):(AI a).length≤(AI b).length:=by
 rcases fS (AI b).length (AI a).length with h' | h'
 ·have:=Cz h';omega
 ·exact h'
section
variable{E:Cf}{s:AD}
theorem XV(hE:Al E){b:Nat}{Q:Aq→Prop}(x2:AV):
    ∀ (n A B : Nat) (S : AD)  (va vb x3 x4 : AV), B < n → A9  b s S → b ≤ S.next → NR b S va (AI    A) → NR b S vb (AI    B) → (AI    A).length ≤ 1000000000 → (AI    B).length ≤ 1000000000 →
      (∀ (S:AD) (va vb y3 y4:AV),A9 b s S→NR b S va (AI (Nat.gcd A B))→Q ⟨.exit 0,[va,vb,x2,y3,y4],[],S⟩) →
      WC E none (.loop JT) Q [va,vb,x2,x3,x4] [] S:=by
  intro n
  induction n with
  | zero=>intro A B S va vb x3 x4 hB;omega
  | succ n ih =>
    intro A B S va vb x3 x4 hB ho hbS ha hb hla hlb hq
    have nb:=hb.n32
    have hlen:Bk Tryz.prog S 30 vb=some (iv ((AI B).length:Int)):=by
      obtain⟨a,cap,rfl,_,_⟩:=nb
      exact AY Tryz.underlying30
    refine WC.loop' ?_
    generalize hW:WC E none (Ab.loop JT) Q=WW
    by_cases h0:B=0
    · subst h0
      have dd:decide ((0:Int)<((AI 0).length:Int))=false:=by rw[A7];rfl
      simp only[JT,Ot,hlen,Ry,dd,Qa,Qb,Qc,Qd,Qe,Qf,Qg,Qh,Qi,Qj,Qk,Ql,Qm,Qn,true_and,and_true,Qo,Qp,Qq,Qr,Qs,Qt,Qu,Qv,Qw,Qx,Qy,Qz,Ra,Rb,Rc,Rd,Re,Rf,Rg,Rh,Ri,Rj,Rk,Rm,Rn,Ro,Rp,Rq,Rs,Ya,Yb,Yc,Rt,Ru,Za,Yd,Ye,Rx,Ry,Rz,Wa,Wb,Wc,Wd]
      refine hq S va vb _ _ ho ?_
      rw[Nat.gcd_zero_right]
      exact ha
    · have hpos : 0 < (AI    B).length := List.length_pos_iff.2 (Ca       h0)
      have dd:decide ((0:Int)<((AI B).length:Int))=true:=decide_eq_true (by omega)
      simp only[JT,Ot,Ty,hlen,Ry,dd,Qa,Qb,Qc,Qd,Qe,Qf,Qg,Qh,Qi,Qj,Qk,Ql,Qm,Qn,true_and,and_true,Qo,Qp,Qq,Qr,Qs,Qt,Qu,Qv,Qw,Qx,Qy,Qz,Ra,Rb,Rc,Rd,Re,Rf,Rg,Rh,Ri,Rj,Rk,Rm,Rn,Ro,Rp,Rq,Rs,Ya,Yb,Yc,Rt,Ru,Za,Yd,Ye,Rx,Ry,Rz,Wa,Wb,Wc,Wd]
      refine XK hE ha.n32 nb hla hlb (AR A) (AR B) (fun e=>absurd (by rw[AZ]at e;exact e) h0) fun _ s' vq vr o' rq rr=>?_
      rw[AZ,AZ]at rr
      have hlt:A % B<B:=fo _ (by omega)
      simp only[Tz,Za,Qa,Qb,Qc,Qd,Qe,Qf,Qg,Qh,Qi,Qj,Qk,Ql,Qm,Qn,true_and,and_true,Qo,Qp,Qq,Qr,Qs,Qt,Qu,Qv,Qw,Qx,Qy,Qz,Ra,Rb,Rc,Rd,Re,Rf,Rg,Rh,Ri,Rj,Rk,Rm,Rn,Ro,Rp,Rq,Rs,Ya,Yb,Yc,Rt,Ru,Za,Yd,Ye,Rx,Ry,Rz,Wa,Wb,Wc,Wd]
      rw[← hW]
      have e:Nat.gcd A B=Nat.gcd B (A % B):=by rw[Nat.gcd_comm,Nat.gcd_rec,Nat.gcd_comm]
      rw[e]at hq
      refine ih B (A % B) s' vb vr _ _ (by omega) (ho.trans (o'.mono hbS)) (fU hbS o'.1) (hb.old o') (rr.mono hbS) hlb (fU (FE (Nat.le_of_lt hlt)) hlb) hq
theorem cV(hE:Al E){va vb:AV}{la lb:List Nat}(ha:CV s va la)(hb:CV s vb lb)(hla:la.length≤1000000000)(hlb:lb.length≤1000000000)(hsa:BY la)(hsb:BY lb){K:AV→AD→Prop}
  (hK:∀s' v,A9 s.next s s'→NR s.next s' v (AI (Nat.gcd (AC la) (AC lb)))→K v s'):WF E 133 [va,vb] K s:=by
 refine hE.go ZT (by decide) rfl ?_
 simp only[dV,Tw,Tx,Qa,Qb,Qc,Qd,Qe,Qf,Qg,Qh,Qi,Qj,Qk,Ql,Qm,Qn,true_and,and_true,Qo,Qp,Qq,Qr,Qs,Qt,Qu,Qv,Qw,Qx,Qy,Qz,Ra,Rb,Rc,Rd,Re,Rf,Rg,Rh,Ri,Rj,Rk,Rm,Rn,Ro,Rp,Rq,Rs,Ya,Yb,Yc,Rt,Ru,Za,Yd,Ye,Rx,Ry,Rz,Wa,Wb,Wc,Wd]
 refine Bz hE ha (by omega) fun s1 v1 o1 r1=>?_
 simp only[Qa,Qb,Qc,Qd,Qe,Qf,Qg,Qh,Qi,Qj,Qk,Ql,Qm,Qn,true_and,and_true,Qo,Qp,Qq,Qr,Qs,Qt,Qu,Qv,Qw,Qx,Qy,Qz,Ra,Rb,Rc,Rd,Re,Rf,Rg,Rh,Ri,Rj,Rk,Rm,Rn,Ro,Rp,Rq,Rs,Ya,Yb,Yc,Rt,Ru,Za,Yd,Ye,Rx,Ry,Rz,Wa,Wb,Wc,Wd]
 refine Bz hE (hb.old o1) (by omega) fun s2 v2 o2 r2=>?_
 have t1:=DL la
 have t2:=DL lb
 have R1:NR s.next s2 v1 (AI (AC la)):=by have:=r1.old o2;rw[BJ hsa]at this;exact this
 have R2:NR s.next s2 v2 (AI (AC lb)):=by have:=r2.mono o1.1;rw[BJ hsb]at this;exact this
 rw[BJ hsa]at t1
 rw[BJ hsb]at t2
 have o12:=o1.trans (o2.mono o1.1)
 simp only[Qa,Qb,Qc,Qd,Qe,Qf,Qg,Qh,Qi,Qj,Qk,Ql,Qm,Qn,true_and,and_true,Qo,Qp,Qq,Qr,Qs,Qt,Qu,Qv,Qw,Qx,Qy,Qz,Ra,Rb,Rc,Rd,Re,Rf,Rg,Rh,Ri,Rj,Rk,Rm,Rn,Ro,Rp,Rq,Rs,Ya,Yb,Yc,Rt,Ru,Za,Yd,Ye,Rx,Ry,Rz,Wa,Wb,Wc,Wd]
 refine XV (s:=s) hE _ (AC lb+1) _ _ s2 v1 v2 _ _ (gC _) o12 o12.1 R1 R2 (by omega) (by omega) fun S va vb y3 y4 hS hr=>?_
 simp only[T0,if_true,Qa,Qb,Qc,Qd,Qe,Qf,Qg,Qh,Qi,Qj,Qk,Ql,Qm,Qn,true_and,and_true,Qo,Qp,Qq,Qr,Qs,Qt,Qu,Qv,Qw,Qx,Qy,Qz,Ra,Rb,Rc,Rd,Re,Rf,Rg,Rh,Ri,Rj,Rk,Rm,Rn,Ro,Rp,Rq,Rs,Ya,Yb,Yc,Rt,Ru,Za,Yd,Ye,Rx,Ry,Rz,Wa,Wb,Wc,Wd]
 exact hK S va hS hr
end
theorem Lr:∀ (l w:List Nat),l.zip (w.take l.length)=l.zip w
 | [],w=>by simp
 | x::l,[]=>by simp
 | x::l,y::w=>by rw[gH,List.take_succ_cons,gm,gm,Lr l w]
structure Si(la lb cu:List Nat)(i:Nat):Prop where
 len:cu.length=la.length+lb.length
 sm:BY cu
 val:AC cu=AC (la.take i) * AC lb
 zero:cu.drop (i+lb.length)=List.replicate (la.length - i) 0
theorem Si.step{la lb cu:List Nat}{i x:Nat}(h:Si la lb cu i)(hx:la[i]? = some x)(hxs:x<LB)(hb:BY lb):
  Si la lb (Er cu i ((Eg x (lb.zip (cu.drop i)) 0).1++[(Eg x (lb.zip (cu.drop i)) 0).2])) (i+1):=by
 obtain⟨h1,h2,h3,h4⟩:=h
 have hi:i<la.length:=(List.getElem?_eq_some_iff.1 hx).1
 have hz:lb.zip (cu.drop i)=lb.zip ((cu.drop i).take lb.length):=(Lr _ _).symm
 rw[hz]
 have hwl:((cu.drop i).take lb.length).length=lb.length:=by rw[fx,gP];omega
 have hv:=Nx x (lb.zip ((cu.drop i).take lb.length)) 0
 have hl:=KC x (lb.zip ((cu.drop i).take lb.length)) 0
 have hzl:(lb.zip ((cu.drop i).take lb.length)).length=lb.length:=by rw[gj,hwl,Nat.min_self]
 obtain⟨c1,c2⟩:=Gp (x:=x) (P:=lb.zip ((cu.drop i).take lb.length)) (c:=0) hxs (fun p hp=>by
  have:=List.of_mem_zip (a:=p.1) (b:=p.2) hp
  exact⟨hb _ this.1,(h2.drop i).take lb.length _ this.2⟩) A4
 rw[M9 hwl.symm,NA hwl.symm,hzl]at hv
 rw[hzl]at hl
 generalize Eg x (lb.zip ((cu.drop i).take lb.length)) 0=T at *
 obtain⟨T1,T2⟩:=T
 simp only at *
 have hdl:(T1++[T2]).length=lb.length+1:=by rw[fg,hl];rfl
 have hd0:cu.drop (i+(lb.length+1))=List.replicate (la.length - (i+1)) 0:=by
  rw[← gB,← gY,h4,List.drop_replicate]
  congr 1
 have hcu:AC cu=AC (cu.take i)+LB ^ i * AC ((cu.drop i).take lb.length):=by
  have e1:cu=cu.take i++((cu.drop i).take lb.length++cu.drop (i+lb.length)):=by
   rw[← gY,gw,gw]
  have e2:=congrArg AC e1
  rw[BA,h4,BA,GO,gM,fi,fx,gZ (by omega)]at e2
  exact e2
 have hta:AC (la.take (i+1))=AC (la.take i)+LB ^ i * x:=by
  rw[List.take_add_one,hx,BA,fx,gZ (by omega)]
  simp[AC]
 refine⟨?_,?_,?_,?_⟩
 ·rw[GF (by rw[hdl];omega)];exact h1
 ·unfold Er
  refine((h2.take i).append (c2.append fun y hy=>?_)).append (h2.drop _)
  rw[List.mem_singleton.1 hy];exact c1
 ·unfold Er
  rw[hdl,hd0,BA,GO,gM,fi,BA,BA,hl,hta,fx,gZ (by omega)]
  have e3:AC [T2]=T2:=by simp[AC]
  rw[e3,hv,fu,← h3,hcu,fi,fw,fk]
  omega
 ·unfold Er
  rw[show i+1+lb.length=(cu.take i++(T1++[T2])).length by simp[hl];omega,List.drop_left,hdl]
  exact hd0
section
variable{E:Cf}{s:AD}
theorem YW{s1:AD}{x:Nat}(hxs:x<4294967296){ui off N:Nat}{cu w:List Nat}(hN:N=cu.length)(hcu:off+w.length≤cu.length)(hcl:cu.length≤100000000000)(hsu:BY cu)(hsw:BY w){a9:Option (Nat×Nat)}{c9:Option Nat}{b:Nat}(hc9:Ah b s1 a9 (us w))(h9:b≤ui)
    {T:List Nat×Nat} {Q:Aq→Prop} (y0 y1 y2 y9 y10 y11 y12:AV)
    (hq:∀ (s':AD) (y7 y8 y15 y16:AV),CW s1 s' ui none→B5 s' ui (us (Er cu off T.1)) none →
      Q ⟨.exit 2,[y0,y1,y2,.slice (some (ui,0)) N (some N),iv (off:Int),BO x,AU T.2,y7,y8,y9,y10,y11,y12,.slice a9 w.length c9,iv (w.length:Int),y15,y16],[],s'⟩):
    ∀ (r : List Nat) (s' : AD)  (c : Nat) (d : List Nat) (x7 x8 x16 : AV), w.drop d.length = r → d.length ≤ w.length → CW    s1 s' ui none → c < 4294967296 →
      (d++(Eg x (r.zip (cu.drop (off+d.length))) c).1,(Eg x (r.zip (cu.drop (off+d.length))) c).2)=T→B5 s' ui (us (Er cu off d)) none →
      WC E none (.loop G6) Q [y0,y1,y2,.slice (some (ui,0)) N (some N),iv (off:Int),BO x,AU c,x7,x8,y9,y10,y11,y12,.slice a9 w.length c9,iv (w.length:Int),iv (d.length:Int),x16] [] s':=by
  subst hN
  intro r
  induction r with
  | nil =>
    intro s' c d x7 x8 x16 hd hk ho hc hT hg
    have hkl:d.length=w.length:=by
      have:=congrArg List.length hd
      simp at this
      omega
    rw[List.zip_nil_left]at hT
    simp only[Eg,gh]at hT
    have dd:decide ((d.length:Int)<(w.length:Int))=false:=decide_eq_false (by omega)
    refine WC.loop' ?_
    simp only[G6,Ox,Rx,dd,Qa,Qb,Qc,Qd,Qe,Qf,Qg,Qh,Qi,Qj,Qk,Ql,Qm,Qn,true_and,and_true,Qo,Qp,Qq,Qr,Qs,Qt,Qu,Qv,Qw,Qx,Qy,Qz,Ra,Rb,Rc,Rd,Re,Rf,Rg,Rh,Ri,Rj,Rk,Rm,Rn,Ro,Rp,Rq,Rs,Ya,Yb,Yc,Rt,Ru,Za,Yd,Ye,Rx,Ry,Rz,Wa,Wb,Wc,Wd]
    subst hT
    exact hq s' _ _ _ _ ho hg
  | cons y r ih =>
    intro s' c d x7 x8 x16 hd hk ho hc hT hg
    have hlt:d.length<w.length:=by
      rcases fS d.length w.length with h' | h'
      · exact h'
      · rw[gQ h']at hd;cases hd
    have hy:w[d.length]? = some y:=by
      have:=congrArg (fun l=>l[0]?) hd
      simpa using this
    have hd':w.drop (d.length+1)=r:=by
      have:=congrArg (List.drop 1) hd
      simpa[gY]using this
    have hys:y<4294967296:=hsw y (fv hy)
    have hlu:off+d.length<cu.length:=by omega
    have hu:cu[off+d.length]? = some cu[off+d.length]:=fX hlu
    have hdu:cu.drop (off+d.length)=cu[off+d.length]::cu.drop (off+(d.length+1)):=gE hlu
    generalize cu[off+d.length]=u at hu hdu
    have hus:u<4294967296:=hsu u (fv hu)
    rw[hdu,gm]at hT
    simp only[Eg]at hT
    obtain⟨i,o,rfl,hi,hload⟩:=hc9 d.length _ (C9 hy)
    have hne:i≠ui:=by omega
    have hkk:decide ((d.length:Int)<(w.length:Int))=true:=decide_eq_true (by omega)
    have e1:=Ax (cap:=c9) (i:=i) (o:=o) Tryz.underlying30 Bj hlt
    have e2:AE Tryz.prog s' 192 (.ptr (some (i,o+d.length * 1)))=some (BO y):=B9 EF (by rw[fZ,DT (ho.get i hne (by simp))];exact hload)
    have e0:=By Tryz.prog 3 (off:Int) (d.length:Int) ⟨by omega,by omega⟩
    have e0':((off:Int)+(d.length:Int))=((off+d.length:Nat):Int):=by omega
    have e5:=Ax (cap:=some cu.length) (i:=ui) (o:=0) Tryz.underlying30 Bj hlu
    have hcell:(us (Er cu off d))[0+(off+d.length) * 1]? = some (BO u):=by rw[fZ,fY];exact C9 ((Mi hlu).trans hu)
    have e6:=Fp (P:=Tryz.prog) (t:=192) EF hg hcell
    have hxy:x * y≤4294967295 * 4294967295:=gW (by omega) (by omega)
    have e3:=Oc Tryz.prog 173 (a:=x) (b:=y) (by omega)
    have e3':=F4 Tryz.prog 173 (a:=x * y) (b:=u) (by omega)
    have e4:=F4 Tryz.prog 173 (a:=c) (b:=x * y+u) (by omega)
    have hLB:LB=4294967296:=rfl
    rw[hLB]at hT
    generalize hc1:c+(x * y+u)=c1 at hT e4
    have hc1b:c1<18446744073709551616:=by omega
    have e7:=Io Tryz.prog 173 hc1b
    have e11:c1 % 4294967296 % 4294967296=c1 % 4294967296:=gn _ _
    have e15:AM Tryz.prog .shr 173 (AU c1) (.int .u64 32)=some (AU (c1 / 4294967296)):=Hm Tryz.prog 173 (k:=.u64) (n:=32) (by decide)
    have hcq:c1 / 4294967296<4294967296:=by omega
    generalize hx:c1 % 4294967296=z at hT e7 e11
    have hlm:0+(off+d.length) * 1<(us (Er cu off d)).length:=by rw[CK,GF (by omega)];omega
    obtain⟨s2,e16,w1,w2,w3⟩:=DK (P:=Tryz.prog) (t:=192) (v:=BO z) Bj hg hlm rfl
    rw[fZ,fY]at e16
    rw[fZ,fY,IQ,JC hlu]at w1
    rw[fZ,fY]at e5 e6
    have e17:=By Tryz.prog 3 (d.length:Int) 1 ⟨by omega,by omega⟩
    have e17':((d.length:Int)+1)=((d.length+1:Nat):Int):=by omega
    refine WC.loop' ?_
    generalize hW:WC E none (Ab.loop G6) Q=WW
    simp only[G6,Ox,UH,UI,RA,RC,RD,Rx,hkk,e0,e0',e1,e2,e5,e6,BP hus,BP hys,BP hxs,e3,e3',e4,e7,Bd,e11,e16,e15,e17,e17',Xx,Xz,Qa,Qb,Qc,Qd,Qe,Qf,Qg,Qh,Qi,Qj,Qk,Ql,Qm,Qn,true_and,and_true,Qo,Qp,Qq,Qr,Qs,Qt,Qu,Qv,Qw,Qx,Qy,Qz,Ra,Rb,Rc,Rd,Re,Rf,Rg,Rh,Ri,Rj,Rk,Rm,Rn,Ro,Rp,Rq,Rs,Ya,Yb,Yc,Rt,Ru,Za,Yd,Ye,Rx,Ry,Rz,Wa,Wb,Wc,Wd]
    rw[← hW]
    have hlen1:(d++[z]).length=d.length+1:=by rw[fg];rfl
    have key:=ih s2 (c1 / 4294967296) (d++[z])
    rw[hlen1]at key
    exact key _ _ _ hd' hlt (ho.step w2 w3) hcq (by rw[ft];exact hT) w1
end
section
variable{E:Cf}{s:AD}
theorem Xs       {s1 : AD}  {qi : Nat} {a b : Option (Nat × Nat)} {ca cb : Option Nat} {la lb : List Nat} (hca : Ah      qi s1 a (us la)) (hcb : Ah      qi s1 b (us lb)) (hla : la.length ≤ 10000000000) (hlb : lb.length ≤ 10000000000) (hsa : BY  la) (hsb : BY  lb) {Q : Aq   → Prop} (y2 : AV)
    (hq:∀ (s':AD) (cu:List Nat) (y4 y5 y6 y7 y8 y11 y12 y13 y14 y15 y16:AV),CW s1 s' qi none→B5 s' qi (us cu) none→Si la lb cu la.length →
      Q ⟨.exit 0,[.slice a la.length ca,.slice b lb.length cb,y2,.slice (some (qi,0)) (la.length+lb.length) (some (la.length+lb.length)),y4,y5,y6,y7,y8,.slice a la.length ca,iv (la.length:Int),y11,y12,y13,y14,y15,y16],[],s'⟩):
    ∀ (k i:Nat) (s':AD) (cu:List Nat) (x4 x5 x6 x7 x8 x12 x13 x14 x15 x16:AV),i+k=la.length→CW s1 s' qi none→B5 s' qi (us cu) none→Si la lb cu i →
      WC E none (.loop G7) Q [.slice a la.length ca,.slice b lb.length cb,y2,.slice (some (qi,0)) (la.length+lb.length) (some (la.length+lb.length)),x4,x5,x6,x7,x8,.slice a la.length ca,iv (la.length:Int),iv (i:Int),x12,x13,x14,x15,x16] [] s':=by
  intro k
  induction k with
  | zero =>
    intro i s' cu x4 x5 x6 x7 x8 x12 x13 x14 x15 x16 hik ho hg hm
    have e:i=la.length:=by omega
    subst e
    have dd:decide ((la.length:Int)<(la.length:Int))=false:=decide_eq_false (by omega)
    refine WC.loop' ?_
    simp only[G7,Ow,Rx,dd,Qa,Qb,Qc,Qd,Qe,Qf,Qg,Qh,Qi,Qj,Qk,Ql,Qm,Qn,true_and,and_true,Qo,Qp,Qq,Qr,Qs,Qt,Qu,Qv,Qw,Qx,Qy,Qz,Ra,Rb,Rc,Rd,Re,Rf,Rg,Rh,Ri,Rj,Rk,Rm,Rn,Ro,Rp,Rq,Rs,Ya,Yb,Yc,Rt,Ru,Za,Yd,Ye,Rx,Ry,Rz,Wa,Wb,Wc,Wd]
    exact hq s' cu _ _ _ _ _ _ _ _ _ _ _ ho hg hm
  | succ k ih =>
    intro i s' cu x4 x5 x6 x7 x8 x12 x13 x14 x15 x16 hik ho hg hm
    have hi:i<la.length:=by omega
    have hx:la[i]? = some la[i]:=fX hi
    generalize la[i]=x at hx
    have hxs:x<4294967296:=hsa x (fv hx)
    have hstep:=hm.step hx hxs hsb
    obtain⟨pi,o,rfl,hpi,hload⟩:=hca i _ (C9 hx)
    have dd:decide ((i:Int)<(la.length:Int))=true:=decide_eq_true (by omega)
    have e1:=Ax (cap:=ca) (i:=pi) (o:=o) Tryz.underlying30 Bj hi
    have e2:AE Tryz.prog s' 192 (.ptr (some (pi,o+i * 1)))=some (BO x):=B9 EF (by rw[fZ,DT (ho.get pi (by omega) (by simp))];exact hload)
    have hTl:(Eg x (lb.zip (cu.drop i)) 0).1.length=lb.length:=by
      rw[KC,gj,gP,hm.len];omega
    generalize hT:Eg x (lb.zip (cu.drop i)) 0=T at *
    have hlen:=hm.len
    have hil:i+T.1.length<cu.length:=by omega
    refine WC.loop' ?_
    generalize hW:WC E none (Ab.loop G7) Q=WW
    simp only[G7,Ow,UE,UF,UG,AY Tryz.underlying30,Rx,dd,e1,e2,Qa,Qb,Qc,Qd,Qe,Qf,Qg,Qh,Qi,Qj,Qk,Ql,Qm,Qn,true_and,and_true,Qo,Qp,Qq,Qr,Qs,Qt,Qu,Qv,Qw,Qx,Qy,Qz,Ra,Rb,Rc,Rd,Re,Rf,Rg,Rh,Ri,Rj,Rk,Rm,Rn,Ro,Rp,Rq,Rs,Ya,Yb,Yc,Rt,Ru,Za,Yd,Ye,Rx,Ry,Rz,Wa,Wb,Wc,Wd]
    refine YW (s1:=s1) (x:=x) hxs (ui:=qi) (off:=i) (N:=la.length+lb.length) (cu:=cu) (w:=lb) (a9:=b) (c9:=cb) (b:=qi) hm.len.symm (by omega) (by omega) hm.sm hsb hcb (fR _) (T:=T) _ _ _ _ _ _ _ (fun s2 y7 y8 y15 y16 ho2 hg2=>?_) lb s' 0 [] _ _ _ rfl (fa _) ho (by decide) (by rw[← hT];rfl) (by rw[Mj];exact hg)
    have e3:=By Tryz.prog 3 (i:Int) (lb.length:Int) ⟨by omega,by omega⟩
    have e3':((i:Int)+(lb.length:Int))=((i+lb.length:Nat):Int):=by omega
    have e4:=Ax (cap:=some (la.length+lb.length)) (i:=qi) (o:=0) Tryz.underlying30 Bj (show i+lb.length<la.length+lb.length by omega)
    have hT2:T.2<4294967296:=by
      rw[← hT]
      exact(Gp (x:=x) hxs (fun p hp=>by
        have:=List.of_mem_zip (a:=p.1) (b:=p.2) hp
        exact⟨hsb _ this.1,hm.sm.drop i _ this.2⟩) A4).1
    have e5:T.2 % 4294967296=T.2:=fy hT2
    have hlm:0+(i+lb.length) * 1<(us (Er cu i T.1)).length:=by rw[CK,GF (by omega)];omega
    obtain⟨s3,e16,w1,w2,w3⟩:=DK (P:=Tryz.prog) (t:=192) (v:=BO T.2) Bj hg2 hlm rfl
    rw[fZ,fY]at e16 e4
    rw[fZ,fY,IQ,← hTl,JC hil]at w1
    have e17:=By Tryz.prog 3 (i:Int) 1 ⟨by omega,by omega⟩
    have e17':((i:Int)+1)=((i+1:Nat):Int):=by omega
    simp only[RE,RF,if_true,AY Tryz.underlying30,Bd,e3,e3',e4,e5,e16,e17,e17',Xx,Xz,Qa,Qb,Qc,Qd,Qe,Qf,Qg,Qh,Qi,Qj,Qk,Ql,Qm,Qn,true_and,and_true,Qo,Qp,Qq,Qr,Qs,Qt,Qu,Qv,Qw,Qx,Qy,Qz,Ra,Rb,Rc,Rd,Re,Rf,Rg,Rh,Ri,Rj,Rk,Rm,Rn,Ro,Rp,Rq,Rs,Ya,Yb,Yc,Rt,Ru,Za,Yd,Ye,Rx,Ry,Rz,Wa,Wb,Wc,Wd]
    rw[← hW]
    exact ih (i+1) s3 _ _ _ _ _ _ _ _ _ _ _ (by omega) (ho2.step w2 w3) w1 hstep
theorem Pu(hE:Al E){va vb:AV}{la lb:List Nat}(ha:CV s va la)(hb:CV s vb lb)(hla:la.length≤1000000000)(hlb:lb.length≤1000000000)(hsa:BY la)(hsb:BY lb){K:AV→AD→Prop}
  (hK:∀s' v,A9 s.next s s'→NR s.next s' v (AI (AC la * AC lb))→K v s'):WF E 135 [va,vb] K s:=by
 obtain⟨a,ca,rfl,hcapa,hca⟩:=ha
 obtain⟨b,cb,rfl,hcapb,hcb⟩:=hb
 have e0:=By Tryz.prog 3 (la.length:Int) (lb.length:Int) ⟨by omega,by omega⟩
 have e0':((la.length:Int)+(lb.length:Int))=((la.length+lb.length:Nat):Int):=by omega
 have e1:=Mg (la.length+lb.length) (by omega)
 have ho:=A9.new s (R 192 1 false (us (List.replicate (la.length+lb.length) 0)))
 refine hE.go ZV (by decide) rfl ?_
 simp only[dX,UB,UC,UD,AY Tryz.underlying30,e0,e0',e1,Xx,Xd,Qa,Qb,Qc,Qd,Qe,Qf,Qg,Qh,Qi,Qj,Qk,Ql,Qm,Qn,true_and,and_true,Qo,Qp,Qq,Qr,Qs,Qt,Qu,Qv,Qw,Qx,Qy,Qz,Ra,Rb,Rc,Rd,Re,Rf,Rg,Rh,Ri,Rj,Rk,Rm,Rn,Ro,Rp,Rq,Rs,Ya,Yb,Yc,Rt,Ru,Za,Yd,Ye,Rx,Ry,Rz,Wa,Wb,Wc,Wd]
 have hg0:(newObj s (R 192 1 false (us (List.replicate (la.length+lb.length) 0)))).heap.get s.next=some (R 192 1 false (us (List.replicate (la.length+lb.length) 0))):=by
  rw[AN,if_pos rfl]
 have hR0:Si la lb (List.replicate (la.length+lb.length) 0) 0:=by
  refine⟨by simp,fun x hx=>by rw[List.eq_of_mem_replicate hx];exact A4,?_,?_⟩
  ·rw[GO,g8]
   show 0=0 * _
   rw[Nat.zero_mul]
  ·rw[List.drop_replicate]
   congr 1
   omega
 refine Xs (s1:=newObj s (R 192 1 false (us (List.replicate (la.length+lb.length) 0)))) (qi:=s.next) (hca.old ho (fR _)) (hcb.old ho (fR _)) (by omega) (by omega) hsa hsb _
  (fun s' cu y4 y5 y6 y7 y8 y11 y12 y13 y14 y15 y16 o' hg' hm=>?_) la.length 0 _ _ _ _ _ _ _ _ _ _ _ _ (by omega) (CW.refl _ _ _) (B5.of_R hg0) hR0
 have hsn:s'.next=s.next+1:=o'.next
 have hq:CV s' (.slice (some (s.next,0)) (la.length+lb.length) (some (la.length+lb.length))) cu:=
  ⟨some (s.next,0),some (la.length+lb.length),by rw[hm.len],.inl ⟨_,rfl,by have:=hm.len;omega,fun e=>by cases e⟩,Hx hg' (by omega)⟩
 simp only[RG,if_true,Qa,Qb,Qc,Qd,Qe,Qf,Qg,Qh,Qi,Qj,Qk,Ql,Qm,Qn,true_and,and_true,Qo,Qp,Qq,Qr,Qs,Qt,Qu,Qv,Qw,Qx,Qy,Qz,Ra,Rb,Rc,Rd,Re,Rf,Rg,Rh,Ri,Rj,Rk,Rm,Rn,Ro,Rp,Rq,Rs,Ya,Yb,Yc,Rt,Ru,Za,Yd,Ye,Rx,Ry,Rz,Wa,Wb,Wc,Wd]
 refine Bz hE hq (by have:=hm.len;omega) fun s2 v2 o2 r2=>?_
 rw[BJ hm.sm,hm.val,List.take_length]at r2
 simp only[Qa,Qb,Qc,Qd,Qe,Qf,Qg,Qh,Qi,Qj,Qk,Ql,Qm,Qn,true_and,and_true,Qo,Qp,Qq,Qr,Qs,Qt,Qu,Qv,Qw,Qx,Qy,Qz,Ra,Rb,Rc,Rd,Re,Rf,Rg,Rh,Ri,Rj,Rk,Rm,Rn,Ro,Rp,Rq,Rs,Ya,Yb,Yc,Rt,Ru,Za,Yd,Ye,Rx,Ry,Rz,Wa,Wb,Wc,Wd]
 exact hK s2 v2 (ho.trans (A9.trans ⟨by have:s.next≤(newObj s (R 192 1 false (us (List.replicate (la.length+lb.length) 0)))).next:=gD _;have:=o'.next;omega,fun j hj=>o'.get j (by omega) (by simp)⟩ (o2.mono (by omega)))) (r2.mono (by omega))
end
end
end Go.Proofs.YtdmgdlbodeemeaaGreatDoor.Am
set_option linter.unusedVariables false
set_option linter.unusedSimpArgs false
namespace Go.Proofs.YtdmgdlbodeemeaaGreatDoor.Am
open Go Go.Proofs
noncomputable section
theorem LL{s s':AD}{l:Nat}(h:s'.heap.get l=s.heap.get l):Ba s' l=Ba s l:=by unfold Ba;rw[h]
theorem FF(s:AD)(l:Nat)(r:EE):Ba (setObj s l (.loop r)) l=some r:=by unfold Ba;rw[Jw,if_pos rfl]
def NC(Q:Aq→Prop)(var:List AV)(marks:List Nat)(s:AD)(pd:Option Code):Prop:=match pd with
 | none=>Q ⟨.normal,var,marks,s⟩
 | some .ret=>Q ⟨.ret,var,marks,s⟩
 | some (.exit id)=>Q ⟨.exit id,var,marks,s⟩
 | some _=>False
theorem YG{Q:Aq→Prop}{var:List AV}{marks:List Nat}{s:AD}{pd:Option Code}(h:NC Q var marks s pd):∃r,Fb var marks s pd=some r∧Q r:=by
 unfold NC at h
 unfold Fb
 split at h
 ·exact⟨_,rfl,h⟩
 ·exact⟨_,rfl,h⟩
 ·exact⟨_,rfl,h⟩
 ·exact h.elim
def JB(fn:FuncId)(var:List AV)(ps:Array Tmp)(a b:Code)(dfr:Nat):EE:={ state:=.ready,pending:=none,fn,var,params:=ps,assign:=a,body:=b,dfr }
theorem WC.range{E:Cf}{Q:Aq→Prop}{var:List AV}{marks:List Nat}{s:AD}{fn:FuncId}{f:CX}{ps:Array Tmp}{a b:Code}{g:FuncId}{first cap:List AV}(hf:CM [] var f=.func g first cap)
  (h:WF E g (first++([.yield (s.next+1)]++cap)) (fun _ s'=>∃r,Ba s' (s.next+1)=some r∧Pj r.state=false∧NC Q var (s.next::marks) (setObj s' (s.next+1) (.loop { r with state:=.exhausted })) r.pending)
   (newObj (newObj s .mark) (.loop (JB fn var ps a b s.next)))):WC E none (.rangeFunc fn f ps a b) Q var marks s:=by
 obtain⟨n,p,h1,r,h2,h3,h4⟩:=h
 obtain⟨res,h5,h6⟩:=YG h4
 refine⟨n+1,res,?_,h6⟩
 show CF (Ck E n) none (.rangeFunc fn f ps a b) var marks s=some res
 simp only[CF,Je,EG,GA,hf,Fe]
 have e:(newObj s .mark).next=s.next+1:=rfl
 rw[e]
 have h1':=h1
 unfold JB at h1'
 rw[h1']
 simp only[Option.bind_some,h2,h3,cond_false,h5]
theorem WR.round{E:Cf}{K:AV→AD→Prop}{l:Nat}{xs:List AV}{s:AD}{r:EE}{var:List AV}{ca cb:Ab}(h1:Ba s l=some r)(h2:DM (De E.P r.fn) r.var r.params.toList xs=some var)
  (h3:E6 E.P r.fn r.assign=some ca) (h4:E6 E.P r.fn r.body=some cb)
  (h:WC E (some l) ca (fun q=>q.exit=.normal∧∃r',Ba q.st l=some r'∧I8 r'.state=true ∧
   WC E (some l) cb (fun q2=>∃r'',Ba q2.st l=some r''∧K (.bool (CY q2.exit).isNone) (setObj q2.st l (.loop { r'' with state:=GM (CY q2.exit),pending:=CY q2.exit }))) q.var q.marks (setObj q.st l (.loop { r' with state:=.busy }))) var [] s):WR E l xs K s:=by
 obtain⟨n,q,g1,g2,r',g3,g4,m,q2,g5,r'',g6,g7⟩:=h
 refine⟨max n m+1,(_,_),?_,g7⟩
 show In E (Ck E (max n m)) l xs s=_
 simp only[In,h1,Option.bind_some,h2,h3,h4,GJ,(FN E (Nat.le_max_left n m)).code g1,g2,D5,cond_true,g3,g4,Hf,(FN E (Nat.le_max_right n m)).code g5,g6]
 rfl
def Bt:Code→List (Code×Code)
 | .seq x y=>Bt x++Bt y
 | .cond _ x y=>Bt x++Bt y
 | .block _ c=>Bt c
 | .loop c=>Bt c
 | .scope c=>Bt c
 | .rangeFunc _ _ a b=>Bt a++Bt b++[(a,b)]
 | _=>[]
def JE (f k:Nat):Code×Code:=(((Tryz.prog.funcs[f]?).bind fun fn=>fn.body.bind fun c=>(Bt c)[k]?)).getD (.skip,.skip)
end
end Go.Proofs.YtdmgdlbodeemeaaGreatDoor.Am
