/- What the reference's function Follows of layer 20 computes: its loops; conditions: the numbers fit. -/
import Derived.Test.YtilhhmkdcoajnaaAmM04
import Derived.Test.YtilhhmkdcoajnaaAmM02
set_option linter.unusedVariables false
set_option linter.unusedSimpArgs false
namespace Go.Proofs.Ytilhhmkdcoajnaa.Am
open Go Go.Proofs
noncomputable section
def CE(K:List Int):List (List Int)→Bool→Option (List Int×Bool)
 | [],more=>some (K,more)
 | c::cs,more=>match Ed K (Ah [] c)with
  | []=>none
  | [y]=>bif FV K (Ah [] c)then CE K cs more else CE (K++[y]) cs true
  | _=>CE K cs more
def JI(cs:List (List Int)):Nat→List Int→Option Bool
 | 0,_=>none
 | n+1,K=>match CE K cs false with
  | none=>some true
  | some (K',true)=>JI cs n K'
  | some (_,false)=>some false
def JA(C:List Int)(K:List Int):List Int→Option (List Int)
 | []=>some K
 | x::l=>if -x∈C then none else JA C (K++[-x]) l
def FU(n:Nat)(cs:List (List Int))(c:List Int):Option Bool:=match JA (Ah [] c) [] (Ah [] c)with
 | none=>some true
 | some K=>JI cs n K
def PP(cs:List (List Int)):Prop:=cs.length≤1000∧∀L∈cs,DF L∧L.length≤1000
theorem Bz.slice{s:AE}{v:AV}{n:Nat}{cs:List AV}{O:List Nat}(hd:Bz s v n 1 cs O):AJ s.next s v cs:=by
 obtain⟨a,cap,h1,h2⟩:=hd.cells
 have:=hd.len
 exact⟨a,cap,by rw[this,rC];exact h1,h2⟩
def Ag(b:Nat)(s:AE)(us:List AV)(cs:List (List Int)):Prop:=us.length=cs.length∧∀ (k:Nat)(L:List Int),cs[k]? = some L→∃u:AV,us[k]? = some u∧AJ b s u (A3 L)
theorem Ag.old{b:Nat}{s s':AE}{us:List AV}{cs:List (List Int)}(h:Ag b s us cs)(k:Ao b s s'):Ag b s' us cs:=
 ⟨h.1,fun j L hj=>let ⟨u,h1,h2⟩:=h.2 j L hj;⟨u,h1,h2.old k (qg _)⟩⟩
theorem Ag.mono{b b':Nat}{s:AE}{us:List AV}{cs:List (List Int)}(h:Ag b s us cs)(k:b≤b'):Ag b' s us cs:=
 ⟨h.1,fun j L hj=>let ⟨u,h1,h2⟩:=h.2 j L hj;⟨u,h1,h2.mono k⟩⟩
theorem Ag.nil(b:Nat)(s:AE):Ag b s [] []:=⟨rfl,fun k L h=>by simp at h⟩
theorem Ag.append{b:Nat}{s:AE}{us us':List AV}{cs cs':List (List Int)}(h:Ag b s us cs)(h':Ag b s us' cs'):Ag b s (us++us') (cs++cs'):=by
 refine⟨by simp[h.1,h'.1],fun k L hk=>?_⟩
 rcases qk k cs.length with hlt | hge
 ·rw[qv hlt]at hk
  obtain⟨u,h1,h2⟩:=h.2 k L hk
  exact⟨u,by rw[qv (by rw[h.1];exact hlt)];exact h1,h2⟩
 ·rw[qy hge]at hk
  obtain⟨u,h1,h2⟩:=h'.2 _ L hk
  exact⟨u,by rw[qy (by rw[h.1];exact hge),h.1];exact h1,h2⟩
theorem Ag.take{b:Nat}{s:AE}{us:List AV}{cs:List (List Int)}(h:Ag b s us cs)(n:Nat):Ag b s (us.take n) (cs.take n):=by
 refine⟨by simp[h.1],fun k L hk=>?_⟩
 rcases qk k n with hlt | hge
 ·rw[rg hlt]at hk
  obtain⟨u,h1,h2⟩:=h.2 k L hk
  exact⟨u,by rw[rg hlt];exact h1,h2⟩
 ·rw[rA (by simp;omega)]at hk;cases hk
theorem Ag.drop{b:Nat}{s:AE}{us:List AV}{cs:List (List Int)}(h:Ag b s us cs)(n:Nat):Ag b s (us.drop n) (cs.drop n):=by
 refine⟨by simp[h.1],fun k L hk=>?_⟩
 rw[rQ]at hk
 obtain⟨u,h1,h2⟩:=h.2 _ L hk
 exact⟨u,by rw[rQ];exact h1,h2⟩
theorem Ag.one{b:Nat}{s:AE}{u:AV}{L:List Int}(h:AJ b s u (A3 L)):Ag b s [u] [L]:=by
 refine⟨rfl,fun k L' hk=>?_⟩
 cases k with
 | zero=>simp at hk;subst hk;exact⟨u,rfl,h⟩
 | succ k=>simp at hk
theorem Ag.cells{b:Nat}{s:AE}{us:List AV}{cs:List (List Int)}(h:Ag b s us cs):Ae us=true:=by
 have:∀ (l:List AV),(∀u∈l,u.isCell=true)→Ae l=true:=by
  intro l
  induction l with
  | nil=>intro _;rfl
  | cons u l ih=>intro hl;simp only[Ae,Bool.and_eq_true];exact⟨hl u ql,ih fun x hx=>hl x (qo _ hx)⟩
 refine this us fun u hu=>?_
 obtain⟨k,hk⟩:=List.mem_iff_getElem?.1 hu
 have hlt:k<us.length:=by
  rcases qk k us.length with h' | h'
  ·exact h'
  ·rw[rA h']at hk;cases hk
 have hlt2:k<cs.length:=by rw[← h.1];exact hlt
 obtain⟨u',h1,a,cap,h2,_⟩:=h.2 k cs[k] (qp hlt2)
 rw[hk]at h1
 injection h1 with h1
 subst h1;subst h2
 rfl
theorem Ag.rows{b c:Nat}{s:AE}{us:List AV}{cs:List (List Int)}(h:Ag b s us cs){a:Option (Nat×Nat)}(hc:BA c s a us)(hbc:b≤c):N2 c s a cs:=by
 intro k L hk
 obtain⟨u,h1,h2⟩:=h.2 k L hk
 obtain⟨i,o,h3,h4,h5⟩:=hc k u h1
 exact⟨i,o,u,h3,h4,h5,h2.mono hbc⟩
theorem Mt:CB Try.prog 23 1=true:=by simp[CB,RY,AV.cells]
def JG(cs:List (List Int))(c:List Int):Nat→Option Nat
 | 0=>none
 | k+1=>if Ah [] (cs.getD k [])=Ah [] c then some k else JG cs c k
def PK{α:Type}(l:List α):Option Nat→List α
 | none=>l
 | some i=>l.take i++l.drop (i+1)
def NS(cs:List (List Int))(c:List Int):List (List Int):=PK cs (JG cs c cs.length)
theorem Kq{P:Program}{t:TypeId}{k:IntKind}{a b:Int}(ha:0≤a)(hb:0<b):AN P .rem t (.int k a) (.int k b)=some (.int k (a % b)):=by
 have hne:b≠0:=by omega
 have e1:a.tmod b=a % b:=Int.tmod_eq_emod_of_nonneg ha
 have hk:B8 k k=true:=by cases k<;>rfl
 show AG (B8 k k) ((FC P (Op.intDiv .rem k a b)).bind ofValue)=_
 rw[hk]
 unfold Op.intDiv
 rw[if_neg hne,e1]
 rfl
abbrev oV(n:Int):AV:=.int .i8 n
def i8(n:Int):Prop:=-128≤n∧n≤127
theorem Ut{s:AE}{n:Int}(h:i8 n):C5 Try.prog s 77 3 (oV n)=some (iv n):=by
 obtain⟨h1,h2⟩:=h
 simp[C5,Try.underlying77,Try.underlying3,Ff (n:=n) ⟨by omega,by omega⟩]
theorem Ou(a b:Int):D6 true (iv a) [iv b]=some (iv (max a b)):=by
 show AG true (some (AV.int .i64 (bif PO a b then b else a)))=_
 rw[D5]
 by_cases h:a<b
 ·rw[decide_eq_true h];simp only[cond_true,AG];rw[Int.max_eq_right (by omega)]
 ·rw[decide_eq_false h];simp only[cond_false,AG,cond_true];rw[Int.max_eq_left (by omega)]
def JH(x:Int):Int:=if x<0 then -(1+max x (-x) % 6)else 1+max x (-x) % 6
def GW(l:List Int):List Int:=(l.take 5).map JH
def Bv(l:List (List Int)):List (List Int):=(l.take 20).map GW
theorem MJ{x:Int}:-6≤JH x∧JH x≤6∧JH x≠0:=by
 have h1:=Int.emod_nonneg (max x (-x)) (show(6:Int)≠0 by decide)
 have h2:=Int.emod_lt_of_pos (max x (-x)) (show(0:Int)<6 by decide)
 unfold JH
 split<;>omega
theorem Nn(l:List Int):DF (GW l)∧(GW l).length≤5:=by
 refine⟨fun x hx=>?_,by simp[GW];omega⟩
 obtain⟨y,_,rfl⟩:=List.mem_map.1 hx
 have:=MJ (x:=y)
 exact⟨by omega,by omega⟩
theorem H6(l:List (List Int)):PP (Bv l)∧(Bv l).length≤20:=by
 have:(Bv l).length≤20:=by simp[Bv];omega
 refine⟨⟨by omega,fun L hL=>?_⟩,this⟩
 obtain⟨y,_,rfl⟩:=List.mem_map.1 hL
 have:=Nn y
 exact⟨this.1,by omega⟩
abbrev aq(l:List Int):List AV:=l.map oV
def cW(l:List Int):Prop:=∀x∈l,i8 x
def US(b:Nat)(s:AE)(a:Option (Nat×Nat))(ls:List (List Int)):Prop:=∀k L,ls[k]? = some L→∃i o u,a=some (i,o)∧i<b∧load1 s i (o+k)=some u∧AJ b s u (aq L)
def E0(b:Nat)(s:AE)(v:AV)(ls:List (List Int)):Prop:=∃a cap,v=.slice a ls.length cap∧US b s a ls
theorem ak{l:List Int}{k:Nat}{x:Int}(h:l[k]? = some x):(aq l)[k]? = some (oV x):=by rw[rX,h];rfl
theorem AJ.keep{b:Nat}{s s':AE}{u:AV}{cs:List AV}(h:AJ b s u cs)(k:∀j,slot u=some j→s'.heap.get j=s.heap.get j):AJ b s' u cs:=by
 obtain⟨a,cap,rfl,hc⟩:=h
 refine⟨a,cap,rfl,fun x y hy=>?_⟩
 obtain⟨i,o,rfl,h2,h3⟩:=hc x y hy
 exact⟨i,o,rfl,h2,by rw[BU (k i rfl)];exact h3⟩
theorem Ag.keep{b:Nat}{s s':AE}{us:List AV}{cs:List (List Int)}(h:Ag b s us cs)(k:∀u∈us,∀j,slot u=some j→s'.heap.get j=s.heap.get j):Ag b s' us cs:=
 ⟨h.1,fun j L hj=>let ⟨u,h1,h2⟩:=h.2 j L hj;⟨u,h1,h2.keep (k u (qj h1))⟩⟩
theorem WS{st e:TypeId}{by_:Nat}(ht:Try.prog.underlying st=some (.slice e))(hs:BD Try.prog e=some 1)(hb:Cg Try.prog e=some by_)(hby:by_≤100)(hx:BC Try.prog st=true)(hz:CB Try.prog e 1=true){s:AE}{v:AV}{n:Nat}{us:List AV}{O:List Nat}(hd:Bz s v n 1 us O)(hl:n≤1000000000){x:AV}(hc:x.isCell=true):
  ∃v' s' O',AY Try.prog (newObj s (AL e 1 [x])) [st,st] [v,.slice (some (s.next,0)) 1 (some 1)]=some (v',s')∧Bz s' v' (n+1) 1 (us++[x]) O'∧s.next≤s'.next ∧
   (∀j,j<s.next→j ∉ O→s'.heap.get j=s.heap.get j)∧(∀j∈O',j∈O∨s.next<j):=by
 have c1:=EU (P:=Try.prog) (e:=e) (s:=newObj s (AL e 1 [x])) (n:=1) (cap:=some 1) (sz:=1) e 1 (by rw[AK,if_pos rfl]) rfl
 have hmul:(n+1) * by_≤(n+1) * 100:=sV _ hby
 obtain⟨v',s',O',h1,h2,h3,h4,h5,h6,h7⟩:=(hd.new (AL e 1 [x])).append (P:=Try.prog) (st:=st) (xt:=st) ht hs hb (by decide) hx hz c1 rfl (by simp[Ae,hc]) (by omega) (by omega)
 have hn:(newObj s (AL e 1 [x])).next=s.next+1:=rfl
 refine⟨v',s',O',h1,h2,by omega,?_,?_⟩
 ·intro j hj ho
  rw[h5 j (by omega) ho,AK,if_neg (by omega)]
 ·intro j hj
  exact(h6 j hj).imp id (fun h=>by omega)
theorem WT{s:AE}{v:AV}{L:List Int}{O:List Nat}(hd:Bz s v L.length 1 (A3 L) O)(hl:L.length≤1000000000)(x:Int):
  ∃v' s' O',AY Try.prog (newObj s (AL 3 1 [iv x])) [23,23] [v,.slice (some (s.next,0)) 1 (some 1)]=some (v',s')∧Bz s' v' (L++[x]).length 1 (A3 (L++[x])) O'∧s.next≤s'.next ∧
   (∀j,j<s.next→j ∉ O→s'.heap.get j=s.heap.get j)∧(∀j∈O',j∈O∨s.next≤j)∧(∀j,slot v'=some j→slot v=some j∨s.next≤j):=by
 have c1:=EU (P:=Try.prog) (e:=3) (s:=newObj s (AL 3 1 [iv x])) (n:=1) (cap:=some 1) (sz:=1) 3 1 (by rw[AK,if_pos rfl]) rfl
 obtain⟨v',s',O',h1,h2,h3,h4,h5,h6,h7⟩:=(hd.new (AL 3 1 [iv x])).append (P:=Try.prog) (st:=23) (xt:=23) Try.underlying23 Br W9 (by decide) (HR 23 3 Try.underlying23) IE c1 rfl rfl (by omega) (by omega)
 have hn:(newObj s (AL 3 1 [iv x])).next=s.next+1:=rfl
 refine⟨v',s',O',h1,?_,by omega,?_,?_,?_⟩
 ·simpa using h2
 ·intro j hj ho
  rw[h5 j (by omega) ho,AK,if_neg (by omega)]
 ·intro j hj
  exact(h6 j hj).imp id (fun h=>by omega)
 ·intro j hj
  exact(h7 j hj).imp id (fun h=>by omega)
set_option maxRecDepth 8000 in
theorem Vx        {E : BI}  (hE : Aq   E) {n1 : Nat} {s1 : AE}  (hn1 : n1 ≤ s1.next) {L : List Int} (hL : cW  L) (hLl : L.length < 9223372036854775808) {a : Option (Nat × Nat)} {cap : Option Nat} (hc : BA      n1 s1 a (aq   L)) {v0 p : AV} {i4 : Nat}
    (g1:AD Try.prog 30 v0 (iv (i4:Int))=some p) (g2:∀s,Ao n1 s1 s→AC Try.prog s 76 p=some (.slice a L.length cap)) (v2 v3 v9:AV) {Q:A9→Prop}:
    ∀ (m k : Nat) (out : List Int) (O : List Nat) (v5 : AV) (s : AE)  (x7 x8 x10 x11 : AV), m = 5 - k → k ≤ L.length → k ≤ 5 → out = (L.take k).map JH   → Bz   s v5 out.length 1 (A3  out) O → ((∀ j ∈ O, n1 ≤ j) ∧ ∀ j, slot v5 = some j → n1 ≤ j) → Ao  n1 s1 s →
      (∀s' v' O' y6 y7 y8 y10 y11,Bz s' v' (GW L).length 1 (A3 (GW L)) O'→((∀j∈O',n1≤j)∧∀j,slot v'=some j→n1≤j)→Ao n1 s1 s'→Q ⟨.exit 2,[v0,iv 6,v2,v3,iv (i4:Int),v',y6,y7,y8,v9,y10,y11],[],s'⟩) →
      WC E none (.loop Gv) Q [v0,iv 6,v2,v3,iv (i4:Int),v5,iv (k:Int),x7,x8,v9,x10,x11] [] s:=by
  intro m
  induction m with
  | zero =>
    intro k out O v5 s x7 x8 x10 x11 hm hk hk5 ho hd hO hold hq
    have hke:k=5:=by omega
    subst hke
    have:out=GW L:=ho
    subst this
    refine WC.loop' ?_
    by_cases hlt:(5:Int)<(L.length:Int)
    · simp only[Gv,NG,g1,g2 s hold,AW Try.underlying76,hlt,decide_true,show((5:Nat):Int)=5 from rfl,beq_self_eq_true,rG,decide_false,Qa,Qb,Qc,Qd,Qe,Qf,Qg,Qh,Qi,Qj,Qk,Ql,Qm,Qn,true_and,and_true,Qo,Qp,Qq,Qr,Qs,Qt,Qu,Qv,Qw,Qx,Qy,Qz,Ra,Rb,Rc,Rd,Re,Rf,Rg,Rh,Ri,Rj,Rk,Rl,Rm,Ya,Yb,Yc,Rn,Ro,Rp,Yd,Ye,Rq,Rs,Rt,Ru,Rv,Rw,Rx]
      exact hq s v5 O _ _ _ _ _ hd hO hold
    · simp only[Gv,NG,g1,g2 s hold,AW Try.underlying76,hlt,show((5:Nat):Int)=5 from rfl,decide_false,Bool.false_eq_true,Bool.false_beq,Bool.not_true,Qa,Qb,Qc,Qd,Qe,Qf,Qg,Qh,Qi,Qj,Qk,Ql,Qm,Qn,true_and,and_true,Qo,Qp,Qq,Qr,Qs,Qt,Qu,Qv,Qw,Qx,Qy,Qz,Ra,Rb,Rc,Rd,Re,Rf,Rg,Rh,Ri,Rj,Rk,Rl,Rm,Ya,Yb,Yc,Rn,Ro,Rp,Yd,Ye,Rq,Rs,Rt,Ru,Rv,Rw,Rx]
      exact hq s v5 O _ _ _ _ _ hd hO hold
  | succ m ih =>
    intro k out O v5 s x7 x8 x10 x11 hm hk hk5 ho hd hO hold hq
    have hk4:k<5:=by omega
    refine WC.loop' ?_
    by_cases hlt:k<L.length
    · have hx : L[k]? = some L[k] := qp                       hlt
      have hxi:=hL L[k] (List.getElem_mem _)
      obtain⟨i,o,rfl,hi,hload⟩:=hc k _ (ak hx)
      have e1:=At (cap:=cap) (i:=i) (o:=o) Try.underlying76 pt hlt
      have ld:∀ {s':AE},Ao n1 s1 s'→AC Try.prog s' 77 (.ptr (some (i,o+k * 1)))=some (oV L[k]):=fun h=>A0 pP (by rw[rC,BU (h.2 i hi)];exact hload)
      have hkk:decide ((k:Int)<(L.length:Int))=true:=decide_eq_true (by omega)
      have hkk5:decide ((k:Int)<5)=true:=decide_eq_true (by omega)
      have e3:=Ay Try.prog 3 (k:Int) 1 ⟨by omega,by omega⟩
      have hcast:((k:Int)+1)=((k+1:Nat):Int):=by omega
      obtain⟨hx1,hx2⟩:=hxi
      have hneg:=Fe Try.prog L[k] ⟨by omega,by omega⟩
      have hmx:(0:Int)≤max L[k] (-L[k]):=by omega
      have hrem:=Kq (P:=Try.prog) (t:=3) (k:=.i64) hmx (show(0:Int)<6 by decide)
      have h6:=Int.emod_lt_of_pos (max L[k] (-L[k])) (show(0:Int)<6 by decide)
      have h6':=Int.emod_nonneg (max L[k] (-L[k])) (show(6:Int)≠0 by decide)
      have hadd:=Ay Try.prog 3 1 (max L[k] (-L[k]) % 6) ⟨by omega,by omega⟩
      have hneg2:=Fe Try.prog (1+max L[k] (-L[k]) % 6) ⟨by omega,by omega⟩
      have hout':out++[JH L[k]]=(L.take (k+1)).map JH:=by rw[ho,sG hlt,rN];rfl
      have holen:out.length≤5:=by rw[ho];simp;omega
      have b1:∀y:Int,Ab Try.prog 23 1 (zipIdx [0] [iv y])=some (AL 3 1 [iv y]):=fun y=>CO Try.underlying23 Br RZ rfl rfl
      have hmv:∀ (m:Nat) (i:Nat),Made.val i (.slice m)=.slice (some (i,0)) m (some m):=fun _ _=>rfl
      obtain⟨v',s',O',p1,p2,p3,p4,p5,p6⟩:=WT hd (by omega) (JH L[k])
      have hold':Ao n1 s1 s':=hold.trans ⟨p3,fun j hj=>p4 j (by have:=hold.1;omega) (fun hm=>by have:=hO.1 j hm;omega)⟩
      have go:∀ (w7 w8 w10 w11:AV),WC E none (.loop Gv) Q [v0,iv 6,v2,v3,iv (i4:Int),v',iv ((k+1:Nat):Int),w7,w8,v9,w10,w11] [] s':=fun w7 w8 w10 w11 =>
        ih (k+1) (out++[JH L[k]]) O' v' s' _ _ _ _ (by omega) hlt (by omega) hout' p2 ⟨fun j hj=>(p5 j hj).elim (hO.1 j) (fun h=>by have:=hold.1;omega),fun j hj=>(p6 j hj).elim (hO.2 j) (fun h=>by have:=hold.1;omega)⟩ hold' hq
      by_cases hneg0:L[k]<0
      · have hlit:JH L[k]=-(1+max L[k] (-L[k]) % 6):=by unfold JH;rw[if_pos hneg0]
        rw[hlit]at p1
        simp only[Gv,NG,YU,YV,YW,YQ,Sd,Se,g1,g2 s hold,AW Try.underlying76,hkk,hkk5,beq_self_eq_true,e1,ld hold,Ut ⟨hx1,hx2⟩,hneg,Ou,hrem,hadd,hneg0,decide_true,hneg2,b1,hmv,p1,e3,hcast,Qa,Qb,Qc,Qd,Qe,Qf,Qg,Qh,Qi,Qj,Qk,Ql,Qm,Qn,true_and,and_true,Qo,Qp,Qq,Qr,Qs,Qt,Qu,Qv,Qw,Qx,Qy,Qz,Ra,Rb,Rc,Rd,Re,Rf,Rg,Rh,Ri,Rj,Rk,Rl,Rm,Ya,Yb,Yc,Rn,Ro,Rp,Yd,Ye,Rq,Rs,Rt,Ru,Rv,Rw,Rx]
        exact go _ _ _ _
      · have hlit:JH L[k]=1+max L[k] (-L[k]) % 6:=by unfold JH;rw[if_neg hneg0]
        rw[hlit]at p1
        simp only[Gv,NG,YU,YV,YW,Sd,Se,g1,g2 s hold,AW Try.underlying76,hkk,hkk5,beq_self_eq_true,e1,ld hold,Ut ⟨hx1,hx2⟩,hneg,Ou,hrem,hadd,hneg0,decide_false,b1,hmv,p1,e3,hcast,Qa,Qb,Qc,Qd,Qe,Qf,Qg,Qh,Qi,Qj,Qk,Ql,Qm,Qn,true_and,and_true,Qo,Qp,Qq,Qr,Qs,Qt,Qu,Qv,Qw,Qx,Qy,Qz,Ra,Rb,Rc,Rd,Re,Rf,Rg,Rh,Ri,Rj,Rk,Rl,Rm,Ya,Yb,Yc,Rn,Ro,Rp,Yd,Ye,Rq,Rs,Rt,Ru,Rv,Rw,Rx]
        exact go _ _ _ _
    · have hkl : k = L.length := by omega
      have hrow:out=GW L:=by rw[ho,hkl,rR];unfold GW;rw[sF (by omega)]
      subst hrow
      have hkk:decide ((k:Int)<(L.length:Int))=false:=decide_eq_false (by omega)
      simp only[Gv,NG,g1,g2 s hold,AW Try.underlying76,hkk,Bool.false_beq,Bool.not_true,Qa,Qb,Qc,Qd,Qe,Qf,Qg,Qh,Qi,Qj,Qk,Ql,Qm,Qn,true_and,and_true,Qo,Qp,Qq,Qr,Qs,Qt,Qu,Qv,Qw,Qx,Qy,Qz,Ra,Rb,Rc,Rd,Re,Rf,Rg,Rh,Ri,Rj,Rk,Rl,Rm,Ya,Yb,Yc,Rn,Ro,Rp,Yd,Ye,Rq,Rs,Rt,Ru,Rv,Rw,Rx]
      exact hq s v5 O _ _ _ _ _ hd hO hold
structure LA(lo:Nat)(s:AE)(v:AV)(us:List AV)(cs:List (List Int))(O:List Nat):Prop where
 dest:Bz s v us.length 1 us O
 rows:Ag s.next s us cs
 slots:∀u∈us,∀j,slot u=some j→lo≤j∧j<s.next∧j ∉ O
 own:∀j∈O,lo≤j
theorem Bz.isSlice{s:AE}{v:AV}{n sz:Nat}{cs:List AV}{O:List Nat}(h:Bz s v n sz cs O):v.isCell=true:=by
 obtain⟨a,cap,rfl,_⟩:=h.cells
 rfl
set_option maxRecDepth 8000 in
theorem OX           {E : BI}  (hE : Aq   E) {s0 : AE}  {b : Nat} (hb : b ≤ s0.next) {ls : List (List Int)} (hls : ∀ L ∈ ls, cW  L ∧ L.length < 9223372036854775808) (hlen : ls.length < 9223372036854775808) {a : Option (Nat × Nat)} {cap : Option Nat} (hc : US      b s0 a ls) (v2 : AV) {Q : A9   → Prop} :
    ∀ (m k : Nat) (us : List AV) (O : List Nat) (v3 : AV) (s : AE)  (x5 x6 x7 x8 x9 x10 x11 : AV), m = 20 - k → k ≤ ls.length → k ≤ 20 → LA     s0.next s v3 us ((ls.take k).map GW)   O → Ao  s0.next s0 s →
      (∀s' v' us' O' y4 y5 y6 y7 y8 y9 y10 y11,LA s0.next s' v' us' (Bv ls) O'→Ao s0.next s0 s'→Q ⟨.exit 0,[.slice a ls.length cap,iv 6,v2,v',y4,y5,y6,y7,y8,y9,y10,y11],[],s'⟩) →
      WC E none (.loop Jn) Q [.slice a ls.length cap,iv 6,v2,v3,iv (k:Int),x5,x6,x7,x8,x9,x10,x11] [] s:=by
  intro m
  induction m with
  | zero =>
    intro k us O v3 s x5 x6 x7 x8 x9 x10 x11 hm hk hk20 hmd hold hq
    have hke:k=20:=by omega
    subst hke
    refine WC.loop' ?_
    by_cases hlt:(20:Int)<(ls.length:Int)
    · simp only[Jn,Pa,AW Try.underlying30,hlt,decide_true,show((20:Nat):Int)=20 from rfl,beq_self_eq_true,rG,decide_false,Qa,Qb,Qc,Qd,Qe,Qf,Qg,Qh,Qi,Qj,Qk,Ql,Qm,Qn,true_and,and_true,Qo,Qp,Qq,Qr,Qs,Qt,Qu,Qv,Qw,Qx,Qy,Qz,Ra,Rb,Rc,Rd,Re,Rf,Rg,Rh,Ri,Rj,Rk,Rl,Rm,Ya,Yb,Yc,Rn,Ro,Rp,Yd,Ye,Rq,Rs,Rt,Ru,Rv,Rw,Rx]
      exact hq s v3 us O _ _ _ _ _ _ _ _ hmd hold
    · simp only[Jn,Pa,AW Try.underlying30,hlt,show((20:Nat):Int)=20 from rfl,decide_false,Bool.false_beq,Bool.not_true,Qa,Qb,Qc,Qd,Qe,Qf,Qg,Qh,Qi,Qj,Qk,Ql,Qm,Qn,true_and,and_true,Qo,Qp,Qq,Qr,Qs,Qt,Qu,Qv,Qw,Qx,Qy,Qz,Ra,Rb,Rc,Rd,Re,Rf,Rg,Rh,Ri,Rj,Rk,Rl,Rm,Ya,Yb,Yc,Rn,Ro,Rp,Yd,Ye,Rq,Rs,Rt,Ru,Rv,Rw,Rx]
      exact hq s v3 us O _ _ _ _ _ _ _ _ hmd hold
  | succ m ih =>
    intro k us O v3 s x5 x6 x7 x8 x9 x10 x11 hm hk hk20 hmd hold hq
    have hk4:k<20:=by omega
    refine WC.loop' ?_
    by_cases hlt:k<ls.length
    · have hx:ls[k]? = some ls[k]:=qp hlt
      obtain⟨hL,hLl⟩:=hls ls[k] (List.getElem_mem _)
      obtain⟨i,o,u,rfl,hi,hload,au,cu,rfl,hcu⟩:=hc k _ hx
      rw[qi]at hload
      have e1:=At (cap:=cap) (i:=i) (o:=o) Try.underlying30 me hlt
      have hns:s0.next≤s.next:=hold.1
      have ld:∀s',Ao s.next s s'→AC Try.prog s' 76 (.ptr (some (i,o+k * 1)))=some (.slice au ls[k].length cu):=fun s' h=>A0 nT (by rw[rC,BU ((hold.trans (h.mono hns)).2 i (by omega))];exact hload)
      have hkk:decide ((k:Int)<(ls.length:Int))=true:=decide_eq_true (by omega)
      have hkk20:decide ((k:Int)<20)=true:=decide_eq_true (by omega)
      have e3:=Ay Try.prog 3 (k:Int) 1 ⟨by omega,by omega⟩
      have hcast:((k:Int)+1)=((k+1:Nat):Int):=by omega
      have hcu':BA s.next s au (aq ls[k]):=(hcu.old hold hb).mono (qs hb hns)
      simp only[Jn,Pa,fu,fv,AW Try.underlying30,hkk,hkk20,beq_self_eq_true,Qa,Qb,Qc,Qd,Qe,Qf,Qg,Qh,Qi,Qj,Qk,Ql,Qm,Qn,true_and,and_true,Qo,Qp,Qq,Qr,Qs,Qt,Qu,Qv,Qw,Qx,Qy,Qz,Ra,Rb,Rc,Rd,Re,Rf,Rg,Rh,Ri,Rj,Rk,Rl,Rm,Ya,Yb,Yc,Rn,Ro,Rp,Yd,Ye,Rq,Rs,Rt,Ru,Rv,Rw,Rx]
      refine Vx hE (qg s.next) hL hLl hcu' e1 ld _ _ _ 5 0 [] [] _ s _ _ _ _ rfl (qm _) (by omega) rfl (Bz.nil s 1) ⟨(fun j hj=>by cases hj),(fun j hj=>by cases hj)⟩ (Ao.refl _ _) ?_
      intro s1 v5 O5 y6 y7 y8 y10 y11 hd5 hO5 hold1
      have hmv:∀ (m:Nat) (i:Nat),Made.val i (.slice m)=.slice (some (i,0)) m (some m):=fun _ _=>rfl
      have hv5:v5.cells=[v5]:=by obtain⟨a',c',rfl,_⟩:=hd5.cells;rfl
      have b1:=CO (P:=Try.prog) (t:=22) (v:=v5) Try.underlying22 Ba RY rfl hv5
      have hslot:=hmd.dest.slot_lt
      have hd3:Bz s1 v3 us.length 1 us O:=hmd.dest.frame hold1.1 fun j hj=>hold1.2 j (hslot j hj)
      have husl:us.length=k:=by have:=hmd.rows.1;simp at this;omega
      obtain⟨v',s2,O',p1,p2,p3,p4,p5⟩:=WS (st:=22) (e:=23) (by_:=24) Try.underlying22 Ba OG (by decide) (HR 22 23 Try.underlying22) Mt hd3 (by omega) hd5.isSlice
      simp only[if_true,YR,b1,hmv,p1,YS,e3,hcast,Qa,Qb,Qc,Qd,Qe,Qf,Qg,Qh,Qi,Qj,Qk,Ql,Qm,Qn,true_and,and_true,Qo,Qp,Qq,Qr,Qs,Qt,Qu,Qv,Qw,Qx,Qy,Qz,Ra,Rb,Rc,Rd,Re,Rf,Rg,Rh,Ri,Rj,Rk,Rl,Rm,Ya,Yb,Yc,Rn,Ro,Rp,Yd,Ye,Rq,Rs,Rt,Ru,Rv,Rw,Rx]
      have hOlt:∀j∈O,j<s.next:=hmd.dest.lt
      have hs12:s1.next≤s2.next:=p3
      have hold2:Ao s0.next s0 s2:=(hold.trans (hold1.mono hns)).trans ⟨p3,fun j hj=>p4 j (by have:=hold1.1;omega) (fun hm=>by have:=hmd.own j hm;omega)⟩
      have old_slot:∀u∈us,∀j,slot u=some j→s2.heap.get j=s.heap.get j:=by
        intro u hu j hj
        obtain⟨g1,g2,g3⟩:=hmd.slots u hu j hj
        rw[p4 j (by have:=hold1.1;omega) g3]
        exact hold1.2 j g2
      have v5_slot:∀j,slot v5=some j→s2.heap.get j=s1.heap.get j:=by
        intro j hj
        have h1:=hO5.2 j hj
        exact p4 j (hd5.slot_lt j hj) (fun hm=>by have:=hOlt j hm;omega)
      refine ih (k+1) (us++[v5]) O' v' s2 _ _ _ _ _ _ _ (by omega) hlt (by omega) ⟨?_,?_,?_,?_⟩ hold2 hq
      · rw[qn];exact p2
      · rw [sG                               hlt, rN]
        refine((hmd.rows.keep old_slot).mono (qs hold1.1 hs12)).append (Ag.one ?_)
        exact((hd5.slice).keep v5_slot).mono hs12
      · intro u hu j hj
        have hO'j:j<s1.next→j ∉ O→j ∉ O':=fun h1 h2 h3=>(p5 j h3).elim h2 (fun h=>by omega)
        rcases sE.1 hu with hu | hu
        · obtain⟨g1,g2,g3⟩:=hmd.slots u hu j hj
          exact⟨g1,by have:=hold1.1;omega,hO'j (by have:=hold1.1;omega) g3⟩
        · have:u=v5:=by simpa using hu
          subst this
          have h1:=hO5.2 j hj
          have h2:=hd5.slot_lt j hj
          exact⟨by omega,by omega,hO'j h2 (fun hm=>by have:=hOlt j hm;omega)⟩
      · intro j hj
        exact(p5 j hj).elim (hmd.own j) (fun h=>by have:=hold1.1;omega)
    · have hkl : k = ls.length := by omega
      have hcv:(ls.take k).map GW=Bv ls:=by rw[hkl,rR];unfold Bv;rw[sF (by omega)]
      rw[hcv]at hmd
      have hkk:decide ((k:Int)<(ls.length:Int))=false:=decide_eq_false (by omega)
      simp only[Jn,Pa,AW Try.underlying30,hkk,Bool.false_beq,Bool.not_true,Qa,Qb,Qc,Qd,Qe,Qf,Qg,Qh,Qi,Qj,Qk,Ql,Qm,Qn,true_and,and_true,Qo,Qp,Qq,Qr,Qs,Qt,Qu,Qv,Qw,Qx,Qy,Qz,Ra,Rb,Rc,Rd,Re,Rf,Rg,Rh,Ri,Rj,Rk,Rl,Rm,Ya,Yb,Yc,Rn,Ro,Rp,Yd,Ye,Rq,Rs,Rt,Ru,Rv,Rw,Rx]
      exact hq s v3 us O _ _ _ _ _ _ _ _ hmd hold
set_option maxRecDepth 8000 in
theorem IQ{E:BI}(hE:Aq E){s:AE}{b:Nat}(hb:b≤s.next){ls:List (List Int)}(hls:∀L∈ls,cW L∧L.length<9223372036854775808)(hlen:ls.length<9223372036854775808){v:AV}(hv:E0 b s v ls):
  WF E 22 [v,iv 6] (fun r s'=>∃us O,LA s.next s' r us (Bv ls) O∧Ao s.next s s') s:=by
 obtain⟨a,cap,rfl,hc⟩:=hv
 refine hE.go lH (by decide) rfl ?_
 simp only[mp,fm,fo,ft,Qa,Qb,Qc,Qd,Qe,Qf,Qg,Qh,Qi,Qj,Qk,Ql,Qm,Qn,true_and,and_true,Qo,Qp,Qq,Qr,Qs,Qt,Qu,Qv,Qw,Qx,Qy,Qz,Ra,Rb,Rc,Rd,Re,Rf,Rg,Rh,Ri,Rj,Rk,Rl,Rm,Ya,Yb,Yc,Rn,Ro,Rp,Yd,Ye,Rq,Rs,Rt,Ru,Rv,Rw,Rx]
 refine OX hE hb hls hlen hc _ 20 0 [] [] _ s _ _ _ _ _ _ _ rfl (qm _) (by omega) ⟨Bz.nil s 1,Ag.nil _ _,(fun u hu=>by cases hu),(fun j hj=>by cases hj)⟩ (Ao.refl _ _) ?_
 intro s' v' us' O' y4 y5 y6 y7 y8 y9 y10 y11 h1 h2
 simp only[YT,if_true,Qa,Qb,Qc,Qd,Qe,Qf,Qg,Qh,Qi,Qj,Qk,Ql,Qm,Qn,true_and,and_true,Qo,Qp,Qq,Qr,Qs,Qt,Qu,Qv,Qw,Qx,Qy,Qz,Ra,Rb,Rc,Rd,Re,Rf,Rg,Rh,Ri,Rj,Rk,Rl,Rm,Ya,Yb,Yc,Rn,Ro,Rp,Yd,Ye,Rq,Rs,Rt,Ru,Rv,Rw,Rx]
 exact⟨us',O',h1,h2⟩
theorem GR(j o:Nat):AB Try.prog 27 (.ptr (some (j,o))) 0=some (.ptr (some (j,o))):=by
 simp[AB,Try.underlying27,JX,AG]
 rfl
theorem IS(j o:Nat):AB Try.prog 27 (.ptr (some (j,o))) 1=some (.ptr (some (j,o+1))):=by
 simp[AB,Try.underlying27,Ba,AG]
 rfl
theorem mQ(j o:Nat):AB Try.prog 79 (.ptr (some (j,o))) 0=some (.ptr (some (j,o))):=by
 simp[AB,Try.underlying79,JX,AG]
 rfl
theorem af(j o:Nat):AB Try.prog 79 (.ptr (some (j,o))) 1=some (.ptr (some (j,o+1))):=by
 simp[AB,Try.underlying79,sz5,AG]
 rfl
theorem mR(j o:Nat):AB Try.prog 79 (.ptr (some (j,o))) 2=some (.ptr (some (j,o+2))):=by
 simp[AB,Try.underlying79,me,AG]
 rfl
def FJ(s:AE)(j:Nat)(c0 c1:AV):Prop:=∃r,s.heap.get j=some (.row r)∧Hw r [c0,c1]∧r.mode=.own∧r.par=none
theorem FJ.keep{s s':AE}{j:Nat}{c0 c1:AV}(h:FJ s j c0 c1)(k:s'.heap.get j=s.heap.get j):FJ s' j c0 c1:=by
 obtain⟨r,h1,h2⟩:=h
 exact⟨r,by rw[k];exact h1,h2⟩
theorem FJ.load0{s:AE}{j:Nat}{c0 c1:AV}(h:FJ s j c0 c1):load1 s j 0=some c0:=by
 obtain⟨r,h1,h2,_⟩:=h
 exact BX h1 (by rw[h2.1];simp) (h2.2 0 c0 rfl)
theorem FJ.load1{s:AE}{j:Nat}{c0 c1:AV}(h:FJ s j c0 c1):load1 s j 1=some c1:=by
 obtain⟨r,h1,h2,_⟩:=h
 exact BX h1 (by rw[h2.1];simp) (h2.2 1 c1 rfl)
theorem FJ.loads{s:AE}{j:Nat}{c0 c1:AV}(h:FJ s j c0 c1):AC Try.prog s 27 (.ptr (some (j,0)))=some (.agg [c0,c1]):=by
 obtain⟨r,h1,h2,_⟩:=h
 have:=CY h1 h2 0 [c0,c1] (qg _) (fun k u hk=>by simpa using hk)
 have e:loadN s j 0 2=some [c0,c1]:=this
 simp[AC,kN,HS,e]
theorem GY{s:AE}{i o:Nat}{r:EX}{vs:List AV}(hg:s.heap.get i=some (.row r))(hm:r.mode=.own)(hp:r.par=none)(hne:vs≠[])(ho:o+vs.length≤r.n)(hc:Ae vs=true):
  Cc s i o vs=some (setObj s i (.row { r with c:=r.c.fill o vs,par:=none })):=by
 cases vs with
 | nil=>exact absurd rfl hne
 | cons v vs =>
  have hb:=A2 ho
  simp only[Cc,rowAt,hg,Option.bind_some,hm,Fl,hb,hc,Bool.and_self,AG,cond_true,A1,hp]
theorem FJ.store{s:AE}{j:Nat}{c0 c1 d0 d1:AV}(h:FJ s j c0 c1)(h0:d0.isCell=true)(h1:d1.isCell=true):
  ∃s',AP Try.prog s 27 (.ptr (some (j,0))) (.agg [d0,d1])=some s'∧FJ s' j d0 d1∧s'.next=s.next∧∀x,x≠j→s'.heap.get x=s.heap.get x:=by
 obtain⟨r,g1,g2,g3,g4⟩:=h
 refine⟨setObj s j (.row { r with c:=r.c.fill 0 [d0,d1],par:=none }),?_,⟨{ r with c:=r.c.fill 0 [d0,d1],par:=none },by rw[Ai,if_pos rfl],⟨g2.1,?_⟩,g3,rfl⟩,rfl,fun x hx=>by rw[Ai,if_neg hx]⟩
 ·simp[AP,HS,AV.cells,AG,GY (vs:=[d0,d1]) (o:=0) g1 g3 g4 (by simp) (by rw[g2.1];exact qg _) (by simp[Ae,h0,h1])]
 ·intro k u hk
  have hlt:k<2:=by
   rcases qk k 2 with h' | h'
   ·exact h'
   ·rw[rA (by simpa using h')]at hk;cases hk
  show(Ak.fill r.c 0 [d0,d1]).get k=some u
  rw[Ak.get_fill,if_pos ⟨qm _,by simpa using hlt⟩]
  simpa using hk
theorem FJ.store1{s:AE}{j:Nat}{c0 c1 d1:AV}(h:FJ s j c0 c1)(h1:d1.isCell=true)(hc:d1.cells=[d1]):
  ∃s',AP Try.prog s 23 (.ptr (some (j,1))) d1=some s'∧FJ s' j c0 d1∧s'.next=s.next∧∀x,x≠j→s'.heap.get x=s.heap.get x:=by
 obtain⟨r,g1,g2,g3,g4⟩:=h
 refine⟨setObj s j (.row { r with c:=r.c.fill 1 [d1],par:=none }),?_,⟨{ r with c:=r.c.fill 1 [d1],par:=none },by rw[Ai,if_pos rfl],⟨g2.1,?_⟩,g3,rfl⟩,rfl,fun x hx=>by rw[Ai,if_neg hx]⟩
 ·simp[AP,Ba,hc,AG,GY (vs:=[d1]) (o:=1) g1 g3 g4 (by simp) (by rw[g2.1];exact qg _) (by simp[Ae,h1])]
 ·intro k u hk
  have hlt:k<2:=by
   rcases qk k 2 with h' | h'
   ·exact h'
   ·rw[rA (by simpa using h')]at hk;cases hk
  show(Ak.fill r.c 1 [d1]).get k=some u
  rw[Ak.get_fill]
  rcases(show k=0∨k=1 by omega)with rfl | rfl
  ·rw[if_neg (by omega)]
   simp at hk;subst hk
   exact g2.2 0 c0 rfl
  ·rw[if_pos ⟨qg _,by simp⟩]
   simpa using hk
abbrev Aa:=List (Bool×List Int)
def BH(b:Nat)(s:AE)(us:List AV)(T:Aa):Prop:=us.length=T.length * 2∧∀ (k:Nat)(d:Bool)(L:List Int),T[k]? = some (d,L)→us[k * 2]? = some (.bool d)∧∃u:AV,us[k * 2+1]? = some u∧AJ b s u (A3 L)
theorem BH.mono{b b':Nat}{s:AE}{us:List AV}{T:Aa}(h:BH b s us T)(k:b≤b'):BH b' s us T:=
 ⟨h.1,fun j d L hj=>let ⟨h0,u,h1,h2⟩:=h.2 j d L hj;⟨h0,u,h1,h2.mono k⟩⟩
theorem BH.keep{b:Nat}{s s':AE}{us:List AV}{T:Aa}(h:BH b s us T)(k:∀u∈us,∀j,slot u=some j→s'.heap.get j=s.heap.get j):BH b s' us T:=
 ⟨h.1,fun j d L hj=>let ⟨h0,u,h1,h2⟩:=h.2 j d L hj;⟨h0,u,h1,h2.keep (k u (qj h1))⟩⟩
theorem BH.nil(b:Nat)(s:AE):BH b s [] []:=⟨rfl,fun k d L h=>by simp at h⟩
theorem BH.snoc{b:Nat}{s:AE}{us:List AV}{T:Aa}(h:BH b s us T){d:Bool}{u:AV}{L:List Int}(hu:AJ b s u (A3 L)):BH b s (us++[.bool d,u]) (T++[(d,L)]):=by
 refine⟨by simp[h.1];omega,fun k d' L' hk=>?_⟩
 rcases qk k T.length with hlt | hge
 ·rw[qv hlt]at hk
  obtain⟨h0,u',h1,h2⟩:=h.2 k d' L' hk
  have hl:=h.1
  exact⟨by rw[qv (by omega)];exact h0,u',by rw[qv (by omega)];exact h1,h2⟩
 ·rw[qy hge]at hk
  have hk0:k=T.length:=by
   rcases qk (k - T.length) 1 with h' | h'
   ·omega
   ·rw[rA (by simpa using h')]at hk;cases hk
  subst hk0
  rw[ru]at hk
  simp at hk
  obtain⟨rfl,rfl⟩:=hk
  have hl:=h.1
  refine⟨?_,u,?_,hu⟩
  ·rw[qy (by omega),hl,ru];rfl
  ·rw[qy (by omega),hl,show T.length * 2+1 - T.length * 2=1 from by omega];rfl
structure FK(lo:Nat)(s:AE)(v:AV)(us:List AV)(T:Aa)(O:List Nat):Prop where
 dest:Bz s v T.length 2 us O
 rows:BH s.next s us T
 slots:∀u∈us,∀j,slot u=some j→lo≤j∧j<s.next∧j ∉ O
 own:∀j∈O,lo≤j
theorem FK.line{lo:Nat}{s:AE}{v:AV}{us:List AV}{T:Aa}{O:List Nat}(h:FK lo s v us T O){k:Nat}{d:Bool}{L:List Int}(hk:T[k]? = some (d,L)):
  ∃i o u cap,v=.slice (some (i,o)) T.length cap∧i<s.next∧load1 s i (o+k * 2)=some (.bool d)∧load1 s i (o+k * 2+1)=some u∧AJ s.next s u (A3 L)∧u∈us:=by
 obtain⟨a,cap,hv,hc⟩:=h.dest.cells
 obtain⟨h0,u,h1,h2⟩:=h.rows.2 k d L hk
 obtain⟨i,o,h3,h4,h5⟩:=hc _ _ h0
 obtain⟨i2,o2,h6,h7,h8⟩:=hc _ _ h1
 rw[h3]at h6
 injection h6 with h6
 injection h6 with e1 e2
 subst e1;subst e2
 exact⟨i,o,u,cap,by rw[hv,h3],h4,h5,by rw[show o+k * 2+1=o+(k * 2+1)from by omega];exact h8,h2,qj h1⟩
abbrev Ca:=Bool×Int×List Int
def u8(n:Int):Prop:=0≤n∧n≤255
def N3(b:Nat)(s:AE)(a:Option (Nat×Nat))(ss:List Ca):Prop:=∀ (k:Nat)(d:Bool)(w:Int)(L:List Int),ss[k]? = some (d,w,L) →
 ∃i o u,a=some (i,o)∧i<b∧load1 s i (o+k * 3)=some (.bool d)∧load1 s i (o+k * 3+1)=some (.int .u8 w)∧load1 s i (o+k * 3+2)=some u∧AJ b s u (aq L)
def Kn(b:Nat)(s:AE)(v:AV)(ss:List Ca):Prop:=∃a cap,v=.slice a ss.length cap∧N3 b s a ss
def HX(out:Aa)(d:Bool)(w:Int):Bool:=d && decide (0<out.length) && decide (0<w % 3)
def Fx(out:Aa)(d:Bool)(w:Int)(L:List Int):Bool×List Int:=if HX out d w=true then (d,(out.getD (w % (out.length:Int)).toNat (d,[])).2)else (d,GW L)
def Em(out:Aa):List Ca→Aa
 | []=>out
 | (d,w,L)::l=>Em (out++[Fx out d w L]) l
theorem ao(t:TypeId)(a b:Int):AN Try.prog .gtr t (.int .u8 a) (.int .u8 b)=some (.bool (decide (b<a))):=by
 show some (AV.bool (PO b a))=_
 rw[D5]
theorem Uu{s:AE}{n:Int}(h:u8 n):C5 Try.prog s 5 3 (.int .u8 n)=some (iv n):=by
 obtain⟨h1,h2⟩:=h
 simp[C5,Try.underlying5,Try.underlying3,Ff (n:=n) ⟨by omega,by omega⟩]
theorem PL:CB Try.prog 27 2=true:=by simp[CB,PN,AV.cells]
theorem Iq{d:Bool}{u:AV}:Ab Try.prog 33 1 (zipIdx [0] [.agg [.bool d,u]])=some (AL 27 2 [.bool d,u]):=by
 simp[Ab,Try.underlying33,HS,AG,PN,zipIdx,DO,Ht,AV.cells]
 rfl
theorem W6{d:Bool}:Bu Try.prog 27 (zipIdx [0] [.bool d])=some (.agg [.bool d,.slice none 0 (some 0)]):=by
 simp[Bu,PN,Try.underlying27,B1,JX,Ba,zipIdx,DO,AV.cells,AG]
 rfl
theorem N9:BF Try.prog 27=some (AL 27 0 [.bool false,.slice none 0 (some 0)],.ptr):=by simp[BF,PN,AV.cells]
theorem AJ.isCell{b:Nat}{s:AE}{u:AV}{cs:List AV}(h:AJ b s u cs):u.isCell=true∧u.cells=[u]:=by
 obtain⟨a,cap,rfl,_⟩:=h
 exact⟨rfl,rfl⟩
set_option maxRecDepth 8000 in
theorem WU        {lo : Nat} {s : AE}  {v : AV} {us : List AV} {T : Aa}      {O : List Nat} (hm : FK    lo s v us T O) (hT : T.length ≤ 1000000) {d : Bool} {u : AV} {L : List Int} (hu : AJ      s.next s u (A3  L)) (hslot : ∀ j, slot u = some j → lo ≤ j ∧ j < s.next ∧ j ∉ O) (hlo : lo ≤ s.next) :
    ∃v' s' O',AY Try.prog (newObj s (AL 27 2 [.bool d,u])) [33,33] [v,.slice (some (s.next,0)) 1 (some 1)]=some (v',s')∧FK lo s' v' (us++[.bool d,u]) (T++[(d,L)]) O'∧Ao lo s s':=by
  have c1:=EU (P:=Try.prog) (e:=27) (s:=newObj s (AL 27 2 [.bool d,u])) (n:=1) (cap:=some 1) (sz:=2) 27 2 (by rw[AK,if_pos rfl]) rfl
  obtain⟨v',s',O',h1,h2,h3,h4,h5,h6,h7⟩:=(hm.dest.new (AL 27 2 [.bool d,u])).append (P:=Try.prog) (st:=33) (xt:=33) Try.underlying33 HS c7 (by decide) (HR 33 27 Try.underlying33) PL c1 rfl (by have:=hu.isCell.1;simp only[Ae,this];rfl) (by omega) (by omega)
  have hn:(newObj s (AL 27 2 [.bool d,u])).next=s.next+1:=rfl
  have keep:∀j,j<s.next→j ∉ O→s'.heap.get j=s.heap.get j:=fun j hj ho=>by rw[h5 j (by omega) ho,AK,if_neg (by omega)]
  have hO':∀j,j<s.next→j ∉ O→j ∉ O':=fun j h1 h2 h3=>(h6 j h3).elim h2 (fun h=>by omega)
  refine⟨v',s',O',h1,⟨?_,?_,?_,?_⟩,⟨by omega,fun j hj=>keep j (by omega) (fun h=>by have:=hm.own j h;omega)⟩⟩
  · rw[qn];exact h2
  · refine ((hm.rows.mono (show s.next ≤ s'.next by omega)).keep fun x hx j hj => ?_).snoc ?_
    · obtain⟨g1,g2,g3⟩:=hm.slots x hx j hj;exact keep j g2 g3
    · exact(hu.keep fun j hj=>keep j (hslot j hj).2.1 (hslot j hj).2.2).mono (by omega)
  · intro x hx j hj
    rcases sE.1 hx with hx | hx
    · obtain⟨g1,g2,g3⟩:=hm.slots x hx j hj;exact⟨g1,by omega,hO' j g2 g3⟩
    · rcases rI.1            hx with rfl | hx
      · cases hj
      · have:x=u:=by simpa using hx
        subst this
        obtain⟨g1,g2,g3⟩:=hslot j hj;exact⟨g1,by omega,hO' j g2 g3⟩
  · intro j hj
    exact(h6 j hj).elim (hm.own j) (fun h=>by omega)
theorem FK.frame{lo:Nat}{s s':AE}{v:AV}{us:List AV}{T:Aa}{O:List Nat}(h:FK lo s v us T O)(hn:s.next≤s'.next)(k:∀j,j<s.next→s'.heap.get j=s.heap.get j):FK lo s' v us T O:=
 ⟨h.dest.frame hn fun j hj=>k j (h.dest.slot_lt j hj),(h.rows.mono hn).keep fun u hu j hj=>k j (h.slots u hu j hj).2.1,fun u hu j hj=>let ⟨g1,g2,g3⟩:=h.slots u hu j hj;⟨g1,by omega,g3⟩,h.own⟩
structure cj(lo:Nat)(s:AE)(j:Nat)(O:List Nat)(d:Bool)(u:AV)(L:List Int):Prop where
 box:FJ s j (.bool d) u
 slice:AJ s.next s u (A3 L)
 slot:∀i,slot u=some i→lo≤i∧i<s.next∧i ∉ O
theorem IX(l:List Ca):∀out,(Em out l).length=out.length+l.length:=by
 induction l with
 | nil=>intro out;rfl
 | cons x l ih=>obtain⟨d,w,L⟩:=x;intro out;simp only[Em,ih];simp;omega
set_option maxRecDepth 16000 in
theorem Vv        {E : BI}  {lo : Nat} {s0 : AE}  {b : Nat} {ss : List Ca}     (hss : ∀ x ∈ ss, u8 x.2.1) {a : Option (Nat × Nat)} {cap : Option Nat} (hlen : ss.length < 9223372036854775808) (hb : b ≤ lo) (hst : N3      b s0 a ss)
    {k:Nat} {d:Bool} {w:Int} {L:List Int} (hk:ss[k]? = some (d,w,L)) {us:List AV} {T:Aa} {O:List Nat} (hT:T.length≤100) {v2:AV} {s:AE} (hm:FK lo s v2 us T O) (hold:Ao lo s0 s) (hlo:lo≤s.next) {j:Nat} {u:AV} (hx:cj lo s j O d u (GW L)) (hj:lo≤j∧j<s.next) (hjO:j ∉ O)
    (hjs:slot v2≠some j) (hju:∀x∈us,slot x≠some j) (hjx:slot u≠some j) (v1 v5 x6 x7:AV) {Q:A9→Prop}
    (hq:∀v' s' us' O' y6 y7,FK lo s' v' us' (T++[Fx T d w L]) O'→Ao lo s0 s'→Q ⟨.normal,[.slice a ss.length cap,v1,v',iv (k:Int),.ptr (some (j,0)),v5,y6,y7],[],s'⟩):
    Qa E none (.seq (.seq (.ops NI) (.cond (.var 7) (.ops Yf) .skip)) (.ops Ua)) Q [.slice a ss.length cap,v1,v2,iv (k:Int),.ptr (some (j,0)),v5,x6,x7] [] s:=by
  have hlt:k<ss.length:=by
    rcases qk k ss.length with h' | h'
    · exact h'
    · rw[rA h']at hk;cases hk
  obtain⟨hw1,hw2⟩:=hss _ (qj hk)
  obtain⟨i,o,u3,rfl,hi,Mu,KP,hd3,_⟩:=hst k d w L hk
  have e1:=At (cap:=cap) (i:=i) (o:=o) Try.underlying31 oq hlt
  have lw:∀s',Ao lo s0 s'→AC Try.prog s' 5 (.ptr (some (i,o+k * 3+1)))=some (.int .u8 w):=fun s' h=>A0 ag5 (by rw[BU (h.2 i (by omega))];exact KP)
  have ld:AC Try.prog s 4 (.ptr (some (j,0)))=some (.bool d):=A0 Wy hx.box.load0
  obtain⟨a2,cap2,rfl,hc2⟩:=hm.dest.cells
  have hrem:=Kq (P:=Try.prog) (t:=5) (k:=.u8) hw1 (show(0:Int)<3 by decide)
  have fin:∀ (s1:AE) (u1:AV) (L1:List Int) (y6 y7:AV),cj lo s1 j O d u1 L1→FK lo s1 (.slice a2 T.length cap2) us T O→Ao lo s0 s1→lo≤s1.next→Fx T d w L=(d,L1) →
      Qb E Ua (fun v s'=>Q ⟨.normal,v,[],s'⟩) [] [.slice (some (i,o)) ss.length cap,v1,.slice a2 T.length cap2,iv (k:Int),.ptr (some (j,0)),v5,y6,y7] s1:=by
    intro s1 u1 L1 y6 y7 hx1 hm1 hold1 hlo1 hl
    obtain⟨v',s',O',p1,p2,p3⟩:=WU (d:=d) hm1 (by omega) hx1.slice hx1.slot hlo1
    have hmv:∀ (m:Nat) (i:Nat),Made.val i (.slice m)=.slice (some (i,0)) m (some m):=fun _ _=>rfl
    simp only[Ua,hx1.box.loads,Iq,hmv,p1,Qa,Qb,Qc,Qd,Qe,Qf,Qg,Qh,Qi,Qj,Qk,Ql,Qm,Qn,true_and,and_true,Qo,Qp,Qq,Qr,Qs,Qt,Qu,Qv,Qw,Qx,Qy,Qz,Ra,Rb,Rc,Rd,Re,Rf,Rg,Rh,Ri,Rj,Rk,Rl,Rm,Ya,Yb,Yc,Rn,Ro,Rp,Yd,Ye,Rq,Rs,Rt,Ru,Rv,Rw,Rx]
    rw[hl]at hq
    exact hq v' s' _ O' _ _ p2 (hold1.trans p3)
  by_cases hag:HX T d w=true
  ·
    have hd:d=true:=by cases d<;>simp[HX]at hag ⊢
    have hTl:0<T.length:=by simp[HX]at hag;omega
    have hw3:0<w % 3:=by simp[HX]at hag;omega
    subst hd
    have hgt:decide ((0:Int)<(T.length:Int))=true:=decide_eq_true (by omega)
    have hr2:=Kq (P:=Try.prog) (t:=3) (k:=.i64) hw1 (show(0:Int)<(T.length:Int) by omega)
    have hq1:=Int.emod_nonneg w (show(T.length:Int)≠0 by omega)
    have hq2:=Int.emod_lt_of_pos w (show(0:Int)<(T.length:Int) by omega)
    have hcast:w % (T.length:Int)=(((w % (T.length:Int)).toNat:Nat):Int):=by omega
    have hm2:(w % (T.length:Int)).toNat<T.length:=by omega
    generalize hidx:(w % (T.length:Int)).toNat=m at hcast hm2
    have hTm:T[m]? = some T[m]:=qp hm2
    obtain⟨i2,o2,u2,cap3,hv2,hi2,_,hl2,hu2,hmem⟩:=hm.line hTm
    injection hv2 with hv2a hv2b hv2c
    subst hv2a;subst hv2c
    have f1:=At (P:=Try.prog) (t:=33) (cap:=cap2) (i:=i2) (o:=o2) Try.underlying33 HS hm2
    have f2:AC Try.prog s 23 (.ptr (some (i2,o2+m * 2+1)))=some u2:=A0 DA hl2
    obtain⟨s1,g1,g2,g3,g4⟩:=hx.box.store1 (d1:=u2) hu2.isCell.1 hu2.isCell.2
    have hne:∀x,slot u2=some x→x≠j:=fun x hx' e=>hju u2 hmem (by rw[hx',e])
    have hl:Fx T true w L=(true,T[m].2):=by
      unfold Fx
      rw[if_pos hag,hidx]
      simp[rB,hTm]
    have hx1:cj lo s1 j O true u2 T[m].2:=⟨g2,by rw[g3];exact hu2.keep fun x hx'=>g4 x (hne x hx'),fun x hx'=>by rw[g3];exact hm.slots u2 hmem x hx'⟩
    have hm1:FK lo s1 (.slice (some (i2,o2)) T.length cap2) us T O:=by
      refine⟨hm.dest.frame (by omega) fun x hx'=>g4 x (fun e=>hjs (by rw[hx',e])),(hm.rows.mono (by omega)).keep fun y hy x hx'=>g4 x (fun e=>hju y hy (by rw[hx',e])),fun y hy x hx'=>by rw[g3];exact hm.slots y hy x hx',hm.own⟩
    have hold1:Ao lo s0 s1:=hold.trans ⟨by omega,fun x hx'=>g4 x (by omega)⟩
    simp only[NI,GR,ld,beq_self_eq_true,AW Try.underlying33,hgt,e1,af,lw s hold,hrem,ao,hw3,decide_true,Yf,Uu ⟨hw1,hw2⟩,hr2,hcast,f1,IS,f2,qq,g1,AS,BW,Qa,Qb,Qc,Qd,Qe,Qf,Qg,Qh,Qi,Qj,Qk,Ql,Qm,Qn,true_and,and_true,Qo,Qp,Qq,Qr,Qs,Qt,Qu,Qv,Qw,Qx,Qy,Qz,Ra,Rb,Rc,Rd,Re,Rf,Rg,Rh,Ri,Rj,Rk,Rl,Rm,Ya,Yb,Yc,Rn,Ro,Rp,Yd,Ye,Rq,Rs,Rt,Ru,Rv,Rw,Rx]
    exact fin s1 u2 T[m].2 _ _ hx1 hm1 hold1 (by omega) hl
  ·
    have hl:Fx T d w L=(d,GW L):=by unfold Fx;rw[if_neg hag]
    have go:=fun(y6 y7:AV)=>fin s u (GW L) y6 y7 hx hm hold hlo hl
    cases d with
    | false =>
      simp only[NI,GR,ld,Bool.false_beq,Bool.not_true,Qa,Qb,Qc,Qd,Qe,Qf,Qg,Qh,Qi,Qj,Qk,Ql,Qm,Qn,true_and,and_true,Qo,Qp,Qq,Qr,Qs,Qt,Qu,Qv,Qw,Qx,Qy,Qz,Ra,Rb,Rc,Rd,Re,Rf,Rg,Rh,Ri,Rj,Rk,Rl,Rm,Ya,Yb,Yc,Rn,Ro,Rp,Yd,Ye,Rq,Rs,Rt,Ru,Rv,Rw,Rx]
      exact go _ _
    | true =>
      by_cases hTl:0<T.length
      · have hgt : decide ((0 : Int) < (T.length : Int)) = true := decide_eq_true (by omega)
        have hw3:¬ (0:Int)<w % 3:=fun h=>hag (by simp[HX,hTl,h])
        simp only[NI,GR,ld,beq_self_eq_true,AW Try.underlying33,hgt,e1,af,lw s hold,hrem,ao,hw3,decide_false,Qa,Qb,Qc,Qd,Qe,Qf,Qg,Qh,Qi,Qj,Qk,Ql,Qm,Qn,true_and,and_true,Qo,Qp,Qq,Qr,Qs,Qt,Qu,Qv,Qw,Qx,Qy,Qz,Ra,Rb,Rc,Rd,Re,Rf,Rg,Rh,Ri,Rj,Rk,Rl,Rm,Ya,Yb,Yc,Rn,Ro,Rp,Yd,Ye,Rq,Rs,Rt,Ru,Rv,Rw,Rx]
        exact go _ _
      · have hgt:decide ((0:Int)<(T.length:Int))=false:=decide_eq_false (by omega)
        simp only[NI,GR,ld,beq_self_eq_true,AW Try.underlying33,hgt,Bool.false_beq,Bool.not_true,Qa,Qb,Qc,Qd,Qe,Qf,Qg,Qh,Qi,Qj,Qk,Ql,Qm,Qn,true_and,and_true,Qo,Qp,Qq,Qr,Qs,Qt,Qu,Qv,Qw,Qx,Qy,Qz,Ra,Rb,Rc,Rd,Re,Rf,Rg,Rh,Ri,Rj,Rk,Rl,Rm,Ya,Yb,Yc,Rn,Ro,Rp,Yd,Ye,Rq,Rs,Rt,Ru,Rv,Rw,Rx]
        exact go _ _
theorem nV{u:AV}(hu:u.cells=[u]):Ab Try.prog 30 1 (zipIdx [0] [u])=some (AL 76 1 [u]):=CO Try.underlying30 me px rfl hu
set_option maxRecDepth 16000 in
theorem Td         {E : BI}  (hE : Aq   E) {s0 : AE}  {b : Nat} (hb : b ≤ s0.next) {ss : List Ca}     (hss : ∀ x ∈ ss, u8 x.2.1 ∧ cW  x.2.2 ∧ x.2.2.length < 9223372036854775808) (hlen : ss.length < 9223372036854775808) {a : Option (Nat × Nat)} {cap : Option Nat} (hst : N3      b s0 a ss) (v1 : AV) {Q : A9   → Prop} :
    ∀ (m k : Nat) (us : List AV) (T : Aa)      (O : List Nat) (v2 : AV) (s : AE)  (x4 x5 x6 x7 : AV), m = 20 - k → k ≤ ss.length → k ≤ 20 → T = Em     [] (ss.take k) → FK    s0.next s v2 us T O → Ao  s0.next s0 s →
      (∀s' v' us' O' y4 y5 y6 y7,FK s0.next s' v' us' (Em [] (ss.take 20)) O'→Ao s0.next s0 s'→Q ⟨.exit 0,[.slice a ss.length cap,v1,v',iv ((min ss.length 20:Nat):Int),y4,y5,y6,y7],[],s'⟩) →
      WC E none (.loop Gw) Q [.slice a ss.length cap,v1,v2,iv (k:Int),x4,x5,x6,x7] [] s:=by
  intro m
  induction m with
  | zero =>
    intro k us T O v2 s x4 x5 x6 x7 hm hk hk20 hT hmd hold hq
    have hke:k=20:=by omega
    subst hke
    subst hT
    have hmin:min ss.length 20=20:=by omega
    rw[hmin]at hq
    refine WC.loop' ?_
    by_cases hlt:(20:Int)<(ss.length:Int)
    · simp only[Gw,NH,AW Try.underlying31,hlt,decide_true,show((20:Nat):Int)=20 from rfl,rG,decide_false,Qa,Qb,Qc,Qd,Qe,Qf,Qg,Qh,Qi,Qj,Qk,Ql,Qm,Qn,true_and,and_true,Qo,Qp,Qq,Qr,Qs,Qt,Qu,Qv,Qw,Qx,Qy,Qz,Ra,Rb,Rc,Rd,Re,Rf,Rg,Rh,Ri,Rj,Rk,Rl,Rm,Ya,Yb,Yc,Rn,Ro,Rp,Yd,Ye,Rq,Rs,Rt,Ru,Rv,Rw,Rx]
      exact hq s v2 us O _ _ _ _ hmd hold
    · simp only[Gw,NH,AW Try.underlying31,hlt,show((20:Nat):Int)=20 from rfl,decide_false,Qa,Qb,Qc,Qd,Qe,Qf,Qg,Qh,Qi,Qj,Qk,Ql,Qm,Qn,true_and,and_true,Qo,Qp,Qq,Qr,Qs,Qt,Qu,Qv,Qw,Qx,Qy,Qz,Ra,Rb,Rc,Rd,Re,Rf,Rg,Rh,Ri,Rj,Rk,Rl,Rm,Ya,Yb,Yc,Rn,Ro,Rp,Yd,Ye,Rq,Rs,Rt,Ru,Rv,Rw,Rx]
      exact hq s v2 us O _ _ _ _ hmd hold
  | succ m ih =>
    intro k us T O v2 s x4 x5 x6 x7 hm hk hk20 hT hmd hold hq
    have hk4:k<20:=by omega
    refine WC.loop' ?_
    generalize hW:WC E none (Ac.loop Gw) Q=W
    by_cases hlt:k<ss.length
    · have hx:ss[k]? = some ss[k]:=qp hlt
      obtain⟨hw,hL,hLl⟩:=hss ss[k] (List.getElem_mem _)
      generalize hsk:ss[k]=sk at hx hw hL hLl
      obtain⟨d,w,L⟩:=sk
      have hTl:T.length=k:=by rw[hT,IX];simp;omega
      obtain⟨i,o,u8',hai,hi,Mu,KP,hd3,hu8⟩:=hst k d w L hx
      subst hai
      have hns:s0.next≤s.next:=hold.1
      have e1:=At (cap:=cap) (i:=i) (o:=o) Try.underlying31 oq hlt
      have ldd:∀ {s'},Ao s0.next s0 s'→AC Try.prog s' 4 (.ptr (some (i,o+k * 3)))=some (.bool d):=fun h=>A0 Wy (by rw[BU (h.2 i (by omega))];exact Mu)
      have ldu:∀ {s'},Ao s0.next s0 s'→AC Try.prog s' 76 (.ptr (some (i,o+k * 3+2)))=some u8':=fun h=>A0 nT (by rw[BU (h.2 i (by omega))];exact hd3)
      have hkk:decide ((k:Int)<(ss.length:Int))=true:=decide_eq_true (by omega)
      have hkk20:decide ((k:Int)<20)=true:=decide_eq_true (by omega)
      have e3:=Ay Try.prog 3 (k:Int) 1 ⟨by omega,by omega⟩
      have hcast:((k:Int)+1)=((k+1:Nat):Int):=by omega
      have hmv:∀ (m:Nat) (i:Nat),Made.val i (.slice m)=.slice (some (i,0)) m (some m):=fun _ _=>rfl
      have hbox0:FJ (newObj s (AL 27 0 [.bool false,.slice none 0 (some 0)])) s.next (.bool false) (.slice none 0 (some 0)):=by
        obtain⟨r,h1,h2,_,_,h5,h6⟩:=BN 27 0 [.bool false,.slice none 0 (some 0)]
        exact⟨r,by rw[AK,if_pos rfl,h1],h2,h5,h6⟩
      obtain⟨s1,g1,g2,g3,g4⟩:=hbox0.store (d0:=.bool d) (d1:=.slice none 0 (some 0)) rfl rfl
      have n1:s1.next=s.next+1:=g3
      have o1:∀x,x<s.next→s1.heap.get x=s.heap.get x:=fun x hx=>by rw[g4 x (by omega),AK,if_neg (by omega)]
      have hold1:Ao s0.next s0 s1:=hold.trans ⟨by omega,fun x hx=>o1 x (by omega)⟩
      have hu8c:=hu8.isCell
      generalize hs2:newObj s1 (AL 76 1 [u8'])=s2
      have n2:s2.next=s.next+2:=by rw[← hs2];show s1.next+1=_;omega
      have o2:∀x,x<s1.next→s2.heap.get x=s1.heap.get x:=fun x hx=>by rw[← hs2,AK,if_neg (by omega)]
      have hold2:Ao s0.next s0 s2:=hold1.trans ⟨by omega,fun x hx=>o2 x (by omega)⟩
      have hr8:E0 s2.next s2 (.slice (some (s1.next,0)) 1 (some 1)) [L]:=by
        refine⟨_,_,rfl,fun q L' hL'=>?_⟩
        cases q with
        | zero =>
          simp at hL';subst hL'
          obtain⟨r,h1,h2,_⟩:=BN 76 1 [u8']
          refine⟨s1.next,0,u8',rfl,by omega,BX (by rw[← hs2,AK,if_pos rfl,h1]) (by rw[h2.1];simp) (h2.2 0 u8' rfl),(hu8.old hold2 hb).mono (by omega)⟩
        | succ q=>simp at hL'
      have hfa:BF Try.prog 27=some (AL 27 0 [.bool false,.slice none 0 (some 0)],.ptr):=N9
      have hptr:∀i,Made.val i .ptr=.ptr (some (i,0)):=fun _=>rfl
      simp only[Gw,NH,fw,fx,AW Try.underlying31,hkk,hkk20,e1,mQ,ldd hold,W6,hfa,hptr,BW,g1,AS,mR,ldu hold1,nV hu8c.2,hmv,hs2,Qa,Qb,Qc,Qd,Qe,Qf,Qg,Qh,Qi,Qj,Qk,Ql,Qm,Qn,true_and,and_true,Qo,Qp,Qq,Qr,Qs,Qt,Qu,Qv,Qw,Qx,Qy,Qz,Ra,Rb,Rc,Rd,Re,Rf,Rg,Rh,Ri,Rj,Rk,Rl,Rm,Ya,Yb,Yc,Rn,Ro,Rp,Yd,Ye,Rq,Rs,Rt,Ru,Rv,Rw,Rx]
      refine (IQ         hE (qg          _) (ls := [L]) (fun x hx => by have : x = L := by simpa using hx
                                                                        subst this;exact⟨hL,hLl⟩) (by simp) hr8).mono ?_
      rintro v5 s3 ⟨us5,O5,hm5,hold3⟩
      have hcl:Bv [L]=[GW L]:=rfl
      rw[hcl]at hm5
      obtain⟨u5,hu5a,hu5b⟩:=hm5.rows.2 0 (GW L) rfl
      have hu5m:u5∈us5:=qj hu5a
      obtain⟨a5,cap5,hv5,hc5⟩:=hm5.dest.cells
      obtain⟨i5,o5,ha5,hi5,hl5⟩:=hc5 0 u5 hu5a
      have husl:us5.length=1:=hm5.rows.1
      rw[husl,ha5]at hv5
      subst hv5
      have f1:AD Try.prog 22 (.slice (some (i5,o5)) 1 cap5) (iv 0)=some (.ptr (some (i5,o5+0 * 1))):=At (k:=0) Try.underlying22 Ba (by decide)
      have f2:AC Try.prog s3 23 (.ptr (some (i5,o5+0 * 1)))=some u5:=A0 DA (by simpa using hl5)
      have hb3:FJ s3 s.next (.bool d) (.slice none 0 (some 0)):=g2.keep (by rw[hold3.2 s.next (by omega),o2 s.next (by omega)])
      obtain⟨s4,k1,k2,k3,k4⟩:=hb3.store1 hu5b.isCell.1 hu5b.isCell.2
      have o34:∀x,x<s.next→s4.heap.get x=s.heap.get x:=fun x hx=>by rw[k4 x (by omega),hold3.2 x (by omega),o2 x (by omega),o1 x hx]
      have hold3':=hold3.1
      have hmd4:FK s0.next s4 v2 us T O:=hmd.frame (by omega) o34
      have hold4:Ao s0.next s0 s4:=hold.trans ⟨by omega,fun x hx=>o34 x (by omega)⟩
      have hsl5:=fun x (hx:slot u5=some x)=>hm5.slots u5 hu5m x hx
      have hOlt:∀x∈O,x<s.next:=hmd.dest.lt
      have hxb:cj s0.next s4 s.next O d u5 (GW L):=⟨k2,by rw[k3];exact hu5b.keep fun x hx=>k4 x (by have:=(hsl5 x hx).1;omega),fun x hx=>by
        obtain⟨p1,p2,p3⟩:=hsl5 x hx
        exact⟨by omega,by omega,fun h=>by have:=hOlt x h;omega⟩⟩
      simp only[fy,f1,f2,IS,qq,BW,k1,AS,Qa,Qb,Qc,Qd,Qe,Qf,Qg,Qh,Qi,Qj,Qk,Ql,Qm,Qn,true_and,and_true,Qo,Qp,Qq,Qr,Qs,Qt,Qu,Qv,Qw,Qx,Qy,Qz,Ra,Rb,Rc,Rd,Re,Rf,Rg,Rh,Ri,Rj,Rk,Rl,Rm,Ya,Yb,Yc,Rn,Ro,Rp,Yd,Ye,Rq,Rs,Rt,Ru,Rv,Rw,Rx]
      have hrest:=Vv (E:=E) (lo:=s0.next) (s0:=s0) (b:=b) (fun x hx=>(hss x hx).1) (cap:=cap) hlen hb hst hx (by omega) hmd4 hold4 (by omega) hxb ⟨by omega,by omega⟩ (fun h=>by have:=hOlt _ h;omega)
        (fun h=>by have:=hmd.dest.slot_lt _ h;omega) (fun y hy h=>by have:=(hmd.slots y hy _ h).2.1;omega) (fun h=>by have:=(hsl5 _ h).1;omega) v1 (.slice (some (i5,o5)) 1 cap5) (.bool true) x7 (Q:=CS 1 (D7 (Qa E none (.ops Sg) (D7 W Q)) (D7 W Q)))
        (fun v' s' us' O' y6 y7 h1 h2=>by
          simp only[Sg,e3,hcast,Qa,Qb,Qc,Qd,Qe,Qf,Qg,Qh,Qi,Qj,Qk,Ql,Qm,Qn,true_and,and_true,Qo,Qp,Qq,Qr,Qs,Qt,Qu,Qv,Qw,Qx,Qy,Qz,Ra,Rb,Rc,Rd,Re,Rf,Rg,Rh,Ri,Rj,Rk,Rl,Rm,Ya,Yb,Yc,Rn,Ro,Rp,Yd,Ye,Rq,Rs,Rt,Ru,Rv,Rw,Rx]
          rw[← hW]
          refine ih (k+1) us' _ O' v' s' _ _ _ _ (by omega) hlt (by omega) ?_ h1 h2 hq
          rw[sG hlt,hsk,hT]
          have:∀ (l:List Ca) (out:Aa),Em out (l++[(d,w,L)])=Em out l++[Fx (Em out l) d w L]:=by
            intro l
            induction l with
            | nil=>intro out;rfl
            | cons x l ih=>obtain⟨d',w',L'⟩:=x;intro out;simp only[rY,Em];exact ih _
          rw[this])
      simp only[Qa,Qb,Qc,Qd,Qe,Qf,Qg,Qh,Qi,Qj,Qk,Ql,Qm,Qn,true_and,and_true,Qo,Qp,Qq,Qr,Qs,Qt,Qu,Qv,Qw,Qx,Qy,Qz,Ra,Rb,Rc,Rd,Re,Rf,Rg,Rh,Ri,Rj,Rk,Rl,Rm,Ya,Yb,Yc,Rn,Ro,Rp,Yd,Ye,Rq,Rs,Rt,Ru,Rv,Rw,Rx]at hrest
      exact hrest
    · have hkl:k=ss.length:=by omega
      subst hT
      have hte:ss.take k=ss.take 20:=by rw[sF (by omega),sF (by omega)]
      rw[hte]at hmd
      have hmin:min ss.length 20=k:=by omega
      rw[hmin]at hq
      have hkk:decide ((k:Int)<(ss.length:Int))=false:=decide_eq_false (by omega)
      simp only[Gw,NH,AW Try.underlying31,hkk,Qa,Qb,Qc,Qd,Qe,Qf,Qg,Qh,Qi,Qj,Qk,Ql,Qm,Qn,true_and,and_true,Qo,Qp,Qq,Qr,Qs,Qt,Qu,Qv,Qw,Qx,Qy,Qz,Ra,Rb,Rc,Rd,Re,Rf,Rg,Rh,Ri,Rj,Rk,Rl,Rm,Ya,Yb,Yc,Rn,Ro,Rp,Yd,Ye,Rq,Rs,Rt,Ru,Rv,Rw,Rx]
      exact hq s v2 us O _ _ _ _ hmd hold
theorem QL{E:BI}(hE:Aq E){s:AE}{b:Nat}(hb:b≤s.next){ss:List Ca}(hss:∀x∈ss,u8 x.2.1∧cW x.2.2∧x.2.2.length<9223372036854775808)(hlen:ss.length<9223372036854775808){v:AV}(hv:Kn b s v ss):
  WF E 23 [v] (fun r s'=>∃us O,FK s.next s' r us (Em [] (ss.take 20)) O∧Ao s.next s s') s:=by
 obtain⟨a,cap,rfl,hst⟩:=hv
 refine hE.go aN (by decide) rfl ?_
 simp only[pU,YX,YY,YZ,Qa,Qb,Qc,Qd,Qe,Qf,Qg,Qh,Qi,Qj,Qk,Ql,Qm,Qn,true_and,and_true,Qo,Qp,Qq,Qr,Qs,Qt,Qu,Qv,Qw,Qx,Qy,Qz,Ra,Rb,Rc,Rd,Re,Rf,Rg,Rh,Ri,Rj,Rk,Rl,Rm,Ya,Yb,Yc,Rn,Ro,Rp,Yd,Ye,Rq,Rs,Rt,Ru,Rv,Rw,Rx]
 refine Td hE hb hss hlen hst _ 20 0 [] [] [] _ s _ _ _ _ rfl (qm _) (by omega) rfl ⟨Bz.nil s 2,BH.nil _ _,(fun u hu=>by cases hu),(fun j hj=>by cases hj)⟩ (Ao.refl _ _) ?_
 intro s' v' us' O' y4 y5 y6 y7 h1 h2
 simp only[Si,if_true,Qa,Qb,Qc,Qd,Qe,Qf,Qg,Qh,Qi,Qj,Qk,Ql,Qm,Qn,true_and,and_true,Qo,Qp,Qq,Qr,Qs,Qt,Qu,Qv,Qw,Qx,Qy,Qz,Ra,Rb,Rc,Rd,Re,Rf,Rg,Rh,Ri,Rj,Rk,Rl,Rm,Ya,Yb,Yc,Rn,Ro,Rp,Yd,Ye,Rq,Rs,Rt,Ru,Rv,Rw,Rx]
 exact⟨us',O',h1,h2⟩
def XZ:List AA:=[
 ⟨none,.p1 some,[(.const (.int .i64 (0)))],(.set 1),[]⟩]
def kl:List AA:=[
 ⟨none,.r1 (fun s x=>C5 Try.prog s 133 145 x),[.var 0],.push,[]⟩,
 ⟨none,.call 126,[.loc 0],.push,[]⟩,
 ⟨none,.p1 some,[.loc 0],(.set 1),[]⟩]
def Xa:List AA:=[
 ⟨none,.call 127,[.var 0],.push,[]⟩,
 ⟨none,.p1 some,[.loc 0],(.set 1),[]⟩]
def ni:Aw:=⟨1,2,(.seq (.ops XZ) (.seq (.cond (.const (.bool false))
 (.seq (.ops kl) .ret)
 .skip) (.seq (.ops Xa) .ret))),[((.var 1),none)]⟩
def X1:List AA:=[
 ⟨none,.p1 some,[(.const (.bool false))],(.set 2),[]⟩]
def X2:List AA:=[
 ⟨none,.call 134,[.var 0],.push,[]⟩,
 ⟨(some ((.loc 0),true)),.p1 some,[.var 1],.push,[]⟩,
 ⟨(some ((.loc 1),true)),.call 134,[.loc 0],.push,[]⟩,
 ⟨(some ((.loc 2),true)),.p1 (Hv Try.prog Go.UnOp.not),[.loc 0],.push,[]⟩,
 ⟨none,.p Rn,[(.loc 3),(.loc 0),(.const (.bool false))],.push,[]⟩,
 ⟨(some ((.loc 0),false)),.p1 some,[.var 0],.push,[]⟩,
 ⟨(some ((.loc 1),false)),.p1 some,[.var 1],.push,[]⟩,
 ⟨(some ((.loc 2),false)),.p2 (AN Try.prog .lss 3),[.loc 1,.loc 0],.push,[]⟩,
 ⟨none,.p Rn,[(.loc 3),(.const (.bool true)),(.loc 0)],.push,[]⟩,
 ⟨none,.p1 some,[.loc 0],(.set 2),[]⟩]
def np:Aw:=⟨2,3,(.seq (.ops X1) (.seq (.ops X2) .ret)),[((.var 2),none)]⟩
def X3:List AA:=[
 ⟨none,.p1 some,[(.const (.int .i64 (0)))],(.set 1),[]⟩]
def X4:List AA:=[
 ⟨none,.p2 (AN Try.prog .geq 147),[(.var 0),(.const (.int .u64 (4294967296)))],(.set 2),[]⟩]
def kn:List AA:=[
 ⟨none,.p1 some,[.var 0],.push,[]⟩,
 ⟨none,.p2 (AN Try.prog .shr 147),[(.loc 0),(.const (.int .u64 (32)))],.push,[]⟩,
 ⟨none,.p1 some,[.loc 0],(.set 0),[]⟩]
def kp:List AA:=[
 ⟨none,.p1 some,[(.const (.int .i64 (32)))],(.set 1),[]⟩]
def X5:List AA:=[
 ⟨none,.p2 (AN Try.prog .geq 147),[(.var 0),(.const (.int .u64 (65536)))],(.set 3),[]⟩]
def kq:List AA:=[
 ⟨none,.p1 some,[.var 0],.push,[]⟩,
 ⟨none,.p2 (AN Try.prog .shr 147),[(.loc 0),(.const (.int .u64 (16)))],.push,[]⟩,
 ⟨none,.p1 some,[.loc 0],(.set 0),[]⟩]
def kr:List AA:=[
 ⟨none,.p1 some,[.var 1],.push,[]⟩,
 ⟨none,.p2 (AN Try.prog .add 3),[(.loc 0),(.const (.int .i64 (16)))],.push,[]⟩,
 ⟨none,.p1 some,[.loc 0],(.set 1),[]⟩]
def X6:List AA:=[
 ⟨none,.p2 (AN Try.prog .geq 147),[(.var 0),(.const (.int .u64 (256)))],(.set 4),[]⟩]
def ks:List AA:=[
 ⟨none,.p1 some,[.var 0],.push,[]⟩,
 ⟨none,.p2 (AN Try.prog .shr 147),[(.loc 0),(.const (.int .u64 (8)))],.push,[]⟩,
 ⟨none,.p1 some,[.loc 0],(.set 0),[]⟩]
def ku:List AA:=[
 ⟨none,.p1 some,[.var 1],.push,[]⟩,
 ⟨none,.p2 (AN Try.prog .add 3),[(.loc 0),(.const (.int .i64 (8)))],.push,[]⟩,
 ⟨none,.p1 some,[.loc 0],(.set 1),[]⟩]
def UZ:List AA:=[
 ⟨none,.p1 some,[.var 1],.push,[]⟩,
 ⟨none,.r1 (fun s x=>C5 Try.prog s 147 5 x),[.var 0],.push,[]⟩,
 ⟨none,.p2 (IU Try.prog 9),[(.const (.str [0,1,2,2,3,3,3,3,4,4,4,4,4,4,4,4,5,5,5,5,5,5,5,5,5,5,5,5,5,5,5,5,6,6,6,6,6,6,6,6,6,6,6,6,6,6,6,6,6,6,6,6,6,6,6,6,6,6,6,6,6,6,6,6,7,7,7,7,7,7,7,7,7,7,7,7,7,7,7,7,7,7,7,7,7,7,7,7,7,7,7,7,7,7,7,7,7,7,7,7,7,7,7,7,7,7,7,7,7,7,7,7,7,7,7,7,7,7,7,7,7,7,7,7,7,7,7,7,8,8,8,8,8,8,8,8,8,8,8,8,8,8,8,8,8,8,8,8,8,8,8,8,8,8,8,8,8,8,8,8,8,8,8,8,8,8,8,8,8,8,8,8,8,8,8,8,8,8,8,8,8,8,8,8,8,8,8,8,8,8,8,8,8,8,8,8,8,8,8,8,8,8,8,8,8,8,8,8,8,8,8,8,8,8,8,8,8,8,8,8,8,8,8,8,8,8,8,8,8,8,8,8,8,8,8,8,8,8,8,8,8,8,8,8,8,8,8,8,8,8,8,8,8,8,8,8])),(.loc 0)],.push,[]⟩,
 ⟨none,.r1 (fun s x=>C5 Try.prog s 5 3 x),[.loc 0],.push,[]⟩,
 ⟨none,.p2 (AN Try.prog .add 3),[.loc 3,.loc 0],.push,[]⟩,
 ⟨none,.p1 some,[.loc 0],(.set 1),[]⟩]
def nq:Aw:=⟨1,5,(.seq (.ops X3) (.seq (.seq (.ops X4) (.cond (.var 2)
 (.seq (.ops kn) (.ops kp))
 .skip)) (.seq (.seq (.ops X5) (.cond (.var 3)
 (.seq (.ops kq) (.ops kr))
 .skip)) (.seq (.seq (.ops X6) (.cond (.var 4)
 (.seq (.ops ks) (.ops ku))
 .skip)) (.seq (.ops UZ) .ret))))),[((.var 1),none)]⟩
def X7:List AA:=[
 ⟨none,.p1 some,[(.const (.bool false))],(.set 1),[]⟩]
def X8:List AA:=[
 ⟨none,.p2 (AN Try.prog .neq 3),[.var 0,.var 0],.push,[]⟩,
 ⟨none,.p1 some,[.loc 0],(.set 1),[]⟩]
def nr:Aw:=⟨1,2,(.seq (.ops X7) (.seq (.ops X8) .ret)),[((.var 1),none)]⟩
theorem dw:AQ Try.prog 109=some ni:=by kernel_rfl
theorem d8:AQ Try.prog 123=some np:=by kernel_rfl
theorem d9:AQ Try.prog 127=some nq:=by kernel_rfl
theorem eA:AQ Try.prog 134=some nr:=by kernel_rfl
def BG(s:AE)(i:Nat)(cs:List AV):Prop:=∃r,s.heap.get i=some (.row r)∧Hw r cs∧r.mode=.own∧r.par=none∧r.sz=1
theorem BG.keep{s s':AE}{i:Nat}{cs:List AV}(h:BG s i cs)(k:s'.heap.get i=s.heap.get i):BG s' i cs:=by
 obtain⟨r,h1,h2⟩:=h
 exact⟨r,k.trans h1,h2⟩
theorem AZ{α:Type}{l:List α}{k:Nat}{u:α}(h:l[k]? = some u):k<l.length:=by
 rcases qk k l.length with h' | h'
 ·exact h'
 ·rw[rA h']at h;cases h
theorem BG.load1{s:AE}{i k:Nat}{cs:List AV}{u:AV}(h:BG s i cs)(hk:cs[k]? = some u):load1 s i k=some u:=by
 obtain⟨r,h1,h2,_⟩:=h
 exact BX h1 (by rw[h2.1];exact AZ hk) (h2.2 k u hk)
theorem BG.load{s:AE}{i k:Nat}{cs:List AV}{u:AV}(h:BG s i cs)(hk:cs[k]? = some u):AC Try.prog s 3 (.ptr (some (i,0+k * 1)))=some u:=by
 rw[qq,rC];exact A0 Do (h.load1 hk)
theorem BG.fill    {s : AE}  {i o : Nat} {cs vs : List AV} (h : BG    s i cs) (hne : vs ≠ []) (ho : o + vs.length ≤ cs.length) (hc : Ae       vs = true) :
    ∃s',Cc s i o vs=some s'∧BG s' i (cs.take o++vs++cs.drop (o+vs.length))∧s'.next=s.next∧∀x,x≠i→s'.heap.get x=s.heap.get x:=by
  obtain⟨r,h1,h2,h3,h4,h5⟩:=h
  refine⟨_,GY h1 h3 h4 hne (by rw[h2.1];exact ho) hc,⟨{ r with c:=r.c.fill o vs,par:=none },by rw[Ai,if_pos rfl],⟨?_,?_⟩,h3,rfl,h5⟩,rfl,fun x hx=>by rw[Ai,if_neg hx]⟩
  · show r.n=_
    rw[h2.1];simp;omega
  · intro k u hk
    show(Ak.fill r.c o vs).get k=some u
    rw[Ak.get_fill]
    by_cases hin:o≤k∧k<o+vs.length
    · rw [if_pos hin]
      rw[rZ,qy (by simp;omega),qv (by simp;omega)]at hk
      have:(cs.take o).length=o:=by simp;omega
      rw[this]at hk
      exact hk
    · rw [if_neg hin]
      refine h2.2 k u ?_
      rcases qk k o with hlt | hge
      · rw[rZ,qv (by simp;omega),sL,if_pos hlt]at hk
        exact hk
      · rw[qy (by simp;omega),rQ]at hk
        have e:o+vs.length+(k - (cs.take o++vs).length)=k:=by simp;omega
        rw[e]at hk
        exact hk
theorem BG.store{s:AE}{i k:Nat}{A B:List AV}{w u:AV}(h:BG s i (A++w::B))(hk:A.length=k)(h1:u.isCell=true)(h2:u.cells=[u]):
  ∃s',AP Try.prog s 3 (.ptr (some (i,0+k * 1))) u=some s'∧BG s' i (A++u::B)∧s'.next=s.next∧∀x,x≠i→s'.heap.get x=s.heap.get x:=by
 subst hk
 obtain⟨s',g1,g2,g3,g4⟩:=h.fill (o:=A.length) (vs:=[u]) (by simp) (by simp) (by simp[Ae,h1])
 refine⟨s',?_,?_,g3,g4⟩
 ·simp[AP,Br,h2,AG,g1]
 ·have e:(A++w::B).take A.length++[u]++(A++w::B).drop (A.length+[u].length)=A++u::B:=by
   rw[sU,List.drop_append]
   ·simp
   ·rfl
  rw[e]at g2
  exact g2
theorem Ta(A B:List Int):A3 (A++B)=A3 A++A3 B:=by simp
theorem C7(A:List Int):(A3 A).length=A.length:=by simp
theorem Fk{A B:List AV}{w:AV}{k:Nat}(hk:A.length=k):(A++w::B)[k]? = some w:=by
 subst hk;simp
theorem mV{E:BI}(hE:Aq E){s:AE}(x:Int):WF E 134 [iv x] (fun r s'=>r=.bool false∧s=s') s:=by
 refine hE.go eA (by decide) rfl ?_
 simp only[nr,X7,X8,ne_eq,not_true,decide_false,Qa,Qb,Qc,Qd,Qe,Qf,Qg,Qh,Qi,Qj,Qk,Ql,Qm,Qn,true_and,and_true,Qo,Qp,Qq,Qr,Qs,Qt,Qu,Qv,Qw,Qx,Qy,Qz,Ra,Rb,Rc,Rd,Re,Rf,Rg,Rh,Ri,Rj,Rk,Rl,Rm,Ya,Yb,Yc,Rn,Ro,Rp,Yd,Ye,Rq,Rs,Rt,Ru,Rv,Rw,Rx]
theorem eS{E:BI}(hE:Aq E){s:AE}(x y:Int):WF E 123 [iv x,iv y] (fun r s'=>r=.bool (decide (x<y))∧s=s') s:=by
 refine hE.go d8 (by decide) rfl ?_
 simp only[np,X1,X2,Qa,Qb,Qc,Qd,Qe,Qf,Qg,Qh,Qi,Qj,Qk,Ql,Qm,Qn,true_and,and_true,Qo,Qp,Qq,Qr,Qs,Qt,Qu,Qv,Qw,Qx,Qy,Qz,Ra,Rb,Rc,Rd,Re,Rf,Rg,Rh,Ri,Rj,Rk,Rl,Rm,Ya,Yb,Yc,Rn,Ro,Rp,Yd,Ye,Rq,Rs,Rt,Ru,Rv,Rw,Rx]
 refine(mV hE x).mono ?_
 rintro _ _ ⟨rfl,rfl⟩
 simp only[Qa,Qb,Qc,Qd,Qe,Qf,Qg,Qh,Qi,Qj,Qk,Ql,Qm,Qn,true_and,and_true,Qo,Qp,Qq,Qr,Qs,Qt,Qu,Qv,Qw,Qx,Qy,Qz,Ra,Rb,Rc,Rd,Re,Rf,Rg,Rh,Ri,Rj,Rk,Rl,Rm,Ya,Yb,Yc,Rn,Ro,Rp,Yd,Ye,Rq,Rs,Rt,Ru,Rv,Rw,Rx]
theorem eH(t:TypeId)(a b:Int):AN Try.prog .geq t (.int .u64 a) (.int .u64 b)=some (.bool (decide (b≤a))):=by
 show some (AV.bool (!PO a b))=_
 rw[D5,← decide_not]
 congr 3
 exact propext Int.not_lt
theorem oW{n:Int}(h:u8 n):CC .u8 n=true:=by
 obtain⟨h1,h2⟩:=h
 cases n with
 | ofNat m =>
  have h3:(m:Int)≤255:=h2
  simp[CC];omega
 | negSucc m=>omega
theorem mS{n:Int}(h:u8 n):CC .u64 n=true:=by
 obtain⟨h1,h2⟩:=h
 cases n with
 | ofNat m =>
  have h3:(m:Int)≤255:=h2
  simp[CC];omega
 | negSucc m=>omega
theorem mf{l:List Nat}{n m:Nat}(h:l[n]? = some m):IU Try.prog 9 (.str l) (.int .u8 (n:Int))=some (.int .u8 (m:Int)):=by
 simp[IU,Cx,Bc,Try.underlying9,h]
def kH:List Nat:=[0,1,2,2,3,3,3,3,4,4,4,4,4,4,4,4,5,5,5,5,5,5,5,5,5,5,5,5,5,5,5,5,6,6,6,6,6,6,6,6,6,6,6,6,6,6,6,6,6,6,6,6,6,6,6,6,6,6,6,6,6,6,6,6,7,7,7,7,7,7,7,7,7,7,7,7,7,7,7,7,7,7,7,7,7,7,7,7,7,7,7,7,7,7,7,7,7,7,7,7,7,7,7,7,7,7,7,7,7,7,7,7,7,7,7,7,7,7,7,7,7,7,7,7,7,7,7,7,8,8,8,8,8,8,8,8,8,8,8,8,8,8,8,8,8,8,8,8,8,8,8,8,8,8,8,8,8,8,8,8,8,8,8,8,8,8,8,8,8,8,8,8,8,8,8,8,8,8,8,8,8,8,8,8,8,8,8,8,8,8,8,8,8,8,8,8,8,8,8,8,8,8,8,8,8,8,8,8,8,8,8,8,8,8,8,8,8,8,8,8,8,8,8,8,8,8,8,8,8,8,8,8,8,8,8,8,8,8,8,8,8,8,8,8,8,8,8,8,8,8,8,8,8,8,8,8]
set_option maxRecDepth 20000 in
theorem bG{E:BI}(hE:Aq E){s:AE}(n:Nat)(hn:n≤12):WF E 127 [.int .u64 (n:Int)] (fun r s'=>(∃m:Int,r=iv m)∧s=s') s:=by
 refine hE.go d9 (by decide) rfl ?_
 have g1:decide ((4294967296:Int)≤(n:Int))=false:=decide_eq_false (by omega)
 have g2:decide ((65536:Int)≤(n:Int))=false:=decide_eq_false (by omega)
 have g3:decide ((256:Int)≤(n:Int))=false:=decide_eq_false (by omega)
 have g4:C5 Try.prog s 147 5 (.int .u64 (n:Int))=some (.int .u8 (n:Int)):=by
  simp[C5,Try.underlying147,Try.underlying5,Ms (oW (n:=n) ⟨by omega,by omega⟩)]
 have g5:∃m:Nat,m≤4∧IU Try.prog 9 (.str kH) (.int .u8 (n:Int))=some (.int .u8 (m:Int)):=by
  have:n=0∨n=1∨n=2∨n=3∨n=4∨n=5∨n=6∨n=7∨n=8∨n=9∨n=10∨n=11∨n=12:=by omega
  rcases this with rfl | rfl | rfl | rfl | rfl | rfl | rfl | rfl | rfl | rfl | rfl | rfl | rfl<;>exact⟨_,by decide,mf rfl⟩
 obtain⟨m,hm,g5⟩:=g5
 have g6:C5 Try.prog s 5 3 (.int .u8 (m:Int))=some (iv (m:Int)):=Uu ⟨by omega,by omega⟩
 have g7:=Ay Try.prog 3 0 (m:Int) ⟨by omega,by omega⟩
 unfold kH at g5
 simp only[nq,X3,X4,X5,X6,UZ,eH,g1,g2,g3,g4,g5,g6,g7,Qa,Qb,Qc,Qd,Qe,Qf,Qg,Qh,Qi,Qj,Qk,Ql,Qm,Qn,true_and,and_true,Qo,Qp,Qq,Qr,Qs,Qt,Qu,Qv,Qw,Qx,Qy,Qz,Ra,Rb,Rc,Rd,Re,Rf,Rg,Rh,Ri,Rj,Rk,Rl,Rm,Ya,Yb,Yc,Rn,Ro,Rp,Yd,Ye,Rq,Rs,Rt,Ru,Rv,Rw,Rx]
 exact⟨_,rfl⟩
theorem bH{E:BI}(hE:Aq E){s:AE}(n:Nat)(hn:n≤12):WF E 109 [.int .u64 (n:Int)] (fun r s'=>(∃m:Int,r=iv m)∧s=s') s:=by
 refine hE.go dw (by decide) rfl ?_
 simp only[ni,XZ,Xa,Qa,Qb,Qc,Qd,Qe,Qf,Qg,Qh,Qi,Qj,Qk,Ql,Qm,Qn,true_and,and_true,Qo,Qp,Qq,Qr,Qs,Qt,Qu,Qv,Qw,Qx,Qy,Qz,Ra,Rb,Rc,Rd,Re,Rf,Rg,Rh,Ri,Rj,Rk,Rl,Rm,Ya,Yb,Yc,Rn,Ro,Rp,Yd,Ye,Rq,Rs,Rt,Ru,Rv,Rw,Rx]
 refine(bG hE n hn).mono ?_
 rintro _ _ ⟨⟨m,rfl⟩,rfl⟩
 simp only[Qa,Qb,Qc,Qd,Qe,Qf,Qg,Qh,Qi,Qj,Qk,Ql,Qm,Qn,true_and,and_true,Qo,Qp,Qq,Qr,Qs,Qt,Qu,Qv,Qw,Qx,Qy,Qz,Ra,Rb,Rc,Rd,Re,Rf,Rg,Rh,Ri,Rj,Rk,Rl,Rm,Ya,Yb,Yc,Rn,Ro,Rp,Yd,Ye,Rq,Rs,Rt,Ru,Rv,Rw,Rx]
 exact⟨_,rfl⟩
def E6(x:Int):List Int→List Int
 | []=>[x]
 | y::q=>if x<y then y::E6 x q else x::y::q
def Cl(L:List Int):List Int:=(L.foldl (fun q x=>E6 x q) []).reverse
theorem G5(x:Int):∀q,(E6 x q).length=q.length+1
 | []=>rfl
 | y::q=>by
  unfold E6
  split
  ·simp[G5 x q]
  ·simp
set_option maxRecDepth 8000 in
theorem fH      {E : BI}  (hE : Aq   E) {lo i n m : Nat} (hlo : lo ≤ i) (hn : n ≤ 1000) (x : Int) {Q : A9   → Prop} :
    ∀ (p T : List Int) (s : AE)  (x5 x6 : AV), p.length < n → n ≤ p.length + 1 + T.length → BG    s i (A3  (p.reverse ++ x :: T)) →
      (∀s' y4 y6,BG s' i (A3 ((E6 x p).reverse++T))→s'.next=s.next→(∀z,z≠i→s'.heap.get z=s.heap.get z)→Q ⟨.exit 2,[.slice (some (i,0)) n none,iv 0,iv (n:Int),iv (m:Int),y4,x5,y6],[],s'⟩) →
      WC E none (.loop LN) Q [.slice (some (i,0)) n none,iv 0,iv (n:Int),iv (m:Int),iv (p.length:Int),x5,x6] [] s:=by
  intro p
  induction p with
  | nil =>
    intro T s x5 x6 h1 h2 hr hq
    refine WC.loop' ?_
    simp only[LN,SS,rS,show((0:Nat):Int)=0 from rfl,rG,decide_false,Qa,Qb,Qc,Qd,Qe,Qf,Qg,Qh,Qi,Qj,Qk,Ql,Qm,Qn,true_and,and_true,Qo,Qp,Qq,Qr,Qs,Qt,Qu,Qv,Qw,Qx,Qy,Qz,Ra,Rb,Rc,Rd,Re,Rf,Rg,Rh,Ri,Rj,Rk,Rl,Rm,Ya,Yb,Yc,Rn,Ro,Rp,Yd,Ye,Rq,Rs,Rt,Ru,Rv,Rw,Rx]
    exact hq s _ _ hr rfl fun _ _=>rfl
  | cons y q ih =>
    intro T s x5 x6 h1 h2 hr hq
    have hj:(y::q).length=q.length+1:=rfl
    rw[hj]at h1 h2 ⊢
    have hcells:A3 ((y::q).reverse++x::T)=A3 q.reverse++iv y::(iv x::A3 T):=by simp
    have hcells2:A3 ((y::q).reverse++x::T)=(A3 q.reverse++[iv y])++iv x::A3 T:=by simp
    have hql:(A3 q.reverse).length=q.length:=by simp
    have hql2:(A3 q.reverse++[iv y]).length=q.length+1:=by simp
    have hgt:decide ((0:Int)<((q.length+1:Nat):Int))=true:=decide_eq_true (by omega)
    have a1:AD Try.prog 23 (.slice (some (i,0)) n none) (iv ((q.length+1:Nat):Int))=some (.ptr (some (i,0+(q.length+1) * 1))):=At Try.underlying23 Br (by omega)
    have a0:AD Try.prog 23 (.slice (some (i,0)) n none) (iv ((q.length:Nat):Int))=some (.ptr (some (i,0+q.length * 1))):=At Try.underlying23 Br (by omega)
    have l1:AC Try.prog s 3 (.ptr (some (i,0+(q.length+1) * 1)))=some (iv x):=hr.load (by rw[hcells2];exact Fk hql2)
    have l0:AC Try.prog s 3 (.ptr (some (i,0+q.length * 1)))=some (iv y):=hr.load (by rw[hcells];exact Fk hql)
    have hs:=CV Try.prog 3 ((q.length+1:Nat):Int) 1 ⟨by omega,by omega⟩
    have hs1:(((q.length+1:Nat):Int) - 1)=((q.length:Nat):Int):=by omega
    rw[hs1]at hs
    refine WC.loop' ?_
    generalize hW:WC E none (Ac.loop LN) Q=W
    simp only[LN,SS,hgt,a1,l1,hs,a0,l0,Qa,Qb,Qc,Qd,Qe,Qf,Qg,Qh,Qi,Qj,Qk,Ql,Qm,Qn,true_and,and_true,Qo,Qp,Qq,Qr,Qs,Qt,Qu,Qv,Qw,Qx,Qy,Qz,Ra,Rb,Rc,Rd,Re,Rf,Rg,Rh,Ri,Rj,Rk,Rl,Rm,Ya,Yb,Yc,Rn,Ro,Rp,Yd,Ye,Rq,Rs,Rt,Ru,Rv,Rw,Rx]
    refine(eS hE x y).mono ?_
    rintro _ _ ⟨rfl,rfl⟩
    by_cases h:x<y
    · rw[hcells2]at hr
      obtain⟨s1,g1,g2,g3,g4⟩:=hr.store (k:=q.length+1) (u:=iv y) hql2 rfl rfl
      have e1:(A3 q.reverse++[iv y])++iv y::A3 T=A3 q.reverse++iv y::(iv y::A3 T):=by simp
      rw[e1]at g2
      obtain⟨s2,k1,k2,k3,k4⟩:=g2.store (k:=q.length) (u:=iv x) hql rfl rfl
      simp only[h,decide_true,Xy,Xz,a1,l1,hs,a0,l0,BW,g1,k1,AS,Qa,Qb,Qc,Qd,Qe,Qf,Qg,Qh,Qi,Qj,Qk,Ql,Qm,Qn,true_and,and_true,Qo,Qp,Qq,Qr,Qs,Qt,Qu,Qv,Qw,Qx,Qy,Qz,Ra,Rb,Rc,Rd,Re,Rf,Rg,Rh,Ri,Rj,Rk,Rl,Rm,Ya,Yb,Yc,Rn,Ro,Rp,Yd,Ye,Rq,Rs,Rt,Ru,Rv,Rw,Rx]
      rw[← hW]
      have e2:E6 x (y::q)=y::E6 x q:=by simp[E6,h]
      refine ih (y::T) s2 x5 _ (by omega) (by simp;omega) ?_ ?_
      · have e3:A3 (q.reverse++x::(y::T))=A3 q.reverse++iv x::(iv y::A3 T):=by simp
        rw[e3];exact k2
      · intro s' y4 y6 f1 f2 f3
        refine hq s' y4 y6 ?_ (by omega) fun z hz=>(f3 z hz).trans ((k4 z hz).trans (g4 z hz))
        rw[e2]
        have e4:(y::E6 x q).reverse++T=(E6 x q).reverse++(y::T):=by simp
        rw[e4];exact f1
    · have e2:E6 x (y::q)=x::y::q:=by simp[E6,h]
      simp only[h,decide_false,Qa,Qb,Qc,Qd,Qe,Qf,Qg,Qh,Qi,Qj,Qk,Ql,Qm,Qn,true_and,and_true,Qo,Qp,Qq,Qr,Qs,Qt,Qu,Qv,Qw,Qx,Qy,Qz,Ra,Rb,Rc,Rd,Re,Rf,Rg,Rh,Ri,Rj,Rk,Rl,Rm,Ya,Yb,Yc,Rn,Ro,Rp,Yd,Ye,Rq,Rs,Rt,Ru,Rv,Rw,Rx]
      refine hq s _ _ ?_ rfl fun _ _=>rfl
      rw[e2]
      have e4:(x::y::q).reverse++T=(y::q).reverse++x::T:=by simp
      rw[e4];exact hr
def CR(lo:Nat)(s:AE)(v:AV)(L:List Int):Prop:=(∃a,v=.slice a 0 (some 0)∧L=[])∨∃i,v=.slice (some (i,0)) L.length none∧lo≤i∧i<s.next∧BG s i (A3 L)
theorem CR.len{lo:Nat}{s:AE}{v:AV}{L:List Int}(h:CR lo s v L):As Try.prog s 23 v=some (iv (L.length:Int)):=by
 rcases h with⟨a,rfl,rfl⟩ | ⟨i,rfl,_⟩
 ·exact AW Try.underlying23
 ·exact AW Try.underlying23
set_option maxRecDepth 8000 in
theorem RJ{E:BI}(hE:Aq E){lo i n:Nat}(hlo:lo≤i)(hn:n≤1000){Q:A9→Prop}:
    ∀ (R q : List Int) (s : AE)  (m : Nat) (x4 x5 x6 : AV), q.length = m → n = q.length + R.length → BG    s i (A3  (q.reverse ++ R)) →
      (∀s' y3 y4 y5 y6,BG s' i (A3 (R.foldl (fun q x=>E6 x q) q).reverse)→s'.next=s.next→(∀z,z≠i→s'.heap.get z=s.heap.get z)→Q ⟨.exit 0,[.slice (some (i,0)) n none,iv 0,iv (n:Int),y3,y4,y5,y6],[],s'⟩) →
      WC E none (.loop GM) Q [.slice (some (i,0)) n none,iv 0,iv (n:Int),iv (m:Int),x4,x5,x6] [] s:=by
  intro R
  induction R with
  | nil =>
    intro q s m x4 x5 x6 hm hq hr hk
    subst hm
    have hlt:decide (((q.length:Nat):Int)<(n:Int))=false:=decide_eq_false (by simp at hq;omega)
    refine WC.loop' ?_
    simp only[GM,IM,hlt,Qa,Qb,Qc,Qd,Qe,Qf,Qg,Qh,Qi,Qj,Qk,Ql,Qm,Qn,true_and,and_true,Qo,Qp,Qq,Qr,Qs,Qt,Qu,Qv,Qw,Qx,Qy,Qz,Ra,Rb,Rc,Rd,Re,Rf,Rg,Rh,Ri,Rj,Rk,Rl,Rm,Ya,Yb,Yc,Rn,Ro,Rp,Yd,Ye,Rq,Rs,Rt,Ru,Rv,Rw,Rx]
    exact hk s _ _ _ _ (by simpa using hr) rfl fun _ _=>rfl
  | cons x T ih =>
    intro q s m x4 x5 x6 hm hq hr hk
    subst hm
    have hR:(x::T).length=T.length+1:=rfl
    rw[hR]at hq
    have hlt:decide (((q.length:Nat):Int)<(n:Int))=true:=decide_eq_true (by omega)
    have e3:=Ay Try.prog 3 ((q.length:Nat):Int) 1 ⟨by omega,by omega⟩
    have hcast:(((q.length:Nat):Int)+1)=((q.length+1:Nat):Int):=by omega
    refine WC.loop' ?_
    generalize hW:WC E none (Ac.loop GM) Q=W
    simp only[GM,IM,Xx,hlt,Qa,Qb,Qc,Qd,Qe,Qf,Qg,Qh,Qi,Qj,Qk,Ql,Qm,Qn,true_and,and_true,Qo,Qp,Qq,Qr,Qs,Qt,Qu,Qv,Qw,Qx,Qy,Qz,Ra,Rb,Rc,Rd,Re,Rf,Rg,Rh,Ri,Rj,Rk,Rl,Rm,Ya,Yb,Yc,Rn,Ro,Rp,Yd,Ye,Rq,Rs,Rt,Ru,Rv,Rw,Rx]
    refine fH hE hlo hn x q T s _ _ (by omega) (by omega) hr ?_
    intro s' y4 y6 g1 g2 g3
    simp only[X0,e3,hcast,if_true,Qa,Qb,Qc,Qd,Qe,Qf,Qg,Qh,Qi,Qj,Qk,Ql,Qm,Qn,true_and,and_true,Qo,Qp,Qq,Qr,Qs,Qt,Qu,Qv,Qw,Qx,Qy,Qz,Ra,Rb,Rc,Rd,Re,Rf,Rg,Rh,Ri,Rj,Rk,Rl,Rm,Ya,Yb,Yc,Rn,Ro,Rp,Yd,Ye,Rq,Rs,Rt,Ru,Rv,Rw,Rx]
    rw[← hW]
    refine ih (E6 x q) s' (q.length+1) _ _ _ (G5 x q) (by rw[G5];omega) g1 ?_
    intro s2 y3 y4' y5 y6' h1 h2 h3
    exact hk s2 y3 y4' y5 y6' h1 (by omega) fun z hz=>(h3 z hz).trans (g3 z hz)
theorem fF      {E : BI}  (hE : Aq   E) {lo : Nat} {s : AE}  {v : AV} {L : List Int} (h : CR     lo s v L) (hL : L.length ≤ 12) :
    WF E 117 [v,iv 0,iv (L.length:Int)] (fun r s'=>CR lo s' v (Cl L)∧Ao lo s s'∧s'.next=s.next) s:=by
  refine hE.go Ur (by decide) rfl ?_
  have e3:=Ay Try.prog 3 0 1 ⟨by omega,by omega⟩
  have e4:(0:Int)+1=1:=rfl
  rcases h with⟨a,rfl,rfl⟩ | ⟨i,rfl,h1,h2,h3⟩
  · simp only[Xw,LO,e3,e4,rS,show((0:Nat):Int)=0 from rfl,Qa,Qb,Qc,Qd,Qe,Qf,Qg,Qh,Qi,Qj,Qk,Ql,Qm,Qn,true_and,and_true,Qo,Qp,Qq,Qr,Qs,Qt,Qu,Qv,Qw,Qx,Qy,Qz,Ra,Rb,Rc,Rd,Re,Rf,Rg,Rh,Ri,Rj,Rk,Rl,Rm,Ya,Yb,Yc,Rn,Ro,Rp,Yd,Ye,Rq,Rs,Rt,Ru,Rv,Rw,Rx]
    refine WC.loop' ?_
    simp only[GM,IM,show decide ((1:Int)<0)=false from rfl,if_true,Qa,Qb,Qc,Qd,Qe,Qf,Qg,Qh,Qi,Qj,Qk,Ql,Qm,Qn,true_and,and_true,Qo,Qp,Qq,Qr,Qs,Qt,Qu,Qv,Qw,Qx,Qy,Qz,Ra,Rb,Rc,Rd,Re,Rf,Rg,Rh,Ri,Rj,Rk,Rl,Rm,Ya,Yb,Yc,Rn,Ro,Rp,Yd,Ye,Rq,Rs,Rt,Ru,Rv,Rw,Rx]
    exact⟨.inl ⟨a,rfl,rfl⟩,Ao.refl _ _⟩
  · simp only[Xw,LO,e3,e4,Qa,Qb,Qc,Qd,Qe,Qf,Qg,Qh,Qi,Qj,Qk,Ql,Qm,Qn,true_and,and_true,Qo,Qp,Qq,Qr,Qs,Qt,Qu,Qv,Qw,Qx,Qy,Qz,Ra,Rb,Rc,Rd,Re,Rf,Rg,Rh,Ri,Rj,Rk,Rl,Rm,Ya,Yb,Yc,Rn,Ro,Rp,Yd,Ye,Rq,Rs,Rt,Ru,Rv,Rw,Rx]
    cases L with
    | nil =>
      refine WC.loop' ?_
      simp only[GM,IM,rS,show((0:Nat):Int)=0 from rfl,show decide ((1:Int)<0)=false from rfl,if_true,Qa,Qb,Qc,Qd,Qe,Qf,Qg,Qh,Qi,Qj,Qk,Ql,Qm,Qn,true_and,and_true,Qo,Qp,Qq,Qr,Qs,Qt,Qu,Qv,Qw,Qx,Qy,Qz,Ra,Rb,Rc,Rd,Re,Rf,Rg,Rh,Ri,Rj,Rk,Rl,Rm,Ya,Yb,Yc,Rn,Ro,Rp,Yd,Ye,Rq,Rs,Rt,Ru,Rv,Rw,Rx]
      exact⟨.inr ⟨i,rfl,h1,h2,h3⟩,Ao.refl _ _⟩
    | cons x T =>
      refine RJ hE h1 (n:=(x::T).length) (by omega) T [x] s 1 _ _ _ rfl (by simp;omega) h3 ?_
      intro s' y3 y4 y5 y6 g1 g2 g3
      simp only[if_true,Qa,Qb,Qc,Qd,Qe,Qf,Qg,Qh,Qi,Qj,Qk,Ql,Qm,Qn,true_and,and_true,Qo,Qp,Qq,Qr,Qs,Qt,Qu,Qv,Qw,Qx,Qy,Qz,Ra,Rb,Rc,Rd,Re,Rf,Rg,Rh,Ri,Rj,Rk,Rl,Rm,Ya,Yb,Yc,Rn,Ro,Rp,Yd,Ye,Rq,Rs,Rt,Ru,Rv,Rw,Rx]
      have hl:(Cl (x::T)).length=(x::T).length:=by
        have:∀ (R q:List Int),(R.foldl (fun q x=>E6 x q) q).length=q.length+R.length:=by
          intro R
          induction R with
          | nil=>intro q;rfl
          | cons y R ih=>intro q;simp only[rT,ih,G5,qx];omega
        unfold Cl
        rw[sW,this];simp
      refine⟨.inr ⟨i,by rw[hl],h1,by omega,g1⟩,⟨by omega,fun z hz=>g3 z (by omega)⟩,g2⟩
set_option maxRecDepth 8000 in
theorem fE{E:BI}(hE:Aq E){lo:Nat}{s:AE}{v:AV}{L:List Int}(h:CR lo s v L)(hL:L.length≤12)(m:Int):
  WF E 108 [v,iv 0,iv (L.length:Int),iv m] (fun r s'=>CR lo s' v (Cl L)∧Ao lo s s'∧s'.next=s.next) s:=by
 refine hE.go Uq (by decide) rfl ?_
 have e3:=CV Try.prog 3 (L.length:Int) 0 ⟨by omega,by omega⟩
 have e4:(L.length:Int) - 0=(L.length:Int):=by omega
 have e5:decide ((L.length:Int)≤12)=true:=decide_eq_true (by omega)
 simp only[ke,SD,SE,Qa,Qb,Qc,Qd,Qe,Qf,Qg,Qh,Qi,Qj,Qk,Ql,Qm,Qn,true_and,and_true,Qo,Qp,Qq,Qr,Qs,Qt,Qu,Qv,Qw,Qx,Qy,Qz,Ra,Rb,Rc,Rd,Re,Rf,Rg,Rh,Ri,Rj,Rk,Rl,Rm,Ya,Yb,Yc,Rn,Ro,Rp,Yd,Ye,Rq,Rs,Rt,Ru,Rv,Rw,Rx]
 refine WC.loop' ?_
 generalize WC E none (Ac.loop Ir) _=W
 simp only[Ir,SF,SG,SH,e3,e4,e5,Qa,Qb,Qc,Qd,Qe,Qf,Qg,Qh,Qi,Qj,Qk,Ql,Qm,Qn,true_and,and_true,Qo,Qp,Qq,Qr,Qs,Qt,Qu,Qv,Qw,Qx,Qy,Qz,Ra,Rb,Rc,Rd,Re,Rf,Rg,Rh,Ri,Rj,Rk,Rl,Rm,Ya,Yb,Yc,Rn,Ro,Rp,Yd,Ye,Rq,Rs,Rt,Ru,Rv,Rw,Rx]
 refine(fF hE h hL).mono ?_
 rintro r s' h'
 simp only[Qa,Qb,Qc,Qd,Qe,Qf,Qg,Qh,Qi,Qj,Qk,Ql,Qm,Qn,true_and,and_true,Qo,Qp,Qq,Qr,Qs,Qt,Qu,Qv,Qw,Qx,Qy,Qz,Ra,Rb,Rc,Rd,Re,Rf,Rg,Rh,Ri,Rj,Rk,Rl,Rm,Ya,Yb,Yc,Rn,Ro,Rp,Yd,Ye,Rq,Rs,Rt,Ru,Rv,Rw,Rx]
 exact h'
theorem P0{s:AE}{n:Nat}(h:n≤12):C5 Try.prog s 3 133 (iv (n:Int))=some (.int .u64 (n:Int)):=by
 simp[C5,Try.underlying3,Try.underlying133,Ms (mS (n:=n) ⟨by omega,by omega⟩)]
theorem fI{E:BI}(hE:Aq E){lo:Nat}{s:AE}{v:AV}{L:List Int}(h:CR lo s v L)(hL:L.length≤12):
  WF E 87 [v] (fun r s'=>CR lo s' v (Cl L)∧Ao lo s s'∧s'.next=s.next) s:=by
 refine hE.go aO (by decide) rfl ?_
 simp only[pc,Zu,Zv,h.len,P0 hL,Qa,Qb,Qc,Qd,Qe,Qf,Qg,Qh,Qi,Qj,Qk,Ql,Qm,Qn,true_and,and_true,Qo,Qp,Qq,Qr,Qs,Qt,Qu,Qv,Qw,Qx,Qy,Qz,Ra,Rb,Rc,Rd,Re,Rf,Rg,Rh,Ri,Rj,Rk,Rl,Rm,Ya,Yb,Yc,Rn,Ro,Rp,Yd,Ye,Rq,Rs,Rt,Ru,Rv,Rw,Rx]
 refine(bH hE L.length hL).mono ?_
 rintro _ _ ⟨⟨m,rfl⟩,rfl⟩
 simp only[Qa,Qb,Qc,Qd,Qe,Qf,Qg,Qh,Qi,Qj,Qk,Ql,Qm,Qn,true_and,and_true,Qo,Qp,Qq,Qr,Qs,Qt,Qu,Qv,Qw,Qx,Qy,Qz,Ra,Rb,Rc,Rd,Re,Rf,Rg,Rh,Ri,Rj,Rk,Rl,Rm,Ya,Yb,Yc,Rn,Ro,Rp,Yd,Ye,Rq,Rs,Rt,Ru,Rv,Rw,Rx]
 refine(fE hE h hL m).mono ?_
 rintro r s' h'
 simp only[Qa,Qb,Qc,Qd,Qe,Qf,Qg,Qh,Qi,Qj,Qk,Ql,Qm,Qn,true_and,and_true,Qo,Qp,Qq,Qr,Qs,Qt,Qu,Qv,Qw,Qx,Qy,Qz,Ra,Rb,Rc,Rd,Re,Rf,Rg,Rh,Ri,Rj,Rk,Rl,Rm,Ya,Yb,Yc,Rn,Ro,Rp,Yd,Ye,Rq,Rs,Rt,Ru,Rv,Rw,Rx]
 exact h'
theorem BG.loadAt{s:AE}{i k a:Nat}{cs:List AV}{u:AV}(h:BG s i cs)(hk:cs[k]? = some u)(ha:a=k):AC Try.prog s 3 (.ptr (some (i,a)))=some u:=by
 subst ha;exact A0 Do (h.load1 hk)
theorem bw{s:AE}{i n k:Nat}{cs:List AV}(h:BG s i cs)(hn:n≤cs.length)(hk:k≤n):AU Try.prog 23 true false false s [.slice (some (i,0)) n none,iv (k:Int)]=some (.slice (some (i,0+k * 1)) (n - k) none):=by
 obtain⟨r,h1,h2,h3,h4,h5⟩:=h
 have hb:Au (iv (k:Int)) n=some k:=by simp[Au,Cx,Bc,AG,A2 hk]
 show An Try.prog s 23 (.slice (some (i,0)) n none) (some (iv (k:Int))) none none=_
 simp[An,Try.underlying23,Br,rowAt,h1,h5,AG,hb,A2 (qm r.n),show Nat.beq 1 0=false from rfl]
theorem ma{s:AE}{i n k:Nat}{cs:List AV}(h:BG s i cs)(hk:k≤cs.length):AU Try.prog 23 false true false s [.slice (some (i,0)) n none,iv (k:Int)]=some (.slice (some (i,0)) k none):=by
 obtain⟨r,h1,h2,h3,h4,h5⟩:=h
 have hb:Au (iv (k:Int)) r.n=some k:=by simp[Au,Cx,Bc,AG,h2.1,A2 hk]
 show An Try.prog s 23 (.slice (some (i,0)) n none) none (some (iv (k:Int))) none=_
 simp[An,Try.underlying23,Br,rowAt,h1,h5,AG,hb,A2 (qm r.n),show Nat.beq 1 0=false from rfl]
theorem bo(m:Nat):Ht (AV.cells (.int .i64 0)) m=A3 (List.replicate m 0):=by
 induction m with
 | zero=>rfl
 | succ m ih=>show iv 0::Ht _ m=_;rw[ih];rfl
theorem WY        {s : AE}  {i m k : Nat} {A B : List AV} (h : BG    s i (A ++ B)) (hA : A.length = k) (hB : B.length = m) :
    ∃s' Z,FP Try.prog s [23] [.slice (some (i,0+k * 1)) m none]=some (Ar,s')∧Z.length=m∧BG s' i (A++Z)∧s'.next=s.next∧∀x,x≠i→s'.heap.get x=s.heap.get x:=by
  subst hA;subst hB
  cases B with
  | nil=>exact⟨s,[],by simp[FP,Try.underlying23],rfl,h,rfl,fun _ _=>rfl⟩
  | cons b B =>
    obtain⟨s',g1,g2,g3,g4⟩:=h.fill (o:=A.length) (vs:=A3 (List.replicate (B.length+1) 0)) (by simp[List.replicate_succ]) (by simp) (NM _)
    refine⟨s',A3 (List.replicate (B.length+1) 0),?_,by simp,?_,g3,g4⟩
    · have hz:CF Try.prog 3=some (.int .i64 0):=RZ
      simp only[FP,Try.underlying23,qx,hz,Option.bind_some,bo,qq,rC,g1]
    · have e:(A++b::B).take A.length++A3 (List.replicate (B.length+1) 0)++(A++b::B).drop (A.length+(A3 (List.replicate (B.length+1) 0)).length)=A++A3 (List.replicate (B.length+1) 0):=by
        rw[sU rfl,sM (by simp)];simp
      rw[e]at g2
      exact g2
def dd(p:Int):List Int→List Int
 | []=>[]
 | x::r=>if x=p then dd p r else x::dd x r
def EE:List Int→List Int
 | []=>[]
 | x::r=>x::dd x r
set_option maxRecDepth 8000 in
theorem eB      {E : BI}  (hE : Aq   E) {lo i n k0 : Nat} (hlo : lo ≤ i) (hn : n ≤ 1000) (hk0 : 0 < k0) {Q : A9   → Prop} (x1 x5 x6 x7 : AV) :
    ∀ (S W G : List Int) (p : Int) (s : AE)  (k2 : Nat) (x8 x9 : AV), 0 < k2 → k0 + k2 = W.length + G.length + 1 → n = W.length + G.length + 1 + S.length → k0 ≤ n → BG    s i (A3  (W ++ (G ++ p :: S))) →
      (∀s' W' G' y4 y8 y9,W'=W++dd p S→W'.length+G'.length=n→BG s' i (A3 (W'++G'))→s'.next=s.next→(∀z,z≠i→s'.heap.get z=s.heap.get z)→Q ⟨.exit 2,[.slice (some (i,0)) n none,x1,iv (W'.length:Int),.slice (some (i,0+k0 * 1)) (n - k0) none,y4,x5,x6,x7,y8,y9],[],s'⟩) →
      WC E none (.loop Jq) Q [.slice (some (i,0)) n none,x1,iv (W.length:Int),.slice (some (i,0+k0 * 1)) (n - k0) none,iv (k2:Int),x5,x6,x7,x8,x9] [] s:=by
  intro S
  induction S with
  | nil =>
    intro W G p s k2 x8 x9 hk2 hk hnn hkn hr hq
    have hlt:decide (((k2:Nat):Int)<((n - k0:Nat):Int))=false:=decide_eq_false (by simp at hnn;omega)
    refine WC.loop' ?_
    simp only[Jq,Ul,AW Try.underlying23,hlt,Qa,Qb,Qc,Qd,Qe,Qf,Qg,Qh,Qi,Qj,Qk,Ql,Qm,Qn,true_and,and_true,Qo,Qp,Qq,Qr,Qs,Qt,Qu,Qv,Qw,Qx,Qy,Qz,Ra,Rb,Rc,Rd,Re,Rf,Rg,Rh,Ri,Rj,Rk,Rl,Rm,Ya,Yb,Yc,Rn,Ro,Rp,Yd,Ye,Rq,Rs,Rt,Ru,Rv,Rw,Rx]
    exact hq s W (G++[p]) _ _ _ (by simp[dd]) (by simp at hnn ⊢;omega) hr rfl fun _ _=>rfl
  | cons x T ih =>
    intro W G p s k2 x8 x9 hk2 hk hnn hkn hr hq
    have hS:(x::T).length=T.length+1:=rfl
    rw[hS]at hnn
    have hlt:decide (((k2:Nat):Int)<((n - k0:Nat):Int))=true:=decide_eq_true (by omega)
    have a1:AD Try.prog 23 (.slice (some (i,0+k0 * 1)) (n - k0) none) (iv (k2:Int))=some (.ptr (some (i,0+k0 * 1+k2 * 1))):=At Try.underlying23 Br (by omega)
    have hs:=CV Try.prog 3 (k2:Int) 1 ⟨by omega,by omega⟩
    have hs1:((k2:Int) - 1)=((k2 - 1:Nat):Int):=by omega
    rw[hs1]at hs
    have a0:AD Try.prog 23 (.slice (some (i,0+k0 * 1)) (n - k0) none) (iv ((k2 - 1:Nat):Int))=some (.ptr (some (i,0+k0 * 1+(k2 - 1) * 1))):=At Try.underlying23 Br (by omega)
    have aw:AD Try.prog 23 (.slice (some (i,0)) n none) (iv (W.length:Int))=some (.ptr (some (i,0+W.length * 1))):=At Try.underlying23 Br (by omega)
    have c1:A3 (W++(G++p::x::T))=A3 (W++G++[p])++iv x::A3 T:=by simp
    have c0:A3 (W++(G++p::x::T))=A3 (W++G)++iv p::A3 (x::T):=by simp
    have l1:AC Try.prog s 3 (.ptr (some (i,0+k0 * 1+k2 * 1)))=some (iv x):=hr.loadAt (k:=W.length+G.length+1) (by rw[c1];exact Fk (by simp;omega)) (by omega)
    have l0:AC Try.prog s 3 (.ptr (some (i,0+k0 * 1+(k2 - 1) * 1)))=some (iv p):=hr.loadAt (k:=W.length+G.length) (by rw[c0];exact Fk (by simp)) (by omega)
    have e3:=Ay Try.prog 3 (k2:Int) 1 ⟨by omega,by omega⟩
    have e3':((k2:Int)+1)=((k2+1:Nat):Int):=by omega
    have e4:=Ay Try.prog 3 (W.length:Int) 1 ⟨by omega,by omega⟩
    have e4':((W.length:Int)+1)=((W.length+1:Nat):Int):=by omega
    refine WC.loop' ?_
    generalize hW:WC E none (Ac.loop Jq) Q=WW
    by_cases h:x=p
    · subst h
      simp only[Jq,Ul,Z1,TC,AW Try.underlying23,hlt,a1,a0,l1,hs,l0,e3,e3',ne_eq,not_true,decide_false,Qa,Qb,Qc,Qd,Qe,Qf,Qg,Qh,Qi,Qj,Qk,Ql,Qm,Qn,true_and,and_true,Qo,Qp,Qq,Qr,Qs,Qt,Qu,Qv,Qw,Qx,Qy,Qz,Ra,Rb,Rc,Rd,Re,Rf,Rg,Rh,Ri,Rj,Rk,Rl,Rm,Ya,Yb,Yc,Rn,Ro,Rp,Yd,Ye,Rq,Rs,Rt,Ru,Rv,Rw,Rx]
      rw[← hW]
      have hc:W++(G++x::x::T)=W++((G++[x])++x::T):=by simp
      rw[hc]at hr
      refine ih W (G++[x]) x s (k2+1) _ _ (by omega) (by simp;omega) (by simp;omega) hkn hr ?_
      intro s' W' G' y4 y8 y9 f1 f2 f3 f4 f5
      exact hq s' W' G' y4 y8 y9 (by rw[f1];simp[dd]) f2 f3 f4 f5
    · have hd:dd p (x::T)=x::dd x T:=by simp[dd,h]
      obtain⟨g0,tl,htl,hG⟩:∃g0 tl,G++p::x::T=g0::tl∧∃G1,tl=G1++x::T∧G1.length=G.length:=by
        cases G with
        | nil=>exact⟨p,x::T,rfl,[],rfl,rfl⟩
        | cons g G=>exact⟨g,G++p::x::T,rfl,G++[p],by simp,by simp⟩
      obtain⟨G1,rfl,hG1⟩:=hG
      have cw:A3 (W++(G++p::x::T))=A3 W++iv g0::A3 (G1++x::T):=by rw[htl];simp
      have hr2:=hr
      rw[cw]at hr2
      obtain⟨s1,g1,g2,g3,g4⟩:=hr2.store (k:=W.length) (u:=iv x) (by simp) rfl rfl
      simp only[Jq,Ul,Z1,Zw,Zx,TC,AW Try.underlying23,hlt,a1,a0,aw,l1,hs,l0,e3,e3',e4,e4',h,ne_eq,not_false_eq_true,decide_true,BW,g1,AS,Qa,Qb,Qc,Qd,Qe,Qf,Qg,Qh,Qi,Qj,Qk,Ql,Qm,Qn,true_and,and_true,Qo,Qp,Qq,Qr,Qs,Qt,Qu,Qv,Qw,Qx,Qy,Qz,Ra,Rb,Rc,Rd,Re,Rf,Rg,Rh,Ri,Rj,Rk,Rl,Rm,Ya,Yb,Yc,Rn,Ro,Rp,Yd,Ye,Rq,Rs,Rt,Ru,Rv,Rw,Rx]
      rw[← hW]
      have hr3:BG s1 i (A3 ((W++[x])++(G1++x::T))):=by
        have:A3 ((W++[x])++(G1++x::T))=A3 W++iv x::A3 (G1++x::T):=by simp
        rw[this];exact g2
      have hwl:(W++[x]).length=W.length+1:=by simp
      have:=ih (W++[x]) G1 x s1 (k2+1) (.bool true) (.bool true) (by omega) (by rw[hwl];omega) (by rw[hwl];omega) hkn hr3 ?_
      · rw[hwl]at this
        exact this
      · intro s' W' G' y4 y8 y9 f1 f2 f3 f4 f5
        exact hq s' W' G' y4 y8 y9 (by rw[f1,hd];simp) f2 f3 (by omega) fun z hz=>(f5 z hz).trans (g4 z hz)
set_option maxRecDepth 8000 in
theorem Py       {E : BI}  (hE : Aq   E) {lo i n : Nat} (hlo : lo ≤ i) (hn : n ≤ 1000) {Q : A9   → Prop} (x1 x5 : AV) :
    ∀ (R A : List Int) (y : Int) (s : AE)  (x3 x4 x6 x7 x8 x9 : AV), n = A.length + 1 + R.length → BG    s i (A3  (A ++ y :: R)) →
      (∀e s' W' (G':List AV) y1 y2 y3 y4 y6 y7 y8 y9,(e=.ret∧y1=.slice (some (i,0)) W'.length none∨e=.exit 0∧y1=x1∧W'.length=n)→W'=A++y::dd y R→BG s' i (A3 W'++G')→s'.next=s.next→(∀z,z≠i→s'.heap.get z=s.heap.get z) →
        Q ⟨e,[.slice (some (i,0)) n none,y1,y2,y3,y4,x5,y6,y7,y8,y9],[],s'⟩) →
      WC E none (.loop Jr) Q [.slice (some (i,0)) n none,x1,iv ((A.length+1:Nat):Int),x3,x4,x5,x6,x7,x8,x9] [] s:=by
  intro R
  induction R with
  | nil =>
    intro A y s x3 x4 x6 x7 x8 x9 hnn hr hq
    have hlt:decide (((A.length+1:Nat):Int)<(n:Int))=false:=decide_eq_false (by simp at hnn;omega)
    refine WC.loop' ?_
    simp only[Jr,Uk,AW Try.underlying23,hlt,Qa,Qb,Qc,Qd,Qe,Qf,Qg,Qh,Qi,Qj,Qk,Ql,Qm,Qn,true_and,and_true,Qo,Qp,Qq,Qr,Qs,Qt,Qu,Qv,Qw,Qx,Qy,Qz,Ra,Rb,Rc,Rd,Re,Rf,Rg,Rh,Ri,Rj,Rk,Rl,Rm,Ya,Yb,Yc,Rn,Ro,Rp,Yd,Ye,Rq,Rs,Rt,Ru,Rv,Rw,Rx]
    exact hq _ s (A++[y]) [] _ _ _ _ _ _ _ _ (.inr ⟨rfl,rfl,by simp at hnn ⊢;omega⟩) (by simp[dd]) (by simpa using hr) rfl fun _ _=>rfl
  | cons x T ih =>
    intro A y s x3 x4 x6 x7 x8 x9 hnn hr hq
    have hS:(x::T).length=T.length+1:=rfl
    rw[hS]at hnn
    have hlt:decide (((A.length+1:Nat):Int)<(n:Int))=true:=decide_eq_true (by omega)
    have a1:AD Try.prog 23 (.slice (some (i,0)) n none) (iv ((A.length+1:Nat):Int))=some (.ptr (some (i,0+(A.length+1) * 1))):=At Try.underlying23 Br (by omega)
    have hs:=CV Try.prog 3 ((A.length+1:Nat):Int) 1 ⟨by omega,by omega⟩
    have hs1:(((A.length+1:Nat):Int) - 1)=((A.length:Nat):Int):=by omega
    rw[hs1]at hs
    have a0:AD Try.prog 23 (.slice (some (i,0)) n none) (iv ((A.length:Nat):Int))=some (.ptr (some (i,0+A.length * 1))):=At Try.underlying23 Br (by omega)
    have c1:A3 (A++y::x::T)=A3 (A++[y])++iv x::A3 T:=by simp
    have c0:A3 (A++y::x::T)=A3 A++iv y::A3 (x::T):=by simp
    have l1:AC Try.prog s 3 (.ptr (some (i,0+(A.length+1) * 1)))=some (iv x):=hr.loadAt (k:=A.length+1) (by rw[c1];exact Fk (by simp)) (by omega)
    have l0:AC Try.prog s 3 (.ptr (some (i,0+A.length * 1)))=some (iv y):=hr.loadAt (k:=A.length) (by rw[c0];exact Fk (by simp)) (by omega)
    have e3:=Ay Try.prog 3 ((A.length+1:Nat):Int) 1 ⟨by omega,by omega⟩
    have e3':(((A.length+1:Nat):Int)+1)=((A.length+2:Nat):Int):=by omega
    refine WC.loop' ?_
    generalize hW:WC E none (Ac.loop Jr) Q=WW
    by_cases h:x=y
    · subst h
      have hlen:(A3 (A++x::x::T)).length=n:=by simp;omega
      have s1:=bw (n:=n) (k:=A.length+1) hr (by omega) (by omega)
      simp only[Jr,Uk,Z0,jq,js,AW Try.underlying23,hlt,a1,a0,l1,hs,l0,s1,decide_true,Qa,Qb,Qc,Qd,Qe,Qf,Qg,Qh,Qi,Qj,Qk,Ql,Qm,Qn,true_and,and_true,Qo,Qp,Qq,Qr,Qs,Qt,Qu,Qv,Qw,Qx,Qy,Qz,Ra,Rb,Rc,Rd,Re,Rf,Rg,Rh,Ri,Rj,Rk,Rl,Rm,Ya,Yb,Yc,Rn,Ro,Rp,Yd,Ye,Rq,Rs,Rt,Ru,Rv,Rw,Rx]
      have hc:A++x::x::T=(A++[x])++([]++x::T):=by simp
      rw[hc]at hr
      have hwl:(A++[x]).length=A.length+1:=by simp
      have:=eB hE (n:=n) (k0:=A.length+1) hlo hn (by omega) (Q:=CS 2 (D7 (Qa E none (.seq (.ops TD) (.seq (.ops TE) .ret)) (CS 1 (D7 (Qa E none (.ops OV) (D7 WW Q)) (D7 WW Q)))) (CS 1 (D7 (Qa E none (.ops OV) (D7 WW Q)) (D7 WW Q))))) x1 x5 (.bool true) (.bool true) T (A++[x]) [] x s 1 x8 x9 (by omega) (by rw[hwl];simp) (by rw[hwl];simp;omega) (by omega) hr ?_
      · rw[hwl]at this
        simp only[Qa,Qb,Qc,Qd,Qe,Qf,Qg,Qh,Qi,Qj,Qk,Ql,Qm,Qn,true_and,and_true,Qo,Qp,Qq,Qr,Qs,Qt,Qu,Qv,Qw,Qx,Qy,Qz,Ra,Rb,Rc,Rd,Re,Rf,Rg,Rh,Ri,Rj,Rk,Rl,Rm,Ya,Yb,Yc,Rn,Ro,Rp,Yd,Ye,Rq,Rs,Rt,Ru,Rv,Rw,Rx]at this
        exact this
      · intro s' W' G' y4 y8 y9 f1 f2 f3 f4 f5
        have hlen':(A3 (W'++G')).length=n:=by simp;omega
        have t1:=bw (n:=n) (k:=W'.length) f3 (by omega) (by omega)
        rw[Ta]at f3
        obtain⟨s2,Z,g1,g2,g3,g4,g5⟩:=WY f3 (k:=W'.length) (m:=n - W'.length) (by simp) (by simp;omega)
        have t2:=ma (n:=n) (k:=W'.length) g3 (by simp)
        simp only[TD,TE,t1,g1,t2,if_true,Qa,Qb,Qc,Qd,Qe,Qf,Qg,Qh,Qi,Qj,Qk,Ql,Qm,Qn,true_and,and_true,Qo,Qp,Qq,Qr,Qs,Qt,Qu,Qv,Qw,Qx,Qy,Qz,Ra,Rb,Rc,Rd,Re,Rf,Rg,Rh,Ri,Rj,Rk,Rl,Rm,Ya,Yb,Yc,Rn,Ro,Rp,Yd,Ye,Rq,Rs,Rt,Ru,Rv,Rw,Rx]
        have hd:dd x (x::T)=dd x T:=by simp[dd]
        exact hq _ s2 W' Z _ _ _ _ _ _ _ _ (.inl ⟨rfl,rfl⟩) (by rw[f1,hd];simp) g3 (by omega) fun z hz=>(g5 z hz).trans (f5 z hz)
    · simp only[Jr,Uk,Z0,OV,AW Try.underlying23,hlt,a1,a0,l1,hs,l0,e3,e3',h,decide_false,Qa,Qb,Qc,Qd,Qe,Qf,Qg,Qh,Qi,Qj,Qk,Ql,Qm,Qn,true_and,and_true,Qo,Qp,Qq,Qr,Qs,Qt,Qu,Qv,Qw,Qx,Qy,Qz,Ra,Rb,Rc,Rd,Re,Rf,Rg,Rh,Ri,Rj,Rk,Rl,Rm,Ya,Yb,Yc,Rn,Ro,Rp,Yd,Ye,Rq,Rs,Rt,Ru,Rv,Rw,Rx]
      rw[← hW]
      have hwl:(A++[y]).length=A.length+1:=by simp
      have hc:A++y::x::T=(A++[y])++x::T:=by simp
      rw[hc]at hr
      have:=ih (A++[y]) x s x3 x4 (.bool true) (.bool false) x8 x9 (by rw[hwl];omega) hr ?_
      · rw[hwl]at this
        exact this
      · intro e s' W' G' y1 y2 y3 y4 y6 y7 y8 y9 f1 f2 f3 f4 f5
        exact hq e s' W' G' y1 y2 y3 y4 y6 y7 y8 y9 f1 (by rw[f2];simp[dd,h]) f3 f4 f5
theorem eC      {E : BI}  (hE : Aq   E) {lo : Nat} {s : AE}  {v : AV} {L : List Int} (h : CR     lo s v L) (hL : L.length ≤ 1000) :
    WF E 88 [v] (fun r s'=>AJ s'.next s' r (A3 (EE L))∧(∀j,slot r=some j→lo≤j∨slot v=some j)∧Ao lo s s'∧s'.next=s.next∧E8 r r=true) s:=by
  refine hE.go aP (by decide) rfl ?_
  have fin:∀ {s':AE} {i:Nat} {W:List Int} {G:List AV},BG s' i (A3 W++G)→i<s'.next→AJ s'.next s' (.slice (some (i,0)) W.length none) (A3 W):=by
    intro s' i W G hr hi
    refine⟨some (i,0),none,by simp,fun k u hk=>⟨i,0,rfl,hi,?_⟩⟩
    rw[qq]
    exact hr.load1 (by rw[qv (AZ hk)];exact hk)
  by_cases hlt:L.length<2
  · have hd : decide ((L.length : Int) < 2) = true := decide_eq_true (by omega)
    have hc:EE L=L:=by
      cases L with
      | nil=>rfl
      | cons x r=>cases r with
        | nil=>rfl
        | cons y r=>simp at hlt;omega
    simp only[oP,Po,Pp,Zy,h.len,hd,Qa,Qb,Qc,Qd,Qe,Qf,Qg,Qh,Qi,Qj,Qk,Ql,Qm,Qn,true_and,and_true,Qo,Qp,Qq,Qr,Qs,Qt,Qu,Qv,Qw,Qx,Qy,Qz,Ra,Rb,Rc,Rd,Re,Rf,Rg,Rh,Ri,Rj,Rk,Rl,Rm,Ya,Yb,Yc,Rn,Ro,Rp,Yd,Ye,Rq,Rs,Rt,Ru,Rv,Rw,Rx]
    rw[hc]
    refine⟨?_,fun j hj=>.inr hj,Ao.refl _ _,?_⟩
    rotate_left
    · rcases h with ⟨a, rfl, rfl⟩ | ⟨i, rfl, h1, h2, h3⟩
      · exact Hc fun _=>⟨0,rfl⟩
      · exact Hc fun e=>by cases e
    rcases h with⟨a,rfl,rfl⟩ | ⟨i,rfl,h1,h2,h3⟩
    · exact⟨a,some 0,rfl,fun k u hk=>by simp at hk⟩
    · exact fin (G:=[]) (by simpa using h3) h2
  · have hd:decide ((L.length:Int)<2)=false:=decide_eq_false (by omega)
    rcases h with⟨a,rfl,rfl⟩ | ⟨i,rfl,h1,h2,h3⟩
    · simp at hlt
    cases L with
    | nil=>simp at hlt
    | cons y R =>
      simp only[oP,Po,Pp,Zz,AW Try.underlying23,hd,Qa,Qb,Qc,Qd,Qe,Qf,Qg,Qh,Qi,Qj,Qk,Ql,Qm,Qn,true_and,and_true,Qo,Qp,Qq,Qr,Qs,Qt,Qu,Qv,Qw,Qx,Qy,Qz,Ra,Rb,Rc,Rd,Re,Rf,Rg,Rh,Ri,Rj,Rk,Rl,Rm,Ya,Yb,Yc,Rn,Ro,Rp,Yd,Ye,Rq,Rs,Rt,Ru,Rv,Rw,Rx]
      refine Py hE (n:=(y::R).length) h1 hL (.slice none 0 (some 0)) _ R [] y s _ _ _ _ _ _ (by simp;omega) h3 ?_
      rintro e s' W' G' y1 y2 y3 y4 y6 y7 y8 y9 (⟨rfl,rfl⟩ | ⟨rfl,rfl,hl⟩) f2 f3 f4 f5
      · simp only[Qa,Qb,Qc,Qd,Qe,Qf,Qg,Qh,Qi,Qj,Qk,Ql,Qm,Qn,true_and,and_true,Qo,Qp,Qq,Qr,Qs,Qt,Qu,Qv,Qw,Qx,Qy,Qz,Ra,Rb,Rc,Rd,Re,Rf,Rg,Rh,Ri,Rj,Rk,Rl,Rm,Ya,Yb,Yc,Rn,Ro,Rp,Yd,Ye,Rq,Rs,Rt,Ru,Rv,Rw,Rx]
        rw[show EE (y::R)=W' from f2.symm]
        exact⟨fin f3 (by omega),fun j hj=>.inr hj,⟨by omega,fun z hz=>f5 z (by omega)⟩,f4,Hc fun e=>by cases e⟩
      · simp only[TF,if_true,Qa,Qb,Qc,Qd,Qe,Qf,Qg,Qh,Qi,Qj,Qk,Ql,Qm,Qn,true_and,and_true,Qo,Qp,Qq,Qr,Qs,Qt,Qu,Qv,Qw,Qx,Qy,Qz,Ra,Rb,Rc,Rd,Re,Rf,Rg,Rh,Ri,Rj,Rk,Rl,Rm,Ya,Yb,Yc,Rn,Ro,Rp,Yd,Ye,Rq,Rs,Rt,Ru,Rv,Rw,Rx]
        rw[show EE (y::R)=W' from f2.symm,← hl]
        exact⟨fin f3 (by omega),fun j hj=>.inr hj,⟨by omega,fun z hz=>f5 z (by omega)⟩,f4,Hc fun e=>by cases e⟩
theorem HP{s:AE}{i o:Nat}{u:AV}(h:load1 s i o=some u):∃r,rowAt s i=some r∧o<r.n∧r.c.get o=some u:=by
 unfold load1 at h
 simp only[qh]at h
 obtain⟨r,h1,h2⟩:=h
 cases hb:Nat.blt o r.n with
 | true=>rw[hb]at h2;exact⟨r,h1,by simpa[rJ]using hb,h2⟩
 | false=>rw[hb]at h2;cases h2
theorem BA.loadN{b:Nat}{s:AE}{i o:Nat}{cs:List AV}(h:BA b s (some (i,o)) cs)(hne:cs≠[]):loadN s i o cs.length=some cs:=by
 have hp:∀k u,cs[k]? = some u→load1 s i (o+k)=some u:=by
  intro k u hk
  obtain⟨i',o',e,_,h2⟩:=h k u hk
  injection e with e;injection e with e1 e2;subst e1;subst e2
  exact h2
 have hpos:0<cs.length:=List.length_pos_iff.2 hne
 obtain⟨r,h1,h2,_⟩:=HP (hp (cs.length - 1) cs[cs.length - 1] (qp (by omega)))
 unfold Go.Proofs.Ytilhhmkdcoajnaa.Am.loadN
 rw[h1]
 have hb:Nat.ble (o+cs.length) r.n=true:=A2 (by omega)
 simp only[Option.bind_some,AG,hb,cond_true]
 refine K6 _ _ fun j u hj=>?_
 obtain⟨r',g1,_,g3⟩:=HP (hp j u hj)
 rw[h1]at g1;injection g1 with g1;subst g1
 exact g3
theorem AJ.src{b:Nat}{s:AE}{a:Option (Nat×Nat)}{n:Nat}{cap:Option Nat}{cs:List AV}(h:BA b s a cs)(hn:cs.length=n)(h0:0<n){e:TypeId}:Bg Try.prog s e 1 (.slice a n cap)=some (n,cs):=by
 subst hn
 have hne:cs≠[]:=List.length_pos_iff.1 h0
 cases a with
 | none =>
  obtain⟨i,o,e,_⟩:=h 0 cs[0] (qp h0)
  cases e
 | some io =>
  obtain⟨i,o⟩:=io
  have:=KG (size:=1) (by rw[rC];exact h.loadN hne)
  simp[Bg,this]
theorem Lv{a:Option (Nat×Nat)}{n:Nat}{cap:Option Nat}:AN Try.prog .eql 23 (.slice a n cap) (.slice none 0 (some 0))=some (.bool a.isNone):=by
 have h:Eb Try.prog 23=true:=by simp[Eb,Try.underlying23]
 cases a<;>simp[AN,aa,AG,h]
set_option maxRecDepth 8000 in
theorem G3       {E : BI}  (hE : Aq   E) {b : Nat} {s : AE}  {v : AV} {L : List Int} (hb : b ≤ s.next) (h : AJ      b s v (A3  L)) (hL : L.length ≤ 1000000) :
    WF E 60 [v] (fun r s'=>CR s.next s' r L∧Ao s.next s s') s:=by
  obtain⟨a,cap,rfl,hc⟩:=h
  rw[C7]at *
  refine hE.go lX (by decide) rfl ?_
  cases ha:a with
  | none =>
    subst ha
    have hL0:L=[]:=by
      cases L with
      | nil=>rfl
      | cons x L=>obtain⟨i,o,e,_⟩:=hc 0 (iv x) rfl;cases e
    subst hL0
    simp only[pF,Ue,Uf,iI,Lv,Option.isNone_none,Qa,Qb,Qc,Qd,Qe,Qf,Qg,Qh,Qi,Qj,Qk,Ql,Qm,Qn,true_and,and_true,Qo,Qp,Qq,Qr,Qs,Qt,Qu,Qv,Qw,Qx,Qy,Qz,Ra,Rb,Rc,Rd,Re,Rf,Rg,Rh,Ri,Rj,Rk,Rl,Rm,Ya,Yb,Yc,Rn,Ro,Rp,Yd,Ye,Rq,Rs,Rt,Ru,Rv,Rw,Rx]
    exact⟨.inl ⟨none,rfl,rfl⟩,Ao.refl _ _⟩
  | some io =>
    obtain⟨i,o⟩:=io
    subst ha
    have b0:=PZ (P:=Try.prog) (t:=23) Try.underlying23 Br RZ rfl
    have hmv:∀ (m:Nat) (i:Nat),Made.val i (.slice m)=.slice (some (i,0)) m (some m):=fun _ _=>rfl
    generalize hs1:newObj s (AL 3 1 [])=s1
    have n1:s1.next=s.next+1:=by rw[← hs1];rfl
    have o1:Ao s.next s s1:=by rw[← hs1];exact Ao.new s _
    have hld:loadN s1 s.next 0 (0 * 1)=some []:=by
      obtain⟨r,h1,h2,_⟩:=BN 3 1 []
      exact CY (s:=s1) (i:=s.next) (by rw[← hs1,AK,if_pos rfl,h1]) h2 0 [] (qg _) (fun j u hj=>by simp at hj)
    have hx:BC Try.prog 23=true:=HR 23 3 Try.underlying23
    cases hLc:L with
    | nil =>
      subst hLc
      have hsrc:Bg Try.prog s1 3 1 (.slice (some (i,o)) 0 cap)=some (0,[]):=rfl
      have happ:AY Try.prog s1 [23,23] [.slice (some (s.next,0)) 0 (some 0),.slice (some (i,o)) 0 cap]=some (.slice (some (s.next,0)) 0 (some 0),s1):=by
        rw[BT Try.underlying23 Br W9 (by decide) hx hsrc rfl (by omega) (by omega)]
        rfl
      simp only[pF,Ue,Uf,ZI,Lv,sg,rS,b0,hs1,hmv,happ,Qa,Qb,Qc,Qd,Qe,Qf,Qg,Qh,Qi,Qj,Qk,Ql,Qm,Qn,true_and,and_true,Qo,Qp,Qq,Qr,Qs,Qt,Qu,Qv,Qw,Qx,Qy,Qz,Ra,Rb,Rc,Rd,Re,Rf,Rg,Rh,Ri,Rj,Rk,Rl,Rm,Ya,Yb,Yc,Rn,Ro,Rp,Yd,Ye,Rq,Rs,Rt,Ru,Rv,Rw,Rx]
      exact⟨.inl ⟨_,rfl,rfl⟩,o1⟩
    | cons x T =>
      rw[← hLc]
      have hne:0<L.length:=by rw[hLc];simp
      have hc1:BA b s1 (some (i,o)) (A3 L):=hc.old o1 hb
      have hsrc:=AJ.src (e:=3) (cap:=cap) hc1 (C7 L) hne
      have happ:AY Try.prog s1 [23,23] [.slice (some (s.next,0)) 0 (some 0),.slice (some (i,o)) L.length cap]=some (.slice (some (s1.next,0)) L.length none,newObj s1 (CL 3 1 (Ak.fill .leaf 0 (A3 L)) (A3 L).length none)):=by
        rw[BT Try.underlying23 Br W9 (by decide) hx hsrc (NM L) (by omega) (by omega)]
        simp only[appTo,DB,show Nat.ble (0+L.length) 0=false from E4 (by omega),qq,show Nat.ble L.length 0=false from E4 (by omega),cond_false,hld,Option.bind_some,Bf,AG,IE,cond_true,rL,qq]
      simp only[pF,Ue,Uf,ZI,Lv,sg,b0,hs1,hmv,happ,Qa,Qb,Qc,Qd,Qe,Qf,Qg,Qh,Qi,Qj,Qk,Ql,Qm,Qn,true_and,and_true,Qo,Qp,Qq,Qr,Qs,Qt,Qu,Qv,Qw,Qx,Qy,Qz,Ra,Rb,Rc,Rd,Re,Rf,Rg,Rh,Ri,Rj,Rk,Rl,Rm,Ya,Yb,Yc,Rn,Ro,Rp,Yd,Ye,Rq,Rs,Rt,Ru,Rv,Rw,Rx]
      refine⟨.inr ⟨s1.next,rfl,by omega,rP _,_,by rw[AK,if_pos rfl];rfl,⟨rfl,?_⟩,rfl,rfl,rfl⟩,o1.trans ((Ao.new s1 _).mono (by omega))⟩
      intro k u hk
      have hlt:=AZ hk
      show(Ak.fill .leaf 0 (A3 L)).get k=some u
      rw[Ak.get_fill,if_pos ⟨qm _,by omega⟩]
      simpa using hk
theorem CR.slice{lo:Nat}{s:AE}{v:AV}{L:List Int}(h:CR lo s v L):AJ s.next s v (A3 L):=by
 rcases h with⟨a,rfl,rfl⟩ | ⟨i,rfl,h1,h2,h3⟩
 ·exact⟨a,some 0,rfl,BA.nil⟩
 ·exact⟨some (i,0),none,by simp,fun k u hk=>⟨i,0,rfl,h2,by rw[qq];exact h3.load1 hk⟩⟩
theorem eh{E:BI}(hE:Aq E){s:AE}(x:Int)(hx:i64 x)(hn:DY x=false):WF E 86 [iv x] (fun r s'=>r=.bool false∧s=s') s:=by
  refine hE.go mF (by decide) rfl ?_
  have h0:decide ((B2 x).2=0)=false:=by
    refine decide_eq_false ?_
    unfold DY at hn
    have hn':=of_decide_eq_false hn
    unfold B2
    split
    · simp
    · split
      · simp
      · exact fun _=>hn' (by omega)
  simp only[qb,jn,jo,Qa,Qb,Qc,Qd,Qe,Qf,Qg,Qh,Qi,Qj,Qk,Ql,Qm,Qn,true_and,and_true,Qo,Qp,Qq,Qr,Qs,Qt,Qu,Qv,Qw,Qx,Qy,Qz,Ra,Rb,Rc,Rd,Re,Rf,Rg,Rh,Ri,Rj,Rk,Rl,Rm,Ya,Yb,Yc,Rn,Ro,Rp,Yd,Ye,Rq,Rs,Rt,Ru,Rv,Rw,Rx]
  refine(K5 hE x s hx).mono ?_
  rintro _ _ ⟨rfl,rfl⟩
  simp only[jp,h0,Qa,Qb,Qc,Qd,Qe,Qf,Qg,Qh,Qi,Qj,Qk,Ql,Qm,Qn,true_and,and_true,Qo,Qp,Qq,Qr,Qs,Qt,Qu,Qv,Qw,Qx,Qy,Qz,Ra,Rb,Rc,Rd,Re,Rf,Rg,Rh,Ri,Rj,Rk,Rl,Rm,Ya,Yb,Yc,Rn,Ro,Rp,Yd,Ye,Rq,Rs,Rt,Ru,Rv,Rw,Rx]
set_option maxRecDepth 8000 in
theorem TY{E:BI}(hE:Aq E){s:AE}{b:Nat}{L:List Int}(hL:DF L)(hnn:∀x∈L,DY x=false)(hlen:L.length<9223372036854775808){a:Option (Nat×Nat)}{cap:Option Nat}(hc:BA b s a (A3 L)){Q:A9→Prop}(x2:AV):
    ∀ (l : List Int) (k : Nat) (x3 x6 x7 : AV), L.drop k = l → k ≤ L.length →
      (∀ (y3 y5 y6 y7:AV),Q ⟨.exit 0,[.slice a L.length cap,.func 86 [] [],x2,y3,iv (L.length:Int),y5,y6,y7],[],s⟩) →
      WC E none (.loop Is) Q [.slice a L.length cap,.func 86 [] [],x2,x3,iv (L.length:Int),iv (k:Int),x6,x7] [] s:=by
  intro l
  induction l with
  | nil =>
    intro k x3 x6 x7 hd hk hq
    have:=Cw hd hk
    subst this
    refine WC.loop' ?_
    simp only[Is,Pq,rG,decide_false,Qa,Qb,Qc,Qd,Qe,Qf,Qg,Qh,Qi,Qj,Qk,Ql,Qm,Qn,true_and,and_true,Qo,Qp,Qq,Qr,Qs,Qt,Qu,Qv,Qw,Qx,Qy,Qz,Ra,Rb,Rc,Rd,Re,Rf,Rg,Rh,Ri,Rj,Rk,Rl,Rm,Ya,Yb,Yc,Rn,Ro,Rp,Yd,Ye,Rq,Rs,Rt,Ru,Rv,Rw,Rx]
    exact hq _ _ _ _
  | cons x l ih =>
    intro k x3 x6 x7 hd hk hq
    obtain⟨hlt,hx,hd'⟩:=B0 hd
    obtain⟨i,o,rfl,hi,hload⟩:=hc k _ (A6 hx)
    have hxm:x∈L:=qj hx
    have e1:=At (cap:=cap) (i:=i) (o:=o) Try.underlying23 Br hlt
    have e2:AC Try.prog s 3 (.ptr (some (i,o+k * 1)))=some (iv x):=A0 Do (by rw[rC];exact hload)
    have hkk:decide ((k:Int)<(L.length:Int))=true:=decide_eq_true (by omega)
    have e3:=Ay Try.prog 3 (k:Int) 1 ⟨by omega,by omega⟩
    have e3':((k:Int)+1)=((k+1:Nat):Int):=by omega
    refine WC.loop' ?_
    generalize hW:WC E none (Ac.loop Is) Q=WW
    simp only[Is,Pq,aE,aF,hkk,e1,e2,rL,rl,Qa,Qb,Qc,Qd,Qe,Qf,Qg,Qh,Qi,Qj,Qk,Ql,Qm,Qn,true_and,and_true,Qo,Qp,Qq,Qr,Qs,Qt,Qu,Qv,Qw,Qx,Qy,Qz,Ra,Rb,Rc,Rd,Re,Rf,Rg,Rh,Ri,Rj,Rk,Rl,Rm,Ya,Yb,Yc,Rn,Ro,Rp,Yd,Ye,Rq,Rs,Rt,Ru,Rv,Rw,Rx]
    refine(eh hE x (hL x hxm) (hnn x hxm)).mono ?_
    rintro _ _ ⟨rfl,rfl⟩
    simp only[aG,e3,e3',Qa,Qb,Qc,Qd,Qe,Qf,Qg,Qh,Qi,Qj,Qk,Ql,Qm,Qn,true_and,and_true,Qo,Qp,Qq,Qr,Qs,Qt,Qu,Qv,Qw,Qx,Qy,Qz,Ra,Rb,Rc,Rd,Re,Rf,Rg,Rh,Ri,Rj,Rk,Rl,Rm,Ya,Yb,Yc,Rn,Ro,Rp,Yd,Ye,Rq,Rs,Rt,Ru,Rv,Rw,Rx]
    rw[← hW]
    exact ih (k+1) _ _ _ hd' hlt hq
theorem ar{E:BI}(hE:Aq E){s:AE}{b:Nat}{L:List Int}(hL:DF L)(hnn:∀x∈L,DY x=false)(hlen:L.length<9223372036854775808){v:AV}(hv:AJ b s v (A3 L)):
  WF E 94 [v,.func 86 [] []] (fun r s'=>r=iv (-1)∧s=s') s:=by
 obtain⟨a,cap,rfl,hc⟩:=hv
 rw[C7]
 refine hE.go aQ (by decide) rfl ?_
 simp only[pf,aC,aD,AW Try.underlying23,Qa,Qb,Qc,Qd,Qe,Qf,Qg,Qh,Qi,Qj,Qk,Ql,Qm,Qn,true_and,and_true,Qo,Qp,Qq,Qr,Qs,Qt,Qu,Qv,Qw,Qx,Qy,Qz,Ra,Rb,Rc,Rd,Re,Rf,Rg,Rh,Ri,Rj,Rk,Rl,Rm,Ya,Yb,Yc,Rn,Ro,Rp,Yd,Ye,Rq,Rs,Rt,Ru,Rv,Rw,Rx]
 refine TY hE hL hnn hlen hc _ L 0 _ _ _ rfl (qm _) ?_
 intro y3 y5 y6 y7
 simp only[aH,if_true,Qa,Qb,Qc,Qd,Qe,Qf,Qg,Qh,Qi,Qj,Qk,Ql,Qm,Qn,true_and,and_true,Qo,Qp,Qq,Qr,Qs,Qt,Qu,Qv,Qw,Qx,Qy,Qz,Ra,Rb,Rc,Rd,Re,Rf,Rg,Rh,Ri,Rj,Rk,Rl,Rm,Ya,Yb,Yc,Rn,Ro,Rp,Yd,Ye,Rq,Rs,Rt,Ru,Rv,Rw,Rx]
theorem Va{E:BI}(hE:Aq E){s:AE}{b:Nat}{L:List Int}(hL:DF L)(hnn:∀x∈L,DY x=false)(hlen:L.length<9223372036854775808){v:AV}(hv:AJ b s v (A3 L)):
  WF E 85 [v,.func 86 [] []] (fun r s'=>r=v∧s=s') s:=by
 refine hE.go mE (by decide) rfl ?_
 simp only[qZ,jj,jk,Qa,Qb,Qc,Qd,Qe,Qf,Qg,Qh,Qi,Qj,Qk,Ql,Qm,Qn,true_and,and_true,Qo,Qp,Qq,Qr,Qs,Qt,Qu,Qv,Qw,Qx,Qy,Qz,Ra,Rb,Rc,Rd,Re,Rf,Rg,Rh,Ri,Rj,Rk,Rl,Rm,Ya,Yb,Yc,Rn,Ro,Rp,Yd,Ye,Rq,Rs,Rt,Ru,Rv,Rw,Rx]
 refine(ar hE hL hnn hlen hv).mono ?_
 rintro _ _ ⟨rfl,rfl⟩
 simp only[jl,jm,decide_true,Qa,Qb,Qc,Qd,Qe,Qf,Qg,Qh,Qi,Qj,Qk,Ql,Qm,Qn,true_and,and_true,Qo,Qp,Qq,Qr,Qs,Qt,Qu,Qv,Qw,Qx,Qy,Qz,Ra,Rb,Rc,Rd,Re,Rf,Rg,Rh,Ri,Rj,Rk,Rl,Rm,Ya,Yb,Yc,Rn,Ro,Rp,Yd,Ye,Rq,Rs,Rt,Ru,Rv,Rw,Rx]
theorem Ho(L:List Int):(Cl L).length=L.length:=by
 have:∀ (R q:List Int),(R.foldl (fun q x=>E6 x q) q).length=q.length+R.length:=by
  intro R
  induction R with
  | nil=>intro q;rfl
  | cons y R ih=>intro q;simp only[rT,ih,G5,qx];omega
 unfold Cl
 rw[sW,this];simp
theorem Ll{E:BI}(hE:Aq E){s:AE}{b:Nat}{L:List Int}(hL:DF L)(hnn:∀x∈L,DY x=false)(hlen:L.length≤12)(hb:b≤s.next){v:AV}(hv:AJ b s v (A3 L)):
  WF E 56 [v] (fun r s'=>AJ s'.next s' r (A3 (EE (Cl L)))∧Ao s.next s s'∧E8 r r=true) s:=by
 refine hE.go lW (by decide) rfl ?_
 simp only[qK,iE,iF,Qa,Qb,Qc,Qd,Qe,Qf,Qg,Qh,Qi,Qj,Qk,Ql,Qm,Qn,true_and,and_true,Qo,Qp,Qq,Qr,Qs,Qt,Qu,Qv,Qw,Qx,Qy,Qz,Ra,Rb,Rc,Rd,Re,Rf,Rg,Rh,Ri,Rj,Rk,Rl,Rm,Ya,Yb,Yc,Rn,Ro,Rp,Yd,Ye,Rq,Rs,Rt,Ru,Rv,Rw,Rx]
 refine(G3 hE hb hv (by omega)).mono ?_
 rintro v1 s1 ⟨h1,h2⟩
 simp only[Qa,Qb,Qc,Qd,Qe,Qf,Qg,Qh,Qi,Qj,Qk,Ql,Qm,Qn,true_and,and_true,Qo,Qp,Qq,Qr,Qs,Qt,Qu,Qv,Qw,Qx,Qy,Qz,Ra,Rb,Rc,Rd,Re,Rf,Rg,Rh,Ri,Rj,Rk,Rl,Rm,Ya,Yb,Yc,Rn,Ro,Rp,Yd,Ye,Rq,Rs,Rt,Ru,Rv,Rw,Rx]
 refine(Va hE hL hnn (by omega) h1.slice).mono ?_
 rintro _ _ ⟨rfl,rfl⟩
 simp only[iG,Qa,Qb,Qc,Qd,Qe,Qf,Qg,Qh,Qi,Qj,Qk,Ql,Qm,Qn,true_and,and_true,Qo,Qp,Qq,Qr,Qs,Qt,Qu,Qv,Qw,Qx,Qy,Qz,Ra,Rb,Rc,Rd,Re,Rf,Rg,Rh,Ri,Rj,Rk,Rl,Rm,Ya,Yb,Yc,Rn,Ro,Rp,Yd,Ye,Rq,Rs,Rt,Ru,Rv,Rw,Rx]
 refine(fI hE h1 hlen).mono ?_
 rintro r2 s2 ⟨h3,h4,h5⟩
 simp only[iH,Qa,Qb,Qc,Qd,Qe,Qf,Qg,Qh,Qi,Qj,Qk,Ql,Qm,Qn,true_and,and_true,Qo,Qp,Qq,Qr,Qs,Qt,Qu,Qv,Qw,Qx,Qy,Qz,Ra,Rb,Rc,Rd,Re,Rf,Rg,Rh,Ri,Rj,Rk,Rl,Rm,Ya,Yb,Yc,Rn,Ro,Rp,Yd,Ye,Rq,Rs,Rt,Ru,Rv,Rw,Rx]
 refine(eC hE h3 ?_).mono ?_
 ·rw[Ho];omega
 rintro v3 s3 ⟨h6,h7,h8,h9,h10⟩
 simp only[Qa,Qb,Qc,Qd,Qe,Qf,Qg,Qh,Qi,Qj,Qk,Ql,Qm,Qn,true_and,and_true,Qo,Qp,Qq,Qr,Qs,Qt,Qu,Qv,Qw,Qx,Qy,Qz,Ra,Rb,Rc,Rd,Re,Rf,Rg,Rh,Ri,Rj,Rk,Rl,Rm,Ya,Yb,Yc,Rn,Ro,Rp,Yd,Ye,Rq,Rs,Rt,Ru,Rv,Rw,Rx]
 exact⟨h6,h2.trans (h4.trans h8),h10⟩
abbrev PQ(l:List Int):Prop:=l.Pairwise (·<·)
def eM(x:Int):List Int→List Int
 | []=>[x]
 | y::l=>if y<x then y::eM x l else if y=x then y::l else x::y::l
theorem MC(x:Int):∀L,Vr x L=eM x L
 | []=>rfl
 | y::l=>by
  have ih:=MC x l
  unfold Vr at ih ⊢
  unfold eM kR
  by_cases h:y<x
  ·rw[if_pos h,if_pos h,List.getElem?_cons_succ,← ih]
   split
   ·rfl
   ·rfl
  ·rw[if_neg h,if_neg h]
   by_cases h2:y=x
   ·subst h2;simp
   ·rw[if_neg (by simpa using h2),if_neg h2];rfl
theorem Og      (x z : Int) : ∀ L, z ∈ eM  x L ↔ z = x ∨ z ∈ L
  | []=>by simp[eM]
  | y::l=>by
    have ih:=Og x z l
    unfold eM
    split
    · simp only[rI,ih]
      constructor
      · rintro (h | h | h)
        · exact .inr (.inl h)
        · exact .inl h
        · exact .inr (.inr h)
      · rintro (h | h | h)
        · exact .inr (.inl h)
        · exact .inl h
        · exact .inr (.inr h)
    · split
      · rename_i h2;subst h2;simp only[rI]
        constructor
        · intro h;exact .inr h
        · rintro (h | h)
          · exact .inl h
          · exact h
      · simp only[rI]
theorem QG       {x : Int} : ∀ {L}, PQ   L → PQ   (eM  x L)
  | [],_=>by simp[eM]
  | y::l,h=>by
    obtain⟨h1,h2⟩:=sj.1 h
    unfold eM
    split
    · rename_i hlt
      refine sj.2 ⟨fun z hz=>?_,QG h2⟩
      rcases(Og x z l).1 hz with rfl | hz
      · exact hlt
      · exact h1 z hz
    · split
      · exact h
      · rename_i hn1 hn2
        refine sj.2 ⟨fun z hz=>?_,h⟩
        rcases rI.1 hz with rfl | hz
        · omega
        · have:=h1 z hz;omega
theorem EY:∀ (l:List Int){out:List Int},PQ out→PQ (Ah out l)
 | [],_,h=>h
 | x::l,out,h=>by
  unfold Ah
  split
  ·exact EY l h
  ·rw[MC];exact EY l (QG h)
theorem Fj          : ∀ (l : List Int) {out : List Int} (z : Int), z ∈ Ah     out l ↔ z ∈ out ∨ (z ∈ l ∧ DY    z = false)
  | [],out,z=>by simp[Ah]
  | x::l,out,z=>by
    unfold Ah
    cases hx:DY x with
    | true =>
      rw[if_pos rfl,Fj l]
      constructor
      · rintro (h | ⟨h, k⟩)
        · exact .inl h
        · exact .inr ⟨qo _ h,k⟩
      · rintro (h | ⟨h, k⟩)
        · exact .inl h
        · rcases rI.1            h with rfl | h
          · rw[hx]at k;cases k
          · exact .inr ⟨h,k⟩
    | false =>
      rw[if_neg (by simp),Fj l,MC,Og]
      constructor
      · rintro ((rfl | h) | ⟨h, k⟩)
        · exact .inr ⟨ql,hx⟩
        · exact .inl h
        · exact .inr ⟨qo _ h,k⟩
      · rintro (h | ⟨h, k⟩)
        · exact .inl (.inr h)
        · rcases rI.1            h with rfl | h
          · exact .inl (.inl rfl)
          · exact .inr ⟨h,k⟩
theorem VB      : ∀ {A B : List Int}, PQ   A → PQ   B → (∀ z, z ∈ A ↔ z ∈ B) → A = B
  | [],[],_,_,_=>rfl
  | [],b::B,_,_,h=>by have:=(h b).2 ql;simp at this
  | a::A,[],_,_,h=>by have:=(h a).1 ql;simp at this
  | a::A,b::B,hA,hB,h=>by
    obtain⟨a1,a2⟩:=sj.1 hA
    obtain⟨b1,b2⟩:=sj.1 hB
    have e:a=b:=by
      rcases rI.1 ((h a).1 ql)with e | e
      · exact e
      · rcases rI.1            ((h b).2 ql)                 with e' | e'
        · exact e'.symm
        · have:=b1 a e;have:=a1 b e';omega
    subst e
    rw[VB a2 b2 fun z=>?_]
    constructor
    · intro hz
      rcases rI.1 ((h z).1 (qo _ hz))with e | e
      · subst e;have:=a1 z hz;omega
      · exact e
    · intro hz
      rcases rI.1 ((h z).2 (qo _ hz))with e | e
      · subst e;have:=b1 z hz;omega
      · exact e
abbrev cc(l:List Int):Prop:=l.Pairwise (fun a b=>b≤a)
theorem Lq       (x z : Int) : ∀ q, z ∈ E6   x q ↔ z = x ∨ z ∈ q
  | []=>by simp[E6]
  | y::q=>by
    have ih:=Lq x z q
    unfold E6
    split
    · simp only[rI,ih]
      constructor
      · rintro (h | h | h)
        · exact .inr (.inl h)
        · exact .inl h
        · exact .inr (.inr h)
      · rintro (h | h | h)
        · exact .inr (.inl h)
        · exact .inl h
        · exact .inr (.inr h)
    · simp only[rI]
theorem NR{x:Int}:∀ {q},cc q→cc (E6 x q)
  | [],_=>by simp[E6]
  | y::q,h=>by
    obtain⟨h1,h2⟩:=sj.1 h
    unfold E6
    split
    · rename_i hlt
      refine sj.2 ⟨fun z hz=>?_,NR h2⟩
      rcases(Lq x z q).1 hz with rfl | hz
      · omega
      · exact h1 z hz
    · rename_i hn
      refine sj.2 ⟨fun z hz=>?_,h⟩
      rcases rI.1 hz with rfl | hz
      · omega
      · have:=h1 z hz;omega
theorem I6:∀ (R:List Int){q:List Int},cc q→cc (R.foldl (fun q x=>E6 x q) q)∧∀z,z∈R.foldl (fun q x=>E6 x q) q↔z∈q∨z∈R
  | [],q,h=>⟨h,fun z=>by simp⟩
  | x::R,q,h=>by
    obtain⟨h1,h2⟩:=I6 R (NR (x:=x) h)
    refine⟨h1,fun z=>?_⟩
    rw[rT,h2,Lq,rI]
    constructor
    · rintro ((h | h) | h)
      · exact .inr (.inl h)
      · exact .inl h
      · exact .inr (.inr h)
    · rintro (h | h | h)
      · exact .inl (.inr h)
      · exact .inl (.inl h)
      · exact .inr h
theorem Kt      : ∀ (l : List Int) (p : Int), (p :: l).Pairwise (· ≤ ·) → PQ   (p :: dd p l) ∧ ∀ z, z ∈ p :: dd p l ↔ z ∈ p :: l
  | [],p,_=>⟨by simp[dd],fun z=>by simp[dd]⟩
  | x::l,p,h=>by
    obtain⟨h1,h2⟩:=sj.1 h
    unfold dd
    split
    · rename_i e
      subst e
      obtain⟨k1,k2⟩:=Kt l x h2
      refine⟨k1,fun z=>?_⟩
      rw[k2,rI,rI,rI]
      constructor
      · rintro (h | h)
        · exact .inl h
        · exact .inr (.inr h)
      · rintro (h | h | h)
        · exact .inl h
        · exact .inl h
        · exact .inr h
    · rename_i hne
      obtain⟨k1,k2⟩:=Kt l x h2
      refine⟨sj.2 ⟨fun z hz=>?_,k1⟩,fun z=>?_⟩
      · have hpx:=h1 x ql
        rcases rI.1 ((k2 z).1 hz)with rfl | hz'
        · omega
        · have:=(sj.1 h2).1 z hz';omega
      · rw[rI,k2,rI (l:=x::l)]
theorem Lk{L:List Int}(hnn:∀x∈L,DY x=false):EE (Cl L)=Ah [] L:=by
  obtain⟨h1,h2⟩:=I6 L (q:=[]) .nil
  have hs:(Cl L).Pairwise (·≤·):=by
    unfold Cl
    rw[List.pairwise_reverse]
    exact h1
  have hm:∀z,z∈Cl L↔z∈L:=by
    intro z;unfold Cl;rw[sX,h2];simp
  have hc:PQ (EE (Cl L))∧∀z,z∈EE (Cl L)↔z∈Cl L:=by
    cases hl:Cl L with
    | nil=>exact⟨by simp[EE],fun z=>by simp[EE]⟩
    | cons p l=>rw[hl]at hs;exact Kt l p hs
  refine VB hc.1 (EY L .nil) fun z=>?_
  rw[hc.2,hm,Fj]
  constructor
  · intro h;exact .inr ⟨h,hnn z h⟩
  · rintro (h | h)
    · cases h
    · exact h.1
def F4(Q:A9→Prop)(var:List AV)(marks:List Nat)(s:AE)(pd:Option Code):Prop:=match pd with
 | none=>Q ⟨.normal,var,marks,s⟩
 | some .ret=>Q ⟨.ret,var,marks,s⟩
 | some (.exit id)=>Q ⟨.exit id,var,marks,s⟩
 | some _=>False
theorem bf{Q:A9→Prop}{var:List AV}{marks:List Nat}{s:AE}{pd:Option Code}(h:F4 Q var marks s pd):∃r,Gx var marks s pd=some r∧Q r:=by
 unfold F4 at h
 unfold Gx
 split at h
 ·exact⟨_,rfl,h⟩
 ·exact⟨_,rfl,h⟩
 ·exact⟨_,rfl,h⟩
 ·exact h.elim
def Hi(fn:FuncId)(var:List AV)(ps:Array Tmp)(a b:Code)(dfr:Nat):Fg:={ state:=.ready,pending:=none,fn,var,params:=ps,assign:=a,body:=b,dfr }
theorem WC.range{E:BI}{Q:A9→Prop}{var:List AV}{marks:List Nat}{s:AE}{fn:FuncId}{f:CX}{ps:Array Tmp}{a b:Code}{g:FuncId}{first cap:List AV}(hf:Dw [] var f=.func g first cap)
  (h:WF E g (first++([.yield (s.next+1)]++cap)) (fun _ s'=>∃r,A7 s' (s.next+1)=some r∧MD r.state=false∧F4 Q var (s.next::marks) (setObj s' (s.next+1) (.loop { r with state:=.exhausted })) r.pending)
   (newObj (newObj s .mark) (.loop (Hi fn var ps a b s.next)))):WC E none (.rangeFunc fn f ps a b) Q var marks s:=by
 obtain⟨n,p,h1,r,h2,h3,h4⟩:=h
 obtain⟨res,h5,h6⟩:=bf h4
 refine⟨n+1,res,?_,h6⟩
 show DQ (ER E n) none (.rangeFunc fn f ps a b) var marks s=some res
 simp only[DQ,Lh,Fi,HZ,hf,G0]
 have e:(newObj s .mark).next=s.next+1:=rfl
 rw[e]
 have h1':=h1
 unfold Hi at h1'
 rw[h1']
 simp only[Option.bind_some,h2,h3,cond_false,h5]
theorem WR.round{E:BI}{K:AV→AE→Prop}{l:Nat}{xs:List AV}{s:AE}{r:Fg}{var:List AV}{ca cb:Ac}(h1:A7 s l=some r)(h2:DN (Dl E.P r.fn) r.var r.params.toList xs=some var)
  (h3:FQ E.P r.fn r.assign=some ca) (h4:FQ E.P r.fn r.body=some cb)
  (h:WC E (some l) ca (fun q=>q.exit=.normal∧∃r',A7 q.st l=some r'∧Kx r'.state=true ∧
   WC E (some l) cb (fun q2=>∃r'',A7 q2.st l=some r''∧K (.bool (DV q2.exit).isNone) (setObj q2.st l (.loop { r'' with state:=Hp (DV q2.exit),pending:=DV q2.exit }))) q.var q.marks (setObj q.st l (.loop { r' with state:=.busy }))) var [] s):WR E l xs K s:=by
 obtain⟨n,q,g1,g2,r',g3,g4,m,q2,g5,r'',g6,g7⟩:=h
 refine⟨max n m+1,(_,_),?_,g7⟩
 show Kb E (ER E (max n m)) l xs s=_
 simp only[Kb,h1,Option.bind_some,h2,h3,h4,Hn,(FB E (Nat.le_max_left n m)).code g1,g2,JC,cond_true,g3,g4,JS,(FB E (Nat.le_max_right n m)).code g5,g6]
 rfl
def Dq:Code→Option (Code×Code)
 | .seq x y=>match Dq x with
  | some p=>some p
  | none=>Dq y
 | .cond _ x y=>match Dq x with
  | some p=>some p
  | none=>Dq y
 | .block _ c=>Dq c
 | .loop c=>Dq c
 | .scope c=>Dq c
 | .rangeFunc _ _ a b=>some (a,b)
 | _=>none
def Hm (f:FuncId):Code×Code:=(((Try.prog.funcs[f]?).bind fun fn=>fn.body.bind Dq)).getD (.skip,.skip)
def ja:List AA:=[
 ⟨none,.mk (fun l=>match l with | [v]=>Ce 22 v | _=>none),[.var 0],(.set 2),[]⟩,
 ⟨none,.mk (fun l=>match l with | []=>BF Try.prog 22 | _=>none),[],(.set 3),[]⟩]
def jb:List AA:=[
 ⟨none,.call 56,[.var 1],.push,[]⟩,
 ⟨none,.mk (fun l=>match l with | []=>BF Try.prog 23 | _=>none),[],(.set 4),[]⟩,
 ⟨none,.e (fun s=>BW (fun a x=>AS (AP Try.prog s 23 a x))),[.var 4,.loc 0],.push,[]⟩]
def jc:List AA:=[
 ⟨none,.r1 (fun s a=>AC Try.prog s 22 a),[.var 2],.push,[]⟩,
 ⟨none,.call 104,[.loc 0],(.set 7),[]⟩]
def jd:List AA:=[
 ⟨none,.p1 some,[.var 8],(.set 5),[]⟩]
def je:List AA:=[
 ⟨none,.p1 some,[.var 9],(.set 6),[]⟩]
def jf:List AA:=[
 ⟨none,.r1 (fun s a=>AC Try.prog s 23 a),[.var 4],.push,[]⟩,
 ⟨none,.call 56,[.var 6],.push,[⟨none,.r1 (fun s a=>AC Try.prog s 23 a),[.var 4],(.loc 1)⟩]⟩,
 ⟨none,.call 105,[.loc 0,.loc 1],(.set 10),[]⟩]
def jg:List AA:=[
 ⟨none,.r1 (fun s a=>AC Try.prog s 22 a),[.var 2],.push,[]⟩,
 ⟨none,.call 107,[.loc 0],.push,[]⟩,
 ⟨none,.p2 (AN Try.prog .add 3),[(.var 5),(.const (.int .i64 (1)))],.push,[]⟩,
 ⟨none,.call 106,[.loc 1,.var 5,.loc 0],.push,[]⟩,
 ⟨none,.e (fun s=>BW (fun a x=>AS (AP Try.prog s 22 a x))),[.var 3,.loc 0],.push,[]⟩]
def oH:Ac:=(.seq (.ops jd) (.ops je))
def oI:Ac:=(.block 1 (.seq (.ops jf) (.cond (.var 10)
 (.seq (.ops jg) .ret)
 .skip)))
def pO:Code:=(Hm 83).1
def pS:Code:=(Hm 83).2
def jh:List AA:=[
 ⟨none,.r1 (fun s a=>AC Try.prog s 22 a),[.var 2],.push,[]⟩,
 ⟨none,.e (fun s=>BW (fun a x=>AS (AP Try.prog s 22 a x))),[.var 3,.loc 0],.push,[]⟩]
def qY:Aw:=⟨2,11,(.seq (.ops ja) (.seq (.ops jb) (.seq (.seq (.ops jc) (.block 0 (.rangeFunc 83 (.var 7) #[12,13] pO pS))) (.seq (.ops jh) .ret)))),[((.var 3),some 22)]⟩
theorem mC:AQ Try.prog 83=some qY:=by kernel_rfl
theorem mj:Dl Try.prog 83=[0,1,2,4,5,6,7,11,12,13,17]:=by kernel_rfl
theorem pj:FQ Try.prog 83 pO=some oH:=by kernel_rfl
theorem pl:FQ Try.prog 83 pS=some oI:=by kernel_rfl
def fz:List AA:=[
 ⟨none,.mk (fun l=>match l with | [v]=>Ce 22 v | _=>none),[.var 0],(.set 2),[]⟩,
 ⟨none,.mk (fun l=>match l with | [v]=>Ce 33 v | _=>none),[.var 1],(.set 3),[]⟩,
 ⟨none,.mk (fun l=>match l with | []=>BF Try.prog 3 | _=>none),[],(.set 4),[]⟩,
 ⟨none,.mk (fun l=>match l with | []=>BF Try.prog 4 | _=>none),[],(.set 5),[]⟩]
def f9:List AA:=[
 ⟨none,.r1 (fun s a=>AC Try.prog s 33 a),[.var 3],.push,[]⟩,
 ⟨none,.call 54,[.loc 0],(.set 8),[]⟩]
def Yh:List AA:=[
 ⟨none,.p1 some,[.var 9],(.set 6),[]⟩]
def Yi:List AA:=[
 ⟨none,.p1 some,[.var 10],(.set 7),[]⟩]
def Ub:List AA:=[
 ⟨none,.r1 (fun s a=>AC Try.prog s 33 a),[.var 3],.push,[]⟩,
 ⟨none,.r (fun s l=>match l with | [x]=>As Try.prog s 33 x | _=>none),[.loc 0],.push,[]⟩,
 ⟨none,.p2 (AN Try.prog .eql 3),[.var 6,.loc 0],.push,[]⟩,
 ⟨(some ((.loc 0),false)),.r1 (fun s a=>AC Try.prog s 33 a),[.var 3],.push,[]⟩,
 ⟨(some ((.loc 1),false)),.p1 some,[.var 6],.push,[]⟩,
 ⟨(some ((.loc 2),false)),.p2 (AD Try.prog 33),[.loc 1,.loc 0],.push,[]⟩,
 ⟨(some ((.loc 3),false)),.p1 (fun x=>AB Try.prog 27 x 0),[.loc 0],.push,[]⟩,
 ⟨(some ((.loc 4),false)),.r1 (fun s a=>AC Try.prog s 4 a),[.loc 0],.push,[]⟩,
 ⟨none,.p Rn,[(.loc 5),(.const (.bool true)),(.loc 0)],(.set 11),[]⟩]
def gA:List AA:=[
 ⟨none,.r1 (fun s a=>AC Try.prog s 22 a),[.var 2],.push,[]⟩,
 ⟨none,.mk (fun l=>(Ab Try.prog 110 2 (zipIdx [0,1] l)).bind fun r=>some (r,.slice 2)),[.loc 0,.var 7],.push,[]⟩,
 ⟨none,.r1 (fun s a=>AC Try.prog s 33 a),[.var 3],.push,[]⟩,
 ⟨none,.p2 (AD Try.prog 33),[.loc 0,.var 6],.push,[]⟩,
 ⟨none,.p1 (fun x=>AB Try.prog 27 x 1),[.loc 0],.push,[]⟩,
 ⟨none,.r1 (fun s a=>AC Try.prog s 23 a),[.loc 0],.push,[]⟩,
 ⟨none,.call 55,[.loc 4],.push,[⟨none,.r1 (fun s a=>AC Try.prog s 23 a),[.loc 2],(.loc 1)⟩,⟨none,.r1 (fun s a=>AC Try.prog s 33 a),[.var 3],(.loc 4)⟩]⟩,
 ⟨none,.call 17,[.loc 0,.loc 1],.push,[]⟩,
 ⟨none,.p1 (Hv Try.prog Go.UnOp.not),[.loc 0],(.set 12),[]⟩]
def gB:List AA:=[
 ⟨none,.e (fun s=>BW (fun a x=>AS (AP Try.prog s 3 a x))),[.var 4,.var 6],.push,[]⟩,
 ⟨none,.e (fun s=>BW (fun a x=>AS (AP Try.prog s 4 a x))),[(.var 5),(.const (.bool false))],.push,[]⟩]
def gC:List AA:=[
 ⟨none,.r1 (fun s a=>AC Try.prog s 33 a),[.var 3],.push,[]⟩,
 ⟨none,.p2 (AD Try.prog 33),[.loc 0,.var 6],.push,[]⟩,
 ⟨none,.p1 (fun x=>AB Try.prog 27 x 1),[.loc 0],.push,[]⟩,
 ⟨none,.r1 (fun s a=>AC Try.prog s 23 a),[.loc 0],.push,[]⟩,
 ⟨none,.call 56,[.loc 0],.push,[]⟩,
 ⟨none,.r (fun s l=>match l with | [x]=>As Try.prog s 23 x | _=>none),[.loc 0],.push,[]⟩,
 ⟨none,.p2 (AN Try.prog .eql 3),[(.loc 0),(.const (.int .i64 (0)))],(.set 13),[]⟩]
def gD:List AA:=[
 ⟨none,.e (fun s=>BW (fun a x=>AS (AP Try.prog s 3 a x))),[.var 4,.var 6],.push,[]⟩,
 ⟨none,.e (fun s=>BW (fun a x=>AS (AP Try.prog s 4 a x))),[(.var 5),(.const (.bool true))],.push,[]⟩]
def kv:Ac:=(.seq (.ops Yh) (.ops Yi))
def de:Ac:=(.block 1 (.seq (.seq (.ops Ub) (.cond (.var 11)
 (.exit 1)
 .skip)) (.seq (.seq (.ops gA) (.cond (.var 12)
 (.seq (.ops gB) .ret)
 .skip)) (.seq (.ops gC) (.cond (.var 13)
 (.seq (.ops gD) .ret)
 .skip)))))
def pM:Code:=(Hm 24).1
def pQ:Code:=(Hm 24).2
def Yg:List AA:=[
 ⟨none,.r1 (fun s a=>AC Try.prog s 33 a),[.var 3],.push,[]⟩,
 ⟨none,.r (fun s l=>match l with | [x]=>As Try.prog s 33 x | _=>none),[.loc 0],.push,[]⟩,
 ⟨none,.e (fun s=>BW (fun a x=>AS (AP Try.prog s 3 a x))),[.var 4,.loc 0],.push,[]⟩,
 ⟨none,.e (fun s=>BW (fun a x=>AS (AP Try.prog s 4 a x))),[(.var 5),(.const (.bool false))],.push,[]⟩]
def p9:Aw:=⟨2,14,(.seq (.ops fz) (.seq (.seq (.ops f9) (.block 0 (.rangeFunc 24 (.var 8) #[10,11] pM pQ))) (.seq (.ops Yg) .ret))),[((.var 4),some 3),((.var 5),some 4)]⟩
theorem lI:AQ Try.prog 24=some p9:=by kernel_rfl
theorem cT:Dl Try.prog 24=[0,1,2,3,4,5,6,7,9,10,11,22,33,42]:=by kernel_rfl
theorem oQ:FQ Try.prog 24 pM=some kv:=by kernel_rfl
theorem oR:FQ Try.prog 24 pQ=some de:=by kernel_rfl
def Ap(s:AE)(j:Nat)(c:AV):Prop:=∃r,s.heap.get j=some (.row r)∧Hw r [c]∧r.mode=.own∧r.par=none
theorem Ap.keep{s s':AE}{j:Nat}{c:AV}(h:Ap s j c)(k:s'.heap.get j=s.heap.get j):Ap s' j c:=by
 obtain⟨r,h1,h2⟩:=h
 exact⟨r,k.trans h1,h2⟩
theorem Ap.load{s:AE}{j:Nat}{c:AV}(h:Ap s j c){t:TypeId}(ht:E1 Try.prog t=some false):AC Try.prog s t (.ptr (some (j,0)))=some c:=by
 obtain⟨r,h1,h2,_⟩:=h
 exact A0 ht (BX h1 (by rw[h2.1];simp) (h2.2 0 c rfl))
theorem Ap.store{s:AE}{j:Nat}{c d:AV}(h:Ap s j c){t:TypeId}(ht:BD Try.prog t=some 1)(h1:d.isCell=true)(h2:d.cells=[d]):
  ∃s',AP Try.prog s t (.ptr (some (j,0))) d=some s'∧Ap s' j d∧s'.next=s.next∧∀x,x≠j→s'.heap.get x=s.heap.get x:=by
 obtain⟨r,g1,g2,g3,g4⟩:=h
 refine⟨setObj s j (.row { r with c:=r.c.fill 0 [d],par:=none }),?_,⟨{ r with c:=r.c.fill 0 [d],par:=none },by rw[Ai,if_pos rfl],⟨g2.1,?_⟩,g3,rfl⟩,rfl,fun x hx=>by rw[Ai,if_neg hx]⟩
 ·simp[AP,ht,h2,AG,GY (vs:=[d]) (o:=0) g1 g3 g4 (by simp) (by rw[g2.1];simp) (by simp[Ae,h1])]
 ·intro k u hk
  have:=AZ hk
  show(Ak.fill r.c 0 [d]).get k=some u
  rw[Ak.get_fill,if_pos ⟨qm _,by simpa using this⟩]
  simpa using hk
theorem Ap.new{s:AE}{t:TypeId}{c:AV}:Ap (newObj s (AL t 0 [c])) s.next c:=by
 obtain⟨r,h1,h2,_,_,h5,h6⟩:=BN t 0 [c]
 exact⟨r,by rw[AK,if_pos rfl,h1],h2,h5,h6⟩
theorem GZ{s:AE}{i:Nat}(h:s.heap.get i=some .mark):unmark s [i]=some (Bm s i):=by simp[unmark,h]
section
theorem eo{t e:TypeId}(ht:Try.prog.underlying t=some (.slice e))(hs:BD Try.prog e=some 1){s:AE}{i n k:Nat}{cs:List AV}(h:BG s i cs)(hk:k≤n):AU Try.prog t true false false s [.slice (some (i,0)) n none,iv (k:Int)]=some (.slice (some (i,0+k * 1)) (n - k) none):=by
 obtain⟨r,h1,h2,h3,h4,h5⟩:=h
 have hb:Au (iv (k:Int)) n=some k:=by simp[Au,Cx,Bc,AG,A2 hk]
 show An Try.prog s t (.slice (some (i,0)) n none) (some (iv (k:Int))) none none=_
 simp[An,ht,hs,rowAt,h1,h5,AG,hb,A2 (qm r.n),show Nat.beq 1 0=false from rfl]
theorem U8{t e:TypeId}(ht:Try.prog.underlying t=some (.slice e))(hs:BD Try.prog e=some 1){s:AE}{i n k:Nat}{cs:List AV}(h:BG s i cs)(hk:k≤cs.length):AU Try.prog t false true false s [.slice (some (i,0)) n none,iv (k:Int)]=some (.slice (some (i,0)) k none):=by
 obtain⟨r,h1,h2,h3,h4,h5⟩:=h
 have hb:Au (iv (k:Int)) r.n=some k:=by simp[Au,Cx,Bc,AG,h2.1,A2 hk]
 show An Try.prog s t (.slice (some (i,0)) n none) none (some (iv (k:Int))) none=_
 simp[An,ht,hs,rowAt,h1,h5,AG,hb,A2 (qm r.n),show Nat.beq 1 0=false from rfl]
theorem WG{t e:TypeId}(ht:Try.prog.underlying t=some (.slice e))(hs:BD Try.prog e=some 1){s:AE}{i n k m:Nat}{cs:List AV}(h:BG s i cs)(hk:k≤m)(hm:m≤cs.length):AU Try.prog t true true false s [.slice (some (i,0)) n none,iv (k:Int),iv (m:Int)]=some (.slice (some (i,0+k * 1)) (m - k) none):=by
 obtain⟨r,h1,h2,h3,h4,h5⟩:=h
 have hb:Au (iv (m:Int)) r.n=some m:=by simp[Au,Cx,Bc,AG,h2.1,A2 hm]
 have hb2:Au (iv (k:Int)) m=some k:=by simp[Au,Cx,Bc,AG,A2 hk]
 show An Try.prog s t (.slice (some (i,0)) n none) (some (iv (k:Int))) (some (iv (m:Int))) none=_
 simp[An,ht,hs,rowAt,h1,h5,AG,hb,hb2,A2 (qm r.n),show Nat.beq 1 0=false from rfl]
theorem bY{t e:TypeId}(ht:Try.prog.underlying t=some (.slice e))(hs:BD Try.prog e=some 1){s:AE}{i n k m:Nat}{cs:List AV}(h:BG s i cs)(hk:k≤m)(hm:m≤n)(hn:n≤cs.length)(h0:0<n):∃w,AU Try.prog t true true true s [.slice (some (i,0)) n none,iv (k:Int),iv (m:Int),iv (n:Int)]=some w:=by
 obtain⟨r,h1,h2,h3,h4,h5⟩:=h
 have hb0:Au (iv (n:Int)) r.n=some n:=by simp[Au,Cx,Bc,AG,h2.1,A2 hn]
 have hb:Au (iv (m:Int)) n=some m:=by simp[Au,Cx,Bc,AG,A2 hm]
 have hb2:Au (iv (k:Int)) m=some k:=by simp[Au,Cx,Bc,AG,A2 hk]
 show ∃w,An Try.prog s t (.slice (some (i,0)) n none) (some (iv (k:Int))) (some (iv (m:Int))) (some (iv (n:Int)))=some w
 simp[An,ht,hs,rowAt,h1,h5,AG,hb0,hb,hb2,A2 (qm r.n),show Nat.beq 1 0=false from rfl,show Nat.blt 0 r.n=true from LG (by rw[h2.1];omega)]
theorem Tq{t e:TypeId}(ht:Try.prog.underlying t=some (.slice e)){z:AV}(hz:CF Try.prog e=some z)(hzc:z.cells=[z])(hz1:z.isCell=true){s:AE}{i k:Nat}{A:List AV}{b:AV}(h:BG s i (A++[b]))(hA:A.length=k):
  ∃s',FP Try.prog s [t] [.slice (some (i,0+k * 1)) 1 none]=some (Ar,s')∧BG s' i (A++[z])∧s'.next=s.next∧∀x,x≠i→s'.heap.get x=s.heap.get x:=by
 subst hA
 obtain⟨s',g1,g2,g3,g4⟩:=h.fill (o:=A.length) (vs:=[z]) (by simp) (by simp) (by simp[Ae,hz1])
 refine⟨s',?_,?_,g3,g4⟩
 ·simp[FP,ht,hz,hzc,Ht,g1]
 ·have e':(A++[b]).take A.length++[z]++(A++[b]).drop (A.length+[z].length)=A++[z]:=by
   rw[sU rfl,sM (by simp)];simp
  rw[e']at g2
  exact g2
end
def mu(lo:Nat)(s:AE)(v:AV)(us:List AV):Prop:=(∃a,v=.slice a 0 (some 0)∧us=[])∨∃i,v=.slice (some (i,0)) us.length none∧lo≤i∧i<s.next∧BG s i us
theorem Lu{a:Option (Nat×Nat)}{n:Nat}{cap:Option Nat}:AN Try.prog .eql 22 (.slice a n cap) (.slice none 0 (some 0))=some (.bool a.isNone):=by
 have h:Eb Try.prog 22=true:=by simp[Eb,Try.underlying22]
 cases a<;>simp[AN,aa,AG,h]
set_option maxRecDepth 8000 in
theorem TL         {E : BI}  (hE : Aq   E) {b : Nat} {s : AE}  {v : AV} {us : List AV} (hb : b ≤ s.next) (h : AJ      b s v us) (hcell : Ae       us = true) (hL : us.length ≤ 1000000) :
    WF E 107 [v] (fun r s'=>mu s.next s' r us∧Ao s.next s s') s:=by
  obtain⟨a,cap,rfl,hc⟩:=h
  refine hE.go dv (by decide) rfl ?_
  cases ha:a with
  | none =>
    subst ha
    have hL0:us=[]:=by
      cases us with
      | nil=>rfl
      | cons x L=>obtain⟨i,o,e,_⟩:=hc 0 x rfl;cases e
    subst hL0
    simp only[dH,OI,OJ,XY,Lu,Option.isNone_none,Qa,Qb,Qc,Qd,Qe,Qf,Qg,Qh,Qi,Qj,Qk,Ql,Qm,Qn,true_and,and_true,Qo,Qp,Qq,Qr,Qs,Qt,Qu,Qv,Qw,Qx,Qy,Qz,Ra,Rb,Rc,Rd,Re,Rf,Rg,Rh,Ri,Rj,Rk,Rl,Rm,Ya,Yb,Yc,Rn,Ro,Rp,Yd,Ye,Rq,Rs,Rt,Ru,Rv,Rw,Rx]
    exact⟨.inl ⟨none,rfl,rfl⟩,Ao.refl _ _⟩
  | some io =>
    obtain⟨i,o⟩:=io
    subst ha
    have b0:=PZ (P:=Try.prog) (t:=22) Try.underlying22 Ba RY rfl
    have hmv:∀ (m:Nat) (i:Nat),Made.val i (.slice m)=.slice (some (i,0)) m (some m):=fun _ _=>rfl
    generalize hs1:newObj s (AL 23 1 [])=s1
    have n1:s1.next=s.next+1:=by rw[← hs1];rfl
    have o1:Ao s.next s s1:=by rw[← hs1];exact Ao.new s _
    have hld:loadN s1 s.next 0 (0 * 1)=some []:=by
      obtain⟨r,h1,h2,_⟩:=BN 23 1 []
      exact CY (s:=s1) (i:=s.next) (by rw[← hs1,AK,if_pos rfl,h1]) h2 0 [] (qg _) (fun j u hj=>by simp at hj)
    have hx:BC Try.prog 22=true:=HR 22 23 Try.underlying22
    cases hLc:us with
    | nil =>
      subst hLc
      have hsrc:Bg Try.prog s1 23 1 (.slice (some (i,o)) 0 cap)=some (0,[]):=rfl
      have happ:AY Try.prog s1 [22,22] [.slice (some (s.next,0)) 0 (some 0),.slice (some (i,o)) 0 cap]=some (.slice (some (s.next,0)) 0 (some 0),s1):=by
        rw[BT Try.underlying22 Ba OG (by decide) hx hsrc rfl (by omega) (by omega)]
        rfl
      simp only[dH,OI,OJ,SC,Lu,sg,rS,b0,hs1,hmv,happ,Qa,Qb,Qc,Qd,Qe,Qf,Qg,Qh,Qi,Qj,Qk,Ql,Qm,Qn,true_and,and_true,Qo,Qp,Qq,Qr,Qs,Qt,Qu,Qv,Qw,Qx,Qy,Qz,Ra,Rb,Rc,Rd,Re,Rf,Rg,Rh,Ri,Rj,Rk,Rl,Rm,Ya,Yb,Yc,Rn,Ro,Rp,Yd,Ye,Rq,Rs,Rt,Ru,Rv,Rw,Rx]
      exact⟨.inl ⟨_,rfl,rfl⟩,o1⟩
    | cons x T =>
      rw[← hLc]
      have hne:0<us.length:=by rw[hLc];simp
      have hc1:BA b s1 (some (i,o)) us:=hc.old o1 hb
      have hsrc:=AJ.src (e:=23) (cap:=cap) hc1 rfl hne
      have happ:AY Try.prog s1 [22,22] [.slice (some (s.next,0)) 0 (some 0),.slice (some (i,o)) us.length cap]=some (.slice (some (s1.next,0)) us.length none,newObj s1 (CL 23 1 (Ak.fill .leaf 0 us) us.length none)):=by
        rw[BT Try.underlying22 Ba OG (by decide) hx hsrc hcell (by omega) (by omega)]
        simp only[appTo,DB,qq,show Nat.ble us.length 0=false from E4 (by omega),cond_false,hld,Option.bind_some,Bf,AG,Mt,cond_true,rL,qq]
      simp only[dH,OI,OJ,SC,Lu,sg,b0,hs1,hmv,happ,Qa,Qb,Qc,Qd,Qe,Qf,Qg,Qh,Qi,Qj,Qk,Ql,Qm,Qn,true_and,and_true,Qo,Qp,Qq,Qr,Qs,Qt,Qu,Qv,Qw,Qx,Qy,Qz,Ra,Rb,Rc,Rd,Re,Rf,Rg,Rh,Ri,Rj,Rk,Rl,Rm,Ya,Yb,Yc,Rn,Ro,Rp,Yd,Ye,Rq,Rs,Rt,Ru,Rv,Rw,Rx]
      refine⟨.inr ⟨s1.next,rfl,by omega,rP _,_,by rw[AK,if_pos rfl];rfl,⟨rfl,?_⟩,rfl,rfl,rfl⟩,o1.trans ((Ao.new s1 _).mono (by omega))⟩
      intro k u hk
      have hlt:=AZ hk
      show(Ak.fill .leaf 0 us).get k=some u
      rw[Ak.get_fill,if_pos ⟨qm _,by omega⟩]
      simpa using hk
set_option maxRecDepth 8000 in
theorem P1          {E : BI}  (hE : Aq   E) {s : AE}  {i k : Nat} {us : List AV} (hr : BG    s i us) (hk : k < us.length) (hcell : Ae       us = true) (hL : us.length ≤ 1000000) :
    WF E 106 [.slice (some (i,0)) us.length none,iv (k:Int),iv ((k+1:Nat):Int)] (fun r s'=>∃Z,Z≠[]∧r=.slice (some (i,0)) (us.take k++us.drop (k+1)).length none∧BG s' i ((us.take k++us.drop (k+1))++Z)∧s'.next=s.next∧∀x,x≠i→s'.heap.get x=s.heap.get x) s:=by
  refine hE.go du (by decide) rfl ?_
  have hn':(us.take k++us.drop (k+1)).length=us.length - 1:=by simp;omega
  obtain⟨w,hw⟩:=bY Try.underlying22 Ba (n:=us.length) (k:=k) (m:=k+1) hr (by omega) (by omega) (qg _) (by omega)
  have h1:=U8 Try.underlying22 Ba (n:=us.length) (k:=k) hr (by omega)
  have h2:=eo Try.underlying22 Ba (n:=us.length) (k:=k+1) hr (by omega)
  have hne:decide ((k:Int)=((k+1:Nat):Int))=false:=decide_eq_false (by omega)
  have hsp:us=us.take k++us[k]::us.drop (k+1):=by rw[List.getElem_cons_drop,sN]
  have happ:∃s1 b,AY Try.prog s [22,22] [.slice (some (i,0)) k none,.slice (some (i,0+(k+1) * 1)) (us.length - (k+1)) none]=some (.slice (some (i,0)) (us.length - 1) none,s1)∧BG s1 i ((us.take k++us.drop (k+1))++[b])∧s1.next=s.next∧∀x,x≠i→s1.heap.get x=s.heap.get x:=by
    have hx:BC Try.prog 22=true:=HR 22 23 Try.underlying22
    have hdl:(us.drop (k+1)).length=us.length - (k+1):=by simp
    have hcd:Ae (us.drop (k+1))=true:=by
      have:∀ {a b:List AV},Ae (a++b)=true→Ae b=true:=by
        intro a b
        induction a with
        | nil=>intro h;exact h
        | cons x a ih=>intro h;simp only[rY,Ae,Bool.and_eq_true]at h;exact ih h.2
      exact this (a:=us.take (k+1)) (by rw[sN];exact hcell)
    obtain⟨r,q1,q2,q3,q4,q5⟩:=hr
    have hrow:rowAt s i=some r:=by simp[rowAt,q1]
    have hr:BG s i us:=⟨r,q1,q2,q3,q4,q5⟩
    have hsrc:Bg Try.prog s 23 1 (.slice (some (i,0+(k+1) * 1)) (us.length - (k+1)) none)=some (us.length - (k+1),us.drop (k+1)):=by
      have:=CY q1 q2 (0+(k+1) * 1) (us.drop (k+1)) (by simp;omega) (fun j u hj=>by
        rw[rQ]at hj
        rw[← hj];congr 1;omega)
      rw[hdl]at this
      simp only[Bg]
      rw[KG (size:=1) (by rw[rC (us.length - (k+1))];exact this)]
      rfl
    rw[BT Try.underlying22 Ba OG (by decide) hx hsrc hcd (by omega) (by omega)]
    have hfit:Nat.ble (0+(k+(us.length - (k+1))) * 1) r.n=true:=A2 (by rw[q2.1];omega)
    have hlen:k+(us.length - (k+1))=us.length - 1:=by omega
    simp only[appTo,hrow,Option.bind_some,DG,q5,Dj rfl,AG,cond_true,hfit]
    rw[hlen]
    cases hd:us.drop (k+1)with
    | nil =>
      refine⟨s,us[k],rfl,?_,rfl,fun _ _=>rfl⟩
      rw[rl]
      rw[hd]at hsp
      rw[← hsp]
      exact hr
    | cons y T =>
      rw[← hd]
      have hlast:us.drop (us.length - 1)=[us[us.length - 1]]:=by
        rw[sO (by omega),sM (by omega)]
      obtain⟨s1,g1,g2,g3,g4⟩:=hr.fill (o:=0+k * 1) (vs:=us.drop (k+1)) (by rw[hd];simp) (by rw[hdl];omega) hcd
      refine⟨s1,us[us.length - 1],by rw[g1];rfl,?_,g3,g4⟩
      have e1:0+k * 1=k:=by omega
      have e2:k+(us.length - (k+1))=us.length - 1:=by omega
      rw[e1,hdl,e2,hlast]at g2
      exact g2
  obtain⟨s1,b,g1,g2,g3,g4⟩:=happ
  have h3:=WG Try.underlying22 Ba (n:=us.length - 1) (k:=us.length - 1) (m:=us.length) g2 (by omega) (by simp;omega)
  obtain⟨s2,k1,k2,k3,k4⟩:=Tq Try.underlying22 RY rfl rfl (k:=us.length - 1) g2 hn'
  have hone:us.length - (us.length - 1)=1:=by omega
  rw[hone]at h3
  simp only[nh,XR,XS,XT,XU,XV,XW,XX,AW Try.underlying22,hw,h1,h2,hne,g1,h3,k1,HY,Az,Qa,Qb,Qc,Qd,Qe,Qf,Qg,Qh,Qi,Qj,Qk,Ql,Qm,Qn,true_and,and_true,Qo,Qp,Qq,Qr,Qs,Qt,Qu,Qv,Qw,Qx,Qy,Qz,Ra,Rb,Rc,Rd,Re,Rf,Rg,Rh,Ri,Rj,Rk,Rl,Rm,Ya,Yb,Yc,Rn,Ro,Rp,Yd,Ye,Rq,Rs,Rt,Ru,Rv,Rw,Rx]
  refine⟨_,(fun h=>by cases h),by rw[hn'],k2,by omega,fun x hx=>(k4 x hx).trans (g4 x hx)⟩
set_option maxRecDepth 8000 in
theorem TV{E:BI}(hE:Aq E){s:AE}{b:Nat}{A B:List Int}(hl:A.length=B.length)(hA:A.length≤1000000){a1 a2:Option (Nat×Nat)}{cap1 cap2:Option Nat}(hc1:BA b s a1 (A3 A))(hc2:BA b s a2 (A3 B)){Q:A9→Prop}(x4:AV):
    ∀ (l m : List Int) (k : Nat) (x3 x7 x8 : AV), A.drop k = l → B.drop k = m → k ≤ A.length →
      (∀ (e:K9) (y2 y3 y6 y7 y8:AV),(e=.ret∧l≠m∧y2=.bool false∨e=.exit 0∧l=m)→Q ⟨e,[.slice a1 A.length cap1,.slice a2 A.length cap2,y2,y3,x4,iv (A.length:Int),y6,y7,y8],[],s⟩) →
      WC E none (.loop Ji) Q [.slice a1 A.length cap1,.slice a2 A.length cap2,.bool false,x3,x4,iv (A.length:Int),iv (k:Int),x7,x8] [] s:=by
  intro l
  induction l with
  | nil =>
    intro m k x3 x7 x8 hd KP hk hq
    have:=Cw hd hk
    subst this
    have hm:m=[]:=by rw[← KP,hl];simp
    refine WC.loop' ?_
    simp only[Ji,OH,rG,decide_false,Qa,Qb,Qc,Qd,Qe,Qf,Qg,Qh,Qi,Qj,Qk,Ql,Qm,Qn,true_and,and_true,Qo,Qp,Qq,Qr,Qs,Qt,Qu,Qv,Qw,Qx,Qy,Qz,Ra,Rb,Rc,Rd,Re,Rf,Rg,Rh,Ri,Rj,Rk,Rl,Rm,Ya,Yb,Yc,Rn,Ro,Rp,Yd,Ye,Rq,Rs,Rt,Ru,Rv,Rw,Rx]
    exact hq _ _ _ _ _ _ (.inr ⟨rfl,hm.symm⟩)
  | cons x l ih =>
    intro m k x3 x7 x8 hd KP hk hq
    obtain⟨hlt,hx,hd'⟩:=B0 hd
    obtain⟨y,hy⟩:∃y,B[k]? = some y:=⟨B[k]'(by omega),qp (by omega)⟩
    have hm:m=y::B.drop (k+1):=by
      rw[← KP,sO (by omega)]
      rw[qp (by omega)]at hy
      injection hy with hy
      rw[hy]
    subst hm
    obtain⟨i,o,rfl,hi,hload⟩:=hc1 k _ (A6 hx)
    obtain⟨i',o',rfl,hi',hload'⟩:=hc2 k _ (A6 hy)
    have e1:=At (cap:=cap1) (i:=i) (o:=o) Try.underlying23 Br hlt
    have e2:AC Try.prog s 3 (.ptr (some (i,o+k * 1)))=some (iv x):=A0 Do (by rw[rC];exact hload)
    have e1':=At (cap:=cap2) (i:=i') (o:=o') Try.underlying23 Br hlt
    have e2':AC Try.prog s 3 (.ptr (some (i',o'+k * 1)))=some (iv y):=A0 Do (by rw[rC];exact hload')
    have hkk:decide ((k:Int)<(A.length:Int))=true:=decide_eq_true (by omega)
    have e3:=Ay Try.prog 3 (k:Int) 1 ⟨by omega,by omega⟩
    have e3':((k:Int)+1)=((k+1:Nat):Int):=by omega
    refine WC.loop' ?_
    generalize hW:WC E none (Ac.loop Ji) Q=WW
    by_cases h:x=y
    · subst h
      simp only[Ji,OH,SA,SB,XQ,hkk,e1,e2,e1',e2',e3,e3',ne_eq,not_true,decide_false,Qa,Qb,Qc,Qd,Qe,Qf,Qg,Qh,Qi,Qj,Qk,Ql,Qm,Qn,true_and,and_true,Qo,Qp,Qq,Qr,Qs,Qt,Qu,Qv,Qw,Qx,Qy,Qz,Ra,Rb,Rc,Rd,Re,Rf,Rg,Rh,Ri,Rj,Rk,Rl,Rm,Ya,Yb,Yc,Rn,Ro,Rp,Yd,Ye,Rq,Rs,Rt,Ru,Rv,Rw,Rx]
      rw[← hW]
      refine ih (B.drop (k+1)) (k+1) _ _ _ hd' rfl hlt ?_
      intro e y2 y3 y6 y7 y8 he
      refine hq e y2 y3 y6 y7 y8 ?_
      rcases he with⟨h1,h2,h3⟩ | ⟨h1,h2⟩
      · exact .inl ⟨h1,fun e=>h2 (by injection e),h3⟩
      · exact .inr ⟨h1,by rw[h2]⟩
    · simp only[Ji,OH,SA,SB,XP,hkk,e1,e2,e1',e2',h,ne_eq,not_false_eq_true,decide_true,Qa,Qb,Qc,Qd,Qe,Qf,Qg,Qh,Qi,Qj,Qk,Ql,Qm,Qn,true_and,and_true,Qo,Qp,Qq,Qr,Qs,Qt,Qu,Qv,Qw,Qx,Qy,Qz,Ra,Rb,Rc,Rd,Re,Rf,Rg,Rh,Ri,Rj,Rk,Rl,Rm,Ya,Yb,Yc,Rn,Ro,Rp,Yd,Ye,Rq,Rs,Rt,Ru,Rv,Rw,Rx]
      exact hq _ _ _ _ _ _ (.inl ⟨rfl,fun e=>h (by injection e),rfl⟩)
theorem ac{E:BI}(hE:Aq E){s:AE}{b:Nat}{A B:List Int}(hA:A.length≤1000000){v u:AV}(hv:AJ b s v (A3 A))(hu:AJ b s u (A3 B)):
    WF E 105 [v,u] (fun r s'=>r=.bool (decide (A=B))∧s=s') s:=by
  obtain⟨a1,cap1,rfl,hc1⟩:=hv
  obtain⟨a2,cap2,rfl,hc2⟩:=hu
  rw[C7,C7]
  refine hE.go dr (by decide) rfl ?_
  by_cases hl:A.length=B.length
  · have hd:decide (¬ ((A.length:Int)=(B.length:Int)))=false:=decide_eq_false (by omega)
    simp only[ka,R8,R9,XO,AW Try.underlying23,ne_eq,hd,Qa,Qb,Qc,Qd,Qe,Qf,Qg,Qh,Qi,Qj,Qk,Ql,Qm,Qn,true_and,and_true,Qo,Qp,Qq,Qr,Qs,Qt,Qu,Qv,Qw,Qx,Qy,Qz,Ra,Rb,Rc,Rd,Re,Rf,Rg,Rh,Ri,Rj,Rk,Rl,Rm,Ya,Yb,Yc,Rn,Ro,Rp,Yd,Ye,Rq,Rs,Rt,Ru,Rv,Rw,Rx]
    rw[← hl]
    refine TV hE hl hA hc1 hc2 _ A B 0 _ _ _ rfl rfl (qm _) ?_
    rintro e y2 y3 y6 y7 y8 (⟨rfl,h,rfl⟩ | ⟨rfl,h⟩)
    · simp only[h,decide_false,Qa,Qb,Qc,Qd,Qe,Qf,Qg,Qh,Qi,Qj,Qk,Ql,Qm,Qn,true_and,and_true,Qo,Qp,Qq,Qr,Qs,Qt,Qu,Qv,Qw,Qx,Qy,Qz,Ra,Rb,Rc,Rd,Re,Rf,Rg,Rh,Ri,Rj,Rk,Rl,Rm,Ya,Yb,Yc,Rn,Ro,Rp,Yd,Ye,Rq,Rs,Rt,Ru,Rv,Rw,Rx]
    · simp only[UY,h,decide_true,if_true,Qa,Qb,Qc,Qd,Qe,Qf,Qg,Qh,Qi,Qj,Qk,Ql,Qm,Qn,true_and,and_true,Qo,Qp,Qq,Qr,Qs,Qt,Qu,Qv,Qw,Qx,Qy,Qz,Ra,Rb,Rc,Rd,Re,Rf,Rg,Rh,Ri,Rj,Rk,Rl,Rm,Ya,Yb,Yc,Rn,Ro,Rp,Yd,Ye,Rq,Rs,Rt,Ru,Rv,Rw,Rx]
  · have hd : decide (¬ ((A.length : Int) = (B.length : Int))) = true := decide_eq_true (by omega)
    have hne:A≠B:=fun e=>hl (by rw[e])
    simp only[ka,R8,R9,XN,AW Try.underlying23,ne_eq,hd,hne,decide_false,Qa,Qb,Qc,Qd,Qe,Qf,Qg,Qh,Qi,Qj,Qk,Ql,Qm,Qn,true_and,and_true,Qo,Qp,Qq,Qr,Qs,Qt,Qu,Qv,Qw,Qx,Qy,Qz,Ra,Rb,Rc,Rd,Re,Rf,Rg,Rh,Ri,Rj,Rk,Rl,Rm,Ya,Yb,Yc,Rn,Ro,Rp,Yd,Ye,Rq,Rs,Rt,Ru,Rv,Rw,Rx]
end
end Go.Proofs.Ytilhhmkdcoajnaa.Am
