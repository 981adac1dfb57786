/- The memory of what a trace has learned; what the program's states does, round by round; conditions: short plain clauses, few lines. -/
import Derived.Test.YtilhhmkdcoajnaaAmM33
import Derived.Test.YtilhhmkdcoajnaaAmM32
import Derived.WideKeyArgs
import Derived.Test.YtilhhmkdcoajnaaAmSatCode
set_option linter.unusedVariables false
set_option linter.unusedSimpArgs false
namespace Go.Proofs.Ytilhhmkdcoajnaa.Am
open Go Go.Proofs
noncomputable section
def Cc(b:Nat)(s:ASt)(v:AV)(T:As):Prop:=∃a cap,v=.slice a T.length cap∧∀k d L,T[k]? = some (d,L) →
  ∃i o u,a=some (i,o)∧i<b∧load1 s i (o+k * 2)=some (.bool d)∧load1 s i (o+k * 2+1)=some u∧AM b s u (ivs L)
theorem Cc.old{b b':Nat}{s s':ASt}{v:AV}{T:As}(h:Cc b s v T)(k:Old b' s s')(hb:b≤b'):Cc b s' v T:=by
  obtain⟨a,cap,hv,hc⟩:=h
  refine⟨a,cap,hv,fun j d L hj=>?_⟩
  obtain⟨i,o,u,h1,h2,h3,h4,h5⟩:=hc j d L hj
  exact⟨i,o,u,h1,h2,by rw[CE (k.2 i (by omega))];exact h3,by rw[CE (k.2 i (by omega))];exact h4,h5.old k hb⟩
theorem Cc.isCell{b:Nat}{s:ASt}{v:AV}{T:As}(h:Cc b s v T):v.isCell=true∧v.cells=[v]:=by
  obtain⟨a,cap,rfl,_⟩:=h
  exact⟨rfl,rfl⟩
theorem PN{s:ASt}{i o:Nat}{c0 c1:AV}(h0:load1 s i o=some c0)(h1:load1 s i (o+1)=some c1):loadN s i o 2=some [c0,c1]:=by
  unfold load1 at h0 h1
  cases hr:BA s i with
  | none=>rw[hr]at h0;cases h0
  | some r =>
    rw[hr]at h0 h1
    simp only[Option.bind_some]at h0 h1
    obtain⟨g0,h0⟩:=AJ h0
    obtain⟨g1,h1⟩:=AJ h1
    have hlt:o+1<r.n:=by simpa[oq]using g1
    simp[loadN,hr,AF,A1 (show o+2≤r.n by omega),Aj.take,h0,h1]
def Il(cs:List (List Int))(x:Bool×List Int):List (List Int):=if x.1 then Mg cs x.2 else cs++[x.2]
def Bx(T:As):List (List Int):=T.foldl Il []
theorem Jj{T:As}{k:Nat}{x:Bool×List Int}(h:T[k]? = some x):Bx (T.take (k+1))=Il (Bx (T.take k)) x:=by
  unfold Bx
  have hlt:=Ab h
  have:T.take (k+1)=T.take k++[x]:=by
    rw[pn hlt]
    congr 2
    rw[oM hlt]at h
    injection h
  rw[this,List.foldl_append];rfl
theorem P6{α:Type}{l:List α}{o:Option Nat}{x:α}(h:x∈OO l o):x∈l:=by
  cases o with
  | none=>exact h
  | some k =>
    rcases pg.1 h with h | h
    · exact oW h
    · exact p7 h
theorem P5{α:Type}{l:List α}{o:Option Nat}:(OO l o).length≤l.length:=by
  cases o with
  | none=>exact oD _
  | some k=>show(l.take k++l.drop (k+1)).length≤_;simp;omega
theorem SU         : ∀ {T : As}      {L : List Int}, L ∈ Bx     T → ∃ d, (d, L) ∈ T := by
  have:∀ (T:As) (cs:List (List Int)) (L:List Int),L∈T.foldl Il cs→L∈cs∨∃d,(d,L)∈T:=by
    intro T
    induction T with
    | nil=>intro cs L h;exact .inl h
    | cons x T ih =>
      intro cs L h
      rcases ih _ L h with h | ⟨d,h⟩
      · obtain⟨d,M⟩:=x
        unfold Il at h
        cases d with
        | true=>exact .inl (P6 h)
        | false =>
          rcases pg.1 h with h | h
          · exact .inl h
          · have:L=M:=by simpa using h
            exact .inr ⟨false,by rw[this];exact oH⟩
      · exact .inr ⟨d,oJ _ h⟩
  intro T L h
  exact(this T [] L h).resolve_left (fun h=>by cases h)
theorem ST         : ∀ {T : As},      (Bx     T).length ≤ T.length := by
  have:∀ (T:As) (cs:List (List Int)),(T.foldl Il cs).length≤cs.length+T.length:=by
    intro T
    induction T with
    | nil=>intro cs;exact oD _
    | cons x T ih =>
      intro cs
      refine oS (ih _) ?_
      have:(Il cs x).length≤cs.length+1:=by
        unfold Il
        split
        · exact oS P5 (by omega)
        · simp
      simp only[oZ]
      omega
  intro T
  have:=this T []
  rw[pH,oN]at this
  exact this
def Dv(s:ASt)(v:AV)(us:List AV):Prop:=(∃a,v=.slice a us.length (some us.length)∧CG s v us.length 1 us []) ∨
  (∃i Z r,v=.slice (some (i,0)) us.length none∧s.heap.get i=some (.row r)∧HN r (us++Z)∧r.sz=1∧0<(us++Z).length∧i<s.next)
theorem Dv.nil(s:ASt):Dv s (.slice none 0 (some 0)) []:=.inl ⟨none,rfl,CG.nil s 1⟩
theorem Dv.frame{s s':ASt}{v:AV}{us:List AV}(h:Dv s v us)(hn:s.next≤s'.next)(k:∀j,j<s.next→CU v=some j→s'.heap.get j=s.heap.get j):Dv s' v us:=by
  rcases h with⟨a,rfl,h2⟩ | ⟨i,Z,r,rfl,h2,h3,h4,h5,h6⟩
  · exact .inl ⟨a,rfl,h2.frame hn fun j hj=>k j (h2.slot_lt j hj) hj⟩
  · exact .inr ⟨i,Z,r,rfl,by rw[k i h6 rfl];exact h2,h3,h4,h5,by omega⟩
theorem Dv.slice{s:ASt}{v:AV}{us:List AV}(h:Dv s v us):AM s.next s v us:=by
  rcases h with⟨a,rfl,h2⟩ | ⟨i,Z,r,rfl,h2,h3,h4,h5,h6⟩
  · obtain⟨a',cap,e,hc⟩:=h2.cells
    exact⟨a',cap,e,hc⟩
  · refine⟨_,_,rfl,fun k u hk=>⟨i,0,rfl,h6,?_⟩⟩
    have hlt:=Ab hk
    rw[oN]
    exact BW h2 (by rw[h3.1];simp;omega) (h3.2 k u (by rw[oR hlt];exact hk))
theorem Dv.len{s:ASt}{v:AV}{us:List AV}(h:Dv s v us)(s':ASt):Ao Try.prog s' 22 v=some (iv (us.length:Int)):=by
  obtain⟨a,cap,rfl,_⟩:=h.slice
  exact AZ Try.underlying22
set_option maxRecDepth 4000 in
theorem Dv.full{s:ASt}{v:AV}{us:List AV}(h:Dv s v us):
    ∃a,AW Try.prog 22 false true true s [v,iv (us.length:Int),iv (us.length:Int)]=some (.slice a us.length (some us.length))∧CG s (.slice a us.length (some us.length)) us.length 1 us []∧CU (.slice a us.length (some us.length))=CU v:=by
  have hb:∀n:Nat,us.length≤n→At (iv (us.length:Int)) n=some us.length:=fun n hn=>by simp[At,Cu,BX,AF,A1 hn]
  have hb':=hb us.length (oD _)
  rcases h with⟨a,rfl,h2⟩ | ⟨i,Z,r,rfl,h2,h3,h4,h5,h6⟩
  · refine⟨a,?_,h2,rfl⟩
    show Ap Try.prog s 22 (.slice a us.length (some us.length)) none (some (iv (us.length:Int))) (some (iv (us.length:Int)))=_
    cases a with
    | none=>simp[Ap,Try.underlying22,BU,hb',AF]
    | some io =>
      obtain⟨i,o⟩:=io
      cases hz:Nat.beq us.length 0<;>simp[Ap,Try.underlying22,BU,hb',AF,hz]
  · refine ⟨some (i, 0), ?_, .inl ⟨_, rfl, rfl, by omega, (fun e => by cases e), fun i' o' e => ?_⟩, rfl⟩
    · show Ap Try.prog s 22 (.slice (some (i,0)) us.length none) none (some (iv (us.length:Int))) (some (iv (us.length:Int)))=_
      have hn:r.n=us.length+Z.length:=by rw[h3.1];simp
      have hb0:=hb r.n (by omega)
      have hpos:0<r.n:=by simp at h5;omega
      cases hz:Nat.beq us.length 0<;>simp[Ap,Try.underlying22,BU,BA,h2,h4,hb',hb0,AF,A1 (oK r.n),show Nat.beq 1 0=false from rfl,NP hpos,hz]
    · injection e with e
      injection e with e1 e2
      subst e1;subst e2
      refine⟨h6,?_⟩
      have:=Da h2 h3 0 us (by simp) (fun j u hj=>by rw[oN,oR (Ab hj)];exact hj)
      rw[oV];exact this
theorem Dv.of_dest{s:ASt}{v:AV}{us:List AV}{O:List Nat}(h:CG s v us.length 1 us O)(h0:0<us.length):Dv s v us:=by
  rcases h with⟨a,rfl,rfl,h3,h4,h5⟩ | ⟨i,p,rfl,h6,h7⟩
  · exact .inl ⟨a,rfl,.inl ⟨a,rfl,rfl,h3,h4,h5⟩⟩
  · rcases h6.ex with ⟨e', _⟩ | ⟨_, q1, q2, q3, r, q4, q5, q6, q7, q8, q9⟩
    · cases e'
    · exact .inr ⟨i,[],r,rfl,q4,by rw[pQ];exact q5,q8,by simpa using h0,q2⟩
def DQ(l:Nat)(s s':ASt):Prop:=s.next≤s'.next∧∀x,x<s.next→x≠l→s'.heap.get x=s.heap.get x
theorem DQ.old{l:Nat}{s s':ASt}(h:DQ l s s')(hl:l≤s.next):Old l s s':=⟨h.1,fun x hx=>h.2 x (by omega) (by omega)⟩
theorem Old.but{l:Nat}{s s':ASt}(h:Old s.next s s'):DQ l s s':=⟨h.1,fun x hx _=>h.2 x hx⟩
theorem DQ.trans{l:Nat}{s s1 s2:ASt}(h:DQ l s s1)(k:DQ l s1 s2):DQ l s s2:=⟨oS h.1 k.1,fun x hx hl=>(k.2 x (oh hx h.1) hl).trans (h.2 x hx hl)⟩
def Ha(T:As):Prop:=T.length≤900∧∀x∈T,H0 x.2
theorem Ha.learn{T:As}(h:Ha T)(k:Nat):(∀L∈Bx (T.take k),H0 L)∧(Bx (T.take k)).length≤900:=by
  refine⟨fun L hL=>?_,?_⟩
  · obtain⟨d,hd⟩:=SU hL
    exact h.2 _ (oW hd)
  · have := ST         (T := T.take k)
    have h1:=h.1
    have:(T.take k).length≤T.length:=by simp;omega
    omega
structure FF(b l:Nat)(s0 s:ASt)(T:As)(k:Nat)(v:AV):Prop where
  ex:∃us,Dv s v us∧Ah b s us (Bx (T.take k))∧CU v≠some l
  old:Old l s0 s
  lt:l<s.next
theorem Z6{s:ASt}{v:AV}{n:Nat}{us:List AV}{O:List Nat}(hd:CG s v n 1 us O)(hl:n≤1000000000){x:AV}(hc:x.isCell=true):
    ∃v' s' O',AY Try.prog (AH s (AP 23 1 [x])) [22,22] [v,.slice (some (s.next,0)) 1 (some 1)]=some (v',s')∧CG s' v' (n+1) 1 (us++[x]) O'∧s.next≤s'.next ∧
      (∀j,j<s.next→j ∉ O→s'.heap.get j=s.heap.get j)∧(∀j∈O',j∈O∨s.next<j)∧(∀j,CU v'=some j→CU v=some j∨s.next<j):=by
  have c1:=GA (P:=Try.prog) (e:=23) (s:=AH s (AP 23 1 [x])) (n:=1) (cap:=some 1) (sz:=1) 23 1 (by rw[AO,if_pos rfl]) rfl
  obtain⟨v',s',O',h1,h2,h3,h4,h5,h6,h7⟩:=(hd.new (AP 23 1 [x])).append (P:=Try.prog) (st:=22) (xt:=22) Try.underlying22 BU OZ (by decide) (JW 22 23 Try.underlying22) OP c1 rfl (by simp[Af,hc]) (by omega) (by omega)
  have hn:(AH s (AP 23 1 [x])).next=s.next+1:=rfl
  refine⟨v',s',O',h1,h2,by omega,?_,?_,?_⟩
  · intro j hj ho
    rw[h5 j (by omega) ho,AO,if_neg (by omega)]
  · intro j hj
    exact(h6 j hj).imp id (fun h=>by omega)
  · intro j hj
    exact(h7 j hj).imp id (fun h=>by omega)
set_option maxRecDepth 16000 in
theorem Pu          {E : Env} (hE : An   E) {b l bx : Nat} {s0 : ASt} {v : AV} {T : As}      (hT : Cc      b s0 v T) (hP : Ha     T) (hbl : b ≤ l) (hbx : Al   s0 bx v) (hbxl : bx < l) {LI : Nat → ASt → Prop} {Fin : ASt → Prop}
    (hframe:∀k s s',LI k s→DQ l s s'→l<s.next→s'.heap.get l=s.heap.get l→LI k s')
    (hround:∀ (k:Nat) (s:ASt) (w:AV) (K:AV→ASt→Prop),k<T.length→FF b l s0 s T k w→LI k s→(∀s',DQ l s s'→LI (k+1) s'→K (.bool true) s')→(∀s',Fin s'→K (.bool false) s')→WR E l [iv (k:Int),w] K s)
    {Q:A6→Prop}:
    ∀ (t : List (Bool × List Int)) (k : Nat) (s : ASt) (w x3 x4 x8 x9 x10 : AV), T.drop k = t → k ≤ T.length → FF      b l s0 s T k w → LI k s →
      (∀s' w' y3 y4 y8 y9 y10,FF b l s0 s' T T.length w'→LI T.length s'→Q ⟨.exit 0,[.yield l,.ptr (some (bx,0)),w',y3,y4,v,iv (T.length:Int),iv (T.length:Int),y8,y9,y10],[],s'⟩) →
      (∀s' y2 y3 y4 y7 y8 y9 y10,Fin s'→Q ⟨.ret,[.yield l,.ptr (some (bx,0)),y2,y3,y4,v,iv (T.length:Int),y7,y8,y9,y10],[],s'⟩) →
      WC E none (.loop Oo) Q [.yield l,.ptr (some (bx,0)),w,x3,x4,v,iv (T.length:Int),iv (k:Int),x8,x9,x10] [] s:=by
  intro t
  induction t with
  | nil =>
    intro k s w x3 x4 x8 x9 x10 hd hk hat hli hend hret
    have:=Ck hd hk
    subst this
    refine WC.loop' ?_
    simp only[Oo,YZ,om,decide_false,Qa,Qb,Qc,Qd,Qe,Qf,Qg,Qh,Qi,Qj,Qk,Ql,Qm,Qn,true_and,and_true,Qo,Qp,Qq,Qr,Qs,Qt,Qu,Qv,Qw,Qx,Qy,Qz,Ra,Rb,Rc,Rd,Re,Rf,Rg,Rh,Ri,Rj,Rk,Rl,Rm,Ya,Yb,Yc,Rn,Ro,Rp,Yd,Ye,Rq,Rs,Rt,Ru,Rv,Rw,Rx]
    exact hend s w _ _ _ _ _ hat hli
  | cons x t ih =>
    intro k s w x3 x4 x8 x9 x10 hd hk hat hli hend hret
    obtain⟨d,L⟩:=x
    obtain⟨hlt,hx,hd'⟩:=Bk hd
    have hT1:=hP.1
    have hkk:decide ((k:Int)<(T.length:Int))=true:=decide_eq_true (by omega)
    have e3:=Aq Try.prog 3 (k:Int) 1 ⟨by omega,by omega⟩
    have hcast:((k:Int)+1)=((k+1:Nat):Int):=by omega
    obtain⟨a,cap,hv,hc⟩:=hT.old hat.old hbl
    obtain⟨i,o,u,ha,hi,hl1,hl2,hu⟩:=hc k d L hx
    have e1:AC Try.prog 33 v (iv (k:Int))=some (.ptr (some (i,o+k * 2))):=by rw[hv,ha];exact Aw Try.underlying33 OK hlt
    have e2:AD Try.prog s 27 (.ptr (some (i,o+k * 2)))=some (.agg [.bool d,u]):=by simp[AD,mJ,OK,PN hl1 hl2]
    have hal:BE Try.prog 27=some (AP 27 0 [.bool false,.slice none 0 (some 0)],.ptr):=by simp[BE,TE,AV.cells]
    have hmv:∀i,Bv.val i .ptr=.ptr (some (i,0)):=fun _=>rfl
    generalize hs1:AH s (AP 27 0 [.bool false,.slice none 0 (some 0)])=s1
    have n1:s1.next=s.next+1:=by rw[← hs1];rfl
    have o1:Old s.next s s1:=by rw[← hs1];exact Old.new s _
    have bx1:Ir s1 s.next (.bool false) (.slice none 0 (some 0)):=by
      obtain⟨r,h1,h2,h3,h4,h5,h6⟩:=Bo 27 0 [.bool false,.slice none 0 (some 0)]
      exact⟨r,by rw[← hs1,AO,if_pos rfl,h1],h2,h5,h6⟩
    obtain⟨s2,g1,g2,g3,g4⟩:=bx1.store (d0:=.bool d) (d1:=u) rfl hu.isCell.1
    have o2:DQ l s s2:=⟨by omega,fun x hx _=>by rw[g4 x (by omega),o1.2 x hx]⟩
    have hltl:=hat.lt
    have l2:LI k s2:=hframe k s s2 hli o2 hltl (by rw[g4 l (by omega),o1.2 l hltl])
    have at2:FF b l s0 s2 T k w:=by
      obtain⟨us,h1,h2,h3⟩:=hat.ex
      exact⟨⟨us,h1.frame o2.1 fun j hj hs=>by rw[g4 j (by omega),o1.2 j hj],h2.old ((o2.old (by omega)).mono hbl),h3⟩,hat.old.trans (o2.old (by omega)),by omega⟩
    refine WC.loop' ?_
    generalize hW:WC E none (AX.loop Oo) Q=W
    simp only[Oo,YZ,hH,hkk,e1,e2,hal,hmv,hs1,on2,g1,AT,hY,Qe,Qa,Qb,Qc,Qd,Qe,Qf,Qg,Qh,Qi,Qj,Qk,Ql,Qm,Qn,true_and,and_true,Qo,Qp,Qq,Qr,Qs,Qt,Qu,Qv,Qw,Qx,Qy,Qz,Ra,Rb,Rc,Rd,Re,Rf,Rg,Rh,Ri,Rj,Rk,Rl,Rm,Ya,Yb,Yc,Rn,Ro,Rp,Yd,Ye,Rq,Rs,Rt,Ru,Rv,Rw,Rx]
    refine hround k s2 w _ hlt at2 l2 ?_ ?_
    · intro s3 o3 l3
      have hlb:Ir s3 s.next (.bool d) u:=g2.keep (o3.2 s.next (by omega) (by omega))
      have ld0:AD Try.prog s3 4 (.ptr (some (s.next,0)))=some (.bool d):=A7 ag4 hlb.load0
      have ld1:AD Try.prog s3 23 (.ptr (some (s.next,0+1)))=some u:=A7 C1 hlb.load1
      have old3:Old l s0 s3:=at2.old.trans (o3.old (by omega))
      have hu3:AM b s3 u (ivs L):=hu.old ((o2.old (by omega)).trans (o3.old (by omega))) hbl
      obtain⟨us,h1,h2,h3⟩:=at2.ex
      have k1:Dv s3 w us:=h1.frame o3.1 fun j hj hs=>o3.2 j hj (fun e=>h3 (by rw[hs,e]))
      have k2:Ah b s3 us (Bx (T.take k)):=h2.old ((o3.old (by omega)).mono hbl)
      have hlen:us.length≤900:=by rw[k2.1];exact(hP.learn k).2
      have hlt3:l<s3.next:=by have:=o3.1;omega
      have hPL:H0 L:=hP.2 _ (oG hx)
      cases d with
      | true =>
        simp only[Bool.not_true,Yf,K8,ld0,iA,K9,ld1,Qa,Qb,Qc,Qd,Qe,Qf,Qg,Qh,Qi,Qj,Qk,Ql,Qm,Qn,true_and,and_true,Qo,Qp,Qq,Qr,Qs,Qt,Qu,Qv,Qw,Qx,Qy,Qz,Ra,Rb,Rc,Rd,Re,Rf,Rg,Rh,Ri,Rj,Rk,Rl,Rm,Ya,Yb,Yc,Rn,Ro,Rp,Yd,Ye,Rq,Rs,Rt,Ru,Rv,Rw,Rx]
        refine(SG hE (b:=b) (by omega) k1.slice k2 (hP.learn k).1 (by omega) hPL hu3).mono ?_
        rintro r s4 ⟨us',hr',hdis,ho4⟩
        simp only[Yg,e3,hcast,Qa,Qb,Qc,Qd,Qe,Qf,Qg,Qh,Qi,Qj,Qk,Ql,Qm,Qn,true_and,and_true,Qo,Qp,Qq,Qr,Qs,Qt,Qu,Qv,Qw,Qx,Qy,Qz,Ra,Rb,Rc,Rd,Re,Rf,Rg,Rh,Ri,Rj,Rk,Rl,Rm,Ya,Yb,Yc,Rn,Ro,Rp,Yd,Ye,Rq,Rs,Rt,Ru,Rv,Rw,Rx]
        rw[← hW]
        have hn4:=ho4.1
        refine ih (k+1) s4 r _ _ _ _ _ hd' hlt ⟨⟨us',?_,by rw[Jj hx];exact hr',?_⟩,old3.trans (ho4.mono (by omega)),by omega⟩ (hframe (k+1) s3 s4 l3 ho4.but hlt3 (ho4.2 l hlt3)) hend hret
        · rcases hdis with ⟨rfl, rfl⟩ | ⟨i, Z, rfl, ⟨rw1, q1, q2, q3, q4, q5⟩, hZ, hi1, hi2⟩
          · exact k1.frame hn4 fun j hj _=>ho4.2 j hj
          · refine .inr ⟨i,Z,rw1,rfl,q1,q2,q5,?_,hi2⟩
            have:=List.length_pos_iff.2 hZ
            simp;omega
        · rcases hdis with ⟨rfl, rfl⟩ | ⟨i, Z, rfl, hz, hZ, hi1, hi2⟩
          · exact h3
          · intro e
            simp only[CU]at e
            injection e with e
            omega
      | false =>
        obtain⟨a',f1,f2,f3⟩:=k1.full
        have hln:=k1.len s3
        have b1:=Cd (P:=Try.prog) (t:=22) (v:=u) Try.underlying22 BU TD rfl hu.isCell.2
        have hms:∀ (m:Nat) (i:Nat),Bv.val i (.slice m)=.slice (some (i,0)) m (some m):=fun _ _=>rfl
        obtain⟨v',s4,O',p1,p2,p3,p4,p5,p6⟩:=Z6 f2 (by omega) hu.isCell.1
        simp only[Bool.not_true,Yf,K8,ld0,iB,hln,f1,K9,ld1,b1,hms,p1,Yg,e3,hcast,Qa,Qb,Qc,Qd,Qe,Qf,Qg,Qh,Qi,Qj,Qk,Ql,Qm,Qn,true_and,and_true,Qo,Qp,Qq,Qr,Qs,Qt,Qu,Qv,Qw,Qx,Qy,Qz,Ra,Rb,Rc,Rd,Re,Rf,Rg,Rh,Ri,Rj,Rk,Rl,Rm,Ya,Yb,Yc,Rn,Ro,Rp,Yd,Ye,Rq,Rs,Rt,Ru,Rv,Rw,Rx]
        rw[← hW]
        have ho4:Old s3.next s3 s4:=⟨p3,fun x hx=>p4 x hx (fun h=>by cases h)⟩
        have hn4:=ho4.1
        have k4:Ah b s4 us (Bx (T.take k)):=k2.old (ho4.mono (by omega))
        refine ih (k+1) s4 v' _ _ _ _ _ hd' hlt ⟨⟨us++[u],?_,?_,?_⟩,old3.trans (ho4.mono (by omega)),by omega⟩ (hframe (k+1) s3 s4 l3 ho4.but hlt3 (ho4.2 l hlt3)) hend hret
        · exact Dv.of_dest (by simpa using p2) (by simp)
        · rw[Jj hx]
          exact k4.append (Ah.one (hu3.old (ho4.mono (by omega)) (oD _)))
        · intro e
          rcases p6 l e with h | h
          · rw[f3]at h;exact h3 h
          · omega
    · intro s3 hf
      simp only[Bool.not_false,Qa,Qb,Qc,Qd,Qe,Qf,Qg,Qh,Qi,Qj,Qk,Ql,Qm,Qn,true_and,and_true,Qo,Qp,Qq,Qr,Qs,Qt,Qu,Qv,Qw,Qx,Qy,Qz,Ra,Rb,Rc,Rd,Re,Rf,Rg,Rh,Ri,Rj,Rk,Rl,Rm,Ya,Yb,Yc,Rn,Ro,Rp,Yd,Ye,Rq,Rs,Rt,Ru,Rv,Rw,Rx]
      exact hret s3 _ _ _ _ _ _ _ hf
set_option maxRecDepth 16000 in
theorem VU{E:Env}(hE:An E){b l bx:Nat}{s0:ASt}{v:AV}{T:As}(hT:Cc b s0 v T)(hP:Ha T)(hbl:b≤l)(hbx:Al s0 bx v)(hbxl:bx<l)(hl:l<s0.next){LI:Nat→ASt→Prop}{Fin:ASt→Prop}
    (hframe:∀k s s',LI k s→DQ l s s'→l<s.next→s'.heap.get l=s.heap.get l→LI k s') (hli:LI 0 s0)
    (hround:∀ (k:Nat) (s:ASt) (w:AV) (K:AV→ASt→Prop),k<T.length→FF b l s0 s T k w→LI k s→(∀s',DQ l s s'→LI (k+1) s'→K (.bool true) s')→(∀s',Fin s'→K (.bool false) s')→WR E l [iv (k:Int),w] K s)
    (hlast:∀ (s:ASt) (w:AV) (K:AV→ASt→Prop),FF b l s0 s T T.length w→LI T.length s→(∀c s',Fin s'→K (.bool c) s')→WR E l [iv (T.length:Int),w] K s):
    WF E 82 [.yield l,.ptr (some (bx,0))] (fun _ s'=>Fin s') s0:=by
  have ln:∀s,Ao Try.prog s 33 v=some (iv (T.length:Int)):=fun s=>by obtain⟨a,cap,rfl,_⟩:=hT;exact AZ Try.underlying33
  have ld:=hbx.load MC
  refine hE.go kx (by decide) rfl ?_
  simp only[c82,gy,gz,ld,ln,Qa,Qb,Qc,Qd,Qe,Qf,Qg,Qh,Qi,Qj,Qk,Ql,Qm,Qn,true_and,and_true,Qo,Qp,Qq,Qr,Qs,Qt,Qu,Qv,Qw,Qx,Qy,Qz,Ra,Rb,Rc,Rd,Re,Rf,Rg,Rh,Ri,Rj,Rk,Rl,Rm,Ya,Yb,Yc,Rn,Ro,Rp,Yd,Ye,Rq,Rs,Rt,Ru,Rv,Rw,Rx]
  refine Pu hE hT hP hbl hbx hbxl hframe hround T 0 s0 _ _ _ _ _ _ rfl (oK _) ⟨⟨[],Dv.nil s0,Ah.nil _ _,fun h=>by cases h⟩,Old.refl _ _,hl⟩ hli ?_ ?_
  · intro s' w' y3 y4 y8 y9 y10 hat hl'
    have ld':=(hbx.keep (hat.old.2 bx hbxl)).load MC
    simp only[if_true,YY,ld',ln,Qe,Qa,Qb,Qc,Qd,Qe,Qf,Qg,Qh,Qi,Qj,Qk,Ql,Qm,Qn,true_and,and_true,Qo,Qp,Qq,Qr,Qs,Qt,Qu,Qv,Qw,Qx,Qy,Qz,Ra,Rb,Rc,Rd,Re,Rf,Rg,Rh,Ri,Rj,Rk,Rl,Rm,Ya,Yb,Yc,Rn,Ro,Rp,Yd,Ye,Rq,Rs,Rt,Ru,Rv,Rw,Rx]
    refine hlast s' w' _ hat hl' fun c s1 h1=>?_
    simp only[Qa,Qb,Qc,Qd,Qe,Qf,Qg,Qh,Qi,Qj,Qk,Ql,Qm,Qn,true_and,and_true,Qo,Qp,Qq,Qr,Qs,Qt,Qu,Qv,Qw,Qx,Qy,Qz,Ra,Rb,Rc,Rd,Re,Rf,Rg,Rh,Ri,Rj,Rk,Rl,Rm,Ya,Yb,Yc,Rn,Ro,Rp,Yd,Ye,Rq,Rs,Rt,Ru,Rv,Rw,Rx]
    exact h1
  · intro s' y2 y3 y4 y7 y8 y9 y10 h1
    simp only[Qa,Qb,Qc,Qd,Qe,Qf,Qg,Qh,Qi,Qj,Qk,Ql,Qm,Qn,true_and,and_true,Qo,Qp,Qq,Qr,Qs,Qt,Qu,Qv,Qw,Qx,Qy,Qz,Ra,Rb,Rc,Rd,Re,Rf,Rg,Rh,Ri,Rj,Rk,Rl,Rm,Ya,Yb,Yc,Rn,Ro,Rp,Yd,Ye,Rq,Rs,Rt,Ru,Rv,Rw,Rx]
    exact h1
theorem S2{E:Env}(hE:An E){s:ASt}{v:AV}(hv:v.cells=[v]):WF E 54 [v] (fun r s'=>r=.func 82 [] [.ptr (some (s.next,0))]∧s'=AH s (AP 33 0 [v])) s:=by
  refine hE.go kW (by decide) rfl ?_
  have hptr:∀i,Bv.val i .ptr=.ptr (some (i,0)):=fun _=>rfl
  have hbox:CL 33 v=some (AP 33 0 [v],.ptr):=by simp[CL,hv]
  simp only[c54,fT,fU,hbox,hptr,pU,pP,Qa,Qb,Qc,Qd,Qe,Qf,Qg,Qh,Qi,Qj,Qk,Ql,Qm,Qn,true_and,and_true,Qo,Qp,Qq,Qr,Qs,Qt,Qu,Qv,Qw,Qx,Qy,Qz,Ra,Rb,Rc,Rd,Re,Rf,Rg,Rh,Ri,Rj,Rk,Rl,Rm,Ya,Yb,Yc,Rn,Ro,Rp,Yd,Ye,Rq,Rs,Rt,Ru,Rv,Rw,Rx]
theorem VR{s:ASt}{a:Option (Nat×Nat)}{cap:Option Nat}:Bg Try.prog s 23 1 (.slice a 0 cap)=some (0,[]):=by
  cases a with
  | none=>rfl
  | some io=>obtain⟨i,o⟩:=io;rfl
theorem AM.src0{b:Nat}{s:ASt}{v:AV}{cs:List AV}(h:AM b s v cs):∃a cap,v=.slice a cs.length cap∧Bg Try.prog s 23 1 v=some (cs.length,cs):=by
  obtain⟨a,cap,rfl,hc⟩:=h
  refine⟨a,cap,rfl,?_⟩
  cases cs with
  | nil=>exact VR
  | cons x cs=>exact AM.src hc rfl (by simp)
theorem T7{s:ASt}{i b:Nat}{A Z add:List AV}{u:AV}(h:BD s i (A++Z))(hu:AM b s u add)(hfit:add.length≤Z.length)(hc:Af add=true)(hl:A.length+add.length≤1000000):
    ∃s',AY Try.prog s [22,22] [.slice (some (i,0)) A.length none,u]=some (.slice (some (i,0)) (A++add).length none,s')∧BD s' i ((A++add)++Z.drop add.length)∧s'.next=s.next∧∀x,x≠i→s'.heap.get x=s.heap.get x:=by
  obtain⟨a,cap,rfl,hsrc⟩:=hu.src0
  have hx:A9 Try.prog 22=true:=JW 22 23 Try.underlying22
  rw[BO Try.underlying22 BU OZ (by decide) hx hsrc hc (by omega) (by omega)]
  obtain⟨r,q1,q2,q3,q4,q5⟩:=h
  have hrow:BA s i=some r:=by simp[BA,q1]
  have h:BD s i (A++Z):=⟨r,q1,q2,q3,q4,q5⟩
  have hfit':Nat.ble (0+(A.length+add.length) * 1) r.n=true:=A1 (by rw[q2.1];simp;omega)
  simp only[appTo,hrow,Option.bind_some,C2,q5,Dl rfl,AF,cond_true,hfit',oL]
  cases hd:add with
  | nil=>exact⟨s,rfl,by simpa using h,rfl,fun _ _=>rfl⟩
  | cons y T =>
    rw[← hd]
    obtain⟨s1,g1,g2,g3,g4⟩:=h.fill (o:=0+A.length * 1) (vs:=add) (by rw[hd];simp) (by simp;omega) hc
    refine⟨s1,by rw[g1];rfl,?_,g3,g4⟩
    have e1:0+A.length * 1=A.length:=by omega
    rw[e1,List.take_left' rfl,← pZ,List.drop_left' rfl]at g2
    exact g2
theorem T2{s:ASt}{b:Nat}{u:AV}(hu:AM b s u []):AY Try.prog s [22,22] [.slice none 0 (some 0),u]=some (.slice none 0 (some 0),s):=by
  obtain⟨a,cap,rfl,hsrc⟩:=hu.src0
  rw[BO Try.underlying22 BU OZ (by decide) (JW 22 23 Try.underlying22) hsrc rfl (by simp) (by simp)]
  rfl
theorem IA(n:Nat):Af (rep [AV.slice none 0 (some 0)] n)=true:=by
  induction n with
  | zero=>rfl
  | succ n ih=>exact GF rfl ih
theorem OA(n:Nat):(rep [AV.slice none 0 (some 0)] n).length=n:=by
  induction n with
  | zero=>rfl
  | succ n ih=>show([_]++rep _ n).length=_;rw[oL,ih];simp;omega
set_option maxRecDepth 8000 in
theorem Uf{E:Env}(hE:An E){s:ASt}{n:Nat}(hn:n≤1000000):
    WF E 84 [.slice none 0 (some 0),iv (n:Int)] (fun r s'=>(n=0∧r=.slice none 0 (some 0)∧s'=s∨∃i Z,0<n∧r=.slice (some (i,0)) 0 none∧BD s' i Z∧Z.length=n∧s.next≤i∧i<s'.next∧Af Z=true)∧Old s.next s s') s:=by
  refine hE.go kz (by decide) rfl ?_
  have h0:decide ((n:Int)<0)=false:=decide_eq_false (by omega)
  have hcap:∀s,MD Try.prog s 22 (.slice none 0 (some 0))=some (iv 0):=fun s=>by simp[MD,Try.underlying22]
  have hln:∀s,Ao Try.prog s 22 (.slice none 0 (some 0))=some (iv 0):=fun s=>by simp[Ao,Try.underlying22]
  have e1:=CD Try.prog 3 0 0 ⟨by decide,by decide⟩
  have e2:=CD Try.prog 3 (n:Int) 0 ⟨by omega,by omega⟩
  have e0:(0:Int) - 0=0:=rfl
  have en:(n:Int) - 0=(n:Int):=by omega
  cases pO n with
  | inl hz =>
    subst hz
    have h1:decide ((0:Int)<((0:Nat):Int))=false:=rfl
    simp only[c84,Yh,Yi,Yj,Yk,Yl,h0,hcap,hln,e1,e0,e2,en,h1,Qa,Qb,Qc,Qd,Qe,Qf,Qg,Qh,Qi,Qj,Qk,Ql,Qm,Qn,true_and,and_true,Qo,Qp,Qq,Qr,Qs,Qt,Qu,Qv,Qw,Qx,Qy,Qz,Ra,Rb,Rc,Rd,Re,Rf,Rg,Rh,Ri,Rj,Rk,Rl,Rm,Ya,Yb,Yc,Rn,Ro,Rp,Yd,Ye,Rq,Rs,Rt,Ru,Rv,Rw,Rx]
    exact⟨.inl trivial,Old.refl _ _⟩
  | inr hp =>
    have h1:decide ((0:Int)<(n:Int))=true:=decide_eq_true (by omega)
    have hb0:∀m,At (iv 0) m=some 0:=fun m=>by simp[At,Cu,Ms,AF,A1 (oK m)]
    have hs0:AW Try.prog 22 false true false s [.slice none 0 (some 0),iv 0]=some (.slice none 0 (some 0)):=by
      show Ap Try.prog s 22 (.slice none 0 (some 0)) none (some (iv 0)) none=_
      simp[Ap,Try.underlying22,BU,hb0]
    have hint:LQ Try.prog 3=true:=by simp[LQ,Try.underlying3]
    have hsrc:Bg Try.prog s 23 1 (iv (n:Int))=some (n,rep [AV.slice none 0 (some 0)] n):=by
      show AF (Nat.ble n 1099511627776 && Nat.blt 0 n) ((B9 Try.prog 23).bind fun z=>AF (Nat.beq z.cells.length 1) (some (n,rep z.cells n)))=_
      simp[A1 (show n≤1099511627776 by omega),NP hp,AF,TD,AV.cells]
    have happ:AY Try.prog s [22,3] [.slice none 0 (some 0),iv (n:Int)]=some (.slice (some (s.next,0)) n none,AH s (B6 23 1 (Aj.fill .leaf 0 (rep [AV.slice none 0 (some 0)] n)) n none)):=by
      simp[AY,Try.underlying22,BU,OZ,AF,hint,hsrc,IA,A1 (show n≤1099511627776 by omega),A1 (show n * 24≤1099511627776 by omega),appTo,EB (show n≠0 by omega),BV,OP,OA,show Nat.beq 1 0=false from rfl]
    generalize hs1:AH s (B6 23 1 (Aj.fill .leaf 0 (rep [AV.slice none 0 (some 0)] n)) n none)=s1 at happ
    have n1:s1.next=s.next+1:=by rw[← hs1];rfl
    have o1:Old s.next s s1:=by rw[← hs1];exact Old.new s _
    have hrow:BD s1 s.next (rep [AV.slice none 0 (some 0)] n):=by
      refine⟨{ elem:=23,sz:=1,n,c:=Aj.fill .leaf 0 (rep [AV.slice none 0 (some 0)] n),spare:=true,mode:=.own,par:=none,bytes:=false },by rw[← hs1,AO,if_pos rfl];rfl,⟨(OA n).symm,fun k u hk=>?_⟩,rfl,rfl,rfl⟩
      have hlt:=Ab hk
      show(Aj.fill .leaf 0 _).get k=some u
      rw[Aj.get_fill,if_pos ⟨oK _,by omega⟩]
      simpa using hk
    have h2:=T3 Try.underlying22 BU (n:=n) (k:=0) hrow (oK _)
    have h2':AW Try.prog 22 false true false s1 [.slice (some (s.next,0)) n none,iv 0]=some (.slice (some (s.next,0)) 0 none):=h2
    simp only[c84,Yh,Yi,Yj,Yk,iK,Yl,h0,hcap,hln,e1,e0,e2,en,h1,hs0,happ,h2',Qa,Qb,Qc,Qd,Qe,Qf,Qg,Qh,Qi,Qj,Qk,Ql,Qm,Qn,true_and,and_true,Qo,Qp,Qq,Qr,Qs,Qt,Qu,Qv,Qw,Qx,Qy,Qz,Ra,Rb,Rc,Rd,Re,Rf,Rg,Rh,Ri,Rj,Rk,Rl,Rm,Ya,Yb,Yc,Rn,Ro,Rp,Yd,Ye,Rq,Rs,Rt,Ru,Rv,Rw,Rx]
    exact⟨.inr ⟨s.next,_,hp,rfl,hrow,OA n,oD _,by omega,IA n⟩,o1⟩
set_option maxRecDepth 16000 in
theorem UU{E:Env}(hE:An E){s:ASt}{q b:Nat}{u1 u2:AV}{A B:List AV}(hq:q<s.next)(h1:load1 s q 0=some u1)(h2:load1 s q 1=some u2)(hb:b≤s.next)(hA:AM b s u1 A)(hB:AM b s u2 B)(hcA:Af A=true)(hcB:Af B=true)(hlA:A.length≤1000)(hlB:B.length≤1000):
    WF E 55 [.slice (some (q,0)) 2 (some 2)] (fun r s'=>AM s'.next s' r (A++B)∧(∀j,CU r=some j→s.next≤j)∧Old s.next s s') s:=by
  refine hE.go kX (by decide) rfl ?_
  have len1:∀s',Ao Try.prog s' 22 u1=some (iv (A.length:Int)):=fun s'=>by obtain⟨a,cap,rfl,_⟩:=hA;exact AZ Try.underlying22
  have len2:∀s',Ao Try.prog s' 22 u2=some (iv (B.length:Int)):=fun s'=>by obtain⟨a,cap,rfl,_⟩:=hB;exact AZ Try.underlying22
  have i0:=Aw (P:=Try.prog) (t:=110) (cap:=some 2) (i:=q) (o:=0) (len:=2) (k:=0) Try.underlying110 aW (by decide)
  have i1:=Aw (P:=Try.prog) (t:=110) (cap:=some 2) (i:=q) (o:=0) (len:=2) (k:=1) Try.underlying110 aW (by decide)
  have i0':AC Try.prog 110 (.slice (some (q,0)) 2 (some 2)) (iv 0)=some (.ptr (some (q,0))):=i0
  have i1':AC Try.prog 110 (.slice (some (q,0)) 2 (some 2)) (iv 1)=some (.ptr (some (q,1))):=i1
  have l1:∀s',Old s.next s s'→AD Try.prog s' 22 (.ptr (some (q,0)))=some u1:=fun s' h=>A7 MB (by rw[CE (h.2 q hq)];exact h1)
  have l2:∀s',Old s.next s s'→AD Try.prog s' 22 (.ptr (some (q,1)))=some u2:=fun s' h=>A7 MB (by rw[CE (h.2 q hq)];exact h2)
  have c01:decide ((0:Int)<2)=true:=rfl
  have c12:decide ((1:Int)<2)=true:=rfl
  have c22:decide ((2:Int)<2)=false:=rfl
  have a01:=Aq Try.prog 3 0 1 ⟨by decide,by decide⟩
  have a11:=Aq Try.prog 3 1 1 ⟨by decide,by decide⟩
  have t01:(0:Int)+1=1:=rfl
  have t11:(1:Int)+1=2:=rfl
  have t2:((2:Nat):Int)=2:=rfl
  have aA:=Aq Try.prog 3 0 (A.length:Int) ⟨by omega,by omega⟩
  have tA:(0:Int)+(A.length:Int)=(A.length:Int):=by omega
  have aB:=Aq Try.prog 3 (A.length:Int) (B.length:Int) ⟨by omega,by omega⟩
  have tB:(A.length:Int)+(B.length:Int)=((A.length+B.length:Nat):Int):=by omega
  have nA:decide ((A.length:Int)<0)=false:=decide_eq_false (by omega)
  have nB:decide (((A.length+B.length:Nat):Int)<0)=false:=decide_eq_false (by omega)
  have r0:=l1 s (Old.refl _ _)
  have r1:=l2 s (Old.refl _ _)
  simp only[c55,fV,fW,fX,AZ Try.underlying110,t2,Qa,Qb,Qc,Qd,Qe,Qf,Qg,Qh,Qi,Qj,Qk,Ql,Qm,Qn,true_and,and_true,Qo,Qp,Qq,Qr,Qs,Qt,Qu,Qv,Qw,Qx,Qy,Qz,Ra,Rb,Rc,Rd,Re,Rf,Rg,Rh,Ri,Rj,Rk,Rl,Rm,Ya,Yb,Yc,Rn,Ro,Rp,Yd,Ye,Rq,Rs,Rt,Ru,Rv,Rw,Rx]
  refine WC.loop' ?_
  generalize hW:WC E none (AX.loop Ok) _=W
  simp only[Ok,TY,X0,X1,X2,X3,c01,i0',r0,len1,aA,tA,nA,a01,t01,Qa,Qb,Qc,Qd,Qe,Qf,Qg,Qh,Qi,Qj,Qk,Ql,Qm,Qn,true_and,and_true,Qo,Qp,Qq,Qr,Qs,Qt,Qu,Qv,Qw,Qx,Qy,Qz,Ra,Rb,Rc,Rd,Re,Rf,Rg,Rh,Ri,Rj,Rk,Rl,Rm,Ya,Yb,Yc,Rn,Ro,Rp,Yd,Ye,Rq,Rs,Rt,Ru,Rv,Rw,Rx]
  rw[← hW]
  refine WC.loop' ?_
  rw[hW]
  simp only[Ok,TY,X0,X1,X2,X3,c12,i1',r1,len2,aB,tB,nB,a11,t11,Qa,Qb,Qc,Qd,Qe,Qf,Qg,Qh,Qi,Qj,Qk,Ql,Qm,Qn,true_and,and_true,Qo,Qp,Qq,Qr,Qs,Qt,Qu,Qv,Qw,Qx,Qy,Qz,Ra,Rb,Rc,Rd,Re,Rf,Rg,Rh,Ri,Rj,Rk,Rl,Rm,Ya,Yb,Yc,Rn,Ro,Rp,Yd,Ye,Rq,Rs,Rt,Ru,Rv,Rw,Rx]
  rw[← hW]
  refine WC.loop' ?_
  rw[hW]
  simp only[Ok,TY,c22,if_true,fY,Qa,Qb,Qc,Qd,Qe,Qf,Qg,Qh,Qi,Qj,Qk,Ql,Qm,Qn,true_and,and_true,Qo,Qp,Qq,Qr,Qs,Qt,Qu,Qv,Qw,Qx,Qy,Qz,Ra,Rb,Rc,Rd,Re,Rf,Rg,Rh,Ri,Rj,Rk,Rl,Rm,Ya,Yb,Yc,Rn,Ro,Rp,Yd,Ye,Rq,Rs,Rt,Ru,Rv,Rw,Rx]
  refine(Uf hE (n:=A.length+B.length) (by omega)).mono ?_
  rintro w s1 ⟨hw,ho1⟩
  simp only[Xz,AZ Try.underlying110,t2,Qa,Qb,Qc,Qd,Qe,Qf,Qg,Qh,Qi,Qj,Qk,Ql,Qm,Qn,true_and,and_true,Qo,Qp,Qq,Qr,Qs,Qt,Qu,Qv,Qw,Qx,Qy,Qz,Ra,Rb,Rc,Rd,Re,Rf,Rg,Rh,Ri,Rj,Rk,Rl,Rm,Ya,Yb,Yc,Rn,Ro,Rp,Yd,Ye,Rq,Rs,Rt,Ru,Rv,Rw,Rx]
  have k1:=l1 s1 ho1
  have hA1:AM b s1 u1 A:=hA.old ho1 hb
  rcases hw with⟨hz,rfl,rfl⟩ | ⟨i,Z,hp,rfl,hz,hzl,hi1,hi2,hzc⟩
  · have hA0 : A = [] := List.length_eq_zero_iff.1 (by omega)
    have hB0:B=[]:=List.length_eq_zero_iff.1 (by omega)
    subst hA0;subst hB0
    have p1:=T2 hA
    have p2:=T2 hB
    refine WC.loop' ?_
    generalize hV:WC E none (AX.loop Fz) _=V
    simp only[Fz,Hh,Km,Kn,Ko,c01,i0',r0,p1,a01,t01,Qa,Qb,Qc,Qd,Qe,Qf,Qg,Qh,Qi,Qj,Qk,Ql,Qm,Qn,true_and,and_true,Qo,Qp,Qq,Qr,Qs,Qt,Qu,Qv,Qw,Qx,Qy,Qz,Ra,Rb,Rc,Rd,Re,Rf,Rg,Rh,Ri,Rj,Rk,Rl,Rm,Ya,Yb,Yc,Rn,Ro,Rp,Yd,Ye,Rq,Rs,Rt,Ru,Rv,Rw,Rx]
    rw[← hV]
    refine WC.loop' ?_
    rw[hV]
    simp only[Fz,Hh,Km,Kn,Ko,c12,i1',r1,p2,a11,t11,Qa,Qb,Qc,Qd,Qe,Qf,Qg,Qh,Qi,Qj,Qk,Ql,Qm,Qn,true_and,and_true,Qo,Qp,Qq,Qr,Qs,Qt,Qu,Qv,Qw,Qx,Qy,Qz,Ra,Rb,Rc,Rd,Re,Rf,Rg,Rh,Ri,Rj,Rk,Rl,Rm,Ya,Yb,Yc,Rn,Ro,Rp,Yd,Ye,Rq,Rs,Rt,Ru,Rv,Rw,Rx]
    rw[← hV]
    refine WC.loop' ?_
    simp only[Fz,Hh,c22,if_true,RH,Qa,Qb,Qc,Qd,Qe,Qf,Qg,Qh,Qi,Qj,Qk,Ql,Qm,Qn,true_and,and_true,Qo,Qp,Qq,Qr,Qs,Qt,Qu,Qv,Qw,Qx,Qy,Qz,Ra,Rb,Rc,Rd,Re,Rf,Rg,Rh,Ri,Rj,Rk,Rl,Rm,Ya,Yb,Yc,Rn,Ro,Rp,Yd,Ye,Rq,Rs,Rt,Ru,Rv,Rw,Rx]
    exact⟨⟨none,some 0,rfl,A8.nil⟩,(fun j h=>by cases h),Old.refl _ _⟩
  · obtain⟨s2,p1,p2,p3,p4⟩:=T7 (A:=[]) (Z:=Z) (by simpa using hz) hA1 (by omega) hcA (by simp;omega)
    have ho2:Old s.next s s2:=ho1.trans ⟨by omega,fun x hx=>p4 x (by omega)⟩
    have hB2:AM b s2 u2 B:=hB.old ho2 hb
    obtain⟨s3,g1,g2,g3,g4⟩:=T7 p2 hB2 (by simp;omega) hcB (by simp;omega)
    have ho3:Old s.next s s3:=ho2.trans ⟨by omega,fun x hx=>g4 x (by omega)⟩
    have k2:=l2 s2 ho2
    rw[pH]at p1
    refine WC.loop' ?_
    generalize hV:WC E none (AX.loop Fz) _=V
    simp only[Fz,Hh,Km,Kn,Ko,c01,i0',k1,p1,a01,t01,Qa,Qb,Qc,Qd,Qe,Qf,Qg,Qh,Qi,Qj,Qk,Ql,Qm,Qn,true_and,and_true,Qo,Qp,Qq,Qr,Qs,Qt,Qu,Qv,Qw,Qx,Qy,Qz,Ra,Rb,Rc,Rd,Re,Rf,Rg,Rh,Ri,Rj,Rk,Rl,Rm,Ya,Yb,Yc,Rn,Ro,Rp,Yd,Ye,Rq,Rs,Rt,Ru,Rv,Rw,Rx]
    rw[← hV]
    refine WC.loop' ?_
    rw[hV]
    simp only[Fz,Hh,Km,Kn,Ko,c12,i1',k2,g1,a11,t11,Qa,Qb,Qc,Qd,Qe,Qf,Qg,Qh,Qi,Qj,Qk,Ql,Qm,Qn,true_and,and_true,Qo,Qp,Qq,Qr,Qs,Qt,Qu,Qv,Qw,Qx,Qy,Qz,Ra,Rb,Rc,Rd,Re,Rf,Rg,Rh,Ri,Rj,Rk,Rl,Rm,Ya,Yb,Yc,Rn,Ro,Rp,Yd,Ye,Rq,Rs,Rt,Ru,Rv,Rw,Rx]
    rw[← hV]
    refine WC.loop' ?_
    simp only[Fz,Hh,c22,if_true,RH,Qa,Qb,Qc,Qd,Qe,Qf,Qg,Qh,Qi,Qj,Qk,Ql,Qm,Qn,true_and,and_true,Qo,Qp,Qq,Qr,Qs,Qt,Qu,Qv,Qw,Qx,Qy,Qz,Ra,Rb,Rc,Rd,Re,Rf,Rg,Rh,Ri,Rj,Rk,Rl,Rm,Ya,Yb,Yc,Rn,Ro,Rp,Yd,Ye,Rq,Rs,Rt,Ru,Rv,Rw,Rx]
    refine⟨⟨some (i,0),none,rfl,fun k u hk=>⟨i,0,rfl,by omega,?_⟩⟩,(fun j h=>by simp only[CU]at h;injection h with h;omega),ho3⟩
    rw[oN]
    rw[oz]at g2
    exact g2.load1 (by rw[oR (Ab hk)];exact hk)
def C4(fol:List (List Int)→List Int→Bool)(cs:List (List Int))(T:As):As→Nat→Nat×Bool
  | [],_=>(T.length,false)
  | (d,L)::t,k=>match d with
    | true=>C4 fol cs T t (k+1)
    | false=>match fol (cs++Bx (T.take k)) L with
      | false=>(k,false)
      | true=>if (Ae [] L).length=0 then (k,true)else C4 fol cs T t (k+1)
def F0(fol:List (List Int)→List Int→Bool)(cs:List (List Int))(T:As):Nat×Bool:=C4 fol cs T T 0
theorem O7{a:Option (Nat×Nat)}{n:Nat}{cx:Option Nat}:eqA (.slice a n cx) (.slice a n cx)=true:=by
  cases a with
  | none=>cases cx<;>simp[eqA]
  | some io=>obtain⟨i,o⟩:=io;cases cx<;>simp[eqA]
theorem AM.self{b:Nat}{s:ASt}{u:AV}{cs:List AV}(h:AM b s u cs):eqA u u=true:=by
  obtain⟨a,cap,rfl,_⟩:=h
  exact O7
theorem Cc.self{b:Nat}{s:ASt}{v:AV}{T:As}(h:Cc b s v T):eqA v v=true:=by
  obtain⟨a,cap,rfl,_⟩:=h
  exact O7
theorem Zp{b c:Nat}{s:ASt}{v:AV}{us:List AV}{cs:List (List Int)}(h:AM c s v us)(hr:Ah b s us cs)(hb:b≤c):KR c s v cs:=by
  obtain⟨a,cap,rfl,hc⟩:=h
  exact⟨a,cap,by rw[hr.1],hr.rows hc hb⟩
theorem bD{b c:Nat}{s s':ASt}{v w:AV}{us us':List AV}(hv:AM b s v us)(hw:AM c s' w us'):Ad Try.prog 110 2 (zipIdx [0,1] [v,w])=some (AP 22 1 [v,w]):=by
  obtain⟨a,cap,rfl,_⟩:=hv
  obtain⟨a',cap',rfl,_⟩:=hw
  simp[Ad,Try.underlying110,aW,AF,oB,zipIdx,Dm,AV.cells,rep]
  rfl
def GC (v tr:AV) (n0:Nat) (x6 x7 x9 x10 x11 x12 x13:AV):List AV:=[v,tr,.ptr (some (n0,0)),.ptr (some (n0+1,0)),.ptr (some (n0+2,0)),.ptr (some (n0+3,0)),x6,x7,.func 82 [] [.ptr (some (n0+4,0))],x9,x10,x11,x12,x13]
def Gk (v tr:AV) (n0:Nat) (x6 x7 x9 x10 x11 x12 x13:AV):FE:=G9 24 (GC v tr n0 x6 x7 x9 x10 x11 x12 x13) #[10,11] a24 b24 (n0+5)
structure HO(v tr:AV)(n0:Nat)(s:ASt):Prop where
  bc:Al s n0 v
  bt:Al s (n0+1) tr
  bi:Al s (n0+2) (iv 0)
  bb:Al s (n0+3) (.bool false)
  mrk:s.heap.get (n0+5)=some .mark
theorem HO.old{v tr:AV}{n0 l:Nat}{s s':ASt}(h:HO v tr n0 s)(k:Old l s s')(hl:n0+6≤l):HO v tr n0 s':=
  ⟨h.bc.keep (k.2 _ (by omega)),h.bt.keep (k.2 _ (by omega)),h.bi.keep (k.2 _ (by omega)),h.bb.keep (k.2 _ (by omega)),(k.2 _ (by omega)).trans h.mrk⟩
def TH(v tr:AV)(n0:Nat)(s0:ASt)(R:Nat×Bool)(len:Nat)(s':ASt):Prop:=Old n0 s0 s'∧n0+6<s'.next∧s'.heap.get (n0+5)=some .mark∧∃r,A3 s' (n0+6)=some r∧LP r.state=false ∧
  ((r.pending=some .ret∧Al s' (n0+2) (iv (R.1:Int))∧Al s' (n0+3) (.bool R.2))∨(r.pending=none∧R=(len,false)∧HO v tr n0 s'))
def ai(fol:List (List Int)→List Int→Bool)(cs:List (List Int))(T:As)(v tr:AV)(n0:Nat)(R:Nat×Bool)(k:Nat)(s:ASt):Prop:=C4 fol cs T (T.drop k) k=R∧∃x6 x7 x9 x10 x11 x12 x13,A3 s (n0+6)=some (Gk v tr n0 x6 x7 x9 x10 x11 x12 x13)
set_option maxRecDepth 16000 in
theorem Oy          {E : Env} (hE : An   E) {sa s0 : ASt} {n0 b : Nat} {v tr : AV} {us : List AV} {cs : List (List Int)} {T : As}      (hn0 : sa.next = n0) (hb : b ≤ n0) (hv : AM      n0 sa v us) (hr : Ah       b sa us cs) (hcs : Vi    cs)
    (hT:Cc b sa tr T) (hP:Ha T) {fol:List (List Int)→List Int→Bool} (hfol:∀k L,T[k]? = some (false,L)→∃n,EJ n (cs++Bx (T.take k)) L=some (fol (cs++Bx (T.take k)) L))
    (h0:Old n0 sa s0) (hmem:HO v tr n0 s0) {R:Nat×Bool} {k:Nat} {s:ASt} {w:AV} {K:AV→ASt→Prop} (hk:k<T.length) (hat:FF b (n0+6) s0 s T k w) (hli:ai fol cs T v tr n0 R k s)
    (hgo:∀s',DQ (n0+6) s s'→ai fol cs T v tr n0 R (k+1) s'→K (.bool true) s') (hend:∀s',TH v tr n0 sa R T.length s'→K (.bool false) s'):WR E (n0+6) [iv (k:Int),w] K s:=by
  obtain⟨hR,x6,x7,x9,x10,x11,x12,x13,hlp⟩:=hli
  have hz:DA (DV E.P 24) (GC v tr n0 x6 x7 x9 x10 x11 x12 x13) [10,11] [iv (k:Int),w]=some (GC v tr n0 x6 x7 (iv (k:Int)) w x11 x12 x13):=by
    rw[hE.P,ac];rfl
  refine WR.round hlp hz (by rw[hE.P];exact ni) (by rw[hE.P];exact nj) ?_
  refine EE ?_
  simp only[kA,XN,XO,GC,Qa,Qb,Qc,Qd,Qe,Qf,Qg,Qh,Qi,Qj,Qk,Ql,Qm,Qn,true_and,and_true,Qo,Qp,Qq,Qr,Qs,Qt,Qu,Qv,Qw,Qx,Qy,Qz,Ra,Rb,Rc,Rd,Re,Rf,Rg,Rh,Ri,Rj,Rk,Rl,Rm,Ya,Yb,Yc,Rn,Ro,Rp,Yd,Ye,Rq,Rs,Rt,Ru,Rv,Rw,Rx]
  refine⟨_,hlp,rfl,EE ?_⟩
  generalize hs1:setObj s (n0+6) _=s1
  have n1:s1.next=s.next:=by rw[← hs1];rfl
  have l1:A3 s1 (n0+6)=some { Gk v tr n0 x6 x7 x9 x10 x11 x12 x13 with state:=.busy }:=by rw[← hs1,B7]
  have hlt:=hat.lt
  have o1:DQ (n0+6) s s1:=⟨by omega,fun x _ hx=>by rw[← hs1,Ai,if_neg hx]⟩
  have old1:Old (n0+6) s0 s1:=hat.old.trans (o1.old (by omega))
  have olda:Old n0 sa s1:=h0.trans (old1.mono (by omega))
  have m1:=hmem.old old1 (oD _)
  obtain⟨a,cap,htv,hc⟩:=hT.old olda hb
  have hP1:=hP.1
  have hx:T[k]? = some T[k]:=oM hk
  generalize hdl:T[k]=dl at hx
  obtain⟨d,L⟩:=dl
  have hdrop:T.drop k=(d,L)::T.drop (k+1):=by rw[pz hk,hdl]
  obtain⟨i,o,u,ha,hi,hl1,hl2,hu⟩:=hc k d L hx
  have hln:∀s,Ao Try.prog s 33 tr=some (iv (T.length:Int)):=fun s=>by rw[htv];exact AZ Try.underlying33
  have e1:AC Try.prog 33 tr (iv (k:Int))=some (.ptr (some (i,o+k * 2))):=by rw[htv,ha];exact Aw Try.underlying33 OK hk
  have e2:AD Try.prog s1 4 (.ptr (some (i,o+k * 2)))=some (.bool d):=A7 ag4 hl1
  have ltr:=m1.bt.load MC
  have hne:decide ((k:Int)=(T.length:Int))=false:=decide_eq_false (by omega)
  have hPL:H0 L:=hP.2 _ (oG hx)
  cases d with
  | true =>
    simp only[bs,TV,ltr,hln,hne,e1,K8,e2,if_true,Qa,Qb,Qc,Qd,Qe,Qf,Qg,Qh,Qi,Qj,Qk,Ql,Qm,Qn,true_and,and_true,Qo,Qp,Qq,Qr,Qs,Qt,Qu,Qv,Qw,Qx,Qy,Qz,Ra,Rb,Rc,Rd,Re,Rf,Rg,Rh,Ri,Rj,Rk,Rl,Rm,Ya,Yb,Yc,Rn,Ro,Rp,Yd,Ye,Rq,Rs,Rt,Ru,Rv,Rw,Rx]
    refine⟨_,l1,?_⟩
    refine hgo _ ?_ ⟨?_,x6,x7,x9,x10,x11,x12,x13,?_⟩
    · exact o1.trans ⟨oD _,fun x _ hx=>by rw[Ai,if_neg hx]⟩
    · rw[← hR,hdrop];rfl
    · rw[B7];rfl
  | false =>
    obtain⟨us2,hw1,hw2,hw3⟩:=hat.ex
    have hw1:Dv s1 w us2:=hw1.frame o1.1 fun j hj hs=>o1.2 j hj (fun e=>hw3 (by rw[hs,e]))
    have hw2:Ah b s1 us2 (Bx (T.take k)):=hw2.old ((o1.old (by omega)).mono (by omega))
    have lcl:=m1.bc.load MB
    have hv1:AM n0 s1 v us:=hv.old olda (oD _)
    have hr1:Ah b s1 us cs:=hr.old (olda.mono hb)
    have hb2:=bD hv hw1.slice
    have hms:∀ (m:Nat) (i:Nat),Bv.val i (.slice m)=.slice (some (i,0)) m (some m):=fun _ _=>rfl
    have e3:∀s',Old n0 s1 s'→AD Try.prog s' 23 (.ptr (some (i,o+k * 2+1)))=some u:=fun s' h=>A7 C1 (by rw[CE (h.2 i (by omega))];exact hl2)
    generalize hs2:AH s1 (AP 22 1 [v,w])=s2
    have n2:s2.next=s1.next+1:=by rw[← hs2];rfl
    have o2:Old s1.next s1 s2:=by rw[← hs2];exact Old.new s1 _
    obtain⟨rr,q1,q2,_⟩:=Bo 22 1 [v,w]
    have g0:load1 s2 s1.next 0=some v:=BW (by rw[← hs2,AO,if_pos rfl,q1]) (by rw[q2.1];simp) (q2.2 0 v rfl)
    have g1:load1 s2 s1.next 1=some w:=BW (by rw[← hs2,AO,if_pos rfl,q1]) (by rw[q2.1];simp) (q2.2 1 w rfl)
    have ltr2:=(m1.bt.keep (o2.2 _ (by omega))).load MC
    have lcs:=hcs.1
    have hlen2:us2.length≤900:=by rw[hw2.1];exact(hP.learn k).2
    simp only[bs,TV,eB,ltr,hln,hne,e1,K8,K9,e2,lcl,hb2,hs2,hms,ltr2,e3 s2 (o2.mono (by omega)),Qa,Qb,Qc,Qd,Qe,Qf,Qg,Qh,Qi,Qj,Qk,Ql,Qm,Qn,true_and,and_true,Qo,Qp,Qq,Qr,Qs,Qt,Qu,Qv,Qw,Qx,Qy,Qz,Ra,Rb,Rc,Rd,Re,Rf,Rg,Rh,Ri,Rj,Rk,Rl,Rm,Ya,Yb,Yc,Rn,Ro,Rp,Yd,Ye,Rq,Rs,Rt,Ru,Rv,Rw,Rx]
    refine(UU hE (q:=s1.next) (b:=s1.next) (by omega) g0 g1 (by omega) ((hv1.mono (by omega)).old o2 (oD _)) (hw1.slice.old o2 (oD _)) hr1.cells hw2.cells (by rw[hr1.1];omega) (by omega)).mono ?_
    rintro r s3 ⟨hr3,_,ho3⟩
    have o13:Old s1.next s1 s3:=o2.trans (ho3.mono (by omega))
    have ltr3:=(m1.bt.keep (o13.2 _ (by omega))).load MC
    have hrows:Ah b s3 (us++us2) (cs++Bx (T.take k)):=(hr1.append hw2).old (o13.mono (by omega))
    have hu3:AM b s3 u (ivs L):=hu.old (o13.mono (by omega)) (oD _)
    have hselfT:eqA tr tr=true:=hT.self
    have n13:=o13.1
    obtain⟨n,hn⟩:=hfol k L hx
    have hfits:UF (cs++Bx (T.take k)):=by
      refine⟨by have:=(hP.learn k).2;simp;omega,fun M hM=>?_⟩
      rcases pg.1 hM with h | h
      · have:=hcs.2 M h
        exact⟨this.1,by omega⟩
      · have:=(hP.learn k).1 M h
        exact⟨this.1,by have:=this.2.2;omega⟩
    simp only[BR,Az,e3 s3 (o13.mono (by omega)),hu.self,ltr3,hselfT,Qa,Qb,Qc,Qd,Qe,Qf,Qg,Qh,Qi,Qj,Qk,Ql,Qm,Qn,true_and,and_true,Qo,Qp,Qq,Qr,Qs,Qt,Qu,Qv,Qw,Qx,Qy,Qz,Ra,Rb,Rc,Rd,Re,Rf,Rg,Rh,Ri,Rj,Rk,Rl,Rm,Ya,Yb,Yc,Rn,Ro,Rp,Yd,Ye,Rq,Rs,Rt,Ru,Rv,Rw,Rx]
    refine(LJ hE hfits hPL.1 (by have:=hPL.2.2;omega) (Zp hr3 hrows (by omega)) (hu3.mono (by omega)) hn).mono ?_
    rintro _ s4 ⟨rfl,ho4⟩
    have o14:Old s1.next s1 s4:=o13.trans (ho4.1.mono (by omega))
    have n14:=o14.1
    have l4:A3 s4 (n0+6)=some { Gk v tr n0 x6 x7 x9 x10 x11 x12 x13 with state:=.busy }:=by rw[Dc (o14.2 _ (by omega))];exact l1
    have m4:HO v tr n0 s4:=m1.old (o14.mono (show n0+6≤s1.next by omega)) (oD _)
    have fin:∀ (s5:ASt) (c:Bool),HO v tr n0 s5→Old s1.next s1 s5→A3 s5 (n0+6)=some { Gk v tr n0 x6 x7 x9 x10 x11 x12 x13 with state:=.busy }→R=(k,c) →
        ∃s6 s7,AN Try.prog s5 3 (.ptr (some (n0+2,0))) (iv (k:Int))=some s6∧AN Try.prog s6 4 (.ptr (some (n0+3,0))) (.bool c)=some s7∧A3 s7 (n0+6)=some { Gk v tr n0 x6 x7 x9 x10 x11 x12 x13 with state:=.busy } ∧
          ∀ (r':FE),LP r'.state=false→r'.pending=some .ret→TH v tr n0 sa R T.length (setObj s7 (n0+6) (.loop r')):=by
      intro s5 c m5 o5 l5 hRk
      obtain⟨s6,p1,p2,p3,p4⟩:=m5.bi.store (d:=iv (k:Int)) sz3 rfl rfl
      obtain⟨s7,r1,r2,r3,r4⟩:=(m5.bb.keep (p4 _ (by omega))).store (d:=.bool c) sz4 rfl rfl
      refine⟨s6,s7,p1,r1,by rw[Dc ((r4 _ (by omega)).trans (p4 _ (by omega)))];exact l5,fun r' h1 h2=>?_⟩
      have n5:=o5.1
      refine⟨?_,by show n0+6<s7.next;omega,by rw[Ai,if_neg (by omega),r4 _ (by omega),p4 _ (by omega)];exact m5.mrk,r',B7 _ _ _,h1,.inl ⟨h2,?_,?_⟩⟩
      · refine olda.trans ⟨by show s1.next ≤ s7.next; omega, fun x hx => ?_⟩
        rw[Ai,if_neg (by omega),r4 x (by omega),p4 x (by omega),o5.2 x (by omega)]
      · rw[hRk]
        exact(p2.keep (r4 _ (by omega))).keep (by rw[Ai,if_neg (by omega)])
      · rw[hRk]
        exact r2.keep (by rw[Ai,if_neg (by omega)])
    by_cases hf:fol (cs++Bx (T.take k)) L=true
    · have e34 := e3 s4 (o14.mono (by omega))
      have ltr4:=m4.bt.load MC
      have hu4:AM b s4 u (ivs L):=hu.old (o14.mono (by omega)) (oD _)
      simp only[hf,Bool.not_true,eD,ltr4,e1,K9,e34,Qa,Qb,Qc,Qd,Qe,Qf,Qg,Qh,Qi,Qj,Qk,Ql,Qm,Qn,true_and,and_true,Qo,Qp,Qq,Qr,Qs,Qt,Qu,Qv,Qw,Qx,Qy,Qz,Ra,Rb,Rc,Rd,Re,Rf,Rg,Rh,Ri,Rj,Rk,Rl,Rm,Ya,Yb,Yc,Rn,Ro,Rp,Yd,Ye,Rq,Rs,Rt,Ru,Rv,Rw,Rx]
      refine(Kx hE hPL.1 hPL.2.1 hPL.2.2 (b:=b) (by omega) hu4).mono ?_
      rintro q s5 ⟨hq1,hq2,_⟩
      rw[Kw hPL.2.1]at hq1
      have n5:=hq2.1
      have o15:Old s1.next s1 s5:=o14.trans (hq2.mono (by omega))
      have hlq:Ao Try.prog s5 23 q=some (iv ((Ae [] L).length:Int)):=by
        obtain⟨qa,qc,rfl,_⟩:=hq1
        rw[AZ Try.underlying23,Ce]
      have l5:A3 s5 (n0+6)=some { Gk v tr n0 x6 x7 x9 x10 x11 x12 x13 with state:=.busy }:=by rw[Dc (hq2.2 _ (by omega))];exact l4
      by_cases hcl:(Ae [] L).length=0
      · have hd0:decide (((Ae [] L).length:Int)=0)=true:=decide_eq_true (by omega)
        obtain⟨s6,s7,p1,p2,p3,p4⟩:=fin s5 true (m4.old (hq2.mono (show n0+6≤s4.next by omega)) (oD _)) o15 l5 (by rw[← hR,hdrop];simp only[C4,hf,hcl,if_true])
        simp only[hlq,hd0,eE,on2,p1,p2,AT,Qa,Qb,Qc,Qd,Qe,Qf,Qg,Qh,Qi,Qj,Qk,Ql,Qm,Qn,true_and,and_true,Qo,Qp,Qq,Qr,Qs,Qt,Qu,Qv,Qw,Qx,Qy,Qz,Ra,Rb,Rc,Rd,Re,Rf,Rg,Rh,Ri,Rj,Rk,Rl,Rm,Ya,Yb,Yc,Rn,Ro,Rp,Yd,Ye,Rq,Rs,Rt,Ru,Rv,Rw,Rx]
        exact⟨_,p3,hend _ (p4 _ rfl rfl)⟩
      · have hd0:decide (((Ae [] L).length:Int)=0)=false:=decide_eq_false (by omega)
        simp only[hlq,hd0,Qa,Qb,Qc,Qd,Qe,Qf,Qg,Qh,Qi,Qj,Qk,Ql,Qm,Qn,true_and,and_true,Qo,Qp,Qq,Qr,Qs,Qt,Qu,Qv,Qw,Qx,Qy,Qz,Ra,Rb,Rc,Rd,Re,Rf,Rg,Rh,Ri,Rj,Rk,Rl,Rm,Ya,Yb,Yc,Rn,Ro,Rp,Yd,Ye,Rq,Rs,Rt,Ru,Rv,Rw,Rx]
        refine⟨_,l5,?_⟩
        refine hgo _ ?_ ⟨?_,x6,x7,x9,x10,x11,x12,x13,?_⟩
        · refine o1.trans ⟨by show s1.next ≤ s5.next; omega, fun x hx hne => ?_⟩
          rw[Ai,if_neg hne,o15.2 x hx]
        · rw[← hR,hdrop];simp only[C4,hf,hcl,if_false]
        · rw[B7];rfl
    · have hf:fol (cs++Bx (T.take k)) L=false:=by simpa using hf
      obtain⟨s6,s7,p1,p2,p3,p4⟩:=fin s4 false m4 o14 l4 (by rw[← hR,hdrop];simp only[C4,hf])
      simp only[hf,Bool.not_false,eC,on2,p1,p2,AT,Qa,Qb,Qc,Qd,Qe,Qf,Qg,Qh,Qi,Qj,Qk,Ql,Qm,Qn,true_and,and_true,Qo,Qp,Qq,Qr,Qs,Qt,Qu,Qv,Qw,Qx,Qy,Qz,Ra,Rb,Rc,Rd,Re,Rf,Rg,Rh,Ri,Rj,Rk,Rl,Rm,Ya,Yb,Yc,Rn,Ro,Rp,Yd,Ye,Rq,Rs,Rt,Ru,Rv,Rw,Rx]
      exact⟨_,p3,hend _ (p4 _ rfl rfl)⟩
def Vs(b n:Nat):Bool:=decide (b / 2 ^ n % 2=1)
def cg(x:Option AV)(q:Nat):Bool:=match x with
  | some (.int .i64 (.ofNat m))=>Nat.beq m q
  | _=>false
theorem Tv{x:Option AV}{q:Nat}(h:cg x q=true):x=some (iv (q:Int)):=by
  unfold cg at h
  split at h
  · rw[pI h];rfl
  · cases h
theorem dL:((List.range 64).all fun b=>(List.range 6).all fun n=>cg (AI Try.prog .shr 3 (.int .i64 (.ofNat b)) (.int .i64 (.ofNat n))) (b / 2 ^ n))=true:=by kernel_rfl
theorem aq:((List.range 64).all fun b=>cg (AI Try.prog .and 3 (.int .i64 (.ofNat b)) (.int .i64 (.ofNat 1))) (b % 2))=true:=by kernel_rfl
theorem TQ{b n:Nat}(hb:b<64)(hn:n<6):AI Try.prog .shr 3 (iv (b:Int)) (iv (n:Int))=some (iv ((b / 2 ^ n:Nat):Int)):=
  Tv (List.all_eq_true.1 (List.all_eq_true.1 dL b (List.mem_range.2 hb)) n (List.mem_range.2 hn))
theorem TP{b:Nat}(hb:b<64):AI Try.prog .and 3 (iv (b:Int)) (iv 1)=some (iv ((b % 2:Nat):Int)):=
  Tv (List.all_eq_true.1 aq b (List.mem_range.2 hb))
def Six(L:List Int):Prop:=∀x∈L,-6≤x∧x≤6
def Mq(b:Nat)(x:Int):Bool:=if 0<x then Vs b (x - 1).toNat else if x<0 then !Vs b (-x - 1).toNat else false
def CP(b:Nat)(c:List Int):Bool:=c.any (Mq b)
def F4(cs:List (List Int)):Nat:=((List.range 64).filter fun b=>cs.all (CP b)).length
set_option maxRecDepth 16000 in
theorem Zk       {E : Env} {s : ASt} {b : Nat} (hb : b < 64) {x : Int} (hx : -6 ≤ x ∧ x ≤ 6) (v1 v2 v3 v5 v6 : AV) {K : List AV → ASt → Prop} (hK : K [iv (b : Int), v1, v2, v3, iv x, v5, .bool (Mq    b x)] s) :
    Qb E MX K [] [iv (b:Int),v1,v2,v3,iv x,v5,v6] s:=by
  unfold Mq at hK
  by_cases hp:0<x
  · have e0 : decide ((0 : Int) < x) = true := decide_eq_true hp
    have hn:(x - 1).toNat<6:=by omega
    have hc:x - 1=(((x - 1).toNat:Nat):Int):=by omega
    have e1:=CD Try.prog 3 x 1 ⟨by omega,by omega⟩
    generalize (x - 1).toNat=n at hn hc hK
    rw[hc]at e1
    have e2:=TQ hb hn
    have hq:b / 2 ^ n<64:=Nat.lt_of_le_of_lt (Nat.div_le_self _ _) hb
    have e3:=TP hq
    rw[if_pos hp]at hK
    unfold Vs at hK
    have hd:decide (((b / 2 ^ n % 2:Nat):Int)=1)=decide (b / 2 ^ n % 2=1):=by
      exact decide_eq_decide.2 (by omega)
    cases hbit:decide (b / 2 ^ n % 2=1)with
    | true =>
      rw[hbit]at hK hd
      simp only[MX,e0,e1,e2,e3,hd,beq_self_eq_true,Bool.true_beq,Bool.false_beq,Qa,Qb,Qc,Qd,Qe,Qf,Qg,Qh,Qi,Qj,Qk,Ql,Qm,Qn,true_and,and_true,Qo,Qp,Qq,Qr,Qs,Qt,Qu,Qv,Qw,Qx,Qy,Qz,Ra,Rb,Rc,Rd,Re,Rf,Rg,Rh,Ri,Rj,Rk,Rl,Rm,Ya,Yb,Yc,Rn,Ro,Rp,Yd,Ye,Rq,Rs,Rt,Ru,Rv,Rw,Rx]
      exact hK
    | false =>
      rw[hbit]at hK hd
      have e5:decide (x<0)=false:=decide_eq_false (by omega)
      simp only[MX,e0,e1,e2,e3,e5,hd,beq_self_eq_true,Bool.true_beq,Bool.false_beq,Qa,Qb,Qc,Qd,Qe,Qf,Qg,Qh,Qi,Qj,Qk,Ql,Qm,Qn,true_and,and_true,Qo,Qp,Qq,Qr,Qs,Qt,Qu,Qv,Qw,Qx,Qy,Qz,Ra,Rb,Rc,Rd,Re,Rf,Rg,Rh,Ri,Rj,Rk,Rl,Rm,Ya,Yb,Yc,Rn,Ro,Rp,Yd,Ye,Rq,Rs,Rt,Ru,Rv,Rw,Rx]
      exact hK
  · have e0:decide ((0:Int)<x)=false:=decide_eq_false hp
    rw[if_neg hp]at hK
    by_cases hm:x<0
    · have e5:decide (x<0)=true:=decide_eq_true hm
      rw[if_pos hm]at hK
      have hn:(-x - 1).toNat<6:=by omega
      have hc:-x - 1=(((-x - 1).toNat:Nat):Int):=by omega
      have eN:=EY Try.prog x ⟨by omega,by omega⟩
      have e1:=CD Try.prog 3 (-x) 1 ⟨by omega,by omega⟩
      generalize (-x - 1).toNat=n at hn hc hK
      rw[hc]at e1
      have e2:=TQ hb hn
      have hq:b / 2 ^ n<64:=Nat.lt_of_le_of_lt (Nat.div_le_self _ _) hb
      have e3:=TP hq
      unfold Vs at hK
      have hd:decide (((b / 2 ^ n % 2:Nat):Int)=0)=!decide (b / 2 ^ n % 2=1):=by
        rw[← decide_not]
        exact decide_eq_decide.2 (by omega)
      simp only[MX,e0,e5,eN,e1,e2,e3,hd,beq_self_eq_true,Bool.true_beq,Bool.false_beq,Qa,Qb,Qc,Qd,Qe,Qf,Qg,Qh,Qi,Qj,Qk,Ql,Qm,Qn,true_and,and_true,Qo,Qp,Qq,Qr,Qs,Qt,Qu,Qv,Qw,Qx,Qy,Qz,Ra,Rb,Rc,Rd,Re,Rf,Rg,Rh,Ri,Rj,Rk,Rl,Rm,Ya,Yb,Yc,Rn,Ro,Rp,Yd,Ye,Rq,Rs,Rt,Ru,Rv,Rw,Rx]
      exact hK
    · have e5:decide (x<0)=false:=decide_eq_false hm
      rw[if_neg hm]at hK
      simp only[MX,e0,e5,beq_self_eq_true,Bool.true_beq,Bool.false_beq,Qa,Qb,Qc,Qd,Qe,Qf,Qg,Qh,Qi,Qj,Qk,Ql,Qm,Qn,true_and,and_true,Qo,Qp,Qq,Qr,Qs,Qt,Qu,Qv,Qw,Qx,Qy,Qz,Ra,Rb,Rc,Rd,Re,Rf,Rg,Rh,Ri,Rj,Rk,Rl,Rm,Ya,Yb,Yc,Rn,Ro,Rp,Yd,Ye,Rq,Rs,Rt,Ru,Rv,Rw,Rx]
      exact hK
set_option maxRecDepth 16000 in
theorem SP{E:Env}(hE:An E){s:ASt}{b c:Nat}(hb:b<64){L:List Int}(hL:Six L)(hlen:L.length≤1000000){a:Option (Nat×Nat)}{cap:Option Nat}(hc:A8 c s a (ivs L)){Q:A6→Prop}:
    ∀ (l : List Int) (k : Nat) (x2 x4 x5 x6 : AV), L.drop k = l → k ≤ L.length →
      (∀ (e:Ja) (y2 y3 y4 y5 y6:AV),(e=.ret∧CP b l=true∧y2=.bool true∨e=.exit 0∧CP b l=false)→Q ⟨e,[iv (b:Int),.slice a L.length cap,y2,y3,y4,y5,y6],[],s⟩) →
      WC E none (.loop Ol) Q [iv (b:Int),.slice a L.length cap,x2,iv (k:Int),x4,x5,x6] [] s:=by
  intro l
  induction l with
  | nil =>
    intro k x2 x4 x5 x6 hd hk hq
    have:=Ck hd hk
    subst this
    refine WC.loop' ?_
    simp only[Ol,X5,AZ Try.underlying23,om,decide_false,Qa,Qb,Qc,Qd,Qe,Qf,Qg,Qh,Qi,Qj,Qk,Ql,Qm,Qn,true_and,and_true,Qo,Qp,Qq,Qr,Qs,Qt,Qu,Qv,Qw,Qx,Qy,Qz,Ra,Rb,Rc,Rd,Re,Rf,Rg,Rh,Ri,Rj,Rk,Rl,Rm,Ya,Yb,Yc,Rn,Ro,Rp,Yd,Ye,Rq,Rs,Rt,Ru,Rv,Rw,Rx]
    exact hq _ _ _ _ _ _ (.inr ⟨rfl,rfl⟩)
  | cons x l ih =>
    intro k x2 x4 x5 x6 hd hk hq
    obtain⟨hlt,hx,hd'⟩:=Bk hd
    obtain⟨i,o,rfl,hi,hload⟩:=hc k _ (A2 hx)
    have e1:=Aw (cap:=cap) (i:=i) (o:=o) Try.underlying23 sz3 hlt
    have e2:AD Try.prog s 3 (.ptr (some (i,o+k * 1)))=some (iv x):=A7 ag3 (by rw[oV];exact hload)
    have hkk:decide ((k:Int)<(L.length:Int))=true:=decide_eq_true (by omega)
    have e3:=Aq Try.prog 3 (k:Int) 1 ⟨by omega,by omega⟩
    have hcast:((k:Int)+1)=((k+1:Nat):Int):=by omega
    refine WC.loop' ?_
    generalize hW:WC E none (AX.loop Ol) Q=W
    simp only[Ol,X5,fh,AZ Try.underlying23,hkk,e1,e2,Qa,Qb,Qc,Qd,Qe,Qf,Qg,Qh,Qi,Qj,Qk,Ql,Qm,Qn,true_and,and_true,Qo,Qp,Qq,Qr,Qs,Qt,Qu,Qv,Qw,Qx,Qy,Qz,Ra,Rb,Rc,Rd,Re,Rf,Rg,Rh,Ri,Rj,Rk,Rl,Rm,Ya,Yb,Yc,Rn,Ro,Rp,Yd,Ye,Rq,Rs,Rt,Ru,Rv,Rw,Rx]
    refine Zk hb (hL x (oG hx)) _ _ _ _ _ ?_
    cases hl:Mq b x with
    | true =>
      have hh:CP b (x::l)=true:=by simp[CP,hl]
      simp only[fi,Qa,Qb,Qc,Qd,Qe,Qf,Qg,Qh,Qi,Qj,Qk,Ql,Qm,Qn,true_and,and_true,Qo,Qp,Qq,Qr,Qs,Qt,Qu,Qv,Qw,Qx,Qy,Qz,Ra,Rb,Rc,Rd,Re,Rf,Rg,Rh,Ri,Rj,Rk,Rl,Rm,Ya,Yb,Yc,Rn,Ro,Rp,Yd,Ye,Rq,Rs,Rt,Ru,Rv,Rw,Rx]
      exact hq _ _ _ _ _ _ (.inl ⟨rfl,hh,rfl⟩)
    | false =>
      have hh:CP b (x::l)=CP b l:=by simp[CP,hl]
      rw[hh]at hq
      simp only[fj,e3,hcast,Qa,Qb,Qc,Qd,Qe,Qf,Qg,Qh,Qi,Qj,Qk,Ql,Qm,Qn,true_and,and_true,Qo,Qp,Qq,Qr,Qs,Qt,Qu,Qv,Qw,Qx,Qy,Qz,Ra,Rb,Rc,Rd,Re,Rf,Rg,Rh,Ri,Rj,Rk,Rl,Rm,Ya,Yb,Yc,Rn,Ro,Rp,Yd,Ye,Rq,Rs,Rt,Ru,Rv,Rw,Rx]
      rw[← hW]
      exact ih (k+1) _ _ _ _ hd' hlt hq
theorem ZV{E:Env}(hE:An E){s:ASt}{b c:Nat}(hb:b<64){L:List Int}(hL:Six L)(hlen:L.length≤1000000){u:AV}(hu:AM c s u (ivs L)):
    WF E 62 [iv (b:Int),u] (fun r s'=>r=.bool (CP b L)∧s=s') s:=by
  obtain⟨a,cap,rfl,hc⟩:=hu
  rw[Ce]
  refine hE.go ka (by decide) rfl ?_
  simp only[c62,ff,fg,Qa,Qb,Qc,Qd,Qe,Qf,Qg,Qh,Qi,Qj,Qk,Ql,Qm,Qn,true_and,and_true,Qo,Qp,Qq,Qr,Qs,Qt,Qu,Qv,Qw,Qx,Qy,Qz,Ra,Rb,Rc,Rd,Re,Rf,Rg,Rh,Ri,Rj,Rk,Rl,Rm,Ya,Yb,Yc,Rn,Ro,Rp,Yd,Ye,Rq,Rs,Rt,Ru,Rv,Rw,Rx]
  refine SP hE hb hL hlen hc L 0 _ _ _ _ rfl (oK _) ?_
  rintro e y2 y3 y4 y5 y6 (⟨rfl,h,rfl⟩ | ⟨rfl,h⟩)
  · simp only[h,Qa,Qb,Qc,Qd,Qe,Qf,Qg,Qh,Qi,Qj,Qk,Ql,Qm,Qn,true_and,and_true,Qo,Qp,Qq,Qr,Qs,Qt,Qu,Qv,Qw,Qx,Qy,Qz,Ra,Rb,Rc,Rd,Re,Rf,Rg,Rh,Ri,Rj,Rk,Rl,Rm,Ya,Yb,Yc,Rn,Ro,Rp,Yd,Ye,Rq,Rs,Rt,Ru,Rv,Rw,Rx]
  · simp only[h,if_true,fk,Qa,Qb,Qc,Qd,Qe,Qf,Qg,Qh,Qi,Qj,Qk,Ql,Qm,Qn,true_and,and_true,Qo,Qp,Qq,Qr,Qs,Qt,Qu,Qv,Qw,Qx,Qy,Qz,Ra,Rb,Rc,Rd,Re,Rf,Rg,Rh,Ri,Rj,Rk,Rl,Rm,Ya,Yb,Yc,Rn,Ro,Rp,Yd,Ye,Rq,Rs,Rt,Ru,Rv,Rw,Rx]
set_option maxRecDepth 16000 in
theorem Ux{E:Env}(hE:An E){s:ASt}{b c:Nat}(hb:b<64){cs:List (List Int)}(hcs:∀L∈cs,Six L∧L.length≤1000000)(hlen:cs.length≤1000000){a:Option (Nat×Nat)}{cap:Option Nat}(hr:Iu c s a cs)(v1 v2 v6 v8:AV){Q:A6→Prop}:
    ∀ (l : List (List Int)) (k : Nat) (is : Bool) (x7 : AV), cs.drop k = l → k ≤ cs.length →
      (∀ (y5 y7:AV),Q ⟨.exit 2,[.slice a cs.length cap,v1,v2,iv (b:Int),.bool (is && l.all (CP b)),y5,v6,y7,v8],[],s⟩) →
      WC E none (.loop MV) Q [.slice a cs.length cap,v1,v2,iv (b:Int),.bool is,iv (k:Int),v6,x7,v8] [] s:=by
  intro l
  induction l with
  | nil =>
    intro k is x7 hd hk hq
    have:=Ck hd hk
    subst this
    refine WC.loop' ?_
    simp only[MV,TW,AZ Try.underlying22,om,decide_false,Qa,Qb,Qc,Qd,Qe,Qf,Qg,Qh,Qi,Qj,Qk,Ql,Qm,Qn,true_and,and_true,Qo,Qp,Qq,Qr,Qs,Qt,Qu,Qv,Qw,Qx,Qy,Qz,Ra,Rb,Rc,Rd,Re,Rf,Rg,Rh,Ri,Rj,Rk,Rl,Rm,Ya,Yb,Yc,Rn,Ro,Rp,Yd,Ye,Rq,Rs,Rt,Ru,Rv,Rw,Rx]
    have:=hq (iv (cs.length:Int)) (.bool false)
    simp only[List.all_nil,Bool.and_true]at this
    exact this
  | cons L l ih =>
    intro k is x7 hd hk hq
    obtain⟨hlt,hx,hd'⟩:=Bk hd
    obtain⟨i,o,u,rfl,hi,hload,hu⟩:=hr k L hx
    have e1:=Aw (cap:=cap) (i:=i) (o:=o) Try.underlying22 BU hlt
    have e2:AD Try.prog s 23 (.ptr (some (i,o+k * 1)))=some u:=A7 C1 (by rw[oV];exact hload)
    have hkk:decide ((k:Int)<(cs.length:Int))=true:=decide_eq_true (by omega)
    have e3:=Aq Try.prog 3 (k:Int) 1 ⟨by omega,by omega⟩
    have hcast:((k:Int)+1)=((k+1:Nat):Int):=by omega
    refine WC.loop' ?_
    generalize hW:WC E none (AX.loop MV) Q=W
    cases is with
    | false =>
      simp only[MV,TW,XT,AZ Try.underlying22,hkk,beq_self_eq_true,Bool.true_beq,Bool.false_beq,XU,e3,hcast,Qa,Qb,Qc,Qd,Qe,Qf,Qg,Qh,Qi,Qj,Qk,Ql,Qm,Qn,true_and,and_true,Qo,Qp,Qq,Qr,Qs,Qt,Qu,Qv,Qw,Qx,Qy,Qz,Ra,Rb,Rc,Rd,Re,Rf,Rg,Rh,Ri,Rj,Rk,Rl,Rm,Ya,Yb,Yc,Rn,Ro,Rp,Yd,Ye,Rq,Rs,Rt,Ru,Rv,Rw,Rx]
      rw[← hW]
      refine ih (k+1) false _ hd' hlt fun y5 y7=>?_
      have:=hq y5 y7
      simp only[Bool.false_and]at this ⊢
      exact this
    | true =>
      simp only[MV,TW,XT,AZ Try.underlying22,hkk,e1,e2,beq_self_eq_true,Bool.true_beq,Bool.false_beq,Qa,Qb,Qc,Qd,Qe,Qf,Qg,Qh,Qi,Qj,Qk,Ql,Qm,Qn,true_and,and_true,Qo,Qp,Qq,Qr,Qs,Qt,Qu,Qv,Qw,Qx,Qy,Qz,Ra,Rb,Rc,Rd,Re,Rf,Rg,Rh,Ri,Rj,Rk,Rl,Rm,Ya,Yb,Yc,Rn,Ro,Rp,Yd,Ye,Rq,Rs,Rt,Ru,Rv,Rw,Rx]
      obtain⟨h6,h7⟩:=hcs L (oG hx)
      refine(ZV hE hb h6 h7 hu).mono ?_
      rintro _ _ ⟨rfl,rfl⟩
      simp only[XU,e3,hcast,Qa,Qb,Qc,Qd,Qe,Qf,Qg,Qh,Qi,Qj,Qk,Ql,Qm,Qn,true_and,and_true,Qo,Qp,Qq,Qr,Qs,Qt,Qu,Qv,Qw,Qx,Qy,Qz,Ra,Rb,Rc,Rd,Re,Rf,Rg,Rh,Ri,Rj,Rk,Rl,Rm,Ya,Yb,Yc,Rn,Ro,Rp,Yd,Ye,Rq,Rs,Rt,Ru,Rv,Rw,Rx]
      rw[← hW]
      refine ih (k+1) _ _ hd' hlt fun y5 y7=>?_
      have:=hq y5 y7
      simp only[List.all_cons,Bool.true_and]at this ⊢
      exact this
set_option maxRecDepth 16000 in
theorem PV{E:Env}(hE:An E){s:ASt}{c:Nat}{cs:List (List Int)}(hcs:∀L∈cs,Six L∧L.length≤1000000)(hlen:cs.length≤1000000){a:Option (Nat×Nat)}{cap:Option Nat}(hr:Iu c s a cs)(v1:AV){Q:A6→Prop}
    (hq:∀y3 y4 y5 y6 y7 y8,Q ⟨.exit 0,[.slice a cs.length cap,v1,iv (F4 cs:Int),y3,y4,y5,y6,y7,y8],[],s⟩):
    ∀ (m k:Nat) (x4 x5 x6 x7 x8:AV),k+m=64 →
      WC E none (.loop Kf) Q [.slice a cs.length cap,v1,iv ((((List.range k).filter fun b=>cs.all (CP b)).length:Nat):Int),iv (k:Int),x4,x5,x6,x7,x8] [] s:=by
  intro m
  induction m with
  | zero =>
    intro k x4 x5 x6 x7 x8 hm
    have:k=64:=by omega
    subst this
    have e0:decide (((64:Nat):Int)<64)=false:=rfl
    refine WC.loop' ?_
    simp only[Kf,XS,e0,Qa,Qb,Qc,Qd,Qe,Qf,Qg,Qh,Qi,Qj,Qk,Ql,Qm,Qn,true_and,and_true,Qo,Qp,Qq,Qr,Qs,Qt,Qu,Qv,Qw,Qx,Qy,Qz,Ra,Rb,Rc,Rd,Re,Rf,Rg,Rh,Ri,Rj,Rk,Rl,Rm,Ya,Yb,Yc,Rn,Ro,Rp,Yd,Ye,Rq,Rs,Rt,Ru,Rv,Rw,Rx]
    exact hq _ _ _ _ _ _
  | succ m ih =>
    intro k x4 x5 x6 x7 x8 hm
    have e0:decide ((k:Int)<64)=true:=decide_eq_true (by omega)
    have e3:=Aq Try.prog 3 (k:Int) 1 ⟨by omega,by omega⟩
    have hcast:((k:Int)+1)=((k+1:Nat):Int):=by omega
    have hfl:((List.range k).filter fun b=>cs.all (CP b)).length≤k:=by
      have:=List.length_filter_le (fun b=>cs.all (CP b)) (List.range k)
      simpa using this
    have hsucc:((List.range (k+1)).filter fun b=>cs.all (CP b)).length=((List.range k).filter fun b=>cs.all (CP b)).length+(if cs.all (CP k)=true then 1 else 0):=by
      rw[List.range_succ,List.filter_append,oL]
      congr 1
      cases h:cs.all (CP k)<;>simp[List.filter,h]
    have ih':=ih (k+1)
    rw[hsucc]at ih'
    generalize ((List.range k).filter fun b=>cs.all (CP b)).length=n at hfl ih' ⊢
    have e4:=Aq Try.prog 3 (n:Int) 1 ⟨by omega,by omega⟩
    have hcast4:((n:Int)+1)=((n+1:Nat):Int):=by omega
    refine WC.loop' ?_
    generalize hW:WC E none (AX.loop Kf) Q=W at ih' ⊢
    simp only[Kf,XS,eI,eJ,e0,Qa,Qb,Qc,Qd,Qe,Qf,Qg,Qh,Qi,Qj,Qk,Ql,Qm,Qn,true_and,and_true,Qo,Qp,Qq,Qr,Qs,Qt,Qu,Qv,Qw,Qx,Qy,Qz,Ra,Rb,Rc,Rd,Re,Rf,Rg,Rh,Ri,Rj,Rk,Rl,Rm,Ya,Yb,Yc,Rn,Ro,Rp,Yd,Ye,Rq,Rs,Rt,Ru,Rv,Rw,Rx]
    refine Ux hE (by omega) hcs hlen hr _ _ _ _ cs 0 true _ rfl (oK _) ?_
    intro y5 y7
    simp only[Bool.true_and,if_true,XP,Qa,Qb,Qc,Qd,Qe,Qf,Qg,Qh,Qi,Qj,Qk,Ql,Qm,Qn,true_and,and_true,Qo,Qp,Qq,Qr,Qs,Qt,Qu,Qv,Qw,Qx,Qy,Qz,Ra,Rb,Rc,Rd,Re,Rf,Rg,Rh,Ri,Rj,Rk,Rl,Rm,Ya,Yb,Yc,Rn,Ro,Rp,Yd,Ye,Rq,Rs,Rt,Ru,Rv,Rw,Rx]
    cases h:cs.all (CP k)with
    | true =>
      rw[h]at ih'
      simp only[XQ,Q6,e3,hcast,e4,hcast4,Qa,Qb,Qc,Qd,Qe,Qf,Qg,Qh,Qi,Qj,Qk,Ql,Qm,Qn,true_and,and_true,Qo,Qp,Qq,Qr,Qs,Qt,Qu,Qv,Qw,Qx,Qy,Qz,Ra,Rb,Rc,Rd,Re,Rf,Rg,Rh,Ri,Rj,Rk,Rl,Rm,Ya,Yb,Yc,Rn,Ro,Rp,Yd,Ye,Rq,Rs,Rt,Ru,Rv,Rw,Rx]
      exact ih' _ _ _ _ _ (by omega)
    | false =>
      rw[h]at ih'
      simp only[Q6,e3,hcast,Qa,Qb,Qc,Qd,Qe,Qf,Qg,Qh,Qi,Qj,Qk,Ql,Qm,Qn,true_and,and_true,Qo,Qp,Qq,Qr,Qs,Qt,Qu,Qv,Qw,Qx,Qy,Qz,Ra,Rb,Rc,Rd,Re,Rf,Rg,Rh,Ri,Rj,Rk,Rl,Rm,Ya,Yb,Yc,Rn,Ro,Rp,Yd,Ye,Rq,Rs,Rt,Ru,Rv,Rw,Rx]
      exact ih' _ _ _ _ _ (by omega)
theorem Uy{E:Env}(hE:An E){s:ASt}{c:Nat}{cs:List (List Int)}(hcs:∀L∈cs,Six L∧L.length≤1000000)(hlen:cs.length≤1000000){v:AV}(hr:KR c s v cs):
    WF E 30 [v] (fun r s'=>r=iv (F4 cs:Int)∧s=s') s:=by
  obtain⟨a,cap,rfl,hr⟩:=hr
  refine hE.go kK (by decide) rfl ?_
  simp only[c30,eF,eG,eH,Qa,Qb,Qc,Qd,Qe,Qf,Qg,Qh,Qi,Qj,Qk,Ql,Qm,Qn,true_and,and_true,Qo,Qp,Qq,Qr,Qs,Qt,Qu,Qv,Qw,Qx,Qy,Qz,Ra,Rb,Rc,Rd,Re,Rf,Rg,Rh,Ri,Rj,Rk,Rl,Rm,Ya,Yb,Yc,Rn,Ro,Rp,Yd,Ye,Rq,Rs,Rt,Ru,Rv,Rw,Rx]
  refine PV hE hcs hlen hr _ (fun y3 y4 y5 y6 y7 y8=>?_) 64 0 _ _ _ _ _ rfl
  simp only[if_true,XR,Qa,Qb,Qc,Qd,Qe,Qf,Qg,Qh,Qi,Qj,Qk,Ql,Qm,Qn,true_and,and_true,Qo,Qp,Qq,Qr,Qs,Qt,Qu,Qv,Qw,Qx,Qy,Qz,Ra,Rb,Rc,Rd,Re,Rf,Rg,Rh,Ri,Rj,Rk,Rl,Rm,Ya,Yb,Yc,Rn,Ro,Rp,Yd,Ye,Rq,Rs,Rt,Ru,Rv,Rw,Rx]
set_option maxRecDepth 16000 in
theorem R7{E:Env}(hE:An E){sa s0:ASt}{n0 b:Nat}{v tr:AV}{cs:List (List Int)}{T:As}(hn0:sa.next=n0)(hb:b≤n0)
    (hT:Cc b sa tr T) {fol:List (List Int)→List Int→Bool} (h0:Old n0 sa s0) (hmem:HO v tr n0 s0) {R:Nat×Bool} {s:ASt} {w:AV} {K:AV→ASt→Prop} (hat:FF b (n0+6) s0 s T T.length w) (hli:ai fol cs T v tr n0 R T.length s)
    (hend:∀c s',TH v tr n0 sa R T.length s'→K (.bool c) s'):WR E (n0+6) [iv (T.length:Int),w] K s:=by
  obtain⟨hR,x6,x7,x9,x10,x11,x12,x13,hlp⟩:=hli
  have hz:DA (DV E.P 24) (GC v tr n0 x6 x7 x9 x10 x11 x12 x13) [10,11] [iv (T.length:Int),w]=some (GC v tr n0 x6 x7 (iv (T.length:Int)) w x11 x12 x13):=by
    rw[hE.P,ac];rfl
  refine WR.round hlp hz (by rw[hE.P];exact ni) (by rw[hE.P];exact nj) ?_
  refine EE ?_
  simp only[kA,XN,XO,GC,Qa,Qb,Qc,Qd,Qe,Qf,Qg,Qh,Qi,Qj,Qk,Ql,Qm,Qn,true_and,and_true,Qo,Qp,Qq,Qr,Qs,Qt,Qu,Qv,Qw,Qx,Qy,Qz,Ra,Rb,Rc,Rd,Re,Rf,Rg,Rh,Ri,Rj,Rk,Rl,Rm,Ya,Yb,Yc,Rn,Ro,Rp,Yd,Ye,Rq,Rs,Rt,Ru,Rv,Rw,Rx]
  refine⟨_,hlp,rfl,EE ?_⟩
  generalize hs1:setObj s (n0+6) _=s1
  have n1:s1.next=s.next:=by rw[← hs1];rfl
  have l1:A3 s1 (n0+6)=some { Gk v tr n0 x6 x7 x9 x10 x11 x12 x13 with state:=.busy }:=by rw[← hs1,B7]
  have hlt:=hat.lt
  have o1:DQ (n0+6) s s1:=⟨by omega,fun x _ hx=>by rw[← hs1,Ai,if_neg hx]⟩
  have old1:Old (n0+6) s0 s1:=hat.old.trans (o1.old (by omega))
  have m1:=hmem.old old1 (oD _)
  have hln:∀s,Ao Try.prog s 33 tr=some (iv (T.length:Int)):=fun s=>by obtain⟨a,cap,rfl,_⟩:=hT;exact AZ Try.underlying33
  have ltr:=m1.bt.load MC
  simp only[bs,TV,ltr,hln,decide_true,if_true,Qa,Qb,Qc,Qd,Qe,Qf,Qg,Qh,Qi,Qj,Qk,Ql,Qm,Qn,true_and,and_true,Qo,Qp,Qq,Qr,Qs,Qt,Qu,Qv,Qw,Qx,Qy,Qz,Ra,Rb,Rc,Rd,Re,Rf,Rg,Rh,Ri,Rj,Rk,Rl,Rm,Ya,Yb,Yc,Rn,Ro,Rp,Yd,Ye,Rq,Rs,Rt,Ru,Rv,Rw,Rx]
  refine⟨_,l1,hend _ _ ⟨?_,by show n0+6<s1.next;omega,?_,_,B7 _ _ _,rfl,.inr ⟨rfl,?_,?_⟩⟩⟩
  · refine(h0.trans (old1.mono (by omega))).trans ⟨oD _,fun x hx=>by rw[Ai,if_neg (by omega)]⟩
  · rw[Ai,if_neg (by omega)];exact m1.mrk
  · rw[← hR,List.drop_length];rfl
  · exact m1.old (l:=n0+6) ⟨oD _,fun x hx=>by rw[Ai,if_neg (by omega)]⟩ (oD _)
theorem jB:BE Try.prog 3=some (AP 3 0 [iv 0],.ptr):=by simp[BE,zr3,AV.cells]
theorem jC:BE Try.prog 4=some (AP 4 0 [.bool false],.ptr):=by simp[BE,zr4,AV.cells]
set_option maxRecDepth 16000 in
theorem ZB{E:Env}(hE:An E){s:ASt}{b:Nat}{v tr:AV}{us:List AV}{cs:List (List Int)}{T:As}(hb:b≤s.next)(hv:AM s.next s v us)(hr:Ah b s us cs)(hcs:Vi cs)
    (hT:Cc b s tr T) (hP:Ha T) {fol:List (List Int)→List Int→Bool} (hfol:∀k L,T[k]? = some (false,L)→∃n,EJ n (cs++Bx (T.take k)) L=some (fol (cs++Bx (T.take k)) L)):
    WF E 24 [v,tr] (fun r s'=>r=.tuple [iv ((F0 fol cs T).1:Int),.bool (F0 fol cs T).2]∧Old s.next s s') s:=by
  have hvc:=hv.isCell
  have htc:=hT.isCell
  have hptr:∀i,Bv.val i .ptr=.ptr (some (i,0)):=fun _=>rfl
  have hbox:CL 22 v=some (AP 22 0 [v],.ptr):=by simp[CL,hvc.2]
  have hbox2:CL 33 tr=some (AP 33 0 [tr],.ptr):=by simp[CL,htc.2]
  refine hE.go kJ (by decide) rfl ?_
  generalize hn0:s.next=n0 at hv hb
  generalize hs1:AH s (AP 22 0 [v])=s1
  have n1:s1.next=n0+1:=by rw[← hs1,← hn0];rfl
  have o1:Old n0 s s1:=by rw[← hs1,← hn0];exact Old.new s _
  have b1:Al s1 n0 v:=by rw[← hs1,← hn0];exact Al.new
  generalize hs2:AH s1 (AP 33 0 [tr])=s2
  have n2:s2.next=n0+2:=by rw[← hs2];show s1.next+1=_;omega
  have o2:Old (n0+1) s1 s2:=by rw[← hs2,← n1];exact Old.new s1 _
  have b2:Al s2 (n0+1) tr:=by rw[← hs2,← n1];exact Al.new
  generalize hs3:AH s2 (AP 3 0 [iv 0])=s3
  have n3:s3.next=n0+3:=by rw[← hs3];show s2.next+1=_;omega
  have o3:Old (n0+2) s2 s3:=by rw[← hs3,← n2];exact Old.new s2 _
  have b3:Al s3 (n0+2) (iv 0):=by rw[← hs3,← n2];exact Al.new
  generalize hs4:AH s3 (AP 4 0 [.bool false])=s4
  have n4:s4.next=n0+4:=by rw[← hs4];show s3.next+1=_;omega
  have o4:Old (n0+3) s3 s4:=by rw[← hs4,← n3];exact Old.new s3 _
  have b4:Al s4 (n0+3) (.bool false):=by rw[← hs4,← n3];exact Al.new
  have b2':Al s4 (n0+1) tr:=(b2.keep (o3.2 _ (by omega))).keep (o4.2 _ (by omega))
  have ltr:=b2'.load MC
  simp only[c24,d9,eA,hbox,hbox2,hn0,hs1,hs2,hs3,hs4,n1,n2,n3,hptr,jB,jC,ltr,Qa,Qb,Qc,Qd,Qe,Qf,Qg,Qh,Qi,Qj,Qk,Ql,Qm,Qn,true_and,and_true,Qo,Qp,Qq,Qr,Qs,Qt,Qu,Qv,Qw,Qx,Qy,Qz,Ra,Rb,Rc,Rd,Re,Rf,Rg,Rh,Ri,Rj,Rk,Rl,Rm,Ya,Yb,Yc,Rn,Ro,Rp,Yd,Ye,Rq,Rs,Rt,Ru,Rv,Rw,Rx]
  refine(S2 hE htc.2).mono ?_
  rintro _ _ ⟨rfl,rfl⟩
  rw[n4]
  simp only[Qa,Qb,Qc,Qd,Qe,Qf,Qg,Qh,Qi,Qj,Qk,Ql,Qm,Qn,true_and,and_true,Qo,Qp,Qq,Qr,Qs,Qt,Qu,Qv,Qw,Qx,Qy,Qz,Ra,Rb,Rc,Rd,Re,Rf,Rg,Rh,Ri,Rj,Rk,Rl,Rm,Ya,Yb,Yc,Rn,Ro,Rp,Yd,Ye,Rq,Rs,Rt,Ru,Rv,Rw,Rx]
  generalize hs5:AH s4 (AP 33 0 [tr])=s5
  have n5:s5.next=n0+5:=by rw[← hs5];show s4.next+1=_;omega
  have o5:Old (n0+4) s4 s5:=by rw[← hs5,← n4];exact Old.new s4 _
  have b5:Al s5 (n0+4) tr:=by rw[← hs5,← n4];exact Al.new
  refine WC.range rfl ?_
  rw[n5]
  generalize hs6:AH s5 .mark=s6
  have n6:s6.next=n0+6:=by rw[← hs6];show s5.next+1=_;omega
  have o6:Old (n0+5) s5 s6:=by rw[← hs6,← n5];exact Old.new s5 _
  have m6:s6.heap.get (n0+5)=some .mark:=by rw[← hs6,AO,if_pos n5.symm]
  generalize hs7:AH s6 _=s7
  have n7:s7.next=n0+7:=by rw[← hs7];show s6.next+1=_;omega
  have o7:Old (n0+6) s6 s7:=by rw[← hs7,← n6];exact Old.new s6 _
  have l7:A3 s7 (n0+6)=some (Gk v tr n0 Au Au Au Au Au Au Au):=by
    unfold A3;rw[← hs7,AO,if_pos n6.symm];rfl
  have o57:Old (n0+5) s5 s7:=o6.trans (o7.mono (by omega))
  have o47:Old (n0+4) s4 s7:=o5.trans (o57.mono (by omega))
  have h07:Old n0 s s7:=(o1.trans (o2.mono (by omega))).trans (((o3.mono (by omega)).trans (o4.mono (by omega))).trans (o47.mono (by omega)))
  have mem:HO v tr n0 s7:=⟨(((b1.keep (o2.2 _ (by omega))).keep (o3.2 _ (by omega))).keep (o4.2 _ (by omega))).keep (o47.2 _ (by omega)),b2'.keep (o47.2 _ (by omega)),(b3.keep (o4.2 _ (by omega))).keep (o47.2 _ (by omega)),b4.keep (o47.2 _ (by omega)),by rw[o7.2 _ (by omega)];exact m6⟩
  have hb5:Al s7 (n0+4) tr:=b5.keep (o57.2 _ (by omega))
  refine(VU hE (b:=b) (l:=n0+6) (bx:=n0+4) (LI:=ai fol cs T v tr n0 (F0 fol cs T)) (Fin:=TH v tr n0 s (F0 fol cs T) T.length) (hT.old h07 hb) hP (by omega) hb5 (by omega) (by omega) ?_ ?_ ?_ ?_).mono ?_
  · rintro k s' s'' ⟨q1,x6,x7,x9,x10,x11,x12,x13,q2⟩ _ _ he
    exact⟨q1,x6,x7,x9,x10,x11,x12,x13,by rw[Dc he];exact q2⟩
  · exact⟨rfl,_,_,_,_,_,_,_,l7⟩
  · intro k s' w K hk hat hli hgo hend
    exact Oy hE hn0 hb hv hr hcs hT hP hfol h07 mem hk hat hli hgo hend
  · intro s' w K hat hli hend
    exact R7 hE hn0 hb hT h07 mem hat hli hend
  · rintro _ s8 ⟨h1, h2, h3, r, h4, h5, h6⟩
    refine⟨r,h4,h5,?_⟩
    generalize hs9:setObj s8 (n0+6) _=s9
    have n9:s9.next=s8.next:=by rw[← hs9];rfl
    have e9:∀x,x≠n0+6→s9.heap.get x=s8.heap.get x:=fun x hx=>by rw[← hs9,Ai,if_neg hx]
    have mk9:s9.heap.get (n0+5)=some .mark:=by rw[e9 _ (by omega)];exact h3
    have hnn:=h1.1
    rcases h6 with⟨p1,p2,p3⟩ | ⟨p1,p2,p3⟩
    · rw[p1]
      show Fd _ _ _ _ (some .ret)
      simp only[Fd,GB mk9,Qa,Qb,Qc,Qd,Qe,Qf,Qg,Qh,Qi,Qj,Qk,Ql,Qm,Qn,true_and,and_true,Qo,Qp,Qq,Qr,Qs,Qt,Qu,Qv,Qw,Qx,Qy,Qz,Ra,Rb,Rc,Rd,Re,Rf,Rg,Rh,Ri,Rj,Rk,Rl,Rm,Ya,Yb,Yc,Rn,Ro,Rp,Yd,Ye,Rq,Rs,Rt,Ru,Rv,Rw,Rx]
      have k2:Al (Bc s9 (n0+5)) (n0+2) _:=(p2.keep (e9 _ (by omega))).keep (by rw[Bi,if_neg (by omega)])
      have k3:Al (Bc s9 (n0+5)) (n0+3) _:=(p3.keep (e9 _ (by omega))).keep (by rw[Bi,if_neg (by omega)])
      simp only[C8,k2.load ag3,k3.load ag4,Qa,Qb,Qc,Qd,Qe,Qf,Qg,Qh,Qi,Qj,Qk,Ql,Qm,Qn,true_and,and_true,Qo,Qp,Qq,Qr,Qs,Qt,Qu,Qv,Qw,Qx,Qy,Qz,Ra,Rb,Rc,Rd,Re,Rf,Rg,Rh,Ri,Rj,Rk,Rl,Rm,Ya,Yb,Yc,Rn,Ro,Rp,Yd,Ye,Rq,Rs,Rt,Ru,Rv,Rw,Rx]
      exact h1.trans ⟨by show s8.next≤s9.next;omega,fun x hx=>by rw[Bi,if_neg (by omega),e9 x (by omega)]⟩
    · rw[p1]
      show Fd _ _ _ _ none
      have m9:HO v tr n0 s9:=p3.old (l:=n0+6) ⟨by omega,fun x hx=>e9 x (by omega)⟩ (oD _)
      have hln:∀s,Ao Try.prog s 33 tr=some (iv (T.length:Int)):=fun s=>by obtain⟨a,cap,rfl,_⟩:=hT;exact AZ Try.underlying33
      obtain⟨sa,k1,k2,k3,k4⟩:=m9.bi.store (d:=iv (T.length:Int)) sz3 rfl rfl
      obtain⟨sb,j1,j2,j3,j4⟩:=(m9.bb.keep (k4 _ (by omega))).store (d:=.bool false) sz4 rfl rfl
      have mk1:sb.heap.get (n0+5)=some .mark:=by rw[j4 _ (by omega),k4 _ (by omega)];exact mk9
      simp only[Fd,XM,m9.bt.load MC,hln,on2,k1,j1,AT,GB mk1,Qa,Qb,Qc,Qd,Qe,Qf,Qg,Qh,Qi,Qj,Qk,Ql,Qm,Qn,true_and,and_true,Qo,Qp,Qq,Qr,Qs,Qt,Qu,Qv,Qw,Qx,Qy,Qz,Ra,Rb,Rc,Rd,Re,Rf,Rg,Rh,Ri,Rj,Rk,Rl,Rm,Ya,Yb,Yc,Rn,Ro,Rp,Yd,Ye,Rq,Rs,Rt,Ru,Rv,Rw,Rx]
      have i2:Al (Bc sb (n0+5)) (n0+2) _:=(k2.keep (j4 _ (by omega))).keep (by rw[Bi,if_neg (by omega)])
      have i3:Al (Bc sb (n0+5)) (n0+3) _:=j2.keep (by rw[Bi,if_neg (by omega)])
      simp only[C8,i2.load ag3,i3.load ag4,Qa,Qb,Qc,Qd,Qe,Qf,Qg,Qh,Qi,Qj,Qk,Ql,Qm,Qn,true_and,and_true,Qo,Qp,Qq,Qr,Qs,Qt,Qu,Qv,Qw,Qx,Qy,Qz,Ra,Rb,Rc,Rd,Re,Rf,Rg,Rh,Ri,Rj,Rk,Rl,Rm,Ya,Yb,Yc,Rn,Ro,Rp,Yd,Ye,Rq,Rs,Rt,Ru,Rv,Rw,Rx]
      rw[p2]
      exact⟨rfl,h1.trans ⟨by show s8.next≤sb.next;omega,fun x hx=>by rw[Bi,if_neg (by omega),j4 x (by omega),k4 x (by omega),e9 x (by omega)]⟩⟩
def UG(L:List Int):Prop:=(∀x∈L,-6≤x∧x≤6∧x≠0)∧L.length≤5
theorem UG.six{L:List Int}(h:UG L):Six L:=fun x hx=>by have:=h.1 x hx;exact⟨this.1,this.2.1⟩
theorem aO(l:List Int):UG (Jz l):=by
  refine⟨fun x hx=>?_,(M1 l).2⟩
  obtain⟨y,_,rfl⟩:=List.mem_map.1 hx
  exact LW
theorem OF{l:List (List Int)}:∀L∈CN l,UG L:=by
  intro L hL
  obtain⟨y,_,rfl⟩:=List.mem_map.1 hL
  exact aO y
def Lit(x:Int):Prop:=x≠0∧-9223372036854775808<x∧x<9223372036854775808
theorem Lit.neg{x:Int}(h:Lit x):Lit (-x):=by obtain⟨h1,h2,h3⟩:=h;exact⟨by omega,by omega,by omega⟩
theorem G8{x:Int}(h:i64 x):Dd x=false↔Lit x:=by
  obtain⟨h1,h2⟩:=h
  unfold Dd Lit
  rw[decide_eq_false_iff_not]
  omega
theorem PO(M:B4)(k v j:Int):FW (Hp M k v) j=if j=k then v else FW M j:=by
  induction M with
  | nil=>simp only[Hp,FW];by_cases h:k=j<;>by_cases h':j=k<;>simp_all
  | cons p M ih =>
    obtain⟨a,b⟩:=p
    simp only[Hp]
    by_cases h:a=k
    · rw[if_pos h]
      simp only[FW]
      by_cases h2:a=j<;>by_cases h3:j=k<;>simp_all
    · rw[if_neg h]
      simp only[FW]
      by_cases h2:a=j
      · rw[if_pos h2,if_pos h2,if_neg (by omega)]
      · rw[if_neg h2,if_neg h2,ih]
theorem JT{x:Int}(h:Lit x):(0<x∧Bl x=(x,1))∨(x<0∧Bl x=(-x,-1)):=by
  obtain⟨h1,h2,h3⟩:=h
  unfold Bl
  by_cases hp:0<x
  · rw[if_pos hp];exact .inl ⟨hp,rfl⟩
  · rw[if_neg hp,if_pos ⟨by omega,by omega⟩];exact .inr ⟨by omega,rfl⟩
theorem Zz{M:B4}{x:Int}(h:Dd x=true):ofV M x=-1:=by
  unfold Dd at h
  rw[decide_eq_true_iff]at h
  have:Bl x=(0,0):=by
    unfold Bl
    rcases h with rfl | rfl
    · rfl
    · rfl
  unfold ofV
  rw[this];rfl
theorem N7{M:B4}{x:Int}(h:Lit x):ofV M x=if 0<x then FW M x else -FW M (-x):=by
  unfold ofV
  rcases JT h with⟨h1,h2⟩ | ⟨h1,h2⟩
  · rw[h2,if_pos h1];simp
  · rw[h2,if_neg (show ¬ 0<x by omega)];simp
theorem Sj{M:B4}{x y:Int}(hx:Lit x)(hy:Lit y):ofV (EU M y) x=if x=y then 1 else if x=-y then -1 else ofV M x:=by
  rw[N7 hx,N7 hx]
  unfold EU
  have hx0:=hx.1
  have hy0:=hy.1
  rcases JT hy with⟨h1,h2⟩ | ⟨h1,h2⟩
  · rw[h2]
    simp only[PO]
    by_cases hp:0<x
    · rw[if_pos hp,if_pos hp]
      by_cases he:x=y
      · rw[if_pos he,if_pos he]
      · rw[if_neg he,if_neg he,if_neg (by omega)]
    · rw[if_neg hp,if_neg hp,if_neg (show ¬ x=y by omega)]
      by_cases he:x=-y
      · rw[if_pos (show -x=y by omega),if_pos he]
      · rw[if_neg (show ¬ -x=y by omega),if_neg he]
  · rw[h2]
    simp only[PO]
    by_cases hp:0<x
    · rw[if_pos hp,if_pos hp,if_neg (show ¬ x=y by omega)]
    · rw[if_neg hp,if_neg hp]
      by_cases he:x=y
      · rw[if_pos (show -x=-y by omega),if_pos he];rfl
      · rw[if_neg (show ¬ -x=-y by omega),if_neg he,if_neg (show ¬ x=-y by omega)]
structure GR(M:B4)(K:List Int):Prop where
  pos:∀x,Lit x→(ofV M x=1↔x∈K)
  neg:∀x,Lit x→(ofV M x=-1↔-x∈K)
  tri:∀x,Lit x→ofV M x=1∨ofV M x=0∨ofV M x=-1
  lits:∀x∈K,Lit x
theorem GR.nil:GR [] []:=by
  have:∀x,Lit x→ofV [] x=0:=fun x hx=>by rw[N7 hx];simp[FW]
  exact⟨fun x hx=>by rw[this x hx];simp,fun x hx=>by rw[this x hx];simp,fun x hx=>.inr (.inl (this x hx)),fun x hx=>by cases hx⟩
theorem GR.con{M:B4}{K:List Int}(h:GR M K){x:Int}(hx:x∈K):-x ∉ K:=fun hn=>by
  have h1:=(h.pos x (h.lits x hx)).2 hx
  have h2:=(h.neg x (h.lits x hx)).2 hn
  omega
theorem GR.put   {M : B4}   {K : List Int} (h : GR   M K) {y : Int} (hy : Lit y) (hn : -y ∉ K) : GR   (EU     M y) (K ++ [y]) := by
  have hy0:=hy.1
  refine⟨fun x hx=>?_,fun x hx=>?_,fun x hx=>?_,fun x hx=>?_⟩
  · rw[Sj hx hy,pg,List.mem_singleton]
    by_cases h1:x=y
    · simp[h1]
    · rw[if_neg h1]
      by_cases h2:x=-y
      · rw[if_pos h2]
        subst h2
        simp[hn,h1]
      · rw[if_neg h2,h.pos x hx]
        simp[h1]
  · rw[Sj hx hy,pg,List.mem_singleton]
    by_cases h1:x=y
    · rw[if_pos h1]
      subst h1
      simp[hn]
      omega
    · rw[if_neg h1]
      by_cases h2:x=-y
      · rw[if_pos h2]
        subst h2
        simp
      · rw[if_neg h2,h.neg x hx]
        have:¬ -x=y:=by omega
        simp[this]
  · rw[Sj hx hy]
    split
    · exact .inl rfl
    · split
      · exact .inr (.inr rfl)
      · exact h.tri x hx
  · rcases pg.1              hx with hx | hx
    · exact h.lits x hx
    · rw[List.mem_singleton.1 hx];exact hy
theorem GR.same{M:B4}{K K':List Int}(h:GR M K)(he:∀z,z∈K'↔z∈K):GR M K':=
  ⟨fun x hx=>by rw[he];exact h.pos x hx,fun x hx=>by rw[he];exact h.neg x hx,h.tri,fun x hx=>h.lits x ((he x).1 hx)⟩
def Opn(K:List Int)(x:Int):Prop:=Lit x∧-x ∉ K∧x ∉ K
def NH(M:B4)(K L:List Int)(lit left:Int):Prop:=
  ((BT M L lit left).2=2∧((∃x∈L,Lit x∧x∈K)∨∃x∈L,Opn K x∧∃y,(y∈L∧Opn K y∨left=1∧y=lit)∧x≠y)) ∨
  (BT M L lit left=(lit,left)∧∀x∈L,Lit x→-x∈K∨(left=1∧x=lit)) ∨
  (left=0∧∃y,BT M L lit left=(y,1)∧y∈L∧Opn K y∧∀x∈L,Lit x→-x∈K∨x=y)
theorem Vb        {M : B4}   {K : List Int} (h : GR   M K) : ∀ (L : List Int) (lit left : Int), C0   L → (left = 0 ∨ left = 1) → (left = 1 → Opn K lit) → NH     M K L lit left := by
  intro L
  induction L with
  | nil=>intro lit left _ _ _;exact .inr (.inl ⟨rfl,fun x hx=>by cases hx⟩)
  | cons x l ih =>
    intro lit left hL hl hop
    have hLl:C0 l:=fun z hz=>hL z (oJ _ hz)
    have hxi:=hL x oH
    have skip:ofV M x<0∨(left=1∧x=lit)→¬ 0<ofV M x→(Lit x→-x∈K∨(left=1∧x=lit))→NH M K (x::l) lit left:=fun h1 h2 h3=>by
      have hu:BT M (x::l) lit left=BT M l lit left:=by simp only[BT];rw[if_neg h2,if_pos h1]
      unfold NH
      rw[hu]
      rcases ih lit left hLl hl hop with⟨g1,g2⟩ | ⟨g1,g2⟩ | ⟨g1,y,g2,g3,g4,g5⟩
      · refine .inl ⟨g1, ?_⟩
        rcases g2 with⟨z,k1,k2⟩ | ⟨z,k1,k2,y,k3,k4⟩
        · exact .inl ⟨z,oJ _ k1,k2⟩
        · exact .inr ⟨z,oJ _ k1,k2,y,k3.imp (fun q=>⟨oJ _ q.1,q.2⟩) id,k4⟩
      · refine .inr (.inl ⟨g1, fun z hz => ?_⟩)
        rcases ov.1 hz with rfl | hz
        · exact h3
        · exact g2 z hz
      · refine .inr (.inr ⟨g1, y, g2, oJ                   _ g3, g4, fun z hz hzl => ?_⟩)
        rcases ov.1 hz with rfl | hz
        · rcases h3 hzl with q | q
          · exact .inl q
          · omega
        · exact g5 z hz hzl
    cases hnull:Dd x with
    | true =>
      have ho:=Zz (M:=M) hnull
      exact skip (.inl (by omega)) (by omega) (fun hx=>by rw[(G8 hxi).2 hx]at hnull;cases hnull)
    | false =>
      have hx:Lit x:=(G8 hxi).1 hnull
      rcases h.tri x hx with ho | ho | ho
      · refine .inl ⟨?_,.inl ⟨x,oH,hx,(h.pos x hx).1 ho⟩⟩
        simp only[BT];rw[if_pos (by omega)]
      · have hox:Opn K x:=⟨hx,fun q=>by have:=(h.neg x hx).2 q;omega,fun q=>by have:=(h.pos x hx).2 q;omega⟩
        rcases hl with rfl | rfl
        · have hu:BT M (x::l) lit 0=BT M l x 1:=by simp only[BT];rw[if_neg (by omega),if_neg (by omega),if_neg (by omega)];rfl
          unfold NH
          rw[hu]
          rcases ih x 1 hLl (.inr rfl) (fun _=>hox)with⟨g1,g2⟩ | ⟨g1,g2⟩ | ⟨g1,_⟩
          · refine .inl ⟨g1, ?_⟩
            rcases g2 with⟨z,k1,k2⟩ | ⟨z,k1,k2,y,k3,k4⟩
            · exact .inl ⟨z,oJ _ k1,k2⟩
            · refine .inr ⟨z, oJ                   _ k1, k2, y, .inl ?_, k4⟩
              rcases k3 with q | ⟨_,rfl⟩
              · exact⟨oJ _ q.1,q.2⟩
              · exact⟨oH,hox⟩
          · refine .inr (.inr ⟨rfl, x, g1, oH,                 hox, fun z hz hzl => ?_⟩)
            rcases ov.1 hz with rfl | hz
            · exact .inr rfl
            · exact(g2 z hz hzl).imp id (fun q=>q.2)
          · omega
        · by_cases he : x = lit
          · exact skip (.inr ⟨rfl,he⟩) (by omega) (fun _=>.inr ⟨rfl,he⟩)
          · refine .inl ⟨?_,.inr ⟨x,oH,hox,lit,.inr ⟨rfl,rfl⟩,he⟩⟩
            simp only[BT];rw[if_neg (by omega),if_neg (by omega),if_pos (by omega)]
      · exact skip (.inl (by omega)) (by omega) (fun _=>.inl ((h.neg x hx).1 ho))
theorem Cl{L:List Int}(hL:C0 L)(z:Int):z∈Ae [] L↔z∈L∧Lit z:=by
  rw[FJ]
  constructor
  · rintro (h | ⟨h1, h2⟩)
    · cases h
    · exact⟨h1,(G8 (hL z h1)).1 h2⟩
  · rintro⟨h1,h2⟩
    exact .inr ⟨h1,(G8 (hL z h1)).2 h2⟩
theorem EN{K L:List Int}(hL:C0 L)(z:Int):z∈EM K (Ae [] L)↔z∈L∧Lit z∧-z ∉ K:=by
  unfold EM
  rw[List.mem_filter,Cl hL,decide_eq_true_iff,and_assoc]
theorem G7{K L:List Int}(hL:C0 L):E5 K (Ae [] L)=true↔∃x∈L,Lit x∧x∈K:=by
  unfold E5
  rw[List.any_eq_true]
  constructor
  · rintro⟨x,h1,h2⟩
    obtain⟨h3,h4⟩:=(Cl hL x).1 h1
    exact⟨x,h3,h4,by simpa using h2⟩
  · rintro⟨x,h1,h2,h3⟩
    exact⟨x,(Cl hL x).2 ⟨h1,h2⟩,by simpa using h3⟩
theorem aE{l:List Int}{y:Int}(hr:l.Pairwise (·<·))(hy:y∈l)(ha:∀z∈l,z=y):l=[y]:=by
  cases l with
  | nil=>cases hy
  | cons a l =>
    have ha0:=ha a oH
    subst ha0
    cases l with
    | nil=>rfl
    | cons b l =>
      have hb:=ha b (oJ _ oH)
      have:=(List.pairwise_cons.1 hr).1 b oH
      omega
theorem VB        : ∀ (cs : List (List Int)) (M : B4)   (K : List Int) (more : Bool), GR   M K → (∀ L ∈ cs, C0   L) →
    (DK M cs more=none∧B2 K cs more=none)∨∃M' K' m,DK M cs more=some (M',m)∧B2 K cs more=some (K',m)∧GR M' K':=by
  intro cs
  induction cs with
  | nil=>intro M K more h _;exact .inr ⟨M,K,more,rfl,rfl,h⟩
  | cons L cs ih =>
    intro M K more h hcs
    have hL:=hcs L oH
    have hcs':∀L∈cs,C0 L:=fun L hL=>hcs L (oJ _ hL)
    rcases Vb h L 0 0 hL (.inl rfl) (fun e=>by omega)with⟨g1,g2⟩ | ⟨g1,g2⟩ | ⟨_,y,g1,g2,g3,g4⟩
    · have hv : DK    M (L :: cs) more = DK    M cs more := by simp only [DK];    rw [if_neg (by omega), if_neg (by omega)]
      have hr:B2 K (L::cs) more=B2 K cs more:=by
        simp only[B2]
        rcases g2 with⟨x,k1,k2,k3⟩ | ⟨x,k1,k2,y,k3,k4⟩
        · have hh := (G7        (K := K) hL).2 ⟨x, k1, k2, k3⟩
          have hx:x∈EM K (Ae [] L):=(EN hL x).2 ⟨k1,k2,h.con k3⟩
          split
          · rename_i e;rw[e]at hx;cases hx
          · rw[hh];rfl
          · rfl
        · have hx : x ∈ EM    K (Ae     [] L) := (EN       hL x).2 ⟨k1, k2.1, k2.2.1⟩
          have hy:y∈EM K (Ae [] L):=by
            rcases k3 with⟨q1,q2⟩ | ⟨q,_⟩
            · exact(EN hL y).2 ⟨q1,q2.1,q2.2.1⟩
            · omega
          split
          · rename_i e;rw[e]at hx;cases hx
          · rename_i z e
            rw[e]at hx hy
            exact absurd ((List.mem_singleton.1 hx).trans (List.mem_singleton.1 hy).symm) k4
          · rfl
      rw[hv,hr]
      exact ih M K more h hcs'
    · refine .inl ⟨by simp only[DK];rw[if_pos (by rw[g1])],?_⟩
      have:EM K (Ae [] L)=[]:=by
        rw[List.eq_nil_iff_forall_not_mem]
        intro z hz
        obtain⟨q1,q2,q3⟩:=(EN hL z).1 hz
        rcases g2 z q1 q2 with q | ⟨q,_⟩
        · exact q3 q
        · omega
      simp only[B2]
      rw[this]
    · have hv : DK    M (L :: cs) more = DK    (EU     M y) cs true := by simp only [DK];    rw [g1, if_neg (show ¬ ((1 : Int) = 0) by decide), if_pos rfl]
      have hop:EM K (Ae [] L)=[y]:=by
        refine aE ((EG L List.Pairwise.nil).filter _) ((EN hL y).2 ⟨g2,g3.1,g3.2.1⟩) fun z hz=>?_
        obtain⟨q1,q2,q3⟩:=(EN hL z).1 hz
        exact(g4 z q1 q2).resolve_left q3
      have hh:E5 K (Ae [] L)=false:=by
        cases hb:E5 K (Ae [] L)with
        | false=>rfl
        | true =>
          obtain⟨x,k1,k2,k3⟩:=(G7 hL).1 hb
          rcases g4 x k1 k2 with q | q
          · exact absurd q (h.con k3)
          · subst q;exact absurd k3 g3.2.2
      have hr:B2 K (L::cs) more=B2 (K++[y]) cs true:=by simp only[B2];rw[hop,hh];rfl
      rw[hv,hr]
      exact ih _ _ true (h.put g3.1 g3.2.1) hcs'
theorem Ut{cs:List (List Int)}(hcs:∀L∈cs,C0 L):∀ (n:Nat)(M:B4)(K:List Int),GR M K→LY cs n M=Ia cs n K:=by
  intro n
  induction n with
  | zero=>intro M K _;rfl
  | succ n ih =>
    intro M K h
    simp only[LY,Ia]
    rcases VB cs M K false h hcs with⟨g1,g2⟩ | ⟨M',K',m,g1,g2,g3⟩
    · rw[g1,g2]
    · rw[g1,g2]
      cases m with
      | true=>exact ih M' K' g3
      | false=>rfl
theorem SR         : ∀ (c : List Int) (M : B4)   (K : List Int), GR   M K → C0   c →
    (DB M c=none∧∃x∈c,Lit x∧(x∈K∨-x∈c))∨∃M' K',DB M c=some M'∧GR M' K'∧∀z,z∈K'↔z∈K∨(Lit z∧-z∈c):=by
  intro c
  induction c with
  | nil=>intro M K h _;exact .inr ⟨M,K,rfl,h,fun z=>by simp⟩
  | cons x l ih =>
    intro M K h hc
    have hcl:C0 l:=fun z hz=>hc z (oJ _ hz)
    have hxi:=hc x oH
    cases hnull:Dd x with
    | true =>
      have hs:(Bl x).2=0:=by
        unfold Dd at hnull
        rw[decide_eq_true_iff]at hnull
        unfold Bl
        rcases hnull with rfl | rfl<;>rfl
      have hi:DB M (x::l)=DB M l:=by simp only[DB];rw[if_pos hs]
      have hnl:¬ Lit x:=fun q=>by rw[(G8 hxi).2 q]at hnull;cases hnull
      rw[hi]
      rcases ih M K h hcl with⟨g1,z,g2,g3,g4⟩ | ⟨M',K',g1,g2,g3⟩
      · exact .inl ⟨g1,z,oJ _ g2,g3,g4.imp id (oJ _)⟩
      · refine .inr ⟨M', K', g1, g2, fun z => ?_⟩
        rw[g3 z]
        constructor
        · exact fun q=>q.imp id fun q=>⟨q.1,oJ _ q.2⟩
        · rintro (q | ⟨q1, q2⟩)
          · exact .inl q
          · rcases ov.1            q2 with q2 | q2
            · exact absurd (by rw[← q2];exact q1.neg) hnl
            · exact .inr ⟨q1,q2⟩
    | false =>
      have hx:Lit x:=(G8 hxi).1 hnull
      have hs:¬ (Bl x).2=0:=by rcases JT hx with⟨_,e⟩ | ⟨_,e⟩<;>rw[e]<;>simp
      by_cases hp:0<ofV M x
      · refine .inl ⟨by simp only [DB];    rw [if_neg hs, if_pos hp], x, oH,                 hx, .inl ?_⟩
        refine(h.pos x hx).1 ?_
        rcases h.tri x hx with q | q | q<;>omega
      · have hi : DB    M (x :: l) = DB    (EU     M (-x)) l := by simp only [DB];    rw [if_neg hs, if_neg hp]
        have hxk:x ∉ K:=fun q=>by have:=(h.pos x hx).2 q;omega
        rw[hi]
        rcases ih (EU M (-x)) (K++[-x]) (h.put hx.neg (by rw[oX];exact hxk)) hcl with⟨g1,z,g2,g3,g4⟩ | ⟨M',K',g1,g2,g3⟩
        · refine .inl ⟨g1, z, oJ                   _ g2, g3, ?_⟩
          rcases g4 with q | q
          · rcases pg.1              q with q | q
            · exact .inl q
            · rw[List.mem_singleton.1 q,oX];exact .inr oH
          · exact .inr (oJ _ q)
        · refine .inr ⟨M', K', g1, g2, fun z => ?_⟩
          rw[g3 z,pg,List.mem_singleton,ov]
          constructor
          · rintro ((q | q) | ⟨q1, q2⟩)
            · exact .inl q
            · subst q;exact .inr ⟨hx.neg,.inl (by omega)⟩
            · exact .inr ⟨q1,.inr q2⟩
          · rintro (q | ⟨q1, q2 | q2⟩)
            · exact .inl (.inl q)
            · exact .inl (.inr (by omega))
            · exact .inr ⟨q1,q2⟩
theorem Hl         (C : List Int) : ∀ (l K : List Int), (IR    C K l = none ∧ ∃ x ∈ l, -x ∈ C) ∨ ((∀ x ∈ l, -x ∉ C) ∧ IR    C K l = some (K ++ l.map (fun x => -x))) := by
  intro l
  induction l with
  | nil=>intro K;exact .inr ⟨fun x hx=>(by cases hx),by simp[IR]⟩
  | cons x l ih =>
    intro K
    by_cases h:-x∈C
    · exact .inl ⟨by simp[IR,h],x,oH,h⟩
    · have hi:IR C K (x::l)=IR C (K++[-x]) l:=by simp[IR,h]
      rw[hi]
      rcases ih (K++[-x])with⟨g1,z,g2,g3⟩ | ⟨g1,g2⟩
      · exact .inl ⟨g1,z,oJ _ g2,g3⟩
      · refine .inr ⟨fun z hz => ?_, by rw [g2]; simp⟩
        rcases ov.1 hz with rfl | hz
        · exact h
        · exact g1 z hz
theorem Np           {cs : List (List Int)} (hcs : ∀ L ∈ cs, C0   L) {c : List Int} (hc : C0   c) (n : Nat) : EJ       n cs c = E4       n cs c := by
  unfold EJ E4
  rcases SR c [] [] GR.nil hc with⟨g1,x,g2,g3,g4⟩ | ⟨M',K',g1,g2,g3⟩
  · rw[g1]
    have hx:-x∈c:=g4.resolve_left (fun q=>by cases q)
    rcases Hl (Ae [] c) (Ae [] c) []with⟨k1,_⟩ | ⟨k1,_⟩
    · rw[k1]
    · exact absurd ((Cl hc (-x)).2 ⟨hx,g3.neg⟩) (k1 x ((Cl hc x).2 ⟨g2,g3⟩))
  · rw [g1]
    rcases Hl (Ae [] c) (Ae [] c) []with⟨k1,x,k2,k3⟩ | ⟨k1,k2⟩
    · obtain ⟨q1, q2⟩ := (Cl        hc x).1 k2
      obtain⟨q3,q4⟩:=(Cl hc (-x)).1 k3
      have p1:-x∈K':=(g3 (-x)).2 (.inr ⟨q4,by rw[oX];exact q1⟩)
      have p2:x∈K':=(g3 x).2 (.inr ⟨q2,q3⟩)
      exact absurd p1 (g2.con p2)
    · rw [k2]
      refine Ut hcs n M' _ (g2.same fun z=>?_)
      rw[g3 z,oz,List.mem_map]
      constructor
      · rintro⟨x,hx,rfl⟩
        obtain⟨q1,q2⟩:=(Cl hc x).1 hx
        exact .inr ⟨q2.neg,by rw[oX];exact q1⟩
      · rintro (q | ⟨q1, q2⟩)
        · cases q
        · exact⟨-z,(Cl hc (-z)).2 ⟨q2,q1.neg⟩,oX z⟩
theorem Ub        {α : Type} {p q : α → Bool} (h : ∀ x, p x = true → q x = true) {y : α} (hq : q y = true) (hp : p y = false) : ∀ {l : List α}, y ∈ l → (l.filter p).length < (l.filter q).length := by
  have le:∀l:List α,(l.filter p).length≤(l.filter q).length:=by
    intro l
    induction l with
    | nil=>exact oD _
    | cons x l ih =>
      cases hx:p x with
      | true=>rw[pc hx,pc (h x hx)];simp only[oZ];omega
      | false =>
        rw[pq (by simp[hx])]
        cases hx':q x with
        | true=>rw[pc hx'];simp only[oZ];omega
        | false=>rw[pq (by simp[hx'])];exact ih
  intro l
  induction l with
  | nil=>intro hy;cases hy
  | cons x l ih =>
    intro hy
    rcases ov.1 hy with rfl | hy
    · rw[pq (by simp[hp]),pc hq]
      have:=le l
      simp only[oZ]
      omega
    · have:=ih hy
      cases hx:p x with
      | true=>rw[pc hx,pc (h x hx)];simp only[oZ];omega
      | false =>
        rw[pq (by simp[hx])]
        cases hx':q x with
        | true=>rw[pc hx'];simp only[oZ];omega
        | false=>rw[pq (by simp[hx'])];exact this
theorem VA        : ∀ (cs : List (List Int)) (K K' : List Int) (more m : Bool), (∀ L ∈ cs, C0   L) → B2    K cs more = some (K', m) →
    (∀z∈K,z∈K')∧(m=true→more=true∨∃y∈cs.flatten,y ∉ K∧y∈K'):=by
  intro cs
  induction cs with
  | nil =>
    intro K K' more m _ h
    simp only[B2]at h
    injection h with h
    injection h with h1 h2
    subst h1;subst h2
    exact⟨fun z hz=>hz,fun h=>.inl h⟩
  | cons L cs ih =>
    intro K K' more m hcs h
    have hL:=hcs L oH
    have hcs':∀L∈cs,C0 L:=fun L hL=>hcs L (oJ _ hL)
    have keep:B2 K cs more=some (K',m)→_:=fun h=>by
      obtain⟨g1,g2⟩:=ih K K' more m hcs' h
      exact(⟨g1,fun hm=>(g2 hm).imp id fun⟨y,q1,q2⟩=>⟨y,by rw[List.flatten_cons];exact ol _ q1,q2⟩⟩:(∀z∈K,z∈K')∧(m=true→more=true∨∃y∈(L::cs).flatten,y ∉ K∧y∈K'))
    simp only[B2]at h
    split at h
    · cases h
    · rename_i y e
      cases hh:E5 K (Ae [] L)with
      | true=>rw[hh]at h;exact keep h
      | false =>
        rw[hh]at h
        have h:B2 (K++[y]) cs true=some (K',m):=h
        obtain⟨g1,_⟩:=ih (K++[y]) K' true m hcs' h
        have hy:y∈EM K (Ae [] L):=by rw[e];exact oH
        obtain⟨k1,k2,_⟩:=(EN hL y).1 hy
        refine⟨fun z hz=>g1 z (oP _ hz),fun _=>.inr ⟨y,by rw[List.flatten_cons];exact oP _ k1,fun hyK=>?_,g1 y (ol _ oH)⟩⟩
        rw[(G7 hL).2 ⟨y,k1,k2,hyK⟩]at hh
        cases hh
    · exact keep h
theorem Us        {cs : List (List Int)} (hcs : ∀ L ∈ cs, C0   L) : ∀ (n : Nat) (K : List Int), (cs.flatten.filter fun x => decide (x ∉ K)).length < n → ∃ b, Ia    cs n K = some b := by
  intro n
  induction n with
  | zero=>intro K h;omega
  | succ n ih =>
    intro K h
    simp only[Ia]
    cases hp:B2 K cs false with
    | none=>exact⟨true,rfl⟩
    | some p =>
      obtain⟨K',m⟩:=p
      cases m with
      | false=>exact⟨false,rfl⟩
      | true =>
        obtain⟨g1,g2⟩:=VA cs K K' false true hcs hp
        obtain⟨y,k1,k2,k3⟩:=(g2 rfl).resolve_left (by decide)
        refine ih K' ?_
        have:=Ub (p:=fun x=>decide (x ∉ K')) (q:=fun x=>decide (x ∉ K)) (y:=y) (fun x hx=>by
          rw[decide_eq_true_iff]at hx ⊢
          exact fun q=>hx (g1 x q)) (by rw[decide_eq_true_iff];exact k2) (by rw[decide_eq_false_iff_not];exact fun q=>q k3) k1
        omega
def fol(cs:List (List Int))(c:List Int):Bool:=(E4 (cs.flatten.length+1) cs c).getD false
theorem ii{cs:List (List Int)}(hcs:∀L∈cs,C0 L)(c:List Int):E4 (cs.flatten.length+1) cs c=some (fol cs c):=by
  unfold fol
  have:∃b,E4 (cs.flatten.length+1) cs c=some b:=by
    unfold E4
    split
    · exact⟨true,rfl⟩
    · exact Us hcs _ _ (Nat.lt_succ_of_le (List.length_filter_le _ _))
  obtain⟨b,hb⟩:=this
  rw[hb];rfl
theorem nl{cs:List (List Int)}(hcs:∀L∈cs,C0 L){c:List Int}(hc:C0 c):EJ (cs.flatten.length+1) cs c=some (fol cs c):=by
  rw[Np hcs hc]
  exact ii hcs c
theorem co76:Try.prog.cellsOf 76=1:=by kernel_rfl
theorem co77:Try.prog.cellsOf 77=1:=by kernel_rfl
section
variable{H:Type}{enc:TypeId×Value→H}{w:World}{held:Bool}
theorem nz{n:Int}(h:(Lit.int .i8 n).wf=true):i8 n:=by
  simp only[Lit.wf,Bool.and_eq_true,decide_eq_true_eq]at h
  exact h
def Sm(f:Int→AV)(q:Int→Prop)(_:ASt)(us:List AV)(x:Int):Prop:=us=[f x]∧q x
theorem Pc(f:Int→AV)(q:Int→Prop)(s s':ASt)(us:List AV)(x:Int)(h:Sm f q s us x)(_:Old s.next s s'):Sm f q s' us x:=h
theorem UZ{t:TypeId}{k:IntKind}(ht:Try.prog.underlying t=some (.int k)){q:Int→Prop}(hq:∀n,(Lit.int k n).wf=true→q n)(n:Nat)(cs:List Value)(y:DataW H×List MemPlace)
    (h:DataW.trod enc Try.prog w 0 (fun _=>true) held n t cs=some y) (ρ:Rho) (s:ASt) (hd:HI Try.prog w ρ s):MM Try.prog w (Sm (fun n=>.int k n) q) cs ρ s:=by
  obtain⟨m,rfl,_,h3⟩:=DataW.trod_int ht h
  exact⟨ρ,s,[.int k m],m,hd,Rho.le_refl ρ,Old.refl _ _,.cons (.int k m) .nil,rfl,hq m h3⟩
theorem SJ{t e:TypeId}{k:IntKind}(ht:Try.prog.underlying t=some (.slice e))(he:Try.prog.underlying e=some (.int k))(hc:Try.prog.cellsOf e=1){q:Int→Prop}(hq:∀n,(Lit.int k n).wf=true→q n){n:Nat}{cs:List Value}{y:DataW H×List MemPlace}
    (h:DataW.trod enc Try.prog w 0 (fun _=>true) held n t cs=some y) (hw:∀a,cs=[.slice (some a) 0 0]→0<w.heap.size) {ρ:Rho} {s:ASt} (hd:HI Try.prog w ρ s):MM Try.prog w (Dk (Sm (fun n=>.int k n) q) 1) cs ρ s:=
  Je (Pc _ _) ht hc (by decide) (fun _ n cs y h _=>UZ he hq n cs y h) h hw hd
theorem Lp{f:Int→AV}{q:Int→Prop}{s:ASt}{us:List AV}{L:List Int}(h:Dk (Sm f q) 1 s us L):∃u,us=[u]∧AM s.next s u (L.map f)∧(∀x∈L,q x)∧L.length<9223372036854775808:=by
  obtain⟨a,cap,rfl,hl,hcap,h2⟩:=h
  have hm:maxLen=9223372036854775807:=rfl
  refine⟨_,rfl,⟨a,cap,by rw[oF],fun k u hk=>?_⟩,fun x hx=>?_,by omega⟩
  · rw[pL]at hk
    cases hx:L[k]? with
    | none=>rw[hx]at hk;cases hk
    | some x =>
      rw[hx]at hk
      injection hk with hk
      subst hk
      obtain⟨i,o,vs,g1,g2,g3,g4,g5,g6⟩:=h2 k x hx
      subst g5
      exact⟨i,o,g1,g2,by simpa using g4 0 (f x) rfl⟩
  · obtain ⟨k, hk⟩ := List.mem_iff_getElem?.1 hx
    obtain⟨i,o,vs,g1,g2,g3,g4,g5,g6⟩:=h2 k x hk
    exact g6
set_option maxRecDepth 16000
theorem SK{t e e':TypeId}{k:IntKind}(ht:Try.prog.underlying t=some (.slice e))(hte:Try.prog.underlying e=some (.slice e'))(he:Try.prog.underlying e'=some (.int k))(hce:Try.prog.cellsOf e=1)(hc:Try.prog.cellsOf e'=1){q:Int→Prop}(hq:∀n,(Lit.int k n).wf=true→q n){n:Nat}{cs:List Value}{y:DataW H×List MemPlace}
    (h:DataW.trod enc Try.prog w 0 (fun _=>true) held n t cs=some y) (hw:∀a,cs=[.slice (some a) 0 0]→0<w.heap.size) {ρ:Rho} {s:ASt} (hd:HI Try.prog w ρ s):MM Try.prog w (Dk (Dk (Sm (fun n=>.int k n) q) 1) 1) cs ρ s:=
  Je (Dk.old (Pc _ _)) ht hce (by decide) (fun hw n cs y h _ ρ s hd=>SJ hte he hc hq h (fun _ _=>hw) hd) h hw hd
theorem VJ{f:Int→AV}{q:Int→Prop}{s:ASt}{us:List AV}{ls:List (List Int)}(h:Dk (Dk (Sm f q) 1) 1 s us ls):
    ∃a cap,us=[.slice a ls.length cap]∧(∀k L,ls[k]? = some L→∃i o u,a=some (i,o)∧i<s.next∧load1 s i (o+k)=some u∧AM s.next s u (L.map f))∧(∀L∈ls,(∀x∈L,q x)∧L.length<9223372036854775808)∧ls.length<9223372036854775808:=by
  obtain⟨a,cap,rfl,hl,hcap,h2⟩:=h
  have hm:maxLen=9223372036854775807:=rfl
  refine⟨a,cap,rfl,fun k L hk=>?_,fun L hL=>?_,by omega⟩
  · obtain ⟨i, o, vs, g1, g2, g3, g4, g5⟩ := h2 k L hk
    obtain⟨u,rfl,k2,k3,k4⟩:=Lp g5
    exact⟨i,o,u,g1,g2,by simpa using g4 0 u rfl,k2⟩
  · obtain ⟨k, hk⟩ := List.mem_iff_getElem?.1 hL
    obtain⟨i,o,vs,g1,g2,g3,g4,g5⟩:=h2 k L hk
    obtain⟨u,_,_,k3,k4⟩:=Lp g5
    exact⟨k3,k4⟩
theorem aP{t e:TypeId}(ht:Try.prog.underlying t=some (.slice e)){W:World}{base:Nat}{v:Value}(h:Value.okWide Try.prog W .any base t v)(a:Addr)(ha:v.cells.toList=[.slice (some a) 0 0]):0<W.heap.size:=by
  have hv:v=.slice (some a) 0 0:=by
    cases v with
    | agg cs =>
      simp[Value.okWide,ht,Cell.okWide,Cell.ok]at h
    | _ =>
      simp[Value.cells]at ha
      try (obtain⟨e1,e2,e3⟩:=ha;rw[e1,e2,e3])
  subst hv
  simp only[Value.okWide,ht,Cell.okWide,Cell.ok]at h
  obtain⟨_,_,_,_,row,cells,hs,_⟩:=h
  unfold World.shape? at hs
  cases hb:W.heap[a.block]? with
  | none=>rw[hb]at hs;cases hs
  | some o =>
    rcases oI a.block W.heap.size with h' | h'
    · omega
    · rw[Array.getElem?_eq_none h']at hb;cases hb
end
end
end Go.Proofs.Ytilhhmkdcoajnaa.Am
set_option linter.unusedVariables false
set_option linter.unusedSimpArgs false
set_option maxRecDepth 16000
namespace Go.Proofs.Ytilhhmkdcoajnaa.Am
open Go Go.Proofs
noncomputable section
theorem UM{W:World}{ρ:Rho}{s:ASt}{f:FuncId}{xs:List AV}{args:Array Value}(hd:HI Try.prog W ρ s)(ha:AU ρ xs args.toList)(h:WF lK f xs (fun r _=>r=.bool true) s):
    Calls Try.prog f args W fun e W'=>e=.returned (.bool true)∧L9 W W':=by
  obtain⟨n,p,h1,h2⟩:=h
  have:=((sim Lf (Hn JK) rfl c8 n).call ρ s W f xs p.1 p.2 args h1 hd.inv hd.fresh ha).2
  refine callsIn_wide.1 (CallsIn.mono this ?_)
  intro e w' he
  cases e with
  | panicked c=>exact he.elim
  | outgrown=>exact he.elim
  | returned v' =>
    obtain⟨ρ',k1,k2,k3⟩:=he
    rw[h2]at k1
    cases k1
    exact⟨rfl,Ty k3 hd.notOwned⟩
theorem ar{t e:TypeId}(ht:Try.prog.underlying t=some (.slice e)){W:World}{base:Nat}{v:Value}(h:Value.okWide Try.prog W .any base t v){ρ:Rho}{a:AV}(hr:AU ρ [a] v.cells.toList):Aa ρ a v:=by
  have hv:v.cells.toList=[v]:=by
    cases v with
    | agg cs=>simp[Value.okWide,ht,Cell.okWide,Cell.ok]at h
    | _=>rfl
  rw[hv]at hr
  cases hr with
  | cons h _=>exact h
theorem reads_again{H:Type}{enc:TypeId×Value→H}{P:Program}{t:TypeId}(hl:laidOutB P=true)(hr:P.readableRec t=true)(hrow:t<P.types.size){W W':World}{v:Value}{d:DataW H}{ps:List MemPlace}{sp:Nat→Bool}
    (h:DataW.Trod enc P W 0 (fun _=>true) true t v d ps) (hk:L9 W W') (hlt:∀x∈ps,x.block<W.heap.size) (hs:∀x∈ps,sp x.block=true):DataW.Trod enc P W' 0 sp true t v d ps:=
  WideElems.Trod_stays hl hr hrow h (fun x hx=>by
    have:=hlt x hx
    cases x with
    | cell b o=>exact World.cell?_of_block (w:=W) (hk.heap b this)
    | map b=>exact hk.heap b this) hs
abbrev Tag:=Nat×Nat×Nat
abbrev Ow:=Nat→Tag
structure AK(m:Tag→Prop)(ow:Ow)(s:ASt)(ow':Ow)(s':ASt):Prop where
  next:s.next≤s'.next
  tags:∀x,x<s.next→¬ m (ow x)→ow' x=ow x
  heap:∀x,x<s.next→¬ m (ow x)→s'.heap.get x=s.heap.get x
theorem AK.refl(m:Tag→Prop)(ow:Ow)(s:ASt):AK m ow s ow s:=⟨oD _,fun _ _ _=>rfl,fun _ _ _=>rfl⟩
theorem AK.trans{m:Tag→Prop}{ow ow1 ow2:Ow}{s s1 s2:ASt}(h:AK m ow s ow1 s1)(k:AK m ow1 s1 ow2 s2):AK m ow s ow2 s2:=by
  have h1:=h.next
  refine⟨oS h.next k.next,fun x hx hm=>(k.tags x (by omega) (by rw[h.tags x hx hm];exact hm)).trans (h.tags x hx hm),fun x hx hm=>?_⟩
  rw[k.heap x (by omega) (by rw[h.tags x hx hm];exact hm),h.heap x hx hm]
theorem AK.mono{m m':Tag→Prop}{ow ow':Ow}{s s':ASt}(h:AK m ow s ow' s')(k:∀t,m t→m' t):AK m' ow s ow' s':=⟨h.next,fun x hx hm=>h.tags x hx fun q=>hm (k _ q),fun x hx hm=>h.heap x hx fun q=>hm (k _ q)⟩
def ext(ow:Ow)(n:Nat)(T:Tag):Ow:=fun x=>if x<n then ow x else T
theorem FU{ow:Ow}{n:Nat}{T:Tag}{x:Nat}(h:x<n):ext ow n T x=ow x:=if_pos h
theorem ER{ow:Ow}{n:Nat}{T:Tag}{x:Nat}(h:n≤x):ext ow n T x=T:=if_neg (by omega)
theorem AK.old{m:Tag→Prop}{ow:Ow}{s s':ASt}(h:Old s.next s s')(T:Tag):AK m ow s (ext ow s.next T) s':=⟨h.1,fun x hx _=>FU hx,fun x hx _=>h.2 x hx⟩
theorem AK.new(m:Tag→Prop)(ow:Ow)(s:ASt)(o:Cv)(T:Tag):AK m ow s (ext ow s.next T) (AH s o):=AK.old (Old.new s o) T
structure P7(ow:Ow)(T:Tag)(s:ASt)(i:Nat)(r:EF):Prop where
  get:s.heap.get i=some (.row r)
  whose:ow i=T
  lt:i<s.next
  own:r.mode=.own
  sz:r.sz=1
  par:∀p,r.par=some p→ow p=T∧p<s.next∧p≠i
theorem P7.step{m:Tag→Prop}{ow ow':Ow}{T:Tag}{s s':ASt}{i:Nat}{r:EF}(h:P7 ow T s i r)(k:AK m ow s ow' s')(hm:¬ m T):P7 ow' T s' i r:=by
  have hn:=k.next
  have hl:=h.lt
  refine⟨by rw[k.heap i h.lt (by rw[h.whose];exact hm)];exact h.get,by rw[k.tags i h.lt (by rw[h.whose];exact hm)];exact h.whose,by omega,h.own,h.sz,fun p hp=>?_⟩
  obtain⟨h1,h2,h3⟩:=h.par p hp
  exact⟨by rw[k.tags p h2 (by rw[h1];exact hm)];exact h1,by omega,h3⟩
theorem P7.store{ow:Ow}{T:Tag}{s:ASt}{i o:Nat}{r:EF}(h:P7 ow T s i r){vs:List AV}(hne:vs≠[])(ho:o+vs.length≤r.n)(hc:Af vs=true):
    ∃s',CJ s i o vs=some s'∧P7 ow T s' i { r with c:=r.c.fill o vs,par:=none }∧AK (· = T) ow s ow s'∧s'.next=s.next:=by
  have hrow:BA s i=some r:=by simp[BA,h.get]
  have hst:CJ s i o vs=some (setObj (Ax s i r) i (.row { r with c:=r.c.fill o vs,par:=none })):=by
    cases vs with
    | nil=>exact absurd rfl hne
    | cons v vs =>
      have hb:=A1 ho
      rw[oZ]at hb
      simp[CJ,hrow,h.own,FL,hb,hc,AF]
  have hun:(Ax s i r).next=s.next:=by
    unfold Ax
    split
    · rfl
    · rename_i p _
      cases Nat.beq p i<;>rfl
  refine⟨_,hst,⟨by rw[Ai,if_pos rfl],h.whose,by show i<(Ax s i r).next;rw[hun];exact h.lt,h.own,h.sz,fun p hp=>by cases hp⟩,⟨by show s.next≤(Ax s i r).next;omega,fun _ _ _=>rfl,fun x hx hm=>?_⟩,hun⟩
  have hxi:x≠i:=fun e=>hm (by rw[e];exact h.whose)
  rw[Ai,if_neg hxi]
  unfold Ax
  cases hp:r.par with
  | none=>rfl
  | some p =>
    obtain⟨h1,h2,h3⟩:=h.par p hp
    have hb:Nat.beq p i=false:=EB h3
    simp only[hb,cond_false]
    rw[Bi,if_neg (fun e=>hm (by rw[e];exact h1))]
theorem E1{a:Option (Nat×Nat)}{n:Nat}{cx:Option Nat}:eqA (.slice a n cx) (.slice a n cx)=true:=by
  cases a with
  | none=>cases cx<;>simp[eqA]
  | some io=>obtain⟨i,o⟩:=io;cases cx<;>simp[eqA]
def Buf(ow:Ow)(T:Tag)(s:ASt)(v:AV)(cs:List AV):Prop:=(v=.slice none 0 (some 0)∧cs=[]) ∨
  ∃i o cap r,v=.slice (some (i,o)) cs.length cap∧P7 ow T s i r∧(∀k u,cs[k]? = some u→r.c.get (o+k)=some u)∧o+cs.length≤r.n∧(match cap with
    | some c=>cs.length≤c∧o+c≤r.n
    | none=>o=0∧0<r.n)
theorem Buf.nil(ow:Ow)(T:Tag)(s:ASt):Buf ow T s (.slice none 0 (some 0)) []:=.inl ⟨rfl,rfl⟩
theorem Buf.step{m:Tag→Prop}{ow ow':Ow}{T:Tag}{s s':ASt}{v:AV}{cs:List AV}(h:Buf ow T s v cs)(k:AK m ow s ow' s')(hm:¬ m T):Buf ow' T s' v cs:=by
  rcases h with h | ⟨i,o,cap,r,h1,h2,h3⟩
  · exact .inl h
  · exact .inr ⟨i,o,cap,r,h1,h2.step k hm,h3⟩
theorem Buf.isCell{ow:Ow}{T:Tag}{s:ASt}{v:AV}{cs:List AV}(h:Buf ow T s v cs):v.isCell=true∧v.cells=[v]:=by
  rcases h with⟨rfl,_⟩ | ⟨i,o,cap,r,rfl,_⟩<;>exact⟨rfl,rfl⟩
theorem Buf.slice{ow:Ow}{T:Tag}{s:ASt}{v:AV}{cs:List AV}(h:Buf ow T s v cs):AM s.next s v cs:=by
  rcases h with⟨rfl,rfl⟩ | ⟨i,o,cap,r,rfl,h2,h3,h4,h5⟩
  · exact⟨none,some 0,rfl,A8.nil⟩
  · exact⟨_,_,rfl,fun k u hk=>⟨i,o,rfl,h2.lt,BW h2.get (by have:=Ab hk;omega) (h3 k u hk)⟩⟩
theorem Buf.self{ow:Ow}{T:Tag}{s:ASt}{v:AV}{cs:List AV}(h:Buf ow T s v cs):eqA v v=true:=by
  obtain⟨a,cap,rfl,_⟩:=h.slice
  exact E1
theorem Buf.len{ow:Ow}{T:Tag}{s:ASt}{v:AV}{cs:List AV}(h:Buf ow T s v cs){t e:TypeId}(ht:Try.prog.underlying t=some (.slice e))(s':ASt):Ao Try.prog s' t v=some (iv (cs.length:Int)):=by
  rcases h with⟨rfl,rfl⟩ | ⟨i,o,cap,r,rfl,_⟩
  · exact AZ ht
  · exact AZ ht
def BC(v:AV)(k:Nat):AV:=match v with
  | .slice (some (i,o)) _ _=>.ptr (some (i,o+k * 1))
  | _=>Au
theorem Buf.addr{ow:Ow}{T:Tag}{s:ASt}{v:AV}{cs:List AV}(h:Buf ow T s v cs){t e:TypeId}(ht:Try.prog.underlying t=some (.slice e))(hs:BB Try.prog e=some 1){k:Nat}(hk:k<cs.length):AC Try.prog t v (iv (k:Int))=some (BC v k):=by
  rcases h with⟨rfl,rfl⟩ | ⟨i,o,cap,r,rfl,_⟩
  · simp at hk
  · exact Aw ht hs hk
theorem Buf.get{ow:Ow}{T:Tag}{s:ASt}{v:AV}{cs:List AV}(h:Buf ow T s v cs){t:TypeId}(ht:Ey Try.prog t=some false){k:Nat}{u:AV}(hk:cs[k]? = some u):AD Try.prog s t (BC v k)=some u:=by
  rcases h with⟨rfl,rfl⟩ | ⟨i,o,cap,r,rfl,h2,h3,h4,h5⟩
  · simp at hk
  · refine A7       ht ?_
    rw[oV]
    exact BW h2.get (by have:=Ab hk;omega) (h3 k u hk)
theorem Buf.set {ow : Ow} {T : Tag} {s : ASt} {v : AV} {cs : List AV} (h : Buf ow T s v cs) {t : TypeId} (ht : BB    Try.prog t = some 1) {k : Nat} (hk : k < cs.length) {x : AV} (h1 : x.isCell = true) (h2 : x.cells = [x]) :
    ∃s',AN Try.prog s t (BC v k) x=some s'∧Buf ow T s' v (cs.set k x)∧AK (· = T) ow s ow s'∧s'.next=s.next:=by
  rcases h with⟨rfl,rfl⟩ | ⟨i,o,cap,r,rfl,hm,h3,h4,h5⟩
  · simp at hk
  · obtain⟨s',g1,g2,g3,g4⟩:=hm.store (o:=o+k * 1) (vs:=[x]) (by simp) (by simp;omega) (by simp[Af,h1])
    refine⟨s',?_,.inr ⟨i,o,cap,_,by rw[oO],g2,fun j u hj=>?_,by rw[oO];exact h4,?_⟩,g3,g4⟩
    · simp[BC,AN,ht,h2,AF]
      rw[← g1]
      congr 1
      omega
    · show(Aj.fill r.c (o+k * 1) [x]).get (o+j)=some u
      rw[Aj.get_fill]
      rw[oU]at hj
      by_cases e:k=j
      · subst e
        rw[if_pos rfl,if_pos hk]at hj
        rw[if_pos ⟨by omega,by show o+k<o+k * 1+1;omega⟩,show o+k - (o+k * 1)=0 by omega]
        exact hj
      · rw [if_neg e] at hj
        rw[if_neg (fun q=>e (by have q1:=q.1;have q2:o+j<o+k * 1+1:=q.2;omega))]
        exact h3 j u hj
    · cases cap with
      | none=>exact h5
      | some c=>exact⟨by rw[oO];exact h5.1,h5.2⟩
def II(v:AV)(k:Nat):AV:=match v with
  | .slice a _ cap=>.slice a k cap
  | _=>v
theorem Buf.cut{ow:Ow}{T:Tag}{s:ASt}{v:AV}{cs:List AV}(h:Buf ow T s v cs){k:Nat}(hk:k≤cs.length):Buf ow T s (II v k) (cs.take k):=by
  rcases h with⟨rfl,rfl⟩ | ⟨i,o,cap,r,rfl,h2,h3,h4,h5⟩
  · have:k=0:=by simpa using hk
    subst this
    exact .inl ⟨rfl,rfl⟩
  · have hl:(cs.take k).length=k:=by rw[ou];omega
    refine .inr ⟨i,o,cap,r,by rw[hl];rfl,h2,fun j u hj=>?_,by omega,?_⟩
    · rw[pl]at hj
      split at hj
      · exact h3 j u hj
      · cases hj
    · cases cap with
      | none=>exact h5
      | some c=>exact⟨by omega,h5.2⟩
theorem Buf.cut_op{ow:Ow}{T:Tag}{s:ASt}{v:AV}{cs:List AV}(h:Buf ow T s v cs){t e:TypeId}(ht:Try.prog.underlying t=some (.slice e))(hs:BB Try.prog e=some 1){k:Nat}(hk:k≤cs.length):
    AW Try.prog t false true false s [v,iv (k:Int)]=some (II v k):=by
  rcases h with⟨rfl,rfl⟩ | ⟨i,o,cap,r,rfl,h2,h3,h4,h5⟩
  · have:k=0:=by simpa using hk
    subst this
    have hb:At (.int .i64 0) 0=some 0:=rfl
    show Ap Try.prog s t (.slice none 0 (some 0)) none (some (iv ((0:Nat):Int))) none=_
    simp[Ap,ht,hs,hb,AF,II]
  · cases cap with
    | some c =>
      have hb:At (iv (k:Int)) c=some k:=by simp[At,Cu,BX,AF,A1 (show k≤c by have:=h5.1;omega)]
      show Ap Try.prog s t (.slice (some (i,o)) cs.length (some c)) none (some (iv (k:Int))) none=_
      cases hz:Nat.beq c 0<;>simp[Ap,ht,hs,hb,AF,hz,II]
    | none =>
      have h5:o=0:=h5.1
      subst h5
      have hb:At (iv (k:Int)) r.n=some k:=by simp[At,Cu,BX,AF,A1 (show k≤r.n by omega)]
      have hrow:BA s i=some r:=by simp[BA,h2.get]
      show Ap Try.prog s t (.slice (some (i,0)) cs.length none) none (some (iv (k:Int))) none=_
      simp[Ap,ht,hs,hrow,h2.sz,AF,hb,A1 (oK r.n),show Nat.beq 1 0=false from rfl,II]
def GH(v:AV)(k:Nat):AV:=match v with
  | .slice none n (some c)=>.slice none (n - k) (some (c - k))
  | .slice (some (i,o)) n (some c)=>.slice (some (bif Nat.beq c k then (i,o)else (i,o+k * 1))) (n - k) (some (c - k))
  | .slice (some (i,o)) n none=>.slice (some (i,o+k * 1)) (n - k) none
  | v=>v
theorem Buf.rest {ow : Ow} {T : Tag} {s : ASt} {v : AV} {cs : List AV} (h : Buf ow T s v cs) {t e : TypeId} (ht : Try.prog.underlying t = some (.slice e)) (hs : BB    Try.prog e = some 1) {k : Nat} (hk : k ≤ cs.length) :
    AW Try.prog t true false false s [v,iv (k:Int)]=some (GH v k)∧AM s.next s (GH v k) (cs.drop k):=by
  have hb:At (iv (k:Int)) cs.length=some k:=by simp[At,Cu,BX,AF,A1 hk]
  rcases h with⟨rfl,rfl⟩ | ⟨i,o,cap,r,rfl,h2,h3,h4,h5⟩
  · have:k=0:=by simpa using hk
    subst this
    have hb0:At (.int .i64 0) 0=some 0:=rfl
    refine⟨?_,⟨none,some 0,rfl,A8.nil⟩⟩
    show Ap Try.prog s t (.slice none 0 (some 0)) (some (iv ((0:Nat):Int))) none none=_
    simp[Ap,ht,hs,hb0,AF,GH]
  · have cells:∀cap',AM s.next s (.slice (some (i,o+k * 1)) (cs.length - k) cap') (cs.drop k):=fun cap'=>by
      refine⟨_,_,by rw[pK],fun j u hj=>⟨i,o+k * 1,rfl,h2.lt,?_⟩⟩
      rw[pD]at hj
      rw[show o+k * 1+j=o+(k+j) by omega]
      exact BW h2.get (by have:=Ab hj;omega) (h3 _ u hj)
    cases cap with
    | some c =>
      cases hz:Nat.beq c k with
      | false =>
        refine⟨?_,by simp only[GH,hz,cond_false];exact cells (some (c - k))⟩
        show Ap Try.prog s t (.slice (some (i,o)) cs.length (some c)) (some (iv (k:Int))) none none=_
        simp[Ap,ht,hs,hb,AF,hz,GH]
      | true =>
        have hck:=pI hz
        have hkl:k=cs.length:=by have:=h5.1;omega
        refine⟨?_,by simp only[GH,hz,cond_true];exact⟨_,_,by rw[pK],fun j u hj=>by rw[hkl,List.drop_length]at hj;simp at hj⟩⟩
        show Ap Try.prog s t (.slice (some (i,o)) cs.length (some c)) (some (iv (k:Int))) none none=_
        simp[Ap,ht,hs,hb,AF,hz,GH]
    | none =>
      have h5:o=0:=h5.1
      subst h5
      have hrow:BA s i=some r:=by simp[BA,h2.get]
      refine⟨?_,by simp only[GH];exact cells none⟩
      show Ap Try.prog s t (.slice (some (i,0)) cs.length none) (some (iv (k:Int))) none none=_
      simp[Ap,ht,hs,hrow,h2.sz,AF,hb,A1 (oK r.n),show Nat.beq 1 0=false from rfl,GH]
theorem Cy{t:Aj AV}{n:Nat}{vs:List AV}{j:Nat}{u:AV}(h:vs[j]? = some u):(t.fill n vs).get (n+j)=some u:=by
  have:=Ab h
  rw[Aj.get_fill,if_pos ⟨by omega,by omega⟩,Nat.add_sub_cancel_left]
  exact h
theorem E3{t:Aj AV}{n:Nat}{vs:List AV}{j:Nat}(h:j<n):(t.fill n vs).get j=t.get j:=by
  rw[Aj.get_fill,if_neg (by omega)]
theorem Nq{cs:List AV}{x u:AV}{k:Nat}(h:(cs++[x])[k]? = some u):(k<cs.length∧cs[k]? = some u)∨(k=cs.length∧u=x):=by
  rcases oI k cs.length with hlt | hge
  · rw[oR hlt]at h;exact .inl ⟨hlt,h⟩
  · rw[oT hge]at h
    have hk:k=cs.length:=by
      rcases oI (k - cs.length) 1 with h' | h'
      · omega
      · rw[oe (by simpa using h')]at h;cases h
    subst hk
    exact .inr ⟨rfl,by simpa using h.symm⟩
theorem Buf.push {ow : Ow} {T : Tag} {s : ASt} {v : AV} {cs : List AV} (h : Buf ow T s v cs) {st e : TypeId} {by_ : Nat} (ht : Try.prog.underlying st = some (.slice e)) (hs : BB    Try.prog e = some 1) (hb : CM     Try.prog e = some by_) (hby : by_ ≤ 100) (hx : A9           Try.prog st = true) (hz : By     Try.prog e 1 = true)
    (hl:cs.length≤1000000000) {x:AV} (hc:x.isCell=true) {q:Nat} {ty:TypeId} {sz':Nat} (hq:s.heap.get q=some (AP ty sz' [x])):
    ∃v' s' ow',AY Try.prog s [st,st] [v,.slice (some (q,0)) 1 (some 1)]=some (v',s')∧Buf ow' T s' v' (cs++[x])∧AK (· = T) ow s ow' s':=by
  have hsrc:Bg Try.prog s e 1 (.slice (some (q,0)) 1 (some 1))=some (1,[x]):=GA ty sz' hq rfl
  have hac:Af [x]=true:=by simp[Af,hc]
  have hmul:(cs.length+1) * by_≤(cs.length+1) * 100:=px _ hby
  have fresh:∀ (s1:ASt),AK (· = T) ow s ow s1→s1.next=s.next→(∀ (c:Aj AV) (par:Option Nat),(∀k u,(cs++[x])[k]? = some u→c.get k=some u)→(∀p,par=some p→ow p=T∧p<s.next) →
      ∃ow',Buf ow' T (AH s1 (B6 e 1 c (cs++[x]).length par)) (.slice (some (s.next,0)) (cs.length+1) none) (cs++[x])∧AK (· = T) ow s ow' (AH s1 (B6 e 1 c (cs++[x]).length par))):=by
    intro s1 hst hn c par hcg hpar
    refine⟨ext ow s1.next T,.inr ⟨s.next,0,none,{ elem:=e,sz:=1,n:=(cs++[x]).length,c,spare:=true,mode:=.own,par,bytes:=false },by rw[oL];rfl,⟨by rw[AO,if_pos hn.symm];rfl,ER (by omega),by show s.next<s1.next+1;omega,rfl,rfl,fun p hp=>?_⟩,fun k u hk=>by rw[oN];exact hcg k u hk,by rw[oN];exact oD _,⟨rfl,by show 0<(cs++[x]).length;simp⟩⟩,hst.trans (AK.new _ ow s1 _ T)⟩
    obtain⟨h1,h2⟩:=hpar p hp
    exact⟨by rw[FU (by omega)];exact h1,by show p<s1.next+1;omega,by omega⟩
  rcases h with⟨rfl,rfl⟩ | ⟨i,o,cap,r,rfl,h2,h3,h4,h5⟩
  · obtain⟨ow',g1,g2⟩:=fresh s (AK.refl _ _ _) rfl (Aj.fill .leaf 0 [x]) none (fun k u hk=>by
      have:=Cy (t:=Aj.leaf) (n:=0) hk
      rw[oN]at this
      exact this) (fun p hp=>by cases hp)
    refine⟨_,_,ow',?_,g1,g2⟩
    rw[BO ht hs hb (by decide) hx hsrc hac (by simp;omega) (by simp)]
    simp only[appTo,EB (show(1:Nat)≠0 by decide),cond_false,BV,AF,hz,cond_true]
    rfl
  · have happ := BO         (st := st) (xt := st) (a := some (i, o)) (n := cs.length) (cap := cap) ht hs hb (by decide) hx hsrc hac (by omega) (by omega)
    have hcells:loadN s i o (cs.length * 1)=some cs:=by
      have hrow:BA s i=some r:=by simp[BA,h2.get]
      simp only[loadN,hrow,Option.bind_some,oV,A1 h4,AF,cond_true]
      exact KM _ _ fun j u hj=>h3 j u hj
    have freshC:∀k u,(cs++[x])[k]? = some u→(Aj.fill .leaf 0 (cs++[x])).get k=some u:=fun k u hk=>by
      have:=Cy (t:=Aj.leaf) (n:=0) hk
      rw[oN]at this
      exact this
    cases cap with
    | some c =>
      obtain⟨h6,h7⟩:=h5
      by_cases hfit:cs.length+1≤c
      · obtain⟨s',g1,g2,g3,g4⟩:=h2.store (o:=o+cs.length * 1) (vs:=[x]) (by simp) (by simp;omega) hac
        refine⟨.slice (some (i,o)) (cs.length+1) (some c),s',ow,?_,.inr ⟨i,o,some c,_,by rw[oL];rfl,g2,fun k u hk=>?_,by rw[oL];show o+(cs.length+1)≤r.n;omega,by rw[oL];exact⟨hfit,h7⟩⟩,g3⟩
        · rw[happ]
          simp only[appTo,Cw,A1 hfit,cond_true,g1,Option.bind_some]
        · show(Aj.fill r.c (o+cs.length * 1) [x]).get (o+k)=some u
          rcases Nq hk with⟨k1,k2⟩ | ⟨rfl,rfl⟩
          · rw[E3 (by omega)];exact h3 k u k2
          · have:=Cy (t:=r.c) (n:=o+cs.length * 1) (vs:=[u]) (j:=0) rfl
            rw[show o+cs.length=o+cs.length * 1+0 by omega];exact this
      · obtain⟨ow',g1,g2⟩:=fresh s (AK.refl _ _ _) rfl (Aj.fill .leaf 0 (cs++[x])) none freshC (fun p hp=>by cases hp)
        refine⟨_,_,ow',?_,g1,g2⟩
        rw[happ]
        simp only[appTo,Cw,Ej (show c<cs.length+1 by omega),cond_false,hcells,Option.bind_some,BV,AF,hz,cond_true]
    | none =>
      have h5:o=0:=h5.1
      subst h5
      have hrow:BA s i=some r:=by simp[BA,h2.get]
      by_cases hfit:cs.length+1≤r.n
      · obtain⟨s',g1,g2,g3,g4⟩:=h2.store (o:=0+cs.length * 1) (vs:=[x]) (by simp) (by simp;omega) hac
        refine⟨.slice (some (i,0)) (cs.length+1) none,s',ow,?_,.inr ⟨i,0,none,_,by rw[oL];rfl,g2,fun k u hk=>?_,by rw[oL];show 0+(cs.length+1)≤r.n;omega,⟨rfl,by show 0<r.n;omega⟩⟩,g3⟩
        · rw[happ]
          simp only[appTo,hrow,Option.bind_some,C2,h2.sz,Dl rfl,AF,cond_true,A1 (show 0+(cs.length+1) * 1≤r.n by omega),g1]
        · show(Aj.fill r.c (0+cs.length * 1) [x]).get (0+k)=some u
          rcases Nq hk with⟨k1,k2⟩ | ⟨rfl,rfl⟩
          · rw[E3 (by omega)];exact h3 k u k2
          · have:=Cy (t:=r.c) (n:=0+cs.length * 1) (vs:=[u]) (j:=0) rfl
            rw[show 0+cs.length=0+cs.length * 1+0 by omega];exact this
      · have hnf : Nat.ble (0 + (cs.length + 1) * 1) r.n = false := Ej      (by omega)
        have hends:Nat.beq (0+cs.length * 1) r.n=true:=Dl (by omega)
        cases hsp:r.spare with
        | false =>
          obtain⟨ow',g1,g2⟩:=fresh s (AK.refl _ _ _) rfl (Aj.fill .leaf 0 (cs++[x])) none freshC (fun p hp=>by cases hp)
          refine⟨_,_,ow',?_,g1,g2⟩
          rw[happ]
          simp only[appTo,hrow,Option.bind_some,C2,h2.sz,Dl rfl,AF,cond_true,hnf,cond_false,hcells,hsp,BV,hz]
        | true =>
          have hun:(Ax s i r).next=s.next:=by
            unfold Ax
            split
            · rfl
            · rename_i p _
              cases Nat.beq p i<;>rfl
          have hst:AK (· = T) ow s ow (setObj (Ax s i r) i (.row { r with mode:=.sealed,par:=none })):=by
            refine⟨by show s.next≤(Ax s i r).next;omega,fun _ _ _=>rfl,fun y hy hm=>?_⟩
            have hyi:y≠i:=fun e=>hm (by rw[e];exact h2.whose)
            rw[Ai,if_neg hyi]
            unfold Ax
            cases hp:r.par with
            | none=>rfl
            | some p =>
              obtain⟨k1,k2,k3⟩:=h2.par p hp
              simp only[EB k3,cond_false]
              rw[Bi,if_neg (fun e=>hm (by rw[e];exact k1))]
          obtain⟨ow',g1,g2⟩:=fresh _ hst hun (r.c.fill (cs.length * 1) [x]) (some i) (fun k u hk=>by
            rcases Nq hk with⟨k1,k2⟩ | ⟨rfl,rfl⟩
            · rw[E3 (by omega)]
              have:=h3 k u k2
              rw[oN]at this
              exact this
            · have:=Cy (t:=r.c) (n:=cs.length * 1) (vs:=[u]) (j:=0) rfl
              rw[show cs.length=cs.length * 1+0 by omega]
              rw[show(cs.length * 1+0) * 1=cs.length * 1 by omega]
              exact this) (fun p hp=>by injection hp with hp;subst hp;exact⟨h2.whose,h2.lt⟩)
          refine⟨_,_,ow',?_,g1,g2⟩
          rw[happ]
          simp only[appTo,hrow,Option.bind_some,C2,h2.sz,Dl rfl,AF,cond_true,hnf,cond_false,hcells,hsp,DF,h2.own,FL,hz,Bool.and_self,hends,Cf]
def DE(s:ASt)(i:Nat)(cs:List AV):Prop:=∃r,s.heap.get i=some (.row r)∧HN r cs∧r.mode=.own∧r.par=none
theorem DE.keep{s s':ASt}{i:Nat}{cs:List AV}(h:DE s i cs)(k:s'.heap.get i=s.heap.get i):DE s' i cs:=by
  obtain⟨r,h1,h2⟩:=h
  exact⟨r,k.trans h1,h2⟩
theorem DE.load{s:ASt}{i k:Nat}{cs:List AV}{u:AV}(h:DE s i cs)(hk:cs[k]? = some u){t:TypeId}(ht:Ey Try.prog t=some false):AD Try.prog s t (.ptr (some (i,k)))=some u:=by
  obtain⟨r,h1,h2,_⟩:=h
  exact A7 ht (BW h1 (by rw[h2.1];exact Ab hk) (h2.2 k u hk))
theorem DE.store{s:ASt}{i k:Nat}{cs:List AV}{d:AV}(h:DE s i cs)(hk:k<cs.length){t:TypeId}(ht:BB Try.prog t=some 1)(h1:d.isCell=true)(h2:d.cells=[d]):
    ∃s',AN Try.prog s t (.ptr (some (i,k))) d=some s'∧DE s' i (cs.set k d)∧s'.next=s.next∧∀x,x≠i→s'.heap.get x=s.heap.get x:=by
  obtain⟨r,g1,g2,g3,g4⟩:=h
  refine⟨_,M9 ht g1 g3 g4 (by rw[g2.1];exact hk) h2 h1,⟨{ r with c:=r.c.fill k [d],par:=none },by rw[Ai,if_pos rfl],⟨by show r.n=_;rw[g2.1,oO],fun j u hj=>?_⟩,g3,rfl⟩,rfl,fun x hx=>by rw[Ai,if_neg hx]⟩
  show(Aj.fill r.c k [d]).get j=some u
  rw[oU]at hj
  by_cases e:k=j
  · subst e
    rw[if_pos rfl,if_pos hk]at hj
    rw[Aj.get_fill,if_pos ⟨oD _,by show k<k+1;omega⟩,pX]
    exact hj
  · rw [if_neg e] at hj
    rw[Aj.get_fill,if_neg (fun q=>e (by have q1:=q.1;have q2:j<k+1:=q.2;omega))]
    exact g2.2 j u hj
theorem DE.new{s:ASt}{t:TypeId}{cs:List AV}:DE (AH s (AP t 0 cs)) s.next cs:=by
  obtain⟨r,h1,h2,h3,h4,h5,h6⟩:=Bo t 0 cs
  exact⟨r,by rw[AO,if_pos rfl,h1],h2,h5,h6⟩
abbrev Bm:=List Int×Bool×Bool
structure Sv where
  watches:List (List Nat)
  learned:List Nat
  value:List Int
  level:List Int
  why:List (Option Nat)
  heat:List Int
  phase:List Int
  trail:List Int
  limits:List Int
  head:Int
  broken:Bool
  model:List Int
  trace:List (Bool×List Int)
  many:Int
  room:Int
  cl:Nat→Option Bm
structure Sf where
  w:AV
  l:AV
  val:AV
  lev:AV
  why:AV
  heat:AV
  ph:AV
  tr:AV
  lim:AV
  mo:AV
  trc:AV
def AR(c:Nat):AV:=.ptr (some (c,0))
def Io:Option Nat→AV
  | none=>.ptr none
  | some c=>AR c
abbrev DP(x:Sf)(v:Sv):List AV:=[x.w,x.l,x.val,x.lev,x.why,x.heat,x.ph,x.tr,x.lim,iv v.head,.bool v.broken,x.mo,x.trc,iv v.many,iv v.room]
abbrev EQ(L:List Nat):List AV:=L.map AR
def Vg(ow:Ow)(s:ASt)(p c:Nat)(l:Bm):Prop:=∃u,DE s c [u,.bool l.2.1,.bool l.2.2]∧ow c=(p,14,c)∧c<s.next∧Buf ow (p,15,c) s u (ivs l.1)
def WAt(ow:Ow)(s:ASt)(p:Nat)(v:AV)(ws:List (List Nat)):Prop:=∃us:List AV,us.length=ws.length∧Buf ow (p,1,0) s v us∧∀ (k:Nat)(L:List Nat),ws[k]? = some L→∃u:AV,us[k]? = some u∧Buf ow (p,2,k) s u (EQ L)
def NG(ow:Ow)(s:ASt)(p:Nat)(v:AV)(T:As):Prop:=∃us O,CG s v T.length 2 us O∧(∀j∈O,ow j=(p,12,0))∧(∀j,CU v=some j→ow j=(p,12,0)∧j<s.next)∧BS s.next s us T∧∀u∈us,∀j,CU u=some j→ow j=(p,13,0)∧j<s.next
structure SAt(ow:Ow)(s:ASt)(p:Nat)(x:Sf)(v:Sv):Prop where
  box:DE s p (DP x v)
  tag:ow p=(p,0,0)
  lt:p<s.next
  w:WAt ow s p x.w v.watches
  learned:Buf ow (p,3,0) s x.l (v.learned.map AR)
  value:Buf ow (p,4,0) s x.val (ivs v.value)
  level:Buf ow (p,5,0) s x.lev (ivs v.level)
  why:Buf ow (p,6,0) s x.why (v.why.map Io)
  heat:Buf ow (p,7,0) s x.heat (ivs v.heat)
  phase:Buf ow (p,8,0) s x.ph (ivs v.phase)
  trail:Buf ow (p,9,0) s x.tr (ivs v.trail)
  limits:Buf ow (p,10,0) s x.lim (ivs v.limits)
  model:Buf ow (p,11,0) s x.mo (ivs v.model)
  trace:NG ow s p x.trc v.trace
  cls:∀c l,v.cl c=some l→Vg ow s p c l
def Bh(p:Nat)(t:Tag):Prop:=t.1=p
def Bq(p:Nat)(t:Tag):Prop:=t.1=p∧t.2.1≠1∧t.2.1≠2∧t.2.1<16
def Jk(p:Nat)(t:Tag):Prop:=t.1=p∧(t.2.1=1∨t.2.1=2)
theorem AK.w{p:Nat}{ow ow':Ow}{s s':ASt}(h:AK (Jk p) ow s ow' s'):AK (Bh p) ow s ow' s':=h.mono fun t ht=>ht.1
def T0(p k:Nat)(t:Tag):Prop:=t=(p,0,0)∨t=(p,k,0)
theorem AK.n{p k:Nat}{ow ow':Ow}{s s':ASt}(h:AK (T0 p k) ow s ow' s')(h1:k≠1)(h2:k≠2)(h3:k<16):AK (Bq p) ow s ow' s':=h.mono fun t ht=>by
  rcases ht with e | e
  · rw[e];exact⟨rfl,by simp,by simp,by simp⟩
  · rw[e];exact⟨rfl,h1,h2,h3⟩
theorem AK.b{p:Nat}{ow ow':Ow}{s s':ASt}(h:AK (Bq p) ow s ow' s'):AK (Bh p) ow s ow' s':=h.mono fun t ht=>ht.1
theorem Vg.step{m:Tag→Prop}{ow ow':Ow}{s s':ASt}{p c:Nat}{l:Bm}(h:Vg ow s p c l)(k:AK m ow s ow' s')(h1:¬ m (p,14,c))(h2:¬ m (p,15,c)):Vg ow' s' p c l:=by
  obtain⟨u,g1,g2,g3,g4⟩:=h
  have hn:=k.next
  exact⟨u,g1.keep (k.heap c g3 (by rw[g2];exact h1)),by rw[k.tags c g3 (by rw[g2];exact h1)];exact g2,by omega,g4.step k h2⟩
theorem WAt.step{m:Tag→Prop}{ow ow':Ow}{s s':ASt}{p:Nat}{v:AV}{ws:List (List Nat)}(h:WAt ow s p v ws)(k:AK m ow s ow' s')(h1:¬ m (p,1,0))(h2:∀j,¬ m (p,2,j)):WAt ow' s' p v ws:=by
  obtain⟨us,g1,g2,g3⟩:=h
  exact⟨us,g1,g2.step k h1,fun j L hj=>let ⟨u,q1,q2⟩:=g3 j L hj;⟨u,q1,q2.step k (h2 j)⟩⟩
theorem NG.step{m:Tag→Prop}{ow ow':Ow}{s s':ASt}{p:Nat}{v:AV}{T:As}(h:NG ow s p v T)(k:AK m ow s ow' s')(h1:¬ m (p,12,0))(h2:¬ m (p,13,0)):NG ow' s' p v T:=by
  obtain⟨us,O,g1,g2,g3,g4,g5⟩:=h
  have hn:=k.next
  refine⟨us,O,g1.frame k.next fun j hj=>k.heap j (g3 j hj).2 (by rw[(g3 j hj).1];exact h1),fun j hj=>by rw[k.tags j (g1.lt j hj) (by rw[g2 j hj];exact h1)];exact g2 j hj,fun j hj=>?_,(g4.mono hn).keep fun u hu j hj=>k.heap j (g5 u hu j hj).2 (by rw[(g5 u hu j hj).1];exact h2),fun u hu j hj=>?_⟩
  · obtain⟨q1,q2⟩:=g3 j hj
    exact⟨by rw[k.tags j q2 (by rw[q1];exact h1)];exact q1,by omega⟩
  · obtain⟨q1,q2⟩:=g5 u hu j hj
    exact⟨by rw[k.tags j q2 (by rw[q1];exact h2)];exact q1,by omega⟩
theorem DE.step{m:Tag→Prop}{ow ow':Ow}{s s':ASt}{i:Nat}{cs:List AV}{T:Tag}(h:DE s i cs)(k:AK m ow s ow' s')(ht:ow i=T)(hl:i<s.next)(hm:¬ m T):DE s' i cs:=h.keep (k.heap i hl (by rw[ht];exact hm))
theorem tne{p a b i j:Nat}(h:a≠b):¬ ((p,a,i):Tag)=(p,b,j):=fun e=>by
  injection e with _ e
  injection e with e _
  exact h e
theorem SAt.keep{m:Tag→Prop}{ow ow':Ow}{s s':ASt}{p:Nat}{x:Sf}{v:Sv}(h:SAt ow s p x v)(k:AK m ow s ow' s')(hm':∀t,m t→t.1≠p):SAt ow' s' p x v:=by
  have hm:∀a i,¬ m (p,a,i):=fun a i q=>hm' _ q rfl
  have hn:=k.next
  have hl:=h.lt
  exact { box:=h.box.step k h.tag h.lt (hm 0 0),tag:=by rw[k.tags p h.lt (by rw[h.tag];exact hm 0 0)];exact h.tag,lt:=by omega,w:=h.w.step k (hm 1 0) (fun j=>hm 2 j),learned:=h.learned.step k (hm 3 0),value:=h.value.step k (hm 4 0),level:=h.level.step k (hm 5 0),why:=h.why.step k (hm 6 0),heat:=h.heat.step k (hm 7 0),phase:=h.phase.step k (hm 8 0),trail:=h.trail.step k (hm 9 0),limits:=h.limits.step k (hm 10 0),model:=h.model.step k (hm 11 0),trace:=h.trace.step k (hm 12 0) (hm 13 0),cls:=fun c l hc=>(h.cls c l hc).step k (hm 14 c) (hm 15 c) }
theorem SAt.put_value{ow:Ow}{s:ASt}{p:Nat}{x:Sf}{v:Sv}(h:SAt ow s p x v){k:Nat}(hk:k<v.value.length)(y:Int):
    ∃s',AN Try.prog s 3 (BC x.val k) (iv y)=some s'∧SAt ow s' p x { v with value:=v.value.set k y }∧AK (Bq p) ow s ow s'∧s'.next=s.next:=by
  obtain⟨s',g1,g2,g3,g4⟩:=h.value.set (t:=3) sz3 (k:=k) (x:=iv y) (by rw[oF];exact hk) rfl rfl
  have hm:∀a i,a≠4→¬ ((p,a,i):Tag)=(p,4,0):=fun a i ha=>tne ha
  have hl:=h.lt
  refine⟨s',g1,{ box:=h.box.step g3 h.tag h.lt (hm 0 0 (by decide)),tag:=h.tag,lt:=by omega,w:=h.w.step g3 (hm 1 0 (by decide)) (fun j=>hm 2 j (by decide)),learned:=h.learned.step g3 (hm 3 0 (by decide)),value:=by show Buf ow (p,4,0) s' x.val (List.map _ (List.set v.value k y));rw[pe];exact g2,level:=h.level.step g3 (hm 5 0 (by decide)),why:=h.why.step g3 (hm 6 0 (by decide)),heat:=h.heat.step g3 (hm 7 0 (by decide)),phase:=h.phase.step g3 (hm 8 0 (by decide)),trail:=h.trail.step g3 (hm 9 0 (by decide)),limits:=h.limits.step g3 (hm 10 0 (by decide)),model:=h.model.step g3 (hm 11 0 (by decide)),trace:=h.trace.step g3 (hm 12 0 (by decide)) (hm 13 0 (by decide)),cls:=fun c l hc=>(h.cls c l hc).step g3 (hm 14 c (by decide)) (hm 15 c (by decide)) },g3.mono fun t ht=>by rw[ht];exact⟨rfl,by simp,by simp,by simp⟩,g4⟩
theorem SAt.put_level{ow:Ow}{s:ASt}{p:Nat}{x:Sf}{v:Sv}(h:SAt ow s p x v){k:Nat}(hk:k<v.level.length)(y:Int):
    ∃s',AN Try.prog s 3 (BC x.lev k) (iv y)=some s'∧SAt ow s' p x { v with level:=v.level.set k y }∧AK (Bq p) ow s ow s'∧s'.next=s.next:=by
  obtain⟨s',g1,g2,g3,g4⟩:=h.level.set (t:=3) sz3 (k:=k) (x:=iv y) (by rw[oF];exact hk) rfl rfl
  have hm:∀a i,a≠5→¬ ((p,a,i):Tag)=(p,5,0):=fun a i ha=>tne ha
  have hl:=h.lt
  refine⟨s',g1,{ box:=h.box.step g3 h.tag h.lt (hm 0 0 (by decide)),tag:=h.tag,lt:=by omega,w:=h.w.step g3 (hm 1 0 (by decide)) (fun j=>hm 2 j (by decide)),learned:=h.learned.step g3 (hm 3 0 (by decide)),value:=h.value.step g3 (hm 4 0 (by decide)),level:=by show Buf ow (p,5,0) s' x.lev (List.map _ (List.set v.level k y));rw[pe];exact g2,why:=h.why.step g3 (hm 6 0 (by decide)),heat:=h.heat.step g3 (hm 7 0 (by decide)),phase:=h.phase.step g3 (hm 8 0 (by decide)),trail:=h.trail.step g3 (hm 9 0 (by decide)),limits:=h.limits.step g3 (hm 10 0 (by decide)),model:=h.model.step g3 (hm 11 0 (by decide)),trace:=h.trace.step g3 (hm 12 0 (by decide)) (hm 13 0 (by decide)),cls:=fun c l hc=>(h.cls c l hc).step g3 (hm 14 c (by decide)) (hm 15 c (by decide)) },g3.mono fun t ht=>by rw[ht];exact⟨rfl,by simp,by simp,by simp⟩,g4⟩
theorem SAt.put_why{ow:Ow}{s:ASt}{p:Nat}{x:Sf}{v:Sv}(h:SAt ow s p x v){k:Nat}(hk:k<v.why.length)(y:Option Nat):
    ∃s',AN Try.prog s 92 (BC x.why k) (Io y)=some s'∧SAt ow s' p x { v with why:=v.why.set k y }∧AK (Bq p) ow s ow s'∧s'.next=s.next:=by
  obtain⟨s',g1,g2,g3,g4⟩:=h.why.set (t:=92) Gw (k:=k) (x:=Io y) (by rw[oF];exact hk) (by cases y<;>rfl) (by cases y<;>rfl)
  have hm:∀a i,a≠6→¬ ((p,a,i):Tag)=(p,6,0):=fun a i ha=>tne ha
  have hl:=h.lt
  refine⟨s',g1,{ box:=h.box.step g3 h.tag h.lt (hm 0 0 (by decide)),tag:=h.tag,lt:=by omega,w:=h.w.step g3 (hm 1 0 (by decide)) (fun j=>hm 2 j (by decide)),learned:=h.learned.step g3 (hm 3 0 (by decide)),value:=h.value.step g3 (hm 4 0 (by decide)),level:=h.level.step g3 (hm 5 0 (by decide)),why:=by show Buf ow (p,6,0) s' x.why (List.map _ (List.set v.why k y));rw[pe];exact g2,heat:=h.heat.step g3 (hm 7 0 (by decide)),phase:=h.phase.step g3 (hm 8 0 (by decide)),trail:=h.trail.step g3 (hm 9 0 (by decide)),limits:=h.limits.step g3 (hm 10 0 (by decide)),model:=h.model.step g3 (hm 11 0 (by decide)),trace:=h.trace.step g3 (hm 12 0 (by decide)) (hm 13 0 (by decide)),cls:=fun c l hc=>(h.cls c l hc).step g3 (hm 14 c (by decide)) (hm 15 c (by decide)) },g3.mono fun t ht=>by rw[ht];exact⟨rfl,by simp,by simp,by simp⟩,g4⟩
theorem SAt.put_heat{ow:Ow}{s:ASt}{p:Nat}{x:Sf}{v:Sv}(h:SAt ow s p x v){k:Nat}(hk:k<v.heat.length)(y:Int):
    ∃s',AN Try.prog s 3 (BC x.heat k) (iv y)=some s'∧SAt ow s' p x { v with heat:=v.heat.set k y }∧AK (Bq p) ow s ow s'∧s'.next=s.next:=by
  obtain⟨s',g1,g2,g3,g4⟩:=h.heat.set (t:=3) sz3 (k:=k) (x:=iv y) (by rw[oF];exact hk) rfl rfl
  have hm:∀a i,a≠7→¬ ((p,a,i):Tag)=(p,7,0):=fun a i ha=>tne ha
  have hl:=h.lt
  refine⟨s',g1,{ box:=h.box.step g3 h.tag h.lt (hm 0 0 (by decide)),tag:=h.tag,lt:=by omega,w:=h.w.step g3 (hm 1 0 (by decide)) (fun j=>hm 2 j (by decide)),learned:=h.learned.step g3 (hm 3 0 (by decide)),value:=h.value.step g3 (hm 4 0 (by decide)),level:=h.level.step g3 (hm 5 0 (by decide)),why:=h.why.step g3 (hm 6 0 (by decide)),heat:=by show Buf ow (p,7,0) s' x.heat (List.map _ (List.set v.heat k y));rw[pe];exact g2,phase:=h.phase.step g3 (hm 8 0 (by decide)),trail:=h.trail.step g3 (hm 9 0 (by decide)),limits:=h.limits.step g3 (hm 10 0 (by decide)),model:=h.model.step g3 (hm 11 0 (by decide)),trace:=h.trace.step g3 (hm 12 0 (by decide)) (hm 13 0 (by decide)),cls:=fun c l hc=>(h.cls c l hc).step g3 (hm 14 c (by decide)) (hm 15 c (by decide)) },g3.mono fun t ht=>by rw[ht];exact⟨rfl,by simp,by simp,by simp⟩,g4⟩
theorem SAt.put_phase{ow:Ow}{s:ASt}{p:Nat}{x:Sf}{v:Sv}(h:SAt ow s p x v){k:Nat}(hk:k<v.phase.length)(y:Int):
    ∃s',AN Try.prog s 3 (BC x.ph k) (iv y)=some s'∧SAt ow s' p x { v with phase:=v.phase.set k y }∧AK (Bq p) ow s ow s'∧s'.next=s.next:=by
  obtain⟨s',g1,g2,g3,g4⟩:=h.phase.set (t:=3) sz3 (k:=k) (x:=iv y) (by rw[oF];exact hk) rfl rfl
  have hm:∀a i,a≠8→¬ ((p,a,i):Tag)=(p,8,0):=fun a i ha=>tne ha
  have hl:=h.lt
  refine⟨s',g1,{ box:=h.box.step g3 h.tag h.lt (hm 0 0 (by decide)),tag:=h.tag,lt:=by omega,w:=h.w.step g3 (hm 1 0 (by decide)) (fun j=>hm 2 j (by decide)),learned:=h.learned.step g3 (hm 3 0 (by decide)),value:=h.value.step g3 (hm 4 0 (by decide)),level:=h.level.step g3 (hm 5 0 (by decide)),why:=h.why.step g3 (hm 6 0 (by decide)),heat:=h.heat.step g3 (hm 7 0 (by decide)),phase:=by show Buf ow (p,8,0) s' x.ph (List.map _ (List.set v.phase k y));rw[pe];exact g2,trail:=h.trail.step g3 (hm 9 0 (by decide)),limits:=h.limits.step g3 (hm 10 0 (by decide)),model:=h.model.step g3 (hm 11 0 (by decide)),trace:=h.trace.step g3 (hm 12 0 (by decide)) (hm 13 0 (by decide)),cls:=fun c l hc=>(h.cls c l hc).step g3 (hm 14 c (by decide)) (hm 15 c (by decide)) },g3.mono fun t ht=>by rw[ht];exact⟨rfl,by simp,by simp,by simp⟩,g4⟩
theorem SAt.set_head{ow:Ow}{s:ASt}{p:Nat}{x:Sf}{v:Sv}(h:SAt ow s p x v)(y:Int):
    ∃s',AN Try.prog s 3 (.ptr (some (p,9))) (iv y)=some s'∧SAt ow s' p x { v with head:=y }∧AK (Bq p) ow s ow s'∧s'.next=s.next:=by
  obtain⟨s',g1,g2,g3,g4⟩:=h.box.store (k:=9) (d:=iv y) (by simp) (t:=3) sz3 rfl rfl
  have st:AK (· = (p,0,0)) ow s ow s':=⟨by omega,fun _ _ _=>rfl,fun y _ hm=>g4 y fun e=>hm (by rw[e];exact h.tag)⟩
  have hm:∀a i,a≠0→¬ ((p,a,i):Tag)=(p,0,0):=fun a i ha=>tne ha
  have hl:=h.lt
  refine⟨s',g1,{ box:=g2,tag:=h.tag,lt:=by omega,w:=h.w.step st (hm 1 0 (by decide)) (fun j=>hm 2 j (by decide)),learned:=h.learned.step st (hm 3 0 (by decide)),value:=h.value.step st (hm 4 0 (by decide)),level:=h.level.step st (hm 5 0 (by decide)),why:=h.why.step st (hm 6 0 (by decide)),heat:=h.heat.step st (hm 7 0 (by decide)),phase:=h.phase.step st (hm 8 0 (by decide)),trail:=h.trail.step st (hm 9 0 (by decide)),limits:=h.limits.step st (hm 10 0 (by decide)),model:=h.model.step st (hm 11 0 (by decide)),trace:=h.trace.step st (hm 12 0 (by decide)) (hm 13 0 (by decide)),cls:=fun c l hc=>(h.cls c l hc).step st (hm 14 c (by decide)) (hm 15 c (by decide)) },st.mono fun t ht=>by rw[ht];exact⟨rfl,by simp,by simp,by simp⟩,g3⟩
theorem SAt.set_many{ow:Ow}{s:ASt}{p:Nat}{x:Sf}{v:Sv}(h:SAt ow s p x v)(y:Int):
    ∃s',AN Try.prog s 3 (.ptr (some (p,13))) (iv y)=some s'∧SAt ow s' p x { v with many:=y }∧AK (Bq p) ow s ow s'∧s'.next=s.next:=by
  obtain⟨s',g1,g2,g3,g4⟩:=h.box.store (k:=13) (d:=iv y) (by simp) (t:=3) sz3 rfl rfl
  have st:AK (· = (p,0,0)) ow s ow s':=⟨by omega,fun _ _ _=>rfl,fun y _ hm=>g4 y fun e=>hm (by rw[e];exact h.tag)⟩
  have hm:∀a i,a≠0→¬ ((p,a,i):Tag)=(p,0,0):=fun a i ha=>tne ha
  have hl:=h.lt
  refine⟨s',g1,{ box:=g2,tag:=h.tag,lt:=by omega,w:=h.w.step st (hm 1 0 (by decide)) (fun j=>hm 2 j (by decide)),learned:=h.learned.step st (hm 3 0 (by decide)),value:=h.value.step st (hm 4 0 (by decide)),level:=h.level.step st (hm 5 0 (by decide)),why:=h.why.step st (hm 6 0 (by decide)),heat:=h.heat.step st (hm 7 0 (by decide)),phase:=h.phase.step st (hm 8 0 (by decide)),trail:=h.trail.step st (hm 9 0 (by decide)),limits:=h.limits.step st (hm 10 0 (by decide)),model:=h.model.step st (hm 11 0 (by decide)),trace:=h.trace.step st (hm 12 0 (by decide)) (hm 13 0 (by decide)),cls:=fun c l hc=>(h.cls c l hc).step st (hm 14 c (by decide)) (hm 15 c (by decide)) },st.mono fun t ht=>by rw[ht];exact⟨rfl,by simp,by simp,by simp⟩,g3⟩
theorem SAt.set_trail{ow:Ow}{s:ASt}{p:Nat}{x:Sf}{v:Sv}(h:SAt ow s p x v){u:AV}{y:List Int}(hu:Buf ow (p,9,0) s u (ivs y)):
    ∃s',AN Try.prog s 23 (.ptr (some (p,7))) u=some s'∧SAt ow s' p { x with tr:=u } { v with trail:=y }∧AK (Bq p) ow s ow s'∧s'.next=s.next:=by
  obtain⟨s',g1,g2,g3,g4⟩:=h.box.store (k:=7) (d:=u) (by simp) (t:=23) BU hu.isCell.1 hu.isCell.2
  have st:AK (· = (p,0,0)) ow s ow s':=⟨by omega,fun _ _ _=>rfl,fun y _ hm=>g4 y fun e=>hm (by rw[e];exact h.tag)⟩
  have hm:∀a i,a≠0→¬ ((p,a,i):Tag)=(p,0,0):=fun a i ha=>tne ha
  have hl:=h.lt
  refine⟨s',g1,{ box:=g2,tag:=h.tag,lt:=by omega,w:=h.w.step st (hm 1 0 (by decide)) (fun j=>hm 2 j (by decide)),learned:=h.learned.step st (hm 3 0 (by decide)),value:=h.value.step st (hm 4 0 (by decide)),level:=h.level.step st (hm 5 0 (by decide)),why:=h.why.step st (hm 6 0 (by decide)),heat:=h.heat.step st (hm 7 0 (by decide)),phase:=h.phase.step st (hm 8 0 (by decide)),trail:=hu.step st (hm 9 0 (by decide)),limits:=h.limits.step st (hm 10 0 (by decide)),model:=h.model.step st (hm 11 0 (by decide)),trace:=h.trace.step st (hm 12 0 (by decide)) (hm 13 0 (by decide)),cls:=fun c l hc=>(h.cls c l hc).step st (hm 14 c (by decide)) (hm 15 c (by decide)) },st.mono fun t ht=>by rw[ht];exact⟨rfl,by simp,by simp,by simp⟩,g3⟩
theorem SAt.set_limits{ow:Ow}{s:ASt}{p:Nat}{x:Sf}{v:Sv}(h:SAt ow s p x v){u:AV}{y:List Int}(hu:Buf ow (p,10,0) s u (ivs y)):
    ∃s',AN Try.prog s 23 (.ptr (some (p,8))) u=some s'∧SAt ow s' p { x with lim:=u } { v with limits:=y }∧AK (Bq p) ow s ow s'∧s'.next=s.next:=by
  obtain⟨s',g1,g2,g3,g4⟩:=h.box.store (k:=8) (d:=u) (by simp) (t:=23) BU hu.isCell.1 hu.isCell.2
  have st:AK (· = (p,0,0)) ow s ow s':=⟨by omega,fun _ _ _=>rfl,fun y _ hm=>g4 y fun e=>hm (by rw[e];exact h.tag)⟩
  have hm:∀a i,a≠0→¬ ((p,a,i):Tag)=(p,0,0):=fun a i ha=>tne ha
  have hl:=h.lt
  refine⟨s',g1,{ box:=g2,tag:=h.tag,lt:=by omega,w:=h.w.step st (hm 1 0 (by decide)) (fun j=>hm 2 j (by decide)),learned:=h.learned.step st (hm 3 0 (by decide)),value:=h.value.step st (hm 4 0 (by decide)),level:=h.level.step st (hm 5 0 (by decide)),why:=h.why.step st (hm 6 0 (by decide)),heat:=h.heat.step st (hm 7 0 (by decide)),phase:=h.phase.step st (hm 8 0 (by decide)),trail:=h.trail.step st (hm 9 0 (by decide)),limits:=hu.step st (hm 10 0 (by decide)),model:=h.model.step st (hm 11 0 (by decide)),trace:=h.trace.step st (hm 12 0 (by decide)) (hm 13 0 (by decide)),cls:=fun c l hc=>(h.cls c l hc).step st (hm 14 c (by decide)) (hm 15 c (by decide)) },st.mono fun t ht=>by rw[ht];exact⟨rfl,by simp,by simp,by simp⟩,g3⟩
theorem SAt.set_model{ow:Ow}{s:ASt}{p:Nat}{x:Sf}{v:Sv}(h:SAt ow s p x v){u:AV}{y:List Int}(hu:Buf ow (p,11,0) s u (ivs y)):
    ∃s',AN Try.prog s 23 (.ptr (some (p,11))) u=some s'∧SAt ow s' p { x with mo:=u } { v with model:=y }∧AK (Bq p) ow s ow s'∧s'.next=s.next:=by
  obtain⟨s',g1,g2,g3,g4⟩:=h.box.store (k:=11) (d:=u) (by simp) (t:=23) BU hu.isCell.1 hu.isCell.2
  have st:AK (· = (p,0,0)) ow s ow s':=⟨by omega,fun _ _ _=>rfl,fun y _ hm=>g4 y fun e=>hm (by rw[e];exact h.tag)⟩
  have hm:∀a i,a≠0→¬ ((p,a,i):Tag)=(p,0,0):=fun a i ha=>tne ha
  have hl:=h.lt
  refine⟨s',g1,{ box:=g2,tag:=h.tag,lt:=by omega,w:=h.w.step st (hm 1 0 (by decide)) (fun j=>hm 2 j (by decide)),learned:=h.learned.step st (hm 3 0 (by decide)),value:=h.value.step st (hm 4 0 (by decide)),level:=h.level.step st (hm 5 0 (by decide)),why:=h.why.step st (hm 6 0 (by decide)),heat:=h.heat.step st (hm 7 0 (by decide)),phase:=h.phase.step st (hm 8 0 (by decide)),trail:=h.trail.step st (hm 9 0 (by decide)),limits:=h.limits.step st (hm 10 0 (by decide)),model:=hu.step st (hm 11 0 (by decide)),trace:=h.trace.step st (hm 12 0 (by decide)) (hm 13 0 (by decide)),cls:=fun c l hc=>(h.cls c l hc).step st (hm 14 c (by decide)) (hm 15 c (by decide)) },st.mono fun t ht=>by rw[ht];exact⟨rfl,by simp,by simp,by simp⟩,g3⟩
end
end Go.Proofs.Ytilhhmkdcoajnaa.Am
