/- The reference's function Clauses of layer 19; conditions: none but the reading of its argument. -/
import Derived.Test.YtilhhmkdcoajnaaAmM09
import Derived.Test.YtilhhmkdcoajnaaAmM05
import Derived.Test.YtilhhmkdcoajnaaAmM04
import Derived.Test.YtilhhmkdcoajnaaAmM08
import Derived.Test.YtilhhmkdcoajnaaAmM07
set_option linter.unusedVariables false
set_option linter.unusedSimpArgs false
set_option maxRecDepth 16000
namespace Go.Proofs.Ytilhhmkdcoajnaa.Am
open Go Go.Proofs
noncomputable section
abbrev Mu(n:Int):AV:=.int .u8 n
abbrev ID(l:List Int):List AV:=l.map Mu
def ck(l:List Int):Prop:=∀x∈l,u8 x
theorem EZ(a b:Int):AL Try.prog .eql 5 (Mu a) (Mu b)=some (.bool (decide (a=b))):=by
 show some (AV.bool (Ul a b))=_
 rw[Fs];rfl
theorem Wx{a:Int}(h:u8 a):AL Try.prog .quo 5 (Mu a) (Mu 2)=some (Mu (a / 2)):=by
 obtain⟨h1,h2⟩:=h
 have e:IntKind.u8.wrap (a.tdiv 2)=a / 2:=by
  rw[← Ei,sF h1]
  exact I9 (kF ⟨by omega,by omega⟩)
 show AI (BY .u8 .u8) ((ES Try.prog (Op.intDiv .quo .u8 a 2)).bind ofValue)=_
 have hk:BY .u8 .u8=true:=rfl
 rw[hk]
 unfold Op.intDiv
 rw[if_neg (by decide)]
 dsimp only
 rw[e]
 rfl
theorem Ig{l:List Int}{k:Nat}{x:Int}(h:l[k]? = some x):(ID l)[k]? = some (Mu x):=by rw[qs,h];rfl
theorem VQ        {E : BN}  (hE : Good E) {n1 n most size : Nat} {s1 : AF}  (hn1 : n1 ≤ s1.next) (hn0 : 1 ≤ n) (hn : n ≤ 1000) (hsize : size ≤ 4) {bs : List Int} (hbs : ck  bs) (hlen : bs.length < 9223372036854775808) {a : Option (Nat × Nat)} {cap : Option Nat} (hc : Ay      n1 s1 a (ID   bs)) (v3 v4 v10 v11 v14 : AV) {Q : A0   → Prop} :
    ∀ (m k i : Nat) (out : List Int) (O : List Nat) (v7 : AV) (s : AF)  (x9 x12 x13 : AV), m = size - k → k ≤ size → i ≤ bs.length → out.length = k → (∀ x ∈ out, VL n x) → B8   s v7 out.length 1 (Ax  out) O → ((∀ j ∈ O, n1 ≤ j) ∧ ∀ j, Cn   v7 = some j → n1 ≤ j) → BG  n1 s1 s →
      (∀s' v' out' O' i' y8 y9 y12 y13,i≤i'→i'≤bs.length→(∀x∈out',VL n x)→out'.length≤4→B8 s' v' out'.length 1 (Ax out') O'→((∀j∈O',n1≤j)∧∀j,Cn v'=some j→n1≤j)→BG n1 s1 s'→Q ⟨.exit 2,[iv (n:Int),.slice a bs.length cap,iv (most:Int),v3,v4,iv ((i':Nat):Int),iv (size:Int),v',y8,y9,v10,v11,y12,y13,v14],[],s'⟩) →
      WC E none (.loop GM) Q [iv (n:Int),.slice a bs.length cap,iv (most:Int),v3,v4,iv (i:Int),iv (size:Int),v7,iv (k:Int),x9,v10,v11,x12,x13,v14] [] s:=by
  intro m
  induction m with
  | zero =>
    intro k i out O v7 s x9 x12 x13 hm hk hi ho hv hd hO hold hq
    have hke:k=size:=by omega
    subst hke
    refine WC.loop' ?_
    simp only[GM,LB,qd,decide_false,Qa,Qb,Qc,Qd,Qf,Qg,Qh,Qi,Qj,Qk,Qm,Qn,true_and,Qo,Qp,Qq,Qr,Qs,Qt,Qv,Qw,Qy,Qz,Rl,Rn,Ro,Rq]
    exact hq s v7 out O i _ _ _ _ (qI _) hi hv (by omega) hd hO hold
  | succ m ih =>
    intro k i out O v7 s x9 x12 x13 hm hk hi ho hv hd hO hold hq
    have hks:decide ((k:Int)<(size:Int))=true:=decide_eq_true (by omega)
    refine WC.loop' ?_
    by_cases hlt:i<bs.length
    · have hx : bs[i]? = some bs[i] := qP                       hlt
      have hxi:=hbs bs[i] (List.getElem_mem _)
      obtain⟨hx1,hx2⟩:=hxi
      obtain⟨p,o,rfl,hp,hload⟩:=hc i _ (Ig hx)
      have e1:=Al (cap:=cap) (i:=p) (o:=o) Try.underlying42 oV hlt
      have ld:AD Try.prog s 5 (.ptr (some (p,o+i * 1)))=some (Mu bs[i]):=A4 oQ (by rw[qa,CO (hold.2 p hp)];exact hload)
      have hkk:decide ((i:Int)<(bs.length:Int))=true:=decide_eq_true (by omega)
      have e3:=Ai Try.prog 3 (i:Int) 1 ⟨by omega,by omega⟩
      have e3':((i:Int)+1)=((i+1:Nat):Int):=by omega
      have e4:=Ai Try.prog 3 (k:Int) 1 ⟨by omega,by omega⟩
      have e4':((k:Int)+1)=((k+1:Nat):Int):=by omega
      have q1:=Wx (a:=bs[i]) ⟨hx1,hx2⟩
      have q2:CN Try.prog s 5 3 (Mu (bs[i] / 2))=some (iv (bs[i] / 2)):=HR ⟨by omega,by omega⟩
      have q3:=GK (P:=Try.prog) (t:=3) (k:=.i64) (a:=bs[i] / 2) (b:=(n:Int)) (by omega) (by omega)
      have r1:=Int.emod_nonneg (bs[i] / 2) (show(n:Int)≠0 by omega)
      have r2:=Int.emod_lt_of_pos (bs[i] / 2) (show(0:Int)<(n:Int) by omega)
      have q4:=Ai Try.prog 3 1 (bs[i] / 2 % (n:Int)) ⟨by omega,by omega⟩
      have q5:=GK (P:=Try.prog) (t:=5) (k:=.u8) (a:=bs[i]) (b:=2) hx1 (by decide)
      generalize hw:1+bs[i] / 2 % (n:Int)=w at *
      have q6:=D8 Try.prog w ⟨by omega,by omega⟩
      have b1:∀y:Int,Ae Try.prog 23 1 (zipIdx [0] [iv y])=some (AO 3 1 [iv y]):=fun y=>Ck Try.underlying23 Bt RN rfl rfl
      have hmv:∀ (m:Nat) (i:Nat),Made.val i (.slice m)=.slice (some (i,0)) m (some m):=fun _ _=>rfl
      have go:∀ (y:Int) (w9 w12 w13:AV),VL n y→∃v' s',Af Try.prog (newObj s (AO 3 1 [iv y])) [23,23] [v7,.slice (some (s.next,0)) 1 (some 1)]=some (v',s')∧WC E none (.loop GM) Q [iv (n:Int),.slice (some (p,o)) bs.length cap,iv (most:Int),v3,v4,iv ((i+1:Nat):Int),iv (size:Int),v',iv ((k+1:Nat):Int),w9,v10,v11,w12,w13,v14] [] s':=by
        intro y w9 w12 w13 hy
        obtain⟨v',s',O',p1,p2,p3,p4,p5,p6⟩:=V6 hd (by omega) y
        refine⟨v',s',p1,ih (k+1) (i+1) (out++[y]) O' v' s' _ _ _ (by omega) (by omega) hlt (by simp;omega) (fun x hx=>?_) p2 ⟨fun j hj=>(p5 j hj).elim (hO.1 j) (fun h=>by have:=hold.1;omega),fun j hj=>(p6 j hj).elim (hO.2 j) (fun h=>by have:=hold.1;omega)⟩ (hold.trans ⟨p3,fun j hj=>p4 j (by have:=hold.1;omega) (fun hm=>by have:=hO.1 j hm;omega)⟩) fun s' v' out' O' i' y8 y9 y12 y13 g1=>hq s' v' out' O' i' y8 y9 y12 y13 (by omega)⟩
        rcases List.mem_append.1 hx with h | h
        · exact hv x h
        · rw[List.mem_singleton.1 h];exact hy
      generalize hW:WC E none (Ac.loop GM) Q=W at go
      by_cases hodd:bs[i] % 2=1
      · obtain⟨v',s',p1,p2⟩:=go (-w) (iv (-w)) (.bool true) (.bool true) ⟨by omega,by omega⟩
        simp only[GM,LB,hks,AW Try.underlying42,hkk,SJ,e1,ld,q1,q2,q3,q4,SK,q5,EZ,hodd,decide_true,YK,q6,SL,b1,hmv,p1,SM,e3,e3',SN,e4,e4',Qa,Qb,Qc,Qd,Qf,Qg,Qh,Qi,Qj,Qk,Qm,Qn,true_and,Qo,Qp,Qq,Qr,Qs,Qu,Qw,Qy,Qz,Rl,Yc,Rn,Ro,Rq]
        exact p2
      · obtain⟨v',s',p1,p2⟩:=go w (iv w) (.bool true) (.bool false) ⟨by omega,by omega⟩
        simp only[GM,LB,hks,AW Try.underlying42,hkk,SJ,e1,ld,q1,q2,q3,q4,SK,q5,EZ,hodd,decide_false,SL,b1,hmv,p1,SM,e3,e3',SN,e4,e4',Qa,Qb,Qc,Qd,Qf,Qg,Qh,Qi,Qj,Qk,Qm,Qn,true_and,Qo,Qp,Qq,Qr,Qs,Qu,Qv,Qw,Qy,Qz,Rl,Yc,Rn,Ro,Rq]
        exact p2
    · have hkk:decide ((i:Int)<(bs.length:Int))=false:=decide_eq_false (by omega)
      simp only[GM,LB,hks,AW Try.underlying42,hkk,Qa,Qb,Qc,Qd,Qf,Qg,Qh,Qi,Qj,Qk,Qm,Qn,true_and,Qo,Qp,Qq,Qr,Qs,Qv,Qw,Qy,Qz,Rl,Rn,Ro,Rq]
      exact hq s v7 out O i _ _ _ _ (qI _) hi hv (by omega) hd hO hold
def UG(n:Nat)(cs:List (List Int)):Prop:=∀L∈cs,(∀x∈L,VL n x)∧L.length≤4
theorem TO         {E : BN}  (hE : Good E) {s0 : AF}  {b n most : Nat} (hb : b ≤ s0.next) (hn0 : 1 ≤ n) (hn : n ≤ 1000) (hmost : most ≤ 1000) {bs : List Int} (hbs : ck  bs) (hlen : bs.length < 9223372036854775808) {a : Option (Nat × Nat)} {cap : Option Nat} (hc : Ay      b s0 a (ID   bs)) (v3 : AV) {Q : A0   → Prop}
    (hq:∀s' v' us' cs' O' y5 y6 y7 y8 y9 y10 y11 y12 y13 y14,JF s0.next s' v' us' cs' O'→UG n cs'→cs'.length≤most→BG s0.next s0 s'→Q ⟨.exit 0,[iv (n:Int),.slice a bs.length cap,iv (most:Int),v3,v',y5,y6,y7,y8,y9,y10,y11,y12,y13,y14],[],s'⟩):
    ∀ (m i:Nat) (us:List AV) (cs:List (List Int)) (O:List Nat) (v4:AV) (s:AF) (x6 x7 x8 x9 x10 x11 x12 x13 x14:AV),bs.length - i≤m→i≤bs.length→JF s0.next s v4 us cs O→UG n cs→cs.length≤most→BG s0.next s0 s →
      WC E none (.loop El) Q [iv (n:Int),.slice a bs.length cap,iv (most:Int),v3,v4,iv (i:Int),x6,x7,x8,x9,x10,x11,x12,x13,x14] [] s:=by
  intro m
  induction m with
  | zero =>
    intro i us cs O v4 s x6 x7 x8 x9 x10 x11 x12 x13 x14 hm hi hmd hdr hle hold
    have hkk:decide ((i:Int)<(bs.length:Int))=false:=decide_eq_false (by omega)
    refine WC.loop' ?_
    simp only[El,NC,AW Try.underlying42,hkk,Qa,Qb,Qc,Qd,Qf,Qg,Qh,Qi,Qj,Qk,Qm,Qn,true_and,Qo,Qp,Qq,Qr,Qs,Qt,Qv,Qw,Qy,Qz,Rl,Rn,Ro,Rq]
    exact hq s v4 us cs O _ _ _ _ _ _ _ _ _ _ hmd hdr hle hold
  | succ m ih =>
    intro i us cs O v4 s x6 x7 x8 x9 x10 x11 x12 x13 x14 hm hi hmd hdr hle hold
    have husl:=hmd.rows.1
    have l4:∀s',Aq Try.prog s' 22 v4=some (iv (cs.length:Int)):=fun s'=>by
      obtain⟨a',cap',rfl,_⟩:=hmd.dest.cells
      rw[← husl]
      exact AW Try.underlying22
    refine WC.loop' ?_
    by_cases hlt:i<bs.length
    · have hkk:decide ((i:Int)<(bs.length:Int))=true:=decide_eq_true (by omega)
      by_cases hmo:cs.length<most
      · have hmm : decide ((cs.length : Int) < (most : Int)) = true := decide_eq_true (by omega)
        have hx:bs[i]? = some bs[i]:=qP hlt
        obtain⟨hx1,hx2⟩:=hbs bs[i] (List.getElem_mem _)
        obtain⟨p,o,rfl,hp,hload⟩:=hc i _ (Ig hx)
        have e1:=Al (cap:=cap) (i:=p) (o:=o) Try.underlying42 oV hlt
        have ld:AD Try.prog s 5 (.ptr (some (p,o+i * 1)))=some (Mu bs[i]):=A4 oQ (by rw[qa,CO (hold.2 p (by omega))];exact hload)
        have e3:=Ai Try.prog 3 (i:Int) 1 ⟨by omega,by omega⟩
        have e3':((i:Int)+1)=((i+1:Nat):Int):=by omega
        have q5:=GK (P:=Try.prog) (t:=5) (k:=.u8) (a:=bs[i]) (b:=4) hx1 (by decide)
        have q6:CN Try.prog s 5 3 (Mu (bs[i] % 4))=some (iv (bs[i] % 4)):=HR ⟨by omega,by omega⟩
        have q7:=Ai Try.prog 3 1 (bs[i] % 4) ⟨by omega,by omega⟩
        have q8:=GK (P:=Try.prog) (t:=5) (k:=.u8) (a:=bs[i]) (b:=29) hx1 (by decide)
        have hsz:(1:Int)+bs[i] % 4=(((1+bs[i] % 4).toNat:Nat):Int):=by omega
        have hsz4:(1+bs[i] % 4).toNat≤4:=by omega
        generalize (1+bs[i] % 4).toNat=sz at hsz hsz4
        have hns:=hold.1
        have hcu:Ay s.next s (some (p,o)) (ID bs):=(hc.old hold hb).mono (qV hb hns)
        have hmv:∀ (m:Nat) (i:Nat),Made.val i (.slice m)=.slice (some (i,0)) m (some m):=fun _ _=>rfl
        have rest:∀ (size:Nat) (y11:AV),size≤4→WC E none (.loop GM) (Cy 2 (Gk (Qa E none (.seq (.ops JM) (.cond (.var 14) (.ops JN) .skip)) (Cy 1 (Gk (WC E none (.loop El) Q) Q))) (Cy 1 (Gk (WC E none (.loop El) Q) Q)))) [iv (n:Int),.slice (some (p,o)) bs.length cap,iv (most:Int),v3,v4,iv ((i+1:Nat):Int),iv (size:Int),.slice none 0 (some 0),iv 0,x9,.bool true,y11,x12,x13,x14] [] s:=by
          intro size y11 hsize
          refine VQ hE (n1:=s.next) (qI _) hn0 hn hsize hbs hlen hcu _ _ _ _ _ size 0 (i+1) [] [] _ s _ _ _ rfl (qO _) hlt rfl (by simp) (B8.nil s 1) ⟨(fun j hj=>by cases hj),(fun j hj=>by cases hj)⟩ (BG.refl _ _) ?_
          intro s1 v5 out O5 i' y8 y9 y12 y13 hi1 hi2 hV hol hd5 hO5 hold1
          have l5:∀s',Aq Try.prog s' 23 v5=some (iv (out.length:Int)):=fun s'=>by
            obtain⟨a',cap',rfl,_⟩:=hd5.cells
            exact AW Try.underlying23
          have noapp:∀ (y14:AV),WC E none (.loop El) Q [iv (n:Int),.slice (some (p,o)) bs.length cap,iv (most:Int),v3,v4,iv (i':Int),iv (size:Int),v5,y8,y9,.bool true,y11,y12,y13,y14] [] s1:=fun y14=>by
            have hmd1:JF s0.next s1 v4 us cs O:=⟨hmd.dest.frame hold1.1 fun j hj=>hold1.2 j (hmd.dest.slot_lt j hj),(hmd.rows.keep fun u hu j hj=>hold1.2 j (hmd.slots u hu j hj).2.1).mono hold1.1,fun u hu j hj=>by obtain⟨g1,g2,g3⟩:=hmd.slots u hu j hj;exact⟨g1,by have:=hold1.1;omega,g3⟩,hmd.own⟩
            exact ih i' us cs O v4 s1 _ _ _ _ _ _ _ _ _ (by omega) hi2 hmd1 hdr hle (hold.trans (hold1.mono hns))
          have app:∀ (y14:AV),Qb E JN (fun V s'=>WC E none (.loop El) Q V [] s') [] [iv (n:Int),.slice (some (p,o)) bs.length cap,iv (most:Int),v3,v4,iv (i':Int),iv (size:Int),v5,y8,y9,.bool true,y11,y12,y13,y14] s1:=by
            intro y14
            have hv5:v5.cells=[v5]:=by obtain⟨a',c',rfl,_⟩:=hd5.cells;rfl
            have b1:=Ck (P:=Try.prog) (t:=22) (v:=v5) Try.underlying22 CL Wd rfl hv5
            have hslot:=hmd.dest.slot_lt
            have hd3:B8 s1 v4 us.length 1 us O:=hmd.dest.frame hold1.1 fun j hj=>hold1.2 j (hslot j hj)
            obtain⟨v',s2,O',p1,p2,p3,p4,p5⟩:=V5 (st:=22) (e:=23) (by_:=24) Try.underlying22 CL Wz (by decide) (Ke 22 23 Try.underlying22) Ms hd3 (by omega) hd5.isSlice
            simp only[JN,b1,hmv,p1,Qb,Qc,Qd,Qf,Qh,Qj,Qk,Qm,Qn,true_and,Qo,Qp,Qq,Qr,Qs,Yc]
            have hOlt:∀j∈O,j<s.next:=hmd.dest.lt
            have hs12:s1.next≤s2.next:=p3
            have hold2:BG s0.next s0 s2:=(hold.trans (hold1.mono hns)).trans ⟨p3,fun j hj=>p4 j (by have:=hold1.1;omega) (fun hm=>by have:=hmd.own j hm;omega)⟩
            have old_slot:∀u∈us,∀j,Cn u=some j→s2.heap.get j=s.heap.get j:=by
              intro u hu j hj
              obtain⟨g1,g2,g3⟩:=hmd.slots u hu j hj
              rw[p4 j (by have:=hold1.1;omega) g3]
              exact hold1.2 j g2
            have v5_slot:∀j,Cn v5=some j→s2.heap.get j=s1.heap.get j:=by
              intro j hj
              have h1:=hO5.2 j hj
              exact p4 j (hd5.slot_lt j hj) (fun hm=>by have:=hOlt j hm;omega)
            refine ih i' (us++[v5]) (cs++[out]) O' v' s2 _ _ _ _ _ _ _ _ _ (by omega) hi2 ⟨?_,?_,?_,?_⟩ (fun L hL=>?_) (by rw[qM];simp;omega) hold2
            · rw[qM];exact p2
            · refine((hmd.rows.keep old_slot).mono (qV hold1.1 hs12)).append (An.one ?_)
              exact((hd5.slice).keep v5_slot).mono hs12
            · intro u hu j hj
              have hO'j:j<s1.next→j ∉ O→j ∉ O':=fun h1 h2 h3=>(p5 j h3).elim h2 (fun h=>by omega)
              rcases List.mem_append.1 hu with hu | hu
              · obtain⟨g1,g2,g3⟩:=hmd.slots u hu j hj
                exact⟨g1,by have:=hold1.1;omega,hO'j (by have:=hold1.1;omega) g3⟩
              · have:u=v5:=by simpa using hu
                subst this
                have h1:=hO5.2 j hj
                have h2:=hd5.slot_lt j hj
                exact⟨by omega,by omega,hO'j h2 (fun hm=>by have:=hOlt j hm;omega)⟩
            · intro j hj
              exact(p5 j hj).elim (hmd.own j) (fun h=>by have:=hold1.1;omega)
            · rcases List.mem_append.1 hL with h | h
              · exact hdr L h
              · rw[List.mem_singleton.1 h];exact⟨hV,hol⟩
          simp only[if_true,Qa,Qj,Qw,Qy,Qz,Rb]
          by_cases hpos:0<out.length
          · have d1:decide ((0:Int)<(out.length:Int))=true:=decide_eq_true (by omega)
            simp only[JM,l5,d1,Qb,Qc,Qd,Qf,Qg,Qh,Qi,Qj,Qk,Qm,Qn,true_and,Qo,Qp,Qq,Qr,Qs,Qt,Qu,Rk,Rm,Ya,Rn,Ro,Rs]
            have:=app (.bool true)
            simp only[JN,Qb,Qc,Qd,Qf,Qh,Qj,Qk,Qm,Qn,true_and,Qo,Qp,Qq,Qr,Qs]at this ⊢
            exact this
          · have d1:decide ((0:Int)<(out.length:Int))=false:=decide_eq_false (by omega)
            by_cases hz:size=0
            · have d2 : decide ((size : Int) = 0) = true := decide_eq_true (by omega)
              have hlt':i' - 1<bs.length:=by omega
              have hx':bs[i' - 1]? = some bs[i' - 1]:=qP hlt'
              obtain⟨p',o',ep,hp',hload'⟩:=hc (i' - 1) _ (Ig hx')
              injection ep with ep
              injection ep with ep1 ep2
              subst ep1;subst ep2
              have e1':=Al (cap:=cap) (i:=p) (o:=o) Try.underlying42 oV hlt'
              have ld':AD Try.prog s1 5 (.ptr (some (p,o+(i' - 1) * 1)))=some (Mu bs[i' - 1]):=A4 oQ (by rw[qa,CO (hold1.2 p (by omega)),CO (hold.2 p (by omega))];exact hload')
              have e5:=DZ Try.prog 3 (i':Int) 1 ⟨by omega,by omega⟩
              have e5':(i':Int) - 1=((i' - 1:Nat):Int):=by omega
              by_cases h7:bs[i' - 1]=7
              · simp only[JM,l5,d1,d2,e5,e5',e1',ld',EZ,h7,decide_true,Qb,Qc,Qd,Qf,Qg,Qh,Qi,Qj,Qk,Qm,Qn,true_and,Qo,Qp,Qq,Qr,Qs,Qu,Rl,Rm,Yb,Rn,Ro,Rs,Rv]
                have:=app (.bool true)
                simp only[JN,Qb,Qc,Qd,Qf,Qh,Qj,Qk,Qm,Qn,true_and,Qo,Qp,Qq,Qr,Qs]at this ⊢
                exact this
              · simp only[JM,l5,d1,d2,e5,e5',e1',ld',EZ,h7,decide_false,Qb,Qc,Qd,Qf,Qg,Qh,Qi,Qj,Qk,Qm,Qn,true_and,Qo,Qp,Qq,Qr,Qs,Qv,Rl,Rm,Yb,Rn,Ro,Rs,Rv]
                exact noapp _
            · have d2:decide ((size:Int)=0)=false:=decide_eq_false (by omega)
              simp only[JM,l5,d1,d2,Qb,Qc,Qd,Qf,Qg,Qh,Qi,Qj,Qk,Qm,Qn,true_and,Qo,Qp,Qq,Qr,Qs,Qt,Qv,Rl,Rm,Yb,Rn,Ro,Rs,Rv]
              exact noapp _
        generalize hW:WC E none (Ac.loop El) Q=W at rest
        by_cases h29:bs[i] % 29=7
        · have:=rest 0 (.bool true) (by omega)
          simp only[El,NC,AW Try.underlying42,hkk,l4,hmm,YM,e1,ld,q5,q6,q7,YN,q8,EZ,h29,decide_true,fk,YO,e3,e3',YP,YQ,Qa,Qb,Qc,Qd,Qf,Qg,Qh,Qi,Qj,Qk,Qm,Qn,true_and,Qo,Qp,Qq,Qr,Qs,Qu,Qw,Qy,Qz,Rl,Rn,Ro,Rq]at this ⊢
          exact this
        · have:=rest sz (.bool false) hsz4
          simp only[El,NC,AW Try.underlying42,hkk,l4,hmm,YM,e1,ld,q5,q6,q7,hsz,YN,q8,EZ,h29,decide_false,YO,e3,e3',YP,YQ,Qa,Qb,Qc,Qd,Qf,Qg,Qh,Qi,Qj,Qk,Qm,Qn,true_and,Qo,Qp,Qq,Qr,Qs,Qu,Qv,Qw,Qy,Qz,Rl,Rn,Ro,Rq]at this ⊢
          exact this
      · have hmm:decide ((cs.length:Int)<(most:Int))=false:=decide_eq_false (by omega)
        simp only[El,NC,AW Try.underlying42,hkk,l4,hmm,Qa,Qb,Qc,Qd,Qf,Qg,Qh,Qi,Qj,Qk,Qm,Qn,true_and,Qo,Qp,Qq,Qr,Qs,Qv,Qw,Qy,Qz,Rl,Rn,Ro,Rq]
        exact hq s v4 us cs O _ _ _ _ _ _ _ _ _ _ hmd hdr hle hold
    · have hkk:decide ((i:Int)<(bs.length:Int))=false:=decide_eq_false (by omega)
      simp only[El,NC,AW Try.underlying42,hkk,Qa,Qb,Qc,Qd,Qf,Qg,Qh,Qi,Qj,Qk,Qm,Qn,true_and,Qo,Qp,Qq,Qr,Qs,Qt,Qv,Qw,Qy,Qz,Rl,Rn,Ro,Rq]
      exact hq s v4 us cs O _ _ _ _ _ _ _ _ _ _ hmd hdr hle hold
theorem aY{E:BN}(hE:Good E){s:AF}{b n most:Nat}(hb:b≤s.next)(hn0:1≤n)(hn:n≤1000)(hmost:most≤1000){bs:List Int}(hbs:ck bs)(hlen:bs.length<9223372036854775808){v:AV}(hv:AX b s v (ID bs)):
  WF E 31 [iv (n:Int),v,iv (most:Int)] (fun r s'=>∃us cs O,JF s.next s' r us cs O∧UG n cs∧cs.length≤most∧BG s.next s s') s:=by
 obtain⟨a,cap,rfl,hc⟩:=hv
 have hl:(ID bs).length=bs.length:=qK _
 rw[hl]
 refine hE.go lI (by decide) rfl ?_
 simp only[pW,fh,fi,fj,Qa,Qb,Qc,Qd,Qf,Qh,Qi,Qj,Ql,Qm,Qn,true_and,Qo,Qp,Qs,Qw,Rc,Rf,Rg,Rh,Yc]
 refine TO hE hb hn0 hn hmost hbs hlen hc _ ?_ bs.length 0 [] [] [] _ s _ _ _ _ _ _ _ _ _ (by omega) (qO _) ⟨B8.nil s 1,An.nil _ _,(fun u hu=>by cases hu),(fun j hj=>by cases hj)⟩ (by simp[UG]) (qO _) (BG.refl _ _)
 intro s' v' us' cs' O' y5 y6 y7 y8 y9 y10 y11 y12 y13 y14 h1 h2 h3 h4
 simp only[if_true,YL,Qb,Qc,Qd,Qf,Qh,Qj,Qm,Qn,true_and,Qo,Qp,Qq,Qr,Qs,Qw,Qy,Rb,Re]
 exact⟨us',cs',O',h1,h2,h3,h4⟩
theorem JF.rowsIn{lo:Nat}{s:AF}{v:AV}{us:List AV}{cs:List (List Int)}{O:List Nat}(h:JF lo s v us cs O):RowsIn (fun j=>j<s.next) s v cs:=
 ⟨us,h.dest.slice,fun j hj=>h.dest.slot_lt j hj,h.rows,fun u hu j hj=>(h.slots u hu j hj).2.1⟩
theorem IU(x y:Int):Ae Try.prog 23 2 (zipIdx [0,1] [iv x,iv y])=some (AO 3 1 [iv x,iv y]):=by
 simp[Ae,Try.underlying23,Bt,AI,RN,zipIdx,Dp,AV.cells,Jx]
 rfl
theorem bu{s:AF}{L:List Int}(hL:L≠[]):AX (s.next+1) (newObj s (AO 3 1 (Ax L))) (.slice (some (s.next,0)) L.length (some L.length)) (Ax L)∧∀j,Cn (.slice (some (s.next,0)) L.length (some L.length))=some j→j=s.next:=by
 obtain⟨r,h1,h2,h3,h4,h5,h6⟩:=Br 3 1 (Ax L)
 refine⟨⟨some (s.next,0),some L.length,by simp,fun k u hk=>⟨s.next,0,rfl,qn _,?_⟩⟩,fun j hj=>?_⟩
 ·rw[qU]
  exact B1 (by rw[AQ,if_pos rfl,h1]) (by rw[h2.1];exact Ag hk) (h2.2 k u hk)
 ·simp[Cn]at hj
  exact hj.symm
theorem IQ{E:BN}(hE:Good E){B:Nat→Prop}{s:AF}{V:Nat→Option Sv}(h:Cj B s V){p:Nat}{v:Sv}(hp:V p=some v){n A:Nat}{F:List (List Int)}{M:Nat}(hI:SI n A F M v)(hbd:Bd n A M)(x y:Int)(hx:VL n x)(hy:VL n y){K:AV→AF→Prop}
  (hK:∀s' v',SI n (A+1) (F++[[x,y]]) M v'→Cj B s' (Fb V p v')→Dv B s s'→K (iv 0) s'):
  WF E 36 [.ptr (some (p,0)),.slice (some (s.next,0)) 2 (some 2)] K (newObj s (AO 3 1 [iv x,iv y])):=by
 have ho:=BG.new s (AO 3 1 [iv x,iv y])
 have h1:=h.old ho
 obtain⟨g1,g2⟩:=bu (s:=s) (L:=[x,y]) (by simp)
 have hk1:=Dv.old h ho
 have hadd:=Q5 hE h1 hp hI hbd (f:=[x,y]) (fun q hq=>by
  rcases qp.1 hq with e | e
  ·rw[e];exact hx
  ·rw[List.mem_singleton.1 e];exact hy) (by simp) (b:=s.next+1) (qI _) g1 (fun j hj=>by rw[g2 j hj];exact .inr ⟨qI _,qn _⟩)
 refine hadd.mono ?_
 rintro _ s' ⟨rfl,v',q1,q2,q3,q4⟩
 exact hK s' v' q1 (q3.less fun j hj=>.inl hj) (hk1.trans (q4.mono fun j hj=>.inl hj))
theorem oJ{σ:Nat→Bool}:(FH σ 1↔σ 1=true)∧(FH σ 2↔σ 2=true)∧(FH σ (-1)↔σ 1=false)∧(FH σ (-2)↔σ 2=false):=by
 unfold FH
 refine⟨⟨?_,fun h=>.inl ⟨by decide,h⟩⟩,⟨?_,fun h=>.inl ⟨by decide,h⟩⟩,⟨?_,fun h=>.inr ⟨by decide,h⟩⟩,⟨?_,fun h=>.inr ⟨by decide,h⟩⟩⟩<;>rintro(⟨a,b⟩ | ⟨a,b⟩)<;>first | exact b | omega
theorem Ux{σ:Nat→Bool}:By σ [[1,2],[-1,2],[1,-2]]↔σ 1=true∧σ 2=true:=by
 obtain⟨a,b,c,d⟩:=oJ (σ:=σ)
 have e:By σ [[1,2],[-1,2],[1,-2]]↔(FH σ 1∨FH σ 2)∧(FH σ (-1)∨FH σ 2)∧(FH σ 1∨FH σ (-2)):=by simp[By]
 rw[e,a,b,c,d]
 cases σ 1<;>cases σ 2<;>simp
theorem eR{σ:Nat→Bool}:¬ By σ [[1,2],[-1,2],[1,-2],[-1,-2]]:=by
 obtain⟨a,b,c,d⟩:=oJ (σ:=σ)
 have e:By σ [[1,2],[-1,2],[1,-2],[-1,-2]]↔(FH σ 1∨FH σ 2)∧(FH σ (-1)∨FH σ 2)∧(FH σ 1∨FH σ (-2))∧(FH σ (-1)∨FH σ (-2)):=by simp[By]
 rw[e,a,b,c,d]
 cases σ 1<;>cases σ 2<;>simp
theorem cU{E:BN}(hE:Good E){B:Nat→Prop}{s:AF}{V:Nat→Option Sv}(h:Cj B s V):WF E 37 [] (fun r s'=>r=.bool true∧Dv B s s') s:=by
 have hms:∀ (m:Nat) (i:Nat),Made.val i (.slice m)=.slice (some (i,0)) m (some m):=fun _ _=>rfl
 have hVL:VL 2 1∧VL 2 2∧VL 2 (-1)∧VL 2 (-2):=by decide
 obtain⟨w1,w2,w3,w4⟩:=hVL
 refine hE.go lL (by decide) rfl ?_
 simp only[pY,gB,gC,Qa,Qb,Qc,Qd,Qf,Qh,Qi,Qj,Qk,Ql,Qm,Qn,true_and,Qo,Qs,Qw,Qx,Rc,Rf,Rg,Rh,Yc]
 refine(Q6 hE h (n:=2) (by decide)).mono ?_
 rintro _ s1 ⟨va,rfl,hVn,g1,k1,i1,_⟩
 generalize hp:s.next=p at *
 obtain⟨j1,j2,_,_⟩:=i1.inv ⟨by decide,by decide,.inr (by decide)⟩
 have hvars:=Nu hE g1 (BO V p va) (n:=2) (by decide) j1.fit.siz.value
 have bd:∀A M,A≤10→Bd 2 A M:=fun A M hA=>⟨by decide,by omega,.inl (by decide)⟩
 have e2:iv ((2:Nat):Int)=iv 2:=rfl
 have JB:decide ((2:Int)≠2)=false:=by decide
 have h729:∀ (a:Int),iv ((729:Nat):Int)=iv 729:=fun _=>rfl
 simp only[AK,e2]at hvars
 simp only[gD,AK,Qb,Qc,Qd,Qf,Qg,Qh,Qi,Qj,Qk,Qn,true_and,Qo,Qp,Qq,Qr,Qs,Rn,Ro]
 refine hvars.mono ?_
 rintro _ _ ⟨rfl,rfl⟩
 have hs1:=GX hE g1 (BO V p va) i1 (bd 0 (0+729) (by decide)) (most:=729) (by decide) (by simp)
 simp only[AK]at hs1
 simp only[JB,Qc,Qd,Qm,Qn,true_and,Qq,Qr,Qs,Rm,Yb,Rw]
 refine hs1.mono ?_
 rintro _ s2 ⟨c,v2,rfl,i2,_,hc,g2,k2⟩
 have hc1:c=1:=by
  rcases hc with⟨_,q⟩ | ⟨q,_⟩ | ⟨_,q,_⟩
  ·exact absurd (fun f hf=>by cases hf) (q fun _=>true)
  ·exact q
  ·exact absurd (q (by decide)) (by decide)
 subst hc1
 rw[DW]at g2
 have My:decide ((1:Int)≠1)=false:=by decide
 simp only[My,gE,IU,hms,Qb,Qc,Qd,Qf,Qh,Qi,Qj,Qk,Qm,Qn,true_and,Qo,Qp,Qq,Qr,Qs,Qv,Re,Rm,Yb,Yc,Rw]
 refine IQ hE g2 (BO V p v2) i2 (bd _ _ (by decide)) 1 2 w1 w2 ?_
 intro s3 v3 i3 g3 k3
 rw[DW]at g3
 simp only[gF,IU,hms,Qb,Qc,Qd,Qf,Qh,Qi,Qj,Qk,Qm,Qn,true_and,Qq,Qr,Qs,Yc]
 refine IQ hE g3 (BO V p v3) i3 (bd _ _ (by decide)) (-1) 2 w3 w2 ?_
 intro s4 v4 i4 g4 k4
 rw[DW]at g4
 simp only[gG,IU,hms,Qb,Qc,Qd,Qf,Qh,Qi,Qj,Qk,Qm,Qn,true_and,Qq,Qr,Qs,Yc]
 refine IQ hE g4 (BO V p v4) i4 (bd _ _ (by decide)) 1 (-2) w1 w4 ?_
 intro s5 v5 i5 g5 k5
 rw[DW]at g5
 have hs2:=GX hE g5 (BO V p v5) i5 (bd _ _ (by decide)) (most:=729) (by decide) (by simp;exact⟨⟨w1,w2⟩,⟨w3,w2⟩,w1,w4⟩)
 simp only[AK]at hs2
 simp only[gH,Qb,Qc,Qd,Qf,Qg,Qh,Qi,Qj,Qk,Qm,Qn,true_and,Qq,Qr,Qs,Rn,Ro]
 refine hs2.mono ?_
 rintro _ s6 ⟨c,v6,rfl,i6,_,hc,g6,k6⟩
 have hc1:c=1∧v6.model.length=2+1∧By (Fn v6.model) [[1,2],[-1,2],[1,-2]]:=by
  rcases hc with⟨_,q⟩ | ⟨q1,q2,q3⟩ | ⟨_,q,_⟩
  ·exact absurd (Ux.2 ⟨rfl,rfl⟩) (q fun _=>true)
  ·exact⟨q1,q2,q3⟩
  ·exact absurd (q (by decide)) (by decide)
 obtain⟨rfl,hml,hmm⟩:=hc1
 obtain⟨t1,t2⟩:=Ux.1 hmm
 rw[DW]at g6
 have hv1:=Mb hE g6 (BO V p v6) (k:=1) (by decide)
 have hv2:=Mb hE g6 (BO V p v6) (k:=2) (by decide)
 have ev1:iv ((1:Nat):Int)=iv 1:=rfl
 simp only[AK,ev1,t1]at hv1
 simp only[AK,e2,t2]at hv2
 simp only[decide_true,Qc,Qd,Qm,Qn,true_and,Qq,Qr,Qs,Rl,Rv]
 refine hv1.mono ?_
 rintro _ _ ⟨rfl,rfl⟩
 simp only[Qc,Qd,Qm,Qn,true_and,Qq,Qr,Qs,Rl]
 refine hv2.mono ?_
 rintro _ _ ⟨rfl,rfl⟩
 simp only[gI,IU,hms,Qb,Qc,Qd,Qf,Qh,Qi,Qj,Qk,Qm,Qn,true_and,Qo,Qp,Qq,Qr,Qs,Yc]
 refine IQ hE g6 (BO V p v6) i6 (bd _ _ (by decide)) (-1) (-2) w3 w4 ?_
 intro s7 v7 i7 g7 k7
 rw[DW]at g7
 simp only[gJ,Qb,Qc,Qd,Qf,Qh,Qi,Qk,Qm,Qn,true_and,Qs]
 refine(Q6 hE g7 (n:=0) (by decide)).mono ?_
 rintro _ s8 ⟨vb,rfl,hVb,g8,k8,i8,_⟩
 generalize hpb:s7.next=q at *
 have hpq:p≠q:=fun e=>by rw[← e,BO]at hVb;cases hVb
 have bd0:∀A M,A≤10→Bd 0 A M:=fun A M hA=>⟨by decide,by omega,.inl (by decide)⟩
 have hadd:=Q5 hE g8 (BO _ q vb) i8 (bd0 _ _ (by decide)) (f:=[]) (by simp) (by simp) (b:=0) (u:=.slice none 0 (some 0)) (qO _) ⟨none,some 0,rfl,Ay.nil⟩ (fun j hj=>by cases hj)
 simp only[AK]at hadd
 simp only[Yf,Qb,Qc,Qd,Qf,Qh,Qi,Qj,Qn,true_and,Qo,Qp,Qq,Qr,Qs]
 refine hadd.mono ?_
 rintro _ s9 ⟨rfl,v9,i9,_,g9,k9⟩
 rw[DW]at g9
 have hpV:Fb (Fb V p v7) q v9 p=some v7:=by rw[Fm hpq];exact BO _ _ _
 have hs3:=GX hE g9 hpV i7 (bd _ _ (by decide)) (most:=729) (by decide) (by simp;exact⟨⟨w1,w2⟩,⟨w3,w2⟩,⟨w1,w4⟩,w3,w4⟩)
 simp only[AK]at hs3
 simp only[Yg,Qb,Qc,Qd,Qf,Qg,Qh,Qi,Qj,Qk,Qm,Qn,true_and,Qq,Qr,Qs,Rl,Rn,Ro]
 refine hs3.mono ?_
 rintro _ s10 ⟨c,v10,rfl,_,_,hc,g10,k10⟩
 have hc0:c=0:=by
  rcases hc with⟨q,_⟩ | ⟨_,_,q⟩ | ⟨_,q,_⟩
  ·exact q
  ·exact absurd q eR
  ·exact absurd (q (by decide)) (by decide)
 subst hc0
 have hqV:Fb (Fb (Fb V p v7) q v9) p v10 q=some v9:=by rw[Fm (fun e=>hpq e.symm)];exact BO _ _ _
 have hs4:=GX hE g10 hqV i9 (bd0 _ _ (by decide)) (most:=0) (by decide) (by simp)
 have e0:iv ((0:Nat):Int)=iv 0:=rfl
 simp only[AK,e0]at hs4
 simp only[decide_true,Qc,Qd,Qm,Qn,true_and,Qq,Qr,Qs,Rl,Rv]
 refine hs4.mono ?_
 rintro _ s11 ⟨c,v11,rfl,_,_,hc,g11,k11⟩
 have hc0:c=0:=by
  rcases hc with⟨q,_⟩ | ⟨_,_,q⟩ | ⟨_,_,q⟩
  ·exact q
  ·obtain⟨y,hy,_⟩:=q [] (by simp)
   cases hy
  ·exact absurd (by simp) q
 subst hc0
 simp only[decide_true,Qc,Qd,Qm,Qn,true_and,Qo,Qq,Qr,Qs,Rl,Rv]
 exact((((((((((k1.trans k2).trans k3).trans k4).trans k5).trans k6).trans k7).trans k8).trans k9).trans k10).trans k11)
def u16(n:Int):Prop:=0≤n∧n≤65535
theorem UA{s:AF}{d:Int}(hd:u8 d){k:Int}(hk:0<k∧k≤100):∃n:Nat,1≤n∧n≤k.toNat∧AL Try.prog .rem 5 (Mu d) (Mu k)=some (Mu (d % k))∧CN Try.prog s 5 3 (Mu (d % k))=some (iv (d % k))∧AL Try.prog .add 3 (iv 1) (iv (d % k))=some (iv (n:Int)):=by
 obtain⟨h1,h2⟩:=hd
 have r1:=Int.emod_nonneg d (show k≠0 by omega)
 have r2:=Int.emod_lt_of_pos d (show(0:Int)<k by omega)
 refine⟨(1+d % k).toNat,by omega,by omega,GK (P:=Try.prog) (t:=5) (k:=.u8) h1 (by omega),HR ⟨by omega,by omega⟩,?_⟩
 rw[Ai Try.prog 3 1 (d % k) ⟨by omega,by omega⟩]
 congr 2
 omega
theorem cz{t:TypeId}{k:IntKind}(ht:Try.prog.underlying t=some (.int k)){W:World}{base:Nat}{v:Value}(h:Value.okWide Try.prog W .any base t v){ρ:Bp}{a:AV}(hr:AY ρ [a] v.cells.toList):Aa ρ a v:=by
 have hv:v.cells.toList=[v]:=by
  cases v with
  | agg cs=>simp[Value.okWide,ht,Cell.okWide,Cell.ok]at h
  | _=>rfl
 rw[hv]at hr
 cases hr with
 | cons h _=>exact h
section
variable{H:Type}{enc:TypeId×Value→H}{W:World}{base:Nat}
theorem ae{v0 v1:Value}(h0:Value.okWide Try.prog W .any base 5 v0)(h1:Value.okWide Try.prog W .any base 42 v1)
  {d0 d1:DataW H} {p0 p1:List MemPlace} (t0:DataW.Trod enc Try.prog W 0 (fun _=>true) true 5 v0 d0 p0) (t1:DataW.Trod enc Try.prog W 0 (fun _=>true) true 42 v1 d1 p1):
  ∃ (ρ:Bp) (s:AF) (d:Int) (u:AV) (bs:List Int),Gn Try.prog W ρ s∧Aa ρ (Mu d) v0∧Aa ρ u v1∧u8 d∧AX s.next s u (ID bs)∧ck bs∧bs.length<9223372036854775808:=by
 obtain⟨n0,t0⟩:=t0
 obtain⟨n1,t1⟩:=t1
 obtain⟨ρ1,s1,us1,d,g1,g2,g3,g4,rfl,g5⟩:=NO (q:=u8) Try.underlying5 (fun n h=>cT h) n0 _ _ t0 _ _ (oC Try.prog W)
 obtain⟨ρ2,s2,us2,bs,k1,k2,k3,k4,k5⟩:=Li (q:=u8) Try.underlying42 Try.underlying5 qH (fun n h=>cT h) t1 (fun a ha=>Q3 Try.underlying42 h1 a ha) g1
 obtain⟨u,rfl,q1,q2,q3⟩:=MZ k5
 exact⟨ρ2,s2,d,u,bs,k1,cz Try.underlying5 h0 (g4.mono k2),UN Try.underlying42 h1 k4,g5,q1,q2,q3⟩
end
theorem Dv.toOld{b:Nat}{s s':AF}(h:Dv (fun j=>j<s.next) s s')(hb:b≤s.next):BG b s s':=⟨h.1,fun j hj=>h.2 j (qi hj hb)⟩
section
variable{H:Type}{enc:TypeId×Value→H}{W:World}{base:Nat}
theorem VT{v0 v1 v2:Value}(h0:Value.okWide Try.prog W .any base 5 v0)(h1:Value.okWide Try.prog W .any base 42 v1)(h2:Value.okWide Try.prog W .any base 42 v2)
  {d0 d1 d2:DataW H} {p0 p1 p2:List MemPlace} (t0:DataW.Trod enc Try.prog W 0 (fun _=>true) true 5 v0 d0 p0) (t1:DataW.Trod enc Try.prog W 0 (fun _=>true) true 42 v1 d1 p1) (t2:DataW.Trod enc Try.prog W 0 (fun _=>true) true 42 v2 d2 p2):
  ∃ (ρ:Bp) (s:AF) (d:Int) (u w:AV) (bs xs:List Int),Gn Try.prog W ρ s∧Aa ρ (Mu d) v0∧Aa ρ u v1∧Aa ρ w v2∧u8 d∧(AX s.next s u (ID bs)∧ck bs∧bs.length<9223372036854775808)∧AX s.next s w (ID xs)∧ck xs∧xs.length<9223372036854775808:=by
 obtain⟨ρ,s,d,u,bs,hd,r0,r1,q1,q2,q3,q4⟩:=ae h0 h1 t0 t1
 obtain⟨n2,t2⟩:=t2
 obtain⟨ρ2,s2,us2,xs,k1,k2,k3,k4,k5⟩:=Li (q:=u8) Try.underlying42 Try.underlying5 qH (fun n h=>cT h) t2 (fun a ha=>Q3 Try.underlying42 h2 a ha) hd
 obtain⟨w,rfl,m1,m2,m3⟩:=MZ k5
 exact⟨ρ2,s2,d,u,w,bs,xs,k1,r0.mono k2,r1.mono k2,UN Try.underlying42 h2 k4,q1,⟨(q2.old k3 (qI _)).mono k3.1,q3,q4⟩,m1,m2,m3⟩
end
theorem FB{α:Type}{l:List α}{k:Nat}{x:α}(h:l[k]? = some x):l.take (k+1)=l.take k++[x]:=by
 have hlt:=Ag h
 rw[sC hlt]
 rw[qP hlt]at h
 injection h with h
 rw[h]
theorem BP.put{s:AF}{i k:Nat}{cs:List AV}{u:AV}(h:BP s i cs)(hk:k<cs.length){t:TypeId}(ht:BC Try.prog t=some 1)(h1:u.isCell=true)(h2:u.cells=[u]):
  ∃s',AM Try.prog s t (.ptr (some (i,0+k * 1))) u=some s'∧BP s' i (cs.set k u)∧s'.next=s.next∧∀x,x≠i→s'.heap.get x=s.heap.get x:=by
 obtain⟨s',g1,g2,g3,g4⟩:=h.fill (o:=k) (vs:=[u]) (by simp) (by simp;omega) (by simp[Ak,h1])
 refine⟨s',?_,?_,g3,g4⟩
 ·simp[AM,ht,h2,AI,g1]
 ·rw[show cs.set k u=cs.take k++[u]++cs.drop (k+[u].length) by rw[qz];simp[List.set_eq_take_append_cons_drop,hk]]
  exact g2
def Fo(lo:Nat)(s:AF)(O:List Nat)(u:AV):Prop:=(∃d,u=.bool d)∨(∃a c,u=.slice a 0 c)∨∃ (L:List Int)(i:Nat),u=.slice (some (i,0)) L.length none∧BP s i (Ax L)∧lo≤i∧i<s.next∧i ∉ O
structure Fc(lo:Nat)(s:AF)(v:AV)(us:List AV)(T:Ba)(O:List Nat):Prop where
 dest:B8 s v T.length 2 us O
 rows:Bg s.next s us T
 cell:∀u∈us,Fo lo s O u
 own:∀j∈O,lo≤j
theorem Fo.keep{lo:Nat}{s s':AF}{O O':List Nat}{u:AV}(h:Fo lo s O u)(hn:s.next≤s'.next)(k:∀j,j<s.next→j ∉ O→s'.heap.get j=s.heap.get j∧j ∉ O'):Fo lo s' O' u:=by
 rcases h with h | h | ⟨L,i,h1,h2,h3,h4,h5⟩
 ·exact .inl h
 ·exact .inr (.inl h)
 ·exact .inr (.inr ⟨L,i,h1,h2.keep (k i h4 h5).1,h3,by omega,(k i h4 h5).2⟩)
theorem Fo.reads{lo:Nat}{s s':AF}{O:List Nat}{u:AV}(h:Fo lo s O u){b:Nat}{L:List Int}(hu:AX b s u (Ax L))(k:∀j,j<s.next→j ∉ O→s'.heap.get j=s.heap.get j):AX b s' u (Ax L):=by
 rcases h with⟨d,rfl⟩ | ⟨a,c,rfl⟩ | ⟨L',i,rfl,h2,h3,h4,h5⟩
 ·obtain⟨_,_,e,_⟩:=hu
  cases e
 ·obtain⟨a',c',e,_⟩:=hu
  injection e with e1 e2 e3
  have:L=[]:=by
   rw[qK]at e2
   exact List.length_eq_zero_iff.1 e2.symm
  subst this
  exact⟨a,c,rfl,Ay.nil⟩
 ·exact hu.keep fun j hj=>by
   simp[Cn]at hj
   subst hj
   exact k _ h4 h5
theorem Bg.via{lo b:Nat}{s s':AF}{us:List AV}{T:Ba}{O:List Nat}(h:Bg b s us T)(hc:∀u∈us,Fo lo s O u)(k:∀j,j<s.next→j ∉ O→s'.heap.get j=s.heap.get j):Bg b s' us T:=
 ⟨h.1,fun j d L hj=>let ⟨h0,u,h1,h2⟩:=h.2 j d L hj;⟨h0,u,h1,(hc u (qL h1)).reads h2 k⟩⟩
theorem De.cell{lo:Nat}{s:AF}{v:AV}{L:List Int}(h:De lo s v L){O:List Nat}(hO:∀j∈O,j<lo){lo':Nat}(hl:lo'≤lo):Fo lo' s O v:=by
 rcases h with⟨a,e,_⟩ | ⟨i,e,h1,h2,h3⟩
 ·exact .inr (.inl ⟨a,_,e⟩)
 ·exact .inr (.inr ⟨L,i,e,h3,by omega,h2,fun q=>by have:=hO i q;omega⟩)
theorem Fc.old    {lo : Nat} {s s' : AF}  {v : AV} {us : List AV} {T : Ba}      {O : List Nat} (h : Fc    lo s v us T O) (ho : BG  s.next s s') : Fc    lo s' v us T O :=
  ⟨h.dest.frame ho.1 fun j hj=>ho.2 j (by
      rcases h.dest with⟨a,rfl,_,_,_,h5⟩ | ⟨i,p,rfl,h6,h7⟩
      · cases a with
        | none=>cases hj
        | some io =>
          obtain⟨i,o⟩:=io
          simp[Cn]at hj
          subst hj
          exact(h5 _ _ rfl).1
      · simp [Cn]   at hj
        subst hj
        exact h.dest.lt _ (by rw[h7];simp)),(h.rows.mono ho.1).via (fun u hu=>h.cell u hu) fun j hj _=>ho.2 j hj,fun u hu=>(h.cell u hu).keep ho.1 fun j hj hO=>⟨ho.2 j hj,hO⟩,h.own⟩
theorem Fc.trace{lo:Nat}{s:AF}{v:AV}{us:List AV}{T:Ba}{O:List Nat}(h:Fc lo s v us T O):Fd s.next s v T:=by
 obtain⟨a,cap,hv,hc⟩:=h.dest.cells
 refine⟨a,cap,hv,fun k d L hk=>?_⟩
 obtain⟨h0,u,h1,h2⟩:=h.rows.2 k d L hk
 obtain⟨i,o,e,hi,hl⟩:=hc _ _ h0
 obtain⟨i',o',e',hi',hl'⟩:=hc _ _ h1
 rw[e]at e'
 injection e' with e'
 injection e' with e1 e2
 subst e1 e2
 exact⟨i,o,u,e,hi,hl,by rw[rA];exact hl',h2⟩
theorem Tq         {lo : Nat} {s : AF}  {v : AV} {us : List AV} {T : Ba}      {O : List Nat} (hm : Fc    lo s v us T O) (hT : T.length ≤ 1000000) {d : Bool} {u : AV} {L : List Int} (hu : AX      s.next s u (Ax  L)) (hcell : Fo     lo s O u) (hlo : lo ≤ s.next) :
    ∃v' s' O',Af Try.prog (newObj s (AO 27 2 [.bool d,u])) [33,33] [v,.slice (some (s.next,0)) 1 (some 1)]=some (v',s')∧Fc lo s' v' (us++[.bool d,u]) (T++[(d,L)]) O'∧BG lo s s':=by
  have c1:=GY (P:=Try.prog) (e:=27) (s:=newObj s (AO 27 2 [.bool d,u])) (n:=1) (cap:=some 1) (sz:=2) 27 2 (by rw[AQ,if_pos rfl]) rfl
  obtain⟨v',s',O',h1,h2,h3,h4,h5,h6,h7⟩:=(hm.dest.new (AO 27 2 [.bool d,u])).append (P:=Try.prog) (st:=33) (xt:=33) Try.underlying33 PE nP (by decide) (Ke 33 27 Try.underlying33) cV c1 rfl (by have:=hu.isCell.1;simp only[Ak,this];rfl) (by omega) (by omega)
  have hn:(newObj s (AO 27 2 [.bool d,u])).next=s.next+1:=rfl
  have keep:∀j,j<s.next→j ∉ O→s'.heap.get j=s.heap.get j:=fun j hj ho=>by rw[h5 j (by omega) ho,AQ,if_neg (by omega)]
  have hO':∀j,j<s.next→j ∉ O→j ∉ O':=fun j h1 h2 h3=>(h6 j h3).elim h2 (fun h=>by omega)
  refine⟨v',s',O',h1,⟨?_,?_,?_,?_⟩,⟨by omega,fun j hj=>keep j (by omega) (fun h=>by have:=hm.own j h;omega)⟩⟩
  · rw[qM];exact h2
  · exact((hm.rows.via hm.cell keep).mono (by omega)).snoc ((hcell.reads hu keep).mono (by omega))
  · intro x hx
    rcases List.mem_append.1 hx with hx | hx
    · exact(hm.cell x hx).keep (by omega) fun j hj ho=>⟨keep j hj ho,hO' j hj ho⟩
    · rcases qp.1            hx with rfl | hx
      · exact .inl ⟨d,rfl⟩
      · have:x=u:=by simpa using hx
        subst this
        exact hcell.keep (by omega) fun j hj ho=>⟨keep j hj ho,hO' j hj ho⟩
  · intro j hj
    exact(h6 j hj).elim (hm.own j) (fun h=>by omega)
theorem T8{E:BN}(hE:Good E){s0:AF}{v4:AV}{T:Ba}{b:Nat}(hT:Fd b s0 v4 T)(hb:b≤s0.next)(hlen:T.length≤1000000)(hL:∀x∈T,x.2.length≤1000000)(v0 v3:AV){Q:A0→Prop}
  (hq:∀s' v' us' O' y2 y6 y7,Fc s0.next s' v' us' T O'→BG s0.next s0 s'→Q ⟨.exit 0,[v0,v',y2,v3,v4,iv (T.length:Int),y6,y7],[],s'⟩):
  ∀ (t:Ba) (k:Nat) (s:AF) (v:AV) (us:List AV) (O:List Nat) (x2 x7:AV),T.drop k=t→k≤T.length→Fc s0.next s v us (T.take k) O→BG s0.next s0 s →
   WC E none (.loop PW) Q [v0,v,x2,v3,v4,iv (T.length:Int),iv (k:Int),x7] [] s:=by
 intro t
 induction t with
 | nil =>
  intro k s v us O x2 x7 hd hk hm ho
  have:=CH hd hk
  subst this
  rw[qr]at hm
  refine WC.loop' ?_
  simp only[PW,Yj,qd,decide_false,Qa,Qb,Qc,Qd,Qf,Qh,Qj,Qm,Qn,true_and,Qo,Qp,Qq,Qr,Qs,Qv,Qw,Qy,Qz,Rq]
  exact hq s v us O _ _ _ hm ho
 | cons x t ih =>
  intro k s v us O x2 x7 hd hk hm ho
  obtain⟨d,L⟩:=x
  obtain⟨hlt,hx,hd'⟩:=Be hd
  have hkk:decide ((k:Int)<(T.length:Int))=true:=decide_eq_true (by omega)
  have e3:=Ai Try.prog 3 (k:Int) 1 ⟨by omega,by omega⟩
  have hcast:((k:Int)+1)=((k+1:Nat):Int):=by omega
  obtain⟨a,cap,hv,hc⟩:=hT.old ho hb
  obtain⟨i,o,u,ha,hi,hl1,hl2,hu⟩:=hc k d L hx
  have e1:AC Try.prog 33 v4 (iv (k:Int))=some (.ptr (some (i,o+k * 2))):=by rw[hv,ha];exact Al Try.underlying33 PE hlt
  have e2:AD Try.prog s 27 (.ptr (some (i,o+k * 2)))=some (.agg [.bool d,u]):=by simp[AD,nK,PE,P8 hl1 hl2]
  have hal:Bi Try.prog 27=some (AO 27 0 [.bool false,.slice none 0 (some 0)],.ptr):=cu
  have hmv:∀i,Made.val i .ptr=.ptr (some (i,0)):=fun _=>rfl
  have hms:∀ (m:Nat) (i:Nat),Made.val i (.slice m)=.slice (some (i,0)) m (some m):=fun _ _=>rfl
  generalize hs1:newObj s (AO 27 0 [.bool false,.slice none 0 (some 0)])=s1
  have n1:s1.next=s.next+1:=by rw[← hs1];rfl
  have o1:BG s.next s s1:=by rw[← hs1];exact BG.new s _
  have bx1:KY s1 s.next (.bool false) (.slice none 0 (some 0)):=by
   obtain⟨r,h1,h2,h3,h4,h5,h6⟩:=Br 27 0 [.bool false,.slice none 0 (some 0)]
   exact⟨r,by rw[← hs1,AQ,if_pos rfl,h1],h2,h5,h6⟩
  obtain⟨s2,g1,g2,g3,g4⟩:=bx1.store (d0:=.bool d) (d1:=u) rfl hu.isCell.1
  have o2:BG s.next s s2:=⟨by omega,fun x hx=>by rw[g4 x (by omega),o1.2 x hx]⟩
  have hns:=ho.1
  have hu2:AX b s2 u (Ax L):=hu.old (o2.mono (by omega)) (qI _)
  have ld0:AD Try.prog s2 4 (.ptr (some (s.next,0)))=some (.bool d):=A4 kT g2.load0
  have ld1:AD Try.prog s2 23 (.ptr (some (s.next,0+1)))=some u:=A4 DN g2.load1
  refine WC.loop' ?_
  generalize hW:WC E none (Ac.loop PW) Q=W at ih ⊢
  simp only[PW,Yj,hkk,gR,e1,e2,hal,hmv,hs1,BV,g1,AU,gS,Od,ld0,Ll,ld1,Qa,Qb,Qc,Qd,Qf,Qh,Qj,Qk,Qm,Qn,true_and,Qo,Qp,Qq,Qr,Qs,Qu,Qw,Qy,Qz,Rq]
  refine(Gz hE (by omega) hu2 (hL _ (qL hx))).mono ?_
  rintro r s3 ⟨hr,ho3⟩
  have hn3:=ho3.1
  have ld0':AD Try.prog s3 4 (.ptr (some (s.next,0)))=some (.bool d):=A4 kT (g2.keep (ho3.2 s.next (by omega))).load0
  have hsame:FY (.bool d) (.bool d)=true:=by cases d<;>rfl
  have hrc:=hr.slice
  have o23:BG s.next s s3:=o2.trans (ho3.mono (by omega))
  have hm3:Fc s0.next s3 v us (T.take k) O:=hm.old o23
  have hOlt:∀j∈O,j<s2.next:=fun j hj=>by have:=hm.dest.lt j hj;omega
  have hcell:Fo s0.next s3 O r:=hr.cell hOlt (by omega)
  have hb27:Bz Try.prog 27 (zipIdx [0,1] [.bool d,r])=some (.agg [.bool d,r]):=by
   have JB:(AV.bool d).cells=[.bool d]:=rfl
   simp[Bz,RM,Try.underlying27,B0,We,CL,zipIdx,Dp,DC,AI,JB,hrc.isCell.2]
   rfl
  obtain⟨v',s4,O',p1,p2,p3⟩:=Tq hm3 (by rw[qb];omega) (d:=d) (hrc) hcell (by omega)
  simp only[BX,ld0',At,hsame,hb27,IT,hms,p1,gT,e3,hcast,Qb,Qc,Qd,Qf,Qh,Qi,Qj,Qk,Qm,Qn,true_and,and_true,Qo,Qp,Qq,Qr,Qs,Yc]
  refine ih (k+1) s4 v' (us++[.bool d,r]) O' _ _ hd' hlt ?_ ((ho.trans (o23.mono hns)).trans p3)
  have et:T.take (k+1)=T.take k++[(d,L)]:=by
   rw[sC hlt]
   rw[qP hlt]at hx
   injection hx with hx
   rw[hx]
  rw[et]
  exact p2
theorem N8.at_{ow:Ow}{s:AF}{p:Nat}{v:AV}{T:Ba}(h:N8 ow s p v T):Fd s.next s v T:=by
 obtain⟨us,O,h1,h2,h3,h4,h5⟩:=h
 obtain⟨a,cap,hv,hc⟩:=h1.cells
 refine⟨a,cap,hv,fun k d L hk=>?_⟩
 obtain⟨h0,u,q1,q2⟩:=h4.2 k d L hk
 obtain⟨i,o,e,hi,hl⟩:=hc _ _ h0
 obtain⟨i',o',e',hi',hl'⟩:=hc _ _ q1
 rw[e]at e'
 injection e' with e'
 injection e' with e1 e2
 subst e1 e2
 exact⟨i,o,u,e,hi,hl,by rw[rA];exact hl',q2⟩
theorem T7{E:BN}(hE:Good E){ow:Ow}{s:AF}{p:Nat}{x:Sf}{v:Sv}(h:Ah ow s p x v)(hlen:v.trace.length≤1000000)(hL:∀x∈v.trace,x.2.length≤1000000):
    WF E 43 [AK p] (fun r s'=>∃us O,Fc s.next s' r us v.trace O∧BG s.next s s') s:=by
  have q:=Ea p
  simp only[AK]at q
  have hT:=h.trace.at_
  have hln:∀s',Aq Try.prog s' 33 x.trc=some (iv (v.trace.length:Int)):=fun s'=>by
    obtain⟨a,cap,e,_⟩:=hT
    rw[e]
    exact AW Try.underlying33
  refine hE.go lP (by decide) rfl ?_
  have:=T8 hE hT (qI _) hlen hL (AK p) (.bool false) (Q:=Cy 0 (Gk (Qa E none (.seq (.ops Yk) .ret) (Ends Try.prog mq.results (fun r s'=>∃us O,Fc s.next s' r us v.trace O∧BG s.next s s'))) (Ends Try.prog mq.results (fun r s'=>∃us O,Fc s.next s' r us v.trace O∧BG s.next s s')))) ?_ v.trace 0 s (.slice none 0 (some 0)) [] [] BJ BJ rfl (qO _)
    ⟨by simpa using B8.nil s 2,by simpa using Bg.nil _ _,(fun u hu=>by cases hu),(fun j hj=>by cases hj)⟩ (BG.refl _ _)
  · simp only [AK,   mq,  Qa, Qj, Qm, Qw, Rc, Rf, Rg, Rh, Yc] at this
    simp only[mq,gO,gP,AK,q,gQ,AG,HU,h.ld_trc,hln,Qa,Qb,Qc,Qd,Qf,Qh,Qi,Qj,Qk,Ql,Qm,Qn,true_and,Qo,Qp,Qq,Qr,Qs,Qv,Qw,Qx,Rc,Rf,Rg,Rh,Yc]
    exact this
  · intro s' v' us' O' y2 y6 y7 h1 h2
    simp only[if_true,mq,Yk,Qa,Qb,Qc,Qd,Qf,Qh,Qj,Qk,Qm,Qn,true_and,Qo,Qp,Qq,Qr,Qs,Qw,Qy,Rb,Rc,Re,Rf,Rg,Rh,Yc]
    exact⟨us',O',h1,h2⟩
theorem Tx{E:BN}(hE:Good E){B:Nat→Prop}{s:AF}{V:Nat→Option Sv}(h:Cj B s V){p:Nat}{v:Sv}(hp:V p=some v)(hlen:v.trace.length≤1000000)(hL:∀x∈v.trace,x.2.length≤1000000):
  WF E 43 [AK p] (fun r s'=>∃us O,Fc s.next s' r us v.trace O∧BG s.next s s') s:=by
 obtain⟨ow,g1,g2⟩:=h
 obtain⟨x,hx⟩:=g1 p v hp
 exact T7 hE hx hlen hL
theorem IR(v:Sv)(k:Nat):(Ab v k).cl=v.cl∧(Ab v k).trace=v.trace∧(Ab v k).broken=v.broken:=by
 obtain⟨ph,va,wh,tr,li,hd,e,_⟩:=B5 v k
 rw[e]
 exact⟨rfl,rfl,rfl⟩
theorem B4.det{v:Sv}{c at_:Nat}{a r r':EC}{l:Int}(h:B4 v c a at_ l r)(k:B4 v c a at_ l r'):r=r':=by
 induction h with
 | last hc ha hs ho =>
  cases k with
  | last hc' ha' hs' ho' =>
   rw[hc]at hc'
   injection hc' with e
   injection e with e1 e2
   subst e1
   rw[ha]at ha'
   subst ha'
   rw[hs]at hs'
   injection hs' with e3
   subst e3
   rfl
  | more hc' ha' hs' ho' hw' hr' =>
   rw[hc]at hc'
   injection hc' with e
   injection e with e1 e2
   subst e1
   rw[ha]at ha'
   subst ha'
   omega
 | more hc ha hs ho hw hr ih =>
  cases k with
  | last hc' ha' hs' ho' =>
   rw[hc]at hc'
   injection hc' with e
   injection e with e1 e2
   subst e1
   rw[ha]at ha'
   subst ha'
   omega
  | more hc' ha' hs' ho' hw' hr' =>
   rw[hc]at hc'
   injection hc' with e
   injection e with e1 e2
   subst e1
   rw[ha]at ha'
   subst ha'
   rw[hs]at hs'
   injection hs' with e3
   subst e3
   rw[hw]at hw'
   injection hw' with e4
   subst e4
   exact ih hr'
theorem OW{n:Nat}{L:List Int}(h:A9 n L)(hn:(L.map Int.natAbs).Nodup):L.length≤n:=by
 have:=DG (l:=L.map Int.natAbs) (n:=n) hn fun x hx=>by
  obtain⟨y,hy,rfl⟩:=List.mem_map.1 hx
  obtain⟨h1,h2⟩:=h.1 y hy
  omega
 rw[qK]at this
 exact this
end
end Go.Proofs.Ytilhhmkdcoajnaa.Am
set_option linter.unusedVariables false
set_option linter.unusedSimpArgs false
namespace Go.Proofs.Ytilhhmkdcoajnaa.Am
open Go Go.Proofs
noncomputable section
inductive UP (cs:List (List Int)) (c:List Int):Int→Prop
 | ass {x:Int} (h:x∈c):UP cs c (-x)
 | unit {L:List Int} {x:Int} (h:L∈cs) (hx:x∈L) (hy:∀y∈L,y≠x→UP cs c (-y)):UP cs c x
def Ht(cs:List (List Int))(c:List Int):Prop:=(∃x∈c,-x∈c)∨∃L∈cs,∀y∈L,UP cs c (-y)
def FI(cs ds:List (List Int)):Prop:=∀L∈cs,∃M∈ds,∀x,x∈L↔x∈M
theorem UP.mono{cs ds:List (List Int)}{c d:List Int}(h:FI cs ds)(hc:∀x,x∈c→x∈d){x:Int}(k:UP cs c x):UP ds d x:=by
 induction k with
 | ass h1=>exact .ass (hc _ h1)
 | unit h1 h2 h3 ih =>
  obtain⟨M,q1,q2⟩:=h _ h1
  exact .unit q1 ((q2 _).1 h2) fun y hy hne=>ih y ((q2 y).2 hy) hne
theorem Ht.mono{cs ds:List (List Int)}{c d:List Int}(h:FI cs ds)(hc:∀x,x∈c→x∈d)(k:Ht cs c):Ht ds d:=by
 rcases k with⟨x,h1,h2⟩ | ⟨L,h1,h2⟩
 ·exact .inl ⟨x,hc _ h1,hc _ h2⟩
 ·obtain⟨M,q1,q2⟩:=h _ h1
  exact .inr ⟨M,q1,fun y hy=>(h2 y ((q2 y).2 hy)).mono h hc⟩
theorem FI.refl(cs:List (List Int)):FI cs cs:=fun L hL=>⟨L,hL,fun _=>Iff.rfl⟩
theorem FI.app{a b c d:List (List Int)}(h:FI a c)(k:FI b d):FI (a++b) (c++d):=fun L hL=>by
 rcases List.mem_append.1 hL with q | q
 ·obtain⟨M,h1,h2⟩:=h L q;exact⟨M,qW _ h1,h2⟩
 ·obtain⟨M,h1,h2⟩:=k L q;exact⟨M,ql _ h1,h2⟩
end
end Go.Proofs.Ytilhhmkdcoajnaa.Am
set_option linter.unusedVariables false
set_option linter.unusedSimpArgs false
set_option maxRecDepth 16000
namespace Go.Proofs.Ytilhhmkdcoajnaa.Am
open Go Go.Proofs
noncomputable section
def IG(cl:Nat→Option A6)(P:Int→Prop):Prop:=∀c ls b,cl c=some (ls,b)→(∃y∈ls,¬ P (-y))∧∀x∈ls,(∀y∈ls,y≠x→P (-y))→P x
theorem CT.zeroP {n : Nat} {v : Sv} (h : CT n v) {P : Int → Prop} (hP : IG      v.cl P) : ∀ (i : Nat) (x : Int), v.trail[i]? = some x → lv v x = 0 → P x := by
  intro i
  induction i using Nat.strongRecOn with
  | _ i ih =>
    intro x hx hl
    have hlev:=h.lev i x hx
    have hl0:HX v.limits i=0:=by
      have:lv v x=(HX v.limits i:Int):=hlev
      omega
    rcases h.why i x hx with⟨q1,q2⟩ | ⟨c,ls,b,q1,q2,q3,q4⟩
    · obtain⟨k,hk⟩:=CS.1 q2
      have:=MH h.sorted hk (rE _)
      omega
    · obtain⟨_,hne,_,_⟩:=h.cls c ls b q2
      have hmem:x∈ls:=by
        rw[← q3]
        exact qL (AR (List.length_pos_iff.2 hne))
      refine(hP c ls b q2).2 x hmem fun y hy e=>?_
      obtain⟨j,hj,ej⟩:=B6.1 (q4 y hy e)
      have hjl:lv v (-y)=0:=by
        have h1:lv v (-y)=(HX v.limits j:Int):=h.lev j _ ej
        have h2:=QB (L:=v.limits) (Nat.le_of_lt hj)
        omega
      exact ih j hj (-y) ej hjl
theorem Vk        {n : Nat} {v : Sv} (h : CT n v) {t : Int} (ht : v.limits[v.limits.length - 1]? = some t) {P : Int → Prop} (hP : IG      v.cl P) : ∀ (at_ : Nat) (c : Nat) (l : Int) (a : EC)  (ls : List Int) (b : Bool × Bool), at_ ≤ v.trail.length → LI v t.toNat a at_ → v.cl c = some (ls, b) → (∀ y ∈ rest l ls, ∃ j, j < at_ ∧ v.trail[j]? = some (-y)) → 1 ≤ ((rest l ls).foldl (BQ     v) a).opn →
    ((∃y∈rest l ls,¬ P (-y))∨(∃q∈a.lits,¬ P (-q))∨∃ (j:Nat) (x:Int),j<at_∧t.toNat≤j∧v.trail[j]? = some x∧x.natAbs∈a.seen∧¬ P x) →
    ∃r,B4 v c a at_ l r∧(¬ P (-r.hd)∨∃q∈r.lits,¬ P (-q)):=by
  intro at_
  induction at_ using Nat.strongRecOn with
  | _ at_ ih =>
  intro c l a ls b hat hL hc hr ho hpre
  obtain⟨f1,f2,f3,f4⟩:=hL.fold h ht (rest l ls) hr
  generalize ha:(rest l ls).foldl (BQ v) a=a' at *
  have hQ : (∃ q ∈ a'.lits, ¬ P (-q)) ∨ ∃ (j : Nat) (x : Int), j < at_ ∧ t.toNat ≤ j ∧ v.trail[j]? = some x ∧ x.natAbs ∈ a'.seen ∧ ¬ P x := by
    rcases hpre with⟨y,hy,hs⟩ | ⟨q,hq,hsq⟩ | ⟨j,x,j1,j2,j3,j4,j5⟩
    · obtain ⟨j, j1, j2⟩ := hr y hy
      obtain⟨hlast,hle,hge⟩:=h.last ht j2
      rw[Cb]at hlast hle hge
      rcases f3 y hy with z | z
      · exact(hs (h.zeroP hP j (-y) j2 (by rw[Cb];exact z))).elim
      · by_cases hd : lv v y = (v.limits.length : Int)
        · exact .inr ⟨j,-y,j1,hlast.1 hd,j2,by rw[qf];exact z,hs⟩
        · have:=f1.litsC (-y) (qL j2) (by rw[qf];exact z) (by rw[Cb];omega)
          rw[qw]at this
          exact .inl ⟨y,this,hs⟩
    · obtain⟨g1,g2,g3,g4⟩:=hL.lits q hq
      have:=f1.litsC (-q) g1 (by rw[qf];exact f2 _ g2) (by rw[Cb];exact g4)
      rw[qw]at this
      exact .inl ⟨q,this,hsq⟩
    · exact .inr ⟨j,x,j1,j2,j3,f2 _ j4,j5⟩
  have hcn:1≤cnt v.trail a'.seen t.toNat at_:=by have:=f1.opn;omega
  obtain⟨i,k1,k2,k3,k4,k5,k6⟩:=MY hat hcn
  have hil:i<v.trail.length:=by omega
  have hg:=AR (d:=(0:Int)) hil
  generalize hu:v.trail.getD i 0=u at *
  have hlu:lv v u=(v.limits.length:Int):=(h.last ht hg).1.2 k2
  have hQ':(∃q∈a'.lits,¬ P (-q))∨(∃ (j:Nat) (x:Int),j<i∧t.toNat≤j∧v.trail[j]? = some x∧x.natAbs∈a'.seen∧¬ P x)∨¬ P u:=by
    rcases hQ with q | ⟨j,x,j1,j2,j3,j4,j5⟩
    · exact .inl q
    · rcases rP                j i with z | z | z
      · exact .inr (.inl ⟨j,x,z,j2,j3,j4,j5⟩)
      · subst z
        rw[hg]at j3
        injection j3 with j3
        rw[j3]
        exact .inr (.inr j5)
      · exact absurd j4 (by have:=k6 j z j1;rw[E3 j3]at this;exact this)
  by_cases h1:a'.opn=1
  · have hci:cnt v.trail a'.seen t.toNat i=0:=by have:=f1.opn;omega
    refine⟨{ a' with opn:=0,hd:=-u },?_,?_⟩
    · have:=B4.last (v:=v) (at_:=at_) hc ha k1 h1
      rw[hu]at this
      exact this
    · rcases hQ' with q | ⟨j, x, j1, j2, j3, j4, j5⟩ | q
      · exact .inr q
      · exact absurd j4 (Lc hci j1 j2 j3)
      · left
        show ¬ P (- -u)
        rw[qw]
        exact q
  · have hci : 1 ≤ cnt v.trail a'.seen t.toNat i := by have := f1.opn; omega
    have hmi:t.toNat<i:=by
      rcases qN t.toNat i with z | z
      · exact z
      · rw[NI _ _ z]at hci;omega
    have hil':(i:Int) ∉ v.limits:=fun q=>by
      obtain⟨p,hp⟩:=CS.1 q
      have hpl:=Ag hp
      have ht0:=h.lim t (qL ht)
      by_cases e:p=v.limits.length - 1
      · rw[e,ht]at hp
        injection hp with hp
        omega
      · have:=(CP h.sorted ht).1 (i:Int) (B6.2 ⟨p,by omega,hp⟩)
        omega
    rcases h.why i u hg with⟨_,q⟩ | ⟨c',ls',b',w1,w2,w3,w4⟩
    · exact absurd q hil'
    · have hL2 : LI v t.toNat { a' with opn := a'.opn - 1 } i := ⟨f1.seenA, f1.nd, f1.lits, f1.litsC, f1.litsnd, by show a'.opn - 1 = (cnt v.trail a'.seen t.toNat i : Int); have := f1.opn; omega, f1.lev⟩
      have hr2:∀y∈rest u ls',∃j,j<i∧v.trail[j]? = some (-y):=fun y hy=>by
        obtain⟨y1,y2⟩:=DU.1 hy
        exact B6.1 (w4 y y1 y2)
      obtain⟨g1,g2,g3,g4⟩:=hL2.fold h ht (rest u ls') hr2
      have hop2:1≤((rest u ls').foldl (BQ v) { a' with opn:=a'.opn - 1 }).opn:=by
        have e1:=g1.opn
        have e2:=Pl (tr:=v.trail) (seen:=a'.seen) (seen':=((rest u ls').foldl (BQ v) { a' with opn:=a'.opn - 1 }).seen) g2 t.toNat i
        omega
      obtain⟨_,hne,_,_⟩:=h.cls c' ls' b' w2
      have humem:u∈ls':=by
        rw[← w3]
        exact qL (AR (List.length_pos_iff.2 hne))
      obtain⟨r,r1,r2⟩:=ih i k3 c' u { a' with opn:=a'.opn - 1 } ls' b' (by omega) hL2 w2 hr2 hop2 (by
        rcases hQ' with q | q | q
        · exact .inr (.inl q)
        · exact .inr (.inr q)
        · left
          apply Classical.byContradiction
          intro hno
          refine q ((hP c' ls' b' w2).2 u humem fun y hy hyu=>?_)
          apply Classical.byContradiction
          intro hyP
          exact hno ⟨y,DU.2 ⟨hy,hyu⟩,hyP⟩)
      refine⟨r,?_,r2⟩
      have hw:v.why.getD (v.trail.getD i 0).natAbs none=some c':=by rw[hu];exact w1
      have:=B4.more (v:=v) (at_:=at_) (r:=r) hc ha k1 (by omega) hw
      rw[hu]at this
      exact this r1
theorem Oo{n:Nat}{v:Sv}(h:CT n v)(hlim:v.limits≠[]){c:Nat}{l:Int}(hf:Fy v c l)(hl:lv v l=(v.limits.length:Int)){P:Int→Prop}(hP:IG v.cl P){r:EC}(hr:B4 v c Gi v.trail.length 0 r):¬ P (-r.hd)∨∃q∈r.lits,¬ P (-q):=by
 obtain⟨ls,b,hc,h2,hfalse,hmem⟩:=hf
 have hpos:0<v.limits.length:=List.length_pos_iff.2 hlim
 have ht:=AR (d:=(0:Int)) (show v.limits.length - 1<v.limits.length by omega)
 generalize v.limits.getD (v.limits.length - 1) 0=t at ht
 have hrr:∀y∈rest 0 ls,∃j,j<v.trail.length∧v.trail[j]? = some (-y):=fun y hy=>by
  obtain⟨j,hj⟩:=CS.1 (hfalse y (DU.1 hy).1)
  exact⟨j,Ag hj,hj⟩
 have hL0:LI v t.toNat Gi v.trail.length:=LI.start
 obtain⟨f1,f2,f3,f4⟩:=hL0.fold h ht (rest 0 ls) hrr
 have hls:=(h.cls c ls b hc).1.1
 have hl0:l≠0:=(hls l hmem).1
 obtain⟨r',r1,r2⟩:=Vk h ht hP v.trail.length c 0 Gi ls b (qI _) hL0 hc hrr (by
  have hlr:l∈rest 0 ls:=DU.2 ⟨hmem,hl0⟩
  obtain⟨j,j1,j2⟩:=hrr l hlr
  have hm:=(h.last ht j2).1.1 (by rw[Cb];exact hl)
  rcases f3 l hlr with z | z
  ·omega
  ·have:=Uh j1 hm j2 (by rw[qf];exact z)
   rw[f1.opn]
   omega) (.inl (by
  obtain⟨y,hy,hyP⟩:=(hP c ls b hc).1
  exact⟨y,DU.2 ⟨hy,(hls y hy).1⟩,hyP⟩))
 rw[hr.det r1]
 exact r2
theorem JZ{cl:Nat→Option A6}{cs:List (List Int)}{c:List Int}(hs:∀d ls b,cl d=some (ls,b)→∃M∈cs,∀x,x∈ls↔x∈M)(hno:¬ Ht cs c):IG cl (UP cs c):=fun d ls b hd=>by
 obtain⟨M,h1,h2⟩:=hs d ls b hd
 refine⟨?_,fun x hx hy=>.unit h1 ((h2 x).1 hx) fun y hy' hne=>hy y ((h2 y).2 hy') hne⟩
 apply Classical.byContradiction
 intro hn
 refine hno (.inr ⟨M,h1,fun y hy=>?_⟩)
 apply Classical.byContradiction
 intro hyn
 exact hn ⟨y,(h2 y).2 hy,hyn⟩
def BF(cl:Nat→Option A6)(c:Nat):Bool:=match cl c with
 | some l=>!l.2.2
 | none=>true
def BE(cl:Nat→Option A6)(c:Nat):Option A6:=match cl c with
 | some l=>if l.2.2=true then none else some l
 | none=>none
def DK(cl:Nat→Option A6)(W:List (List Nat)):List (List Nat):=W.map fun L=>L.filter (BF cl)
def hide(v:Sv):Sv:={ v with cl:=BE v.cl,watches:=DK v.cl v.watches }
theorem E7{cl:Nat→Option A6}{c:Nat}{ls:List Int}{b:Bool×Bool}(h:BE cl c=some (ls,b)):cl c=some (ls,b)∧b.2=false:=by
 unfold BE at h
 cases hc:cl c with
 | none=>rw[hc]at h;cases h
 | some l =>
  rw[hc]at h
  dsimp only at h
  split at h
  ·cases h
  ·rename_i hb
   injection h with h
   subst h
   exact⟨rfl,by simpa using hb⟩
theorem Cq{cl:Nat→Option A6}{c:Nat}{ls:List Int}{b:Bool×Bool}(h:cl c=some (ls,b))(hb:b.2=false):BE cl c=some (ls,b):=by
 unfold BE
 rw[h]
 dsimp only
 rw[if_neg (by rw[hb];decide)]
theorem Dl{cl:Nat→Option A6}{c:Nat}(h:cl c=none):BE cl c=none:=by
 unfold BE
 rw[h]
theorem Jh{cl:Nat→Option A6}(c:Nat)(L:List Int){b:Bool×Bool}(hb:b.2=false):BE (AP cl c (L,b))=AP (BE cl) c (L,b):=by
 funext d
 unfold BE AP
 by_cases e:d=c
 ·rw[if_pos e,if_pos e]
  dsimp only
  rw[if_neg (by rw[hb];decide)]
 ·rw[if_neg e,if_neg e]
theorem Jo{cl:Nat→Option A6}{c:Nat}(L:List Int){b:Bool×Bool}(hb:b.2=false)(hc:BF cl c=true):BF (AP cl c (L,b))=BF cl:=by
 funext d
 by_cases e:d=c
 ·subst e
  rw[hc]
  unfold BF
  rw[Ao]
  dsimp only
  rw[hb];rfl
 ·unfold BF AP
  rw[if_neg e]
theorem In{cl:Nat→Option A6}{c:Nat}{ls:List Int}{b:Bool×Bool}(h:cl c=some (ls,b)):BF cl c=!b.2:=by
 unfold BF
 rw[h]
theorem MC{cl:Nat→Option A6}{c:Nat}(h:cl c=none):BF cl c=true:=by
 unfold BF
 rw[h]
theorem FQ(cl:Nat→Option A6)(W:List (List Nat))(k:Nat):(DK cl W).getD k []=(W.getD k []).filter (BF cl):=by
 unfold DK
 rw[qe,qe,qs]
 cases W[k]?<;>rfl
theorem HW(cl:Nat→Option A6)(W:List (List Nat))(k:Nat)(M:List Nat):DK cl (W.set k M)=(DK cl W).set k (M.filter (BF cl)):=by
 unfold DK
 rw[rD]
theorem Va{cl:Nat→Option A6}{c:Nat}(hc:BF cl c=true)(W:List (List Nat))(k:Nat):DK cl (Cx W k c)=Cx (DK cl W) k c:=by
 unfold Cx
 rw[HW,FQ,List.filter_append]
 congr 1
 simp[hc]
theorem aq{cl cl':Nat→Option A6}(h:BF cl'=BF cl)(W:List (List Nat)):DK cl' W=DK cl W:=by
 unfold DK
 rw[h]
theorem L6{v:Sv}{c:Nat}(L:List Int){b:Bool×Bool}(hb:b.2=false)(hc:BF v.cl c=true):hide { v with cl:=AP v.cl c (L,b) }={ hide v with cl:=AP (BE v.cl) c (L,b) }:=by
 unfold hide
 dsimp only
 rw[Jh c L hb,aq (Jo L hb hc)]
theorem Jk{v:Sv}{c:Nat}(hc:BF v.cl c=true)(k:Nat):hide { v with watches:=Cx v.watches k c }={ hide v with watches:=Cx (hide v).watches k c }:=by
 unfold hide
 dsimp only
 rw[Va hc]
theorem KF(v:Sv)(l:Int)(w:Option Nat):hide (BR v l w)=BR (hide v) l w:=rfl
def HL(w:Sv)(c:Nat)(ls:List Int)(b:Bool×Bool):Bool×Bool×Sv:=
 if 0<isV w.value (ls.getD 0 0)then (true,false,w)else
 match Cg w.value (ls.drop 2) 2 with
 | some i=>(false,false,Cv w c ls b i)
 | none=>if isV w.value (ls.getD 0 0)<0 then (true,true,w)else (true,false,BR w (ls.getD 0 0) (some c))
theorem Mj{v:Sv}{c:Nat}{l:Int}{ls:List Int}{b:Bool×Bool}(hb:b.2=false):AZ v c l ls b=HL { v with cl:=AP v.cl c (if ls.getD 0 0=l then Ap ls 0 1 else ls,b) } c (if ls.getD 0 0=l then Ap ls 0 1 else ls) b:=by
 unfold AZ
 rw[if_neg (by rw[hb];decide)]
 rfl
theorem Py          {w : Sv} {c : Nat} {ls : List Int} {b : Bool × Bool} (hb : b.2 = false) (hl : BF    w.cl c = true) :
    HL (hide w) c ls b=((HL w c ls b).1,(HL w c ls b).2.1,hide (HL w c ls b).2.2)∧BF (HL w c ls b).2.2.cl=BF w.cl:=by
  unfold HL
  have hva:(hide w).value=w.value:=rfl
  rw[hva]
  by_cases hp:0<isV w.value (ls.getD 0 0)
  · rw[if_pos hp,if_pos hp]
    exact⟨rfl,rfl⟩
  · rw[if_neg hp,if_neg hp]
    cases hm:Cg w.value (ls.drop 2) 2 with
    | some i =>
      dsimp only
      have e2:BF (AP w.cl c (Ap ls 1 i,b))=BF w.cl:=Jo _ hb hl
      refine⟨?_,e2⟩
      refine congrArg (Prod.mk false) (congrArg (Prod.mk false) ?_)
      unfold Cv
      have h3:=Jk (v:={ w with cl:=AP w.cl c (Ap ls 1 i,b) }) (c:=c) (by rw[e2];exact hl) (place (ls.getD i 0))
      refine Eq.trans ?_ h3.symm
      have h2:=L6 (v:=w) (Ap ls 1 i) hb hl
      have h2':hide { w with cl:=AP w.cl c (Ap ls 1 i,b),watches:=w.watches }=_:=h2
      rw[h2']
      rfl
    | none =>
      dsimp only
      by_cases hn:isV w.value (ls.getD 0 0)<0
      · rw[if_pos hn,if_pos hn]
        exact⟨rfl,rfl⟩
      · rw[if_neg hn,if_neg hn]
        exact⟨rfl,rfl⟩
theorem TW{v:Sv}{c:Nat}{l:Int}{ls:List Int}{b:Bool×Bool}(hc:v.cl c=some (ls,b))(hb:b.2=false):
  AZ (hide v) c l ls b=((AZ v c l ls b).1,(AZ v c l ls b).2.1,hide (AZ v c l ls b).2.2)∧BF (AZ v c l ls b).2.2.cl=BF v.cl:=by
 have hl:BF v.cl c=true:=by rw[In hc,hb];rfl
 rw[Mj hb,Mj hb]
 generalize (if ls.getD 0 0=l then Ap ls 0 1 else ls)=ls1
 have h1:=L6 (v:=v) ls1 hb hl
 have l1:=Jo (cl:=v.cl) ls1 hb hl
 obtain⟨q1,q2⟩:=Py (w:={ v with cl:=AP v.cl c (ls1,b) }) (ls:=ls1) hb (by rw[l1];exact hl)
 rw[h1]at q1
 exact⟨q1,q2.trans l1⟩
theorem L4{v:Sv}{c:Nat}{l:Int}{ls:List Int}{b:Bool×Bool}(hb:b.2=true):AZ v c l ls b=(false,false,v):=by
 unfold AZ
 rw[if_pos hb]
theorem Oh      (l : Int) : ∀ (L K : List Nat) (v : Sv), A1     l (L.filter (BF    v.cl)) (K.filter (BF    v.cl)) (hide v) = ((A1     l L K v).1.filter (BF    v.cl), (A1     l L K v).2.1, hide (A1     l L K v).2.2) ∧ BF    (A1     l L K v).2.2.cl = BF    v.cl
  | [],K,v=>⟨rfl,rfl⟩
  | c :: L, K, v => by
    cases hc:v.cl c with
    | none =>
      rw[List.filter_cons_of_pos (MC hc)]
      have h1:(hide v).cl c=none:=Dl hc
      unfold A1
      rw[h1,hc]
      exact⟨rfl,rfl⟩
    | some lb =>
      obtain⟨ls,b⟩:=lb
      cases hb:b.2 with
      | true =>
        have hl:BF v.cl c=false:=by rw[In hc,hb];rfl
        rw[List.filter_cons_of_neg (by rw[hl];decide)]
        have e:A1 l (c::L) K v=A1 l L K v:=by
          rw[A1,hc]
          dsimp only
          rw[L4 hb]
          rfl
        rw[e]
        exact Oh l L K v
      | false =>
        have hl:BF v.cl c=true:=by rw[In hc,hb];rfl
        rw[List.filter_cons_of_pos hl]
        obtain⟨t1,t2⟩:=TW (l:=l) hc hb
        have h1:(hide v).cl c=some (ls,b):=Cq hc hb
        rw[A1,h1]
        rw[A1,hc]
        dsimp only
        rw[t1]
        generalize AZ v c l ls b=r at t2 ⊢
        obtain⟨a,f,w⟩:=r
        dsimp only at t2 ⊢
        have hK:(if a=true then K.filter (BF v.cl)++[c]else K.filter (BF v.cl))=(if a=true then K++[c]else K).filter (BF w.cl):=by
          rw[t2]
          split
          · rw[List.filter_append];simp[hl]
          · rfl
        rw[hK]
        generalize (if a=true then K++[c]else K)=K'
        rw[← t2]
        by_cases hf:f=true
        · rw[if_pos hf,if_pos hf]
          exact⟨by rw[List.filter_append],rfl⟩
        · rw[if_neg hf,if_neg hf]
          exact Oh l L K' w
theorem NW(v:Sv):A5 (hide v)=((A5 v).1,hide (A5 v).2)∧BF (A5 v).2.cl=BF v.cl:=by
 unfold A5
 have ht:(hide v).trail=v.trail:=rfl
 have hh:(hide v).head=v.head:=rfl
 have hw:(hide v).watches=DK v.cl v.watches:=rfl
 rw[ht,hh,hw,FQ]
 generalize -(v.trail.getD v.head.toNat 0)=y
 have hA:B3 (hide v) (place y)=hide (B3 v (place y)):=by
  unfold B3 hide
  dsimp only
  rw[HW]
  rfl
 have hAc:(B3 v (place y)).cl=v.cl:=rfl
 obtain⟨q1,q2⟩:=Oh y (v.watches.getD (place y) []) [] (B3 v (place y))
 rw[hAc]at q1 q2
 rw[hA]
 have q1':A1 y (List.filter (BF v.cl) (v.watches.getD (place y) [])) [] (hide (B3 v (place y)))=_:=q1
 rw[q1']
 generalize A1 y (v.watches.getD (place y) []) [] (B3 v (place y))=r at q2 ⊢
 obtain⟨K,bad,w⟩:=r
 dsimp only at q2 ⊢
 unfold MR
 dsimp only
 cases bad with
 | none =>
  refine⟨?_,q2⟩
  refine congrArg (Prod.mk none) ?_
  unfold setW hide
  dsimp only
  rw[HW,q2]
 | some d =>
  refine⟨?_,q2⟩
  refine congrArg (Prod.mk (some d)) ?_
  unfold setW hide
  dsimp only
  rw[HW,q2]
theorem Ve{v v':Sv}{r:Option Nat}(h:B9 v r v'):B9 (hide v) r (hide v'):=by
 induction h with
 | done h=>exact .done h
 | more h1 h2 _ ih =>
  rename_i v v1 v' r _
  refine .more (v:=hide v) (v1:=hide v1) h1 ?_ ih
  rw[(NW v).1,h2]
 | bad h1 h2 =>
  rename_i v v1 c
  refine .bad (v:=hide v) (v1:=hide v1) h1 ?_
  rw[(NW v).1,h2]
theorem TV{v:Sv}{c at_:Nat}{a r:EC}{l:Int}(h:B4 (hide v) c a at_ l r):B4 v c a at_ l r:=by
 induction h with
 | last hc ha hs ho=>exact .last (E7 hc).1 ha hs ho
 | more hc ha hs ho hw hr ih=>exact .more (E7 hc).1 ha hs ho hw ih
theorem NX:∀ (L:List Int)(v:Sv),L.foldl C7 (hide v)=hide (L.foldl C7 v)
 | [],v=>rfl
 | x::L,v=>NX L (C7 v x)
theorem Ji(v:Sv)(k:Nat):Ab (hide v) k=hide (Ab v k):=by
 unfold Ab
 have hl:(hide v).limits=v.limits:=rfl
 rw[hl]
 split
 ·rfl
 ·unfold Gu
  have ht:(hide v).trail=v.trail:=rfl
  rw[ht,hl,NX]
  rfl
theorem L5{v:Sv}{c:Nat}(L:List Int){b:Bool×Bool}(hb:b.2=false)(hc:v.cl c=none):hide (Es v c (L,b))=Es (hide v) c (L,b):=
 L6 L hb (MC hc)
theorem L7{v:Sv}{c:Nat}(hc:BF v.cl c=true)(a b:Int):hide (IE v c a b)=IE (hide v) c a b:=by
 unfold IE setW
 have h1:=Jk (v:={ v with watches:=Cx v.watches (place a) c }) hc (place b)
 refine h1.trans ?_
 rw[Jk hc (place a)]
theorem Vc{v:Sv}{c:Nat}(hc:v.cl c=none)(L:List Int):hide (A8 v c L)=A8 (hide v) c L:=by
 unfold A8
 dsimp only
 rw[KF]
 refine congrArg (fun z=>BR z (L.getD 0 0) (some c)) ?_
 have h1:hide (Es { v with trace:=v.trace++[(false,L)] } c (L,true,false))=Es (hide { v with trace:=v.trace++[(false,L)] }) c (L,true,false):=L5 (v:={ v with trace:=v.trace++[(false,L)] }) (b:=(true,false)) L rfl hc
 split
 ·have hl:BF (Es { v with trace:=v.trace++[(false,L)] } c (L,true,false)).cl c=true:=by
   show BF (AP _ c _) c=true
   unfold BF
   rw[Ao];rfl
  have h2:=L7 hl (L.getD 0 0) (L.getD 1 0)
  rw[h1]at h2
  have h3:∀ (w:Sv) (d:List Nat),hide { w with learned:=d }={ hide w with learned:=d }:=fun _ _=>rfl
  rw[h3,h2]
  rfl
 ·rw[h1];rfl
theorem NV(v:Sv):hide (C3 v)=C3 (hide v):=by
 unfold C3
 show hide (if v.broken=true then _ else _)=if v.broken=true then _ else _
 split<;>rfl
theorem Jj{v:Sv}{c:Nat}(hc:v.cl c=none)(O:List Int):hide (Fa v c O)=Fa (hide v) c O:=by
 unfold Fa
 have h1:=L5 (v:=v) (b:=(false,false)) O rfl hc
 split
 ·have hl:BF (Es v c (O,false,false)).cl c=true:=by
   show BF (AP _ c _) c=true
   unfold BF
   rw[Ao];rfl
  rw[L7 hl,h1]
 ·exact h1
theorem Vb{v:Sv}{c:Nat}(hc:v.cl c=none)(O:List Int):hide (JI v c O)=JI (hide v) c O:=by
  unfold JI
  have hv:(hide v).value=v.value:=rfl
  rw[hv]
  split
  · rw[NV,Jj hc]
  · split
    · rw[KF,Jj hc]
    · exact Jj hc O
theorem ar{v v':Sv}{L:List Int}(h:JC v L v'):JC (hide v) L (hide v'):=by
 cases h with
 | none h=>exact .none h
 | nil h hb he=>rw[NV];exact .nil h hb he
 | put h hb he hc =>
  rw[Vb hc]
  exact .put h hb he (Dl hc)
structure RP(v v':Sv):Prop where
 gone:∀c ls b,v'.cl c=some (ls,b)→b.2=true→v.cl c=some (ls,b)
 nn:∀c,v.cl c≠none→v'.cl c≠none
 why:∀d,some d∈v'.why→some d∈v.why∨v'.cl d≠none
theorem RP.refl(v:Sv):RP v v:=⟨fun _ _ _ h _=>h,fun _ h=>h,fun _ h=>.inl h⟩
theorem RP.trans{a b c:Sv}(h:RP a b)(k:RP b c):RP a c:=
 ⟨fun d ls t q hb=>h.gone d ls t (k.gone d ls t q hb) hb,fun d q=>k.nn d (h.nn d q),fun d q=>by
  rcases k.why d q with z | z
  ·exact(h.why d z).imp id (k.nn d)
  ·exact .inr z⟩
theorem RP.of{v v' w w':Sv}(h:RP v v')(h1:w.cl=v.cl)(h2:w.why=v.why)(h3:w'.cl=v'.cl)(h4:w'.why=v'.why):RP w w':=
 ⟨by rw[h1,h3];exact h.gone,by rw[h1,h3];exact h.nn,by rw[h2,h3,h4];exact h.why⟩
theorem D5{α:Type}{L:List (Option α)}{i:Nat}{u:Option α}{d:α}(h:some d∈L.set i u):some d∈L∨u=some d:=by
 rcases rT h with q | q
 ·exact .inl q
 ·exact .inr q.symm
theorem bv{v:Sv}{c:Nat}{ls:List Int}{b:Bool×Bool}(ls':List Int)(hc:v.cl c=some (ls,b))(hb:b.2=false):RP v { v with cl:=AP v.cl c (ls',b) }:=by
 refine⟨fun d ms t q ht=>?_,fun d q=>?_,fun d q=>.inl q⟩
 ·have q:AP v.cl c (ls',b) d=some (ms,t):=q
  rcases Bj q with⟨_,_,e⟩ | ⟨_,q2⟩
  ·rw[e,hb]at ht;cases ht
  ·exact q2
 ·show AP v.cl c (ls',b) d≠none
  unfold AP
  split
  ·intro e;cases e
  ·exact q
theorem bw       {v : Sv} {c : Nat} {l : Int} {ls : List Int} {b : Bool × Bool} (hc : v.cl c = some (ls, b)) : RP v (AZ     v c l ls b).2.2 := by
  cases hb:b.2 with
  | true=>rw[L4 hb];exact RP.refl v
  | false =>
    rw[Mj hb]
    generalize (if ls.getD 0 0=l then Ap ls 0 1 else ls)=ls1
    have h1:=bv (v:=v) ls1 hc hb
    have hc1:({ v with cl:=AP v.cl c (ls1,b) }:Sv).cl c=some (ls1,b):=Ao _ _ _
    refine h1.trans ?_
    generalize ({ v with cl:=AP v.cl c (ls1,b) }:Sv)=w at hc1 ⊢
    unfold HL
    split
    · exact RP.refl w
    · split
      · rename_i i _
        exact(bv (v:=w) (Ap ls1 1 i) hc1 hb).of rfl rfl rfl rfl
      · split
        · exact RP.refl w
        · refine ⟨fun d ms t q _ => q, fun d q => q, fun d q => ?_⟩
          rcases D5 q with z | z
          · exact .inl z
          · right
            injection z with z
            rw[← z]
            show w.cl c≠none
            rw[hc1];exact fun e=>by cases e
theorem kN(l:Int):∀ (L K:List Nat)(v:Sv),RP v (A1 l L K v).2.2
 | [],K,v=>RP.refl v
 | c::L,K,v=>by
  unfold A1
  cases hc:v.cl c with
  | none=>exact RP.refl v
  | some lb =>
   obtain⟨ls,b⟩:=lb
   dsimp only
   have ht:=bw (l:=l) hc
   split
   ·exact ht
   ·exact ht.trans (kN l L _ _)
theorem U5(v:Sv):RP v (A5 v).2:=by
 unfold A5 MR
 generalize -(v.trail.getD v.head.toNat 0)=y
 have h:=kN y (v.watches.getD (place y) []) [] (B3 v (place y))
 generalize A1 y (v.watches.getD (place y) []) [] (B3 v (place y))=r at h ⊢
 obtain⟨K,bad,w⟩:=r
 cases bad with
 | none=>exact h.of rfl rfl rfl rfl
 | some d=>exact h.of rfl rfl rfl rfl
theorem B9.rp{v v':Sv}{r:Option Nat}(h:B9 v r v'):RP v v':=by
 induction h with
 | done h=>exact RP.refl _
 | more h1 h2 _ ih =>
  rename_i v v1 v' r _
  have:=U5 v
  rw[h2]at this
  exact this.trans ih
 | bad h1 h2 =>
  rename_i v v1 c
  have:=U5 v
  rw[h2]at this
  exact this
theorem Nz:∀ (L:List Int)(v:Sv)(d:Nat),some d∈(L.foldl C7 v).why→some d∈v.why
 | [],v,d,h=>h
 | x::L,v,d,h=>by
  rcases D5 (Nz L (C7 v x) d h)with z | z
  ·exact z
  ·cases z
theorem PR{v:Sv}{k d:Nat}(h:some d∈(Ab v k).why):some d∈v.why:=by
 unfold Ab at h
 split at h
 ·exact h
 ·exact Nz _ _ _ h
theorem A7.hide{n:Nat}{v:Sv}(h:A7 n v):A7 n (Go.Proofs.Ytilhhmkdcoajnaa.Am.hide v):=by
 obtain⟨⟨hz,hv,hli,hlm⟩,g2,g3,g4,g5⟩:=h
 refine⟨⟨⟨hz.small,by show(DK _ _).length=_;unfold DK;rw[qK];exact hz.w,hz.value,hz.level,hz.why,hz.heat,hz.phase,hz.trail,hz.limits⟩,hv,hli,hlm⟩,g2,g3,g4,fun L hL c hc=>?_⟩
 obtain⟨M,hM,rfl⟩:=List.mem_map.1 hL
 obtain⟨q1,q2⟩:=List.mem_filter.1 hc
 obtain⟨ls,b,r1,r2,r3⟩:=g5 M hM c q1
 rw[In r1]at q2
 exact⟨ls,b,Cq r1 (by simpa using q2),r2,r3⟩
theorem Mi(f:Nat→Bool):∀W:List (List Nat),CV (W.map fun L=>L.filter f)≤CV W
 | []=>qI _
 | L::W=>by
  have h1:=Mi f W
  have h2:=List.length_filter_le f L
  show(L.filter f).length+CV (W.map fun L=>L.filter f)≤L.length+CV W
  omega
theorem cN(v:Sv):CV (hide v).watches≤CV v.watches:=Mi _ _
theorem CI.sub{n h:Nat}{F:List (List Int)}{v v':Sv}(k:CI n F h v)(hi:A7 n v')(h1:v'.trail=v.trail)(h2:v'.limits=v.limits)(h3:v'.level=v.level)(h4:v'.why=v.why)(h7:v'.phase=v.phase)
    (hcl:∀c l,v'.cl c=some l→v.cl c=some l) (hw1:∀k c,c∈v'.watches.getD k []→c∈v.watches.getD k []) (hw2:∀k c l,c∈v.watches.getD k []→v'.cl c=some l→c∈v'.watches.getD k []) (hnd:∀k,(v'.watches.getD k []).Nodup)
    (hr:∀ (i:Nat) (x:Int) c ls b,v.trail[i]? = some x→v.why.getD x.natAbs none=some c→v.cl c=some (ls,b)→ls.getD 0 0=x→v'.cl c=some (ls,b)) (hcov:∀f∈F,(∃y∈f,-y∈f)∨∃c ls b,v'.cl c=some (ls,b)∧∀y∈ls,y∈f):CI n F h v':=by
  refine⟨⟨hi,by rw[h2];exact k.ct.sorted,by rw[h1,h2];exact k.ct.below,by rw[h1,h2,h3];exact k.ct.lev,fun i x hx=>?_,fun c ls b hc=>k.ct.cls c ls b (hcl c _ hc)⟩,⟨fun c ls b hc hl=>?_,fun j c ls b hj hc=>k.cw.wcl j c ls b (hw1 j c hj) (hcl c _ hc),hnd,fun c ls b hc hl=>?_⟩,by rw[h1];exact k.hb,by rw[h2];exact k.lh,fun c ls b hc hl=>?_,fun j t ht c ls b hc=>?_,fun σ hσ c ls b hc=>k.imp σ hσ c ls b (hcl c _ hc),hcov,by unfold DX;rw[h7];exact k.phase⟩
  · rw [h1] at hx
    rw[h4,h2,h1]
    rcases k.ct.why i x hx with q | ⟨c,ls,b,q1,q2,q3,q4⟩
    · exact .inl q
    · exact .inr ⟨c,ls,b,q1,hr i x c ls b hx q1 q2 q3,q3,q4⟩
  · obtain⟨w1,w2⟩:=k.cw.wat c ls b (hcl c _ hc) hl
    exact⟨hw2 _ c _ w1 hc,hw2 _ c _ w2 hc⟩
  · have:=k.cw.wok c ls b (hcl c _ hc) hl
    unfold HP lv
    rw[h1,h3]
    exact this
  · have:=k.unit c ls b (hcl c _ hc) hl
    unfold lv
    rw[h1,h3]
    exact this
  · rw [h2] at ht
    rw[h1]
    exact k.i7 j t ht c ls b (hcl c _ hc)
end
end Go.Proofs.Ytilhhmkdcoajnaa.Am
set_option linter.unusedVariables false
set_option linter.unusedSimpArgs false
namespace Go.Proofs.Ytilhhmkdcoajnaa.Am
open Go Go.Proofs
noncomputable section
def jw:List AA:=[
 ⟨none,.p1 some,[(.const (.slice none 0 (some 0)))],(.set 2),[]⟩]
def jx:List AA:=[
 ⟨none,.call 112,[.var 0,.var 1],.push,[]⟩,
 ⟨none,.p1 some,[.loc 0],(.set 3),[]⟩]
def aD:List AA:=[
 ⟨none,.p2 (AL Try.prog .eql 3),[(.var 3),(.const (.int .i64 (-1)))],(.set 6),[]⟩]
def jy:List AA:=[
 ⟨none,.p1 some,[.var 0],(.set 2),[]⟩]
def jz:List AA:=[
 ⟨none,.p2 (AL Try.prog .add 3),[(.var 3),(.const (.int .i64 (1)))],.push,[]⟩,
 ⟨none,.p1 some,[.loc 0],(.set 4),[]⟩]
def aE:List AA:=[
 ⟨none,.r (fun s l=>match l with | [x]=>Aq Try.prog s 89 x | _=>none),[.var 0],.push,[]⟩,
 ⟨none,.p2 (AL Try.prog .lss 3),[.var 4,.loc 0],(.set 7),[]⟩]
def j0:List AA:=[
 ⟨none,.p2 (AC Try.prog 89),[.var 0,.var 4],.push,[]⟩,
 ⟨none,.r1 (fun s a=>AD Try.prog s 92 a),[.loc 0],.push,[]⟩,
 ⟨none,.p1 some,[.loc 0],(.set 5),[]⟩]
def j6:List AA:=[
 ⟨none,.callv,[.var 1,.var 5],.push,[]⟩,
 ⟨none,.p1 (GZ Try.prog Go.UnOp.not),[.loc 0],(.set 8),[]⟩]
def j7:List AA:=[
 ⟨none,.p2 (AC Try.prog 89),[.var 0,.var 3],.push,[]⟩,
 ⟨none,.e (fun s=>BV (fun a x=>AU (AM Try.prog s 92 a x))),[.loc 0,.var 5],.push,[]⟩]
def j8:List AA:=[
 ⟨none,.p1 some,[.var 3],.push,[]⟩,
 ⟨none,.p2 (AL Try.prog .add 3),[(.loc 0),(.const (.int .i64 (1)))],.push,[]⟩,
 ⟨none,.p1 some,[.loc 0],(.set 3),[]⟩]
def TH:List AA:=[
 ⟨none,.p1 some,[.var 4],.push,[]⟩,
 ⟨none,.p2 (AL Try.prog .add 3),[(.loc 0),(.const (.int .i64 (1)))],.push,[]⟩,
 ⟨none,.p1 some,[.loc 0],(.set 4),[]⟩]
def LX:Ac:=(.seq (.seq (.ops aE) (.cond (.var 7)
 .skip
 (.exit 0))) (.seq (.block 1 (.seq (.ops j0) (.seq (.ops j6) (.cond (.var 8)
 (.seq (.ops j7) (.ops j8))
 .skip)))) (.ops TH)))
def aB:List AA:=[
 ⟨none,.r (Ad Try.prog 89 true false false),[.var 0,.var 3],.push,[]⟩,
 ⟨none,.e (fun s l=>Dj Try.prog s [89] l),[.loc 0],.push,[]⟩]
def aC:List AA:=[
 ⟨none,.r (Ad Try.prog 89 false true false),[.var 0,.var 3],.push,[]⟩,
 ⟨none,.p1 some,[.loc 0],(.set 2),[]⟩]
def qE:Aw:=⟨2,9,(.seq (.ops jw) (.seq (.ops jx) (.seq (.seq (.ops aD) (.cond (.var 6)
 (.seq (.ops jy) .ret)
 .skip)) (.seq (.seq (.ops jz) (.block 0 (.loop LX))) (.seq (.ops aB) (.seq (.ops aC) .ret)))))),[((.var 2),none)]⟩
def j9:List AA:=[
 ⟨none,.mk (fun l=>match l with | [v]=>DS 92 v | _=>none),[.var 0],(.set 3),[]⟩,
 ⟨none,.p1 some,[(.const (.bool false))],(.set 4),[]⟩]
def kA:List AA:=[
 ⟨none,.r1 (fun s a=>AD Try.prog s 92 a),[.var 3],.push,[]⟩,
 ⟨none,.p1 AE,[.loc 0],.push,[]⟩,
 ⟨none,.p1 (fun x=>AB Try.prog 104 x 0),[.loc 0],.push,[]⟩,
 ⟨none,.r1 (fun s a=>AD Try.prog s 23 a),[.loc 0],.push,[]⟩,
 ⟨none,.p (fun l=>some (.func 98 (l.take 0) (l.drop 0))),[.var 1,.var 3],.push,[]⟩,
 ⟨none,.call 72,[.loc 1,.loc 0],.push,[]⟩,
 ⟨none,.p1 some,[.loc 0],(.set 5),[]⟩]
def kB:List AA:=[
 ⟨none,.r1 (fun s a=>AD Try.prog s 3 a),[.var 2],.push,[]⟩,
 ⟨none,.p2 (AL Try.prog .add 3),[(.loc 0),(.const (.int .i64 (1)))],.push,[]⟩,
 ⟨none,.e (fun s=>BV (fun a x=>AU (AM Try.prog s 3 a x))),[.var 2,.loc 0],.push,[]⟩]
def aF:List AA:=[
 ⟨none,.r1 (fun s a=>AD Try.prog s 92 a),[.var 3],.push,[]⟩,
 ⟨none,.r1 (fun s a=>AD Try.prog s 3 a),[.var 2],.push,[]⟩,
 ⟨none,.p2 (AL Try.prog .rem 3),[(.loc 0),(.const (.int .i64 (2)))],.push,[]⟩,
 ⟨none,.p2 (AL Try.prog .eql 3),[(.loc 0),(.const (.int .i64 (0)))],.push,[]⟩,
 ⟨(some ((.loc 0),true)),.r1 (fun s a=>AD Try.prog s 92 a),[.var 3],.push,[]⟩,
 ⟨(some ((.loc 1),true)),.p1 AE,[.loc 0],.push,[]⟩,
 ⟨(some ((.loc 2),true)),.p1 (fun x=>AB Try.prog 104 x 0),[.loc 0],.push,[]⟩,
 ⟨(some ((.loc 3),true)),.r1 (fun s a=>AD Try.prog s 23 a),[.loc 0],.push,[]⟩,
 ⟨(some ((.loc 4),true)),.r (fun s l=>match l with | [x]=>Aq Try.prog s 23 x | _=>none),[.loc 0],.push,[]⟩,
 ⟨(some ((.loc 5),true)),.p2 (AL Try.prog .gtr 3),[(.loc 0),(.const (.int .i64 (2)))],.push,[]⟩,
 ⟨none,.p Rn,[(.loc 6),(.loc 0),(.const (.bool false))],.push,[]⟩,
 ⟨(some ((.loc 0),true)),.p1 some,[.var 5],.push,[]⟩,
 ⟨(some ((.loc 1),true)),.p1 (GZ Try.prog Go.UnOp.not),[.loc 0],.push,[]⟩,
 ⟨none,.p Rn,[(.loc 2),(.loc 0),(.const (.bool false))],.push,[]⟩,
 ⟨none,.p1 AE,[.loc 13],.push,[]⟩,
 ⟨none,.p1 (fun x=>AB Try.prog 104 x 2),[.loc 0],.push,[]⟩,
 ⟨none,.e (fun s=>BV (fun a x=>AU (AM Try.prog s 4 a x))),[.loc 0,.loc 2],.push,[]⟩]
def aG:List AA:=[
 ⟨none,.r1 (fun s a=>AD Try.prog s 92 a),[.var 3],.push,[]⟩,
 ⟨none,.p1 AE,[.loc 0],.push,[]⟩,
 ⟨none,.p1 (fun x=>AB Try.prog 104 x 2),[.loc 0],.push,[]⟩,
 ⟨none,.r1 (fun s a=>AD Try.prog s 4 a),[.loc 0],(.set 6),[]⟩]
def kC:List AA:=[
 ⟨none,.r1 (fun s a=>AD Try.prog s 44 a),[.var 1],.push,[]⟩,
 ⟨none,.r1 (fun s a=>AD Try.prog s 44 a),[.var 1],.push,[]⟩,
 ⟨none,.p1 AE,[.loc 0],.push,[]⟩,
 ⟨none,.p1 (fun x=>AB Try.prog 91 x 12),[.loc 0],.push,[]⟩,
 ⟨none,.r1 (fun s a=>AD Try.prog s 33 a),[.loc 0],.push,[]⟩,
 ⟨none,.r1 (fun s a=>AD Try.prog s 92 a),[.var 3],.push,[]⟩,
 ⟨none,.p1 AE,[.loc 0],.push,[]⟩,
 ⟨none,.p1 (fun x=>AB Try.prog 104 x 0),[.loc 0],.push,[]⟩,
 ⟨none,.r1 (fun s a=>AD Try.prog s 23 a),[.loc 0],.push,[]⟩,
 ⟨none,.call 60,[.loc 0],.push,[⟨none,.r1 (fun s a=>AD Try.prog s 33 a),[.loc 6],(.loc 5)⟩,⟨none,.r1 (fun s a=>AD Try.prog s 44 a),[.var 1],(.loc 8)⟩,⟨none,.r1 (fun s a=>AD Try.prog s 44 a),[.var 1],(.loc 9)⟩]⟩,
 ⟨none,.p (fun l=>Bz Try.prog 27 (zipIdx [0,1] l)),[(.const (.bool true)),(.loc 0)],.push,[]⟩,
 ⟨none,.mk (fun l=>(Ae Try.prog 33 1 (zipIdx [0] l)).bind fun r=>some (r,.slice 1)),[.loc 0],.push,[]⟩,
 ⟨none,.e (fun s l=>Af Try.prog s [33,33] l),[.loc 7,.loc 0],.push,[⟨none,.r1 (fun s a=>AD Try.prog s 44 a),[.var 1],(.loc 12)⟩]⟩,
 ⟨none,.p1 AE,[.loc 12],.push,[]⟩,
 ⟨none,.p1 (fun x=>AB Try.prog 91 x 12),[.loc 0],.push,[]⟩,
 ⟨none,.e (fun s=>BV (fun a x=>AU (AM Try.prog s 33 a x))),[.loc 0,.loc 2],.push,[]⟩]
def aH:List AA:=[
 ⟨none,.r1 (fun s a=>AD Try.prog s 92 a),[.var 3],.push,[]⟩,
 ⟨none,.p1 AE,[.loc 0],.push,[]⟩,
 ⟨none,.p1 (fun x=>AB Try.prog 104 x 2),[.loc 0],.push,[]⟩,
 ⟨none,.r1 (fun s a=>AD Try.prog s 4 a),[.loc 0],.push,[]⟩,
 ⟨none,.p1 some,[.loc 0],(.set 4),[]⟩]
def qF:Aw:=⟨3,7,(.seq (.ops j9) (.seq (.ops kA) (.seq (.ops kB) (.seq (.seq (.ops aF) (.seq (.ops aG) (.cond (.var 6)
 (.ops kC)
 .skip))) (.seq (.ops aH) .ret))))),[((.var 4),none)]⟩
def kD:List AA:=[
 ⟨none,.p1 some,[(.const (.bool false))],(.set 3),[]⟩]
def kE:List AA:=[
 ⟨none,.r1 (fun s a=>AD Try.prog s 44 a),[.var 1],.push,[]⟩,
 ⟨none,.p1 AE,[.loc 0],.push,[]⟩,
 ⟨none,.p1 (fun x=>AB Try.prog 91 x 4),[.loc 0],.push,[]⟩,
 ⟨none,.r1 (fun s a=>AD Try.prog s 89 a),[.loc 0],.push,[]⟩,
 ⟨none,.r1 (fun s a=>AD Try.prog s 92 a),[.var 2],.push,[]⟩,
 ⟨none,.call 90,[.var 0],.push,[⟨none,.r1 (fun s a=>AD Try.prog s 92 a),[.var 2],(.loc 1)⟩,⟨none,.r1 (fun s a=>AD Try.prog s 89 a),[.loc 3],(.loc 2)⟩,⟨none,.r1 (fun s a=>AD Try.prog s 44 a),[.var 1],(.loc 5)⟩]⟩,
 ⟨none,.p2 (AC Try.prog 89),[.loc 2,.loc 0],.push,[]⟩,
 ⟨none,.r1 (fun s a=>AD Try.prog s 92 a),[.loc 0],.push,[]⟩,
 ⟨none,.r (fun s=>BV (HE Try.prog s false 92)),[.loc 0,.loc 3],.push,[]⟩,
 ⟨none,.p1 some,[.loc 0],(.set 3),[]⟩]
def qG:Aw:=⟨3,4,(.seq (.ops kD) (.seq (.ops kE) .ret)),[((.var 3),none)]⟩
def XU:List AA:=[
 ⟨none,.p1 some,[(.const (.int .i64 (0)))],(.set 2),[]⟩]
def XV:List AA:=[
 ⟨none,.r (fun s l=>match l with | [x]=>Aq Try.prog s 89 x | _=>none),[.var 0],(.set 4),[]⟩,
 ⟨none,.p1 some,[(.const (.int .i64 (0)))],(.set 5),[]⟩]
def R5:List AA:=[
 ⟨none,.p2 (AL Try.prog .lss 3),[.var 5,.var 4],(.set 6),[]⟩]
def XW:List AA:=[
 ⟨none,.p1 some,[.var 5],(.set 3),[]⟩]
def XX:List AA:=[
 ⟨none,.p2 (AC Try.prog 89),[.var 0,.var 3],.push,[]⟩,
 ⟨none,.r1 (fun s a=>AD Try.prog s 92 a),[.loc 0],.push,[]⟩,
 ⟨none,.callv,[.var 1,.loc 0],(.set 7),[]⟩]
def XY:List AA:=[
 ⟨none,.p1 some,[.var 3],(.set 2),[]⟩]
def XZ:List AA:=[
 ⟨none,.p2 (AL Try.prog .add 3),[(.var 5),(.const (.int .i64 (1)))],.push,[]⟩,
 ⟨none,.p1 some,[.loc 0],(.set 5),[]⟩]
def K5:Ac:=(.seq (.ops R5) (.seq (.cond (.var 6)
 .skip
 (.exit 0)) (.seq (.block 1 (.seq (.ops XW) (.seq (.ops XX) (.cond (.var 7)
 (.seq (.ops XY) .ret)
 .skip)))) (.ops XZ))))
def Xa:List AA:=[
 ⟨none,.p1 some,[(.const (.int .i64 (-1)))],(.set 2),[]⟩]
def nX:Aw:=⟨2,8,(.seq (.ops XU) (.seq (.seq (.ops XV) (.block 0 (.loop K5))) (.seq (.ops Xa) .ret))),[((.var 2),none)]⟩
theorem mJ:AS Try.prog 96=some qE:=by kernel_rfl
theorem mK:AS Try.prog 97=some qF:=by kernel_rfl
theorem mL:AS Try.prog 98=some qG:=by kernel_rfl
theorem dw:AS Try.prog 112=some nX:=by kernel_rfl
end
end Go.Proofs.Ytilhhmkdcoajnaa.Am
set_option linter.unusedVariables false
set_option linter.unusedSimpArgs false
set_option maxRecDepth 16000
namespace Go.Proofs.Ytilhhmkdcoajnaa.Am
open Go Go.Proofs
noncomputable section
theorem U4{s:AF}{a b:Nat}(hb:0<b):AL Try.prog .rem 3 (iv (a:Int)) (iv (b:Int))=some (iv ((a % b:Nat):Int)):=by
 rw[Int.natCast_emod]
 exact GK (P:=Try.prog) (t:=3) (k:=.i64) (by omega) (by omega)
theorem Ah.put_gone{ow:Ow}{s:AF}{p:Nat}{x:Sf}{v:Sv}(h:Ah ow s p x v){c:Nat}{ls:List Int}{b:Bool×Bool}(hc:v.cl c=some (ls,b))(y:Bool):
  ∃s',AM Try.prog s 4 (.ptr (some (c,2))) (.bool y)=some s'∧Ah ow s' p x { v with cl:=AP v.cl c (ls,b.1,y) }∧AH (· = (p,14,c)) ow s ow s'∧s'.next=s.next:=by
 obtain⟨u,g1,g2,g3,g4⟩:=h.cls c _ hc
 obtain⟨s',k1,k2,k3,k4⟩:=g1.store (k:=2) (d:=.bool y) (by simp) (t:=4) We rfl rfl
 have st:AH (· = (p,14,c)) ow s ow s':=⟨by omega,fun _ _ _=>rfl,fun j _ hm=>k4 j fun e=>hm (by rw[e];exact g2)⟩
 have hm:∀a i,a≠14→¬ ((p,a,i):Bh)=(p,14,c):=fun a i ha=>CM ha
 have hlt:=h.lt
 refine⟨s',k1,{ box:=h.box.step st h.tag h.lt (hm 0 0 (by decide)),tag:=h.tag,lt:=by omega,w:=h.w.step st (hm 1 0 (by decide)) (fun j=>hm 2 j (by decide)),learned:=h.learned.step st (hm 3 0 (by decide)),value:=h.value.step st (hm 4 0 (by decide)),level:=h.level.step st (hm 5 0 (by decide)),why:=h.why.step st (hm 6 0 (by decide)),heat:=h.heat.step st (hm 7 0 (by decide)),phase:=h.phase.step st (hm 8 0 (by decide)),trail:=h.trail.step st (hm 9 0 (by decide)),limits:=h.limits.step st (hm 10 0 (by decide)),model:=h.model.step st (hm 11 0 (by decide)),trace:=h.trace.step st (hm 12 0 (by decide)) (hm 13 0 (by decide)),cls:=fun d l hd=>?_ },st,k3⟩
 have hd:AP v.cl c (ls,b.1,y) d=some l:=hd
 unfold AP at hd
 by_cases ed:d=c
 ·subst ed
  rw[if_pos rfl]at hd
  injection hd with hd
  subst hd
  exact⟨u,k2,g2,by omega,g4.step st (hm 15 d (by decide))⟩
 ·rw[if_neg ed]at hd
  exact(h.cls d l hd).step st (fun q=>by injection q with _ q;injection q with _ q;exact ed q) (hm 15 d (by decide))
theorem Ah.put_learned{ow:Ow}{s:AF}{p:Nat}{x:Sf}{v:Sv}(h:Ah ow s p x v){k:Nat}(hk:k<v.learned.length)(y:Nat):
  ∃s',AM Try.prog s 92 (BA x.l k) (AK y)=some s'∧Ah ow s' p x { v with learned:=v.learned.set k y }∧AH (· = (p,3,0)) ow s ow s'∧s'.next=s.next:=by
 obtain⟨s',g1,g2,g3,g4⟩:=h.learned.set (t:=92) E5 (k:=k) (x:=AK y) (by rw[qK];exact hk) rfl rfl
 have hm:∀a i,a≠3→¬ ((p,a,i):Bh)=(p,3,0):=fun a i ha=>CM ha
 have hl:=h.lt
 exact⟨s',g1,{ box:=h.box.step g3 h.tag h.lt (hm 0 0 (by decide)),tag:=h.tag,lt:=by omega,w:=h.w.step g3 (hm 1 0 (by decide)) (fun j=>hm 2 j (by decide)),learned:=by show Bc ow (p,3,0) s' x.l (List.map _ (List.set v.learned k y));rw[rD];exact g2,value:=h.value.step g3 (hm 4 0 (by decide)),level:=h.level.step g3 (hm 5 0 (by decide)),why:=h.why.step g3 (hm 6 0 (by decide)),heat:=h.heat.step g3 (hm 7 0 (by decide)),phase:=h.phase.step g3 (hm 8 0 (by decide)),trail:=h.trail.step g3 (hm 9 0 (by decide)),limits:=h.limits.step g3 (hm 10 0 (by decide)),model:=h.model.step g3 (hm 11 0 (by decide)),trace:=h.trace.step g3 (hm 12 0 (by decide)) (hm 13 0 (by decide)),cls:=fun c l hc=>(h.cls c l hc).step g3 (hm 14 c (by decide)) (hm 15 c (by decide)) },g3,g4⟩
def Ii(v:Sv)(c:Nat)(l:Int):Bool:=decide (v.why.getD l.natAbs none=some c)
theorem eY{s:AF}{i:Nat}{cs:List AV}(h:DM s i cs):D6 s i=true:=by
 obtain⟨r,h1,_,h2,h3⟩:=h
 simp[D6,rowAt,h1,h2,h3,Ec]
theorem ai{s:AF}{w:Option Nat}{c:Nat}(hc:D6 s c=true)(hw:∀d,w=some d→D6 s d=true):HE Try.prog s false 92 (HN w) (.ptr (some (c,0)))=some (.bool (decide (w=some c))):=by
 have hs:On Try.prog 92=true:=by kernel_rfl
 cases w with
 | none=>rfl
 | some d =>
  have hd:=hw d rfl
  show AI (On Try.prog 92 && D6 s d && D6 s c) (some (AV.bool ((Nat.beq d c && Nat.beq 0 0) != false)))=_
  rw[hs,hd,hc]
  by_cases e:d=c
  ·subst e
   rw[Di rfl,decide_eq_true rfl];rfl
  ·rw[D0 e,decide_eq_false (fun q=>e (by injection q))];rfl
theorem eG{E:BN}(hE:Good E){ow:Ow}{s:AF}{p:Nat}{x:Sf}{v:Sv}(h:Ah ow s p x v){n B C c:Nat}(hn:n<100000000)(hw:v.why.length=n+1)(hcc:∃l,v.cl c=some l)(hwc:∀d,some d∈v.why→∃l,v.cl d=some l)(hB:As s B (AK p))(hC:As s C (AK c)){l:Int}(hl:VL n l):
  WF E 98 [iv l,.ptr (some (B,0)),.ptr (some (C,0))] (fun r s'=>r=.bool (Ii v c l)∧s=s') s:=by
 have l1:=hB.load Dy
 have l2:=hC.load K0
 simp only[AK]at l1 l2
 have hvar:=C8 hE (s:=s) (l:=l) (by obtain⟨h0,h1⟩:=hl;exact⟨by omega,by omega⟩)
 have hk:l.natAbs<v.why.length:=by have:=hl.2;omega
 have hg:=AR (d:=(none:Option Nat)) hk
 have i1:=h.why.addr Try.underlying89 E5 (k:=l.natAbs) (by rw[qK];exact hk)
 have i2:=h.why.get (t:=92) K0 (k:=l.natAbs) (u:=HN (v.why.getD l.natAbs none)) (by rw[qs,hg];rfl)
 have own:∀d,(∃l,v.cl d=some l)→D6 s d=true:=fun d ⟨l,hd⟩=>by
  obtain⟨u,g1,_⟩:=h.cls d l hd
  exact eY g1
 have e1:=ai (own c hcc) (w:=v.why.getD l.natAbs none) (fun d hd=>own d (hwc d (by rw[← hd];exact qL hg)))
 have eqp:∀a:Nat×Nat,FY (.ptr (some a)) (.ptr (some a))=true:=fun a=>by obtain⟨i,o⟩:=a;simp[FY]
 have hself:=h.why.self
 refine hE.go mL (by decide) rfl ?_
 simp only[qG,kD,kE,l1,AG,Ln,h.ld_why,l2,Qa,Qb,Qc,Qd,Qf,Qh,Qi,Qj,Qk,Ql,Qm,Qn,true_and,Qo,Qp,Qq,Qr,Qs,Qw,Rc,Re,Rf,Rg,Rh,Yc]
 refine hvar.mono ?_
 rintro _ _ ⟨rfl,rfl⟩
 simp only[BX,At,l1,l2,h.ld_why,eqp,hself,i1,i2,BV,e1,Ii,Qd,Qj,Qk,Qm,Qn,and_true,Qo,Qp,Qq,Qr]
def DI(v:Sv)(c n:Nat):Bool:=match v.cl c with
 | some (ls,_)=>decide (n % 2=0) && decide (2<ls.length) && !(ls.any (Ii v c))
 | none=>false
def Ca(v:Sv)(c n:Nat):Sv:=match v.cl c with
 | some (ls,b)=>{ v with cl:=AP v.cl c (ls,b.1,DI v c n),trace:=if DI v c n=true then v.trace++[(true,ls)]else v.trace }
 | none=>v
theorem TT{f:Int→Bool}(L:List Int):(BH f L 0).isSome=L.any f:=by
 cases h:L.any f with
 | true =>
  rw[C5]
  obtain⟨x,h1,h2⟩:=List.any_eq_true.1 h
  exact⟨x,h1,h2⟩
 | false =>
  cases hs:(BH f L 0).isSome with
  | false=>rfl
  | true =>
   obtain⟨x,h1,h2⟩:=C5.1 hs
   rw[List.any_eq_true.2 ⟨x,h1,h2⟩]at h
   cases h
def Ee(p:Nat)(t:Bh):Prop:=BU p t∨t=(p,24,0)
theorem AH.bD{p:Nat}{ow ow':Ow}{s s':AF}(h:AH (BU p) ow s ow' s'):AH (Ee p) ow s ow' s':=h.mono fun _ ht=>.inl ht
theorem As.stepB{p:Nat}{ow ow':Ow}{s s':AF}{j a:Nat}{c:AV}(h:As s j c)(k:AH (BU p) ow s ow' s')(ht:ow j=(p,a,0))(hl:j<s.next)(ha:16≤a):As s' j c∧ow' j=(p,a,0)∧j<s'.next:=by
 have hm:¬ BU p (ow j):=fun q=>by
  rw[ht]at q
  have:=q.2.2.2
  exact absurd this (by show ¬ a<16;omega)
 have hn:=k.next
 exact⟨h.keep (k.heap j hl hm),by rw[k.tags j hl hm];exact ht,by omega⟩
theorem mN{E:BN}{K:List AV→AF→Prop}{s:AF}{B N C c m len:Nat}{u:AV}{a3:Bool}(l1:AD Try.prog s 92 (.ptr (some (C,0)))=some (.ptr (some (c,0))))(l2:AD Try.prog s 3 (.ptr (some (N,0)))=some (iv (m:Int)))(l3:AD Try.prog s 23 (.ptr (some (c,0)))=some u)(ln:Aq Try.prog s 23 u=some (iv (len:Int)))(x0 x4 x6:AV)
  {s':AF} (hst:AM Try.prog s 4 (.ptr (some (c,2))) (.bool (decide (m % 2=0) && decide (2<len) && !a3))=some s')
  (hK:K [x0,.ptr (some (B,0)),.ptr (some (N,0)),.ptr (some (C,0)),x4,.bool a3,x6] s'):
  Qb E aF (fun v s=>K v s) [] [x0,.ptr (some (B,0)),.ptr (some (N,0)),.ptr (some (C,0)),x4,.bool a3,x6] s:=by
 have e1:=U4 (s:=s) (a:=m) (b:=2) (by decide)
 have e2:iv ((2:Nat):Int)=iv 2:=rfl
 rw[e2]at e1
 have d1:decide (((m % 2:Nat):Int)=0)=decide (m % 2=0):=by
  by_cases h:m % 2=0
  ·rw[decide_eq_true h,h];rfl
  ·rw[decide_eq_false h,decide_eq_false (by omega)]
 have d2:decide ((2:Int)<(len:Int))=decide (2<len):=by
  by_cases h:2<len
  ·rw[decide_eq_true h,decide_eq_true (by omega)]
  ·rw[decide_eq_false h,decide_eq_false (by omega)]
 generalize decide (m % 2=0)=b1 at *
 generalize decide (2<len)=b2 at *
 cases b1<;>cases b2<;>cases a3<;>simp only[Bool.and_true,Bool.and_false,Bool.not_true,Bool.not_false]at hst<;>simp only[aF,l1,l2,e1,d1,AG,DD,GP,l3,ln,d2,BV,hst,AU,Qb,Qc,Qd,Qf,Qg,Qh,Qi,Qj,Qk,Qm,Qn,true_and,Qq,Qr,Qs,Qt,Rl,Ya,Yb,Rn,Ro,Rs,Rv,Rx]<;>exact hK
theorem aZ       {E : BN}  (hE : Good E) {ow : Ow} {s : AF}  {p : Nat} {x : Sf} {v : Sv} (h : Ah  ow s p x v) {n B N c m : Nat} (hn : n < 100000000) (hw : v.why.length = n + 1) (hwc : ∀ d, some d ∈ v.why → ∃ l, v.cl d = some l) {ls : List Int} {b : Bool × Bool} (hc : v.cl c = some (ls, b)) (hls : A9    n ls) (hls1 : ls.length ≤ 1000000) (hT : v.trace.length ≤ 1000000) (hm : m ≤ 1000000000)
    (hB:As s B (AK p)) (hBt:ow B=(p,21,0)) (hBl:B<s.next) (hN:As s N (iv (m:Int))) (hNt:ow N=(p,24,0)) (hNl:N<s.next):
    WF E 97 [AK c,.ptr (some (B,0)),.ptr (some (N,0))] (fun r s'=>∃ow' x',r=.bool (DI v c (m+1))∧Ah ow' s' p x' (Ca v c (m+1))∧x'.l=x.l∧As s' B (AK p)∧ow' B=(p,21,0)∧B<s'.next∧As s' N (iv ((m+1:Nat):Int))∧ow' N=(p,24,0)∧N<s'.next∧AH (Ee p) ow s ow' s') s:=by
  have hptr:∀i,Made.val i .ptr=.ptr (some (i,0)):=fun _=>rfl
  have hms:∀ (m:Nat) (i:Nat),Made.val i (.slice m)=.slice (some (i,0)) m (some m):=fun _ _=>rfl
  have hbox:DS 92 (AV.ptr (some (c,0)))=some (AO 92 0 [AK c],.ptr):=by simp[DS,AK,AV.cells]
  have st1:AH (fun _=>False) ow s (ext ow s.next (p,21,0)) (newObj s (AO 92 0 [AK c])):=AH.new _ ow s _ _
  have h1:=h.keep st1 (fun _ q=>q.elim)
  have c1:As (newObj s (AO 92 0 [AK c])) s.next (AK c):=As.new
  have hB1:As (newObj s (AO 92 0 [AK c])) B (AK p):=hB.keep (st1.heap B hBl fun q=>q)
  have hN1:As (newObj s (AO 92 0 [AK c])) N (iv (m:Int)):=hN.keep (st1.heap N hNl fun q=>q)
  have tB1:(ext ow s.next (p,21,0)) B=(p,21,0):=by rw[D1 hBl];exact hBt
  have tN1:(ext ow s.next (p,21,0)) N=(p,24,0):=by rw[D1 hNl];exact hNt
  have tC1:(ext ow s.next (p,21,0)) s.next=(p,21,0):=C2 (qI _)
  have n1:(newObj s (AO 92 0 [AK c])).next=s.next+1:=rfl
  have lB:B<(newObj s (AO 92 0 [AK c])).next:=by rw[n1];omega
  have lN:N<(newObj s (AO 92 0 [AK c])).next:=by rw[n1];omega
  have lC:s.next<(newObj s (AO 92 0 [AK c])).next:=by rw[n1];omega
  have stD1:AH (Ee p) ow s (ext ow s.next (p,21,0)) (newObj s (AO 92 0 [AK c])):=st1.mono fun _ q=>q.elim
  generalize hs1:newObj s (AO 92 0 [AK c])=s1 at *
  generalize how1:ext ow s.next (p,21,0)=ow1 at *
  generalize hC:s.next=C at *
  clear st1 n1
  obtain⟨u,u1,u2,u3,u4,u5⟩:=h1.lits hc
  have lc:=c1.load K0
  simp only[AK]at lc hbox hs1
  have hheld:=GO hE (s:=s1) (L:=ls) (f:=Ii v c) (g:=98) (cp:=[.ptr (some (B,0)),.ptr (some (C,0))]) (fun q hq=>eG hE h1 hn hw ⟨_,hc⟩ hwc hB1 c1 (hls.1 q hq)) (by omega) u4.slice
  refine hE.go mK (by decide) rfl ?_
  simp only[qF,j9,AK,hbox,hptr,hs1,hC,kA,lc,AG,DD,u1,rM,rF,Qa,Qb,Qc,Qd,Qf,Qh,Qi,Qj,Qk,Ql,Qm,Qn,true_and,Qo,Qp,Qq,Qr,Qs,Qw,Rc,Rf,Rg,Rh,Yc]
  refine hheld.mono ?_
  rintro _ _ ⟨rfl,rfl⟩
  rw[TT]
  have e1:=Ai Try.prog 3 (m:Int) 1 ⟨by omega,by omega⟩
  have hcast:((m:Int)+1)=((m+1:Nat):Int):=by omega
  obtain⟨s2,g1,g2,g3,g4⟩:=hN1.store (d:=iv ((m+1:Nat):Int)) (t:=3) Bt rfl rfl
  have st2:AH (· = (p,24,0)) ow1 s1 ow1 s2:=⟨by omega,fun _ _ _=>rfl,fun j _ hj=>g4 j fun e=>hj (by rw[e];exact tN1)⟩
  have h2:=h1.keep16 st2 (fun a i ha q=>by injection q with _ q;injection q with q;omega)
  have hBN:B≠N:=fun e=>by rw[e,tN1]at tB1;injection tB1 with _ q;injection q with q;cases q
  have hCN:C≠N:=fun e=>by rw[e,tN1]at tC1;injection tC1 with _ q;injection q with q;cases q
  have hB2:As s2 B (AK p):=hB1.keep (g4 B hBN)
  have hC2:As s2 C (AK c):=c1.keep (g4 C hCN)
  simp only[kB,hN1.load Dg,e1,hcast,BV,g1,AU,Qb,Qc,Qd,Qf,Qh,Qi,Qj,Qk,Qm,Qn,true_and,Qo,Qp,Qq,Qr,Qs]
  obtain⟨w,w1,w2,w3,w4,w5⟩:=h2.lits hc
  have lc2:=hC2.load K0
  simp only[AK]at lc2
  have lnw:∀s',Aq Try.prog s' 23 w=some (iv (ls.length:Int)):=fun s'=>by
    have:=w4.len Try.underlying23 s'
    rw[qK]at this
    exact this
  have hg:(decide ((m+1) % 2=0) && decide (2<ls.length) && !(ls.any (Ii v c)))=DI v c (m+1):=by unfold DI;rw[hc]
  obtain⟨s3,k1,k2,k3,k4⟩:=h2.put_gone hc (DI v c (m+1))
  have st3:AH (BU p) ow1 s2 ow1 s3:=k3.mono fun t ht=>by rw[ht];exact⟨rfl,by simp,by simp,by simp⟩
  obtain⟨hB3,tB3,lB3⟩:=hB2.stepB st3 tB1 (by omega) (by decide)
  obtain⟨hC3,tC3,lC3⟩:=hC2.stepB st3 tC1 (by omega) (by decide)
  obtain⟨hN3,tN3,lN3⟩:=g2.stepB st3 tN1 (by omega) (by decide)
  refine mN lc2 (g2.load Dg) w1 (lnw _) _ _ _ (s':=s3) (by rw[hg];exact k1) ?_
  have hcl3:AP v.cl c (ls,b.1,DI v c (m+1)) c=some (ls,b.1,DI v c (m+1)):=Ao _ _ _
  obtain⟨y,y1,y2,y3,y4,y5⟩:=k2.lits hcl3
  have y3:AD Try.prog s3 4 (.ptr (some (c,2)))=some (.bool (DI v c (m+1))):=y3
  have lc3:=hC3.load K0
  have lb3:=hB3.load Dy
  simp only[AK]at lc3 lb3
  have st13:AH (Ee p) ow s ow1 s3:=(stD1.trans (st2.mono fun t ht=>.inr ht)).trans st3.bD
  have hS:∀g,DI v c (m+1)=g→Ca v c (m+1)={ v with cl:=AP v.cl c (ls,b.1,g),trace:=if g=true then v.trace++[(true,ls)]else v.trace }:=fun g e=>by unfold Ca;rw[hc];dsimp only;rw[e]
  cases hgg:DI v c (m+1)with
  | false =>
    rw[hgg]at k2 y3
    simp only[aG,lc3,AG,GP,y3,aH,Qb,Qc,Qd,Qf,Qh,Qj,Qk,Qm,Qn,true_and,Qo,Qp,Qq,Qr,Qs,Qv,Re]
    refine⟨ow1,x,?_,rfl,hB3,tB3,lB3,hN3,tN3,lN3,st13⟩
    rw[hS false hgg]
    exact k2
  | true =>
    rw[hgg]at k2 y3
    have hne:ls≠[]:=fun e=>by
      unfold DI at hgg
      rw[hc,e]at hgg
      simp at hgg
    have eqp:∀a:Nat×Nat,FY (.ptr (some a)) (.ptr (some a))=true:=fun a=>by obtain⟨i,o⟩:=a;simp[FY]
    simp only[aG,lc3,AG,GP,y3,kC,lb3,HU,k2.ld_trc,DD,y1,Qb,Qc,Qd,Qf,Qh,Qi,Qj,Qk,Qm,Qn,true_and,and_true,Qo,Qp,Qq,Qr,Qs,Qu,Re]
    refine(Gz hE (qI _) y4.slice hls1).mono ?_
    rintro z s4 ⟨hz,ho⟩
    have hst:AH (fun _=>False) ow1 s3 (ext ow1 s3.next (p,13,0)) s4:=AH.old ho _
    have h4:=k2.keep hst (fun _ q=>q.elim)
    have hstB:AH (BU p) ow1 s3 (ext ow1 s3.next (p,13,0)) s4:=hst.mono fun _ q=>q.elim
    obtain⟨hB4,tB4,lB4⟩:=hB3.stepB hstB tB3 lB3 (by decide)
    obtain⟨hC4,tC4,lC4⟩:=hC3.stepB hstB tC3 lC3 (by decide)
    obtain⟨hN4,tN4,lN4⟩:=hN3.stepB hstB tN3 lN3 (by decide)
    obtain⟨t',s5,ow2,a1,a2,a3,a4,a5⟩:=h4.push_trace hT true hz.slice (fun j hj=>by
      obtain⟨q1,q2⟩:=hz.slot_ge hne j hj
      exact⟨C2 q1,q2⟩)
    obtain⟨s6,d1,d2,d3,d4⟩:=a2.store (k:=12) (d:=t') (by simp) (t:=33) cM a3 a4
    obtain⟨f1,f2⟩:=a5 s6 v.broken d2 (by omega) (fun j hj=>d4 j hj)
    obtain⟨hB6,tB6,lB6⟩:=hB4.stepB f2 tB4 lB4 (by decide)
    obtain⟨hC6,tC6,lC6⟩:=hC4.stepB f2 tC4 lC4 (by decide)
    obtain⟨hN6,tN6,lN6⟩:=hN4.stepB f2 tN4 lN4 (by decide)
    have lb4:=hB4.load Dy
    have lc6:=hC6.load K0
    have b27:Bz Try.prog 27 (zipIdx [0,1] [.bool true,z])=some (.agg [.bool true,z]):=by
      have JB:(AV.bool true).cells=[.bool true]:=rfl
      simp[Bz,RM,Try.underlying27,B0,We,CL,zipIdx,Dp,DC,AI,JB,hz.slice.isCell.2]
      rfl
    have lb5:AD Try.prog s5 44 (.ptr (some (B,0)))=some (.ptr (some (p,0))):=by
      have hBp:B≠p:=fun e=>by
        have:=h.tag
        rw[← e,hBt]at this
        injection this with _ q
        injection q with q
        cases q
      have:As s5 B (AK p):=hB6.keep (d4 B hBp).symm
      exact this.load Dy
    obtain⟨y',y1',y2',y3',y4',y5'⟩:=f1.lits (c:=c) (l:=(ls,b.1,true)) (Ao _ _ _)
    have y3':AD Try.prog s6 4 (.ptr (some (c,2)))=some (.bool true):=y3'
    simp only[AK]at lb4 lc6
    simp only[BX,At,lb4,eqp,h4.ld_trc,h4.trace.self,b27,IT,hms,a1,lb5,BV,d1,AU,AG,HU,aH,lc6,GP,y3',Qb,Qc,Qd,Qf,Qh,Qj,Qk,Qm,Qn,true_and,and_true,Qo,Qp,Qq,Qr,Qs,Yc]
    refine⟨ow2,{ x with trc:=t' },?_,rfl,hB6,tB6,lB6,hN6,tN6,lN6,(st13.trans hstB.bD).trans f2.bD⟩
    rw[hS true hgg,show(if true=true then v.trace++[(true,ls)]else v.trace)=v.trace++[(true,ls)]from if_pos rfl]
    exact f1
def Bk:List Nat→Nat→Sv→Sv×List Nat
 | [],_,v=>(v,[])
 | c::l,n,v=>((Bk l (n+1) (Ca v c (n+1))).1,if DI v c (n+1)=true then (Bk l (n+1) (Ca v c (n+1))).2 else c::(Bk l (n+1) (Ca v c (n+1))).2)
def Ia(v:Sv):Sv:={ (Bk v.learned 0 { v with room:=v.room+v.room / 8 }).1 with learned:=(Bk v.learned 0 { v with room:=v.room+v.room / 8 }).2 }
theorem VR(v:Sv)(a:List Nat)(c n:Nat):Ca { v with learned:=a } c n={ Ca v c n with learned:=a }:=by
 show(match v.cl c with
  | some (ls,b)=>({ v with learned:=a,cl:=AP v.cl c (ls,b.1,DI v c n),trace:=if DI v c n=true then v.trace++[(true,ls)]else v.trace }:Sv)
  | none=>{ v with learned:=a })=_
 unfold Ca
 cases v.cl c with
 | none=>rfl
 | some l=>rfl
structure IH(n:Nat)(Ls:List Nat)(k:Nat)(v:Sv):Prop where
 why:v.why.length=n+1
 whc:∀d,some d∈v.why→∃l,v.cl d=some l
 cls:∀c∈Ls,∃ls b,v.cl c=some (ls,b)∧A9 n ls∧ls.length≤1000000
 trc:v.trace.length+(Ls.length - k)≤1000000
theorem NM(v:Sv)(c n:Nat):(Ca v c n).why=v.why:=by
 unfold Ca
 cases v.cl c<;>rfl
theorem Po{v:Sv}{c n d:Nat}{ls:List Int}{b:Bool×Bool}(h:v.cl d=some (ls,b)):∃g,(Ca v c n).cl d=some (ls,b.1,g):=by
 unfold Ca
 cases hc:v.cl c with
 | none=>exact⟨b.2,h⟩
 | some l =>
  dsimp only
  unfold AP
  by_cases e:d=c
  ·subst e
   rw[hc]at h
   injection h with h
   subst h
   exact⟨_,if_pos rfl⟩
  ·exact⟨b.2,by rw[if_neg e];exact h⟩
theorem VS(v:Sv)(c n:Nat):(Ca v c n).trace.length≤v.trace.length+1:=by
 unfold Ca
 cases v.cl c with
 | none=>exact rR _
 | some l =>
  dsimp only
  split
  ·rw[qM];simp
  ·omega
theorem IH.step{n:Nat}{Ls:List Nat}{k:Nat}{v:Sv}(h:IH n Ls k v)(hk:k<Ls.length)(c m:Nat):IH n Ls (k+1) (Ca v c m):=by
  refine⟨by rw[NM];exact h.why,fun d hd=>?_,fun d hd=>?_,?_⟩
  · rw[NM]at hd
    obtain⟨⟨ls,b⟩,hl⟩:=h.whc d hd
    obtain⟨g,hg⟩:=Po (c:=c) (n:=m) hl
    exact⟨_,hg⟩
  · obtain ⟨ls, b, h1, h2, h3⟩ := h.cls d hd
    obtain⟨g,hg⟩:=Po (c:=c) (n:=m) h1
    exact⟨ls,_,hg,h2,h3⟩
  · have := VS        v c m
    have:=h.trc
    omega
structure UF(ow:Ow)(s:AF)(p:Nat)(x:Sf)(xl:AV)(w:Sv)(arr:List Nat)(B N k:Nat):Prop where
 sat:Ah ow s p x { w with learned:=arr }
 xl:x.l=xl
 hB:As s B (AK p)
 tB:ow B=(p,21,0)
 lB:B<s.next
 hN:As s N (iv (k:Int))
 tN:ow N=(p,24,0)
 lN:N<s.next
theorem UF.one{E:BN}(hE:Good E){ow:Ow}{s:AF}{p:Nat}{x:Sf}{xl:AV}{w:Sv}{arr:List Nat}{B N k n:Nat}(h:UF ow s p x xl w arr B N k){Ls:List Nat}(hn:n<100000000)(hI:IH n Ls k w)(hk:k<Ls.length)(hl:Ls.length≤1000000){c:Nat}(hc:c∈Ls):
  WF E 97 [AK c,.ptr (some (B,0)),.ptr (some (N,0))] (fun r s'=>∃ow' x',r=.bool (DI w c (k+1))∧UF ow' s' p x' xl (Ca w c (k+1)) arr B N (k+1)∧AH (Ee p) ow s ow' s') s:=by
 obtain⟨ls,b,h1,h2,h3⟩:=hI.cls c hc
 have:=hI.trc
 refine(aZ hE h.sat (v:={ w with learned:=arr }) hn hI.why hI.whc h1 h2 h3 (by show w.trace.length≤_;omega) (by omega) h.hB h.tB h.lB h.hN h.tN h.lN).mono ?_
 rintro _ s' ⟨ow',x',rfl,g1,g2,g3,g4,g5,g6,g7,g8,g9⟩
 rw[VR]at g1
 exact⟨ow',x',rfl,⟨g1,g2.trans h.xl,g3,g4,g5,g6,g7,g8⟩,g9⟩
theorem aW       {E : BN}  (hE : Good E) {p B N n : Nat} {xl : AV} {Ls : List Nat} (hn : n < 100000000) (hl : Ls.length ≤ 1000000) {ow0 : Ow} {s0 : AF}  {R : Sv × List Nat} {Q : A0   → Prop} (x2 : AV)
    (hnone:∀s' ow' x' w y3 y5 y6 y7,UF ow' s' p x' xl w Ls B N Ls.length→IH n Ls Ls.length w→R=(w,Ls)→AH (Ee p) ow0 s0 ow' s'→Q ⟨.exit 0,[xl,.func 97 [] [.ptr (some (B,0)),.ptr (some (N,0))],x2,y3,iv (Ls.length:Int),y5,y6,y7],[],s'⟩)
    (hsome:∀s' ow' x' w i y3 y5 y6 y7,i<Ls.length→UF ow' s' p x' xl w Ls B N (i+1)→IH n Ls (i+1) w→R=((Bk (Ls.drop (i+1)) (i+1) w).1,Ls.take i++(Bk (Ls.drop (i+1)) (i+1) w).2)→AH (Ee p) ow0 s0 ow' s'→Q ⟨.ret,[xl,.func 97 [] [.ptr (some (B,0)),.ptr (some (N,0))],iv (i:Int),y3,iv (Ls.length:Int),y5,y6,y7],[],s'⟩):
    ∀ (l:List Nat) (k:Nat) (s:AF) (ow:Ow) (x:Sf) (w:Sv) (x3 x6 x7:AV),Ls.drop k=l→k≤Ls.length→UF ow s p x xl w Ls B N k→IH n Ls k w→R=((Bk l k w).1,Ls.take k++(Bk l k w).2)→AH (Ee p) ow0 s0 ow s →
      WC E none (.loop K5) Q [xl,.func 97 [] [.ptr (some (B,0)),.ptr (some (N,0))],x2,x3,iv (Ls.length:Int),iv (k:Int),x6,x7] [] s:=by
  intro l
  induction l with
  | nil =>
    intro k s ow x w x3 x6 x7 hd hk hD hI hR hst
    have:=CH hd hk
    subst this
    refine WC.loop' ?_
    simp only[K5,R5,qd,decide_false,Qa,Qb,Qc,Qd,Qf,Qh,Qj,Qm,Qn,true_and,Qo,Qp,Qq,Qr,Qs,Qv,Qw,Qx,Qy,Qz,Ra,Rq]
    refine hnone s ow x w _ _ _ _ hD hI ?_ hst
    rw[hR]
    simp[Bk]
  | cons c l ih =>
    intro k s ow x w x3 x6 x7 hd hk hD hI hR hst
    obtain⟨hlt,hx,hd'⟩:=Be hd
    have hkk:decide ((k:Int)<(Ls.length:Int))=true:=decide_eq_true (by omega)
    have e3:=Ai Try.prog 3 (k:Int) 1 ⟨by omega,by omega⟩
    have hcast:((k:Int)+1)=((k+1:Nat):Int):=by omega
    have hbuf:=hD.sat.learned
    rw[hD.xl]at hbuf
    have i1:=hbuf.addr Try.underlying89 E5 (k:=k) (by rw[qK];exact hlt)
    have i2:=hbuf.get (t:=92) K0 (k:=k) (u:=AK c) (by rw[qs];show(Ls[k]?).map AK=_;rw[hx];rfl)
    have hone:=hD.one hE hn hI hlt hl (qL hx)
    simp only[AK]at hone i2
    refine WC.loop' ?_
    generalize hW:WC E none (Ac.loop K5) Q=W at ih ⊢
    simp only[K5,R5,hkk,XW,XX,i1,i2,qo,rK,Qa,Qb,Qc,Qd,Qe,Qf,Qh,Qj,Qk,Qm,Qn,true_and,Qo,Qp,Qq,Qr,Qs,Qu,Qw,Qx,Qy,Qz,Ra,Rq]
    refine hone.mono ?_
    rintro _ s' ⟨ow',x',rfl,g1,g2⟩
    have hst':=hst.trans g2
    cases hg:DI w c (k+1)with
    | true =>
      simp only[XY,Qb,Qc,Qd,Qf,Qh,Qj,Qm,Qn,true_and,Qo,Qp,Qq,Qr,Qs,Qu]
      refine hsome s' ow' x' (Ca w c (k+1)) k _ _ _ _ hlt g1 (hI.step hlt c _) ?_ hst'
      rw[hR,hd']
      simp[Bk,hg]
    | false =>
      simp only[XZ,e3,hcast,Qb,Qc,Qd,Qf,Qh,Qi,Qj,Qk,Qm,Qn,true_and,Qo,Qp,Qq,Qr,Qs,Qv]
      refine ih (k+1) s' ow' x' (Ca w c (k+1)) _ _ _ hd' hlt g1 (hI.step hlt c _) ?_ hst'
      rw[hR]
      have et:Ls.take (k+1)=Ls.take k++[c]:=by
        rw[sC hlt]
        rw[qP hlt]at hx
        injection hx with hx
        rw[hx]
      simp[Bk,hg,et]
theorem mP{E:BN}(hE:Good E){ow:Ow}{s:AF}{p:Nat}{x:Sf}{xl:AV}{w:Sv}{Ls:List Nat}{B N n:Nat}(h:UF ow s p x xl w Ls B N 0)(hn:n<100000000)(hI:IH n Ls 0 w)(hl:Ls.length≤1000000):
    WF E 112 [xl,.func 97 [] [.ptr (some (B,0)),.ptr (some (N,0))]] (fun r s'=>∃ow' x' w',AH (Ee p) ow s ow' s' ∧
      ((r=iv (-1)∧UF ow' s' p x' xl w' Ls B N Ls.length∧Bk Ls 0 w=(w',Ls)) ∨
       ∃i:Nat,r=iv (i:Int)∧i<Ls.length∧UF ow' s' p x' xl w' Ls B N (i+1)∧IH n Ls (i+1) w'∧Bk Ls 0 w=((Bk (Ls.drop (i+1)) (i+1) w').1,Ls.take i++(Bk (Ls.drop (i+1)) (i+1) w').2))) s:=by
  have hbuf:=h.sat.learned
  rw[h.xl]at hbuf
  have ln:∀s,Aq Try.prog s 89 xl=some (iv (Ls.length:Int)):=fun s=>by
    have:=hbuf.len Try.underlying89 s
    rw[qK]at this
    exact this
  refine hE.go dw (by decide) rfl ?_
  simp only[nX,XU,XV,ln,Qa,Qb,Qc,Qd,Qf,Qh,Qi,Qj,Ql,Qm,Qn,true_and,Qo,Qp,Qq,Qs,Qw,Rc,Rf,Rg,Rh,Yc]
  refine aW hE hn hl (ow0:=ow) (s0:=s) (R:=Bk Ls 0 w) _ ?_ ?_ Ls 0 s ow x w _ _ _ rfl (qO _) h hI (by simp) (AH.refl _ _ _)
  · intro s' ow' x' w' y3 y5 y6 y7 g1 g2 g3 g4
    simp only[Xa,if_true,Qb,Qc,Qd,Qf,Qh,Qi,Qm,Qn,true_and,Qo,Qp,Qq,Qr,Qs,Qw,Qy,Rb,Re]
    exact⟨ow',x',w',g4,.inl ⟨g1,g3⟩⟩
  · intro s' ow' x' w' i y3 y5 y6 y7 g0 g1 g2 g3 g4
    simp only[Qj,Qm,Qq,Qr,Qx,Ra,Rc,Re,Rf,Rg,Rh,Yc]
    exact⟨ow',x',w',g4,.inr ⟨i,rfl,g0,g1,g2,g3⟩⟩
theorem eh(n:Nat):Jx (AV.cells (.ptr none)) n=List.replicate n (AV.ptr none):=by
  induction n with
  | zero=>rfl
  | succ n ih =>
    show AV.cells (.ptr none)++Jx _ n=_
    rw[ih,rt];rfl
theorem Bc.clear  {ow : Ow} {T : Bh}  {s : AF}  {v : AV} {cs : List AV} (h : Bc  ow T s v cs) {k : Nat} (hk : k ≤ cs.length) :
    ∃s',Dj Try.prog s [89] [ED v k]=some (BJ,s')∧Bc ow T s' v (cs.take k++List.replicate (cs.length - k) (.ptr none))∧AH (· = T) ow s ow s'∧s'.next=s.next:=by
  have z92:=UE
  rcases rG (cs.length - k)with h0 | hpos
  · have hkl:k=cs.length:=by omega
    refine⟨s,?_,?_,AH.refl _ _ _,rfl⟩
    · rcases h with ⟨rfl, rfl⟩ | ⟨i, o, cap, r, rfl, _⟩
      · have:k=0:=by simpa using hk
        subst this
        simp[ED,Dj,Try.underlying89]
      · cases cap with
        | none=>simp[ED,Dj,Try.underlying89,h0]
        | some c=>simp[ED,Dj,Try.underlying89,h0]
    · rw[h0,hkl,qr]
      simpa using h
  · rcases h with ⟨rfl, rfl⟩ | ⟨i, o, cap, r, rfl, hm, h3, h4, h5⟩
    · simp at hpos
    · have hlen:(List.replicate (cs.length - k) (AV.ptr none)).length=cs.length - k:=rQ
      obtain⟨s',g1,g2,g3,g4⟩:=hm.store (o:=o+k * 1) (vs:=List.replicate (cs.length - k) (.ptr none)) (by intro e;have:=congrArg List.length e;simp at this;omega) (by rw[hlen];omega) (by
        have:∀n,Ak (List.replicate n (AV.ptr none))=true:=fun n=>by
          induction n with
          | zero=>rfl
          | succ n ih=>rw[rt];simp[Ak,ih];rfl
        exact this _)
      have hl2:(cs.take k++List.replicate (cs.length - k) (AV.ptr none)).length=cs.length:=by simp;omega
      have hcl:∀cap',Dj Try.prog s [89] [.slice (some (i,o+k * 1)) (cs.length - k) cap']=some (BJ,s'):=fun cap'=>by
        have hne:cs.length - k≠0:=by omega
        obtain⟨m,hm'⟩:=Nat.exists_eq_succ_of_ne_zero hne
        have hst:CK s i (o+k * 1) (Jx (AV.cells (.ptr none)) (cs.length - k))=some s':=by rw[eh];exact g1
        rw[hm']at hst ⊢
        simp only[Dj,Try.underlying89,z92,Option.bind_some,hst]
      refine⟨s',?_,.inr ⟨i,o,cap,_,by rw[hl2],g2,fun j u hj=>?_,by rw[hl2];exact h4,?_⟩,g3,g4⟩
      · cases cap with
        | none=>exact hcl none
        | some c =>
          have hck:Nat.beq c k=false:=D0 (by have:=h5.1;omega)
          simp only[ED,hck,cond_false]
          exact hcl _
      · show(Aj.fill r.c (o+k * 1) (List.replicate (cs.length - k) (.ptr none))).get (o+j)=some u
        rw[Aj.get_fill]
        rcases qN j k with q | q
        · rw [qX                        (by rw [qb];               omega), qq                       q] at hj
          rw[if_neg (fun z=>by have:=z.1;omega)]
          exact h3 j u hj
        · rw[qY (by rw[qb];omega),qb,show min k cs.length=k by omega]at hj
          have:=Ag hj
          rw[hlen]at this
          rw[if_pos ⟨by omega,by rw[hlen];omega⟩,show o+j - (o+k * 1)=j - k by omega]
          exact hj
      · cases cap with
        | none=>exact h5
        | some c=>exact⟨by rw[hl2];exact h5.1,h5.2⟩
theorem Ah.clear_cut{ow:Ow}{s:AF}{p:Nat}{x:Sf}{v:Sv}(h:Ah ow s p x v){k:Nat}(hk:k≤v.learned.length):
  ∃s',Dj Try.prog s [89] [ED x.l k]=some (BJ,s')∧Ad Try.prog 89 false true false s' [x.l,iv (k:Int)]=some (FZ x.l k)∧AH (· = (p,3,0)) ow s ow s'∧s'.next=s.next ∧
   ∀s'',s''.next=s'.next→(∀j,j≠p→s''.heap.get j=s'.heap.get j)→s''.heap.get p=s'.heap.get p→∃s3,AM Try.prog s'' 89 (.ptr (some (p,1))) (FZ x.l k)=some s3∧Ah ow s3 p { x with l:=FZ x.l k } { v with learned:=v.learned.take k }∧AH (BU p) ow s ow s3:=by
 have hkm:k≤(v.learned.map AK).length:=by rw[qK];exact hk
 obtain⟨s',g1,g2,g3,g4⟩:=h.learned.clear hkm
 have hl:=h.lt
 have hm:∀a i,a≠3→¬ ((p,a,i):Bh)=(p,3,0):=fun a i ha=>CM ha
 have hle:k≤((v.learned.map AK).take k++List.replicate ((v.learned.map AK).length - k) (AV.ptr none)).length:=by simp;omega
 have hcut:=g2.cut hle
 have htk:((v.learned.map AK).take k++List.replicate ((v.learned.map AK).length - k) (AV.ptr none)).take k=(v.learned.take k).map AK:=by
  rw[qm (by simp;omega),rh,Nat.min_self,rS]
 rw[htk]at hcut
 refine⟨s',g1,g2.cut_op Try.underlying89 E5 hle,g3,g4,fun s'' hn hf hp=>?_⟩
 have hsame:∀j,s''.heap.get j=s'.heap.get j:=fun j=>by
  by_cases e:j=p
  ·rw[e];exact hp
  ·exact hf j e
 have st2:AH (fun _=>False) ow s' ow s'':=⟨by omega,fun _ _ _=>rfl,fun j _ _=>hsame j⟩
 have hbox:=(h.box.step g3 h.tag h.lt (hm 0 0 (by decide))).keep (hsame p)
 have hcut2:=hcut.step st2 (fun q=>q)
 obtain⟨s3,k1,k2,k3,k4⟩:=hbox.store (k:=1) (d:=FZ x.l k) (by simp) (t:=89) I6 hcut2.isCell.1 hcut2.isCell.2
 have st3:AH (· = (p,0,0)) ow s'' ow s3:=⟨by omega,fun _ _ _=>rfl,fun j _ hj=>k4 j fun e=>hj (by rw[e];exact h.tag)⟩
 have hm0:∀a i,a≠0→¬ ((p,a,i):Bh)=(p,0,0):=fun a i ha=>CM ha
 have stt:AH (fun t=>t=(p,3,0)∨t=(p,0,0)) ow s ow s3:=((g3.mono fun _ q=>Or.inl q).trans (st2.mono fun _ q=>q.elim)).trans (st3.mono fun _ q=>Or.inr q)
 have hmm:∀a i,a≠0→a≠3→¬ (((p,a,i):Bh)=(p,3,0)∨((p,a,i):Bh)=(p,0,0)):=fun a i h0 h3 q=>q.elim (hm a i h3) (hm0 a i h0)
 refine⟨s3,k1,{ box:=k2,tag:=h.tag,lt:=by omega,w:=h.w.step stt (hmm 1 0 (by decide) (by decide)) (fun j=>hmm 2 j (by decide) (by decide)),learned:=hcut2.step st3 (hm0 3 0 (by decide)),value:=h.value.step stt (hmm 4 0 (by decide) (by decide)),level:=h.level.step stt (hmm 5 0 (by decide) (by decide)),why:=h.why.step stt (hmm 6 0 (by decide) (by decide)),heat:=h.heat.step stt (hmm 7 0 (by decide) (by decide)),phase:=h.phase.step stt (hmm 8 0 (by decide) (by decide)),trail:=h.trail.step stt (hmm 9 0 (by decide) (by decide)),limits:=h.limits.step stt (hmm 10 0 (by decide) (by decide)),model:=h.model.step stt (hmm 11 0 (by decide) (by decide)),trace:=h.trace.step stt (hmm 12 0 (by decide) (by decide)) (hmm 13 0 (by decide) (by decide)),cls:=fun c l hc=>(h.cls c l hc).step stt (hmm 14 c (by decide) (by decide)) (hmm 15 c (by decide) (by decide)) },stt.mono fun t ht=>?_⟩
 rcases ht with e | e<;>rw[e]<;>exact⟨rfl,by simp,by simp,by simp⟩
theorem VF{a:Int}(h:0≤a∧a≤100000000):AL Try.prog .quo 3 (iv a) (iv 8)=some (iv (a / 8)):=by
 obtain⟨h1,h2⟩:=h
 have e:IntKind.i64.wrap (a.tdiv 8)=a / 8:=by
  rw[← Ei,sF h1]
  exact EA ⟨by omega,by omega⟩
 show AI (BY .i64 .i64) ((ES Try.prog (Op.intDiv .quo .i64 a 8)).bind ofValue)=_
 have hk:BY .i64 .i64=true:=rfl
 rw[hk]
 unfold Op.intDiv
 rw[if_neg (by decide)]
 dsimp only
 rw[e]
 rfl
theorem WD{A:List Nat}{i j c:Nat}{Ls:List Nat}(hl:A.length=Ls.length)(hij:i<j)(hj:j≤Ls.length)(hd:A.drop j=Ls.drop j):(A.set i c).take (i+1)=A.take i++[c]∧(A.set i c).drop j=Ls.drop j∧(A.set i c).length=Ls.length:=by
 refine⟨?_,?_,by rw[qQ];exact hl⟩
 ·apply List.ext_getElem?
  intro m
  rcases rP m i with q | q | q
  ·rw[qq (by omega),rx (by omega),qX (by rw[qb];omega),qq q]
  ·subst q
   rw[qq (by omega),List.getElem?_set_self (by omega),qY (by rw[qb];omega),qb,show m - min m A.length=0 by omega]
   rfl
  ·rw[qZ (by rw[qb,qQ];omega),qZ (by rw[qM,qb];simp;omega)]
 ·rw[← hd]
  apply List.ext_getElem?
  intro m
  rw[qk,qk,rx (by omega)]
theorem aV       {E : BN}  (hE : Good E) {p B N n : Nat} {xl : AV} {Ls : List Nat} (hn : n < 100000000) (hl : Ls.length ≤ 1000000) {ow0 : Ow} {s0 : AF}  {R : Sv × List Nat} {Q : A0   → Prop} (x2 x6 : AV)
    (hq:∀s' ow' x' w A i y5 y7 y8,i≤A.length→UF ow' s' p x' xl w A B N Ls.length→R=(w,A.take i)→AH (Ee p) ow0 s0 ow' s'→Q ⟨.exit 0,[xl,.func 97 [] [.ptr (some (B,0)),.ptr (some (N,0))],x2,iv (i:Int),iv (Ls.length:Int),y5,x6,y7,y8],[],s'⟩):
    ∀ (l:List Nat) (j i:Nat) (s:AF) (ow:Ow) (x:Sf) (w:Sv) (A:List Nat) (x5 x7 x8:AV),Ls.drop j=l→j≤Ls.length→i<j→A.length=Ls.length→A.drop j=Ls.drop j→UF ow s p x xl w A B N j→IH n Ls j w→R=((Bk l j w).1,A.take i++(Bk l j w).2)→AH (Ee p) ow0 s0 ow s →
      WC E none (.loop LX) Q [xl,.func 97 [] [.ptr (some (B,0)),.ptr (some (N,0))],x2,iv (i:Int),iv (j:Int),x5,x6,x7,x8] [] s:=by
  intro l
  induction l with
  | nil =>
    intro j i s ow x w A x5 x7 x8 hd hj hij hAl hAd hD hI hR hst
    have:=CH hd hj
    subst this
    have hbuf:=hD.sat.learned
    rw[hD.xl]at hbuf
    have ln:∀s,Aq Try.prog s 89 xl=some (iv (Ls.length:Int)):=fun s=>by
      have:=hbuf.len Try.underlying89 s
      rw[qK]at this
      rw[this]
      show some (iv ((A.length:Nat):Int))=_
      rw[hAl]
    refine WC.loop' ?_
    simp only[LX,aE,ln,qd,decide_false,Qa,Qb,Qc,Qd,Qf,Qh,Qj,Qk,Qm,Qn,true_and,Qo,Qp,Qq,Qr,Qs,Qv,Qw,Qy,Qz,Rq]
    refine hq s ow x w A i _ _ _ (by omega) hD ?_ hst
    rw[hR]
    simp[Bk]
  | cons c l ih =>
    intro j i s ow x w A x5 x7 x8 hd hj hij hAl hAd hD hI hR hst
    obtain⟨hlt,hx,hd'⟩:=Be hd
    have hjj:decide ((j:Int)<(Ls.length:Int))=true:=decide_eq_true (by omega)
    have e3:=Ai Try.prog 3 (j:Int) 1 ⟨by omega,by omega⟩
    have hcast:((j:Int)+1)=((j+1:Nat):Int):=by omega
    have e4:=Ai Try.prog 3 (i:Int) 1 ⟨by omega,by omega⟩
    have hcast2:((i:Int)+1)=((i+1:Nat):Int):=by omega
    have hxA:A[j]? = some c:=by
      have h1:(A.drop j)[0]? = (Ls.drop j)[0]? := by rw[hAd]
      rw[qk,qk,rN]at h1
      rw[h1];exact hx
    have hAd':A.drop (j+1)=Ls.drop (j+1):=by
      have:=congrArg (List.drop 1) hAd
      rw[rL,rL]at this
      exact this
    have hbuf:=hD.sat.learned
    rw[hD.xl]at hbuf
    have ln:∀s,Aq Try.prog s 89 xl=some (iv (Ls.length:Int)):=fun s=>by
      have:=hbuf.len Try.underlying89 s
      rw[qK]at this
      rw[this]
      show some (iv ((A.length:Nat):Int))=_
      rw[hAl]
    have i1:=hbuf.addr Try.underlying89 E5 (k:=j) (by rw[qK];show j<A.length;omega)
    have i2:=hbuf.get (t:=92) K0 (k:=j) (u:=AK c) (by rw[qs];show(A[j]?).map AK=_;rw[hxA];rfl)
    have hone:=hD.one hE hn hI hlt hl (qL hx)
    simp only[AK]at hone i2
    refine WC.loop' ?_
    generalize hW:WC E none (Ac.loop LX) Q=W at ih ⊢
    simp only[LX,aE,ln,hjj,j0,i1,i2,j6,qo,rK,Qa,Qb,Qc,Qd,Qe,Qf,Qh,Qj,Qk,Qm,Qn,true_and,Qo,Qp,Qq,Qr,Qs,Qu,Qw,Qy,Qz,Rq]
    refine hone.mono ?_
    rintro _ s' ⟨ow',x',rfl,g1,g2⟩
    have hst':=hst.trans g2
    cases hg:DI w c (j+1)with
    | true =>
      simp only[TH,e3,hcast,Qb,Qc,Qd,Qf,Qh,Qi,Qj,Qk,Qm,Qn,true_and,Qo,Qp,Qq,Qr,Qs,Qv,Ya,Rx]
      refine ih (j+1) i s' ow' x' (Ca w c (j+1)) A _ _ _ hd' hlt (by omega) hAl hAd' g1 (hI.step hlt c _) ?_ hst'
      rw[hR]
      simp[Bk,hg]
    | false =>
      obtain⟨q1,q2,q3⟩:=WD (A:=A) (i:=i) (c:=c) (j:=j+1) (Ls:=Ls) hAl (by omega) hlt hAd'
      have hb':=g1.sat.learned
      rw[g1.xl]at hb'
      have i3:=hb'.addr Try.underlying89 E5 (k:=i) (by rw[qK];show i<A.length;omega)
      obtain⟨s2,k1,k2,k3,k4⟩:=g1.sat.put_learned (k:=i) (by show i<A.length;omega) c
      rw[g1.xl]at k1
      simp only[AK]at k1
      have k2:Ah ow' s2 p x' { Ca w c (j+1)with learned:=A.set i c }:=k2
      have hn3:∀a,a=21∨a=24→¬ ((p,a,0):Bh)=(p,3,0):=fun a ha e=>by
        injection e with _ e
        injection e with e _
        omega
      have g1':UF ow' s2 p x' xl (Ca w c (j+1)) (A.set i c) B N (j+1):=⟨k2,g1.xl,g1.hB.keep (k3.heap B g1.lB (by rw[g1.tB];exact hn3 21 (.inl rfl))),g1.tB,by rw[k4];exact g1.lB,g1.hN.keep (k3.heap N g1.lN (by rw[g1.tN];exact hn3 24 (.inr rfl))),g1.tN,by rw[k4];exact g1.lN⟩
      have st2:AH (Ee p) ow' s' ow' s2:=k3.mono fun t ht=>by rw[ht];exact .inl ⟨rfl,by simp,by simp,by simp⟩
      simp only[j7,i3,BV,k1,AU,j8,e4,hcast2,TH,e3,hcast,Qb,Qc,Qd,Qf,Qh,Qi,Qj,Qk,Qm,Qn,true_and,Qo,Qp,Qq,Qr,Qs,Qu,Yb,Rx]
      refine ih (j+1) (i+1) s2 ow' x' (Ca w c (j+1)) (A.set i c) _ _ _ hd' hlt (by omega) q3 q2 g1' (hI.step hlt c _) ?_ (hst'.trans st2)
      rw[hR,q1]
      simp[Bk,hg]
def mw(ow0:Ow)(s0:AF)(p B:Nat)(R:Sv×List Nat)(r:AV)(s':AF):Prop:=
 r.isCell=true∧r.cells=[r]∧As s' B (AK p)∧∃s3 ow' x',AM Try.prog s' 89 (.ptr (some (p,1))) r=some s3∧Ah ow' s3 p x' { R.1 with learned:=R.2 }∧AH (Ee p) ow0 s0 ow' s3
theorem mO{E:BN}(hE:Good E){ow:Ow}{s:AF}{p:Nat}{x:Sf}{xl:AV}{w:Sv}{Ls:List Nat}{B N n:Nat}(h:UF ow s p x xl w Ls B N 0)(hn:n<100000000)(hI:IH n Ls 0 w)(hl:Ls.length≤1000000):
    WF E 96 [xl,.func 97 [] [.ptr (some (B,0)),.ptr (some (N,0))]] (mw ow s p B (Bk Ls 0 w)) s:=by
  refine hE.go mJ (by decide) rfl ?_
  simp only[qE,jw,jx,Qa,Qb,Qc,Qd,Qf,Qh,Qi,Qj,Qk,Ql,Qm,Qn,true_and,Qo,Qp,Qq,Qr,Qs,Qw,Qx,Rc,Rf,Rg,Rh,Yc]
  refine(mP hE h hn hI hl).mono ?_
  rintro _ s1 ⟨ow1,x1,w1,st1,⟨rfl,g1,g2⟩ | ⟨i,rfl,g0,g1,g2,g3⟩⟩
  · have d1:decide ((-1:Int)=-1)=true:=rfl
    simp only[aD,jy,Qb,Qc,Qd,Qf,Qh,Qi,Qj,Qm,Qn,true_and,Qo,Qp,Qq,Qr,Qs,Rv]
    have hb:=g1.sat.learned
    obtain⟨s3,k1,k2,k3,k4⟩:=g1.sat.set_learned (u:=xl) (y:=Ls) (by rw[← g1.xl];exact hb)
    rw[g2]
    exact⟨by rw[← g1.xl];exact hb.isCell.1,by rw[← g1.xl];exact hb.isCell.2,g1.hB,s3,ow1,_,k1,k2,st1.trans k3.bD⟩
  · have d1 : decide ((i : Int) = -1) = false := decide_eq_false (by omega)
    have e4:=Ai Try.prog 3 (i:Int) 1 ⟨by omega,by omega⟩
    have hcast2:((i:Int)+1)=((i+1:Nat):Int):=by omega
    simp only[aD,d1,jz,e4,hcast2,Qb,Qc,Qd,Qf,Qh,Qi,Qj,Qk,Qm,Qn,true_and,Qo,Qp,Qq,Qr,Qs,Qv,Rv]
    refine aV hE hn hl (ow0:=ow) (s0:=s) (R:=Bk Ls 0 w) _ _ ?_ (Ls.drop (i+1)) (i+1) i s1 ow1 x1 w1 Ls _ _ _ rfl g0 (by omega) rfl rfl g1 g2 g3 st1
    intro s2 ow2 x2 w2 A m y5 y7 y8 hm q1 q2 q3
    have hkm:m≤(A.map AK).length:=by rw[qK];exact hm
    have hbuf:=q1.sat.learned
    have hrest:=(hbuf.rest Try.underlying89 E5 (k:=m) hkm).1
    obtain⟨s3,c1,c2,c3,c4,c5⟩:=q1.sat.clear_cut (k:=m) hm
    rw[q1.xl]at hrest c1 c2
    have hn3:¬ ((p,21,0):Bh)=(p,3,0):=fun e=>by injection e with _ e;injection e with e _;cases e
    have hB3:As s3 B (AK p):=q1.hB.keep (c3.heap B q1.lB (by rw[q1.tB];exact hn3))
    obtain⟨s4,d1,d2,d3⟩:=c5 s3 rfl (fun _ _=>rfl) rfl
    simp only[if_true,aB,hrest,c1,aC,c2,Qb,Qc,Qd,Qf,Qh,Qj,Qk,Qm,Qn,true_and,Qo,Qp,Qq,Qr,Qs,Qw,Qy,Rb,Re]
    have hcell:(FZ xl m).isCell=true∧(FZ xl m).cells=[FZ xl m]:=by
      have:=d2.learned.isCell
      rw[← q1.xl]
      exact this
    rw[q1.xl]at d1
    refine⟨hcell.1,hcell.2,hB3,s4,ow2,{ x2 with l:=FZ x2.l m },d1,?_,q3.trans d3.bD⟩
    rw[q2]
    exact d2
theorem TP{E:BN}(hE:Good E){ow:Ow}{s:AF}{p:Nat}{x:Sf}{v:Sv}(h:Ah ow s p x v){n:Nat}(hn:n<100000000)(hr:v.room≤(v.learned.length:Int))(hr0:0≤v.room∧v.room≤100000000)(hI:IH n v.learned 0 v)(hl:v.learned.length≤1000000):
  WF E 69 [AK p] (fun _ s'=>∃ow' x',Ah ow' s' p x' (Ia v)∧AH (Ee p) ow s ow' s') s:=by
 have hptr:∀i,Made.val i .ptr=.ptr (some (i,0)):=fun _=>rfl
 have hbox:DS 44 (AV.ptr (some (p,0)))=some (AO 44 0 [AK p],.ptr):=by simp[DS,AK,AV.cells]
 have hst:AH (fun _=>False) ow s (ext ow s.next (p,21,0)) (newObj s (AO 44 0 [AK p])):=AH.new _ ow s _ _
 have h1:=h.keep hst (fun _ q=>q.elim)
 have b1:As (newObj s (AO 44 0 [AK p])) s.next (AK p):=As.new
 have tB1:(ext ow s.next (p,21,0)) s.next=(p,21,0):=C2 (qI _)
 have lB1:s.next<(newObj s (AO 44 0 [AK p])).next:=qn _
 have st01:AH (Ee p) ow s (ext ow s.next (p,21,0)) (newObj s (AO 44 0 [AK p])):=hst.mono fun _ q=>q.elim
 generalize hs1:newObj s (AO 44 0 [AK p])=s1 at *
 generalize how1:ext ow s.next (p,21,0)=ow1 at *
 generalize hB:s.next=B at *
 have l1:=b1.load Dy
 have ln:∀s,Aq Try.prog s 89 x.l=some (iv (v.learned.length:Int)):=fun s=>by
  have:=h1.learned.len Try.underlying89 s
  rw[qK]at this
  exact this
 have hd:decide ((v.learned.length:Int)<v.room)=false:=decide_eq_false (by omega)
 have e1:AL Try.prog .quo 3 (iv v.room) (iv 8)=some (iv (v.room / 8)):=VF hr0
 have hq0:0≤v.room / 8∧v.room / 8≤v.room:=by omega
 have e2:=Ai Try.prog 3 v.room (v.room / 8) ⟨by omega,by omega⟩
 obtain⟨s2,k1,k2,k3,k4⟩:=h1.set_room (v.room+v.room / 8)
 obtain⟨b2,tB2,lB2⟩:=b1.stepB k3 tB1 lB1 (by decide)
 have l2:=b2.load Dy
 have hal:Bi Try.prog 3=some (AO 3 0 [iv 0],.ptr):=by simp[Bi,RN,AV.cells]
 have st23:AH (fun _=>False) ow1 s2 (ext ow1 s2.next (p,24,0)) (newObj s2 (AO 3 0 [iv 0])):=AH.new _ ow1 s2 _ _
 have h3:=k2.keep st23 (fun _ q=>q.elim)
 have c3:As (newObj s2 (AO 3 0 [iv 0])) s2.next (iv 0):=As.new
 have tN3:(ext ow1 s2.next (p,24,0)) s2.next=(p,24,0):=C2 (qI _)
 have lN3:s2.next<(newObj s2 (AO 3 0 [iv 0])).next:=qn _
 obtain⟨b3,tB3,lB3⟩:=b2.stepB (st23.mono fun _ q=>q.elim) tB2 lB2 (by decide)
 have st3D:AH (Ee p) ow1 s2 (ext ow1 s2.next (p,24,0)) (newObj s2 (AO 3 0 [iv 0])):=st23.mono fun _ q=>q.elim
 generalize hs3:newObj s2 (AO 3 0 [iv 0])=s3 at *
 generalize how3:ext ow1 s2.next (p,24,0)=ow3 at *
 generalize hN:s2.next=N at *
 obtain⟨s4,f1,f2,f3,f4⟩:=c3.store (d:=iv ((0:Nat):Int)) (t:=3) Bt rfl rfl
 have f1:AM Try.prog s3 3 (.ptr (some (N,0))) (iv 0)=some s4:=f1
 have st4:AH (· = (p,24,0)) ow3 s3 ow3 s4:=⟨by omega,fun _ _ _=>rfl,fun j _ hj=>f4 j fun e=>hj (by rw[e];exact tN3)⟩
 have h4:=h3.keep16 st4 (fun a i ha q=>by injection q with _ q;injection q with q;omega)
 have hBN:B≠N:=fun e=>by rw[e,tN3]at tB3;injection tB3 with _ q;injection q with q;cases q
 have b4:As s4 B (AK p):=b3.keep (f4 B hBN)
 have l4:=b4.load Dy
 have hD:UF ow3 s4 p x x.l { v with room:=v.room+v.room / 8 } v.learned B N 0:=⟨h4,rfl,b4,tB3,by omega,f2,tN3,by omega⟩
 have hdel:=mO hE hD hn (Ls:=v.learned) ⟨hI.why,hI.whc,hI.cls,hI.trc⟩ hl
 have ld1:=h1.ld_l
 have ld2:=h1.ld_room
 have ld4:=h4.ld_l
 have eqp:∀a:Nat×Nat,FY (.ptr (some a)) (.ptr (some a))=true:=fun a=>by obtain⟨i,o⟩:=a;simp[FY]
 have stA:AH (Ee p) ow s ow3 s4:=((st01.trans k3.bD).trans st3D).trans (st4.mono fun t ht=>.inr ht)
 refine hE.go aN (by decide) rfl ?_
 simp only[AK]at hbox l1 l2 l4 hs1
 simp only[pC,ZP,ZQ,AK,hbox,hptr,hs1,hB,l1,AG,Oe,Um,ld1,ld2,ln,hd,ib,e1,e2,BV,k1,AU,ic,hal,hs3,hN,f1,ie,l4,ld4,rM,rF,Qa,Qb,Qc,Qd,Qf,Qh,Qi,Qj,Qk,Ql,Qm,Qn,true_and,Qo,Qp,Qq,Qr,Qs,Qv,Qw,Qx,Rc,Rd,Re,Rf,Rq]
 refine hdel.mono ?_
 rintro r s5 ⟨r1,r2,r3,s6,ow6,x6,r4,r5,r6⟩
 have l5:=r3.load Dy
 simp only[AK]at l5
 simp only[BX,At,l5,eqp,AG,Oe,r4,Qd,Qj,Qk,Qm,Qn,true_and,and_true,Qq,Qr]
 exact⟨ow6,x6,r5,stA.trans r6⟩
structure Hs(n:Nat)(F:List (List Int))(J:Sv→Prop):Prop where
 same:∀ {v v':Sv},J v→Bx (BE v.cl) (BE v'.cl)→v'.trace=v.trace→v'.broken=v.broken→J v'
 fail:∀ {v:Sv} {h d:Nat} {l:Int},J v→CT n (hide v)→CI n F h (hide v)→v.limits=[]→Fy (hide v) d l→lv v l=(v.limits.length:Int)→J (C3 v)
 lrn:∀ {v:Sv} {h d:Nat} {l:Int} {r:EC} {cn:Nat},J v→v.broken=false→CT n (hide v)→CI n F h (hide v)→v.limits≠[]→Fy (hide v) d l→lv v l=(v.limits.length:Int)→B4 (hide v) d Gi v.trail.length 0 r→EU (hide v) r→v.cl cn=none→J (Es { v with trace:=v.trace++[(false,AT v r)] } cn (AT v r,true,false))
 drop:∀ {v:Sv} {c:Nat} {ls:List Int},J v→v.broken=false→v.cl c=some (ls,true,false)→A9 n ls→ls.length≤n→J { v with cl:=AP v.cl c (ls,true,true),trace:=v.trace++[(true,ls)] }
structure GH(n:Nat)(F:List (List Int))(Ls:List Nat)(v:Sv):Prop where
 inv:A7 n v
 all:∀c ls b,v.cl c=some (ls,b)→A9 n ls
 why:∀d,some d∈v.why→v.cl d≠none
 lrn:∀c∈Ls,∃ls,v.cl c=some (ls,true,false)
 lnd:Ls.Nodup
 cov:∀f∈F,(∃y∈f,-y∈f)∨∃c ls,v.cl c=some (ls,false,false)∧∀y∈ls,y∈f
theorem GH.cover{n:Nat}{F:List (List Int)}{Ls:List Nat}{v:Sv}(h:GH n F Ls v):∀f∈F,(∃y∈f,-y∈f)∨∃c ls b,(hide v).cl c=some (ls,b)∧∀y∈ls,y∈f:=fun f hf=>by
 rcases h.cov f hf with q | ⟨c,ls,q1,q2⟩
 ·exact .inl q
 ·exact .inr ⟨c,ls,_,Cq q1 rfl,q2⟩
def Ih(v:Sv)(c:Nat)(ls:List Int):Sv:={ v with cl:=AP v.cl c (ls,true,true),trace:=v.trace++[(true,ls)] }
theorem HV{cl:Nat→Option A6}{c d:Nat}{ls:List Int}:BE (AP cl c (ls,true,true)) d=if d=c then none else BE cl d:=by
 unfold BE AP
 by_cases e:d=c
 ·rw[if_pos e,if_pos e];rfl
 ·rw[if_neg e,if_neg e]
theorem Jg{cl:Nat→Option A6}{c d:Nat}{ls:List Int}:BF (AP cl c (ls,true,true)) d=if d=c then false else BF cl d:=by
 unfold BF AP
 by_cases e:d=c
 ·rw[if_pos e,if_pos e];rfl
 ·rw[if_neg e,if_neg e]
theorem GH.gone{n:Nat}{F:List (List Int)}{c:Nat}{Ls:List Nat}{v:Sv}(h:GH n F (c::Ls) v){ls:List Int}(hc:v.cl c=some (ls,true,false)):GH n F Ls (Ih v c ls):=by
  have get:∀ {d:Nat} {ms:List Int} {t:Bool×Bool},(Ih v c ls).cl d=some (ms,t)→(d=c∧ms=ls∧t=(true,true))∨(d≠c∧v.cl d=some (ms,t)):=fun q=>Bj q
  have put:∀ {d:Nat},d≠c→(Ih v c ls).cl d=v.cl d:=fun {d} e=>by
    show AP v.cl c _ d=_
    unfold AP
    rw[if_neg e]
  have hcc:(Ih v c ls).cl c=some (ls,true,true):=Ao _ _ _
  obtain⟨hnc,hnd⟩:=rf.1 h.lnd
  obtain⟨⟨hz,hv,hli,hlm⟩,g2,g3,g4,g5⟩:=h.inv
  refine⟨⟨⟨⟨hz.small,hz.w,hz.value,hz.level,hz.why,hz.heat,hz.phase,hz.trail,hz.limits⟩,hv,hli,hlm⟩,g2,g3,g4,fun L hL d hd=>?_⟩,fun d ms t q=>?_,fun d q=>?_,fun d hd=>?_,hnd,fun f hf=>?_⟩
  · obtain⟨ms,t,q1,q2,q3⟩:=g5 L hL d hd
    by_cases e:d=c
    · rw[e,hc]at q1
      injection q1 with q1
      injection q1 with q1 _
      subst q1
      exact⟨ls,(true,true),by rw[e];exact hcc,q2,q3⟩
    · exact⟨ms,t,by rw[put e];exact q1,q2,q3⟩
  · rcases get q with ⟨_, e, _⟩ | ⟨_, q⟩
    · rw[e];exact h.all c ls _ hc
    · exact h.all d ms t q
  · by_cases e : d = c
    · rw[e,hcc];exact fun z=>by cases z
    · rw[put e];exact h.why d q
  · obtain⟨ms,q⟩:=h.lrn d (qS _ hd)
    exact⟨ms,by rw[put fun e=>hnc (e▸hd)];exact q⟩
  · rcases h.cov f hf with q | ⟨d, ms, q1, q2⟩
    · exact .inl q
    · refine .inr ⟨d, ms, ?_, q2⟩
      rw[put fun e=>by rw[e,hc]at q1;injection q1 with q1;injection q1 with _ q1;injection q1 with q1 _;cases q1]
      exact q1
theorem CI.gone {n h : Nat} {F : List (List Int)} {c : Nat} {Ls : List Nat} {v : Sv} (k : CI n F h (hide v)) (ha : GH   n F (c :: Ls) v) {ls : List Int} (hc : v.cl c = some (ls, true, false)) (hh : ls.any (Ii    v c) = false) : CI n F h (hide (Ih    v c ls)) := by
  have hg:=ha.gone hc
  refine k.sub hg.inv.hide rfl rfl rfl rfl rfl (fun d l q=>?_) (fun j d q=>?_) (fun j d l q q2=>?_) (fun j=>?_) (fun i x d ms t hx hw hd h0=>?_) hg.cover
  · have q:BE (AP v.cl c (ls,true,true)) d=some l:=q
    rw[HV]at q
    split at q
    · cases q
    · exact q
  · have q:d∈(DK (AP v.cl c (ls,true,true)) v.watches).getD j []:=q
    show d∈(DK v.cl v.watches).getD j []
    rw[FQ]at q ⊢
    obtain⟨q1,q2⟩:=List.mem_filter.1 q
    rw[Jg]at q2
    split at q2
    · cases q2
    · exact List.mem_filter.2 ⟨q1,q2⟩
  · have q:d∈(DK v.cl v.watches).getD j []:=q
    show d∈(DK (AP v.cl c (ls,true,true)) v.watches).getD j []
    have q2:BE (AP v.cl c (ls,true,true)) d=some l:=q2
    rw[FQ]at q ⊢
    rw[HV]at q2
    obtain⟨q3,q4⟩:=List.mem_filter.1 q
    refine List.mem_filter.2 ⟨q3,?_⟩
    rw[Jg]
    split at q2
    · cases q2
    · rename_i e
      rw[if_neg e];exact q4
  · have hn:((DK v.cl v.watches).getD j []).Nodup:=k.cw.wnd j
    show((DK (AP v.cl c (ls,true,true)) v.watches).getD j []).Nodup
    rw[FQ]at hn ⊢
    have e:List.filter (BF (AP v.cl c (ls,true,true))) (v.watches.getD j [])=List.filter (BF (AP v.cl c (ls,true,true))) (List.filter (BF v.cl) (v.watches.getD j [])):=by
      rw[List.filter_filter]
      refine List.filter_congr fun d _=>?_
      rw[Jg]
      split
      · rfl
      · simp
    rw[e]
    exact hn.filter _
  · show BE (AP v.cl c (ls,true,true)) d=some (ms,t)
    rw[HV]
    have hd:BE v.cl d=some (ms,t):=hd
    rw[if_neg fun e=>?_]
    · exact hd
    · subst e
      obtain⟨q1,q2⟩:=E7 hd
      rw[hc]at q1
      injection q1 with q1
      injection q1 with q1 _
      subst q1
      have hw:v.why.getD x.natAbs none=some d:=hw
      have hne:ls≠[]:=(k.ct.cls d ls t hd).2.1
      have hm:x∈ls:=by
        rw[← h0]
        exact qL (AR (List.length_pos_iff.2 hne))
      have:ls.any (Ii v d)=true:=List.any_eq_true.2 ⟨x,hm,by unfold Ii;exact decide_eq_true hw⟩
      rw[hh]at this
      cases this
structure II(v v':Sv):Prop where
 watches:v'.watches=v.watches
 learned:v'.learned=v.learned
 why:v'.why=v.why
 trail:v'.trail=v.trail
 limits:v'.limits=v.limits
 head:v'.head=v.head
 broken:v'.broken=v.broken
 model:v'.model=v.model
 many:v'.many=v.many
 room:v'.room=v.room
theorem II.refl(v:Sv):II v v:=⟨rfl,rfl,rfl,rfl,rfl,rfl,rfl,rfl,rfl,rfl⟩
theorem II.trans{a b c:Sv}(h:II a b)(k:II b c):II a c:=
 ⟨k.watches.trans h.watches,k.learned.trans h.learned,k.why.trans h.why,k.trail.trans h.trail,k.limits.trans h.limits,k.head.trans h.head,k.broken.trans h.broken,k.model.trans h.model,k.many.trans h.many,k.room.trans h.room⟩
theorem ac{v:Sv}{c m:Nat}{ls:List Int}(hc:v.cl c=some (ls,true,false))(hg:DI v c m=false):Ca v c m=v:=by
 unfold Ca
 rw[hc]
 dsimp only
 rw[hg,if_neg (by decide),Pk hc]
theorem aa{v:Sv}{c m:Nat}{ls:List Int}(hc:v.cl c=some (ls,true,false))(hg:DI v c m=true):Ca v c m=Ih v c ls∧2<ls.length∧ls.any (Ii v c)=false:=by
 constructor
 ·unfold Ca
  rw[hc]
  dsimp only
  rw[hg,if_pos rfl]
  rfl
 ·unfold DI at hg
  rw[hc]at hg
  dsimp only at hg
  rw[Bool.and_eq_true,Bool.and_eq_true]at hg
  exact⟨of_decide_eq_true hg.1.2,by simpa using hg.2⟩
theorem Ja        {n h : Nat} {F : List (List Int)} {J : Sv → Prop} (S : Hs     n F J) : ∀ (Ls : List Nat) (m : Nat) (v : Sv), CI n F h (hide v) → GH   n F Ls v → J v → v.broken = false →
    CI n F h (hide (Bk Ls m v).1)∧GH n F (Bk Ls m v).2 (Bk Ls m v).1∧J (Bk Ls m v).1∧II v (Bk Ls m v).1∧(Bk Ls m v).2.Sublist Ls∧(Bk Ls m v).1.trace.length+(Bk Ls m v).2.length=v.trace.length+Ls.length∧∀d,d ∉ Ls→(Bk Ls m v).1.cl d=v.cl d
  | [],m,v,hci,ha,hj,hb=>⟨hci,ha,hj,II.refl v,List.Sublist.refl _,rfl,fun _ _=>rfl⟩
  | c::Ls,m,v,hci,ha,hj,hb=>by
    obtain⟨ls,hc⟩:=ha.lrn c qR
    obtain⟨hnc,hnd⟩:=rf.1 ha.lnd
    unfold Bk
    dsimp only
    cases hg:DI v c (m+1)with
    | false =>
      rw[if_neg (by decide),ac hc hg]
      obtain⟨i1,i2,i3,i4,i5,i6,i7⟩:=Ja S Ls (m+1) v hci ⟨ha.inv,ha.all,ha.why,fun d hd=>ha.lrn d (qS _ hd),hnd,ha.cov⟩ hj hb
      refine⟨i1,⟨i2.inv,i2.all,i2.why,fun d hd=>?_,?_,i2.cov⟩,i3,i4,i5.cons_cons c,by simp only[qh];omega,fun d hd=>i7 d fun q=>hd (qS _ q)⟩
      · rcases qp.1            hd with e | e
        · rw[e,i7 c hnc];exact⟨ls,hc⟩
        · exact i2.lrn d e
      · exact rf.2 ⟨fun q=>hnc (i5.subset q),i2.lnd⟩
    | true =>
      obtain⟨e,e2,e3⟩:=aa hc hg
      rw[if_pos rfl,e]
      obtain⟨i1,i2,i3,i4,i5,i6,i7⟩:=Ja S Ls (m+1) (Ih v c ls) (hci.gone ha hc e3) (ha.gone hc) (S.drop hj hb hc (hci.ct.cls c ls _ (Cq hc rfl)).1 (OW (hci.ct.cls c ls _ (Cq hc rfl)).1 (hci.ct.cls c ls _ (Cq hc rfl)).2.2.1)) hb
      refine⟨i1,i2,i3,II.trans (b:=Ih v c ls) ⟨rfl,rfl,rfl,rfl,rfl,rfl,rfl,rfl,rfl,rfl⟩ i4,i5.cons c,?_,fun d hd=>?_⟩
      · have e4:(Ih v c ls).trace.length=v.trace.length+1:=by
          show(v.trace++[_]).length=_
          rw[qM];rfl
        rw[i6,e4,qh]
        omega
      · rw[i7 d fun q=>hd (qS _ q)]
        show AP v.cl c _ d=_
        unfold AP
        rw[if_neg fun e=>hd (by rw[e];exact qR)]
end
end Go.Proofs.Ytilhhmkdcoajnaa.Am
