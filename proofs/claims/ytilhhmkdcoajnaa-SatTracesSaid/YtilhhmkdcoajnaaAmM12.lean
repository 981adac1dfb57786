/- The reference's Trace, of layer 19, all of it; conditions: sizes fit. -/
import Derived.Test.YtilhhmkdcoajnaaAmM11
import Derived.Test.YtilhhmkdcoajnaaAmM10
set_option linter.unusedVariables false
set_option linter.unusedSimpArgs false
set_option maxRecDepth 16000
namespace Go.Proofs.Ytilhhmkdcoajnaa.Am
open Go Go.Proofs
noncomputable section
theorem QU(L:List Int):∀M:List (List Int),(Gj M L).length≤M.length
 | []=>qI _
 | N::M=>by
  unfold Gj
  split
  ·simp
  ·have:=QU L M
   simp only[qh]
   omega
theorem WP{T:List (List Int)}{x:Bool×List Int}{M:List Int}(h:M∈Gf T x):M∈T∨M=x.2:=by
  unfold Gf at h
  split at h
  · exact .inl (QW h)
  · rcases List.mem_append.1 h with q | q
    · exact .inl q
    · exact .inr (List.mem_singleton.1 q)
theorem Jp        : ∀ (T : Ba)      (A : List (List Int)), (∀ M ∈ T.foldl Gf    A, M ∈ A ∨ ∃ x ∈ T, x.2 = M) ∧ (T.foldl Gf    A).length ≤ A.length + T.length
  | [],A=>⟨fun M h=>.inl h,qI _⟩
  | x::T,A=>by
    obtain⟨i1,i2⟩:=Jp T (Gf A x)
    refine⟨fun M h=>?_,?_⟩
    · rcases i1 M h with q | ⟨y, q1, q2⟩
      · rcases WP        q with z | z
        · exact .inl z
        · exact .inr ⟨x,qR,z.symm⟩
      · exact .inr ⟨y,qS _ q1,q2⟩
    · have:(Gf A x).length≤A.length+1:=by
        unfold Gf
        split
        · have:=QU x.2 A;omega
        · rw[qM];simp
      show(T.foldl Gf (Gf A x)).length≤_
      rw[qh]
      omega
theorem bJ{T:Ba}{M:List Int}(h:M∈Bf T):∃x∈T,x.2=M:=by
 rcases(Jp T []).1 M h with q | q
 ·cases q
 ·exact q
theorem bI(T:Ba):(Bf T).length≤T.length:=by
 have:=(Jp T []).2
 rw[rC,qU]at this
 exact this
theorem Nd{T:Ba}{k:Nat}{x:Bool×List Int}(h:T[k]? = some x):Bf (T.take (k+1))=Gf (Bf (T.take k)) x:=by
 rw[FB h,Fh]
section
variable{E:BN}
theorem PF           (hE : Good E) {s0 : AF}  {b n : Nat} (hb : b ≤ s0.next) (hn : n ≤ 1000) {tr : AV} {cs : List (List Int)} {T : Ba}      (hcs : ∀ L ∈ cs, (∀ y ∈ L, VL n y) ∧ L.length ≤ 1000) (hcl : cs.length ≤ 1000) (hT : Fd      b s0 tr T) (hTl : T.length ≤ 500000) (htr : ∀ x ∈ T, (∀ y ∈ x.2, VL n y) ∧ x.2.length ≤ n)
    (hrup:∀k L,T[k]? = some (false,L)→Ht (cs++Bf (T.take k)) L) (v1 v3:AV) {Q:A0→Prop}
    (hq:∀s' y4 y6 y7 y8 y9 y10 y11 y12 y13,BG s0.next s0 s'→Q ⟨.exit 0,[iv (n:Int),v1,tr,v3,y4,iv (cs.length:Int),y6,y7,y8,y9,y10,y11,y12,y13],[],s'⟩):
    ∀ (t:List (Bool×List Int)) (k:Nat) (s:AF) (w:AV) (us:List AV) (O:List Nat) (x7 x8 x9 x10 x11 x12 x13:AV),T.drop k=t→k≤T.length→BG s0.next s0 s→B8 s w us.length 1 us O→(∀j∈O,s0.next≤j)→An b s us (cs++Bf (T.take k)) →
      WC E none (.loop JO) Q [iv (n:Int),v1,tr,v3,w,iv (cs.length:Int),iv (k:Int),x7,x8,x9,x10,x11,x12,x13] [] s:=by
  have hln:∀s,Aq Try.prog s 33 tr=some (iv (T.length:Int)):=fun s=>by obtain⟨a,cap,rfl,_⟩:=hT;exact AW Try.underlying33
  intro t
  induction t with
  | nil =>
    intro k s w us O x7 x8 x9 x10 x11 x12 x13 hdr hk hold hd hO hr
    have:=CH hdr hk
    subst this
    refine WC.loop' ?_
    simp only[JO,UU,hln,qd,decide_false,Qa,Qb,Qc,Qd,Qf,Qh,Qj,Qk,Qm,Qn,true_and,Qo,Qp,Qq,Qr,Qs,Qv,Qw,Qx,Qy,Qz,Ra,Rb,Rq]
    exact hq _ _ _ _ _ _ _ _ _ _ hold
  | cons x t ih =>
    intro k s w us O x7 x8 x9 x10 x11 x12 x13 hdr hk hold hd hO hr
    obtain⟨d,L⟩:=x
    obtain⟨hlt,hx,hdr'⟩:=Be hdr
    have hkk:decide ((k:Int)<(T.length:Int))=true:=decide_eq_true (by omega)
    have e3:=Ai Try.prog 3 (k:Int) 1 ⟨by omega,by omega⟩
    have hcast:((k:Int)+1)=((k+1:Nat):Int):=by omega
    have hns:=hold.1
    obtain⟨a,cap,htv,hc⟩:=hT.old hold hb
    obtain⟨i,o,u,ha,hi,hl1,hl2,hu⟩:=hc k d L hx
    have e1:AC Try.prog 33 tr (iv (k:Int))=some (.ptr (some (i,o+k * 2))):=by rw[htv,ha];exact Al Try.underlying33 PE hlt
    have e2:AD Try.prog s 27 (.ptr (some (i,o+k * 2)))=some (.agg [.bool d,u]):=by simp[AD,nK,PE,P8 hl1 hl2]
    have hal:Bi Try.prog 27=some (AO 27 0 [.bool false,.slice none 0 (some 0)],.ptr):=by simp[Bi,RM,AV.cells]
    have hmv:∀i,Made.val i .ptr=.ptr (some (i,0)):=fun _=>rfl
    generalize hs1:newObj s (AO 27 0 [.bool false,.slice none 0 (some 0)])=s1
    have n1:s1.next=s.next+1:=by rw[← hs1];rfl
    have o1:BG s.next s s1:=by rw[← hs1];exact BG.new s _
    have bx1:KY s1 s.next (.bool false) (.slice none 0 (some 0)):=by
      obtain⟨r,h1,h2,h3,h4,h5,h6⟩:=Br 27 0 [.bool false,.slice none 0 (some 0)]
      exact⟨r,by rw[← hs1,AQ,if_pos rfl,h1],h2,h5,h6⟩
    obtain⟨s2,g1,g2,g3,g4⟩:=bx1.store (d0:=.bool d) (d1:=u) rfl hu.isCell.1
    have o2:BG s.next s s2:=⟨by omega,fun x hx=>by rw[g4 x (by omega),o1.2 x hx]⟩
    have n2:=o2.1
    have hold2:BG s0.next s0 s2:=hold.trans (o2.mono hns)
    have ld0:AD Try.prog s2 4 (.ptr (some (s.next,0)))=some (.bool d):=A4 kT g2.load0
    have ld1:∀s',BG s2.next s2 s'→AD Try.prog s' 23 (.ptr (some (s.next,0+1)))=some u:=fun s' h=>A4 DN (g2.keep (h.2 _ (by omega))).load1
    have JB:B8 s2 w us.length 1 us O:=hd.frame o2.1 fun j hj=>o2.2 j (hd.slot_lt j hj)
    have hr2:An b s2 us (cs++Bf (T.take k)):=hr.old (o2.mono (by omega))
    have hu2:AX b s2 u (Ax L):=hu.old (o2.mono (by omega)) (qI _)
    have hll:(Bf (T.take k)).length≤500000:=by
      have q1:=bI (T.take k)
      have q2:=List.length_take_le k T
      omega
    have hlits:∀N∈cs++Bf (T.take k),(∀y∈N,VL n y)∧N.length≤1000:=fun N hN=>by
      rcases List.mem_append.1 hN with q | q
      · exact hcs N q
      · obtain ⟨x, q1, rfl⟩ := bJ       q
        obtain⟨q2,q3⟩:=htr x (qg q1)
        exact⟨q2,by omega⟩
    have hul:us.length≤600000:=by rw[hr.1,qM];omega
    obtain⟨hL1,hL2⟩:=htr _ (qL hx)
    have hL1:∀y∈L,VL n y:=hL1
    have hL2:L.length≤n:=hL2
    refine WC.loop' ?_
    generalize hW:WC E none (Ac.loop JO) Q=W
    cases d with
    | true =>
      simp only[JO,UU,Yp,hln,hkk,e1,e2,hal,hmv,hs1,BV,g1,AU,Yq,Od,ld0,gY,Qa,Qb,Qc,Qd,Qf,Qh,Qj,Qk,Qm,Qn,true_and,Qo,Qp,Qq,Qr,Qs,Qu,Qw,Qx,Qy,Qz,Ra,Rb,Rq]
      refine Tr hE (s0:=s2) (b:=b) (cs:=cs) (M:=Bf (T.take k)) (by omega) JB hr2 hu2 (by rw[qM];omega) (fun N hN=>by have:=(hlits N hN).2;omega) (by omega) (bx:=s.next) ld1 _ _ _ _ _ _ _ _ _ ?_ (Bf (T.take k)) 0 s2 _ _ rfl (qO _) (BG.refl _ _) (fun x hx=>by simp at hx)
      intro s3 v' us' O' y8 y11 y12 h1 h2 h3 h4
      simp only[if_true,Sl,e3,hcast,Qb,Qc,Qd,Qf,Qh,Qi,Qj,Qk,Qm,Qn,true_and,Qo,Qp,Qq,Qr,Qs,Qw,Qy,Rb]
      rw[← hW]
      exact ih (k+1) s3 v' us' O' _ _ _ _ _ _ _ hdr' hlt (hold2.trans (h4.mono hold2.1)) h1 (fun j hj=>(h3 j hj).elim (hO j) fun q=>qV hold2.1 q) (by rw[Nd hx];exact h2)
    | false =>
      have hup:=hrup k L hx
      have hfol:=aj hE (b:=s2.next) (qI _) hn (cs:=cs++Bf (T.take k)) (c:=L) (fun N hN=>⟨(hlits N hN).1,by have:=(hlits N hN).2;omega⟩) (by rw[qM];omega) hL1 (by omega) hup (mX JB.slice hr2 (by omega)) (hu2.mono (by omega))
      simp only[JO,UU,Yp,hln,hkk,e1,e2,hal,hmv,hs1,BV,g1,AU,Yq,Od,ld0,Ym,Ll,ld1 s2 (BG.refl _ _),Qa,Qb,Qc,Qd,Qf,Qh,Qj,Qk,Qm,Qn,true_and,Qo,Qp,Qq,Qr,Qs,Qu,Qv,Qw,Qx,Qy,Qz,Ra,Rb,Rq]
      refine hfol.mono ?_
      rintro _ s3 ⟨rfl,h3⟩
      have hd3:B8 s3 w us.length 1 us O:=JB.frame h3.1 fun j hj=>h3.2 j (JB.slot_lt j hj)
      have b1:=Ck (P:=Try.prog) (t:=22) (v:=u) Try.underlying22 CL Wd rfl hu.isCell.2
      have hms:∀ (m:Nat) (i:Nat),Made.val i (.slice m)=.slice (some (i,0)) m (some m):=fun _ _=>rfl
      obtain⟨v',s4,O',p1,p2,p3,p4,p5,p6⟩:=bi hd3 (by omega) hu.isCell.1
      simp only[Rx,Bool.not_true,Yn,Ll,ld1 s3 h3,b1,hms,p1,Sl,e3,hcast,Qb,Qc,Qd,Qf,Qh,Qi,Qj,Qk,Qm,Qn,true_and,Qo,Qp,Qq,Qr,Qs,Qv,Ya,Yc,Rx]
      rw[← hW]
      have hn3:=h3.1
      have k4:BG b s2 s4:=⟨by omega,fun x hx=>by rw[p4 x (by omega) (fun h=>by have:=hO x h;omega),h3.2 x (by omega)]⟩
      refine ih (k+1) s4 v' (us++[u]) O' _ _ _ _ _ _ _ hdr' hlt ⟨by omega,fun x hx=>?_⟩ (by simpa using p2) (fun j hj=>(p5 j hj).elim (hO j) (fun h=>by omega)) ?_
      · rw[p4 x (by omega) (fun h=>by have:=hO x h;omega),h3.2 x (by omega),hold2.2 x hx]
      · rw[Nd hx]
        show An b s4 (us++[u]) (cs++(Bf (T.take k)++[L]))
        rw[← qz]
        exact(hr2.old k4).append (An.one (hu2.old k4 (qI _)))
theorem T6(hE:Good E){s:AF}{b n:Nat}(hb:b≤s.next)(hn:n≤1000){v tr:AV}{us:List AV}{cs:List (List Int)}{T:Ba}(hv:AX s.next s v us)(hr:An b s us cs)(hcs:∀L∈cs,(∀y∈L,VL n y)∧L.length≤1000)(hcl:cs.length≤1000)(hT:Fd b s tr T)(hTl:T.length≤500000)(htr:∀x∈T,(∀y∈x.2,VL n y)∧x.2.length≤n)
  (hrup:∀k L,T[k]? = some (false,L)→Ht (cs++Bf (T.take k)) L):WF E 44 [iv (n:Int),v,tr] (fun r s'=>r=.bool true∧BG s.next s s') s:=by
 have b0:=K2 (P:=Try.prog) (t:=22) Try.underlying22 CL Wd rfl
 have hmv:∀ (m:Nat) (i:Nat),Made.val i (.slice m)=.slice (some (i,0)) m (some m):=fun _ _=>rfl
 have d0:=Lf (s:=s) (ty:=23)
 have o1:=BG.new s (AO 23 1 [])
 generalize hs1:newObj s (AO 23 1 [])=s1 at d0 o1
 have n1:s1.next=s.next+1:=by rw[← hs1];rfl
 obtain⟨av,cv,rfl,hsrc⟩:=fB (hv.old o1 (qI _)) 23
 have hul:=hr.1
 obtain⟨va,s3,Oa,a1,a2,a3,a4,a5,a6,a7⟩:=d0.append (P:=Try.prog) (st:=22) (xt:=22) Try.underlying22 CL Wz (by decide) (Ke 22 23 Try.underlying22) Ms hsrc (by omega) hr.cells (by omega) (by omega)
 rw[qo,qU]at a2
 have o3:BG s.next s s3:=⟨by omega,fun x hx=>(a5 x (by omega) (by simp)).trans (o1.2 x hx)⟩
 have hlen:∀s,Aq Try.prog s 22 (.slice av us.length cv)=some (iv (cs.length:Int)):=fun s=>by rw[hul];exact AW Try.underlying22
 refine hE.go lQ (by decide) rfl ?_
 simp only[pc,gU,gV,b0,hs1,hmv,a1,gW,hlen,gX,Qa,Qb,Qc,Qd,Qf,Qh,Qi,Qj,Qk,Ql,Qm,Qn,true_and,Qo,Qp,Qq,Qr,Qs,Qw,Rc,Rf,Rg,Rh,Yc]
 refine PF hE (s0:=s) (b:=b) (n:=n) hb hn hcs hcl hT hTl htr hrup _ _ ?_ T 0 s3 va us Oa _ _ _ _ _ _ _ rfl (qO _) o3 a2 (fun j hj=>(a6 j hj).elim (fun q=>by cases q) fun q=>by omega) ?_
 ·intro s' y4 y6 y7 y8 y9 y10 y11 y12 y13 hold
  simp only[if_true,Yo,Qb,Qc,Qd,Qf,Qh,Qi,Qm,Qn,true_and,Qo,Qp,Qq,Qr,Qs,Qw,Qy,Rb,Re]
  exact hold
 ·show An b s3 us (cs++[])
  rw[re]
  exact hr.old (o3.mono hb)
end
theorem VE{a:Int}(h:0≤a∧a≤100000000):AL Try.prog .quo 3 (iv a) (iv 4)=some (iv (a / 4)):=by
 obtain⟨h1,h2⟩:=h
 have e:IntKind.i64.wrap (a.tdiv 4)=a / 4:=by
  rw[← Ei,sF h1]
  exact EA ⟨by omega,by omega⟩
 show AI (BY .i64 .i64) ((ES Try.prog (Op.intDiv .quo .i64 a 4)).bind ofValue)=_
 have hk:BY .i64 .i64=true:=rfl
 rw[hk]
 unfold Op.intDiv
 rw[if_neg (by decide)]
 dsimp only
 rw[e]
 rfl
theorem mU(n:Nat)(v:Sv)(h1:v.trace=[])(h2:v.cl=fun _=>none)(h3:v.broken=false):JD n [] v:=by
 have hcl:∀c,BE v.cl c=none:=fun c=>by unfold BE;rw[h2]
 refine⟨by rw[h1];simp,fun c ls q=>(by rw[hcl]at q;cases q),⟨[],List.nodup_nil,fun c=>⟨fun q=>(by cases q),fun⟨ls,q⟩=>(by rw[hcl]at q;cases q)⟩,fun L=>qO _⟩,fun k L q=>(by rw[h1]at q;simp at q),fun q=>by rw[h3]at q;cases q⟩
section
variable{E:BN}
theorem bW(hE:Good E){B:Nat→Prop}{s:AF}{V:Nat→Option Sv}(h:Cj B s V){n:Nat}(hn:n≤1000){J:Sv→Prop}(hJ:∀v,v.trace=[]→v.cl=(fun _=>none)→v.broken=false→J v):
  WF E 32 [iv (n:Int),.slice none 0 (some 0)] (fun r s'=>∃p v,r=AK p∧V p=none∧Cj B s' (Fb V p v)∧Dv B s s'∧NA n 0 [] 0 J v) s:=by
 refine hE.go lJ (by decide) rfl ?_
 simp only[pX,fm,fo,Qa,Qb,Qc,Qd,Qf,Qh,Qi,Qj,Qk,Ql,Qm,Qn,true_and,Qo,Qp,Qq,Qs,Qw,Qx,Rc,Rf,Rg,Rh,Yc]
 refine(WH hE h hn hJ).mono ?_
 rintro _ s1 ⟨v,rfl,hV,g1,g2,g3⟩
 obtain⟨i1,i2,_,_⟩:=g3.inv ⟨hn,by omega,by omega⟩
 have hvars:=Nu hE g1 (BO V s.next v) (n:=n) (by omega) i1.fit.siz.value
 have he:=Ea s.next
 have hne:decide ((n:Int)≠(n:Int))=false:=by simp
 simp only[AK]at he hvars
 simp only[ft,AK,he,Qb,Qc,Qd,Qf,Qg,Qh,Qi,Qj,Qk,Qm,Qn,true_and,Qo,Qp,Qq,Qr,Qs,Rm,Yb,Rn,Ro]
 refine hvars.mono ?_
 rintro _ _ ⟨rfl,rfl⟩
 have hd0:decide ((0:Int)<((0:Nat):Int))=false:=by decide
 simp only[hne,fu,Qb,Qc,Qd,Qf,Qh,Qi,Qm,Qn,true_and,Qo,Qp,Qq,Qr,Qs,Qv,Rm,Yb,Rw]
 refine WC.loop' ?_
 simp only[fl,fv,AW Try.underlying22,hd0,Qa,Qb,Qc,Qd,Qf,Qh,Qj,Qk,Qm,Qn,true_and,Qo,Qp,Qq,Qr,Qs,Qv,Qw,Qx,Qy,Qz,Ra,Rb,Rc,Re,Rf,Rg,Rh,Yc,Rq]
 simp only[if_true,YR,Qb,Qc,Qd,Qf,Qh,Qj,Qm,Qn,true_and,Qo,Qp,Qq,Qr,Qs]
 exact⟨s.next,v,rfl,hV,g1,g2,g3⟩
theorem RU         (hE : Good E) {s0 : AF}  {B : Nat → Prop} {V : Nat → Option Sv} {n p b : Nat} (hn : n ≤ 10) {cs : List (List Int)} (hcs : ∀ L ∈ cs, (∀ x ∈ L, VL n x) ∧ L.length ≤ 12) (hcl : cs.length ≤ 100) {u : AV} (hr : RowsIn B s0 u cs) {os : List Int} (hord : ck  os) (hol : os.length < 9223372036854775808) {ao : Option (Nat × Nat)} {co : Option Nat} (hc : Ay      b s0 ao (ID   os)) (hb : ∀ j, j < b → B j)
    (v0 v1 v3 v9 v10 v11 v12 v16 v17 v18 v19:AV) {Q:A0→Prop}
    (hq:∀s' v M y7 y13 y14 y15,Cj B s' (Fb V p v)→Dv B s0 s'→NA n cs.length cs M (JD n cs) v→M≤6300→Q ⟨.exit 0,[v0,v1,.slice ao os.length co,v3,iv (n:Int),u,AK p,y7,iv (cs.length:Int),v9,v10,v11,v12,y13,y14,y15,v16,v17,v18,v19],[],s'⟩):
    ∀ (l:List (List Int)) (i M:Nat) (s:AF) (v:Sv) (x7 x13 x14 x15:AV),cs.drop i=l→i≤cs.length→Cj B s (Fb V p v)→Dv B s0 s→NA n i (cs.take i) M (JD n (cs.take i)) v→M≤63 * i →
      WC E none (.loop LA) Q [v0,v1,.slice ao os.length co,v3,iv (n:Int),u,AK p,x7,iv (i:Int),v9,v10,v11,v12,x13,x14,x15,v16,v17,v18,v19] [] s:=by
  intro l
  induction l with
  | nil =>
    intro i M s v x7 x13 x14 x15 hd hi hS hK hI hM
    have:=CH hd hi
    subst this
    rw[qr]at hI
    have hr':=hr.keep hK
    refine WC.loop' ?_
    simp only[LA,SC,hr'.len,qd,decide_false,Qa,Qb,Qc,Qd,Qf,Qh,Qj,Qk,Qm,Qn,true_and,Qo,Qp,Qq,Qr,Qs,Qv,Qw,Qx,Qy,Qz,Ra,Rq]
    exact hq s v M _ _ _ _ hS hK hI (by omega)
  | cons L l ih =>
    intro i M s v x7 x13 x14 x15 hd hi hS hK hI hM
    obtain⟨hlt,hx,hd'⟩:=Be hd
    have hr':=hr.keep hK
    obtain⟨a,w,e1,e2,hu,hB⟩:=hr'.row hx
    have hkk:decide ((i:Int)<(cs.length:Int))=true:=decide_eq_true (by omega)
    have e3:=Ai Try.prog 3 (i:Int) 1 ⟨by omega,by omega⟩
    have hcast:((i:Int)+1)=((i+1:Nat):Int):=by omega
    obtain⟨h6,h7⟩:=hcs L (qL hx)
    have hbd:fH n i M:=⟨by omega,by omega,by omega⟩
    have hadd:=WG hE hS (BO V p v) (J':=JD n (cs.take i++[L])) hI hbd h6 h7 (fun v' hr=>hr.jd hI hbd h6) (qI _) hu hB
    simp only[AK]at hadd
    refine WC.loop' ?_
    generalize hW:WC E none (Ac.loop LA) Q=W at ih ⊢
    simp only[LA,SC,Xp,AK,hr'.len,hkk,e1,e2,Qa,Qb,Qc,Qd,Qf,Qh,Qi,Qj,Qk,Qm,Qn,true_and,Qo,Qp,Qq,Qr,Qs,Qu,Qw,Qx,Qy,Qz,Ra,Rq]
    refine hadd.mono ?_
    rintro _ s1 ⟨rfl,v1',i1,g1,k1⟩
    rw[DW]at g1
    have htk:cs.take (i+1)=cs.take i++[L]:=FB hx
    rw[← htk]at i1
    have hd0:decide ((0:Int)≠0)=false:=by decide
    have hK1:=hK.trans k1
    by_cases ho:os=[]
    · subst ho
      have dl:decide ((0:Int)<((([]:List Int).length:Nat):Int))=false:=by decide
      simp only[hd0,OH,AW Try.underlying42,dl,Rn,OI,e3,hcast,Qb,Qc,Qd,Qf,Qg,Qh,Qi,Qj,Qk,Qm,Qn,true_and,Qo,Qp,Qq,Qr,Qs,Qt,Qv,Rl,Rn,Ro,Rs,Rw]
      subst hW
      exact ih (i+1) M s1 v1' _ _ _ _ hd' hlt g1 hK1 i1 (by omega)
    · have hpos : 0 < os.length := List.length_pos_iff.2 ho
      have dl:decide ((0:Int)<(os.length:Int))=true:=decide_eq_true (by omega)
      have r1:=U4 (s:=s1) (a:=i) (b:=os.length) hpos
      have hlo:i % os.length<os.length:=Nat.mod_lt _ hpos
      generalize i % os.length=j at r1 hlo
      obtain⟨hx1,hx2⟩:=hord os[j] (List.getElem_mem _)
      obtain⟨q,o,rfl,hp,hload⟩:=hc j _ (Ig (qP hlo))
      have e4:=Al (P:=Try.prog) (cap:=co) (i:=q) (o:=o) Try.underlying42 oV hlo
      have ld:AD Try.prog s1 5 (.ptr (some (q,o+j * 1)))=some (Mu os[j]):=A4 oQ (by rw[qa,CO (hK1.2 q (hb q hp))];exact hload)
      generalize os[j]=z at hx1 hx2 ld
      have q5:=GK (P:=Try.prog) (t:=5) (k:=.u8) (a:=z) (b:=4) hx1 (by decide)
      by_cases hz:z % 4=0
      · have dz : decide (z % 4 = 0) = true := decide_eq_true hz
        have cv:CN Try.prog s1 5 3 (Mu z)=some (iv z):=HR ⟨hx1,hx2⟩
        have qv:=VE (a:=z) ⟨hx1,by omega⟩
        have hzn:z / 4=((z / 4).toNat:Int):=by omega
        rw[hzn]at qv
        have hmost:(z / 4).toNat≤63:=by omega
        generalize (z / 4).toNat=most at qv hmost
        have hsol:=KR hE g1 (BO V p v1') (RC n (cs.take (i+1))) i1 (most:=most) ⟨by omega,by omega,by omega⟩ (fun f hf=>(hcs f (qg hf)).1)
        simp only[AK]at hsol
        simp only[hd0,OH,AW Try.underlying42,dl,r1,e4,ld,q5,EZ,dz,Rn,Xq,cv,qv,Qb,Qc,Qd,Qf,Qg,Qh,Qi,Qj,Qk,Qm,Qn,true_and,Qo,Qp,Qq,Qr,Qs,Qu,Qv,Rl,Rn,Ro,Rs,Rw]
        refine hsol.mono ?_
        rintro _ s2 ⟨c,v2',rfl,i2,_,g2,k2⟩
        rw[DW]at g2
        simp only[OI,e3,hcast,Qb,Qc,Qd,Qf,Qh,Qi,Qj,Qk,Qm,Qn,true_and,Qo,Qp,Qq,Qr,Qs]
        subst hW
        exact ih (i+1) (M+most) s2 v2' _ _ _ _ hd' hlt g2 (hK1.trans k2) i2 (by omega)
      · have dz:decide (z % 4=0)=false:=decide_eq_false hz
        simp only[hd0,OH,AW Try.underlying42,dl,r1,e4,ld,q5,EZ,dz,Rn,OI,e3,hcast,Qb,Qc,Qd,Qf,Qg,Qh,Qi,Qj,Qk,Qm,Qn,true_and,Qo,Qp,Qq,Qr,Qs,Qv,Rl,Rn,Ro,Rs,Rw]
        subst hW
        exact ih (i+1) M s1 v1' _ _ _ _ hd' hlt g1 hK1 i1 (by omega)
theorem WU(hE:Good E){s:AF}{b:Nat}(hb:b≤s.next){d:Int}(hd:u8 d){bs os:List Int}(hbs:ck bs)(hlen:bs.length<9223372036854775808)(hos:ck os)(hol:os.length<9223372036854775808){v w:AV}(hv:AX b s v (ID bs))(hw:AX b s w (ID os)):
    WF E 11 [Mu d,v,w] (fun r _=>r=.bool true) s:=by
  obtain⟨n,hn1,hn2,q1,q2,q3⟩:=UA (s:=s) hd (k:=10) (by decide)
  have hn2:n≤10:=hn2
  have hconv:∀s,CN Try.prog s 5 3 (Mu (d % 10))=some (iv (d % 10)):=fun s=>HR ⟨Int.emod_nonneg d (by decide),by have:=Int.emod_lt_of_pos d (show(0:Int)<10 by decide);omega⟩
  refine hE.go lG (by decide) rfl ?_
  simp only[pU,fQ,fR,Qa,Qb,Qc,Qd,Qf,Qh,Qi,Qj,Qk,Ql,Qm,Qn,true_and,Qo,Qp,Qs,Qw,Qx,Rc,Rf,Rg,Rh,Yc]
  refine(cU hE (Nt s)).mono ?_
  rintro _ s1 ⟨rfl,k1⟩
  have ho1:=k1.toOld hb
  have hb1:=qV hb k1.1
  simp only[fS,q1,hconv,q3,fT,Qb,Qc,Qd,Qf,Qh,Qi,Qj,Qk,Qm,Qn,true_and,Qo,Qp,Qq,Qr,Qs,Qv,Ya,Rx]
  refine(aY hE hb1 hn1 (by omega) (most:=100) (by decide) hbs hlen (hv.old ho1 (qI _))).mono ?_
  rintro l s2 ⟨us,cs,O,hmd,hdr,hcl,ho2⟩
  have hb2:=qV hb1 ho2.1
  have hR:=hmd.rowsIn
  simp only[fU,Qb,Qc,Qd,Qf,Qh,Qi,Qj,Qk,Qm,Qn,true_and,Qo,Qp,Qq,Qr,Qs]
  refine(bW hE (Nt s2) (n:=n) (by omega) (J:=JD n []) (mU n)).mono ?_
  rintro _ s3 ⟨p,vp,rfl,_,g3,k3,i3⟩
  have he:=Ea p
  simp only[AK]at he
  have hw2:AX b s2 w (ID os):=(hw.old ho1 (qI _)).old (ho2.mono hb1) (qI _)
  obtain⟨ao,co,rfl,hco⟩:=hw2
  have hol':(ID os).length=os.length:=qK _
  rw[hol']
  simp only[fV,AK,he,fW,fX,Qb,Qc,Qd,Qf,Qh,Qi,Qj,Qm,Qn,true_and,Qo,Qp,Qq,Qr,Qs,Qv]
  have hco3:Ay b s3 ao (ID os):=hco.old (b':=b) ⟨k3.1,fun j hj=>k3.2 j (by show j<s2.next;omega)⟩ (qI _)
  refine RU hE (s0:=s3) (B:=fun j=>j<s2.next) (V:=fun _=>none) (n:=n) (p:=p) (b:=b) hn2 (cs:=cs) (fun L hL=>⟨(hdr L hL).1,by have:=(hdr L hL).2;omega⟩) (by omega) (hR.keep k3) hos hol hco3 (fun j hj=>by show j<s2.next;omega) _ _ _ _ _ _ _ _ _ _ _ ?_ cs 0 0 s3 vp _ _ _ _ rfl (qO _) g3 (Dv.refl _ _) i3 (qO _)
  intro s4 v4 M y7 y13 y14 y15 g4 k4 i4 hM
  have e300:iv ((300:Nat):Int)=iv 300:=rfl
  have hlits:∀f∈cs,∀y∈f,VL n y:=fun f hf=>(hdr f hf).1
  have hsol:=KR hE g4 (BO _ p v4) (RC n cs) i4 (most:=300) ⟨by omega,by omega,by omega⟩ hlits
  simp only[AK,e300]at hsol
  simp only[if_true,Xr,AK,Qb,Qc,Qd,Qf,Qh,Qi,Qj,Qk,Qm,Qn,true_and,Qq,Qr,Qs,Qw,Qy,Rb]
  refine hsol.mono ?_
  rintro _ s5 ⟨c,v5,rfl,i5,hc5,g5,k5⟩
  rw[DW]at g5
  have hbd5:fH n cs.length (M+300):=⟨by omega,by omega,by omega⟩
  obtain⟨j1,j2,j3,j4,hj⟩:=i5.inv hbd5
  have jt:=i5.trc hbd5
  have htl:∀x∈v5.trace,x.2.length≤1000000:=fun x hx=>by have:=(hj.tr x hx).2;omega
  have htrace:=Tx hE g5 (BO _ p v5) j3 htl
  simp only[AK]at htrace
  simp only[Xs,Qb,Qc,Qd,Qf,Qh,Qj,Qk,Qm,Qn,true_and,Qo,Qp,Qq,Qr,Qs]
  refine htrace.mono ?_
  rintro t s6 ⟨ut,Ot,hmt,ho6⟩
  have hT:=hmt.trace
  have hK6:Dv (fun j=>j<s2.next) s2 s6:=((k3.trans k4).trans k5).trans ⟨ho6.1,fun j hj=>ho6.2 j (by
    have h1:j<s2.next:=hj
    have h2:=((k3.trans k4).trans k5).1
    omega)⟩
  obtain⟨ul,r1,r2,r3,r4⟩:=hR.keep hK6
  have htr:=T6 hE (s:=s6) (b:=s6.next) (n:=n) (qI _) (by omega) r1 r3 (fun L hL=>⟨(hdr L hL).1,by have:=(hdr L hL).2;omega⟩) (by omega) hT (by omega) hj.tr hj.rup
  simp only[Xt,Qb,Qc,Qd,Qf,Qh,Qj,Qk,Qn,true_and,Qo,Qp,Qq,Qr,Qs]
  refine htr.mono ?_
  rintro _ s7 ⟨rfl,ho7⟩
  have hT7:=hT.old ho7 (qI _)
  simp only[Rx,Bool.not_true,Xu,Qb,Qc,Qd,Qf,Qh,Qi,Qj,Qm,Qn,true_and,Qo,Qp,Qq,Qr,Qs,Qv,Ya,Rw,Rx]
  by_cases hc0:c=0
  · have dne : decide (c ≠ 0) = false := decide_eq_false fun q => q hc0
    have hbk:v5.broken=true:=by
      rcases hc5 with⟨_,_,q⟩ | ⟨q,_⟩ | q
      · exact q
      · omega
      · omega
    obtain⟨T0,eT⟩:=hj.fin hbk
    have hTl:v5.trace.length=T0.length+1:=by rw[eT,qM];rfl
    obtain⟨a,cap,rfl,hcells⟩:=hT7
    have hlast:v5.trace[T0.length]? = some (false,[]):=by rw[eT,qY (qI _),rJ];rfl
    obtain⟨i,o,u,rfl,hi,hl1,hl2,a2,cap2,rfl,_⟩:=hcells T0.length false [] hlast
    have e1:=Al (P:=Try.prog) (cap:=cap) (i:=i) (o:=o) (k:=T0.length) Try.underlying33 PE (by omega:T0.length<v5.trace.length)
    have ld0:AD Try.prog s7 4 (.ptr (some (i,o+T0.length * 2)))=some (.bool false):=A4 kT hl1
    have ld1:AD Try.prog s7 23 (.ptr (some (i,o+T0.length * 2+1)))=some (.slice a2 0 cap2):=A4 DN hl2
    have esub:=DZ Try.prog 3 (v5.trace.length:Int) 1 ⟨by omega,by omega⟩
    have ecast:((v5.trace.length:Int) - 1)=(T0.length:Int):=by omega
    rw[ecast]at esub
    have dge:decide ((0:Int)≤(T0.length:Int))=true:=decide_eq_true (by omega)
    have dz:decide (((0:Nat):Int)=0)=true:=by decide
    simp only[dne,Xw,AW Try.underlying33,esub,Qb,Qc,Qd,Qf,Qh,Qi,Qj,Qk,Qm,Qn,true_and,Qo,Qp,Qq,Qr,Qs,Qv]
    refine WC.loop' ?_
    simp only[Xo,Xx,dge,Xy,e1,Od,ld0,Rx,Bool.not_false,Xz,Ll,ld1,AW Try.underlying23,dz,Qa,Qb,Qc,Qd,Qf,Qh,Qi,Qj,Qk,Qm,Qn,true_and,Qo,Qp,Qq,Qr,Qs,Qu,Qw,Qx,Qy,Qz,Ra,Rb,Rc,Re,Rf,Rg,Rh,Yb,Yc,Ru,Rv,Rx]
  · have dne:decide (c≠0)=true:=decide_eq_true hc0
    simp only[dne,Xv,Qb,Qc,Qd,Qf,Qh,Qi,Qm,Qn,true_and,Qo,Qp,Qq,Qr,Qs,Qu,Re]
end
section
variable{H:Type}{enc:TypeId×Value→H}{W:World}{base:Nat}
theorem traces19_true{v0 v1 v2:Value}(h0:Value.okWide Try.prog W .any base 5 v0)(h1:Value.okWide Try.prog W .any base 42 v1)(h2:Value.okWide Try.prog W .any base 42 v2)
  {d0 d1 d2:DataW H} {p0 p1 p2:List MemPlace} (t0:DataW.Trod enc Try.prog W 0 (fun _=>true) true 5 v0 d0 p0) (t1:DataW.Trod enc Try.prog W 0 (fun _=>true) true 42 v1 d1 p1) (t2:DataW.Trod enc Try.prog W 0 (fun _=>true) true 42 v2 d2 p2):
  Calls Try.prog 11 #[v0,v1,v2] W fun e W'=>e=.returned (.bool true)∧Mv W W':=by
 obtain⟨ρ,s,d,u,w,bs,xs,hd,r0,r1,r2,q1,⟨a1,a2,a3⟩,b1,b2,b3⟩:=VT h0 h1 h2 t0 t1 t2
 refine VH hd (.cons r0 (.cons r1 (.cons r2 .nil))) ?_
 exact WU VX (qI _) q1 a2 a3 b2 b3 a1 b1
end
end
end Go.Proofs.Ytilhhmkdcoajnaa.Am
