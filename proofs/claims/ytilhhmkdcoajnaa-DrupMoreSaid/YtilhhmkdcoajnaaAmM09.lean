/- The solver's state: other parts may change; a line is put behind the trace; printed by a program of ours (dev/sv4.py); conditions: none. -/
import Derived.Test.YtilhhmkdcoajnaaAmM08
import Derived.Test.YtilhhmkdcoajnaaAmM06
set_option linter.unusedVariables false
set_option linter.unusedSimpArgs false
set_option maxRecDepth 16000
namespace Go.Proofs.Ytilhhmkdcoajnaa.Am
open Go Go.Proofs
noncomputable section
theorem Av.keep16{m:Bt→Prop}{ow ow':Ow}{s s':AE}{p:Nat}{x:Sf}{v:Sv}(h:Av ow s p x v)(k:AM m ow s ow' s')(hm:∀a i,a<16→¬ m (p,a,i)):Av ow' s' p x v:=by
 have hn:=k.next
 have hl:=h.lt
 exact { box:=h.box.step k h.tag h.lt (hm 0 0 (by decide)),tag:=by rw[k.tags p h.lt (by rw[h.tag];exact hm 0 0 (by decide))];exact h.tag,lt:=by omega,w:=h.w.step k (hm 1 0 (by decide)) (fun j=>hm 2 j (by decide)),learned:=h.learned.step k (hm 3 0 (by decide)),value:=h.value.step k (hm 4 0 (by decide)),level:=h.level.step k (hm 5 0 (by decide)),why:=h.why.step k (hm 6 0 (by decide)),heat:=h.heat.step k (hm 7 0 (by decide)),phase:=h.phase.step k (hm 8 0 (by decide)),trail:=h.trail.step k (hm 9 0 (by decide)),limits:=h.limits.step k (hm 10 0 (by decide)),model:=h.model.step k (hm 11 0 (by decide)),trace:=h.trace.step k (hm 12 0 (by decide)) (hm 13 0 (by decide)),cls:=fun c l hc=>(h.cls c l hc).step k (hm 14 c (by decide)) (hm 15 c (by decide)) }
theorem Av.push_trace  {ow : Ow} {s : AE}  {p : Nat} {x : Sf} {v : Sv} (h : Av  ow s p x v) (hT : v.trace.length ≤ 1000000) (d : Bool) {u : AV} {L : List Int} (hu : AJ      s.next s u (A3  L)) (hslot : ∀ j, slot u = some j → ow j = (p, 13, 0) ∧ j < s.next) :
    ∃t' s' ow',AY Try.prog (newObj s (AL 27 2 [.bool d,u])) [33,33] [x.trc,.slice (some (s.next,0)) 1 (some 1)]=some (t',s')∧DT s' p (Df x v)∧t'.isCell=true∧t'.cells=[t'] ∧
      ∀s'' y,DT s'' p (Df { x with trc:=t' } { v with broken:=y,trace:=v.trace++[(d,L)] })→s''.next=s'.next→(∀j,j≠p→s''.heap.get j=s'.heap.get j) →
        Av ow' s'' p { x with trc:=t' } { v with broken:=y,trace:=v.trace++[(d,L)] }∧AM (B6 p) ow s ow' s'':=by
  have c1:=EU (P:=Try.prog) (e:=27) (s:=newObj s (AL 27 2 [.bool d,u])) (n:=1) (cap:=some 1) (sz:=2) 27 2 (by rw[AK,if_pos rfl]) rfl
  have hst0:AM (fun _=>False) ow s (ext ow s.next (0,0,0)) (newObj s (AL 27 2 [.bool d,u])):=AM.new _ ow s _ _
  have h1:=h.keep hst0 (fun _ q=>q.elim)
  obtain⟨us,O,t1,t2,t3,t4,t5⟩:=h1.trace
  obtain⟨v',s',O',g1,g2,g3,g4,g5,g6,g7⟩:=t1.append (P:=Try.prog) (st:=33) (xt:=33) Try.underlying33 HS c7 (by decide) (HR 33 27 Try.underlying33) PL c1 rfl (by have:=hu.isCell.1;simp only[Ae,this];rfl) (by omega) (by omega)
  generalize hs1:newObj s (AL 27 2 [.bool d,u])=s1 at *
  have n1:s1.next=s.next+1:=by rw[← hs1];rfl
  generalize ho1:ext ow s.next (0,0,0)=ow1 at *
  have hstA:AM (· = (p,12,0)) ow1 s1 (ext ow1 s1.next (p,12,0)) s':=⟨g3,fun j hj _=>Fv hj,fun j hj hm=>g5 j hj fun e=>hm (t2 j e)⟩
  have hm:∀a i,a≠12→¬ ((p,a,i):Bt)=(p,12,0):=fun a i ha=>Cf ha
  have hlt:=h1.lt
  have hbox:=h1.box.step hstA h1.tag h1.lt (hm 0 0 (by decide))
  have hcell:v'.isCell=true∧v'.cells=[v']:=by
    obtain⟨a,cap,e,_⟩:=g2.cells
    rw[e];exact⟨rfl,rfl⟩
  refine⟨v',s',ext ow1 s1.next (p,12,0),g1,hbox,hcell.1,hcell.2,fun s'' y hb hn hf=>?_⟩
  have htag:(ext ow1 s1.next (p,12,0)) p=(p,0,0):=by rw[Fv h1.lt];exact h1.tag
  have hstB:AM (· = (p,0,0)) (ext ow1 s1.next (p,12,0)) s' (ext ow1 s1.next (p,12,0)) s'':=⟨by omega,fun _ _ _=>rfl,fun j _ hm=>hf j fun e=>hm (by rw[e];exact htag)⟩
  have hm0:∀a i,a≠0→¬ ((p,a,i):Bt)=(p,0,0):=fun a i ha=>Cf ha
  have hu1:AJ s1.next s1 u (A3 L):=(hu.keep fun j hj=>hst0.heap j (hslot j hj).2 (fun q=>q)).mono (by omega)
  have hslot1:∀j,slot u=some j→ow1 j=(p,13,0)∧j<s1.next:=fun j hj=>⟨by rw[hst0.tags j (hslot j hj).2 (fun q=>q)];exact(hslot j hj).1,by have:=(hslot j hj).2;omega⟩
  have htr:N4 (ext ow1 s1.next (p,12,0)) s' p v' (v.trace++[(d,L)]):=by
    refine⟨us++[.bool d,u],O',by rw[qn];exact g2,fun j hj=>?_,fun j hj=>?_,?_,fun w hw j hj=>?_⟩
    · rcases g6 j hj with q | q
      · rw[Fv (t1.lt j q)];exact t2 j q
      · exact Ej q
    · rcases g7 j hj with q | q
      · obtain⟨q1,q2⟩:=t3 j q
        exact⟨by rw[Fv q2];exact q1,by omega⟩
      · exact⟨Ej q,g2.slot_lt j hj⟩
    · refine ((t4.mono g3).keep fun w hw j hj => ?_).snoc ?_
      · obtain⟨q1,q2⟩:=t5 w hw j hj
        exact hstA.heap j q2 (by rw[q1];exact hm 13 0 (by decide))
      · refine(hu1.keep fun j hj=>?_).mono g3
        obtain⟨q1,q2⟩:=hslot1 j hj
        exact hstA.heap j q2 (by rw[q1];exact hm 13 0 (by decide))
    · rcases sE.1              hw with hw | hw
      · obtain⟨q1,q2⟩:=t5 w hw j hj
        exact⟨by rw[Fv q2];exact q1,by omega⟩
      · rcases rI.1            hw with rfl | hw
        · cases hj
        · have:w=u:=by simpa using hw
          subst this
          obtain⟨q1,q2⟩:=hslot1 j hj
          exact⟨by rw[Fv q2];exact q1,by omega⟩
  have hstepA:AM (B6 p) ow s (ext ow1 s1.next (p,12,0)) s':=(hst0.mono fun _ q=>q.elim).trans (hstA.mono fun t ht=>by rw[ht];exact⟨rfl,by simp,by simp,by simp⟩)
  refine⟨?_,hstepA.trans (hstB.mono fun t ht=>by rw[ht];exact⟨rfl,by simp,by simp,by simp⟩)⟩
  have h:=h1
  have k:True:=trivial
  exact { box:=hb,tag:=htag,lt:=by omega,w:=(h.w.step hstA (hm 1 0 (by decide)) (fun j=>hm 2 j (by decide))).step hstB (hm0 1 0 (by decide)) (fun j=>hm0 2 j (by decide)),learned:=(h.learned.step hstA (hm 3 0 (by decide))).step hstB (hm0 3 0 (by decide)),value:=(h.value.step hstA (hm 4 0 (by decide))).step hstB (hm0 4 0 (by decide)),level:=(h.level.step hstA (hm 5 0 (by decide))).step hstB (hm0 5 0 (by decide)),why:=(h.why.step hstA (hm 6 0 (by decide))).step hstB (hm0 6 0 (by decide)),heat:=(h.heat.step hstA (hm 7 0 (by decide))).step hstB (hm0 7 0 (by decide)),phase:=(h.phase.step hstA (hm 8 0 (by decide))).step hstB (hm0 8 0 (by decide)),trail:=(h.trail.step hstA (hm 9 0 (by decide))).step hstB (hm0 9 0 (by decide)),limits:=(h.limits.step hstA (hm 10 0 (by decide))).step hstB (hm0 10 0 (by decide)),model:=(h.model.step hstA (hm 11 0 (by decide))).step hstB (hm0 11 0 (by decide)),trace:=htr.step hstB (hm0 12 0 (by decide)) (hm0 13 0 (by decide)),cls:=fun c l hc=>((h.cls c l hc).step hstA (hm 14 c (by decide)) (hm 15 c (by decide))).step hstB (hm0 14 c (by decide)) (hm0 15 c (by decide)) }
theorem Dp(l:List AV):(AV.agg l).cells=l:=rfl
def EZ(v:Sv):Sv:=if v.broken=true then v else { v with broken:=true,trace:=v.trace++[(false,[])] }
theorem R7:Bu Try.prog 27 (zipIdx [] [])=some (.agg [.bool false,.slice none 0 (some 0)]):=by
 simp[Bu,PN,Try.underlying27,B1,JX,Ba,zipIdx,DO,Dp,AG]
theorem LF{u:AV}(hu:u.cells=[u]):Bu Try.prog 27 (zipIdx [1] [u])=some (.agg [.bool false,u]):=by
 simp[Bu,PN,Try.underlying27,B1,JX,Ba,zipIdx,DO,Dp,AG,hu]
 rfl
theorem kU{u:AV}(hu:u.cells=[u]):Bu Try.prog 104 (zipIdx [0,1] [u,.bool true])=some (.agg [u,.bool true,.bool false]):=by
 simp[Bu,kI,Try.underlying104,B1,JX,Ba,zipIdx,DO,Dp,AG,hu]
 rfl
theorem R6{u:AV}(hu:u.cells=[u]):Bu Try.prog 104 (zipIdx [0] [u])=some (.agg [u,.bool false,.bool false]):=by
 simp[Bu,kI,Try.underlying104,B1,JX,Ba,zipIdx,DO,Dp,AG,hu]
 rfl
theorem W8{u:AV}(hu:u.cells=[u])(b c:Bool):Ce 104 (.agg [u,.bool b,.bool c])=some (AL 104 0 [u,.bool b,.bool c],.ptr):=by
 simp[Ce,AV.cells,hu]
theorem Od{E:BI}(hE:Aq E){ow:Ow}{s:AE}{p:Nat}{x:Sf}{v:Sv}(h:Av ow s p x v)(hT:v.trace.length≤1000000):
  WF E 65 [AR p] (fun _ s'=>∃ow' x',Av ow' s' p x' (EZ v)∧AM (B6 p) ow s ow' s'∧x'.w=x.w) s:=by
 refine hE.go la (by decide) rfl ?_
 cases hb:v.broken with
 | true =>
  have hf:EZ v=v:=by unfold EZ;rw[if_pos hb]
  have ld:=h.ld_broken
  rw[hb]at ld
  simp only[pW,ZV,AR,AH,He,ld,Qa,Qb,Qc,Qd,Qe,Qf,Qg,Qh,Qi,Qj,Qk,Ql,Qm,Qn,true_and,and_true,Qo,Qp,Qq,Qr,Qs,Qt,Qu,Qv,Qw,Qx,Qy,Qz,Ra,Rb,Rc,Rd,Re,Rf,Rg,Rh,Ri,Rj,Rk,Rl,Rm,Ya,Yb,Yc,Rn,Ro,Rp,Yd,Ye,Rq,Rs,Rt,Ru,Rv,Rw,Rx]
  rw[hf]
  exact⟨ow,x,h,AM.refl _ _ _,rfl⟩
 | false =>
  have hf:EZ v={ v with broken:=true,trace:=v.trace++[(false,[])] }:=by unfold EZ;rw[if_neg (by rw[hb];decide)]
  have ld:=h.ld_broken
  rw[hb]at ld
  have hms:∀ (m:Nat) (i:Nat),Made.val i (.slice m)=.slice (some (i,0)) m (some m):=fun _ _=>rfl
  obtain⟨t',s1,ow',a1,a2,a3,a4,a5⟩:=h.push_trace hT false (u:=.slice none 0 (some 0)) (L:=[]) ⟨none,some 0,rfl,BA.nil⟩ (fun j hj=>by cases hj)
  obtain⟨s2,b1,b2,b3,b4⟩:=a2.store (k:=10) (d:=.bool true) (by simp) (t:=4) JX rfl rfl
  obtain⟨s3,d1,d2,d3,d4⟩:=b2.store (k:=12) (d:=t') (by simp) (t:=33) Gk a3 a4
  obtain⟨k1,k2⟩:=a5 s3 true d2 (by omega) (fun j hj=>(d4 j hj).trans (b4 j hj))
  simp only[pW,ZV,iW,AR,AH,He,Kv,ld,h.ld_trc,R7,Iq,hms,a1,BW,b1,d1,AS,Qa,Qb,Qc,Qd,Qe,Qf,Qg,Qh,Qi,Qj,Qk,Ql,Qm,Qn,true_and,and_true,Qo,Qp,Qq,Qr,Qs,Qt,Qu,Qv,Qw,Qx,Qy,Qz,Ra,Rb,Rc,Rd,Re,Rf,Rg,Rh,Ri,Rj,Rk,Rl,Rm,Ya,Yb,Yc,Rn,Ro,Rp,Yd,Ye,Rq,Rs,Rt,Ru,Rv,Rw,Rx]
  rw[hf]
  exact⟨ow',_,k1,k2,rfl⟩
theorem Vb{E:BI}(hE:Aq E){ow:Ow}{s:AE}{p:Nat}{x:Sf}{v:Sv}(h:Av ow s p x v)(hr:(v.learned.length:Int)<v.room):
  WF E 69 [AR p] (fun _ s'=>∃ow',Av ow' s' p x v∧AM (B6 p) ow s ow' s') s:=by
 have hptr:∀i,Made.val i .ptr=.ptr (some (i,0)):=fun _=>rfl
 have hbox:Ce 44 (AV.ptr (some (p,0)))=some (AL 44 0 [AR p],.ptr):=by simp[Ce,AR,AV.cells]
 have hst:AM (fun _=>False) ow s (ext ow s.next (0,0,0)) (newObj s (AL 44 0 [AR p])):=AM.new _ ow s _ _
 have h':=h.keep hst (fun _ q=>q.elim)
 have b1:Ap (newObj s (AL 44 0 [AR p])) s.next (AR p):=Ap.new
 have l1:=b1.load Ft
 have ln:∀s,As Try.prog s 89 x.l=some (iv (v.learned.length:Int)):=fun s=>by
  have:=h.learned.len Try.underlying89 s
  rw[qi]at this
  exact this
 have hd:=decide_eq_true hr
 have ld1:=h'.ld_l
 have ld2:=h'.ld_room
 refine hE.go lk (by decide) rfl ?_
 simp only[AR]at hbox l1 ld1 ld2
 simp only[qP,iy,iz,AR,hbox,hptr,l1,AH,ah,eG,ld1,ld2,ln,hd,Qa,Qb,Qc,Qd,Qe,Qf,Qg,Qh,Qi,Qj,Qk,Ql,Qm,Qn,true_and,and_true,Qo,Qp,Qq,Qr,Qs,Qt,Qu,Qv,Qw,Qx,Qy,Qz,Ra,Rb,Rc,Rd,Re,Rf,Rg,Rh,Ri,Rj,Rk,Rl,Rm,Ya,Yb,Yc,Rn,Ro,Rp,Yd,Ye,Rq,Rs,Rt,Ru,Rv,Rw,Rx]
 exact⟨_,h',hst.mono fun _ q=>q.elim⟩
def WJ(ow:Ow)(T T':Bt):Ow:=fun x=>if ow x=T then T' else ow x
theorem AM.aS{m:Bt→Prop}(ow:Ow)(s:AE)(T T':Bt)(h:m T):AM m ow s (WJ ow T T') s:=
 ⟨qg _,fun x hx hm=>if_neg fun e=>hm (by rw[e];exact h),fun _ _ _=>rfl⟩
theorem Bb.aS{ow:Ow}{T T':Bt}{s:AE}{v:AV}{cs:List AV}(h:Bb ow T s v cs):Bb (WJ ow T T') T' s v cs:=by
 rcases h with h | ⟨i,o,cap,r,h1,h2,h3⟩
 ·exact .inl h
 ·exact .inr ⟨i,o,cap,r,h1,⟨h2.get,if_pos h2.whose,h2.lt,h2.own,h2.sz,fun q hq=>let ⟨k1,k2,k3⟩:=h2.par q hq;⟨if_pos k1,k2,k3⟩⟩,h3⟩
def Hz(v:Sv)(c:Nat)(l:B3):Sv:={ v with cl:=Aj v.cl c l }
def Bx(v:Sv)(c:Nat)(L:List Int):Sv:=
 let v1:=Hz { v with trace:=v.trace++[(false,L)] } c (L,true,false)
 let v2:Sv:=if 1<L.length then { PJ v1 c (L.getD 0 0) (L.getD 1 0)with learned:=v.learned++[c] }else v1
 Bh v2 (L.getD 0 0) (some c)
theorem HA:∀ (l:List Int)(v:Sv),∃ph va wh,l.foldl EF v={ v with phase:=ph,value:=va,why:=wh }∧ph.length=v.phase.length∧va.length=v.value.length∧wh.length=v.why.length
 | [],v=>⟨_,_,_,rfl,rfl,rfl,rfl⟩
 | x::l,v=>by
  obtain⟨ph,va,wh,h1,h2,h3,h4⟩:=HA l (EF v x)
  exact⟨ph,va,wh,h1,h2.trans qr,h3.trans qr,h4.trans qr⟩
theorem Cv(v:Sv)(level:Nat):∃ph va wh tr li hd,Ax v level={ v with phase:=ph,value:=va,why:=wh,trail:=tr,limits:=li,head:=hd }∧ph.length=v.phase.length∧va.length=v.value.length∧wh.length=v.why.length∧tr.length≤v.trail.length∧li.length≤v.limits.length:=by
 unfold Ax
 split
 ·exact⟨_,_,_,_,_,_,rfl,rfl,rfl,rfl,qg _,qg _⟩
 ·unfold IK
  obtain⟨ph,va,wh,h1,h2,h3,h4⟩:=HA (v.trail.drop (v.limits.getD level 0).toNat) v
  rw[h1]
  exact⟨ph,va,wh,_,_,_,rfl,h2,h3,h4,by rw[rK];omega,by rw[rK];omega⟩
theorem fT.back{n:Nat}{v:Sv}(h:fT n v)(level:Nat):fT n (Ax v level):=by
 obtain⟨ph,va,wh,tr,li,hd,e,h1,h2,h3,h4,h5⟩:=Cv v level
 rw[e]
 exact⟨h.small,h.w,h2.trans h.value,h.level,h3.trans h.why,h.heat,h1.trans h.phase,qs h4 h.trail,qs h5 h.limits⟩
theorem N4.self{ow:Ow}{s:AE}{p:Nat}{v:AV}{T:Aa}(h:N4 ow s p v T):E8 v v=true:=by
 obtain⟨us,O,h1,_⟩:=h
 obtain⟨a,cap,rfl,_⟩:=h1.cells
 exact FR
theorem CR.slot_ge{lo:Nat}{s:AE}{v:AV}{L:List Int}(h:CR lo s v L)(hL:L≠[]):∀j,slot v=some j→lo≤j∧j<s.next:=by
 rcases h with⟨a,rfl,e⟩ | ⟨i,rfl,h1,h2,_⟩
 ·exact absurd e hL
 ·intro j hj
  simp[slot]at hj
  subst hj
  exact⟨h1,h2⟩
theorem eP{E:BI}(hE:Aq E){K:List AV→AE→Prop}{ow:Ow}{s:AE}{p:Nat}{x:Sf}{v:Sv}(h:Av ow s p x v){lv:AV}{L:List Int}(hlv:Bb ow (p,20,0) s lv (A3 L))(hL:L≠[])(hl:L.length≤1000000)(hT:v.trace.length≤1000000)(x2 x3 x4:AV)
  (hK:∀s1 ow1 x',Av ow1 s1 p x' { v with trace:=v.trace++[(false,L)] }→x'.w=x.w→AM (B6 p) ow s ow1 s1→K [AV.ptr (some (p,0)),lv,x2,x3,x4] s1):
  Qb E ZW K [] [AV.ptr (some (p,0)),lv,x2,x3,x4] s:=by
 have hms:∀ (m:Nat) (i:Nat),Made.val i (.slice m)=.slice (some (i,0)) m (some m):=fun _ _=>rfl
 simp only[ZW,AH,Kv,h.ld_trc,Qa,Qb,Qc,Qd,Qe,Qf,Qg,Qh,Qi,Qj,Qk,Ql,Qm,Qn,true_and,and_true,Qo,Qp,Qq,Qr,Qs,Qt,Qu,Qv,Qw,Qx,Qy,Qz,Ra,Rb,Rc,Rd,Re,Rf,Rg,Rh,Ri,Rj,Rk,Rl,Rm,Ya,Yb,Yc,Rn,Ro,Rp,Yd,Ye,Rq,Rs,Rt,Ru,Rv,Rw,Rx]
 refine(G3 hE (qg _) hlv.slice hl).mono ?_
 rintro u s1 ⟨hu,ho⟩
 have hst:AM (fun _=>False) ow s (ext ow s.next (p,13,0)) s1:=AM.old ho _
 have h1:=h.keep hst (fun _ q=>q.elim)
 obtain⟨t',s2,ow2,a1,a2,a3,a4,a5⟩:=h1.push_trace hT false hu.slice (fun j hj=>by
  obtain⟨q1,q2⟩:=hu.slot_ge hL j hj
  exact⟨Ej q1,q2⟩)
 obtain⟨s3,d1,d2,d3,d4⟩:=a2.store (k:=12) (d:=t') (by simp) (t:=33) Gk a3 a4
 obtain⟨k1,k2⟩:=a5 s3 v.broken d2 (by omega) (fun j hj=>d4 j hj)
 simp only[BZ,Az,h1.ld_trc,h1.trace.self,LF hu.slice.isCell.2,Iq,hms,a1,BW,d1,AS,AH,Kv,Qa,Qb,Qc,Qd,Qe,Qf,Qg,Qh,Qi,Qj,Qk,Ql,Qm,Qn,true_and,and_true,Qo,Qp,Qq,Qr,Qs,Qt,Qu,Qv,Qw,Qx,Qy,Qz,Ra,Rb,Rc,Rd,Re,Rf,Rg,Rh,Ri,Rj,Rk,Rl,Rm,Ya,Yb,Yc,Rn,Ro,Rp,Yd,Ye,Rq,Rs,Rt,Ru,Rv,Rw,Rx]
 exact hK s3 ow2 _ k1 rfl ((hst.mono fun _ q=>q.elim).trans k2)
theorem eQ{E:BI}(hE:Aq E){ow:Ow}{s:AE}{p:Nat}{x:Sf}{v:Sv}(h:Av ow s p x v){n:Nat}(hf:N0 n v){level:Nat}(hlev:level<100000000){lv:AV}{L:List Int}(hlv:Bb ow (p,20,0) s lv (A3 L))(hL:BR n L)(h1:1≤L.length)(hl:L.length≤1000000)(hT:v.trace.length≤1000000)(hW:C9 v.watches≤90000000)(hle:v.learned.length≤100000000):
    WF E 66 [AR p,lv,iv (level:Int)] (fun _ s'=>∃c ow' x',v.cl c=none∧Av ow' s' p x' (Bx (Ax v level) c L)∧AM (Bs p) ow s ow' s') s:=by
  have hne:L≠[]:=fun e=>by rw[e]at h1;cases h1
  have hz0:=hf.siz.back level
  obtain⟨ph,va,wh,tr,li,hd,e,z1,z2,z3,z4,z5⟩:=Cv v level
  have hptr:∀i,Made.val i .ptr=.ptr (some (i,0)):=fun _=>rfl
  refine hE.go lf (by decide) rfl ?_
  simp only[qM,iX,AR,Qa,Qb,Qc,Qd,Qe,Qf,Qg,Qh,Qi,Qj,Qk,Ql,Qm,Qn,true_and,and_true,Qo,Qp,Qq,Qr,Qs,Qt,Qu,Qv,Qw,Qx,Qy,Qz,Ra,Rb,Rc,Rd,Re,Rf,Rg,Rh,Ri,Rj,Rk,Rl,Rm,Ya,Yb,Yc,Rn,Ro,Rp,Yd,Ye,Rq,Rs,Rt,Ru,Rv,Rw,Rx]
  refine(F8 hE h hf hlev).mono ?_
  rintro _ s1 ⟨x1,a1,a2,_⟩
  have b1:Bb ow (p,20,0) s1 lv (A3 L):=hlv.step a2 (fun q=>absurd q.2.2.2 (by show ¬ 20<16;omega))
  have hcl1:(Ax v level).cl=v.cl:=by rw[e]
  have hT1:(Ax v level).trace=v.trace:=by rw[e]
  have hw1:(Ax v level).watches=v.watches:=by rw[e]
  have hle1:(Ax v level).learned=v.learned:=by rw[e]
  generalize hvb:Ax v level=vb at *
  simp only[Qa,Qb,Qc,Qd,Qe,Qf,Qg,Qh,Qi,Qj,Qk,Ql,Qm,Qn,true_and,and_true,Qo,Qp,Qq,Qr,Qs,Qt,Qu,Qv,Qw,Qx,Qy,Qz,Ra,Rb,Rc,Rd,Re,Rf,Rg,Rh,Ri,Rj,Rk,Rl,Rm,Ya,Yb,Yc,Rn,Ro,Rp,Yd,Ye,Rq,Rs,Rt,Ru,Rv,Rw,Rx]
  refine eP hE a1 b1 hne hl (by rw[hT1];exact hT) _ _ _ ?_
  intro s2 ow2 x2 d1 d2 d3
  have b2:Bb ow2 (p,20,0) s2 lv (A3 L):=b1.step d3 (fun q=>absurd q.2.2.2 (by show ¬ 20<16;omega))
  have hbx:=W8 b2.isCell.2 true false
  have hbl:=kU b2.isCell.2
  have hstN:AM (fun _=>False) ow2 s2 (ext ow2 s2.next (p,14,s2.next)) (newObj s2 (AL 104 0 [lv,.bool true,.bool false])):=AM.new _ ow2 s2 _ _
  have d1N:=d1.keep hstN (fun _ q=>q.elim)
  have b2N:=b2.step hstN (fun q=>q)
  have hbox:DT (newObj s2 (AL 104 0 [lv,.bool true,.bool false])) s2.next [lv,.bool true,.bool false]:=DT.new
  generalize hc:s2.next=c at *
  generalize hs3:newObj s2 (AL 104 0 [lv,.bool true,.bool false])=s3 at *
  have n3:s3.next=c+1:=by rw[← hs3,← hc];rfl
  have hfresh:vb.cl c=none:=by
    cases hcc:vb.cl c with
    | none=>rfl
    | some l =>
      obtain⟨_,_,_,q,_⟩:=d1.cls c l hcc
      omega
  have hasm:AM (· = (p,20,0)) (ext ow2 c (p,14,c)) s3 (WJ (ext ow2 c (p,14,c)) (p,20,0) (p,15,c)) s3:=AM.aS _ _ _ _ rfl
  have d3A:=d1N.keep16 hasm (fun a i ha q=>by injection q with _ q;injection q with q;omega)
  have b3:Bb _ (p,15,c) s3 lv (A3 L):=b2N.aS (T':=(p,15,c))
  have htag:(WJ (ext ow2 c (p,14,c)) (p,20,0) (p,15,c)) c=(p,14,c):=by
    unfold WJ
    rw[Ej (qg c),if_neg (Cf (by decide))]
  generalize how3:WJ (ext ow2 c (p,14,c)) (p,20,0) (p,15,c)=ow3 at *
  have d4:Av ow3 s3 p x2 (Hz { vb with trace:=vb.trace++[(false,L)] } c (L,true,false)):=d3A.clause hfresh ⟨lv,hbox,htag,by omega,b3⟩
  have hstep:AM (Bs p) ow s ow3 s3:=((a2.trans d3).b.trans (hstN.mono fun _ q=>q.elim)).trans (hasm.mono fun t ht=>by rw[ht];rfl)
  have hcl4:(Hz { vb with trace:=vb.trace++[(false,L)] } c (L,true,false)).cl c=some (L,true,false):=BJ _ _ _
  have hV0:=hL.get (k:=0) (by omega)
  have hg0:=AT (d:=(0:Int)) (show 0<L.length by omega)
  have i0:AD Try.prog 23 lv (iv 0)=some (BE lv 0):=b3.addr Try.underlying23 Br (k:=0) (by rw[qi];omega)
  have ln:∀s,As Try.prog s 23 lv=some (iv (L.length:Int)):=fun s=>by
    have:=b3.len Try.underlying23 s
    rw[qi]at this
    exact this
  have hms:∀ (m:Nat) (i:Nat),Made.val i (.slice m)=.slice (some (i,0)) m (some m):=fun _ _=>rfl
  have bl:=CO (P:=Try.prog) (t:=89) (v:=AR c) Try.underlying89 HU Ws rfl rfl
  simp only[AR]at bl
  simp only[iY,hbl,hbx,hc,hs3,hptr,iZ,ln,Qa,Qb,Qc,Qd,Qe,Qf,Qg,Qh,Qi,Qj,Qk,Ql,Qm,Qn,true_and,and_true,Qo,Qp,Qq,Qr,Qs,Qt,Qu,Qv,Qw,Qx,Qy,Qz,Ra,Rb,Rc,Rd,Re,Rf,Rg,Rh,Ri,Rj,Rk,Rl,Rm,Ya,Yb,Yc,Rn,Ro,Rp,Yd,Ye,Rq,Rs,Rt,Ru,Rv,Rw,Rx]
  by_cases h2:1<L.length
  · have hdd:decide ((1:Int)<(L.length:Int))=true:=decide_eq_true (by omega)
    simp only[hdd,ia,Qa,Qb,Qc,Qd,Qe,Qf,Qg,Qh,Qi,Qj,Qk,Ql,Qm,Qn,true_and,and_true,Qo,Qp,Qq,Qr,Qs,Qt,Qu,Qv,Qw,Qx,Qy,Qz,Ra,Rb,Rc,Rd,Re,Rf,Rg,Rh,Ri,Rj,Rk,Rl,Rm,Ya,Yb,Yc,Rn,Ro,Rp,Yd,Ye,Rq,Rs,Rt,Ru,Rv,Rw,Rx]
    refine(RV hE d4 (n:=n) hz0.small hz0.w (by show C9 vb.watches≤_;rw[hw1];exact hW) hcl4 hL h2).mono ?_
    rintro _ s4 ⟨ow4,e1,e2⟩
    have b4:Bb ow4 (p,15,c) s4 lv (A3 L):=b3.step e2 (fun q=>by rcases q.2 with q | q<;>cases q)
    have hst5:AM (fun _=>False) ow4 s4 (ext ow4 s4.next (0,0,0)) (newObj s4 (AL 92 1 [AR c])):=AM.new _ ow4 s4 _ _
    have e1':=e1.keep hst5 (fun _ q=>q.elim)
    have b4':=b4.step hst5 (fun q=>q)
    obtain⟨u,s5,s6,ow5,f1,f2,f3,f4⟩:=e1'.push_learned (by show vb.learned.length≤_;rw[hle1];omega) c (q:=s4.next) (ty:=92) (sz':=1) (by rw[AK,if_pos rfl])
    have b6:Bb ow5 (p,15,c) s6 lv (A3 L):=b4'.step f4 (fun q=>by rcases q with q | q<;>injection q with _ q<;>injection q with q<;>cases q)
    have l0:=b6.get (t:=3) Do (k:=0) (A6 hg0)
    have ldl:=e1.ld_l
    simp only[AR]at f1
    simp only[ib,AH,ah,ldl,bl,hms,f1,BW,f2,AS,ZX,i0,l0,Qa,Qb,Qc,Qd,Qe,Qf,Qg,Qh,Qi,Qj,Qk,Ql,Qm,Qn,true_and,and_true,Qo,Qp,Qq,Qr,Qs,Qt,Qu,Qv,Qw,Qx,Qy,Qz,Ra,Rb,Rc,Rd,Re,Rf,Rg,Rh,Ri,Rj,Rk,Rl,Rm,Ya,Yb,Yc,Rn,Ro,Rp,Yd,Ye,Rq,Rs,Rt,Ru,Rv,Rw,Rx]
    refine(F7 hE f3 (n:=n) ?_ hV0 (some c)).mono ?_
    · exact⟨hz0.small,by show(Dm (Dm _ _ _) _ _).length=_;rw[D9,D9];exact hz0.w,hz0.value,hz0.level,hz0.why,hz0.heat,hz0.phase,hz0.trail,hz0.limits⟩
    rintro _ s7 ⟨ow7,x7,g1,g2,_⟩
    simp only[Qa,Qb,Qc,Qd,Qe,Qf,Qg,Qh,Qi,Qj,Qk,Ql,Qm,Qn,true_and,and_true,Qo,Qp,Qq,Qr,Qs,Qt,Qu,Qv,Qw,Qx,Qy,Qz,Ra,Rb,Rc,Rd,Re,Rf,Rg,Rh,Ri,Rj,Rk,Rl,Rm,Ya,Yb,Yc,Rn,Ro,Rp,Yd,Ye,Rq,Rs,Rt,Ru,Rv,Rw,Rx]
    refine⟨c,ow7,x7,by rw[← hcl1];exact hfresh,?_,hstep.trans ((e2.w.trans (hst5.mono fun _ q=>q.elim)).trans ((f4.n (by decide) (by decide) (by decide)).b.trans g2.b))⟩
    unfold Bx
    simp only[if_pos h2]
    exact g1
  · have hdd : decide ((1 : Int) < (L.length : Int)) = false := decide_eq_false (by omega)
    have l0:=b3.get (t:=3) Do (k:=0) (A6 hg0)
    simp only[hdd,ZX,i0,l0,Qa,Qb,Qc,Qd,Qe,Qf,Qg,Qh,Qi,Qj,Qk,Ql,Qm,Qn,true_and,and_true,Qo,Qp,Qq,Qr,Qs,Qt,Qu,Qv,Qw,Qx,Qy,Qz,Ra,Rb,Rc,Rd,Re,Rf,Rg,Rh,Ri,Rj,Rk,Rl,Rm,Ya,Yb,Yc,Rn,Ro,Rp,Yd,Ye,Rq,Rs,Rt,Ru,Rv,Rw,Rx]
    refine(F7 hE d4 (n:=n) ⟨hz0.small,hz0.w,hz0.value,hz0.level,hz0.why,hz0.heat,hz0.phase,hz0.trail,hz0.limits⟩ hV0 (some c)).mono ?_
    rintro _ s7 ⟨ow7,x7,g1,g2,_⟩
    simp only[Qa,Qb,Qc,Qd,Qe,Qf,Qg,Qh,Qi,Qj,Qk,Ql,Qm,Qn,true_and,and_true,Qo,Qp,Qq,Qr,Qs,Qt,Qu,Qv,Qw,Qx,Qy,Qz,Ra,Rb,Rc,Rd,Re,Rf,Rg,Rh,Ri,Rj,Rk,Rl,Rm,Ya,Yb,Yc,Rn,Ro,Rp,Yd,Ye,Rq,Rs,Rt,Ru,Rv,Rw,Rx]
    refine⟨c,ow7,x7,by rw[← hcl1];exact hfresh,?_,hstep.trans g2.b⟩
    unfold Bx
    simp only[if_neg h2]
    exact g1
def Je:List Nat→List (AV×AV×Nat)→Prop
 | [],es=>es=[]
 | k::l,es=>∃b t,es=(iv (k:Int),AV.agg [],b)::t∧Je l t
def IJ(s:AE)(i:Nat)(L:List Nat):Prop:=∃es c,s.heap.get i=some (.map es c)∧Je L es
theorem IJ.keep{s s':AE}{i:Nat}{L:List Nat}(h:IJ s i L)(k:s'.heap.get i=s.heap.get i):IJ s' i L:=by
 obtain⟨es,c,h1,h2⟩:=h
 exact⟨es,c,k.trans h1,h2⟩
theorem Je.snoc:∀ {L:List Nat}{es:List (AV×AV×Nat)},Je L es→∀ (k b:Nat),Je (L++[k]) (es++[(iv (k:Int),AV.agg [],b)])
 | [],es,h,k,b=>by
  have h:es=[]:=h
  subst h
  exact⟨b,[],rfl,rfl⟩
 | j::L,es,h,k,b=>by
  obtain⟨c,t,rfl,h⟩:=h
  exact⟨c,t++[(iv (k:Int),AV.agg [],b)],rfl,h.snoc k b⟩
theorem J0        : ∀ {L : List Nat} {es : List (AV × AV × Nat)}, Je     L es → ∀ (k n : Nat), (k ∈ L ∧ ∃ j b, D1    (iv (k : Int)) es n = some (some (j, AV.agg [], b))) ∨ (k ∉ L ∧ D1    (iv (k : Int)) es n = some none)
  | [],es,h,k,n=>by
    have h:es=[]:=h
    subst h
    exact .inr ⟨by simp,rfl⟩
  | j::L,es,h,k,n=>by
    obtain⟨c,t,rfl,h⟩:=h
    by_cases e:k=j
    · subst e
      refine .inl ⟨by simp,n,c,?_⟩
      simp only[D1,JF,decide_true,Option.bind_some]
    · have hd : decide ((k : Int) = (j : Int)) = false := decide_eq_false (by omega)
      have he:D1 (iv (k:Int)) ((iv (j:Int),AV.agg [],c)::t) n=D1 (iv (k:Int)) t (n+1):=by
        simp only[D1,JF,Option.bind_some,hd]
      rw[he]
      rcases J0 h k (n+1)with⟨h1,h2⟩ | ⟨h1,h2⟩
      · exact .inl ⟨qo _ h1,h2⟩
      · exact .inr ⟨by simp[e,h1],h2⟩
theorem HF{s:AE}{i:Nat}{L:List Nat}(h:IJ s i L)(k:Nat):DK Try.prog s 115 (.map (some i)) (iv (k:Int)) true=some (.tuple [.agg [],.bool (decide (k∈L))]):=by
 obtain⟨es,c,h1,h2⟩:=h
 simp only[DK,Try.underlying115,FD,AG,cond_true,h1,Option.bind_some]
 rcases J0 h2 k 0 with⟨h3,j,b,h4⟩ | ⟨h3,h4⟩
 ·rw[h4,decide_eq_true h3];rfl
 ·rw[h4,decide_eq_false h3];simp only[Option.bind_some,cV,cond_true]
theorem RS{s:AE}{i:Nat}{L:List Nat}(h:IJ s i L){k:Nat}(hk:k ∉ L):∃s',EV Try.prog s 115 (.map (some i)) (iv (k:Int)) (.agg [])=some s'∧IJ s' i (L++[k])∧s'.next=s.next∧∀j,j≠i→s'.heap.get j=s.heap.get j:=by
 obtain⟨es,c,h1,h2⟩:=h
 simp only[EV,Try.underlying115,FD,AG,cond_true,h1,Option.bind_some]
 rcases J0 h2 k 0 with⟨h3,_⟩ | ⟨h3,h4⟩
 ·exact absurd h3 hk
 ·rw[h4]
  exact⟨_,rfl,⟨_,_,by rw[Ai,if_pos rfl],h2.snoc k c⟩,rfl,fun x hx=>by rw[Ai,if_neg hx]⟩
theorem W1:BF Try.prog 119=some (AL 119 0 [],.ptr):=by simp[BF,cV,AV.cells]
theorem W0:BF Try.prog 115=some (AL 115 0 [.map none],.ptr):=by simp[BF,ov,AV.cells]
theorem kV:Bu Try.prog 119 (zipIdx [] [])=some (.agg []):=by
 simp[Bu,cV,Try.underlying119,B1,zipIdx,DO,Dp,AG]
theorem cL(s:AE)(i:Nat):AP Try.prog s 119 (.ptr (some (i,0))) (.agg [])=some s:=by
 simp[AP,om,Dp,AG,Cc]
theorem bL(a b:Int):D6 true (iv a) [iv b]=some (iv (max a b)):=by
 have hk:B8 .i64 .i64=true:=rfl
 simp only[D6,hk,AG,cond_true,D5]
 by_cases h:a<b
 ·rw[decide_eq_true h,show max a b=b by omega];rfl
 ·rw[decide_eq_false h,show max a b=a by omega];rfl
structure EI where
 seen:List Nat
 hd:Int
 lits:List Int
 opn:Int
 lev:Int
def BQ(v:Sv)(a:EI)(q:Int):EI:=
 if q.natAbs∈a.seen∨v.level.getD q.natAbs 0=0 then a
 else if v.level.getD q.natAbs 0=(v.limits.length:Int)then { a with seen:=a.seen++[q.natAbs],opn:=a.opn+1 }
 else { a with seen:=a.seen++[q.natAbs],lits:=a.lits++[q],lev:=max a.lev (v.level.getD q.natAbs 0) }
structure Gi(n:Nat)(a:EI):Prop where
 nodup:a.seen.Nodup
 mem:∀k∈a.seen,1≤k∧k≤n
 len:a.lits.length≤a.seen.length
 lits:∀q∈a.lits,VL n q
 opn:0≤a.opn∧a.opn≤a.seen.length
theorem Gi.small{n:Nat}{a:EI}(h:Gi n a):a.seen.length≤n:=DL h.nodup h.mem
theorem Gi.step   {n : Nat} {a : EI}  (h : Gi   n a) (v : Sv) {q : Int} (hq : VL n q) : Gi   n (BQ     v a q) := by
  unfold BQ
  have hq1:1≤q.natAbs∧q.natAbs≤n:=⟨by have:=hq.1;omega,hq.2⟩
  split
  · exact h
  · rename_i h1
    have hns:q.natAbs ∉ a.seen:=fun e=>h1 (.inl e)
    have hnd:(a.seen++[q.natAbs]).Nodup:=by
      rw[rt]
      exact⟨h.nodup,by simp,fun x hx y hy e=>by
        have:y=q.natAbs:=by simpa using hy
        exact hns (by rw[← this,← e];exact hx)⟩
    have hmem:∀k∈a.seen++[q.natAbs],1≤k∧k≤n:=fun k hk=>by
      rcases sE.1 hk with hk | hk
      · exact h.mem k hk
      · have:k=q.natAbs:=by simpa using hk
        rw[this];exact hq1
    have h2:=h.len
    have h3:=h.opn
    split
    · exact⟨hnd,hmem,by show a.lits.length≤(a.seen++[q.natAbs]).length;simp;omega,h.lits,by show 0≤a.opn+1∧a.opn+1≤((a.seen++[q.natAbs]).length:Int);simp;omega⟩
    · exact⟨hnd,hmem,by show(a.lits++[q]).length≤(a.seen++[q.natAbs]).length;simp;omega,fun y hy=>by
        rcases sE.1 hy with hy | hy
        · exact h.lits y hy
        · have:y=q:=by simpa using hy
          rw[this];exact hq,by show 0≤a.opn∧a.opn≤((a.seen++[q.natAbs]).length:Int);simp;omega⟩
structure EC(ow:Ow)(s:AE)(p:Nat)(x:Sf)(v:Sv)(N:Nat)(h:List Int)(a:EI):Prop where
 sat:Av ow s p x (Cn v h)
 hl:h.length=v.heat.length
 sb:Ap s N (AR p)
 lb:∃lv,Ap s (N+1) lv∧Bb ow (p,20,0) s lv (A3 (a.hd::a.lits))
 vb:Ap s (N+2) (iv a.lev)
 mo:IJ s (N+3) a.seen
 mb:Ap s (N+4) (.map (some (N+3)))
 ob:Ap s (N+6) (iv a.opn)
 tg:∀j,N≤j→j≤N+6→j≠N+5→ow j=(p,21,0)
 lt:N+6<s.next
def Et(p:Nat)(t:Bt):Prop:=t=(p,7,0)∨t=(p,20,0)∨t=(p,21,0)
def Gf(p:Nat)(t:Bt):Prop:=Et p t∨t=(p,23,0)
theorem EC.keep{m:Bt→Prop}{ow ow':Ow}{s s':AE}{p:Nat}{x:Sf}{v:Sv}{N:Nat}{h:List Int}{a:EI}(H:EC ow s p x v N h a)(k:AM m ow s ow' s')(hm:∀y i,y<16→¬ m (p,y,i))(h1:¬ m (p,20,0))(h2:¬ m (p,21,0)):EC ow' s' p x v N h a:=by
 have hn:=k.next
 have hlt:=H.lt
 have g:∀j,N≤j→j≤N+6→j≠N+5→s'.heap.get j=s.heap.get j:=fun j q1 q2 q3=>k.heap j (by omega) (by rw[H.tg j q1 q2 q3];exact h2)
 obtain⟨lv,l1,l2⟩:=H.lb
 exact { sat:=H.sat.keep16 k hm,hl:=H.hl,sb:=H.sb.keep (g _ (by omega) (by omega) (by omega)),lb:=⟨lv,l1.keep (g _ (by omega) (by omega) (by omega)),l2.step k h1⟩,vb:=H.vb.keep (g _ (by omega) (by omega) (by omega)),mo:=H.mo.keep (g _ (by omega) (by omega) (by omega)),mb:=H.mb.keep (g _ (by omega) (by omega) (by omega)),ob:=H.ob.keep (g _ (by omega) (by omega) (by omega)),tg:=fun j q1 q2 q3=>by rw[k.tags j (by omega) (by rw[H.tg j q1 q2 q3];exact h2)];exact H.tg j q1 q2 q3,lt:=by omega }
theorem EC.box{ow:Ow}{s s':AE}{p:Nat}{x:Sf}{v:Sv}{N:Nat}{h:List Int}{a:EI}(H:EC ow s p x v N h a){i:Nat}(h1:N≤i)(h2:i≤N+6)(h3:i≠N+5)(hn:s'.next=s.next)(hf:∀j,j≠i→s'.heap.get j=s.heap.get j):
  AM (· = (p,21,0)) ow s ow s'∧Av ow s' p x (Cn v h)∧∀ (T:Bt) (u:AV) (cs:List AV),T≠(p,21,0)→Bb ow T s u cs→Bb ow T s' u cs:=by
 have st:AM (· = (p,21,0)) ow s ow s':=⟨by omega,fun _ _ _=>rfl,fun y _ hm=>hf y fun e=>hm (by rw[e];exact H.tg i h1 h2 h3)⟩
 exact⟨st,H.sat.keep16 st (fun y i hy e=>by injection e with _ e;injection e with e _;omega),fun T u cs hT hb=>hb.step st hT⟩
theorem EC.setLev{ow:Ow}{s:AE}{p:Nat}{x:Sf}{v:Sv}{N:Nat}{h:List Int}{a:EI}(H:EC ow s p x v N h a)(y:Int):
  ∃s',AP Try.prog s 3 (.ptr (some (N+2,0))) (iv y)=some s'∧EC ow s' p x v N h { a with lev:=y }∧AM (Et p) ow s ow s'∧s'.next=s.next:=by
 obtain⟨s',g1,g2,g3,g4⟩:=H.vb.store (d:=iv y) Br rfl rfl
 obtain⟨k1,k2,k3⟩:=H.box (i:=N+2) (by omega) (by omega) (by omega) g3 g4
 obtain⟨lv,l1,l2⟩:=H.lb
 exact⟨s',g1,{ sat:=k2,hl:=H.hl,sb:=H.sb.keep (g4 _ (by omega)),lb:=⟨lv,l1.keep (g4 _ (by omega)),k3 _ _ _ (Cf (by decide)) l2⟩,vb:=g2,mo:=H.mo.keep (g4 _ (by omega)),mb:=H.mb.keep (g4 _ (by omega)),ob:=H.ob.keep (g4 _ (by omega)),tg:=H.tg,lt:=by have:=H.lt;omega },k1.mono fun t ht=>.inr (.inr ht),g3⟩
theorem EC.setOpn{ow:Ow}{s:AE}{p:Nat}{x:Sf}{v:Sv}{N:Nat}{h:List Int}{a:EI}(H:EC ow s p x v N h a)(y:Int):
  ∃s',AP Try.prog s 3 (.ptr (some (N+6,0))) (iv y)=some s'∧EC ow s' p x v N h { a with opn:=y }∧AM (Et p) ow s ow s'∧s'.next=s.next:=by
 obtain⟨s',g1,g2,g3,g4⟩:=H.ob.store (d:=iv y) Br rfl rfl
 obtain⟨k1,k2,k3⟩:=H.box (i:=N+6) (by omega) (by omega) (by omega) g3 g4
 obtain⟨lv,l1,l2⟩:=H.lb
 exact⟨s',g1,{ sat:=k2,hl:=H.hl,sb:=H.sb.keep (g4 _ (by omega)),lb:=⟨lv,l1.keep (g4 _ (by omega)),k3 _ _ _ (Cf (by decide)) l2⟩,vb:=H.vb.keep (g4 _ (by omega)),mo:=H.mo.keep (g4 _ (by omega)),mb:=H.mb.keep (g4 _ (by omega)),ob:=g2,tg:=H.tg,lt:=by have:=H.lt;omega },k1.mono fun t ht=>.inr (.inr ht),g3⟩
theorem EC.addSeen{ow:Ow}{s:AE}{p:Nat}{x:Sf}{v:Sv}{N:Nat}{h:List Int}{a:EI}(H:EC ow s p x v N h a){k:Nat}(hk:k ∉ a.seen):
  ∃s',EV Try.prog s 115 (.map (some (N+3))) (iv (k:Int)) (.agg [])=some s'∧EC ow s' p x v N h { a with seen:=a.seen++[k] }∧AM (Et p) ow s ow s'∧s'.next=s.next:=by
 obtain⟨s',g1,g2,g3,g4⟩:=RS H.mo hk
 obtain⟨k1,k2,k3⟩:=H.box (i:=N+3) (by omega) (by omega) (by omega) g3 g4
 obtain⟨lv,l1,l2⟩:=H.lb
 exact⟨s',g1,{ sat:=k2,hl:=H.hl,sb:=H.sb.keep (g4 _ (by omega)),lb:=⟨lv,l1.keep (g4 _ (by omega)),k3 _ _ _ (Cf (by decide)) l2⟩,vb:=H.vb.keep (g4 _ (by omega)),mo:=g2,mb:=H.mb.keep (g4 _ (by omega)),ob:=H.ob.keep (g4 _ (by omega)),tg:=H.tg,lt:=by have:=H.lt;omega },k1.mono fun t ht=>.inr (.inr ht),g3⟩
theorem EC.heat{ow:Ow}{s:AE}{p:Nat}{x:Sf}{v:Sv}{N:Nat}{h:List Int}{a:EI}(H:EC ow s p x v N h a){k:Nat}(hk:k<h.length)(y:Int):
  ∃s',AP Try.prog s 3 (BE x.heat k) (iv y)=some s'∧EC ow s' p x v N (h.set k y) a∧AM (Et p) ow s ow s'∧s'.next=s.next:=by
 obtain⟨s',g1,g2,g3,g4⟩:=H.sat.put_heat (k:=k) hk y
 obtain⟨s'',q1,q2,q3,q4⟩:=H.sat.heat.set (t:=3) Br (k:=k) (x:=iv y) (by rw[qi];exact hk) rfl rfl
 rw[g1]at q1
 injection q1 with q1
 subst q1
 have hlt:=H.lt
 have g:∀j,N≤j→j≤N+6→j≠N+5→s'.heap.get j=s.heap.get j:=fun j r1 r2 r3=>q3.heap j (by omega) (by rw[H.tg j r1 r2 r3];exact Cf (by decide))
 obtain⟨lv,l1,l2⟩:=H.lb
 exact⟨s',g1,{ sat:=g2,hl:=by rw[qr];exact H.hl,sb:=H.sb.keep (g _ (by omega) (by omega) (by omega)),lb:=⟨lv,l1.keep (g _ (by omega) (by omega) (by omega)),l2.step q3 (Cf (by decide))⟩,vb:=H.vb.keep (g _ (by omega) (by omega) (by omega)),mo:=H.mo.keep (g _ (by omega) (by omega) (by omega)),mb:=H.mb.keep (g _ (by omega) (by omega) (by omega)),ob:=H.ob.keep (g _ (by omega) (by omega) (by omega)),tg:=H.tg,lt:=by omega },q3.mono fun t ht=>.inl ht,g4⟩
theorem EC.push{ow:Ow}{s:AE}{p:Nat}{x:Sf}{v:Sv}{N:Nat}{h:List Int}{a:EI}(H:EC ow s p x v N h a)(hle:a.lits.length≤1000000){lv:AV}(hlv:Ap s (N+1) lv){q:Int}{i:Nat}{ty sz':Nat}(hq:s.heap.get i=some (AL ty sz' [iv q])):
  ∃u s' s'' ow',AY Try.prog s [23,23] [lv,.slice (some (i,0)) 1 (some 1)]=some (u,s')∧AP Try.prog s' 23 (.ptr (some (N+1,0))) u=some s''∧EC ow' s'' p x v N h { a with lits:=a.lits++[q] }∧AM (Et p) ow s ow' s'':=by
 obtain⟨lv',l1,l2⟩:=H.lb
 have e:lv'=lv:=by
  have q1:=l1.load DA
  rw[hlv.load DA]at q1
  injection q1 with q1
  exact q1.symm
 subst e
 obtain⟨u,s',ow',g1,g2,g3⟩:=l2.push (st:=23) (e:=3) Try.underlying23 Br W9 (by decide) Mh IE (by simp;omega) (x:=iv q) rfl hq
 have hlt:=H.lt
 have hn:=g3.next
 have g:∀j,N≤j→j≤N+6→j≠N+5→s'.heap.get j=s.heap.get j:=fun j r1 r2 r3=>g3.heap j (by omega) (by rw[H.tg j r1 r2 r3];exact Cf (by decide))
 have ht:∀j,N≤j→j≤N+6→j≠N+5→ow' j=(p,21,0):=fun j r1 r2 r3=>by rw[g3.tags j (by omega) (by rw[H.tg j r1 r2 r3];exact Cf (by decide))];exact H.tg j r1 r2 r3
 have b1:Ap s' (N+1) lv':=l1.keep (g _ (by omega) (by omega) (by omega))
 obtain⟨s'',k1,k2,k3,k4⟩:=b1.store (d:=u) Ba g2.isCell.1 g2.isCell.2
 have st:AM (· = (p,21,0)) ow' s' ow' s'':=⟨by omega,fun _ _ _=>rfl,fun y _ hm=>k4 y fun e=>hm (by rw[e];exact ht (N+1) (by omega) (by omega) (by omega))⟩
 have kk:∀j,N≤j→j≤N+6→j≠N+5→j≠N+1→s''.heap.get j=s.heap.get j:=fun j r1 r2 r3 r4=>(k4 j r4).trans (g j r1 r2 r3)
 refine⟨u,s',s'',ow',g1,k1,{ sat:=(H.sat.keep16 g3 (fun y i hy e=>by injection e with _ e;injection e with e _;omega)).keep16 st (fun y i hy e=>by injection e with _ e;injection e with e _;omega),hl:=H.hl,sb:=H.sb.keep (kk _ (by omega) (by omega) (by omega) (by omega)),lb:=⟨u,k2,?_⟩,vb:=H.vb.keep (kk _ (by omega) (by omega) (by omega) (by omega)),mo:=H.mo.keep (kk _ (by omega) (by omega) (by omega) (by omega)),mb:=H.mb.keep (kk _ (by omega) (by omega) (by omega) (by omega)),ob:=H.ob.keep (kk _ (by omega) (by omega) (by omega) (by omega)),tg:=ht,lt:=by omega },(g3.mono fun t ht=>.inr (.inl ht)).trans (st.mono fun t ht=>.inr (.inr ht))⟩
 have e:A3 (a.hd::(a.lits++[q]))=A3 (a.hd::a.lits)++[iv q]:=by simp
 show Bb ow' (p,20,0) s'' u (A3 (a.hd::(a.lits++[q])))
 rw[e]
 exact g2.step st (Cf (by decide))
abbrev Dd (p N:Nat) (x1 x7 x8 x9 x10 x11 x12 x13 x14 x15 x16 x17 x18 x19 x20:AV):List AV:=[.ptr (some (p,0)),x1,.ptr (some (N,0)),.ptr (some (N+1,0)),.ptr (some (N+2,0)),.ptr (some (N+4,0)),.ptr (some (N+6,0)),x7,x8,x9,x10,x11,x12,x13,x14,x15,x16,x17,x18,x19,x20]
def Eo (p N:Nat) (x1 x7 x8 x9 x10 x11 x12 x13 x14 x15 x16 x17 x18 x19 x20:AV) (d:Nat):Fg:=Hi 67 (Dd p N x1 x7 x8 x9 x10 x11 x12 x13 x14 x15 x16 x17 x18 x19 x20) #[26] pN pR d
section
variable{E:BI}{K:List AV→AE→Prop}{ow:Ow}{s:AE}{p:Nat}{x:Sf}{v:Sv}{N:Nat}{h:List Int}{a:EI}
theorem pI(H:EC ow s p x v N h a)(k:Nat){x1 x7 x8 x9 x11 x12 x13 x14 x15 x16 x17 x18 x19 x20:AV}(hK:K (Dd p N x1 x7 x8 x9 (iv (k:Int)) (.bool (decide (k∈a.seen))) x12 x13 x14 x15 x16 x17 x18 x19 x20) (newObj s (AL 119 0 []))):
  Qb E Zb K [] (Dd p N x1 x7 x8 x9 (iv (k:Int)) x11 x12 x13 x14 x15 x16 x17 x18 x19 x20) s:=by
 have hptr:∀i,Made.val i .ptr=.ptr (some (i,0)):=fun _=>rfl
 simp only[Zb,Dd,H.mb.load PU,HF H.mo k,W1,hptr,BW,cL,AS,Qa,Qb,Qc,Qd,Qe,Qf,Qg,Qh,Qi,Qj,Qk,Ql,Qm,Qn,true_and,and_true,Qo,Qp,Qq,Qr,Qs,Qt,Qu,Qv,Qw,Qx,Qy,Qz,Ra,Rb,Rc,Rd,Re,Rf,Rg,Rh,Ri,Rj,Rk,Rl,Rm,Ya,Yb,Yc,Rn,Ro,Rp,Yd,Ye,Rq,Rs,Rt,Ru,Rv,Rw,Rx]
 exact hK
theorem pJ(H:EC ow s p x v N h a){k:Nat}(hk:k<v.level.length)(b:Bool){x1 x7 x8 x9 x12 x13 x14 x15 x16 x17 x18 x19 x20:AV}(hK:K (Dd p N x1 x7 x8 x9 (iv (k:Int)) (.bool b) x12 x13 x14 x15 (.bool (b || decide (v.level.getD k 0=0))) x17 x18 x19 x20) s):
  Qb E Ug K [] (Dd p N x1 x7 x8 x9 (iv (k:Int)) (.bool b) x12 x13 x14 x15 x16 x17 x18 x19 x20) s:=by
 have hl:Bb ow (p,5,0) s x.lev (A3 v.level):=H.sat.level
 have hg:=AT (d:=(0:Int)) hk
 have i1:=hl.addr Try.underlying23 Br (k:=k) (by rw[qi];exact hk)
 have i2:=hl.get (t:=3) Do (k:=k) (A6 hg)
 have l1:=H.sb.load Ft
 simp only[AR]at l1
 cases b with
 | true =>
  simp only[Ug,Dd,Qa,Qb,Qc,Qd,Qe,Qf,Qg,Qh,Qi,Qj,Qk,Ql,Qm,Qn,true_and,and_true,Qo,Qp,Qq,Qr,Qs,Qt,Qu,Qv,Qw,Qx,Qy,Qz,Ra,Rb,Rc,Rd,Re,Rf,Rg,Rh,Ri,Rj,Rk,Rl,Rm,Ya,Yb,Yc,Rn,Ro,Rp,Yd,Ye,Rq,Rs,Rt,Ru,Rv,Rw,Rx]
  exact hK
 | false =>
  simp only[Ug,Dd,l1,AH,Jy,H.sat.ld_lev,i1,i2,Qa,Qb,Qc,Qd,Qe,Qf,Qg,Qh,Qi,Qj,Qk,Ql,Qm,Qn,true_and,and_true,Qo,Qp,Qq,Qr,Qs,Qt,Qu,Qv,Qw,Qx,Qy,Qz,Ra,Rb,Rc,Rd,Re,Rf,Rg,Rh,Ri,Rj,Rk,Rl,Rm,Ya,Yb,Yc,Rn,Ro,Rp,Yd,Ye,Rq,Rs,Rt,Ru,Rv,Rw,Rx]
  simpa using hK
theorem my(H:EC ow s p x v N h a){k:Nat}(hk:k ∉ a.seen){x1 x7 x8 x9 x11 x12 x13 x14 x15 x16 x17 x18 x19 x20:AV}(hK:∀s',EC ow s' p x v N h { a with seen:=a.seen++[k] }→AM (Et p) ow s ow s'→s'.next=s.next→K (Dd p N x1 x7 x8 x9 (iv (k:Int)) x11 x12 x13 x14 x15 x16 x17 x18 x19 x20) s'):
  Qb E Sx K [] (Dd p N x1 x7 x8 x9 (iv (k:Int)) x11 x12 x13 x14 x15 x16 x17 x18 x19 x20) s:=by
 obtain⟨s',g1,g2,g3,g4⟩:=H.addSeen hk
 simp only[Sx,Dd,H.mb.load PU,kV,og,g1,AS,Qa,Qb,Qc,Qd,Qe,Qf,Qg,Qh,Qi,Qj,Qk,Ql,Qm,Qn,true_and,and_true,Qo,Qp,Qq,Qr,Qs,Qt,Qu,Qv,Qw,Qx,Qy,Qz,Ra,Rb,Rc,Rd,Re,Rf,Rg,Rh,Ri,Rj,Rk,Rl,Rm,Ya,Yb,Yc,Rn,Ro,Rp,Yd,Ye,Rq,Rs,Rt,Ru,Rv,Rw,Rx]
 exact hK s' g2 g3 g4
theorem mz(H:EC ow s p x v N h a){k:Nat}(hk:k<h.length){x1 x7 x8 x9 x11 x12 x13 x14 x15 x16 x17 x18 x19 x20:AV}(hK:∀s' h',EC ow s' p x v N h' a→AM (Et p) ow s ow s'→s'.next=s.next→K (Dd p N x1 x7 x8 x9 (iv (k:Int)) x11 x12 x13 x14 x15 x16 x17 x18 x19 x20) s'):
  Qb E Sy K [] (Dd p N x1 x7 x8 x9 (iv (k:Int)) x11 x12 x13 x14 x15 x16 x17 x18 x19 x20) s:=by
 have hl:Bb ow (p,7,0) s x.heat (A3 h):=H.sat.heat
 have hg:=AT (d:=(0:Int)) hk
 have i1:=hl.addr Try.underlying23 Br (k:=k) (by rw[qi];exact hk)
 have i2:=hl.get (t:=3) Do (k:=k) (A6 hg)
 have l1:=H.sb.load Ft
 simp only[AR]at l1
 obtain⟨s',g1,g2,g3,g4⟩:=H.heat hk (EB .i64 (h.getD k 0+1))
 simp only[Sy,Dd,l1,AH,Lx,H.sat.ld_heat,i1,i2,PY,BW,g1,AS,Qa,Qb,Qc,Qd,Qe,Qf,Qg,Qh,Qi,Qj,Qk,Ql,Qm,Qn,true_and,and_true,Qo,Qp,Qq,Qr,Qs,Qt,Qu,Qv,Qw,Qx,Qy,Qz,Ra,Rb,Rc,Rd,Re,Rf,Rg,Rh,Ri,Rj,Rk,Rl,Rm,Ya,Yb,Yc,Rn,Ro,Rp,Yd,Ye,Rq,Rs,Rt,Ru,Rv,Rw,Rx]
 exact hK s' _ g2 g3 g4
theorem m8(H:EC ow s p x v N h a){k:Nat}(hk:k<v.level.length){x1 x7 x8 x9 x11 x12 x13 x14 x15 x16 x17 x18 x19 x20:AV}(hK:K (Dd p N x1 x7 x8 x9 (iv (k:Int)) x11 x12 x13 x14 x15 x16 (.bool (decide (v.level.getD k 0=(v.limits.length:Int)))) x18 x19 x20) s):
  Qb E Sz K [] (Dd p N x1 x7 x8 x9 (iv (k:Int)) x11 x12 x13 x14 x15 x16 x17 x18 x19 x20) s:=by
 have hl:Bb ow (p,5,0) s x.lev (A3 v.level):=H.sat.level
 have hm:Bb ow (p,10,0) s x.lim (A3 v.limits):=H.sat.limits
 have ln:∀s,As Try.prog s 23 x.lim=some (iv (v.limits.length:Int)):=fun s=>by
  have:=hm.len Try.underlying23 s
  rw[qi]at this
  exact this
 have hg:=AT (d:=(0:Int)) hk
 have i1:=hl.addr Try.underlying23 Br (k:=k) (by rw[qi];exact hk)
 have i2:=hl.get (t:=3) Do (k:=k) (A6 hg)
 have l1:=H.sb.load Ft
 simp only[AR]at l1
 simp only[Sz,Dd,l1,AH,Jy,IT,H.sat.ld_lev,H.sat.ld_lim,ln,i1,i2,Qa,Qb,Qc,Qd,Qe,Qf,Qg,Qh,Qi,Qj,Qk,Ql,Qm,Qn,true_and,and_true,Qo,Qp,Qq,Qr,Qs,Qt,Qu,Qv,Qw,Qx,Qy,Qz,Ra,Rb,Rc,Rd,Re,Rf,Rg,Rh,Ri,Rj,Rk,Rl,Rm,Ya,Yb,Yc,Rn,Ro,Rp,Yd,Ye,Rq,Rs,Rt,Ru,Rv,Rw,Rx]
 exact hK
theorem nC(H:EC ow s p x v N h a)(ho:0≤a.opn∧a.opn<1000000000){x1 x7 x8 x9 x10 x11 x12 x13 x14 x15 x16 x17 x18 x19 x20:AV}(hK:∀s',EC ow s' p x v N h { a with opn:=a.opn+1 }→AM (Et p) ow s ow s'→s'.next=s.next→K (Dd p N x1 x7 x8 x9 x10 x11 x12 x13 x14 x15 x16 x17 x18 x19 x20) s'):
  Qb E S0 K [] (Dd p N x1 x7 x8 x9 x10 x11 x12 x13 x14 x15 x16 x17 x18 x19 x20) s:=by
 obtain⟨s',g1,g2,g3,g4⟩:=H.setOpn (a.opn+1)
 have e3:=Ay Try.prog 3 a.opn 1 ⟨by omega,by omega⟩
 simp only[S0,Dd,H.ob.load Do,e3,BW,g1,AS,Qa,Qb,Qc,Qd,Qe,Qf,Qg,Qh,Qi,Qj,Qk,Ql,Qm,Qn,true_and,and_true,Qo,Qp,Qq,Qr,Qs,Qt,Qu,Qv,Qw,Qx,Qy,Qz,Ra,Rb,Rc,Rd,Re,Rf,Rg,Rh,Ri,Rj,Rk,Rl,Rm,Ya,Yb,Yc,Rn,Ro,Rp,Yd,Ye,Rq,Rs,Rt,Ru,Rv,Rw,Rx]
 exact hK s' g2 g3 g4
theorem nD(H:EC ow s p x v N h a)(hle:a.lits.length≤1000000){q:Int}{x1 x7 x8 x10 x11 x12 x13 x14 x15 x16 x17 x18 x19 x20:AV}(hK:∀s' ow',EC ow' s' p x v N h { a with lits:=a.lits++[q] }→AM (Et p) ow s ow' s'→K (Dd p N x1 x7 x8 (iv q) x10 x11 x12 x13 x14 x15 x16 x17 x18 x19 x20) s'):
  Qb E S1 K [] (Dd p N x1 x7 x8 (iv q) x10 x11 x12 x13 x14 x15 x16 x17 x18 x19 x20) s:=by
 obtain⟨lv,l1,l2⟩:=H.lb
 have hms:∀ (m:Nat) (i:Nat),Made.val i (.slice m)=.slice (some (i,0)) m (some m):=fun _ _=>rfl
 have bl:=CO (P:=Try.prog) (t:=23) (v:=iv q) Try.underlying23 Br RZ rfl rfl
 have hst:AM (fun _=>False) ow s (ext ow s.next (0,0,0)) (newObj s (AL 3 1 [iv q])):=AM.new _ ow s _ _
 have H1:=H.keep hst (fun _ _ _ q=>q) (fun q=>q) (fun q=>q)
 have l1':Ap (newObj s (AL 3 1 [iv q])) (N+1) lv:=l1.keep (hst.heap _ (by have:=H.lt;omega) (fun q=>q))
 obtain⟨u,s1,s2,ow',f1,f2,f3,f4⟩:=H1.push hle l1' (q:=q) (i:=s.next) (ty:=3) (sz':=1) (by rw[AK,if_pos rfl])
 simp only[S1,Dd,l1.load DA,bl,hms,f1,BW,f2,AS,Qa,Qb,Qc,Qd,Qe,Qf,Qg,Qh,Qi,Qj,Qk,Ql,Qm,Qn,true_and,and_true,Qo,Qp,Qq,Qr,Qs,Qt,Qu,Qv,Qw,Qx,Qy,Qz,Ra,Rb,Rc,Rd,Re,Rf,Rg,Rh,Ri,Rj,Rk,Rl,Rm,Ya,Yb,Yc,Rn,Ro,Rp,Yd,Ye,Rq,Rs,Rt,Ru,Rv,Rw,Rx]
 exact hK s2 ow' f3 ((hst.mono fun _ q=>q.elim).trans f4)
theorem nE(H:EC ow s p x v N h a){k:Nat}(hk:k<v.level.length){x1 x7 x8 x9 x11 x12 x13 x14 x15 x16 x17 x18 x19 x20:AV}(hK:∀s',EC ow s' p x v N h { a with lev:=max a.lev (v.level.getD k 0) }→AM (Et p) ow s ow s'→s'.next=s.next→K (Dd p N x1 x7 x8 x9 (iv (k:Int)) x11 x12 x13 x14 x15 x16 x17 x18 x19 x20) s'):
  Qb E S2 K [] (Dd p N x1 x7 x8 x9 (iv (k:Int)) x11 x12 x13 x14 x15 x16 x17 x18 x19 x20) s:=by
 have hl:Bb ow (p,5,0) s x.lev (A3 v.level):=H.sat.level
 have hg:=AT (d:=(0:Int)) hk
 have i1:=hl.addr Try.underlying23 Br (k:=k) (by rw[qi];exact hk)
 have i2:=hl.get (t:=3) Do (k:=k) (A6 hg)
 have l1:=H.sb.load Ft
 simp only[AR]at l1
 obtain⟨s',g1,g2,g3,g4⟩:=H.setLev (max a.lev (v.level.getD k 0))
 simp only[S2,Dd,H.vb.load Do,l1,AH,Jy,H.sat.ld_lev,i1,i2,bL,BW,g1,AS,Qa,Qb,Qc,Qd,Qe,Qf,Qg,Qh,Qi,Qj,Qk,Ql,Qm,Qn,true_and,and_true,Qo,Qp,Qq,Qr,Qs,Qt,Qu,Qv,Qw,Qx,Qy,Qz,Ra,Rb,Rc,Rd,Re,Rf,Rg,Rh,Ri,Rj,Rk,Rl,Rm,Ya,Yb,Yc,Rn,Ro,Rp,Yd,Ye,Rq,Rs,Rt,Ru,Rv,Rw,Rx]
 exact hK s' g2 g3 g4
end
theorem QJ          {E : BI}  (hE : Aq   E) {ow : Ow} {s : AE}  {p : Nat} {x : Sf} {v : Sv} {N : Nat} {h : List Int} {a : EI}  (H : EC  ow s p x v N h a) {n : Nat} (hn : n ≤ 1000000) (hlev : v.level.length = n + 1) (hheat : v.heat.length = n + 1) (hI : Gi   n a) {q : Int} (hq : VL n q) {l d : Nat} {x1 x7 x8 x9 x10 x11 x12 x13 x14 x15 x16 x17 x18 x19 x20 : AV}
    (hlp:A7 s l=some (Eo p N x1 x7 x8 x9 x10 x11 x12 x13 x14 x15 x16 x17 x18 x19 x20 d)) (htl:ow l=(p,23,0)) (hll:l<s.next) {K:AV→AE→Prop}
    (hK:∀s' ow' h',EC ow' s' p x v N h' (BQ v a q)→A7 s' l=some (Eo p N x1 x7 x8 x9 x10 x11 x12 x13 x14 x15 x16 x17 x18 x19 x20 d)→AM (Gf p) ow s ow' s'→ow' l=(p,23,0)→K (.bool true) s'):
    WR E l [iv q] K s:=by
  have hz:DN (Dl E.P 67) (Dd p N x1 x7 x8 x9 x10 x11 x12 x13 x14 x15 x16 x17 x18 x19 x20) [26] [iv q]=some (Dd p N x1 x7 x8 x9 x10 x11 x12 x13 x14 (iv q) x16 x17 x18 x19 x20):=by
    rw[hE.P,mi];rfl
  refine WR.round hlp hz (by rw[hE.P];exact pi) (by rw[hE.P];exact pk) ?_
  refine EW ?_
  simp only[oC,il,Dd,Qa,Qb,Qc,Qd,Qe,Qf,Qg,Qh,Qi,Qj,Qk,Ql,Qm,Qn,true_and,and_true,Qo,Qp,Qq,Qr,Qs,Qt,Qu,Qv,Qw,Qx,Qy,Qz,Ra,Rb,Rc,Rd,Re,Rf,Rg,Rh,Ri,Rj,Rk,Rl,Rm,Ya,Yb,Yc,Rn,Ro,Rp,Yd,Ye,Rq,Rs,Rt,Ru,Rv,Rw,Rx]
  refine⟨_,hlp,rfl,EW ?_⟩
  generalize hs1:setObj s l _=s1
  have n1:s1.next=s.next:=by rw[← hs1];rfl
  have l1:A7 s1 l=some { Eo p N x1 x7 x8 x9 x10 x11 x12 x13 x14 x15 x16 x17 x18 x19 x20 d with state:=.busy }:=by rw[← hs1,CM]
  have st1:AM (· = (p,23,0)) ow s ow s1:=⟨by omega,fun _ _ _=>rfl,fun y _ hm=>by rw[← hs1,Ai,if_neg (fun e=>hm (by rw[e];exact htl))]⟩
  have H1:EC ow s1 p x v N h a:=H.keep st1 (fun y i hy e=>by injection e with _ e;injection e with e _;omega) (Cf (by decide)) (Cf (by decide))
  have fin:∀ (s2:AE) (ow2:Ow) (h2:List Int),EC ow2 s2 p x v N h2 (BQ v a q)→AM (Et p) ow s1 ow2 s2→∃r'',A7 s2 l=some r''∧K (.bool true) (setObj s2 l (.loop { r'' with state:=.ready,pending:=none })):=by
    intro s2 ow2 h2 H2 st2
    have hnm:¬ Et p (p,23,0):=fun e=>by rcases e with e | e | e<;>exact absurd e (Cf (by decide))
    have l2:A7 s2 l=some { Eo p N x1 x7 x8 x9 x10 x11 x12 x13 x14 x15 x16 x17 x18 x19 x20 d with state:=.busy }:=by
      rw[Ds (st2.heap l (by omega) (by rw[htl];exact hnm))];exact l1
    have t2:ow2 l=(p,23,0):=by rw[st2.tags l (by omega) (by rw[htl];exact hnm)];exact htl
    have hn2:=st2.next
    refine⟨_,l2,?_⟩
    have st3:AM (· = (p,23,0)) ow2 s2 ow2 (setObj s2 l (.loop (Eo p N x1 x7 x8 x9 x10 x11 x12 x13 x14 x15 x16 x17 x18 x19 x20 d))):=⟨qg _,fun _ _ _=>rfl,fun y _ hm=>by rw[Ai,if_neg (fun e=>hm (by rw[e];exact t2))]⟩
    refine hK _ ow2 h2 (H2.keep st3 (fun y i hy e=>by injection e with _ e;injection e with e _;omega) (Cf (by decide)) (Cf (by decide))) (CM _ _ _) ?_ t2
    exact((st1.mono fun t ht=>.inr ht).trans (st2.mono fun t ht=>.inl ht)).trans (st3.mono fun t ht=>.inr ht)
  have hq2:=hq.2
  have hsm:=hI.small
  simp only[oD,im,Qa,Qb,Qc,Qd,Qe,Qf,Qg,Qh,Qi,Qj,Qk,Ql,Qm,Qn,true_and,and_true,Qo,Qp,Qq,Qr,Qs,Qt,Qu,Qv,Qw,Qx,Qy,Qz,Ra,Rb,Rc,Rd,Re,Rf,Rg,Rh,Ri,Rj,Rk,Rl,Rm,Ya,Yb,Yc,Rn,Ro,Rp,Yd,Ye,Rq,Rs,Rt,Ru,Rv,Rw,Rx]
  refine(Dv hE (l:=q) ⟨by omega,by omega⟩).mono ?_
  rintro _ _ ⟨rfl,rfl⟩
  simp only[Qa,Qb,Qc,Qd,Qe,Qf,Qg,Qh,Qi,Qj,Qk,Ql,Qm,Qn,true_and,and_true,Qo,Qp,Qq,Qr,Qs,Qt,Qu,Qv,Qw,Qx,Qy,Qz,Ra,Rb,Rc,Rd,Re,Rf,Rg,Rh,Ri,Rj,Rk,Rl,Rm,Ya,Yb,Yc,Rn,Ro,Rp,Yd,Ye,Rq,Rs,Rt,Ru,Rv,Rw,Rx]
  refine pI H1 q.natAbs ?_
  have st8:AM (fun _=>False) ow s1 (ext ow s1.next (0,0,0)) (newObj s1 (AL 119 0 [])):=AM.new _ ow s1 _ _
  have H8:=H1.keep st8 (fun _ _ _ q=>q) (fun q=>q) (fun q=>q)
  generalize newObj s1 (AL 119 0 [])=s8 at *
  generalize ext ow s1.next (0,0,0)=ow8 at *
  have hst8:AM (Et p) ow s1 ow8 s8:=st8.mono fun _ q=>q.elim
  try simp only[Qa,Qb,Qc,Qd,Qe,Qf,Qg,Qh,Qi,Qj,Qk,Ql,Qm,Qn,true_and,and_true,Qo,Qp,Qq,Qr,Qs,Qt,Qu,Qv,Qw,Qx,Qy,Qz,Ra,Rb,Rc,Rd,Re,Rf,Rg,Rh,Ri,Rj,Rk,Rl,Rm,Ya,Yb,Yc,Rn,Ro,Rp,Yd,Ye,Rq,Rs,Rt,Ru,Rv,Rw,Rx]
  refine pJ H8 (k:=q.natAbs) (by omega) _ ?_
  by_cases hin:q.natAbs∈a.seen
  · have e:BQ v a q=a:=by unfold BQ;rw[if_pos (.inl hin)]
    rw[e]at fin
    simp only[hin,decide_true,Bool.true_or,if_true,Qa,Qb,Qc,Qd,Qe,Qf,Qg,Qh,Qi,Qj,Qk,Ql,Qm,Qn,true_and,and_true,Qo,Qp,Qq,Qr,Qs,Qt,Qu,Qv,Qw,Qx,Qy,Qz,Ra,Rb,Rc,Rd,Re,Rf,Rg,Rh,Ri,Rj,Rk,Rl,Rm,Ya,Yb,Yc,Rn,Ro,Rp,Yd,Ye,Rq,Rs,Rt,Ru,Rv,Rw,Rx]
    exact fin s8 ow8 h H8 hst8
  · by_cases h0 : v.level.getD q.natAbs 0 = 0
    · have e:BQ v a q=a:=by unfold BQ;rw[if_pos (.inr h0)]
      rw[e]at fin
      simp only[hin,h0,decide_false,decide_true,Bool.or_true,if_true,Qa,Qb,Qc,Qd,Qe,Qf,Qg,Qh,Qi,Qj,Qk,Ql,Qm,Qn,true_and,and_true,Qo,Qp,Qq,Qr,Qs,Qt,Qu,Qv,Qw,Qx,Qy,Qz,Ra,Rb,Rc,Rd,Re,Rf,Rg,Rh,Ri,Rj,Rk,Rl,Rm,Ya,Yb,Yc,Rn,Ro,Rp,Yd,Ye,Rq,Rs,Rt,Ru,Rv,Rw,Rx]
      exact fin s8 ow8 h H8 hst8
    · simp only[hin,h0,decide_false,Bool.or_self,Qa,Qb,Qc,Qd,Qe,Qf,Qg,Qh,Qi,Qj,Qk,Ql,Qm,Qn,true_and,and_true,Qo,Qp,Qq,Qr,Qs,Qt,Qu,Qv,Qw,Qx,Qy,Qz,Ra,Rb,Rc,Rd,Re,Rf,Rg,Rh,Ri,Rj,Rk,Rl,Rm,Ya,Yb,Yc,Rn,Ro,Rp,Yd,Ye,Rq,Rs,Rt,Ru,Rv,Rw,Rx]
      refine my H8 hin ?_
      intro s10 H10 st10 n10
      try simp only[Qa,Qb,Qc,Qd,Qe,Qf,Qg,Qh,Qi,Qj,Qk,Ql,Qm,Qn,true_and,and_true,Qo,Qp,Qq,Qr,Qs,Qt,Qu,Qv,Qw,Qx,Qy,Qz,Ra,Rb,Rc,Rd,Re,Rf,Rg,Rh,Ri,Rj,Rk,Rl,Rm,Ya,Yb,Yc,Rn,Ro,Rp,Yd,Ye,Rq,Rs,Rt,Ru,Rv,Rw,Rx]
      refine mz H10 (k:=q.natAbs) (by have:=H10.hl;omega) ?_
      intro s11 h11 H11 st11 n11
      try simp only[Qa,Qb,Qc,Qd,Qe,Qf,Qg,Qh,Qi,Qj,Qk,Ql,Qm,Qn,true_and,and_true,Qo,Qp,Qq,Qr,Qs,Qt,Qu,Qv,Qw,Qx,Qy,Qz,Ra,Rb,Rc,Rd,Re,Rf,Rg,Rh,Ri,Rj,Rk,Rl,Rm,Ya,Yb,Yc,Rn,Ro,Rp,Yd,Ye,Rq,Rs,Rt,Ru,Rv,Rw,Rx]
      refine m8 H11 (k:=q.natAbs) (by omega) ?_
      have hst11:=(hst8.trans st10).trans st11
      by_cases hL:v.level.getD q.natAbs 0=(v.limits.length:Int)
      · have e:BQ v a q={ a with seen:=a.seen++[q.natAbs],opn:=a.opn+1 }:=by unfold BQ;rw[if_neg (by rintro(e | e);exact hin e;exact h0 e),if_pos hL]
        simp only[hL,decide_true,Qa,Qb,Qc,Qd,Qe,Qf,Qg,Qh,Qi,Qj,Qk,Ql,Qm,Qn,true_and,and_true,Qo,Qp,Qq,Qr,Qs,Qt,Qu,Qv,Qw,Qx,Qy,Qz,Ra,Rb,Rc,Rd,Re,Rf,Rg,Rh,Ri,Rj,Rk,Rl,Rm,Ya,Yb,Yc,Rn,Ro,Rp,Yd,Ye,Rq,Rs,Rt,Ru,Rv,Rw,Rx]
        refine nC H11 (by have:=hI.opn;show 0≤a.opn∧a.opn<_;omega) ?_
        intro s13 H13 st13 n13
        try simp only[Qa,Qb,Qc,Qd,Qe,Qf,Qg,Qh,Qi,Qj,Qk,Ql,Qm,Qn,true_and,and_true,Qo,Qp,Qq,Qr,Qs,Qt,Qu,Qv,Qw,Qx,Qy,Qz,Ra,Rb,Rc,Rd,Re,Rf,Rg,Rh,Ri,Rj,Rk,Rl,Rm,Ya,Yb,Yc,Rn,Ro,Rp,Yd,Ye,Rq,Rs,Rt,Ru,Rv,Rw,Rx]
        rw[e]at fin
        exact fin s13 ow8 h11 H13 (hst11.trans st13)
      · have e:BQ v a q={ a with seen:=a.seen++[q.natAbs],lits:=a.lits++[q],lev:=max a.lev (v.level.getD q.natAbs 0) }:=by unfold BQ;rw[if_neg (by rintro(e | e);exact hin e;exact h0 e),if_neg hL]
        simp only[hL,decide_false,Qa,Qb,Qc,Qd,Qe,Qf,Qg,Qh,Qi,Qj,Qk,Ql,Qm,Qn,true_and,and_true,Qo,Qp,Qq,Qr,Qs,Qt,Qu,Qv,Qw,Qx,Qy,Qz,Ra,Rb,Rc,Rd,Re,Rf,Rg,Rh,Ri,Rj,Rk,Rl,Rm,Ya,Yb,Yc,Rn,Ro,Rp,Yd,Ye,Rq,Rs,Rt,Ru,Rv,Rw,Rx]
        refine nD H11 (by have:=hI.len;show a.lits.length≤_;omega) ?_
        intro s14 ow14 H14 st14
        try simp only[Qa,Qb,Qc,Qd,Qe,Qf,Qg,Qh,Qi,Qj,Qk,Ql,Qm,Qn,true_and,and_true,Qo,Qp,Qq,Qr,Qs,Qt,Qu,Qv,Qw,Qx,Qy,Qz,Ra,Rb,Rc,Rd,Re,Rf,Rg,Rh,Ri,Rj,Rk,Rl,Rm,Ya,Yb,Yc,Rn,Ro,Rp,Yd,Ye,Rq,Rs,Rt,Ru,Rv,Rw,Rx]
        refine nE H14 (k:=q.natAbs) (by omega) ?_
        intro s15 H15 st15 n15
        try simp only[Qa,Qb,Qc,Qd,Qe,Qf,Qg,Qh,Qi,Qj,Qk,Ql,Qm,Qn,true_and,and_true,Qo,Qp,Qq,Qr,Qs,Qt,Qu,Qv,Qw,Qx,Qy,Qz,Ra,Rb,Rc,Rd,Re,Rf,Rg,Rh,Ri,Rj,Rk,Rl,Rm,Ya,Yb,Yc,Rn,Ro,Rp,Yd,Ye,Rq,Rs,Rt,Ru,Rv,Rw,Rx]
        rw[e]at fin
        exact fin s15 ow14 h11 H15 ((hst11.trans st14).trans st15)
def BP(f:Int→Bool):List Int→Nat→Option Nat
 | [],_=>none
 | x::l,k=>if f x=true then some k else BP f l (k+1)
def J2:Option Nat→AV
 | none=>iv (-1)
 | some k=>iv (k:Int)
theorem P8{E:BI}(hE:Aq E){s:AE}{b:Nat}{L:List Int}{f:Int→Bool}{g:FuncId}{cp:List AV}(hg:∀q∈L,WF E g (iv q::cp) (fun r s'=>r=.bool (f q)∧s=s') s)(hlen:L.length<9223372036854775808){a:Option (Nat×Nat)}{cap:Option Nat}(hc:BA b s a (A3 L)){Q:A9→Prop}(x2:AV):
    ∀ (l : List Int) (k : Nat) (x3 x6 x7 : AV), L.drop k = l → k ≤ L.length →
      (BP f l k=none→∀ (y3 y5 y6 y7:AV),Q ⟨.exit 0,[.slice a L.length cap,.func g [] cp,x2,y3,iv (L.length:Int),y5,y6,y7],[],s⟩) →
      (∀i,BP f l k=some i→∀ (y3 y5 y6 y7:AV),Q ⟨.ret,[.slice a L.length cap,.func g [] cp,iv (i:Int),y3,iv (L.length:Int),y5,y6,y7],[],s⟩) →
      WC E none (.loop Is) Q [.slice a L.length cap,.func g [] cp,x2,x3,iv (L.length:Int),iv (k:Int),x6,x7] [] s:=by
  intro l
  induction l with
  | nil =>
    intro k x3 x6 x7 hd hk hq _
    have:=Cw hd hk
    subst this
    refine WC.loop' ?_
    simp only[Is,Pq,rG,decide_false,Qa,Qb,Qc,Qd,Qe,Qf,Qg,Qh,Qi,Qj,Qk,Ql,Qm,Qn,true_and,and_true,Qo,Qp,Qq,Qr,Qs,Qt,Qu,Qv,Qw,Qx,Qy,Qz,Ra,Rb,Rc,Rd,Re,Rf,Rg,Rh,Ri,Rj,Rk,Rl,Rm,Ya,Yb,Yc,Rn,Ro,Rp,Yd,Ye,Rq,Rs,Rt,Ru,Rv,Rw,Rx]
    exact hq rfl _ _ _ _
  | cons x l ih =>
    intro k x3 x6 x7 hd hk hq hr
    obtain⟨hlt,hx,hd'⟩:=B0 hd
    obtain⟨i,o,rfl,hi,hload⟩:=hc k _ (A6 hx)
    have hxm:x∈L:=qj hx
    have e1:=At (cap:=cap) (i:=i) (o:=o) Try.underlying23 Br hlt
    have e2:AC Try.prog s 3 (.ptr (some (i,o+k * 1)))=some (iv x):=A0 Do (by rw[rC];exact hload)
    have hkk:decide ((k:Int)<(L.length:Int))=true:=decide_eq_true (by omega)
    have e3:=Ay Try.prog 3 (k:Int) 1 ⟨by omega,by omega⟩
    have e3':((k:Int)+1)=((k+1:Nat):Int):=by omega
    refine WC.loop' ?_
    generalize hW:WC E none (Ac.loop Is) Q=WW
    simp only[Is,Pq,aE,aF,hkk,e1,e2,rL,rl,rY,Qa,Qb,Qc,Qd,Qe,Qf,Qg,Qh,Qi,Qj,Qk,Ql,Qm,Qn,true_and,and_true,Qo,Qp,Qq,Qr,Qs,Qt,Qu,Qv,Qw,Qx,Qy,Qz,Ra,Rb,Rc,Rd,Re,Rf,Rg,Rh,Ri,Rj,Rk,Rl,Rm,Ya,Yb,Yc,Rn,Ro,Rp,Yd,Ye,Rq,Rs,Rt,Ru,Rv,Rw,Rx]
    refine(hg x hxm).mono ?_
    rintro _ _ ⟨rfl,rfl⟩
    cases hf:f x with
    | true =>
      have ef:BP f (x::l) k=some k:=by unfold BP;rw[if_pos hf]
      simp only[j6,Qa,Qb,Qc,Qd,Qe,Qf,Qg,Qh,Qi,Qj,Qk,Ql,Qm,Qn,true_and,and_true,Qo,Qp,Qq,Qr,Qs,Qt,Qu,Qv,Qw,Qx,Qy,Qz,Ra,Rb,Rc,Rd,Re,Rf,Rg,Rh,Ri,Rj,Rk,Rl,Rm,Ya,Yb,Yc,Rn,Ro,Rp,Yd,Ye,Rq,Rs,Rt,Ru,Rv,Rw,Rx]
      exact hr k ef _ _ _ _
    | false =>
      have ef:BP f (x::l) k=BP f l (k+1):=by rw[BP,if_neg (by rw[hf];decide)]
      simp only[aG,e3,e3',Qa,Qb,Qc,Qd,Qe,Qf,Qg,Qh,Qi,Qj,Qk,Ql,Qm,Qn,true_and,and_true,Qo,Qp,Qq,Qr,Qs,Qt,Qu,Qv,Qw,Qx,Qy,Qz,Ra,Rb,Rc,Rd,Re,Rf,Rg,Rh,Ri,Rj,Rk,Rl,Rm,Ya,Yb,Yc,Rn,Ro,Rp,Yd,Ye,Rq,Rs,Rt,Ru,Rv,Rw,Rx]
      rw[← hW]
      rw[ef]at hq hr
      exact ih (k+1) _ _ _ hd' hlt hq hr
theorem NU{E:BI}(hE:Aq E){s:AE}{b:Nat}{L:List Int}{f:Int→Bool}{g:FuncId}{cp:List AV}(hg:∀q∈L,WF E g (iv q::cp) (fun r s'=>r=.bool (f q)∧s=s') s)(hlen:L.length<9223372036854775808){v:AV}(hv:AJ b s v (A3 L)):
  WF E 94 [v,.func g [] cp] (fun r s'=>r=J2 (BP f L 0)∧s=s') s:=by
 obtain⟨a,cap,rfl,hc⟩:=hv
 rw[C7]
 refine hE.go aQ (by decide) rfl ?_
 simp only[pf,aC,aD,AW Try.underlying23,Qa,Qb,Qc,Qd,Qe,Qf,Qg,Qh,Qi,Qj,Qk,Ql,Qm,Qn,true_and,and_true,Qo,Qp,Qq,Qr,Qs,Qt,Qu,Qv,Qw,Qx,Qy,Qz,Ra,Rb,Rc,Rd,Re,Rf,Rg,Rh,Ri,Rj,Rk,Rl,Rm,Ya,Yb,Yc,Rn,Ro,Rp,Yd,Ye,Rq,Rs,Rt,Ru,Rv,Rw,Rx]
 refine P8 hE hg hlen hc _ L 0 _ _ _ rfl (qm _) ?_ ?_
 ·intro hn y3 y5 y6 y7
  rw[hn]
  simp only[aH,if_true,J2,Qa,Qb,Qc,Qd,Qe,Qf,Qg,Qh,Qi,Qj,Qk,Ql,Qm,Qn,true_and,and_true,Qo,Qp,Qq,Qr,Qs,Qt,Qu,Qv,Qw,Qx,Qy,Qz,Ra,Rb,Rc,Rd,Re,Rf,Rg,Rh,Ri,Rj,Rk,Rl,Rm,Ya,Yb,Yc,Rn,Ro,Rp,Yd,Ye,Rq,Rs,Rt,Ru,Rv,Rw,Rx]
 ·intro i hi y3 y5 y6 y7
  rw[hi]
  simp only[J2,Qa,Qb,Qc,Qd,Qe,Qf,Qg,Qh,Qi,Qj,Qk,Ql,Qm,Qn,true_and,and_true,Qo,Qp,Qq,Qr,Qs,Qt,Qu,Qv,Qw,Qx,Qy,Qz,Ra,Rb,Rc,Rd,Re,Rf,Rg,Rh,Ri,Rj,Rk,Rl,Rm,Ya,Yb,Yc,Rn,Ro,Rp,Yd,Ye,Rq,Rs,Rt,Ru,Rv,Rw,Rx]
theorem W3{E:BI}(hE:Aq E){ow:Ow}{s:AE}{p:Nat}{x:Sf}{v:Sv}{N:Nat}{h:List Int}{a:EI}(H:EC ow s p x v N h a){q:Int}(hq:q.natAbs<v.level.length)(hs:v.level.length<1000000000):
  WF E 95 [iv q,.ptr (some (N,0)),.ptr (some (N+2,0))] (fun r s'=>r=.bool (decide (v.level.getD q.natAbs 0=a.lev))∧s=s') s:=by
 have hl:Bb ow (p,5,0) s x.lev (A3 v.level):=H.sat.level
 have hg:=AT (d:=(0:Int)) hq
 have i1:=hl.addr Try.underlying23 Br (k:=q.natAbs) (by rw[qi];exact hq)
 have i2:=hl.get (t:=3) Do (k:=q.natAbs) (A6 hg)
 have l1:=H.sb.load Ft
 simp only[AR]at l1
 have eqp:E8 (.ptr (some (p,0))) (.ptr (some (p,0)))=true:=by simp[E8]
 refine hE.go mK (by decide) rfl ?_
 simp only[qf,j7,j8,l1,AH,Jy,H.sat.ld_lev,H.vb.load Do,Qa,Qb,Qc,Qd,Qe,Qf,Qg,Qh,Qi,Qj,Qk,Ql,Qm,Qn,true_and,and_true,Qo,Qp,Qq,Qr,Qs,Qt,Qu,Qv,Qw,Qx,Qy,Qz,Ra,Rb,Rc,Rd,Re,Rf,Rg,Rh,Ri,Rj,Rk,Rl,Rm,Ya,Yb,Yc,Rn,Ro,Rp,Yd,Ye,Rq,Rs,Rt,Ru,Rv,Rw,Rx]
 refine(Dv hE (l:=q) ⟨by omega,by omega⟩).mono ?_
 rintro _ _ ⟨rfl,rfl⟩
 simp only[BZ,Az,l1,H.sat.ld_lev,H.vb.load Do,hl.self,Jw,eqp,i1,i2,Qa,Qb,Qc,Qd,Qe,Qf,Qg,Qh,Qi,Qj,Qk,Ql,Qm,Qn,true_and,and_true,Qo,Qp,Qq,Qr,Qs,Qt,Qu,Qv,Qw,Qx,Qy,Qz,Ra,Rb,Rc,Rd,Re,Rf,Rg,Rh,Ri,Rj,Rk,Rl,Rm,Ya,Yb,Yc,Rn,Ro,Rp,Yd,Ye,Rq,Rs,Rt,Ru,Rv,Rw,Rx]
theorem WH{E:BI}(hE:Aq E){s:AE}(c:Nat)(l:Int):WF E 93 [AR c,iv l] (fun r s'=>r=.func 111 [] [.ptr (some (s.next,0)),.ptr (some (s.next+1,0))]∧s'=newObj (newObj s (AL 92 0 [AR c])) (AL 3 0 [iv l])) s:=by
 have hptr:∀i,Made.val i .ptr=.ptr (some (i,0)):=fun _=>rfl
 have hb1:Ce 92 (AR c)=some (AL 92 0 [AR c],.ptr):=by simp[Ce,AR,AV.cells]
 have hb2:Ce 3 (iv l)=some (AL 3 0 [iv l],.ptr):=by simp[Ce,AV.cells]
 refine hE.go mJ (by decide) rfl ?_
 simp only[qe,jz,j0,hb1,hb2,hptr,rn,rf,Qa,Qb,Qc,Qd,Qe,Qf,Qg,Qh,Qi,Qj,Qk,Ql,Qm,Qn,true_and,and_true,Qo,Qp,Qq,Qr,Qs,Qt,Qu,Qv,Qw,Qx,Qy,Qz,Ra,Rb,Rc,Rd,Re,Rf,Rg,Rh,Ri,Rj,Rk,Rl,Rm,Ya,Yb,Yc,Rn,Ro,Rp,Yd,Ye,Rq,Rs,Rt,Ru,Rv,Rw,Rx]
 rfl
def rest(but:Int)(L:List Int):List Int:=L.filter fun q=>decide (q≠but)
theorem QZ          {E : BI}  (hE : Aq   E) {ow0 : Ow} {s0 : AE}  {p : Nat} {x : Sf} {v : Sv} {N : Nat} {n : Nat} (hn : n ≤ 1000000) (hlev : v.level.length = n + 1) (hheat : v.heat.length = n + 1) {ls : List Int} (hls : BR    n ls) {c cb kb l d : Nat} {but : Int} {u : AV} {R : EI}
    {x1 x7 x8 x9 x10 x11 x12 x13 x14 x15 x16 x17 x18 x19 x20:AV} {Q:A9→Prop}
    (hq:∀s' ow' h' y3 y7 y8,EC ow' s' p x v N h' R→Gi n R→A7 s' l=some (Eo p N x1 x7 x8 x9 x10 x11 x12 x13 x14 x15 x16 x17 x18 x19 x20 d)→AM (Gf p) ow0 s0 ow' s'→ow' l=(p,23,0)→Q ⟨.exit 0,[.yield l,.ptr (some (cb,0)),.ptr (some (kb,0)),y3,u,iv (ls.length:Int),iv (ls.length:Int),y7,y8],[],s'⟩):
    ∀ (m k:Nat) (s:AE) (ow:Ow) (h:List Int) (a:EI) (x3 x7' x8':AV),ls.length - k=m→k≤ls.length→EC ow s p x v N h a→Gi n a→Bb ow (p,15,c) s u (A3 ls)→Ap s kb (iv but)→ow kb=(p,22,0)→kb<s.next→A7 s l=some (Eo p N x1 x7 x8 x9 x10 x11 x12 x13 x14 x15 x16 x17 x18 x19 x20 d)→ow l=(p,23,0)→l<s.next→AM (Gf p) ow0 s0 ow s→(rest but (ls.drop k)).foldl (BQ v) a=R →
      WC E none (.loop Jj) Q [.yield l,.ptr (some (cb,0)),.ptr (some (kb,0)),x3,u,iv (ls.length:Int),iv (k:Int),x7',x8'] [] s:=by
  intro m
  induction m with
  | zero =>
    intro k s ow h a x3 x7' x8' hm hk H hI hu hkb htk hlk hlp htl hll hst hR
    have hk:k=ls.length:=by omega
    subst hk
    rw[List.drop_length]at hR
    have hR:a=R:=hR
    subst hR
    refine WC.loop' ?_
    simp only[Jj,OK,rG,decide_false,Qa,Qb,Qc,Qd,Qe,Qf,Qg,Qh,Qi,Qj,Qk,Ql,Qm,Qn,true_and,and_true,Qo,Qp,Qq,Qr,Qs,Qt,Qu,Qv,Qw,Qx,Qy,Qz,Ra,Rb,Rc,Rd,Re,Rf,Rg,Rh,Ri,Rj,Rk,Rl,Rm,Ya,Yb,Yc,Rn,Ro,Rp,Yd,Ye,Rq,Rs,Rt,Ru,Rv,Rw,Rx]
    exact hq s ow h _ _ _ H hI hlp hst htl
  | succ m ih =>
    intro k s ow h a x3 x7' x8' hm hk H hI hu hkb htk hlk hlp htl hll hst hR
    have hlt:k<ls.length:=by omega
    have hls2:=hls.2
    have hV:=hls.get hlt
    have hg:=AT (d:=(0:Int)) hlt
    have i1:=hu.addr Try.underlying23 Br (k:=k) (by rw[qi];exact hlt)
    have i2:=hu.get (t:=3) Do (k:=k) (A6 hg)
    have hd:decide ((k:Int)<(ls.length:Int))=true:=decide_eq_true (by omega)
    have e3:=Ay Try.prog 3 (k:Int) 1 ⟨by omega,by omega⟩
    have e3':((k:Int)+1)=((k+1:Nat):Int):=by omega
    have hdr:ls.drop k=ls.getD k 0::ls.drop (k+1):=by
      rw[sO hlt]
      congr 1
      rw[qp hlt]at hg
      injection hg
    refine WC.loop' ?_
    generalize hW:WC E none (Ac.loop Jj) Q=WW
    by_cases he:ls.getD k 0=but
    · have hne:decide (ls.getD k 0≠but)=false:=decide_eq_false (fun q=>q he)
      simp only[Jj,OK,hd,SK,i1,i2,SL,hkb.load Do,hne,SM,e3,e3',Qa,Qb,Qc,Qd,Qe,Qf,Qg,Qh,Qi,Qj,Qk,Ql,Qm,Qn,true_and,and_true,Qo,Qp,Qq,Qr,Qs,Qt,Qu,Qv,Qw,Qx,Qy,Qz,Ra,Rb,Rc,Rd,Re,Rf,Rg,Rh,Ri,Rj,Rk,Rl,Rm,Ya,Yb,Yc,Rn,Ro,Rp,Yd,Ye,Rq,Rs,Rt,Ru,Rv,Rw,Rx]
      rw[← hW]
      refine ih (k+1) s ow h a _ _ _ (by omega) (by omega) H hI hu hkb htk hlk hlp htl hll hst ?_
      rw[hdr]at hR
      unfold rest at hR
      rw[sP (p:=fun q=>decide (q≠but)) (by rw[hne];decide)]at hR
      exact hR
    · have hne:decide (ls.getD k 0≠but)=true:=decide_eq_true he
      simp only[Jj,OK,hd,SK,i1,i2,SL,hkb.load Do,hne,Qa,Qb,Qc,Qd,Qe,Qf,Qg,Qh,Qi,Qj,Qk,Ql,Qm,Qn,true_and,and_true,Qo,Qp,Qq,Qr,Qs,Qt,Qu,Qv,Qw,Qx,Qy,Qz,Ra,Rb,Rc,Rd,Re,Rf,Rg,Rh,Ri,Rj,Rk,Rl,Rm,Ya,Yb,Yc,Rn,Ro,Rp,Yd,Ye,Rq,Rs,Rt,Ru,Rv,Rw,Rx]
      refine QJ hE H hn hlev hheat hI hV hlp htl hll ?_
      intro s' ow' h' H' hlp' st' hlo
      have hn':=st'.next
      have nm:∀y i,y≠7→y≠20→y≠21→y≠23→¬ Gf p (p,y,i):=by
        rintro y i g1 g2 g3 g4 ((e | e | e) | e)
        · exact Cf g1 e
        · exact Cf g2 e
        · exact Cf g3 e
        · exact Cf g4 e
      simp only[SM,e3,e3',Qa,Qb,Qc,Qd,Qe,Qf,Qg,Qh,Qi,Qj,Qk,Ql,Qm,Qn,true_and,and_true,Qo,Qp,Qq,Qr,Qs,Qt,Qu,Qv,Qw,Qx,Qy,Qz,Ra,Rb,Rc,Rd,Re,Rf,Rg,Rh,Ri,Rj,Rk,Rl,Rm,Ya,Yb,Yc,Rn,Ro,Rp,Yd,Ye,Rq,Rs,Rt,Ru,Rv,Rw,Rx]
      rw[← hW]
      refine ih (k+1) s' ow' h' (BQ v a (ls.getD k 0)) _ _ _ (by omega) (by omega) H' (hI.step v hV) (hu.step st' (nm _ _ (by decide) (by decide) (by decide) (by decide))) (hkb.keep (st'.heap kb hlk (by rw[htk];exact nm _ _ (by decide) (by decide) (by decide) (by decide)))) (by rw[st'.tags kb hlk (by rw[htk];exact nm _ _ (by decide) (by decide) (by decide) (by decide))];exact htk) (by omega) hlp' hlo (by omega) (hst.trans st') ?_
      rw[hdr]at hR
      unfold rest at hR
      rw[rz (p:=fun q=>decide (q≠but)) hne]at hR
      exact hR
theorem J5{p y i:Nat}(g1:y≠7)(g2:y≠20)(g3:y≠21)(g4:y≠23):¬ Gf p (p,y,i):=by
 rintro((e | e | e) | e)
 ·exact Cf g1 e
 ·exact Cf g2 e
 ·exact Cf g3 e
 ·exact Cf g4 e
theorem Tr{E:BI}(hE:Aq E){ow:Ow}{s:AE}{p:Nat}{x:Sf}{v:Sv}{N:Nat}{h:List Int}{a:EI}(H:EC ow s p x v N h a){n:Nat}(hn:n≤1000000)(hlev:v.level.length=n+1)(hheat:v.heat.length=n+1)(hI:Gi n a){c:Nat}{ls:List Int}{b:Bool×Bool}(hc:v.cl c=some (ls,b))(hls:BR n ls){cb kb l d:Nat}{but:Int}
  {x1 x7 x8 x9 x10 x11 x12 x13 x14 x15 x16 x17 x18 x19 x20:AV} (hcb:Ap s cb (AR c)) (hkb:Ap s kb (iv but)) (htk:ow kb=(p,22,0)) (hlk:kb<s.next) (hlp:A7 s l=some (Eo p N x1 x7 x8 x9 x10 x11 x12 x13 x14 x15 x16 x17 x18 x19 x20 d)) (htl:ow l=(p,23,0)) (hll:l<s.next):
  WF E 111 [.yield l,.ptr (some (cb,0)),.ptr (some (kb,0))] (fun _ s'=>∃ow' h',EC ow' s' p x v N h' ((rest but ls).foldl (BQ v) a)∧Gi n ((rest but ls).foldl (BQ v) a)∧A7 s' l=some (Eo p N x1 x7 x8 x9 x10 x11 x12 x13 x14 x15 x16 x17 x18 x19 x20 d)∧AM (Gf p) ow s ow' s'∧ow' l=(p,23,0)) s:=by
 obtain⟨u,hbox,ht1,hlc,hu⟩:=H.sat.cls c (ls,b) hc
 have lu:AC Try.prog s 23 (.ptr (some (c,0)))=some u:=hbox.load rfl DA
 have ln:∀s,As Try.prog s 23 u=some (iv (ls.length:Int)):=fun s=>by
  have:=hu.len Try.underlying23 s
  rw[qi]at this
  exact this
 have lc:=hcb.load kO
 simp only[AR]at lc
 refine hE.go dy (by decide) rfl ?_
 simp only[nk,Xj,lc,AH,ET,lu,ln,Qa,Qb,Qc,Qd,Qe,Qf,Qg,Qh,Qi,Qj,Qk,Ql,Qm,Qn,true_and,and_true,Qo,Qp,Qq,Qr,Qs,Qt,Qu,Qv,Qw,Qx,Qy,Qz,Ra,Rb,Rc,Rd,Re,Rf,Rg,Rh,Ri,Rj,Rk,Rl,Rm,Ya,Yb,Yc,Rn,Ro,Rp,Yd,Ye,Rq,Rs,Rt,Ru,Rv,Rw,Rx]
 refine QZ hE hn hlev hheat hls (c:=c) (l:=l) (d:=d) (R:=(rest but ls).foldl (BQ v) a) ?_ _ 0 s ow h a _ _ _ rfl (qm _) H hI hu hkb htk hlk hlp htl hll (AM.refl _ _ _) (by rw[rf])
 intro s' ow' h' y3 y7 y8 g1 g2 g3 g4 g5
 simp only[if_true,Qa,Qb,Qc,Qd,Qe,Qf,Qg,Qh,Qi,Qj,Qk,Ql,Qm,Qn,true_and,and_true,Qo,Qp,Qq,Qr,Qs,Qt,Qu,Qv,Qw,Qx,Qy,Qz,Ra,Rb,Rc,Rd,Re,Rf,Rg,Rh,Ri,Rj,Rk,Rl,Rm,Ya,Yb,Yc,Rn,Ro,Rp,Yd,Ye,Rq,Rs,Rt,Ru,Rv,Rw,Rx]
 exact⟨ow',h',g1,g2,g3,g4,g5⟩
def M7(tr:List Int)(seen:List Nat):Nat→Option Nat
 | 0=>none
 | k+1=>if (tr.getD k 0).natAbs∈seen then some k else M7 tr seen k
theorem PB{tr:List Int}{seen:List Nat}:∀ {k i:Nat},M7 tr seen k=some i→i<k∧(tr.getD i 0).natAbs∈seen
 | 0,i,h=>by cases h
 | k+1,i,h=>by
  unfold M7 at h
  split at h
  ·injection h with h
   subst h
   exact⟨rP _,by assumption⟩
  ·obtain⟨h1,h2⟩:=PB h
   exact⟨by omega,h2⟩
theorem RA{E:BI}(hE:Aq E){ow:Ow}{s:AE}{p:Nat}{x:Sf}{v:Sv}{N:Nat}{h:List Int}{a:EI}(H:EC ow s p x v N h a){n:Nat}(hf:N0 n v){i:Nat}{M:List Nat}{Q:A9→Prop}{x1 x8 x9 x10 x11 x13 x14 x15 x16 x17 x19 x20:AV}
  (hq:∀y18,Q ⟨.exit 4,Dd p N x1 (iv (i:Int)) x8 x9 x10 x11 (.bool true) x13 x14 x15 x16 x17 y18 x19 x20,M,s⟩):
  ∀ (k:Nat) (x18:AV),k≤v.trail.length→M7 v.trail a.seen k=some i→WC E none (.loop Jo) Q (Dd p N x1 (iv (k:Int)) x8 x9 x10 x11 (.bool false) x13 x14 x15 x16 x17 x18 x19 x20) M s:=by
 have htr:Bb ow (p,9,0) s x.tr (A3 v.trail):=H.sat.trail
 have l1:=H.sb.load Ft
 simp only[AR]at l1
 intro k
 induction k with
 | zero=>intro x18 hk hs;cases hs
 | succ k ih =>
  intro x18 hk hs
  have hlt:k<v.trail.length:=hk
  have hg:=AT (d:=(0:Int)) hlt
  have hV:=hf.lits _ (qj hg)
  have hsz:=hf.siz.small
  have htl:=hf.siz.trail
  have i1:=htr.addr Try.underlying23 Br (k:=k) (by rw[qi];exact hlt)
  have i2:=htr.get (t:=3) Do (k:=k) (A6 hg)
  have e3:=CV Try.prog 3 ((k+1:Nat):Int) 1 ⟨by omega,by omega⟩
  have e3':((k+1:Nat):Int) - 1=(k:Int):=by omega
  have eqm:E8 (.map (some (N+3))) (.map (some (N+3)))=true:=by simp[E8]
  refine WC.loop' ?_
  generalize hW:WC E none (Ac.loop Jo) Q=WW
  simp only[Jo,S3,ZZ,Za,Dd,e3,e3',H.mb.load PU,l1,AH,FS,H.sat.ld_tr,i1,i2,Qa,Qb,Qc,Qd,Qe,Qf,Qg,Qh,Qi,Qj,Qk,Ql,Qm,Qn,true_and,and_true,Qo,Qp,Qq,Qr,Qs,Qt,Qu,Qv,Qw,Qx,Qy,Qz,Ra,Rb,Rc,Rd,Re,Rf,Rg,Rh,Ri,Rj,Rk,Rl,Rm,Ya,Yb,Yc,Rn,Ro,Rp,Yd,Ye,Rq,Rs,Rt,Ru,Rv,Rw,Rx]
  refine(Dv hE (l:=v.trail.getD k 0) ⟨by have:=hV.2;omega,by have:=hV.2;omega⟩).mono ?_
  rintro _ _ ⟨rfl,rfl⟩
  unfold M7 at hs
  by_cases hin:(v.trail.getD k 0).natAbs∈a.seen
  ·rw[if_pos hin]at hs
   injection hs with hs
   subst hs
   simp only[BZ,Az,H.mb.load PU,eqm,BW,HF H.mo,hin,decide_true,Qa,Qb,Qc,Qd,Qe,Qf,Qg,Qh,Qi,Qj,Qk,Ql,Qm,Qn,true_and,and_true,Qo,Qp,Qq,Qr,Qs,Qt,Qu,Qv,Qw,Qx,Qy,Qz,Ra,Rb,Rc,Rd,Re,Rf,Rg,Rh,Ri,Rj,Rk,Rl,Rm,Ya,Yb,Yc,Rn,Ro,Rp,Yd,Ye,Rq,Rs,Rt,Ru,Rv,Rw,Rx]
   rw[← hW]
   refine WC.loop' ?_
   generalize hW2:WC E none (Ac.loop Jo) Q=WW2
   simp only[Jo,S3,Qa,Qb,Qc,Qd,Qe,Qf,Qg,Qh,Qi,Qj,Qk,Ql,Qm,Qn,true_and,and_true,Qo,Qp,Qq,Qr,Qs,Qt,Qu,Qv,Qw,Qx,Qy,Qz,Ra,Rb,Rc,Rd,Re,Rf,Rg,Rh,Ri,Rj,Rk,Rl,Rm,Ya,Yb,Yc,Rn,Ro,Rp,Yd,Ye,Rq,Rs,Rt,Ru,Rv,Rw,Rx]
   exact hq _
  ·rw[if_neg hin]at hs
   simp only[BZ,Az,H.mb.load PU,eqm,BW,HF H.mo,hin,decide_false,Qa,Qb,Qc,Qd,Qe,Qf,Qg,Qh,Qi,Qj,Qk,Ql,Qm,Qn,true_and,and_true,Qo,Qp,Qq,Qr,Qs,Qt,Qu,Qv,Qw,Qx,Qy,Qz,Ra,Rb,Rc,Rd,Re,Rf,Rg,Rh,Ri,Rj,Rk,Rl,Rm,Ya,Yb,Yc,Rn,Ro,Rp,Yd,Ye,Rq,Rs,Rt,Ru,Rv,Rw,Rx]
   rw[← hW]
   exact ih _ (by omega) hs
section
variable{E:BI}{K:List AV→AE→Prop}{ow:Ow}{s:AE}{p:Nat}{x:Sf}{v:Sv}{N:Nat}{h:List Int}{a:EI}
theorem nF(H:EC ow s p x v N h a){k:Nat}(hk:k<v.trail.length){x1 x8 x9 x10 x11 x12 x13 x14 x15 x16 x17 x18 x19 x20:AV}(hK:K (Dd p N x1 (iv (k:Int)) (iv (v.trail.getD k 0)) x9 x10 x11 x12 x13 x14 x15 x16 x17 x18 x19 x20) s):
  Qb E S4 K [] (Dd p N x1 (iv (k:Int)) x8 x9 x10 x11 x12 x13 x14 x15 x16 x17 x18 x19 x20) s:=by
 have htr:Bb ow (p,9,0) s x.tr (A3 v.trail):=H.sat.trail
 have l1:=H.sb.load Ft
 simp only[AR]at l1
 have hg:=AT (d:=(0:Int)) hk
 have i1:=htr.addr Try.underlying23 Br (k:=k) (by rw[qi];exact hk)
 have i2:=htr.get (t:=3) Do (k:=k) (A6 hg)
 simp only[S4,Dd,l1,AH,FS,H.sat.ld_tr,i1,i2,Qa,Qb,Qc,Qd,Qe,Qf,Qg,Qh,Qi,Qj,Qk,Ql,Qm,Qn,true_and,and_true,Qo,Qp,Qq,Qr,Qs,Qt,Qu,Qv,Qw,Qx,Qy,Qz,Ra,Rb,Rc,Rd,Re,Rf,Rg,Rh,Ri,Rj,Rk,Rl,Rm,Ya,Yb,Yc,Rn,Ro,Rp,Yd,Ye,Rq,Rs,Rt,Ru,Rv,Rw,Rx]
 exact hK
theorem nG(hE:Aq E)(H:EC ow s p x v N h a){q:Int}(hq:q.natAbs<v.why.length)(hs:v.why.length<1000000000){x1 x7 x9 x10 x11 x12 x13 x14 x15 x16 x17 x18 x19 x20:AV}(hK:K (Dd p N (JZ (v.why.getD q.natAbs none)) x7 (iv q) x9 x10 x11 x12 x13 x14 x15 x16 x17 x18 x19 x20) s):
  Qb E S5 K [] (Dd p N x1 x7 (iv q) x9 x10 x11 x12 x13 x14 x15 x16 x17 x18 x19 x20) s:=by
 have hw:Bb ow (p,6,0) s x.why (v.why.map JZ):=H.sat.why
 have l1:=H.sb.load Ft
 simp only[AR]at l1
 have hg:=AT (d:=(none:Option Nat)) hq
 have i1:=hw.addr Try.underlying89 HU (k:=q.natAbs) (by rw[qi];exact hq)
 have i2:=hw.get (t:=92) kO (k:=q.natAbs) (by rw[rX,hg];rfl)
 have eqp:E8 (.ptr (some (p,0))) (.ptr (some (p,0)))=true:=by simp[E8]
 simp only[S5,Dd,l1,AH,Oc,H.sat.ld_why,Qa,Qb,Qc,Qd,Qe,Qf,Qg,Qh,Qi,Qj,Qk,Ql,Qm,Qn,true_and,and_true,Qo,Qp,Qq,Qr,Qs,Qt,Qu,Qv,Qw,Qx,Qy,Qz,Ra,Rb,Rc,Rd,Re,Rf,Rg,Rh,Ri,Rj,Rk,Rl,Rm,Ya,Yb,Yc,Rn,Ro,Rp,Yd,Ye,Rq,Rs,Rt,Ru,Rv,Rw,Rx]
 refine(Dv hE (l:=q) ⟨by omega,by omega⟩).mono ?_
 rintro _ _ ⟨rfl,rfl⟩
 simp only[BZ,Az,l1,eqp,H.sat.ld_why,hw.self,i1,i2,Qa,Qb,Qc,Qd,Qe,Qf,Qg,Qh,Qi,Qj,Qk,Ql,Qm,Qn,true_and,and_true,Qo,Qp,Qq,Qr,Qs,Qt,Qu,Qv,Qw,Qx,Qy,Qz,Ra,Rb,Rc,Rd,Re,Rf,Rg,Rh,Ri,Rj,Rk,Rl,Rm,Ya,Yb,Yc,Rn,Ro,Rp,Yd,Ye,Rq,Rs,Rt,Ru,Rv,Rw,Rx]
 exact hK
theorem nH(H:EC ow s p x v N h a)(ho:0≤a.opn∧a.opn<1000000000){x1 x7 x8 x9 x10 x11 x12 x13 x14 x15 x16 x17 x18 x19 x20:AV}(hK:∀s',EC ow s' p x v N h { a with opn:=a.opn - 1 }→AM (Et p) ow s ow s'→s'.next=s.next→K (Dd p N x1 x7 x8 x9 x10 x11 x12 x13 x14 x15 x16 x17 x18 x19 x20) s'):
  Qb E S6 K [] (Dd p N x1 x7 x8 x9 x10 x11 x12 x13 x14 x15 x16 x17 x18 x19 x20) s:=by
 obtain⟨s',g1,g2,g3,g4⟩:=H.setOpn (a.opn - 1)
 have e3:=CV Try.prog 3 a.opn 1 ⟨by omega,by omega⟩
 simp only[S6,Dd,H.ob.load Do,e3,BW,g1,AS,Qa,Qb,Qc,Qd,Qe,Qf,Qg,Qh,Qi,Qj,Qk,Ql,Qm,Qn,true_and,and_true,Qo,Qp,Qq,Qr,Qs,Qt,Qu,Qv,Qw,Qx,Qy,Qz,Ra,Rb,Rc,Rd,Re,Rf,Rg,Rh,Ri,Rj,Rk,Rl,Rm,Ya,Yb,Yc,Rn,Ro,Rp,Yd,Ye,Rq,Rs,Rt,Ru,Rv,Rw,Rx]
 exact hK s' g2 g3 g4
theorem nI(H:EC ow s p x v N h a){x1 x7 x8 x9 x10 x11 x12 x13 x14 x15 x16 x17 x18 x19 x20:AV}(hK:K (Dd p N x1 x7 x8 x9 x10 x11 x12 x13 x14 x15 x16 x17 x18 (.bool (decide (a.opn=0))) x20) s):
  Qb E S7 K [] (Dd p N x1 x7 x8 x9 x10 x11 x12 x13 x14 x15 x16 x17 x18 x19 x20) s:=by
 simp only[S7,Dd,H.ob.load Do,Qa,Qb,Qc,Qd,Qe,Qf,Qg,Qh,Qi,Qj,Qk,Ql,Qm,Qn,true_and,and_true,Qo,Qp,Qq,Qr,Qs,Qt,Qu,Qv,Qw,Qx,Qy,Qz,Ra,Rb,Rc,Rd,Re,Rf,Rg,Rh,Ri,Rj,Rk,Rl,Rm,Ya,Yb,Yc,Rn,Ro,Rp,Yd,Ye,Rq,Rs,Rt,Ru,Rv,Rw,Rx]
 exact hK
theorem nJ(H:EC ow s p x v N h a){q:Int}(hq:i64 (-q)){x1 x7 x9 x10 x11 x12 x13 x14 x15 x16 x17 x18 x19 x20:AV}(hK:∀s',EC ow s' p x v N h { a with hd:=-q }→AM (Et p) ow s ow s'→s'.next=s.next→K (Dd p N x1 x7 (iv q) x9 x10 x11 x12 x13 x14 x15 x16 x17 x18 x19 x20) s'):
  Qb E S8 K [] (Dd p N x1 x7 (iv q) x9 x10 x11 x12 x13 x14 x15 x16 x17 x18 x19 x20) s:=by
 obtain⟨lv,b1,b2⟩:=H.lb
 have e1:=Fe Try.prog q hq
 have i0:AD Try.prog 23 lv (iv 0)=some (BE lv 0):=b2.addr Try.underlying23 Br (k:=0) (by simp)
 obtain⟨s',g1,g2,g3,g4⟩:=b2.set (t:=3) Br (k:=0) (x:=iv (-q)) (by simp) rfl rfl
 have hlt:=H.lt
 have g:∀j,N≤j→j≤N+6→j≠N+5→s'.heap.get j=s.heap.get j:=fun j q1 q2 q3=>g3.heap j (by omega) (by rw[H.tg j q1 q2 q3];exact Cf (by decide))
 simp only[S8,Dd,b1.load DA,e1,i0,BW,g1,AS,Qa,Qb,Qc,Qd,Qe,Qf,Qg,Qh,Qi,Qj,Qk,Ql,Qm,Qn,true_and,and_true,Qo,Qp,Qq,Qr,Qs,Qt,Qu,Qv,Qw,Qx,Qy,Qz,Ra,Rb,Rc,Rd,Re,Rf,Rg,Rh,Ri,Rj,Rk,Rl,Rm,Ya,Yb,Yc,Rn,Ro,Rp,Yd,Ye,Rq,Rs,Rt,Ru,Rv,Rw,Rx]
 refine hK s' { sat:=H.sat.keep16 g3 (fun y i hy e=>by injection e with _ e;injection e with e _;omega),hl:=H.hl,sb:=H.sb.keep (g _ (by omega) (by omega) (by omega)),lb:=⟨lv,b1.keep (g _ (by omega) (by omega) (by omega)),g2⟩,vb:=H.vb.keep (g _ (by omega) (by omega) (by omega)),mo:=H.mo.keep (g _ (by omega) (by omega) (by omega)),mb:=H.mb.keep (g _ (by omega) (by omega) (by omega)),ob:=H.ob.keep (g _ (by omega) (by omega) (by omega)),tg:=H.tg,lt:=by omega } (g3.mono fun t ht=>.inr (.inl ht)) g4
end
def Co(ow:Ow)(s:AE)(p:Nat)(M:List Nat):Prop:=M.Nodup∧∀i∈M,s.heap.get i=some .mark∧ow i=(p,22,0)∧i<s.next
theorem Co.step{ow ow':Ow}{s s':AE}{p:Nat}{M:List Nat}{m:Bt→Prop}(h:Co ow s p M)(k:AM m ow s ow' s')(hm:¬ m (p,22,0)):Co ow' s' p M:=by
 have hn:=k.next
 refine⟨h.1,fun i hi=>?_⟩
 obtain⟨h1,h2,h3⟩:=h.2 i hi
 exact⟨(k.heap i h3 (by rw[h2];exact hm)).trans h1,(k.tags i h3 (by rw[h2];exact hm)).trans h2,by omega⟩
theorem Mo:∀ (M:List Nat)(s:AE),M.Nodup→(∀i∈M,s.heap.get i=some .mark)→∃s',unmark s M=some s'∧s'.next=s.next∧∀j,j ∉ M→s'.heap.get j=s.heap.get j
 | [],s,_,_=>⟨s,rfl,rfl,fun _ _=>rfl⟩
 | i::M,s,h1,h2=>by
  rw[sR]at h1
  obtain⟨s',g1,g2,g3⟩:=Mo M (Bm s i) h1.2 (fun j hj=>by
   rw[Bw,if_neg (fun e=>h1.1 (by rw[← e];exact hj))]
   exact h2 j (qo _ hj))
  refine⟨s',?_,g2,fun j hj=>?_⟩
  ·have:=h2 i (ql ..)
   simp only[unmark,this]
   exact g1
  ·rw[g3 j (fun q=>hj (qo _ q)),Bw,if_neg (fun e=>hj (by rw[e];exact ql ..))]
theorem Co.unmark{ow:Ow}{s:AE}{p:Nat}{M:List Nat}(h:Co ow s p M):∃s',Go.Proofs.Ytilhhmkdcoajnaa.Am.unmark s M=some s'∧s'.next=s.next∧AM (· = (p,22,0)) ow s ow s':=by
 obtain⟨s',g1,g2,g3⟩:=Mo M s h.1 (fun i hi=>(h.2 i hi).1)
 exact⟨s',g1,g2,by omega,fun _ _ _=>rfl,fun y hy hm=>g3 y fun q=>hm (h.2 y q).2.1⟩
inductive CJ (v:Sv):Nat→EI→Nat→Int→EI→Prop
 | last {c:Nat} {a a':EI} {at_ i:Nat} {l:Int} {ls:List Int} {b:Bool×Bool} (hc:v.cl c=some (ls,b)) (ha:(rest l ls).foldl (BQ v) a=a') (hs:M7 v.trail a'.seen at_=some i) (ho:a'.opn=1):CJ v c a at_ l { a' with opn:=0,hd:=-(v.trail.getD i 0) }
 | more {c c':Nat} {a a' r:EI} {at_ i:Nat} {l:Int} {ls:List Int} {b:Bool×Bool} (hc:v.cl c=some (ls,b)) (ha:(rest l ls).foldl (BQ v) a=a') (hs:M7 v.trail a'.seen at_=some i) (ho:2≤a'.opn) (hw:v.why.getD (v.trail.getD i 0).natAbs none=some c') (hr:CJ v c' { a' with opn:=a'.opn - 1 } i (v.trail.getD i 0) r):CJ v c a at_ l r
theorem MI         {E : BI}  (hE : Aq   E) {ow : Ow} {s : AE}  {p : Nat} {x : Sf} {v : Sv} {N : Nat} {h : List Int} {a : EI}  (H : EC  ow s p x v N h a) {n : Nat} (hn : n ≤ 1000000) (hf : N0  n v) (hI : Gi   n a) {c : Nat} {ls : List Int} {b : Bool × Bool} (hc : v.cl c = some (ls, b)) (hls : BR    n ls) {at_ i : Nat} {l : Int} {a' : EI}  (ha : (rest l ls).foldl (BQ     v) a = a') (hat : at_ ≤ v.trail.length) (hs : M7   v.trail a'.seen at_ = some i) (ho : 1 ≤ a'.opn) {M : List Nat} (hM : Co      ow s p M)
    {x9 x10 x11 x12 x13 x14 x15 x16 x17 x18 x19 x20:AV} {Q:A9→Prop}
    (hlast:a'.opn=1→∀s' ow' h' M' y1 y7 y8 y9 y10 y11 y12 y13 y14 y15 y16 y17 y18 y19 y20,EC ow' s' p x v N h' { a' with opn:=0,hd:=-(v.trail.getD i 0) }→Gi n { a' with opn:=0,hd:=-(v.trail.getD i 0) }→Co ow' s' p M'→AM (Gf p) ow s ow' s'→Q ⟨.exit 0,Dd p N y1 y7 y8 y9 y10 y11 y12 y13 y14 y15 y16 y17 y18 y19 y20,M',s'⟩)
    (hmore:a'.opn≠1→∀s' ow' h' M' y9 y10 y11 y12 y13 y14 y15 y16 y17 y18 y19 y20,EC ow' s' p x v N h' { a' with opn:=a'.opn - 1 }→Gi n { a' with opn:=a'.opn - 1 }→Co ow' s' p M'→AM (Gf p) ow s ow' s'→WC E none (.loop Jp) Q (Dd p N (JZ (v.why.getD (v.trail.getD i 0).natAbs none)) (iv (i:Int)) (iv (v.trail.getD i 0)) y9 y10 y11 y12 y13 y14 y15 y16 y17 y18 y19 y20) M' s'):
    WC E none (.loop Jp) Q (Dd p N (AR c) (iv (at_:Int)) (iv l) x9 x10 x11 x12 x13 x14 x15 x16 x17 x18 x19 x20) M s:=by
  refine WC.loop' ?_
  generalize hW:WC E none (Ac.loop Jp) Q=WW at hmore ⊢
  simp only[Jp,ik,Dd,Qa,Qb,Qc,Qd,Qe,Qf,Qg,Qh,Qi,Qj,Qk,Ql,Qm,Qn,true_and,and_true,Qo,Qp,Qq,Qr,Qs,Qt,Qu,Qv,Qw,Qx,Qy,Qz,Ra,Rb,Rc,Rd,Re,Rf,Rg,Rh,Ri,Rj,Rk,Rl,Rm,Ya,Yb,Yc,Rn,Ro,Rp,Yd,Ye,Rq,Rs,Rt,Ru,Rv,Rw,Rx]
  refine(WH hE c l).mono ?_
  rintro _ s1 ⟨rfl,rfl⟩
  simp only[Qa,Qb,Qc,Qd,Qe,Qf,Qg,Qh,Qi,Qj,Qk,Ql,Qm,Qn,true_and,and_true,Qo,Qp,Qq,Qr,Qs,Qt,Qu,Qv,Qw,Qx,Qy,Qz,Ra,Rb,Rc,Rd,Re,Rf,Rg,Rh,Ri,Rj,Rk,Rl,Rm,Ya,Yb,Yc,Rn,Ro,Rp,Yd,Ye,Rq,Rs,Rt,Ru,Rv,Rw,Rx]
  generalize hsa:newObj s (AL 92 0 [AR c])=sa
  have na:sa.next=s.next+1:=by rw[← hsa];rfl
  have oa:Ao s.next s sa:=by rw[← hsa];exact Ao.new s _
  have ba:Ap sa s.next (AR c):=by rw[← hsa];exact Ap.new
  generalize hsb:newObj sa (AL 3 0 [iv l])=sb
  have nb:sb.next=s.next+2:=by rw[← hsb];show sa.next+1=_;omega
  have ob:Ao (s.next+1) sa sb:=by rw[← hsb,← na];exact Ao.new sa _
  have bb:Ap sb (s.next+1) (iv l):=by rw[← hsb,← na];exact Ap.new
  refine WC.range (g:=111) (first:=[]) (cap:=[.ptr (some (s.next,0)),.ptr (some (s.next+1,0))]) rfl ?_
  rw[nb]
  generalize hsc:newObj sb .mark=sc
  have nc:sc.next=s.next+3:=by rw[← hsc];show sb.next+1=_;omega
  have oc:Ao (s.next+2) sb sc:=by rw[← hsc,← nb];exact Ao.new sb _
  have mc:sc.heap.get (s.next+2)=some .mark:=by rw[← hsc,AK,if_pos nb.symm]
  generalize hsd:newObj sc (.loop (Hi 67 _ _ _ _ _))=sd
  have nd:sd.next=s.next+4:=by rw[← hsd];show sc.next+1=_;omega
  have od:Ao (s.next+3) sc sd:=by rw[← hsd,← nc];exact Ao.new sc _
  have ld:A7 sd (s.next+2+1)=some (Eo p N (AR c) (iv (at_:Int)) (iv l) x9 x10 x11 x12 x13 (.func 111 [] [.ptr (some (s.next,0)),.ptr (some (s.next+1,0))]) x15 x16 x17 x18 x19 x20 (s.next+2)):=by
    rw[← hsd]
    unfold A7
    rw[AK,if_pos (by omega)]
    rfl
  have osd:Ao s.next s sd:=((oa.trans (ob.mono (by omega))).trans (oc.mono (by omega))).trans (od.mono (by omega))
  have RL:AM (fun _=>False) ow s (fun j=>if j<s.next then ow j else if j=s.next+3 then (p,23,0)else (p,22,0)) sd:=⟨by omega,fun j hj _=>if_pos hj,fun j hj _=>osd.2 j hj⟩
  generalize how:(fun j=>if j<s.next then ow j else if j=s.next+3 then (p,23,0)else (p,22,0):Ow)=owd at RL
  have tk:owd (s.next+1)=(p,22,0):=by rw[← how];show(if _ then _ else if _ then _ else _:Bt)=_;rw[if_neg (by omega),if_neg (by omega)]
  have tm:owd (s.next+2)=(p,22,0):=by rw[← how];show(if _ then _ else if _ then _ else _:Bt)=_;rw[if_neg (by omega),if_neg (by omega)]
  have tl:owd (s.next+2+1)=(p,23,0):=by rw[← how];show(if _ then _ else if _ then _ else _:Bt)=_;rw[if_neg (by omega),if_pos (by omega)]
  have Hd:EC owd sd p x v N h a:=H.keep RL (fun _ _ _ q=>q) (fun q=>q) (fun q=>q)
  have Md:Co owd sd p M:=hM.step RL (fun q=>q)
  have M2:Co owd sd p ((s.next+2)::M):=by
    refine⟨?_,fun i hi=>?_⟩
    · rw[sR]
      exact⟨fun q=>by have:=(hM.2 _ q).2.2;omega,hM.1⟩
    · rcases rI.1            hi with e | e
      · rw[e]
        exact⟨by rw[od.2 _ (by omega)];exact mc,tm,by omega⟩
      · exact Md.2 i e
  have bad:Ap sd s.next (AR c):=ba.keep (by rw[od.2 _ (by omega),oc.2 _ (by omega),ob.2 _ (by omega)])
  have bbd:Ap sd (s.next+1) (iv l):=bb.keep (by rw[od.2 _ (by omega),oc.2 _ (by omega)])
  have hz:=hf.siz
  refine(Tr hE Hd hn hz.level hz.heat hI hc hls bad bbd tk (by omega) ld tl (by omega)).mono ?_
  rintro _ s2 ⟨ow2,h2,H2,I2,l2,st2,t2⟩
  rw[ha]at H2 I2
  have n2:=st2.next
  refine⟨_,l2,rfl,?_⟩
  have st3:AM (· = (p,23,0)) ow2 s2 ow2 (setObj s2 (s.next+2+1) (.loop { Eo p N (AR c) (iv (at_:Int)) (iv l) x9 x10 x11 x12 x13 (.func 111 [] [.ptr (some (s.next,0)),.ptr (some (s.next+1,0))]) x15 x16 x17 x18 x19 x20 (s.next+2)with state:=.exhausted })):=⟨qg _,fun _ _ _=>rfl,fun y _ hm=>by rw[Ai,if_neg (fun e=>hm (by rw[e];exact t2))]⟩
  have H3:=H2.keep st3 (fun y i hy e=>by injection e with _ e;injection e with e _;omega) (Cf (by decide)) (Cf (by decide))
  have M3:Co ow2 _ p ((s.next+2)::M):=(M2.step st2 (J5 (by decide) (by decide) (by decide) (by decide))).step st3 (Cf (by decide))
  have stT:AM (Gf p) ow s ow2 (setObj s2 (s.next+2+1) (.loop { Eo p N (AR c) (iv (at_:Int)) (iv l) x9 x10 x11 x12 x13 (.func 111 [] [.ptr (some (s.next,0)),.ptr (some (s.next+1,0))]) x15 x16 x17 x18 x19 x20 (s.next+2)with state:=.exhausted })):=((RL.mono fun _ q=>q.elim).trans st2).trans (st3.mono fun t ht=>.inr ht)
  show F4 _ _ _ _ none
  unfold F4
  generalize setObj s2 (s.next+2+1) _=s3 at *
  obtain⟨hi,hin⟩:=PB hs
  have hil:i<v.trail.length:=by omega
  have hg:=AT (d:=(0:Int)) hil
  have hV:=hf.lits _ (qj hg)
  have hsz:=hz.small
  have hV2:=hV.2
  have hwl:=hz.why
  simp only[ZY,Qa,Qb,Qc,Qd,Qe,Qf,Qg,Qh,Qi,Qj,Qk,Ql,Qm,Qn,true_and,and_true,Qo,Qp,Qq,Qr,Qs,Qt,Qu,Qv,Qw,Qx,Qy,Qz,Ra,Rb,Rc,Rd,Re,Rf,Rg,Rh,Ri,Rj,Rk,Rl,Rm,Ya,Yb,Yc,Rn,Ro,Rp,Yd,Ye,Rq,Rs,Rt,Ru,Rv,Rw,Rx]
  refine RA hE H3 hf (i:=i) ?_ at_ _ hat hs
  intro y18
  simp only[if_true,Qa,Qb,Qc,Qd,Qe,Qf,Qg,Qh,Qi,Qj,Qk,Ql,Qm,Qn,true_and,and_true,Qo,Qp,Qq,Qr,Qs,Qt,Qu,Qv,Qw,Qx,Qy,Qz,Ra,Rb,Rc,Rd,Re,Rf,Rg,Rh,Ri,Rj,Rk,Rl,Rm,Ya,Yb,Yc,Rn,Ro,Rp,Yd,Ye,Rq,Rs,Rt,Ru,Rv,Rw,Rx]
  refine nF H3 hil ?_
  try simp only[Qa,Qb,Qc,Qd,Qe,Qf,Qg,Qh,Qi,Qj,Qk,Ql,Qm,Qn,true_and,and_true,Qo,Qp,Qq,Qr,Qs,Qt,Qu,Qv,Qw,Qx,Qy,Qz,Ra,Rb,Rc,Rd,Re,Rf,Rg,Rh,Ri,Rj,Rk,Rl,Rm,Ya,Yb,Yc,Rn,Ro,Rp,Yd,Ye,Rq,Rs,Rt,Ru,Rv,Rw,Rx]
  refine nG hE H3 (q:=v.trail.getD i 0) (by omega) (by omega) ?_
  try simp only[Qa,Qb,Qc,Qd,Qe,Qf,Qg,Qh,Qi,Qj,Qk,Ql,Qm,Qn,true_and,and_true,Qo,Qp,Qq,Qr,Qs,Qt,Qu,Qv,Qw,Qx,Qy,Qz,Ra,Rb,Rc,Rd,Re,Rf,Rg,Rh,Ri,Rj,Rk,Rl,Rm,Ya,Yb,Yc,Rn,Ro,Rp,Yd,Ye,Rq,Rs,Rt,Ru,Rv,Rw,Rx]
  have hop:=I2.opn
  have hsm:=I2.small
  refine nH H3 (by omega) ?_
  intro s4 H4 st4 n4
  try simp only[Qa,Qb,Qc,Qd,Qe,Qf,Qg,Qh,Qi,Qj,Qk,Ql,Qm,Qn,true_and,and_true,Qo,Qp,Qq,Qr,Qs,Qt,Qu,Qv,Qw,Qx,Qy,Qz,Ra,Rb,Rc,Rd,Re,Rf,Rg,Rh,Ri,Rj,Rk,Rl,Rm,Ya,Yb,Yc,Rn,Ro,Rp,Yd,Ye,Rq,Rs,Rt,Ru,Rv,Rw,Rx]
  refine nI H4 ?_
  have I4:Gi n { a' with opn:=a'.opn - 1 }:=⟨I2.nodup,I2.mem,I2.len,I2.lits,by show 0≤a'.opn - 1∧a'.opn - 1≤(a'.seen.length:Int);omega⟩
  have M4:Co ow2 s4 p ((s.next+2)::M):=M3.step st4 (fun q=>J5 (by decide) (by decide) (by decide) (by decide) (.inl q))
  have stT4:=stT.trans (st4.mono fun t ht=>.inl ht)
  by_cases h1:a'.opn=1
  · have hd0:decide (a'.opn - 1=0)=true:=decide_eq_true (by omega)
    simp only[hd0,Qa,Qb,Qc,Qd,Qe,Qf,Qg,Qh,Qi,Qj,Qk,Ql,Qm,Qn,true_and,and_true,Qo,Qp,Qq,Qr,Qs,Qt,Qu,Qv,Qw,Qx,Qy,Qz,Ra,Rb,Rc,Rd,Re,Rf,Rg,Rh,Ri,Rj,Rk,Rl,Rm,Ya,Yb,Yc,Rn,Ro,Rp,Yd,Ye,Rq,Rs,Rt,Ru,Rv,Rw,Rx]
    refine nJ H4 (q:=v.trail.getD i 0) ⟨by omega,by omega⟩ ?_
    intro s5 H5 st5 n5
    simp only[show(0:Nat)≠1 by decide,if_false,Qa,Qb,Qc,Qd,Qe,Qf,Qg,Qh,Qi,Qj,Qk,Ql,Qm,Qn,true_and,and_true,Qo,Qp,Qq,Qr,Qs,Qt,Qu,Qv,Qw,Qx,Qy,Qz,Ra,Rb,Rc,Rd,Re,Rf,Rg,Rh,Ri,Rj,Rk,Rl,Rm,Ya,Yb,Yc,Rn,Ro,Rp,Yd,Ye,Rq,Rs,Rt,Ru,Rv,Rw,Rx]
    have e:({ ({ a' with opn:=a'.opn - 1 }:EI)with hd:=-(v.trail.getD i 0) }:EI)={ a' with opn:=0,hd:=-(v.trail.getD i 0) }:=by
      show EI.mk _ _ _ _ _=EI.mk _ _ _ _ _
      rw[h1];rfl
    rw[e]at H5
    exact hlast h1 s5 ow2 h2 _ _ _ _ _ _ _ _ _ _ _ _ _ _ _ _ H5 ⟨I2.nodup,I2.mem,I2.len,I2.lits,by show(0:Int)≤0∧(0:Int)≤(a'.seen.length:Int);omega⟩ (M4.step st5 (fun q=>J5 (by decide) (by decide) (by decide) (by decide) (.inl q))) (stT4.trans (st5.mono fun t ht=>.inl ht))
  · have hd0:decide (a'.opn - 1=0)=false:=decide_eq_false (by omega)
    simp only[hd0,Qa,Qb,Qc,Qd,Qe,Qf,Qg,Qh,Qi,Qj,Qk,Ql,Qm,Qn,true_and,and_true,Qo,Qp,Qq,Qr,Qs,Qt,Qu,Qv,Qw,Qx,Qy,Qz,Ra,Rb,Rc,Rd,Re,Rf,Rg,Rh,Ri,Rj,Rk,Rl,Rm,Ya,Yb,Yc,Rn,Ro,Rp,Yd,Ye,Rq,Rs,Rt,Ru,Rv,Rw,Rx]
    exact hmore h1 s4 ow2 h2 _ _ _ _ _ _ _ _ _ _ _ _ _ H4 I4 M4 stT4
theorem Tc{E:BI}(hE:Aq E){ow0:Ow}{s0:AE}{p:Nat}{x:Sf}{v:Sv}{N:Nat}{n:Nat}(hn:n≤1000000)(hf:N0 n v)(hcl:∀c ls b,v.cl c=some (ls,b)→BR n ls){r:EI}{Q:A9→Prop}
  (hq:∀s' ow' h' M' y1 y7 y8 y9 y10 y11 y12 y13 y14 y15 y16 y17 y18 y19 y20,EC ow' s' p x v N h' r→Gi n r→Co ow' s' p M'→AM (Gf p) ow0 s0 ow' s'→Q ⟨.exit 0,Dd p N y1 y7 y8 y9 y10 y11 y12 y13 y14 y15 y16 y17 y18 y19 y20,M',s'⟩) {c at_:Nat} {a:EI} {l:Int} (hr:CJ v c a at_ l r):
  ∀ (s:AE) (ow:Ow) (h:List Int) (M:List Nat) (x9 x10 x11 x12 x13 x14 x15 x16 x17 x18 x19 x20:AV),at_≤v.trail.length→EC ow s p x v N h a→Gi n a→Co ow s p M→AM (Gf p) ow0 s0 ow s →
   WC E none (.loop Jp) Q (Dd p N (AR c) (iv (at_:Int)) (iv l) x9 x10 x11 x12 x13 x14 x15 x16 x17 x18 x19 x20) M s:=by
 induction hr with
 | last hc ha hs ho =>
  intro s ow h M x9 x10 x11 x12 x13 x14 x15 x16 x17 x18 x19 x20 hat H hI hM hst
  refine MI hE H hn hf hI hc (hcl _ _ _ hc) ha hat hs (by omega) hM ?_ ?_
  ·intro _ s' ow' h' M' y1 y7 y8 y9 y10 y11 y12 y13 y14 y15 y16 y17 y18 y19 y20 g1 g2 g3 g4
   exact hq s' ow' h' M' _ _ _ _ _ _ _ _ _ _ _ _ _ _ _ g1 g2 g3 (hst.trans g4)
  ·intro q
   exact absurd ho q
 | more hc ha hs ho hw hr ih =>
  intro s ow h M x9 x10 x11 x12 x13 x14 x15 x16 x17 x18 x19 x20 hat H hI hM hst
  refine MI hE H hn hf hI hc (hcl _ _ _ hc) ha hat hs (by omega) hM ?_ ?_
  ·intro q
   omega
  ·intro _ s' ow' h' M' y9 y10 y11 y12 y13 y14 y15 y16 y17 y18 y19 y20 g1 g2 g3 g4
   rw[hw]
   exact ih hq s' ow' h' M' _ _ _ _ _ _ _ _ _ _ _ _ (by have:=(PB hs).1;omega) g1 g2 g3 (hst.trans g4)
theorem Bb.make{ow:Ow}{T:Bt}{s:AE}{i:Nat}{e:TypeId}{cs:List AV}(h:s.heap.get i=some (AL e 1 cs))(hc:cs≠[])(ht:ow i=T)(hi:i<s.next):Bb ow T s (.slice (some (i,0)) cs.length (some cs.length)) cs:=by
 obtain⟨r,h1,h2,h3,h4,h5,h6⟩:=BN e 1 cs
 refine .inr ⟨i,0,some cs.length,r,rfl,⟨by rw[h,h1],ht,hi,h5,h3,fun p hp=>?_⟩,fun k u hk=>?_,by rw[h2.1];omega,⟨qg _,by rw[h2.1];omega⟩⟩
 ·rw[h6]at hp;cases hp
 ·rw[qq]
  exact h2.2 k u hk
def KM(v:Sv)(y:Int)(q:Int):Bool:=decide (v.level.getD q.natAbs 0=y)
def Al(v:Sv)(r:EI):List Int:=match BP (KM v r.lev) r.lits 0 with
 | none=>r.hd::r.lits
 | some i=>A5 (r.hd::r.lits) 1 (i+1)
theorem GA{f:Int→Bool}:∀ {L:List Int}{k i:Nat},BP f L k=some i→k≤i∧i<k+L.length
 | [],k,i,h=>by cases h
 | x::L,k,i,h=>by
  unfold BP at h
  split at h
  ·injection h with h
   subst h
   simp
  ·obtain⟨h1,h2⟩:=GA h
   simp
   omega
theorem QK{ow:Ow}{s s1 s2 s3 s4 s5 s6 s7 s8 s9 s10:AE}{p:Nat}{x:Sf}{v:Sv}(h:Av ow s p x v)
  (e1:newObj s (AL 44 0 [AR p])=s1) (e2:newObj s1 (AL 23 0 [.slice none 0 (some 0)])=s2) (e3:newObj s2 (AL 3 0 [iv 0])=s3) (e4:newObj s3 (.map [] 0)=s4) (e5:newObj s4 (AL 115 0 [.map none])=s5)
  (f6:Ap s6 (s.next+4) (.map (some (s.next+3)))) (n6:s6.next=s5.next) (o6:∀j,j≠s.next+4→s6.heap.get j=s5.heap.get j)
  (e7:newObj s6 (AL 3 1 [iv 0])=s7)
  (f8:Ap s8 (s.next+1) (.slice (some (s.next+5,0)) 1 (some 1))) (n8:s8.next=s7.next) (o8:∀j,j≠s.next+1→s8.heap.get j=s7.heap.get j)
  (e9:newObj s8 (AL 3 0 [iv 0])=s9)
  (f10:Ap s10 (s.next+6) (iv 0)) (n10:s10.next=s9.next) (o10:∀j,j≠s.next+6→s10.heap.get j=s9.heap.get j):
  ∃ow',EC ow' s10 p x v s.next v.heat ⟨[],0,[],0,0⟩∧AM (fun _=>False) ow s ow' s10:=by
 have n1:s1.next=s.next+1:=by rw[← e1];rfl
 have n2:s2.next=s.next+2:=by rw[← e2];show s1.next+1=_;omega
 have n3:s3.next=s.next+3:=by rw[← e3];show s2.next+1=_;omega
 have n4:s4.next=s.next+4:=by rw[← e4];show s3.next+1=_;omega
 have n5:s5.next=s.next+5:=by rw[← e5];show s4.next+1=_;omega
 have n7:s7.next=s.next+6:=by rw[← e7];show s6.next+1=_;omega
 have n9:s9.next=s.next+7:=by rw[← e9];show s8.next+1=_;omega
 have o1:Ao s.next s s1:=by rw[← e1];exact Ao.new s _
 have o2:Ao (s.next+1) s1 s2:=by rw[← e2,← n1];exact Ao.new s1 _
 have o3:Ao (s.next+2) s2 s3:=by rw[← e3,← n2];exact Ao.new s2 _
 have o4:Ao (s.next+3) s3 s4:=by rw[← e4,← n3];exact Ao.new s3 _
 have o5:Ao (s.next+4) s4 s5:=by rw[← e5,← n4];exact Ao.new s4 _
 have o7:Ao (s.next+5) s6 s7:=by rw[← e7,show s.next+5=s6.next by omega];exact Ao.new s6 _
 have o9:Ao (s.next+6) s8 s9:=by rw[← e9,show s.next+6=s8.next by omega];exact Ao.new s8 _
 have b10:∀j,j<s.next+5→j≠s.next+4→j≠s.next+1→s10.heap.get j=s5.heap.get j:=fun j h1 h2 h3=>by
  rw[o10 j (by omega),o9.2 j (by omega),o8 j h3,o7.2 j (by omega),o6 j h2]
 have old:Ao s.next s s10:=⟨by omega,fun j hj=>by
  rw[b10 j (by omega) (by omega) (by omega),o5.2 j (by omega),o4.2 j (by omega),o3.2 j (by omega),o2.2 j (by omega),o1.2 j hj]⟩
 refine⟨fun j=>if j<s.next then ow j else if j=s.next+5 then (p,20,0)else (p,21,0),?_,⟨old.1,fun j hj _=>if_pos hj,fun j hj _=>old.2 j hj⟩⟩
 have st:AM (fun _=>False) ow s (fun j=>if j<s.next then ow j else if j=s.next+5 then (p,20,0)else (p,21,0)) s10:=⟨old.1,fun j hj _=>if_pos hj,fun j hj _=>old.2 j hj⟩
 have t5:(fun j=>if j<s.next then ow j else if j=s.next+5 then (p,20,0)else (p,21,0):Ow) (s.next+5)=(p,20,0):=by show(if _ then _ else if _ then _ else _:Bt)=_;rw[if_neg (by omega),if_pos rfl]
 have r5:s10.heap.get (s.next+5)=some (AL 3 1 [iv 0]):=by
  rw[o10 _ (by omega),o9.2 _ (by omega),o8 _ (by omega),← e7,AK,if_pos (by omega)]
 refine { sat:=h.keep st (fun _ q=>q.elim),hl:=rfl,sb:=?_,lb:=⟨_,f8.keep (by rw[o10 _ (by omega),o9.2 _ (by omega)]),Bb.make r5 (by simp) t5 (by omega)⟩,vb:=?_,mo:=⟨[],0,?_,rfl⟩,mb:=f6.keep (by rw[o10 _ (by omega),o9.2 _ (by omega),o8 _ (by omega),o7.2 _ (by omega)]),ob:=f10,tg:=fun j h1 h2 h3=>?_,lt:=by omega }
 ·have b:Ap s1 s.next (AR p):=by rw[← e1];exact Ap.new
  exact b.keep (by rw[b10 _ (by omega) (by omega) (by omega),o5.2 _ (by omega),o4.2 _ (by omega),o3.2 _ (by omega),o2.2 _ (by omega)])
 ·have b:Ap s3 s2.next (iv 0):=by rw[← e3];exact Ap.new
  rw[n2]at b
  exact b.keep (by rw[b10 _ (by omega) (by omega) (by omega),o5.2 _ (by omega),o4.2 _ (by omega)])
 ·rw[b10 _ (by omega) (by omega) (by omega),o5.2 _ (by omega),← e4,AK,if_pos (by omega)]
 ·show(if _ then _ else if _ then _ else _:Bt)=_
  rw[if_neg (by omega),if_neg h3]
theorem Vs{E:BI}(hE:Aq E){ow:Ow}{s:AE}{p:Nat}{x:Sf}{v:Sv}{N:Nat}{h:List Int}{r:EI}(H:EC ow s p x v N h r){n:Nat}(hn:n≤1000000)(hlev:v.level.length=n+1)(hI:Gi n r){K:List AV→AE→Prop}{x1 x7 x8 x9 x10 x11 x12 x13 x14 x15 x16 x17 x18 x19 x20:AV}
  (hK:Qb E Lf K [] (Dd p N x1 x7 x8 x9 x10 x11 x12 (J2 (BP (KM v r.lev) r.lits 0)) x14 x15 x16 x17 x18 x19 x20) s):
  Qb E S9 (fun V s'=>Qb E Lf K [] V s') [] (Dd p N x1 x7 x8 x9 x10 x11 x12 x13 x14 x15 x16 x17 x18 x19 x20) s:=by
 obtain⟨lv,b1,b2⟩:=H.lb
 obtain⟨g1,g2⟩:=b2.rest Try.underlying23 Br (k:=1) (by simp)
 have e1:(A3 (r.hd::r.lits)).drop 1=A3 r.lits:=rfl
 rw[e1]at g2
 have g1':AU Try.prog 23 true false false s [lv,iv 1]=some (Gg lv 1):=g1
 have hsm:=hI.small
 have hle:=hI.len
 simp only[S9,Dd,b1.load DA,g1',rn,rf,Qa,Qb,Qc,Qd,Qe,Qf,Qg,Qh,Qi,Qj,Qk,Ql,Qm,Qn,true_and,and_true,Qo,Qp,Qq,Qr,Qs,Qt,Qu,Qv,Qw,Qx,Qy,Qz,Ra,Rb,Rc,Rd,Re,Rf,Rg,Rh,Ri,Rj,Rk,Rl,Rm,Ya,Yb,Yc,Rn,Ro,Rp,Yd,Ye,Rq,Rs,Rt,Ru,Rv,Rw,Rx]
 refine(NU hE (f:=KM v r.lev) (g:=95) (cp:=[.ptr (some (N,0)),.ptr (some (N+2,0))]) (fun q hq=>?_) (by omega) g2).mono ?_
 ·exact W3 hE H (by have:=(hI.lits q hq).2;omega) (by omega)
 rintro _ _ ⟨rfl,rfl⟩
 simp only[Qa,Qb,Qc,Qd,Qe,Qf,Qg,Qh,Qi,Qj,Qk,Ql,Qm,Qn,true_and,and_true,Qo,Qp,Qq,Qr,Qs,Qt,Qu,Qv,Qw,Qx,Qy,Qz,Ra,Rb,Rc,Rd,Re,Rf,Rg,Rh,Ri,Rj,Rk,Rl,Rm,Ya,Yb,Yc,Rn,Ro,Rp,Yd,Ye,Rq,Rs,Rt,Ru,Rv,Rw,Rx]
 exact hK
theorem nK{E:BI}{K:List AV→AE→Prop}{ow:Ow}{s:AE}{p:Nat}{lv:AV}{F:List Int}{N i:Nat}(b1:Ap s (N+1) lv)(b2:Bb ow (p,20,0) s lv (A3 F))(hi:i+1<F.length)(hl:F.length<1000000000)(ht:ow (N+1)=(p,21,0))(hlt:N+1<s.next){x1 x7 x8 x9 x10 x11 x12 x14 x15 x16 x17 x18 x19 x20:AV}
  (hK:∀s',Ap s' (N+1) lv→Bb ow (p,20,0) s' lv (A3 (A5 F 1 (i+1)))→AM (· = (p,20,0)) ow s ow s'→s'.next=s.next→K (Dd p N x1 x7 x8 x9 x10 x11 x12 (iv (i:Int)) x14 x15 x16 x17 x18 x19 x20) s'):
  Qb E TA K [] (Dd p N x1 x7 x8 x9 x10 x11 x12 (iv (i:Int)) x14 x15 x16 x17 x18 x19 x20) s:=by
 have e3:=Ay Try.prog 3 (i:Int) 1 ⟨by omega,by omega⟩
 have e3':((i:Int)+1)=((i+1:Nat):Int):=by omega
 have ga:=AT (d:=(0:Int)) hi
 have gb:=AT (d:=(0:Int)) (show 1<F.length by omega)
 have i1:=b2.addr Try.underlying23 Br (k:=i+1) (by rw[qi];exact hi)
 have i2:=b2.get (t:=3) Do (k:=i+1) (A6 ga)
 have j1:AD Try.prog 23 lv (iv 1)=some (BE lv 1):=b2.addr Try.underlying23 Br (k:=1) (by rw[qi];omega)
 have j2:=b2.get (t:=3) Do (k:=1) (A6 gb)
 obtain⟨s1,g1,g2,g3,g4⟩:=b2.set (t:=3) Br (k:=1) (x:=iv (F.getD (i+1) 0)) (by rw[qi];omega) rfl rfl
 obtain⟨s2,k1,k2,k3,k4⟩:=g2.set (t:=3) Br (k:=i+1) (x:=iv (F.getD 1 0)) (by rw[qr,qi];exact hi) rfl rfl
 have b1':Ap s1 (N+1) lv:=b1.keep (g3.heap _ hlt (by rw[ht];exact Cf (by decide)))
 have b1'':Ap s2 (N+1) lv:=b1'.keep (k3.heap _ (by omega) (by rw[ht];exact Cf (by decide)))
 have e:((A3 F).set 1 (iv (F.getD (i+1) 0))).set (i+1) (iv (F.getD 1 0))=A3 (A5 F 1 (i+1)):=by
  unfold A5 A3
  rw[sA,sA]
 rw[e]at k2
 simp only[TA,Dd,b1.load DA,e3,e3',i1,i2,j1,j2,BW,g1,AS,BZ,Az,b1'.load DA,b2.self,k1,Qa,Qb,Qc,Qd,Qe,Qf,Qg,Qh,Qi,Qj,Qk,Ql,Qm,Qn,true_and,and_true,Qo,Qp,Qq,Qr,Qs,Qt,Qu,Qv,Qw,Qx,Qy,Qz,Ra,Rb,Rc,Rd,Re,Rf,Rg,Rh,Ri,Rj,Rk,Rl,Rm,Ya,Yb,Yc,Rn,Ro,Rp,Yd,Ye,Rq,Rs,Rt,Ru,Rv,Rw,Rx]
 exact hK s2 b1'' k2 (g3.trans k3) (by omega)
theorem fQ{E:BI}{K:List AV→AE→Prop}{ow:Ow}{s:AE}{p:Nat}{lv:AV}{y:Int}{F:List Int}{N:Nat}(b1:Ap s (N+1) lv)(b2:Bb ow (p,20,0) s lv (A3 F))(b3:Ap s (N+2) (iv y))(ht:∀j,j=N+1∨j=N+2→ow j=(p,21,0)){x1 x7 x8 x9 x10 x11 x12 x13 x14 x15 x16 x17 x18 x19 x20:AV}
  (hK:∀s',Ap s' (N+1) lv→Ap s' (N+2) (iv y)→AM (· = (p,21,0)) ow s ow s'→s'.next=s.next→K (Dd p N x1 x7 x8 x9 x10 x11 x12 x13 x14 x15 x16 x17 x18 x19 x20) s'):
  Qb E TB K [] (Dd p N x1 x7 x8 x9 x10 x11 x12 x13 x14 x15 x16 x17 x18 x19 x20) s:=by
 obtain⟨s1,g1,g2,g3,g4⟩:=b1.store (d:=lv) Ba b2.isCell.1 b2.isCell.2
 have b3':Ap s1 (N+2) (iv y):=b3.keep (g4 _ (by omega))
 obtain⟨s2,k1,k2,k3,k4⟩:=b3'.store (d:=iv y) Br rfl rfl
 simp only[TB,Dd,b1.load DA,b3.load Do,BW,g1,AS,BZ,Az,b3'.load Do,Jw,k1,Qa,Qb,Qc,Qd,Qe,Qf,Qg,Qh,Qi,Qj,Qk,Ql,Qm,Qn,true_and,and_true,Qo,Qp,Qq,Qr,Qs,Qt,Qu,Qv,Qw,Qx,Qy,Qz,Ra,Rb,Rc,Rd,Re,Rf,Rg,Rh,Ri,Rj,Rk,Rl,Rm,Ya,Yb,Yc,Rn,Ro,Rp,Yd,Ye,Rq,Rs,Rt,Ru,Rv,Rw,Rx]
 refine hK s2 (g2.keep (k4 _ (by omega))) k2 ⟨by omega,fun _ _ _=>rfl,fun j hj hm=>?_⟩ (by omega)
 rw[k4 j (fun e=>hm (ht j (.inr e))),g4 j (fun e=>hm (ht j (.inl e)))]
theorem bF{E:BI}(hE:Aq E){ow:Ow}{s:AE}{p:Nat}{x:Sf}{v:Sv}(h:Av ow s p x v){n:Nat}(hn:n≤1000000)(hf:N0 n v)(hcl:∀c ls b,v.cl c=some (ls,b)→BR n ls){c:Nat}{r:EI}(hr:CJ v c ⟨[],0,[],0,0⟩ v.trail.length 0 r):
  WF E 67 [AR p,AR c] (fun res s'=>∃lv ow' h',res=.tuple [lv,iv r.lev]∧Gi n r∧Av ow' s' p x (Cn v h')∧h'.length=v.heat.length∧Bb ow' (p,20,0) s' lv (A3 (Al v r))∧AM (Bs p) ow s ow' s') s:=by
 have hptr:∀i,Made.val i .ptr=.ptr (some (i,0)):=fun _=>rfl
 have hmap:∀i,Made.val i .map=.map (some i):=fun _=>rfl
 have hms:∀ (m:Nat) (i:Nat),Made.val i (.slice m)=.slice (some (i,0)) m (some m):=fun _ _=>rfl
 have bl:=CO (P:=Try.prog) (t:=23) (v:=iv 0) Try.underlying23 Br RZ rfl rfl
 have hbox:Ce 44 (AV.ptr (some (p,0)))=some (AL 44 0 [AR p],.ptr):=by simp[Ce,AR,AV.cells]
 have eqp:E8 (.ptr (some (p,0))) (.ptr (some (p,0)))=true:=by simp[E8]
 have hz:=hf.siz
 refine hE.go lg (by decide) rfl ?_
 generalize e1:newObj s (AL 44 0 [AR p])=s1
 have n1:s1.next=s.next+1:=by rw[← e1];rfl
 generalize e2:newObj s1 (AL 23 0 [.slice none 0 (some 0)])=s2
 have n2:s2.next=s.next+2:=by rw[← e2];show s1.next+1=_;omega
 generalize e3:newObj s2 (AL 3 0 [iv 0])=s3
 have n3:s3.next=s.next+3:=by rw[← e3];show s2.next+1=_;omega
 generalize e4:newObj s3 (.map [] 0)=s4
 have n4:s4.next=s.next+4:=by rw[← e4];show s3.next+1=_;omega
 generalize e5:newObj s4 (AL 115 0 [.map none])=s5
 have n5:s5.next=s.next+5:=by rw[← e5];show s4.next+1=_;omega
 have b5:Ap s5 (s.next+4) (.map none):=by rw[← e5,← n4];exact Ap.new
 obtain⟨s6,g6,f6,n6,o6⟩:=b5.store (d:=.map (some (s.next+3))) (t:=115) ol rfl rfl
 generalize e7:newObj s6 (AL 3 1 [iv 0])=s7
 have n7:s7.next=s.next+6:=by rw[← e7];show s6.next+1=_;omega
 have o2:Ap s2 (s.next+1) (.slice none 0 (some 0)):=by rw[← e2,← n1];exact Ap.new
 have b7:Ap s7 (s.next+1) (.slice none 0 (some 0)):=o2.keep (by
  rw[← e7,AK,if_neg (by omega),o6 _ (by omega),← e5,AK,if_neg (by omega),← e4,AK,if_neg (by omega),← e3,AK,if_neg (by omega)])
 obtain⟨s8,g8,f8,n8,o8⟩:=b7.store (d:=.slice (some (s.next+5,0)) 1 (some 1)) (t:=23) Ba rfl rfl
 generalize e9:newObj s8 (AL 3 0 [iv 0])=s9
 have n9:s9.next=s.next+7:=by rw[← e9];show s8.next+1=_;omega
 have b9:Ap s9 (s.next+6) (iv 0):=by rw[← e9,show s.next+6=s8.next by omega];exact Ap.new
 obtain⟨s10,g10,f10,n10,o10⟩:=b9.store (d:=iv 0) (t:=3) Br rfl rfl
 obtain⟨ow1,H,st⟩:=QK h e1 e2 e3 e4 e5 f6 n6 o6 e7 f8 n8 o8 e9 f10 n10 o10
 have hlt:=h.lt
 have l8:AC Try.prog s8 44 (.ptr (some (s.next,0)))=some (AR p):=by
  have b:Ap s1 s.next (AR p):=by rw[← e1];exact Ap.new
  refine(b.keep ?_).load Ft
  rw[o8 _ (by omega),← e7,AK,if_neg (by omega),o6 _ (by omega),← e5,AK,if_neg (by omega),← e4,AK,if_neg (by omega),← e3,AK,if_neg (by omega),← e2,AK,if_neg (by omega)]
 have t8:AC Try.prog s8 23 (.ptr (some (p,7)))=some x.tr:=by
  refine(h.box.keep (s':=s8) ?_).load (k:=7) rfl DA
  rw[o8 _ (by omega),← e7,AK,if_neg (by omega),o6 _ (by omega),← e5,AK,if_neg (by omega),← e4,AK,if_neg (by omega),← e3,AK,if_neg (by omega),← e2,AK,if_neg (by omega),← e1,AK,if_neg (by omega)]
 have l9:AC Try.prog s9 44 (.ptr (some (s.next,0)))=some (AR p):=by rw[← l8];exact D4 (by rw[← e9,AK,if_neg (by omega)])
 have t9:AC Try.prog s9 23 (.ptr (some (p,7)))=some x.tr:=by rw[← t8];exact D4 (by rw[← e9,AK,if_neg (by omega)])
 have l10:AC Try.prog s10 44 (.ptr (some (s.next,0)))=some (AR p):=by rw[← l9];exact D4 (o10 _ (by omega))
 have t10:AC Try.prog s10 23 (.ptr (some (p,7)))=some x.tr:=by rw[← t9];exact D4 (o10 _ (by omega))
 have ln:∀s,As Try.prog s 23 x.tr=some (iv (v.trail.length:Int)):=fun s=>by
  have:=h.trail.len Try.underlying23 s
  rw[qi]at this
  exact this
 simp only[AR]at e1 hbox l8 l9 l10
 have q6:s6.next=s.next+5:=by omega
 have q8:s8.next=s.next+6:=by omega
 simp only[qN,ic,ie,ig,ii,ij,AR,hbox,e1,hptr,n1,N8,e2,n2,UW,e3,n3,e4,hmap,n4,W0,e5,BW,g6,AS,bl,e7,hms,q6,g8,l8,t8,AH,FS,ln,e9,q8,g10,BZ,HY,Az,l10,t10,eqp,h.trail.self,Jw,Qa,Qb,Qc,Qd,Qe,Qf,Qg,Qh,Qi,Qj,Qk,Ql,Qm,Qn,true_and,and_true,Qo,Qp,Qq,Qr,Qs,Qt,Qu,Qv,Qw,Qx,Qy,Qz,Ra,Rb,Rc,Rd,Re,Rf,Rg,Rh,Ri,Rj,Rk,Rl,Rm,Ya,Yb,Yc,Rn,Ro,Rp,Yd,Ye,Rq,Rs,Rt,Ru,Rv,Rw,Rx]
 refine Tc hE hn hf hcl ?_ hr s10 ow1 v.heat [] _ _ _ _ _ _ _ _ _ _ _ _ (qg _) H ⟨by simp,by simp,qm _,by simp,by simp⟩ ⟨by simp,by simp⟩ (AM.refl _ _ _)
 intro s11 ow11 h11 M y1 y7 y8 y9 y10 y11 y12 y13 y14 y15 y16 y17 y18 y19 y20 H11 I11 M11 st11
 simp only[if_true,Qa,Qb,Qc,Qd,Qe,Qf,Qg,Qh,Qi,Qj,Qk,Ql,Qm,Qn,true_and,and_true,Qo,Qp,Qq,Qr,Qs,Qt,Qu,Qv,Qw,Qx,Qy,Qz,Ra,Rb,Rc,Rd,Re,Rf,Rg,Rh,Ri,Rj,Rk,Rl,Rm,Ya,Yb,Yc,Rn,Ro,Rp,Yd,Ye,Rq,Rs,Rt,Ru,Rv,Rw,Rx]
 refine Vs hE H11 hn hz.level I11 ?_
 have hmL:∀ {t:Bt},Gf p t→Bs p t:=by
  rintro t ((e | e | e) | e)<;>rw[e]<;>rfl
 have stA:AM (Bs p) ow s ow11 s11:=(st.mono fun _ q=>q.elim).trans (st11.mono fun t ht=>hmL ht)
 obtain⟨lv,b1,b2⟩:=H11.lb
 have hsm:=I11.small
 have hle:=I11.len
 have hlt11:=H11.lt
 have hm20:∀y i,y≠20→¬ ((p,y,i):Bt)=(p,20,0):=fun y i hy=>Cf hy
 have fin:∀ (s12 s13:AE),Ap s12 (s.next+1) lv→Bb ow11 (p,20,0) s12 lv (A3 (Al v r))→AM (· = (p,20,0)) ow11 s11 ow11 s12→s12.next=s11.next →
   Ap s13 (s.next+1) lv→Ap s13 (s.next+2) (iv r.lev)→AM (· = (p,21,0)) ow11 s12 ow11 s13→s13.next=s12.next →
   ∃s14,unmark s13 M=some s14∧AC Try.prog s14 23 (.ptr (some (s.next+1,0)))=some lv∧AC Try.prog s14 3 (.ptr (some (s.next+2,0)))=some (iv r.lev)∧Av ow11 s14 p x (Cn v h11)∧Bb ow11 (p,20,0) s14 lv (A3 (Al v r))∧AM (Bs p) ow s ow11 s14:=by
  intro s12 s13 d1 d2 d3 d4 k1 k2 k3 k4
  have M13:Co ow11 s13 p M:=(M11.step d3 (hm20 _ _ (by decide))).step k3 (Cf (by decide))
  obtain⟨s14,u1,u2,u3⟩:=M13.unmark
  have w1:Ap s14 (s.next+1) lv:=k1.keep (u3.heap _ (by omega) (by rw[H11.tg (s.next+1) (by omega) (by omega) (by omega)];exact Cf (by decide)))
  have w2:Ap s14 (s.next+2) (iv r.lev):=k2.keep (u3.heap _ (by omega) (by rw[H11.tg (s.next+2) (by omega) (by omega) (by omega)];exact Cf (by decide)))
  have hno:∀ (z:Nat),16≤z→∀y i,y<16→¬ ((p,y,i):Bt)=(p,z,0):=fun z hz y i hy=>Cf (by omega)
  exact⟨s14,u1,w1.load DA,w2.load Do,((H11.sat.keep16 d3 (hno 20 (by decide))).keep16 k3 (hno 21 (by decide))).keep16 u3 (hno 22 (by decide)),(d2.step k3 (Cf (by decide))).step u3 (Cf (by decide)),
   ((stA.trans (d3.mono fun t ht=>by rw[ht];rfl)).trans (k3.mono fun t ht=>by rw[ht];rfl)).trans (u3.mono fun t ht=>by rw[ht];rfl)⟩
 have tg12:∀j,j=s.next+1∨j=s.next+2→ow11 j=(p,21,0):=by
  rintro j (e | e)<;>subst e<;>exact H11.tg _ (by omega) (by omega) (by omega)
 cases hfi:BP (KM v r.lev) r.lits 0 with
 | none =>
  have el:Al v r=r.hd::r.lits:=by unfold Al;rw[hfi]
  have hd0:decide ((0:Int)≤-1)=false:=rfl
  simp only[Lf,J2,hd0,Dd,Qa,Qb,Qc,Qd,Qe,Qf,Qg,Qh,Qi,Qj,Qk,Ql,Qm,Qn,true_and,and_true,Qo,Qp,Qq,Qr,Qs,Qt,Qu,Qv,Qw,Qx,Qy,Qz,Ra,Rb,Rc,Rd,Re,Rf,Rg,Rh,Ri,Rj,Rk,Rl,Rm,Ya,Yb,Yc,Rn,Ro,Rp,Yd,Ye,Rq,Rs,Rt,Ru,Rv,Rw,Rx]
  refine fQ b1 b2 H11.vb tg12 ?_
  intro s13 k1 k2 k3 k4
  rw[← el]at b2
  obtain⟨s14,u1,u2,u3,u4,u5,u6⟩:=fin s11 s13 b1 b2 (AM.refl _ _ _) rfl k1 k2 k3 k4
  simp only[u1,Cr,u2,u3,Qa,Qb,Qc,Qd,Qe,Qf,Qg,Qh,Qi,Qj,Qk,Ql,Qm,Qn,true_and,and_true,Qo,Qp,Qq,Qr,Qs,Qt,Qu,Qv,Qw,Qx,Qy,Qz,Ra,Rb,Rc,Rd,Re,Rf,Rg,Rh,Ri,Rj,Rk,Rl,Rm,Ya,Yb,Yc,Rn,Ro,Rp,Yd,Ye,Rq,Rs,Rt,Ru,Rv,Rw,Rx]
  exact⟨lv,ow11,h11,rfl,I11,u4,H11.hl,u5,u6⟩
 | some i =>
  have el:Al v r=A5 (r.hd::r.lits) 1 (i+1):=by unfold Al;rw[hfi]
  have hd0:decide ((0:Int)≤(i:Int))=true:=decide_eq_true (by omega)
  have hfl:=(GA hfi).2
  simp only[Lf,J2,hd0,Dd,Qa,Qb,Qc,Qd,Qe,Qf,Qg,Qh,Qi,Qj,Qk,Ql,Qm,Qn,true_and,and_true,Qo,Qp,Qq,Qr,Qs,Qt,Qu,Qv,Qw,Qx,Qy,Qz,Ra,Rb,Rc,Rd,Re,Rf,Rg,Rh,Ri,Rj,Rk,Rl,Rm,Ya,Yb,Yc,Rn,Ro,Rp,Yd,Ye,Rq,Rs,Rt,Ru,Rv,Rw,Rx]
  refine nK b1 b2 (i:=i) (by simp;omega) (by simp;omega) (H11.tg _ (by omega) (by omega) (by omega)) (by omega) ?_
  intro s12 d1 d2 d3 d4
  rw[← el]at d2
  have d5:Ap s12 (s.next+2) (iv r.lev):=H11.vb.keep (d3.heap _ (by omega) (by rw[H11.tg (s.next+2) (by omega) (by omega) (by omega)];exact hm20 _ _ (by decide)))
  try simp only[Qa,Qb,Qc,Qd,Qe,Qf,Qg,Qh,Qi,Qj,Qk,Ql,Qm,Qn,true_and,and_true,Qo,Qp,Qq,Qr,Qs,Qt,Qu,Qv,Qw,Qx,Qy,Qz,Ra,Rb,Rc,Rd,Re,Rf,Rg,Rh,Ri,Rj,Rk,Rl,Rm,Ya,Yb,Yc,Rn,Ro,Rp,Yd,Ye,Rq,Rs,Rt,Ru,Rv,Rw,Rx]
  refine fQ d1 d2 d5 tg12 ?_
  intro s13 k1 k2 k3 k4
  obtain⟨s14,u1,u2,u3,u4,u5,u6⟩:=fin s12 s13 d1 d2 d3 d4 k1 k2 k3 k4
  simp only[u1,Cr,u2,u3,Qa,Qb,Qc,Qd,Qe,Qf,Qg,Qh,Qi,Qj,Qk,Ql,Qm,Qn,true_and,and_true,Qo,Qp,Qq,Qr,Qs,Qt,Qu,Qv,Qw,Qx,Qy,Qz,Ra,Rb,Rc,Rd,Re,Rf,Rg,Rh,Ri,Rj,Rk,Rl,Rm,Ya,Yb,Yc,Rn,Ro,Rp,Yd,Ye,Rq,Rs,Rt,Ru,Rv,Rw,Rx]
  exact⟨lv,ow11,h11,rfl,I11,u4,H11.hl,u5,u6⟩
theorem I9{α:Type}{cs add:List α}{u:α}{k:Nat}(h:(cs++add)[k]? = some u):(k<cs.length∧cs[k]? = some u)∨(cs.length≤k∧add[k - cs.length]? = some u):=by
 rcases qk k cs.length with hlt | hge
 ·rw[qv hlt]at h;exact .inl ⟨hlt,h⟩
 ·rw[qy hge]at h
  exact .inr ⟨hge,h⟩
theorem Bb.pushN  {ow : Ow} {T : Bt}  {s : AE}  {v : AV} {cs : List AV} (h : Bb  ow T s v cs) {st e : TypeId} {by_ : Nat} (ht : Try.prog.underlying st = some (.slice e)) (hs : BD    Try.prog e = some 1) (hb : Cg     Try.prog e = some by_) (hby : by_ ≤ 100) (hx : BC           Try.prog st = true) (hz : CB     Try.prog e 1 = true)
    (hl:cs.length≤1000000000) {add:List AV} (hne:0<add.length) (hal:add.length≤1000) (hac:Ae add=true) {w:AV} (hsrc:Bg Try.prog s e 1 w=some (add.length,add)) (hw:∃aw cw,w=.slice aw add.length cw):
    ∃v' s' ow',AY Try.prog s [st,st] [v,w]=some (v',s')∧Bb ow' T s' v' (cs++add)∧AM (· = T) ow s ow' s':=by
  obtain⟨aw,cw,rfl⟩:=hw
  have hnn:add≠[]:=fun e=>by rw[e]at hne;cases hne
  have hmul:(cs.length+add.length) * by_≤(cs.length+add.length) * 100:=sV _ hby
  have fresh:∀ (s1:AE),AM (· = T) ow s ow s1→s1.next=s.next→(∀ (c:Ak AV) (par:Option Nat),(∀k u,(cs++add)[k]? = some u→c.get k=some u)→(∀p,par=some p→ow p=T∧p<s.next) →
      ∃ow',Bb ow' T (newObj s1 (CL e 1 c (cs++add).length par)) (.slice (some (s.next,0)) (cs.length+add.length) none) (cs++add)∧AM (· = T) ow s ow' (newObj s1 (CL e 1 c (cs++add).length par))):=by
    intro s1 hst hn c par hcg hpar
    refine⟨ext ow s1.next T,.inr ⟨s.next,0,none,{ elem:=e,sz:=1,n:=(cs++add).length,c,spare:=true,mode:=.own,par,bytes:=false },by rw[qn],⟨by rw[AK,if_pos hn.symm];rfl,Ej (by omega),by show s.next<s1.next+1;omega,rfl,rfl,fun p hp=>?_⟩,fun k u hk=>by rw[qq];exact hcg k u hk,by rw[qq];exact qg _,⟨rfl,by show 0<(cs++add).length;rw[qn];omega⟩⟩,hst.trans (AM.new _ ow s1 _ T)⟩
    obtain⟨h1,h2⟩:=hpar p hp
    exact⟨by rw[Fv (by omega)];exact h1,by show p<s1.next+1;omega,by omega⟩
  rcases h with⟨rfl,rfl⟩ | ⟨i,o,cap,r,rfl,h2,h3,h4,h5⟩
  · obtain⟨ow',g1,g2⟩:=fresh s (AM.refl _ _ _) rfl (Ak.fill .leaf 0 add) none (fun k u hk=>by
      have:=DD (t:=Ak.leaf) (n:=0) hk
      rw[qq]at this
      exact this) (fun p hp=>by cases hp)
    refine⟨_,_,ow',?_,g1,g2⟩
    have hmul':(0+add.length) * by_≤(0+add.length) * 100:=sV _ hby
    rw[BT ht hs hb (by decide) hx hsrc hac (by omega) (by omega)]
    simp only[appTo,D0 (show add.length≠0 by omega),cond_false,Bf,AG,hz,cond_true,rL,rS,qq]
  · have happ := BT         (st := st) (xt := st) (a := some (i, o)) (n := cs.length) (cap := cap) ht hs hb (by decide) hx hsrc hac (by omega) (by omega)
    have hcells:loadN s i o (cs.length * 1)=some cs:=by
      have hrow:rowAt s i=some r:=by simp[rowAt,h2.get]
      simp only[loadN,hrow,Option.bind_some,rC,A2 h4,AG,cond_true]
      exact K6 _ _ fun j u hj=>h3 j u hj
    have freshC:∀k u,(cs++add)[k]? = some u→(Ak.fill .leaf 0 (cs++add)).get k=some u:=fun k u hk=>by
      have:=DD (t:=Ak.leaf) (n:=0) hk
      rw[qq]at this
      exact this
    cases cap with
    | some c =>
      obtain⟨h6,h7⟩:=h5
      by_cases hfit:cs.length+add.length≤c
      · obtain⟨s',g1,g2,g3,g4⟩:=h2.store (o:=o+cs.length * 1) (vs:=add) hnn (by omega) hac
        refine⟨.slice (some (i,o)) (cs.length+add.length) (some c),s',ow,?_,.inr ⟨i,o,some c,_,by rw[qn],g2,fun k u hk=>?_,by rw[qn];show o+(cs.length+add.length)≤r.n;omega,by rw[qn];exact⟨hfit,h7⟩⟩,g3⟩
        · rw[happ]
          simp only[appTo,DB,A2 hfit,cond_true,g1,Option.bind_some]
        · show(Ak.fill r.c (o+cs.length * 1) add).get (o+k)=some u
          rcases I9 hk with⟨k1,k2⟩ | ⟨k1,k2⟩
          · rw[FT (by omega)];exact h3 k u k2
          · have:=DD (t:=r.c) (n:=o+cs.length * 1) k2
            rw[show o+k=o+cs.length * 1+(k - cs.length) by omega];exact this
      · obtain⟨ow',g1,g2⟩:=fresh s (AM.refl _ _ _) rfl (Ak.fill .leaf 0 (cs++add)) none freshC (fun p hp=>by cases hp)
        refine⟨_,_,ow',?_,g1,g2⟩
        rw[happ]
        simp only[appTo,DB,E4 (show c<cs.length+add.length by omega),cond_false,hcells,Option.bind_some,Bf,AG,hz,cond_true]
    | none =>
      have h5:o=0:=h5.1
      subst h5
      have hrow:rowAt s i=some r:=by simp[rowAt,h2.get]
      by_cases hfit:cs.length+add.length≤r.n
      · obtain⟨s',g1,g2,g3,g4⟩:=h2.store (o:=0+cs.length * 1) (vs:=add) hnn (by omega) hac
        refine⟨.slice (some (i,0)) (cs.length+add.length) none,s',ow,?_,.inr ⟨i,0,none,_,by rw[qn],g2,fun k u hk=>?_,by rw[qn];show 0+(cs.length+add.length)≤r.n;omega,⟨rfl,by show 0<r.n;omega⟩⟩,g3⟩
        · rw[happ]
          simp only[appTo,hrow,Option.bind_some,DG,h2.sz,Dj rfl,AG,cond_true,A2 (show 0+(cs.length+add.length) * 1≤r.n by omega),g1]
        · show(Ak.fill r.c (0+cs.length * 1) add).get (0+k)=some u
          rcases I9 hk with⟨k1,k2⟩ | ⟨k1,k2⟩
          · rw[FT (by omega)];exact h3 k u k2
          · have:=DD (t:=r.c) (n:=0+cs.length * 1) k2
            rw[show 0+k=0+cs.length * 1+(k - cs.length) by omega];exact this
      · have hnf:Nat.ble (0+(cs.length+add.length) * 1) r.n=false:=E4 (by omega)
        cases hsp:r.spare with
        | false =>
          obtain⟨ow',g1,g2⟩:=fresh s (AM.refl _ _ _) rfl (Ak.fill .leaf 0 (cs++add)) none freshC (fun p hp=>by cases hp)
          refine⟨_,_,ow',?_,g1,g2⟩
          rw[happ]
          simp only[appTo,hrow,Option.bind_some,DG,h2.sz,Dj rfl,AG,cond_true,hnf,cond_false,hcells,hsp,Bf,hz]
        | true =>
          have hun:(A1 s i r).next=s.next:=by
            unfold A1
            split
            · rfl
            · rename_i p _
              cases Nat.beq p i<;>rfl
          have hunh:∀y,y<s.next→¬ ow y=T→(A1 s i r).heap.get y=s.heap.get y:=fun y hy hm=>by
            unfold A1
            cases hp:r.par with
            | none=>rfl
            | some p =>
              obtain⟨k1,k2,k3⟩:=h2.par p hp
              simp only[D0 k3,cond_false]
              rw[Bw,if_neg (fun e=>hm (by rw[e];exact k1))]
          have hcc:∀k u,(cs++add)[k]? = some u→(r.c.fill (cs.length * 1) add).get k=some u:=fun k u hk=>by
            rcases I9 hk with⟨k1,k2⟩ | ⟨k1,k2⟩
            · rw[FT (by omega)]
              have:=h3 k u k2
              rw[qq]at this
              exact this
            · have:=DD (t:=r.c) (n:=cs.length * 1) k2
              rw[show k=cs.length * 1+(k - cs.length) by omega]
              exact this
          cases hends:Nat.beq (0+cs.length * 1) r.n with
          | true =>
            have hst:AM (· = T) ow s ow (setObj (A1 s i r) i (.row { r with mode:=.sealed,par:=none })):=by
              refine⟨by show s.next≤(A1 s i r).next;omega,fun _ _ _=>rfl,fun y hy hm=>?_⟩
              have hyi:y≠i:=fun e=>hm (by rw[e];exact h2.whose)
              rw[Ai,if_neg hyi]
              exact hunh y hy hm
            obtain⟨ow',g1,g2⟩:=fresh _ hst hun (r.c.fill (cs.length * 1) add) (some i) hcc (fun p hp=>by injection hp with hp;subst hp;exact⟨h2.whose,h2.lt⟩)
            refine⟨_,_,ow',?_,g1,g2⟩
            rw[happ]
            simp only[appTo,hrow,Option.bind_some,DG,h2.sz,Dj rfl,AG,cond_true,hnf,cond_false,hcells,hsp,DU,h2.own,Fl,hz,Bool.and_self,hends,Cs]
          | false =>
            have hst:AM (· = T) ow s ow (Bm (A1 s i r) i):=by
              refine⟨by show s.next≤(A1 s i r).next;omega,fun _ _ _=>rfl,fun y hy hm=>?_⟩
              have hyi:y≠i:=fun e=>hm (by rw[e];exact h2.whose)
              rw[Bw,if_neg hyi]
              exact hunh y hy hm
            obtain⟨ow',g1,g2⟩:=fresh _ hst hun (r.c.fill (cs.length * 1) add) none hcc (fun p hp=>by cases hp)
            refine⟨_,_,ow',?_,g1,g2⟩
            rw[happ]
            simp only[appTo,hrow,Option.bind_some,DG,h2.sz,Dj rfl,AG,cond_true,hnf,cond_false,hcells,hsp,DU,h2.own,Fl,hz,Bool.and_self,hends,Cs]
def QC(v:Sv):Sv:={ v with watches:=v.watches++[[],[]],value:=v.value++[0],level:=v.level++[0],why:=v.why++[none],heat:=v.heat++[0],phase:=v.phase++[-1] }
def Ux:Nat→Sv→Sv
 | 0,v=>v
 | k+1,v=>Ux k (QC v)
def Uy(v:Sv)(n:Nat):Sv:=Ux (n+1 - v.value.length) v
theorem nW:Ab Try.prog 88 2 (zipIdx [0,1] [.slice none 0 (some 0),.slice none 0 (some 0)])=some (AL 89 1 [.slice none 0 (some 0),.slice none 0 (some 0)]):=by
 simp[Ab,Try.underlying88,Er,AG,pA,zipIdx,DO,AV.cells,Ht]
 rfl
theorem DT.put{ow:Ow}{s:AE}{p k:Nat}{cs:List AV}(h:DT s p cs)(ht:ow p=(p,0,0))(hk:k<cs.length){t:TypeId}(hs:BD Try.prog t=some 1){d:AV}(h1:d.isCell=true)(h2:d.cells=[d]):
  ∃s',AP Try.prog s t (.ptr (some (p,k))) d=some s'∧DT s' p (cs.set k d)∧AM (· = (p,0,0)) ow s ow s'∧s'.next=s.next:=by
 obtain⟨s',g1,g2,g3,g4⟩:=h.store (k:=k) (d:=d) hk hs h1 h2
 exact⟨s',g1,g2,⟨by omega,fun _ _ _=>rfl,fun y _ hm=>g4 y fun e=>hm (by rw[e];exact ht)⟩,g3⟩
theorem Av.push_w{ow:Ow}{s:AE}{p:Nat}{x:Sf}{v:Sv}(h:Av ow s p x v)(hl:v.watches.length≤1000000000){q:Nat}{ty sz':Nat}(hq:s.heap.get q=some (AL ty sz' [.slice none 0 (some 0),.slice none 0 (some 0)])):
  ∃u s' s'' ow',AY Try.prog s [88,88] [x.w,.slice (some (q,0)) 2 (some 2)]=some (u,s')∧AP Try.prog s' 88 (.ptr (some (p,0))) u=some s''∧Av ow' s'' p { x with w:=u } { v with watches:=v.watches++[[],[]] }∧AM (Bs p) ow s ow' s'':=by
 obtain⟨us,w1,w2,w3⟩:=h.w
 have src:=EU (P:=Try.prog) (e:=89) (s:=s) (n:=2) (cap:=some 2) (sz:=1) ty sz' hq rfl
 obtain⟨u,s',ow',g1,g2,g3⟩:=w2.pushN (st:=88) (e:=89) Try.underlying88 Er pT (by decide) oh mm (by omega) (add:=[.slice none 0 (some 0),.slice none 0 (some 0)]) (by decide) (by decide) rfl src ⟨_,_,rfl⟩
 have hm1:∀a i,a≠1→¬ ((p,a,i):Bt)=(p,1,0):=fun a i ha=>Cf ha
 have hl:=h.lt
 have hn:=g3.next
 have hb:DT s' p (Df x v):=h.box.step g3 h.tag h.lt (hm1 0 0 (by decide))
 have ht:ow' p=(p,0,0):=by rw[g3.tags p h.lt (by rw[h.tag];exact hm1 0 0 (by decide))];exact h.tag
 obtain⟨s'',k1,k2,k3,k4⟩:=hb.put ht (k:=0) (d:=u) (by simp) (t:=88) HT g2.isCell.1 g2.isCell.2
 have hm0:∀a i,a≠0→¬ ((p,a,i):Bt)=(p,0,0):=fun a i ha=>Cf ha
 have st:AM (fun t=>t=(p,1,0)∨t=(p,0,0)) ow s ow' s'':=(g3.mono fun t ht=>.inl ht).trans (k3.mono fun t ht=>.inr ht)
 have hm:∀a i,a ∉ [0,1]→¬ (((p,a,i):Bt)=(p,1,0)∨((p,a,i):Bt)=(p,0,0)):=fun a i ha=>by
  rintro(e | e)
  ·exact Cf (fun q=>ha (by rw[q];decide)) e
  ·exact Cf (fun q=>ha (by rw[q];decide)) e
 refine⟨u,s',s'',ow',g1,k1,{ box:=k2,tag:=ht,lt:=by omega,w:=?_,learned:=h.learned.step st (hm 3 0 (by decide)),value:=h.value.step st (hm 4 0 (by decide)),level:=h.level.step st (hm 5 0 (by decide)),why:=h.why.step st (hm 6 0 (by decide)),heat:=h.heat.step st (hm 7 0 (by decide)),phase:=h.phase.step st (hm 8 0 (by decide)),trail:=h.trail.step st (hm 9 0 (by decide)),limits:=h.limits.step st (hm 10 0 (by decide)),model:=h.model.step st (hm 11 0 (by decide)),trace:=h.trace.step st (hm 12 0 (by decide)) (hm 13 0 (by decide)),cls:=fun c l hc=>(h.cls c l hc).step st (hm 14 c (by decide)) (hm 15 c (by decide)) },st.mono fun t ht=>by rcases ht with e | e<;>rw[e]<;>rfl⟩
 refine⟨us++[.slice none 0 (some 0),.slice none 0 (some 0)],by rw[qn,qn,w1];rfl,g2.step k3 (hm0 1 0 (by decide)),fun j L hj=>?_⟩
 rcases I9 hj with⟨j1,j2⟩ | ⟨j1,j2⟩
 ·obtain⟨u',r1,r2⟩:=w3 j L j2
  exact⟨u',by rw[qv (by omega)];exact r1,(r2.step st (hm 2 j (by decide)))⟩
 ·have e:L=[]:=by
   have:=qj j2
   simpa using this
  subst e
  refine⟨.slice none 0 (some 0),?_,Bb.nil _ _ _⟩
  rw[qy (by omega),w1]
  have:=AZ j2
  generalize hz:j - v.watches.length=z at *
  match z,this with
  | 0,_=>rfl
  | 1,_=>rfl
theorem Av.push_vlw{ow:Ow}{s:AE}{p:Nat}{x:Sf}{v:Sv}(h:Av ow s p x v)(hl1:v.value.length≤1000000000)(hl2:v.level.length≤1000000000)(hl3:v.why.length≤1000000000){q1 q2 q3:Nat}(hq1:s.heap.get q1=some (AL 3 1 [iv 0]))(hq2:s.heap.get q2=some (AL 3 1 [iv 0]))(hq3:s.heap.get q3=some (AL 92 1 [.ptr none]))(t2:ow q2=(0,0,0)∧q2<s.next)(t3:ow q3=(0,0,0)∧q3<s.next):
  ∃u1 u2 u3 s1 s2 s3 s4 s5 s6 ow',AY Try.prog s [23,23] [x.val,.slice (some (q1,0)) 1 (some 1)]=some (u1,s1)∧AY Try.prog s1 [23,23] [x.lev,.slice (some (q2,0)) 1 (some 1)]=some (u2,s2)∧AY Try.prog s2 [89,89] [x.why,.slice (some (q3,0)) 1 (some 1)]=some (u3,s3) ∧
   AP Try.prog s3 23 (.ptr (some (p,2))) u1=some s4∧AP Try.prog s4 23 (.ptr (some (p,3))) u2=some s5∧AP Try.prog s5 89 (.ptr (some (p,4))) u3=some s6 ∧
   Av ow' s6 p { x with val:=u1,lev:=u2,why:=u3 } { v with value:=v.value++[0],level:=v.level++[0],why:=v.why++[none] }∧AM (Bs p) ow s ow' s6 ∧
   (∀t a,AC Try.prog s t (.ptr (some (p,a)))=AC Try.prog s1 t (.ptr (some (p,a)))∧AC Try.prog s t (.ptr (some (p,a)))=AC Try.prog s2 t (.ptr (some (p,a)))):=by
 have hlt:=h.lt
 have z0:∀a,a≠0→¬ ((0,0,0):Bt)=(p,a,0):=fun a ha e=>by
  injection e with _ e
  injection e with e _
  exact ha e.symm
 obtain⟨u1,s1,ow1,a1,a2,a3⟩:=h.value.push (st:=23) (e:=3) Try.underlying23 Br W9 (by decide) Mh IE (by rw[qi];exact hl1) (x:=iv 0) rfl hq1
 have n1:=a3.next
 have r2:s1.heap.get q2=some (AL 3 1 [iv 0]):=(a3.heap q2 t2.2 (by rw[t2.1];exact z0 4 (by decide))).trans hq2
 obtain⟨u2,s2,ow2,b1,b2,b3⟩:=(h.level.step a3 (Cf (by decide))).push (st:=23) (e:=3) Try.underlying23 Br W9 (by decide) Mh IE (by rw[qi];exact hl2) (x:=iv 0) rfl r2
 have n2:=b3.next
 have r3:s2.heap.get q3=some (AL 92 1 [.ptr none]):=by
  have e:=a3.heap q3 t3.2 (by rw[t3.1];exact z0 4 (by decide))
  have o:=a3.tags q3 t3.2 (by rw[t3.1];exact z0 4 (by decide))
  exact((b3.heap q3 (by omega) (by rw[o,t3.1];exact z0 5 (by decide))).trans e).trans hq3
 obtain⟨u3,s3,ow3,c1,c2,c3⟩:=((h.why.step a3 (Cf (by decide))).step b3 (Cf (by decide))).push (st:=89) (e:=92) Try.underlying89 HU XA (by decide) RO UM (by rw[qi];exact hl3) (x:=.ptr none) rfl r3
 have n3:=c3.next
 have stA:AM (fun t=>t=(p,4,0)∨t=(p,5,0)∨t=(p,6,0)) ow s ow3 s3:=((a3.mono fun t ht=>.inl ht).trans (b3.mono fun t ht=>.inr (.inl ht))).trans (c3.mono fun t ht=>.inr (.inr ht))
 have hm3:∀a i,a ∉ [4,5,6]→¬ (((p,a,i):Bt)=(p,4,0)∨((p,a,i):Bt)=(p,5,0)∨((p,a,i):Bt)=(p,6,0)):=fun a i ha=>by
  rintro(e | e | e)
  ·exact Cf (fun q=>ha (by rw[q];decide)) e
  ·exact Cf (fun q=>ha (by rw[q];decide)) e
  ·exact Cf (fun q=>ha (by rw[q];decide)) e
 have hb:DT s3 p (Df x v):=h.box.step stA h.tag h.lt (hm3 0 0 (by decide))
 have ht:ow3 p=(p,0,0):=by rw[stA.tags p h.lt (by rw[h.tag];exact hm3 0 0 (by decide))];exact h.tag
 obtain⟨s4,d1,d2,d3,d4⟩:=hb.put ht (k:=2) (d:=u1) (by simp) (t:=23) Ba a2.isCell.1 a2.isCell.2
 obtain⟨s5,e1,e2,e3,e4⟩:=d2.put ht (k:=3) (d:=u2) (by simp) (t:=23) Ba b2.isCell.1 b2.isCell.2
 obtain⟨s6,f1,f2,f3,f4⟩:=e2.put ht (k:=4) (d:=u3) (by simp) (t:=89) Er c2.isCell.1 c2.isCell.2
 have stB:AM (· = (p,0,0)) ow3 s3 ow3 s6:=(d3.trans e3).trans f3
 have hm0:∀a i,a≠0→¬ ((p,a,i):Bt)=(p,0,0):=fun a i ha=>Cf ha
 have st:AM (fun t=>(t=(p,4,0)∨t=(p,5,0)∨t=(p,6,0))∨t=(p,0,0)) ow s ow3 s6:=(stA.mono fun t ht=>.inl ht).trans (stB.mono fun t ht=>.inr ht)
 have hm:∀a i,a ∉ [0,4,5,6]→¬ ((((p,a,i):Bt)=(p,4,0)∨((p,a,i):Bt)=(p,5,0)∨((p,a,i):Bt)=(p,6,0))∨((p,a,i):Bt)=(p,0,0)):=fun a i ha=>by
  rintro(e | e)
  ·exact hm3 a i (fun q=>ha (qo _ q)) e
  ·exact Cf (fun q=>ha (by rw[q];decide)) e
 refine⟨u1,u2,u3,s1,s2,s3,s4,s5,s6,ow3,a1,b1,c1,d1,e1,f1,{ box:=f2,tag:=ht,lt:=by omega,w:=h.w.step st (hm 1 0 (by decide)) (fun j=>hm 2 j (by decide)),learned:=h.learned.step st (hm 3 0 (by decide)),value:=by show Bb ow3 (p,4,0) s6 u1 (List.map iv (v.value++[0]));rw[rN];exact((a2.step b3 (Cf (by decide))).step c3 (Cf (by decide))).step stB (hm0 4 0 (by decide)),level:=by show Bb ow3 (p,5,0) s6 u2 (List.map iv (v.level++[0]));rw[rN];exact(b2.step c3 (Cf (by decide))).step stB (hm0 5 0 (by decide)),why:=by show Bb ow3 (p,6,0) s6 u3 (List.map JZ (v.why++[none]));rw[rN];exact c2.step stB (hm0 6 0 (by decide)),heat:=h.heat.step st (hm 7 0 (by decide)),phase:=h.phase.step st (hm 8 0 (by decide)),trail:=h.trail.step st (hm 9 0 (by decide)),limits:=h.limits.step st (hm 10 0 (by decide)),model:=h.model.step st (hm 11 0 (by decide)),trace:=h.trace.step st (hm 12 0 (by decide)) (hm 13 0 (by decide)),cls:=fun c l hc=>(h.cls c l hc).step st (hm 14 c (by decide)) (hm 15 c (by decide)) },st.mono fun t ht=>by rcases ht with(e | e | e) | e<;>rw[e]<;>rfl,fun t a=>⟨(D4 (a3.heap p hlt (by rw[h.tag];exact Cf (by decide)))).symm,?_⟩⟩
 ·have o:=a3.tags p hlt (by rw[h.tag];exact Cf (by decide))
  rw[D4 (b3.heap p (by omega) (by rw[o,h.tag];exact Cf (by decide)))]
  exact(D4 (a3.heap p hlt (by rw[h.tag];exact Cf (by decide)))).symm
theorem Av.push_hp{ow:Ow}{s:AE}{p:Nat}{x:Sf}{v:Sv}(h:Av ow s p x v)(hl1:v.heat.length≤1000000000)(hl2:v.phase.length≤1000000000){q1 q2:Nat}(hq1:s.heap.get q1=some (AL 3 1 [iv 0]))(hq2:s.heap.get q2=some (AL 3 1 [iv (-1)]))(t2:ow q2=(0,0,0)∧q2<s.next):
  ∃u1 u2 s1 s2 s3 s4 ow',AY Try.prog s [23,23] [x.heat,.slice (some (q1,0)) 1 (some 1)]=some (u1,s1)∧AY Try.prog s1 [23,23] [x.ph,.slice (some (q2,0)) 1 (some 1)]=some (u2,s2) ∧
   AP Try.prog s2 23 (.ptr (some (p,5))) u1=some s3∧AP Try.prog s3 23 (.ptr (some (p,6))) u2=some s4 ∧
   Av ow' s4 p { x with heat:=u1,ph:=u2 } { v with heat:=v.heat++[0],phase:=v.phase++[-1] }∧AM (Bs p) ow s ow' s4 ∧
   (∀t a,AC Try.prog s t (.ptr (some (p,a)))=AC Try.prog s1 t (.ptr (some (p,a)))):=by
 have hlt:=h.lt
 have z0:∀a,a≠0→¬ ((0,0,0):Bt)=(p,a,0):=fun a ha e=>by
  injection e with _ e
  injection e with e _
  exact ha e.symm
 obtain⟨u1,s1,ow1,a1,a2,a3⟩:=h.heat.push (st:=23) (e:=3) Try.underlying23 Br W9 (by decide) Mh IE (by rw[qi];exact hl1) (x:=iv 0) rfl hq1
 have n1:=a3.next
 have r2:s1.heap.get q2=some (AL 3 1 [iv (-1)]):=(a3.heap q2 t2.2 (by rw[t2.1];exact z0 7 (by decide))).trans hq2
 obtain⟨u2,s2,ow2,b1,b2,b3⟩:=(h.phase.step a3 (Cf (by decide))).push (st:=23) (e:=3) Try.underlying23 Br W9 (by decide) Mh IE (by rw[qi];exact hl2) (x:=iv (-1)) rfl r2
 have n2:=b3.next
 have stA:AM (fun t=>t=(p,7,0)∨t=(p,8,0)) ow s ow2 s2:=(a3.mono fun t ht=>.inl ht).trans (b3.mono fun t ht=>.inr ht)
 have hm3:∀a i,a ∉ [7,8]→¬ (((p,a,i):Bt)=(p,7,0)∨((p,a,i):Bt)=(p,8,0)):=fun a i ha=>by
  rintro(e | e)
  ·exact Cf (fun q=>ha (by rw[q];decide)) e
  ·exact Cf (fun q=>ha (by rw[q];decide)) e
 have hb:DT s2 p (Df x v):=h.box.step stA h.tag h.lt (hm3 0 0 (by decide))
 have ht:ow2 p=(p,0,0):=by rw[stA.tags p h.lt (by rw[h.tag];exact hm3 0 0 (by decide))];exact h.tag
 obtain⟨s3,d1,d2,d3,d4⟩:=hb.put ht (k:=5) (d:=u1) (by simp) (t:=23) Ba a2.isCell.1 a2.isCell.2
 obtain⟨s4,e1,e2,e3,e4⟩:=d2.put ht (k:=6) (d:=u2) (by simp) (t:=23) Ba b2.isCell.1 b2.isCell.2
 have stB:AM (· = (p,0,0)) ow2 s2 ow2 s4:=d3.trans e3
 have hm0:∀a i,a≠0→¬ ((p,a,i):Bt)=(p,0,0):=fun a i ha=>Cf ha
 have st:AM (fun t=>(t=(p,7,0)∨t=(p,8,0))∨t=(p,0,0)) ow s ow2 s4:=(stA.mono fun t ht=>.inl ht).trans (stB.mono fun t ht=>.inr ht)
 have hm:∀a i,a ∉ [0,7,8]→¬ ((((p,a,i):Bt)=(p,7,0)∨((p,a,i):Bt)=(p,8,0))∨((p,a,i):Bt)=(p,0,0)):=fun a i ha=>by
  rintro(e | e)
  ·exact hm3 a i (fun q=>ha (qo _ q)) e
  ·exact Cf (fun q=>ha (by rw[q];decide)) e
 exact⟨u1,u2,s1,s2,s3,s4,ow2,a1,b1,d1,e1,{ box:=e2,tag:=ht,lt:=by omega,w:=h.w.step st (hm 1 0 (by decide)) (fun j=>hm 2 j (by decide)),learned:=h.learned.step st (hm 3 0 (by decide)),value:=h.value.step st (hm 4 0 (by decide)),level:=h.level.step st (hm 5 0 (by decide)),why:=h.why.step st (hm 6 0 (by decide)),heat:=by show Bb ow2 (p,7,0) s4 u1 (List.map iv (v.heat++[0]));rw[rN];exact(a2.step b3 (Cf (by decide))).step stB (hm0 7 0 (by decide)),phase:=by show Bb ow2 (p,8,0) s4 u2 (List.map iv (v.phase++[-1]));rw[rN];exact b2.step stB (hm0 8 0 (by decide)),trail:=h.trail.step st (hm 9 0 (by decide)),limits:=h.limits.step st (hm 10 0 (by decide)),model:=h.model.step st (hm 11 0 (by decide)),trace:=h.trace.step st (hm 12 0 (by decide)) (hm 13 0 (by decide)),cls:=fun c l hc=>(h.cls c l hc).step st (hm 14 c (by decide)) (hm 15 c (by decide)) },st.mono fun t ht=>by rcases ht with(e | e) | e<;>rw[e]<;>rfl,fun t a=>(D4 (a3.heap p hlt (by rw[h.tag];exact Cf (by decide)))).symm⟩
def mn(B:Nat)(v:Sv):Prop:=v.watches.length≤2 * B∧v.value.length≤B∧v.level.length≤B∧v.why.length≤B∧v.heat.length≤B∧v.phase.length≤B
theorem mn.one{B:Nat}{v:Sv}(h:mn B v):mn (B+1) (QC v):=by
 obtain⟨h1,h2,h3,h4,h5,h6⟩:=h
 refine⟨?_,?_,?_,?_,?_,?_⟩<;>simp[QC]<;>omega
theorem eI{E:BI}{K:List AV→AE→Prop}{ow:Ow}{s:AE}{p:Nat}{x:Sf}{v:Sv}(h:Av ow s p x v)(hl:v.watches.length≤1000000000)(x1 x2 x3:AV)
  (hK:∀s' ow' u,Av ow' s' p { x with w:=u } { v with watches:=v.watches++[[],[]] }→AM (Bs p) ow s ow' s'→K [AV.ptr (some (p,0)),x1,x2,x3] s'):Qb E Y2 K [] [AV.ptr (some (p,0)),x1,x2,x3] s:=by
 have hms:∀ (m:Nat) (i:Nat),Made.val i (.slice m)=.slice (some (i,0)) m (some m):=fun _ _=>rfl
 have st:AM (fun _=>False) ow s (ext ow s.next (0,0,0)) (newObj s (AL 89 1 [.slice none 0 (some 0),.slice none 0 (some 0)])):=AM.new _ ow s _ _
 have h1:=h.keep st (fun _ q=>q.elim)
 obtain⟨u,s1,s2,ow',g1,g2,g3,g4⟩:=h1.push_w hl (q:=s.next) (ty:=89) (sz':=1) (by rw[AK,if_pos rfl])
 simp only[Y2,AH,Jx,h.ld_w,nW,hms,g1,BW,g2,AS,Qa,Qb,Qc,Qd,Qe,Qf,Qg,Qh,Qi,Qj,Qk,Ql,Qm,Qn,true_and,and_true,Qo,Qp,Qq,Qr,Qs,Qt,Qu,Qv,Qw,Qx,Qy,Qz,Ra,Rb,Rc,Rd,Re,Rf,Rg,Rh,Ri,Rj,Rk,Rl,Rm,Ya,Yb,Yc,Rn,Ro,Rp,Yd,Ye,Rq,Rs,Rt,Ru,Rv,Rw,Rx]
 exact hK s2 ow' u g3 ((st.mono fun _ q=>q.elim).trans g4)
theorem eJ{E:BI}{K:List AV→AE→Prop}{ow:Ow}{s:AE}{p:Nat}{x:Sf}{v:Sv}(h:Av ow s p x v)(hl1:v.value.length≤1000000000)(hl2:v.level.length≤1000000000)(hl3:v.why.length≤1000000000)(x1 x2 x3:AV)
  (hK:∀s' ow' u1 u2 u3,Av ow' s' p { x with val:=u1,lev:=u2,why:=u3 } { v with value:=v.value++[0],level:=v.level++[0],why:=v.why++[none] }→AM (Bs p) ow s ow' s'→K [AV.ptr (some (p,0)),x1,x2,x3] s'):Qb E Y3 K [] [AV.ptr (some (p,0)),x1,x2,x3] s:=by
 have hms:∀ (m:Nat) (i:Nat),Made.val i (.slice m)=.slice (some (i,0)) m (some m):=fun _ _=>rfl
 have b3:=CO (P:=Try.prog) (t:=23) (v:=iv 0) Try.underlying23 Br RZ rfl rfl
 have b92:=CO (P:=Try.prog) (t:=89) (v:=.ptr none) Try.underlying89 HU Ws rfl rfl
 generalize e1:newObj s (AL 3 1 [iv 0])=s1
 have n1:s1.next=s.next+1:=by rw[← e1];rfl
 have o1:Ao s.next s s1:=by rw[← e1];exact Ao.new s _
 generalize e2:newObj s1 (AL 3 1 [iv 0])=s2
 have n2:s2.next=s.next+2:=by rw[← e2];show s1.next+1=_;omega
 have o2:Ao (s.next+1) s1 s2:=by rw[← e2,← n1];exact Ao.new s1 _
 generalize e3:newObj s2 (AL 92 1 [.ptr none])=s3
 have n3:s3.next=s.next+3:=by rw[← e3];show s2.next+1=_;omega
 have o3:Ao (s.next+2) s2 s3:=by rw[← e3,← n2];exact Ao.new s2 _
 have h1:=h.keep (AM.old (m:=fun _=>False) o1 (0,0,0)) (fun _ q=>q.elim)
 have oo:Ao s.next s s2:=o1.trans (o2.mono (by omega))
 have h2:=h.keep (AM.old (m:=fun _=>False) oo (0,0,0)) (fun _ q=>q.elim)
 have o:Ao s.next s s3:=oo.trans (o3.mono (by omega))
 have st:AM (fun _=>False) ow s (ext ow s.next (0,0,0)) s3:=AM.old o _
 have h3:=h.keep st (fun _ q=>q.elim)
 obtain⟨u1,u2,u3,t1,t2,t3,t4,t5,t6,ow',g1,g2,g3,g4,g5,g6,g7,g8,g9⟩:=h3.push_vlw hl1 hl2 hl3 (q1:=s.next) (q2:=s.next+1) (q3:=s.next+2)
  (by rw[o3.2 _ (by omega),o2.2 _ (by omega),← e1,AK,if_pos rfl]) (by rw[o3.2 _ (by omega),← e2,AK,if_pos (by omega)]) (by rw[← e3,AK,if_pos (by omega)]) ⟨Ej (by omega),by omega⟩ ⟨Ej (by omega),by omega⟩
 have q1:AC Try.prog t1 23 (.ptr (some (p,3)))=some x.lev:=by rw[← (g9 23 3).1];exact h3.ld_lev
 have q2:AC Try.prog t1 89 (.ptr (some (p,4)))=some x.why:=by rw[← (g9 89 4).1];exact h3.ld_why
 have q3:AC Try.prog t2 89 (.ptr (some (p,4)))=some x.why:=by rw[← (g9 89 4).2];exact h3.ld_why
 simp only[Y3,AH,Ek,Jy,Oc,h.ld_val,b3,e1,hms,h1.ld_lev,n1,e2,h2.ld_why,b92,n2,e3,g1,BZ,Az,q1,q2,h3.level.self,h3.why.self,g2,q3,g3,BW,g4,g5,g6,AS,Qa,Qb,Qc,Qd,Qe,Qf,Qg,Qh,Qi,Qj,Qk,Ql,Qm,Qn,true_and,and_true,Qo,Qp,Qq,Qr,Qs,Qt,Qu,Qv,Qw,Qx,Qy,Qz,Ra,Rb,Rc,Rd,Re,Rf,Rg,Rh,Ri,Rj,Rk,Rl,Rm,Ya,Yb,Yc,Rn,Ro,Rp,Yd,Ye,Rq,Rs,Rt,Ru,Rv,Rw,Rx]
 exact hK t6 ow' u1 u2 u3 g7 ((st.mono fun _ q=>q.elim).trans g8)
theorem eK{E:BI}{K:List AV→AE→Prop}{ow:Ow}{s:AE}{p:Nat}{x:Sf}{v:Sv}(h:Av ow s p x v)(hl1:v.heat.length≤1000000000)(hl2:v.phase.length≤1000000000)(x1 x2 x3:AV)
  (hK:∀s' ow' u1 u2,Av ow' s' p { x with heat:=u1,ph:=u2 } { v with heat:=v.heat++[0],phase:=v.phase++[-1] }→AM (Bs p) ow s ow' s'→K [AV.ptr (some (p,0)),x1,x2,x3] s'):Qb E Y4 K [] [AV.ptr (some (p,0)),x1,x2,x3] s:=by
 have hms:∀ (m:Nat) (i:Nat),Made.val i (.slice m)=.slice (some (i,0)) m (some m):=fun _ _=>rfl
 have b3:=CO (P:=Try.prog) (t:=23) (v:=iv 0) Try.underlying23 Br RZ rfl rfl
 have b3':=CO (P:=Try.prog) (t:=23) (v:=iv (-1)) Try.underlying23 Br RZ rfl rfl
 generalize e1:newObj s (AL 3 1 [iv 0])=s1
 have n1:s1.next=s.next+1:=by rw[← e1];rfl
 have o1:Ao s.next s s1:=by rw[← e1];exact Ao.new s _
 generalize e2:newObj s1 (AL 3 1 [iv (-1)])=s2
 have n2:s2.next=s.next+2:=by rw[← e2];show s1.next+1=_;omega
 have o2:Ao (s.next+1) s1 s2:=by rw[← e2,← n1];exact Ao.new s1 _
 have h1:=h.keep (AM.old (m:=fun _=>False) o1 (0,0,0)) (fun _ q=>q.elim)
 have oo:Ao s.next s s2:=o1.trans (o2.mono (by omega))
 have st:AM (fun _=>False) ow s (ext ow s.next (0,0,0)) s2:=AM.old oo _
 have h2:=h.keep st (fun _ q=>q.elim)
 obtain⟨u1,u2,t1,t2,t3,t4,ow',g1,g2,g3,g4,g5,g6,g7⟩:=h2.push_hp hl1 hl2 (q1:=s.next) (q2:=s.next+1)
  (by rw[o2.2 _ (by omega),← e1,AK,if_pos rfl]) (by rw[← e2,AK,if_pos (by omega)]) ⟨Ej (by omega),by omega⟩
 have q1:AC Try.prog t1 23 (.ptr (some (p,6)))=some x.ph:=by rw[← g7 23 6];exact h2.ld_ph
 simp only[Y4,AH,Lx,TW,h.ld_heat,b3,e1,hms,h1.ld_ph,b3',n1,e2,g1,BZ,Az,q1,h2.phase.self,g2,BW,g3,g4,AS,Qa,Qb,Qc,Qd,Qe,Qf,Qg,Qh,Qi,Qj,Qk,Ql,Qm,Qn,true_and,and_true,Qo,Qp,Qq,Qr,Qs,Qt,Qu,Qv,Qw,Qx,Qy,Qz,Ra,Rb,Rc,Rd,Re,Rf,Rg,Rh,Ri,Rj,Rk,Rl,Rm,Ya,Yb,Yc,Rn,Ro,Rp,Yd,Ye,Rq,Rs,Rt,Ru,Rv,Rw,Rx]
 exact hK t4 ow' u1 u2 g5 ((st.mono fun _ q=>q.elim).trans g6)
theorem Vn{E:BI}(hE:Aq E){n p:Nat}(hn:n<100000000){ow0:Ow}{s0:AE}{v0:Sv}{Q:A9→Prop}(hq:∀s' ow' x' y3,Av ow' s' p x' v0→AM (Bs p) ow0 s0 ow' s'→Q ⟨.exit 0,[AV.ptr (some (p,0)),iv (n:Int),.bool false,y3],[],s'⟩):
  ∀ (m:Nat) (s:AE) (ow:Ow) (x:Sf) (v:Sv) (x3:AV),n+1 - v.value.length=m→mn (n+1000 - m) v→m≤1000+n→Av ow s p x v→Ux m v=v0→AM (Bs p) ow0 s0 ow s →
   WC E none (.loop Pc) Q [AV.ptr (some (p,0)),iv (n:Int),.bool false,x3] [] s:=by
 intro m
 induction m with
 | zero =>
  intro s ow x v x3 hm hz hle h hv hst
  have ln:∀s,As Try.prog s 23 x.val=some (iv (v.value.length:Int)):=fun s=>by
   have:=h.value.len Try.underlying23 s
   rw[qi]at this
   exact this
  have hd:decide ((v.value.length:Int)≤(n:Int))=false:=decide_eq_false (by omega)
  have hv:v=v0:=hv
  subst hv
  refine WC.loop' ?_
  simp only[Pc,Y1,AH,Ek,h.ld_val,ln,hd,Qa,Qb,Qc,Qd,Qe,Qf,Qg,Qh,Qi,Qj,Qk,Ql,Qm,Qn,true_and,and_true,Qo,Qp,Qq,Qr,Qs,Qt,Qu,Qv,Qw,Qx,Qy,Qz,Ra,Rb,Rc,Rd,Re,Rf,Rg,Rh,Ri,Rj,Rk,Rl,Rm,Ya,Yb,Yc,Rn,Ro,Rp,Yd,Ye,Rq,Rs,Rt,Ru,Rv,Rw,Rx]
  exact hq s ow x _ h hst
 | succ m ih =>
  intro s ow x v x3 hm hz hle h hv hst
  have ln:∀s,As Try.prog s 23 x.val=some (iv (v.value.length:Int)):=fun s=>by
   have:=h.value.len Try.underlying23 s
   rw[qi]at this
   exact this
  have hd:decide ((v.value.length:Int)≤(n:Int))=true:=decide_eq_true (by omega)
  obtain⟨z1,z2,z3,z4,z5,z6⟩:=hz
  refine WC.loop' ?_
  generalize hW:WC E none (Ac.loop Pc) Q=W
  simp only[Pc,Y1,AH,Ek,h.ld_val,ln,hd,Qa,Qb,Qc,Qd,Qe,Qf,Qg,Qh,Qi,Qj,Qk,Ql,Qm,Qn,true_and,and_true,Qo,Qp,Qq,Qr,Qs,Qt,Qu,Qv,Qw,Qx,Qy,Qz,Ra,Rb,Rc,Rd,Re,Rf,Rg,Rh,Ri,Rj,Rk,Rl,Rm,Ya,Yb,Yc,Rn,Ro,Rp,Yd,Ye,Rq,Rs,Rt,Ru,Rv,Rw,Rx]
  refine eI h (by omega) _ _ _ ?_
  intro s1 ow1 u1 h1 st1
  try simp only[Qa,Qb,Qc,Qd,Qe,Qf,Qg,Qh,Qi,Qj,Qk,Ql,Qm,Qn,true_and,and_true,Qo,Qp,Qq,Qr,Qs,Qt,Qu,Qv,Qw,Qx,Qy,Qz,Ra,Rb,Rc,Rd,Re,Rf,Rg,Rh,Ri,Rj,Rk,Rl,Rm,Ya,Yb,Yc,Rn,Ro,Rp,Yd,Ye,Rq,Rs,Rt,Ru,Rv,Rw,Rx]
  refine eJ h1 (by show v.value.length≤_;omega) (by show v.level.length≤_;omega) (by show v.why.length≤_;omega) _ _ _ ?_
  intro s2 ow2 u2 u3 u4 h2 st2
  try simp only[Qa,Qb,Qc,Qd,Qe,Qf,Qg,Qh,Qi,Qj,Qk,Ql,Qm,Qn,true_and,and_true,Qo,Qp,Qq,Qr,Qs,Qt,Qu,Qv,Qw,Qx,Qy,Qz,Ra,Rb,Rc,Rd,Re,Rf,Rg,Rh,Ri,Rj,Rk,Rl,Rm,Ya,Yb,Yc,Rn,Ro,Rp,Yd,Ye,Rq,Rs,Rt,Ru,Rv,Rw,Rx]
  refine eK h2 (by show v.heat.length≤_;omega) (by show v.phase.length≤_;omega) _ _ _ ?_
  intro s3 ow3 u5 u6 h3 st3
  try simp only[Qa,Qb,Qc,Qd,Qe,Qf,Qg,Qh,Qi,Qj,Qk,Ql,Qm,Qn,true_and,and_true,Qo,Qp,Qq,Qr,Qs,Qt,Qu,Qv,Qw,Qx,Qy,Qz,Ra,Rb,Rc,Rd,Re,Rf,Rg,Rh,Ri,Rj,Rk,Rl,Rm,Ya,Yb,Yc,Rn,Ro,Rp,Yd,Ye,Rq,Rs,Rt,Ru,Rv,Rw,Rx]
  rw[← hW]
  refine ih s3 ow3 _ (QC v) _ (by show n+1 - (v.value++[0]).length=m;rw[qn];simp;omega) ?_ (by omega) h3 hv (((hst.trans st1).trans st2).trans st3)
  have:=mn.one (B:=n+1000 - (m+1)) (v:=v) ⟨z1,z2,z3,z4,z5,z6⟩
  rw[show n+1000 - m=n+1000 - (m+1)+1 by omega]
  exact this
theorem Vm{E:BI}(hE:Aq E){ow:Ow}{s:AE}{p:Nat}{x:Sf}{v:Sv}(h:Av ow s p x v){n:Nat}(hn:n<100000000)(hz:mn 900 v):
  WF E 46 [AR p,iv (n:Int)] (fun _ s'=>∃ow' x',Av ow' s' p x' (Uy v n)∧AM (Bs p) ow s ow' s') s:=by
 have he:=G7 p
 simp only[AR]at he
 refine hE.go lN (by decide) rfl ?_
 simp only[qC,gf,AR,he,Qa,Qb,Qc,Qd,Qe,Qf,Qg,Qh,Qi,Qj,Qk,Ql,Qm,Qn,true_and,and_true,Qo,Qp,Qq,Qr,Qs,Qt,Qu,Qv,Qw,Qx,Qy,Qz,Ra,Rb,Rc,Rd,Re,Rf,Rg,Rh,Ri,Rj,Rk,Rl,Rm,Ya,Yb,Yc,Rn,Ro,Rp,Yd,Ye,Rq,Rs,Rt,Ru,Rv,Rw,Rx]
 obtain⟨z1,z2,z3,z4,z5,z6⟩:=hz
 refine Vn hE hn (v0:=Uy v n) ?_ _ s ow x v _ rfl ⟨by omega,by omega,by omega,by omega,by omega,by omega⟩ (by omega) h rfl (AM.refl _ _ _)
 intro s' ow' x' y3 k1 k2
 simp only[if_true,Qa,Qb,Qc,Qd,Qe,Qf,Qg,Qh,Qi,Qj,Qk,Ql,Qm,Qn,true_and,and_true,Qo,Qp,Qq,Qr,Qs,Qt,Qu,Qv,Qw,Qx,Qy,Qz,Ra,Rb,Rc,Rd,Re,Rf,Rg,Rh,Ri,Rj,Rk,Rl,Rm,Ya,Yb,Yc,Rn,Ro,Rp,Yd,Ye,Rq,Rs,Rt,Ru,Rv,Rw,Rx]
 exact⟨ow',x',k1,k2⟩
def Tn:Sv:={ watches:=[],learned:=[],value:=[],level:=[],why:=[],heat:=[],phase:=[],trail:=[],limits:=[],head:=0,broken:=false,model:=[],trace:=[],many:=0,room:=2000,cl:=fun _=>none }
theorem nX:Bu Try.prog 91 (zipIdx [14] [iv 2000])=some (.agg (Df ⟨.slice none 0 (some 0),.slice none 0 (some 0),.slice none 0 (some 0),.slice none 0 (some 0),.slice none 0 (some 0),.slice none 0 (some 0),.slice none 0 (some 0),.slice none 0 (some 0),.slice none 0 (some 0),.slice none 0 (some 0),.slice none 0 (some 0)⟩ Tn)):=by
 simp[Bu,pz,Try.underlying91,B1,Br,JX,Ba,HT,Er,Gk,zipIdx,DO,Dp,AG]
 rfl
theorem pm(ow:Ow)(s:AE):Av (ext ow s.next (s.next,0,0)) (newObj s (AL 91 0 (Df ⟨.slice none 0 (some 0),.slice none 0 (some 0),.slice none 0 (some 0),.slice none 0 (some 0),.slice none 0 (some 0),.slice none 0 (some 0),.slice none 0 (some 0),.slice none 0 (some 0),.slice none 0 (some 0),.slice none 0 (some 0),.slice none 0 (some 0)⟩ Tn))) s.next ⟨.slice none 0 (some 0),.slice none 0 (some 0),.slice none 0 (some 0),.slice none 0 (some 0),.slice none 0 (some 0),.slice none 0 (some 0),.slice none 0 (some 0),.slice none 0 (some 0),.slice none 0 (some 0),.slice none 0 (some 0),.slice none 0 (some 0)⟩ Tn:=
 { box:=DT.new,tag:=Ej (qg _),lt:=rP _,w:=⟨[],rfl,Bb.nil _ _ _,fun k L hk=>by cases hk⟩,learned:=Bb.nil _ _ _,value:=Bb.nil _ _ _,level:=Bb.nil _ _ _,why:=Bb.nil _ _ _,heat:=Bb.nil _ _ _,phase:=Bb.nil _ _ _,trail:=Bb.nil _ _ _,limits:=Bb.nil _ _ _,model:=Bb.nil _ _ _,trace:=⟨[],[],Bz.nil _ _,fun j hj=>(by cases hj),fun j hj=>(by cases hj),BH.nil _ _,fun u hu=>by cases hu⟩,cls:=fun c l hc=>by cases hc }
theorem mX{E:BI}(hE:Aq E)(ow:Ow){s:AE}{n:Nat}(hn:n<100000000):
  WF E 40 [iv (n:Int)] (fun r s'=>∃ow' x',r=AR s.next∧Av ow' s' s.next x' (Uy Tn n)∧AM (Bs s.next) ow s ow' s') s:=by
 have hptr:∀i,Made.val i .ptr=.ptr (some (i,0)):=fun _=>rfl
 have hmax:D6 true (iv (n:Int)) [iv 0]=some (iv (n:Int)):=by rw[bL];congr 2;omega
 refine hE.go lL (by decide) rfl ?_
 have hN:=pm ow s
 have hst:AM (Bs s.next) ow s (ext ow s.next (s.next,0,0)) (newObj s (AL 91 0 (Df ⟨.slice none 0 (some 0),.slice none 0 (some 0),.slice none 0 (some 0),.slice none 0 (some 0),.slice none 0 (some 0),.slice none 0 (some 0),.slice none 0 (some 0),.slice none 0 (some 0),.slice none 0 (some 0),.slice none 0 (some 0),.slice none 0 (some 0)⟩ Tn))):=AM.new _ ow s _ _
 have hbox:∀l,Ce 91 (.agg l)=some (AL 91 0 l,.ptr):=fun l=>rfl
 simp only[qB,gS,gT,gU,nX,hbox,hptr,hmax,Qa,Qb,Qc,Qd,Qe,Qf,Qg,Qh,Qi,Qj,Qk,Ql,Qm,Qn,true_and,and_true,Qo,Qp,Qq,Qr,Qs,Qt,Qu,Qv,Qw,Qx,Qy,Qz,Ra,Rb,Rc,Rd,Re,Rf,Rg,Rh,Ri,Rj,Rk,Rl,Rm,Ya,Yb,Yc,Rn,Ro,Rp,Yd,Ye,Rq,Rs,Rt,Ru,Rv,Rw,Rx]
 refine(Vm hE hN hn ⟨by decide,by decide,by decide,by decide,by decide,by decide⟩).mono ?_
 rintro _ s' ⟨ow',x',g1,g2⟩
 simp only[gV,Qa,Qb,Qc,Qd,Qe,Qf,Qg,Qh,Qi,Qj,Qk,Ql,Qm,Qn,true_and,and_true,Qo,Qp,Qq,Qr,Qs,Qt,Qu,Qv,Qw,Qx,Qy,Qz,Ra,Rb,Rc,Rd,Re,Rf,Rg,Rh,Ri,Rj,Rk,Rl,Rm,Ya,Yb,Yc,Rn,Ro,Rp,Yd,Ye,Rq,Rs,Rt,Ru,Rv,Rw,Rx]
 exact⟨ow',x',rfl,g1,hst.trans g2⟩
end
end Go.Proofs.Ytilhhmkdcoajnaa.Am
