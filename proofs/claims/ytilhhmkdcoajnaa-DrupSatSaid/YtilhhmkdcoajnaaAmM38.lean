/- The solver's state: other parts may change; a line is put behind the trace; printed by a program of ours (dev/sv4.py); conditions: none. -/
import Derived.Test.YtilhhmkdcoajnaaAmM37
import Derived.Test.YtilhhmkdcoajnaaAmM33
set_option linter.unusedVariables false
set_option linter.unusedSimpArgs false
set_option maxRecDepth 16000
namespace Go.Proofs.Ytilhhmkdcoajnaa.Am
open Go Go.Proofs
noncomputable section
theorem SAt.keep16{m:Tag→Prop}{ow ow':Ow}{s s':ASt}{p:Nat}{x:Sf}{v:Sv}(h:SAt ow s p x v)(k:AK m ow s ow' s')(hm:∀a i,a<16→¬ m (p,a,i)):SAt ow' s' p x v:=by
  have hn:=k.next
  have hl:=h.lt
  exact { box:=h.box.step k h.tag h.lt (hm 0 0 (by decide)),tag:=by rw[k.tags p h.lt (by rw[h.tag];exact hm 0 0 (by decide))];exact h.tag,lt:=by omega,w:=h.w.step k (hm 1 0 (by decide)) (fun j=>hm 2 j (by decide)),learned:=h.learned.step k (hm 3 0 (by decide)),value:=h.value.step k (hm 4 0 (by decide)),level:=h.level.step k (hm 5 0 (by decide)),why:=h.why.step k (hm 6 0 (by decide)),heat:=h.heat.step k (hm 7 0 (by decide)),phase:=h.phase.step k (hm 8 0 (by decide)),trail:=h.trail.step k (hm 9 0 (by decide)),limits:=h.limits.step k (hm 10 0 (by decide)),model:=h.model.step k (hm 11 0 (by decide)),trace:=h.trace.step k (hm 12 0 (by decide)) (hm 13 0 (by decide)),cls:=fun c l hc=>(h.cls c l hc).step k (hm 14 c (by decide)) (hm 15 c (by decide)) }
theorem SAt.push_trace {ow : Ow} {s : ASt} {p : Nat} {x : Sf} {v : Sv} (h : SAt ow s p x v) (hT : v.trace.length ≤ 1000000) (d : Bool) {u : AV} {L : List Int} (hu : AM      s.next s u (ivs L)) (hslot : ∀ j, CU   u = some j → ow j = (p, 13, 0) ∧ j < s.next) :
    ∃t' s' ow',AY Try.prog (AH s (AP 27 2 [.bool d,u])) [33,33] [x.trc,.slice (some (s.next,0)) 1 (some 1)]=some (t',s')∧DE s' p (DP x v)∧t'.isCell=true∧t'.cells=[t'] ∧
      ∀s'' y,DE s'' p (DP { x with trc:=t' } { v with broken:=y,trace:=v.trace++[(d,L)] })→s''.next=s'.next→(∀j,j≠p→s''.heap.get j=s'.heap.get j) →
        SAt ow' s'' p { x with trc:=t' } { v with broken:=y,trace:=v.trace++[(d,L)] }∧AK (Bq p) ow s ow' s'':=by
  have c1:=GA (P:=Try.prog) (e:=27) (s:=AH s (AP 27 2 [.bool d,u])) (n:=1) (cap:=some 1) (sz:=2) 27 2 (by rw[AO,if_pos rfl]) rfl
  have hst0:AK (fun _=>False) ow s (ext ow s.next (0,0,0)) (AH s (AP 27 2 [.bool d,u])):=AK.new _ ow s _ _
  have h1:=h.keep hst0 (fun _ q=>q.elim)
  obtain⟨us,O,t1,t2,t3,t4,t5⟩:=h1.trace
  obtain⟨v',s',O',g1,g2,g3,g4,g5,g6,g7⟩:=t1.append (P:=Try.prog) (st:=33) (xt:=33) Try.underlying33 OK mO (by decide) (JW 33 27 Try.underlying33) ae c1 rfl (by have:=hu.isCell.1;simp only[Af,this];rfl) (by omega) (by omega)
  generalize hs1:AH s (AP 27 2 [.bool d,u])=s1 at *
  have n1:s1.next=s.next+1:=by rw[← hs1];rfl
  generalize ho1:ext ow s.next (0,0,0)=ow1 at *
  have hstA:AK (· = (p,12,0)) ow1 s1 (ext ow1 s1.next (p,12,0)) s':=⟨g3,fun j hj _=>FU hj,fun j hj hm=>g5 j hj fun e=>hm (t2 j e)⟩
  have hm:∀a i,a≠12→¬ ((p,a,i):Tag)=(p,12,0):=fun a i ha=>tne ha
  have hlt:=h1.lt
  have hbox:=h1.box.step hstA h1.tag h1.lt (hm 0 0 (by decide))
  have hcell:v'.isCell=true∧v'.cells=[v']:=by
    obtain⟨a,cap,e,_⟩:=g2.cells
    rw[e];exact⟨rfl,rfl⟩
  refine⟨v',s',ext ow1 s1.next (p,12,0),g1,hbox,hcell.1,hcell.2,fun s'' y hb hn hf=>?_⟩
  have htag:(ext ow1 s1.next (p,12,0)) p=(p,0,0):=by rw[FU h1.lt];exact h1.tag
  have hstB:AK (· = (p,0,0)) (ext ow1 s1.next (p,12,0)) s' (ext ow1 s1.next (p,12,0)) s'':=⟨by omega,fun _ _ _=>rfl,fun j _ hm=>hf j fun e=>hm (by rw[e];exact htag)⟩
  have hm0:∀a i,a≠0→¬ ((p,a,i):Tag)=(p,0,0):=fun a i ha=>tne ha
  have hu1:AM s1.next s1 u (ivs L):=(hu.keep fun j hj=>hst0.heap j (hslot j hj).2 (fun q=>q)).mono (by omega)
  have hslot1:∀j,CU u=some j→ow1 j=(p,13,0)∧j<s1.next:=fun j hj=>⟨by rw[hst0.tags j (hslot j hj).2 (fun q=>q)];exact(hslot j hj).1,by have:=(hslot j hj).2;omega⟩
  have htr:NG (ext ow1 s1.next (p,12,0)) s' p v' (v.trace++[(d,L)]):=by
    refine⟨us++[.bool d,u],O',by rw[oL];exact g2,fun j hj=>?_,fun j hj=>?_,?_,fun w hw j hj=>?_⟩
    · rcases g6 j hj with q | q
      · rw[FU (t1.lt j q)];exact t2 j q
      · exact ER q
    · rcases g7 j hj with q | q
      · obtain⟨q1,q2⟩:=t3 j q
        exact⟨by rw[FU q2];exact q1,by omega⟩
      · exact⟨ER q,g2.slot_lt j hj⟩
    · refine ((t4.mono g3).keep fun w hw j hj => ?_).snoc ?_
      · obtain⟨q1,q2⟩:=t5 w hw j hj
        exact hstA.heap j q2 (by rw[q1];exact hm 13 0 (by decide))
      · refine(hu1.keep fun j hj=>?_).mono g3
        obtain⟨q1,q2⟩:=hslot1 j hj
        exact hstA.heap j q2 (by rw[q1];exact hm 13 0 (by decide))
    · rcases pg.1              hw with hw | hw
      · obtain⟨q1,q2⟩:=t5 w hw j hj
        exact⟨by rw[FU q2];exact q1,by omega⟩
      · rcases ov.1            hw with rfl | hw
        · cases hj
        · have:w=u:=by simpa using hw
          subst this
          obtain⟨q1,q2⟩:=hslot1 j hj
          exact⟨by rw[FU q2];exact q1,by omega⟩
  have hstepA:AK (Bq p) ow s (ext ow1 s1.next (p,12,0)) s':=(hst0.mono fun _ q=>q.elim).trans (hstA.mono fun t ht=>by rw[ht];exact⟨rfl,by simp,by simp,by simp⟩)
  refine⟨?_,hstepA.trans (hstB.mono fun t ht=>by rw[ht];exact⟨rfl,by simp,by simp,by simp⟩)⟩
  have h:=h1
  have k:True:=trivial
  exact { box:=hb,tag:=htag,lt:=by omega,w:=(h.w.step hstA (hm 1 0 (by decide)) (fun j=>hm 2 j (by decide))).step hstB (hm0 1 0 (by decide)) (fun j=>hm0 2 j (by decide)),learned:=(h.learned.step hstA (hm 3 0 (by decide))).step hstB (hm0 3 0 (by decide)),value:=(h.value.step hstA (hm 4 0 (by decide))).step hstB (hm0 4 0 (by decide)),level:=(h.level.step hstA (hm 5 0 (by decide))).step hstB (hm0 5 0 (by decide)),why:=(h.why.step hstA (hm 6 0 (by decide))).step hstB (hm0 6 0 (by decide)),heat:=(h.heat.step hstA (hm 7 0 (by decide))).step hstB (hm0 7 0 (by decide)),phase:=(h.phase.step hstA (hm 8 0 (by decide))).step hstB (hm0 8 0 (by decide)),trail:=(h.trail.step hstA (hm 9 0 (by decide))).step hstB (hm0 9 0 (by decide)),limits:=(h.limits.step hstA (hm 10 0 (by decide))).step hstB (hm0 10 0 (by decide)),model:=(h.model.step hstA (hm 11 0 (by decide))).step hstB (hm0 11 0 (by decide)),trace:=htr.step hstB (hm0 12 0 (by decide)) (hm0 13 0 (by decide)),cls:=fun c l hc=>((h.cls c l hc).step hstA (hm 14 c (by decide)) (hm 15 c (by decide))).step hstB (hm0 14 c (by decide)) (hm0 15 c (by decide)) }
theorem DX(l:List AV):(AV.agg l).cells=l:=rfl
def EH(v:Sv):Sv:=if v.broken=true then v else { v with broken:=true,trace:=v.trace++[(false,[])] }
theorem QB:Bz Try.prog 27 (zipIdx [] [])=some (.agg [.bool false,.slice none 0 (some 0)]):=by
  simp[Bz,TE,Try.underlying27,Bw,sz4,BU,zipIdx,Dm,DX,AF]
theorem QA{u:AV}(hu:u.cells=[u]):Bz Try.prog 27 (zipIdx [1] [u])=some (.agg [.bool false,u]):=by
  simp[Bz,TE,Try.underlying27,Bw,sz4,BU,zipIdx,Dm,DX,AF,hu]
  rfl
theorem jF{u:AV}(hu:u.cells=[u]):Bz Try.prog 104 (zipIdx [0,1] [u,.bool true])=some (.agg [u,.bool true,.bool false]):=by
  simp[Bz,iy,Try.underlying104,Bw,sz4,BU,zipIdx,Dm,DX,AF,hu]
  rfl
theorem P9{u:AV}(hu:u.cells=[u]):Bz Try.prog 104 (zipIdx [0] [u])=some (.agg [u,.bool false,.bool false]):=by
  simp[Bz,iy,Try.underlying104,Bw,sz4,BU,zipIdx,Dm,DX,AF,hu]
  rfl
theorem Vt{u:AV}(hu:u.cells=[u])(b c:Bool):CL 104 (.agg [u,.bool b,.bool c])=some (AP 104 0 [u,.bool b,.bool c],.ptr):=by
  simp[CL,AV.cells,hu]
theorem No{E:Env}(hE:An E){ow:Ow}{s:ASt}{p:Nat}{x:Sf}{v:Sv}(h:SAt ow s p x v)(hT:v.trace.length≤1000000):
    WF E 65 [AR p] (fun _ s'=>∃ow' x',SAt ow' s' p x' (EH v)∧AK (Bq p) ow s ow' s'∧x'.w=x.w) s:=by
  refine hE.go kf (by decide) rfl ?_
  cases hb:v.broken with
  | true =>
    have hf:EH v=v:=by unfold EH;rw[if_pos hb]
    have ld:=h.ld_broken
    rw[hb]at ld
    simp only[c65,YI,AR,AG,G5,ld,Qa,Qb,Qc,Qd,Qe,Qf,Qg,Qh,Qi,Qj,Qk,Ql,Qm,Qn,true_and,and_true,Qo,Qp,Qq,Qr,Qs,Qt,Qu,Qv,Qw,Qx,Qy,Qz,Ra,Rb,Rc,Rd,Re,Rf,Rg,Rh,Ri,Rj,Rk,Rl,Rm,Ya,Yb,Yc,Rn,Ro,Rp,Yd,Ye,Rq,Rs,Rt,Ru,Rv,Rw,Rx]
    rw[hf]
    exact⟨ow,x,h,AK.refl _ _ _,rfl⟩
  | false =>
    have hf:EH v={ v with broken:=true,trace:=v.trace++[(false,[])] }:=by unfold EH;rw[if_neg (by rw[hb];decide)]
    have ld:=h.ld_broken
    rw[hb]at ld
    have hms:∀ (m:Nat) (i:Nat),Bv.val i (.slice m)=.slice (some (i,0)) m (some m):=fun _ _=>rfl
    obtain⟨t',s1,ow',a1,a2,a3,a4,a5⟩:=h.push_trace hT false (u:=.slice none 0 (some 0)) (L:=[]) ⟨none,some 0,rfl,A8.nil⟩ (fun j hj=>by cases hj)
    obtain⟨s2,b1,b2,b3,b4⟩:=a2.store (k:=10) (d:=.bool true) (by simp) (t:=4) sz4 rfl rfl
    obtain⟨s3,d1,d2,d3,d4⟩:=b2.store (k:=12) (d:=t') (by simp) (t:=33) GL a3 a4
    obtain⟨k1,k2⟩:=a5 s3 true d2 (by omega) (fun j hj=>(d4 j hj).trans (b4 j hj))
    simp only[c65,YI,gC,AR,AG,G5,KB,ld,h.ld_trc,QB,KW,hms,a1,on2,b1,d1,AT,Qa,Qb,Qc,Qd,Qe,Qf,Qg,Qh,Qi,Qj,Qk,Ql,Qm,Qn,true_and,and_true,Qo,Qp,Qq,Qr,Qs,Qt,Qu,Qv,Qw,Qx,Qy,Qz,Ra,Rb,Rc,Rd,Re,Rf,Rg,Rh,Ri,Rj,Rk,Rl,Rm,Ya,Yb,Yc,Rn,Ro,Rp,Yd,Ye,Rq,Rs,Rt,Ru,Rv,Rw,Rx]
    rw[hf]
    exact⟨ow',_,k1,k2,rfl⟩
theorem UX{E:Env}(hE:An E){ow:Ow}{s:ASt}{p:Nat}{x:Sf}{v:Sv}(h:SAt ow s p x v)(hr:(v.learned.length:Int)<v.room):
    WF E 69 [AR p] (fun _ s'=>∃ow',SAt ow' s' p x v∧AK (Bq p) ow s ow' s') s:=by
  have hptr:∀i,Bv.val i .ptr=.ptr (some (i,0)):=fun _=>rfl
  have hbox:CL 44 (AV.ptr (some (p,0)))=some (AP 44 0 [AR p],.ptr):=by simp[CL,AR,AV.cells]
  have hst:AK (fun _=>False) ow s (ext ow s.next (0,0,0)) (AH s (AP 44 0 [AR p])):=AK.new _ ow s _ _
  have h':=h.keep hst (fun _ q=>q.elim)
  have b1:Al (AH s (AP 44 0 [AR p])) s.next (AR p):=Al.new
  have l1:=b1.load FS
  have ln:∀s,Ao Try.prog s 89 x.l=some (iv (v.learned.length:Int)):=fun s=>by
    have:=h.learned.len Try.underlying89 s
    rw[oF]at this
    exact this
  have hd:=decide_eq_true hr
  have ld1:=h'.ld_l
  have ld2:=h'.ld_room
  refine hE.go kj (by decide) rfl ?_
  simp only[AR]at hbox l1 ld1 ld2
  simp only[c69,gV,gW,AR,hbox,hptr,l1,AG,ZP,cX,ld1,ld2,ln,hd,Qa,Qb,Qc,Qd,Qe,Qf,Qg,Qh,Qi,Qj,Qk,Ql,Qm,Qn,true_and,and_true,Qo,Qp,Qq,Qr,Qs,Qt,Qu,Qv,Qw,Qx,Qy,Qz,Ra,Rb,Rc,Rd,Re,Rf,Rg,Rh,Ri,Rj,Rk,Rl,Rm,Ya,Yb,Yc,Rn,Ro,Rp,Yd,Ye,Rq,Rs,Rt,Ru,Rv,Rw,Rx]
  exact⟨_,h',hst.mono fun _ q=>q.elim⟩
def U8(ow:Ow)(T T':Tag):Ow:=fun x=>if ow x=T then T' else ow x
theorem AK.as{m:Tag→Prop}(ow:Ow)(s:ASt)(T T':Tag)(h:m T):AK m ow s (U8 ow T T') s:=
  ⟨oD _,fun x hx hm=>if_neg fun e=>hm (by rw[e];exact h),fun _ _ _=>rfl⟩
theorem Buf.as{ow:Ow}{T T':Tag}{s:ASt}{v:AV}{cs:List AV}(h:Buf ow T s v cs):Buf (U8 ow T T') T' s v cs:=by
  rcases h with h | ⟨i,o,cap,r,h1,h2,h3⟩
  · exact .inl h
  · exact .inr ⟨i,o,cap,r,h1,⟨h2.get,if_pos h2.whose,h2.lt,h2.own,h2.sz,fun q hq=>let ⟨k1,k2,k3⟩:=h2.par q hq;⟨if_pos k1,k2,k3⟩⟩,h3⟩
def HP(v:Sv)(c:Nat)(l:Bm):Sv:={ v with cl:=Ag v.cl c l }
def Bj(v:Sv)(c:Nat)(L:List Int):Sv:=
  let v1:=HP { v with trace:=v.trace++[(false,L)] } c (L,true,false)
  let v2:Sv:=if 1<L.length then { ON v1 c (L.getD 0 0) (L.getD 1 0)with learned:=v.learned++[c] }else v1
  BY v2 (L.getD 0 0) (some c)
theorem Ge:∀ (l:List Int)(v:Sv),∃ph va wh,l.foldl Dx v={ v with phase:=ph,value:=va,why:=wh }∧ph.length=v.phase.length∧va.length=v.value.length∧wh.length=v.why.length
  | [],v=>⟨_,_,_,rfl,rfl,rfl,rfl⟩
  | x::l,v=>by
    obtain⟨ph,va,wh,h1,h2,h3,h4⟩:=Ge l (Dx v x)
    exact⟨ph,va,wh,h1,h2.trans oO,h3.trans oO,h4.trans oO⟩
theorem Ci(v:Sv)(level:Nat):∃ph va wh tr li hd,Av v level={ v with phase:=ph,value:=va,why:=wh,trail:=tr,limits:=li,head:=hd }∧ph.length=v.phase.length∧va.length=v.value.length∧wh.length=v.why.length∧tr.length≤v.trail.length∧li.length≤v.limits.length:=by
  unfold Av
  split
  · exact⟨_,_,_,_,_,_,rfl,rfl,rfl,rfl,oD _,oD _⟩
  · unfold He
    obtain⟨ph,va,wh,h1,h2,h3,h4⟩:=Ge (v.trail.drop (v.limits.getD level 0).toNat) v
    rw[h1]
    exact⟨ph,va,wh,_,_,_,rfl,h2,h3,h4,by rw[ou];omega,by rw[ou];omega⟩
theorem Siz.back{n:Nat}{v:Sv}(h:Siz n v)(level:Nat):Siz n (Av v level):=by
  obtain⟨ph,va,wh,tr,li,hd,e,h1,h2,h3,h4,h5⟩:=Ci v level
  rw[e]
  exact⟨h.small,h.w,h2.trans h.value,h.level,h3.trans h.why,h.heat,h1.trans h.phase,oS h4 h.trail,oS h5 h.limits⟩
theorem NG.self{ow:Ow}{s:ASt}{p:Nat}{v:AV}{T:As}(h:NG ow s p v T):eqA v v=true:=by
  obtain⟨us,O,h1,_⟩:=h
  obtain⟨a,cap,rfl,_⟩:=h1.cells
  exact E1
theorem CC.slot_ge{lo:Nat}{s:ASt}{v:AV}{L:List Int}(h:CC lo s v L)(hL:L≠[]):∀j,CU v=some j→lo≤j∧j<s.next:=by
  rcases h with⟨a,rfl,e⟩ | ⟨i,rfl,h1,h2,_⟩
  · exact absurd e hL
  · intro j hj
    simp[CU]at hj
    subst hj
    exact⟨h1,h2⟩
theorem ck{E:Env}(hE:An E){K:List AV→ASt→Prop}{ow:Ow}{s:ASt}{p:Nat}{x:Sf}{v:Sv}(h:SAt ow s p x v){lv:AV}{L:List Int}(hlv:Buf ow (p,20,0) s lv (ivs L))(hL:L≠[])(hl:L.length≤1000000)(hT:v.trace.length≤1000000)(x2 x3 x4:AV)
    (hK:∀s1 ow1 x',SAt ow1 s1 p x' { v with trace:=v.trace++[(false,L)] }→x'.w=x.w→AK (Bq p) ow s ow1 s1→K [AV.ptr (some (p,0)),lv,x2,x3,x4] s1):
    Qb E YJ K [] [AV.ptr (some (p,0)),lv,x2,x3,x4] s:=by
  have hms:∀ (m:Nat) (i:Nat),Bv.val i (.slice m)=.slice (some (i,0)) m (some m):=fun _ _=>rfl
  simp only[YJ,AG,KB,h.ld_trc,Qa,Qb,Qc,Qd,Qe,Qf,Qg,Qh,Qi,Qj,Qk,Ql,Qm,Qn,true_and,and_true,Qo,Qp,Qq,Qr,Qs,Qt,Qu,Qv,Qw,Qx,Qy,Qz,Ra,Rb,Rc,Rd,Re,Rf,Rg,Rh,Ri,Rj,Rk,Rl,Rm,Ya,Yb,Yc,Rn,Ro,Rp,Yd,Ye,Rq,Rs,Rt,Ru,Rv,Rw,Rx]
  refine(GZ hE (oD _) hlv.slice hl).mono ?_
  rintro u s1 ⟨hu,ho⟩
  have hst:AK (fun _=>False) ow s (ext ow s.next (p,13,0)) s1:=AK.old ho _
  have h1:=h.keep hst (fun _ q=>q.elim)
  obtain⟨t',s2,ow2,a1,a2,a3,a4,a5⟩:=h1.push_trace hT false hu.slice (fun j hj=>by
    obtain⟨q1,q2⟩:=hu.slot_ge hL j hj
    exact⟨ER q1,q2⟩)
  obtain⟨s3,d1,d2,d3,d4⟩:=a2.store (k:=12) (d:=t') (by simp) (t:=33) GL a3 a4
  obtain⟨k1,k2⟩:=a5 s3 v.broken d2 (by omega) (fun j hj=>d4 j hj)
  simp only[BR,Az,h1.ld_trc,h1.trace.self,QA hu.slice.isCell.2,KW,hms,a1,on2,d1,AT,AG,KB,Qa,Qb,Qc,Qd,Qe,Qf,Qg,Qh,Qi,Qj,Qk,Ql,Qm,Qn,true_and,and_true,Qo,Qp,Qq,Qr,Qs,Qt,Qu,Qv,Qw,Qx,Qy,Qz,Ra,Rb,Rc,Rd,Re,Rf,Rg,Rh,Ri,Rj,Rk,Rl,Rm,Ya,Yb,Yc,Rn,Ro,Rp,Yd,Ye,Rq,Rs,Rt,Ru,Rv,Rw,Rx]
  exact hK s3 ow2 _ k1 rfl ((hst.mono fun _ q=>q.elim).trans k2)
theorem cm{E:Env}(hE:An E){ow:Ow}{s:ASt}{p:Nat}{x:Sf}{v:Sv}(h:SAt ow s p x v){n:Nat}(hf:Fit n v){level:Nat}(hlev:level<100000000){lv:AV}{L:List Int}(hlv:Buf ow (p,20,0) s lv (ivs L))(hL:BM n L)(h1:1≤L.length)(hl:L.length≤1000000)(hT:v.trace.length≤1000000)(hW:Tot v.watches≤90000000)(hle:v.learned.length≤100000000):
    WF E 66 [AR p,lv,iv (level:Int)] (fun _ s'=>∃c ow' x',v.cl c=none∧SAt ow' s' p x' (Bj (Av v level) c L)∧AK (Bh p) ow s ow' s') s:=by
  have hne:L≠[]:=fun e=>by rw[e]at h1;cases h1
  have hz0:=hf.siz.back level
  obtain⟨ph,va,wh,tr,li,hd,e,z1,z2,z3,z4,z5⟩:=Ci v level
  have hptr:∀i,Bv.val i .ptr=.ptr (some (i,0)):=fun _=>rfl
  refine hE.go kg (by decide) rfl ?_
  simp only[c66,gD,AR,Qa,Qb,Qc,Qd,Qe,Qf,Qg,Qh,Qi,Qj,Qk,Ql,Qm,Qn,true_and,and_true,Qo,Qp,Qq,Qr,Qs,Qt,Qu,Qv,Qw,Qx,Qy,Qz,Ra,Rb,Rc,Rd,Re,Rf,Rg,Rh,Ri,Rj,Rk,Rl,Rm,Ya,Yb,Yc,Rn,Ro,Rp,Yd,Ye,Rq,Rs,Rt,Ru,Rv,Rw,Rx]
  refine(Fh hE h hf hlev).mono ?_
  rintro _ s1 ⟨x1,a1,a2,_⟩
  have b1:Buf ow (p,20,0) s1 lv (ivs L):=hlv.step a2 (fun q=>absurd q.2.2.2 (by show ¬ 20<16;omega))
  have hcl1:(Av v level).cl=v.cl:=by rw[e]
  have hT1:(Av v level).trace=v.trace:=by rw[e]
  have hw1:(Av v level).watches=v.watches:=by rw[e]
  have hle1:(Av v level).learned=v.learned:=by rw[e]
  generalize hvb:Av v level=vb at *
  simp only[Qa,Qb,Qc,Qd,Qe,Qf,Qg,Qh,Qi,Qj,Qk,Ql,Qm,Qn,true_and,and_true,Qo,Qp,Qq,Qr,Qs,Qt,Qu,Qv,Qw,Qx,Qy,Qz,Ra,Rb,Rc,Rd,Re,Rf,Rg,Rh,Ri,Rj,Rk,Rl,Rm,Ya,Yb,Yc,Rn,Ro,Rp,Yd,Ye,Rq,Rs,Rt,Ru,Rv,Rw,Rx]
  refine ck hE a1 b1 hne hl (by rw[hT1];exact hT) _ _ _ ?_
  intro s2 ow2 x2 d1 d2 d3
  have b2:Buf ow2 (p,20,0) s2 lv (ivs L):=b1.step d3 (fun q=>absurd q.2.2.2 (by show ¬ 20<16;omega))
  have hbx:=Vt b2.isCell.2 true false
  have hbl:=jF b2.isCell.2
  have hstN:AK (fun _=>False) ow2 s2 (ext ow2 s2.next (p,14,s2.next)) (AH s2 (AP 104 0 [lv,.bool true,.bool false])):=AK.new _ ow2 s2 _ _
  have d1N:=d1.keep hstN (fun _ q=>q.elim)
  have b2N:=b2.step hstN (fun q=>q)
  have hbox:DE (AH s2 (AP 104 0 [lv,.bool true,.bool false])) s2.next [lv,.bool true,.bool false]:=DE.new
  generalize hc:s2.next=c at *
  generalize hs3:AH s2 (AP 104 0 [lv,.bool true,.bool false])=s3 at *
  have n3:s3.next=c+1:=by rw[← hs3,← hc];rfl
  have hfresh:vb.cl c=none:=by
    cases hcc:vb.cl c with
    | none=>rfl
    | some l =>
      obtain⟨_,_,_,q,_⟩:=d1.cls c l hcc
      omega
  have hasm:AK (· = (p,20,0)) (ext ow2 c (p,14,c)) s3 (U8 (ext ow2 c (p,14,c)) (p,20,0) (p,15,c)) s3:=AK.as _ _ _ _ rfl
  have d3A:=d1N.keep16 hasm (fun a i ha q=>by injection q with _ q;injection q with q;omega)
  have b3:Buf _ (p,15,c) s3 lv (ivs L):=b2N.as (T':=(p,15,c))
  have htag:(U8 (ext ow2 c (p,14,c)) (p,20,0) (p,15,c)) c=(p,14,c):=by
    unfold U8
    rw[ER (oD c),if_neg (tne (by decide))]
  generalize how3:U8 (ext ow2 c (p,14,c)) (p,20,0) (p,15,c)=ow3 at *
  have d4:SAt ow3 s3 p x2 (HP { vb with trace:=vb.trace++[(false,L)] } c (L,true,false)):=d3A.clause hfresh ⟨lv,hbox,htag,by omega,b3⟩
  have hstep:AK (Bh p) ow s ow3 s3:=((a2.trans d3).b.trans (hstN.mono fun _ q=>q.elim)).trans (hasm.mono fun t ht=>by rw[ht];rfl)
  have hcl4:(HP { vb with trace:=vb.trace++[(false,L)] } c (L,true,false)).cl c=some (L,true,false):=BF _ _ _
  have hV0:=hL.get (k:=0) (by omega)
  have hg0:=AS (d:=(0:Int)) (show 0<L.length by omega)
  have i0:AC Try.prog 23 lv (iv 0)=some (BC lv 0):=b3.addr Try.underlying23 sz3 (k:=0) (by rw[oF];omega)
  have ln:∀s,Ao Try.prog s 23 lv=some (iv (L.length:Int)):=fun s=>by
    have:=b3.len Try.underlying23 s
    rw[oF]at this
    exact this
  have hms:∀ (m:Nat) (i:Nat),Bv.val i (.slice m)=.slice (some (i,0)) m (some m):=fun _ _=>rfl
  have bl:=Cd (P:=Try.prog) (t:=89) (v:=AR c) Try.underlying89 Gw Ve rfl rfl
  simp only[AR]at bl
  simp only[gE,hbl,hbx,hc,hs3,hptr,gF,ln,Qa,Qb,Qc,Qd,Qe,Qf,Qg,Qh,Qi,Qj,Qk,Ql,Qm,Qn,true_and,and_true,Qo,Qp,Qq,Qr,Qs,Qt,Qu,Qv,Qw,Qx,Qy,Qz,Ra,Rb,Rc,Rd,Re,Rf,Rg,Rh,Ri,Rj,Rk,Rl,Rm,Ya,Yb,Yc,Rn,Ro,Rp,Yd,Ye,Rq,Rs,Rt,Ru,Rv,Rw,Rx]
  by_cases h2:1<L.length
  · have hdd:decide ((1:Int)<(L.length:Int))=true:=decide_eq_true (by omega)
    simp only[hdd,gG,Qa,Qb,Qc,Qd,Qe,Qf,Qg,Qh,Qi,Qj,Qk,Ql,Qm,Qn,true_and,and_true,Qo,Qp,Qq,Qr,Qs,Qt,Qu,Qv,Qw,Qx,Qy,Qz,Ra,Rb,Rc,Rd,Re,Rf,Rg,Rh,Ri,Rj,Rk,Rl,Rm,Ya,Yb,Yc,Rn,Ro,Rp,Yd,Ye,Rq,Rs,Rt,Ru,Rv,Rw,Rx]
    refine(P4 hE d4 (n:=n) hz0.small hz0.w (by show Tot vb.watches≤_;rw[hw1];exact hW) hcl4 hL h2).mono ?_
    rintro _ s4 ⟨ow4,e1,e2⟩
    have b4:Buf ow4 (p,15,c) s4 lv (ivs L):=b3.step e2 (fun q=>by rcases q.2 with q | q<;>cases q)
    have hst5:AK (fun _=>False) ow4 s4 (ext ow4 s4.next (0,0,0)) (AH s4 (AP 92 1 [AR c])):=AK.new _ ow4 s4 _ _
    have e1':=e1.keep hst5 (fun _ q=>q.elim)
    have b4':=b4.step hst5 (fun q=>q)
    obtain⟨u,s5,s6,ow5,f1,f2,f3,f4⟩:=e1'.push_learned (by show vb.learned.length≤_;rw[hle1];omega) c (q:=s4.next) (ty:=92) (sz':=1) (by rw[AO,if_pos rfl])
    have b6:Buf ow5 (p,15,c) s6 lv (ivs L):=b4'.step f4 (fun q=>by rcases q with q | q<;>injection q with _ q<;>injection q with q<;>cases q)
    have l0:=b6.get (t:=3) ag3 (k:=0) (A2 hg0)
    have ldl:=e1.ld_l
    simp only[AR]at f1
    simp only[gH,AG,ZP,ldl,bl,hms,f1,on2,f2,AT,YK,i0,l0,Qa,Qb,Qc,Qd,Qe,Qf,Qg,Qh,Qi,Qj,Qk,Ql,Qm,Qn,true_and,and_true,Qo,Qp,Qq,Qr,Qs,Qt,Qu,Qv,Qw,Qx,Qy,Qz,Ra,Rb,Rc,Rd,Re,Rf,Rg,Rh,Ri,Rj,Rk,Rl,Rm,Ya,Yb,Yc,Rn,Ro,Rp,Yd,Ye,Rq,Rs,Rt,Ru,Rv,Rw,Rx]
    refine(Fg hE f3 (n:=n) ?_ hV0 (some c)).mono ?_
    · exact⟨hz0.small,by show(DW (DW _ _ _) _ _).length=_;rw[Ds,Ds];exact hz0.w,hz0.value,hz0.level,hz0.why,hz0.heat,hz0.phase,hz0.trail,hz0.limits⟩
    rintro _ s7 ⟨ow7,x7,g1,g2,_⟩
    simp only[Qa,Qb,Qc,Qd,Qe,Qf,Qg,Qh,Qi,Qj,Qk,Ql,Qm,Qn,true_and,and_true,Qo,Qp,Qq,Qr,Qs,Qt,Qu,Qv,Qw,Qx,Qy,Qz,Ra,Rb,Rc,Rd,Re,Rf,Rg,Rh,Ri,Rj,Rk,Rl,Rm,Ya,Yb,Yc,Rn,Ro,Rp,Yd,Ye,Rq,Rs,Rt,Ru,Rv,Rw,Rx]
    refine⟨c,ow7,x7,by rw[← hcl1];exact hfresh,?_,hstep.trans ((e2.w.trans (hst5.mono fun _ q=>q.elim)).trans ((f4.n (by decide) (by decide) (by decide)).b.trans g2.b))⟩
    unfold Bj
    simp only[if_pos h2]
    exact g1
  · have hdd : decide ((1 : Int) < (L.length : Int)) = false := decide_eq_false (by omega)
    have l0:=b3.get (t:=3) ag3 (k:=0) (A2 hg0)
    simp only[hdd,YK,i0,l0,Qa,Qb,Qc,Qd,Qe,Qf,Qg,Qh,Qi,Qj,Qk,Ql,Qm,Qn,true_and,and_true,Qo,Qp,Qq,Qr,Qs,Qt,Qu,Qv,Qw,Qx,Qy,Qz,Ra,Rb,Rc,Rd,Re,Rf,Rg,Rh,Ri,Rj,Rk,Rl,Rm,Ya,Yb,Yc,Rn,Ro,Rp,Yd,Ye,Rq,Rs,Rt,Ru,Rv,Rw,Rx]
    refine(Fg hE d4 (n:=n) ⟨hz0.small,hz0.w,hz0.value,hz0.level,hz0.why,hz0.heat,hz0.phase,hz0.trail,hz0.limits⟩ hV0 (some c)).mono ?_
    rintro _ s7 ⟨ow7,x7,g1,g2,_⟩
    simp only[Qa,Qb,Qc,Qd,Qe,Qf,Qg,Qh,Qi,Qj,Qk,Ql,Qm,Qn,true_and,and_true,Qo,Qp,Qq,Qr,Qs,Qt,Qu,Qv,Qw,Qx,Qy,Qz,Ra,Rb,Rc,Rd,Re,Rf,Rg,Rh,Ri,Rj,Rk,Rl,Rm,Ya,Yb,Yc,Rn,Ro,Rp,Yd,Ye,Rq,Rs,Rt,Ru,Rv,Rw,Rx]
    refine⟨c,ow7,x7,by rw[← hcl1];exact hfresh,?_,hstep.trans g2.b⟩
    unfold Bj
    simp only[if_neg h2]
    exact g1
def Iv:List Nat→List (AV×AV×Nat)→Prop
  | [],es=>es=[]
  | k::l,es=>∃b t,es=(iv (k:Int),AV.agg [],b)::t∧Iv l t
def Hb(s:ASt)(i:Nat)(L:List Nat):Prop:=∃es c,s.heap.get i=some (.map es c)∧Iv L es
theorem Hb.keep{s s':ASt}{i:Nat}{L:List Nat}(h:Hb s i L)(k:s'.heap.get i=s.heap.get i):Hb s' i L:=by
  obtain⟨es,c,h1,h2⟩:=h
  exact⟨es,c,k.trans h1,h2⟩
theorem Iv.snoc:∀ {L:List Nat}{es:List (AV×AV×Nat)},Iv L es→∀ (k b:Nat),Iv (L++[k]) (es++[(iv (k:Int),AV.agg [],b)])
  | [],es,h,k,b=>by
    have h:es=[]:=h
    subst h
    exact⟨b,[],rfl,rfl⟩
  | j::L,es,h,k,b=>by
    obtain⟨c,t,rfl,h⟩:=h
    exact⟨c,t++[(iv (k:Int),AV.agg [],b)],rfl,h.snoc k b⟩
theorem JH        : ∀ {L : List Nat} {es : List (AV × AV × Nat)}, Iv     L es → ∀ (k n : Nat), (k ∈ L ∧ ∃ j b, Do    (iv (k : Int)) es n = some (some (j, AV.agg [], b))) ∨ (k ∉ L ∧ Do    (iv (k : Int)) es n = some none)
  | [],es,h,k,n=>by
    have h:es=[]:=h
    subst h
    exact .inr ⟨by simp,rfl⟩
  | j::L,es,h,k,n=>by
    obtain⟨c,t,rfl,h⟩:=h
    by_cases e:k=j
    · subst e
      refine .inl ⟨by simp,n,c,?_⟩
      simp only[Do,IX,decide_true,Option.bind_some]
    · have hd : decide ((k : Int) = (j : Int)) = false := decide_eq_false (by omega)
      have he:Do (iv (k:Int)) ((iv (j:Int),AV.agg [],c)::t) n=Do (iv (k:Int)) t (n+1):=by
        simp only[Do,IX,Option.bind_some,hd]
      rw[he]
      rcases JH h k (n+1)with⟨h1,h2⟩ | ⟨h1,h2⟩
      · exact .inl ⟨oJ _ h1,h2⟩
      · exact .inr ⟨by simp[e,h1],h2⟩
theorem Gj{s:ASt}{i:Nat}{L:List Nat}(h:Hb s i L)(k:Nat):C6 Try.prog s 115 (.map (some i)) (iv (k:Int)) true=some (.tuple [.agg [],.bool (decide (k∈L))]):=by
  obtain⟨es,c,h1,h2⟩:=h
  simp only[C6,Try.underlying115,Ep,AF,cond_true,h1,Option.bind_some]
  rcases JH h2 k 0 with⟨h3,j,b,h4⟩ | ⟨h3,h4⟩
  · rw[h4,decide_eq_true h3];rfl
  · rw[h4,decide_eq_false h3];simp only[Option.bind_some,af,cond_true]
theorem P1{s:ASt}{i:Nat}{L:List Nat}(h:Hb s i L){k:Nat}(hk:k ∉ L):∃s',ED Try.prog s 115 (.map (some i)) (iv (k:Int)) (.agg [])=some s'∧Hb s' i (L++[k])∧s'.next=s.next∧∀j,j≠i→s'.heap.get j=s.heap.get j:=by
  obtain⟨es,c,h1,h2⟩:=h
  simp only[ED,Try.underlying115,Ep,AF,cond_true,h1,Option.bind_some]
  rcases JH h2 k 0 with⟨h3,_⟩ | ⟨h3,h4⟩
  · exact absurd h3 hk
  · rw[h4]
    exact⟨_,rfl,⟨_,_,by rw[Ai,if_pos rfl],h2.snoc k c⟩,rfl,fun x hx=>by rw[Ai,if_neg hx]⟩
theorem Vn:BE Try.prog 119=some (AP 119 0 [],.ptr):=by simp[BE,af,AV.cells]
theorem Vm:BE Try.prog 115=some (AP 115 0 [.map none],.ptr):=by simp[BE,oA,AV.cells]
theorem jG:Bz Try.prog 119 (zipIdx [] [])=some (.agg []):=by
  simp[Bz,af,Try.underlying119,Bw,zipIdx,Dm,DX,AF]
theorem aU(s:ASt)(i:Nat):AN Try.prog s 119 (.ptr (some (i,0))) (.agg [])=some s:=by
  simp[AN,ny,DX,AF,CJ]
theorem Zn(a b:Int):DU true (iv a) [iv b]=some (iv (max a b)):=by
  have hk:Bs .i64 .i64=true:=rfl
  simp only[DU,hk,AF,cond_true,D4]
  by_cases h:a<b
  · rw[decide_eq_true h,show max a b=b by omega];rfl
  · rw[decide_eq_false h,show max a b=a by omega];rfl
structure Lst where
  seen:List Nat
  hd:Int
  lits:List Int
  opn:Int
  lev:Int
def BL(v:Sv)(a:Lst)(q:Int):Lst:=
  if q.natAbs∈a.seen∨v.level.getD q.natAbs 0=0 then a
  else if v.level.getD q.natAbs 0=(v.limits.length:Int)then { a with seen:=a.seen++[q.natAbs],opn:=a.opn+1 }
  else { a with seen:=a.seen++[q.natAbs],lits:=a.lits++[q],lev:=max a.lev (v.level.getD q.natAbs 0) }
structure GJ(n:Nat)(a:Lst):Prop where
  nodup:a.seen.Nodup
  mem:∀k∈a.seen,1≤k∧k≤n
  len:a.lits.length≤a.seen.length
  lits:∀q∈a.lits,VL n q
  opn:0≤a.opn∧a.opn≤a.seen.length
theorem GJ.small{n:Nat}{a:Lst}(h:GJ n a):a.seen.length≤n:=C7 h.nodup h.mem
theorem GJ.step   {n : Nat} {a : Lst} (h : GJ   n a) (v : Sv) {q : Int} (hq : VL n q) : GJ   n (BL     v a q) := by
  unfold BL
  have hq1:1≤q.natAbs∧q.natAbs≤n:=⟨by have:=hq.1;omega,hq.2⟩
  split
  · exact h
  · rename_i h1
    have hns:q.natAbs ∉ a.seen:=fun e=>h1 (.inl e)
    have hnd:(a.seen++[q.natAbs]).Nodup:=by
      rw[pV]
      exact⟨h.nodup,by simp,fun x hx y hy e=>by
        have:y=q.natAbs:=by simpa using hy
        exact hns (by rw[← this,← e];exact hx)⟩
    have hmem:∀k∈a.seen++[q.natAbs],1≤k∧k≤n:=fun k hk=>by
      rcases pg.1 hk with hk | hk
      · exact h.mem k hk
      · have:k=q.natAbs:=by simpa using hk
        rw[this];exact hq1
    have h2:=h.len
    have h3:=h.opn
    split
    · exact⟨hnd,hmem,by show a.lits.length≤(a.seen++[q.natAbs]).length;simp;omega,h.lits,by show 0≤a.opn+1∧a.opn+1≤((a.seen++[q.natAbs]).length:Int);simp;omega⟩
    · exact⟨hnd,hmem,by show(a.lits++[q]).length≤(a.seen++[q.natAbs]).length;simp;omega,fun y hy=>by
        rcases pg.1 hy with hy | hy
        · exact h.lits y hy
        · have:y=q:=by simpa using hy
          rw[this];exact hq,by show 0≤a.opn∧a.opn≤((a.seen++[q.natAbs]).length:Int);simp;omega⟩
structure LAt(ow:Ow)(s:ASt)(p:Nat)(x:Sf)(v:Sv)(N:Nat)(h:List Int)(a:Lst):Prop where
  sat:SAt ow s p x (CZ v h)
  hl:h.length=v.heat.length
  sb:Al s N (AR p)
  lb:∃lv,Al s (N+1) lv∧Buf ow (p,20,0) s lv (ivs (a.hd::a.lits))
  vb:Al s (N+2) (iv a.lev)
  mo:Hb s (N+3) a.seen
  mb:Al s (N+4) (.map (some (N+3)))
  ob:Al s (N+6) (iv a.opn)
  tg:∀j,N≤j→j≤N+6→j≠N+5→ow j=(p,21,0)
  lt:N+6<s.next
def Ea(p:Nat)(t:Tag):Prop:=t=(p,7,0)∨t=(p,20,0)∨t=(p,21,0)
def GG(p:Nat)(t:Tag):Prop:=Ea p t∨t=(p,23,0)
theorem LAt.keep{m:Tag→Prop}{ow ow':Ow}{s s':ASt}{p:Nat}{x:Sf}{v:Sv}{N:Nat}{h:List Int}{a:Lst}(H:LAt ow s p x v N h a)(k:AK m ow s ow' s')(hm:∀y i,y<16→¬ m (p,y,i))(h1:¬ m (p,20,0))(h2:¬ m (p,21,0)):LAt ow' s' p x v N h a:=by
  have hn:=k.next
  have hlt:=H.lt
  have g:∀j,N≤j→j≤N+6→j≠N+5→s'.heap.get j=s.heap.get j:=fun j q1 q2 q3=>k.heap j (by omega) (by rw[H.tg j q1 q2 q3];exact h2)
  obtain⟨lv,l1,l2⟩:=H.lb
  exact { sat:=H.sat.keep16 k hm,hl:=H.hl,sb:=H.sb.keep (g _ (by omega) (by omega) (by omega)),lb:=⟨lv,l1.keep (g _ (by omega) (by omega) (by omega)),l2.step k h1⟩,vb:=H.vb.keep (g _ (by omega) (by omega) (by omega)),mo:=H.mo.keep (g _ (by omega) (by omega) (by omega)),mb:=H.mb.keep (g _ (by omega) (by omega) (by omega)),ob:=H.ob.keep (g _ (by omega) (by omega) (by omega)),tg:=fun j q1 q2 q3=>by rw[k.tags j (by omega) (by rw[H.tg j q1 q2 q3];exact h2)];exact H.tg j q1 q2 q3,lt:=by omega }
theorem LAt.box{ow:Ow}{s s':ASt}{p:Nat}{x:Sf}{v:Sv}{N:Nat}{h:List Int}{a:Lst}(H:LAt ow s p x v N h a){i:Nat}(h1:N≤i)(h2:i≤N+6)(h3:i≠N+5)(hn:s'.next=s.next)(hf:∀j,j≠i→s'.heap.get j=s.heap.get j):
    AK (· = (p,21,0)) ow s ow s'∧SAt ow s' p x (CZ v h)∧∀ (T:Tag) (u:AV) (cs:List AV),T≠(p,21,0)→Buf ow T s u cs→Buf ow T s' u cs:=by
  have st:AK (· = (p,21,0)) ow s ow s':=⟨by omega,fun _ _ _=>rfl,fun y _ hm=>hf y fun e=>hm (by rw[e];exact H.tg i h1 h2 h3)⟩
  exact⟨st,H.sat.keep16 st (fun y i hy e=>by injection e with _ e;injection e with e _;omega),fun T u cs hT hb=>hb.step st hT⟩
theorem LAt.setLev{ow:Ow}{s:ASt}{p:Nat}{x:Sf}{v:Sv}{N:Nat}{h:List Int}{a:Lst}(H:LAt ow s p x v N h a)(y:Int):
    ∃s',AN Try.prog s 3 (.ptr (some (N+2,0))) (iv y)=some s'∧LAt ow s' p x v N h { a with lev:=y }∧AK (Ea p) ow s ow s'∧s'.next=s.next:=by
  obtain⟨s',g1,g2,g3,g4⟩:=H.vb.store (d:=iv y) sz3 rfl rfl
  obtain⟨k1,k2,k3⟩:=H.box (i:=N+2) (by omega) (by omega) (by omega) g3 g4
  obtain⟨lv,l1,l2⟩:=H.lb
  exact⟨s',g1,{ sat:=k2,hl:=H.hl,sb:=H.sb.keep (g4 _ (by omega)),lb:=⟨lv,l1.keep (g4 _ (by omega)),k3 _ _ _ (tne (by decide)) l2⟩,vb:=g2,mo:=H.mo.keep (g4 _ (by omega)),mb:=H.mb.keep (g4 _ (by omega)),ob:=H.ob.keep (g4 _ (by omega)),tg:=H.tg,lt:=by have:=H.lt;omega },k1.mono fun t ht=>.inr (.inr ht),g3⟩
theorem LAt.setOpn{ow:Ow}{s:ASt}{p:Nat}{x:Sf}{v:Sv}{N:Nat}{h:List Int}{a:Lst}(H:LAt ow s p x v N h a)(y:Int):
    ∃s',AN Try.prog s 3 (.ptr (some (N+6,0))) (iv y)=some s'∧LAt ow s' p x v N h { a with opn:=y }∧AK (Ea p) ow s ow s'∧s'.next=s.next:=by
  obtain⟨s',g1,g2,g3,g4⟩:=H.ob.store (d:=iv y) sz3 rfl rfl
  obtain⟨k1,k2,k3⟩:=H.box (i:=N+6) (by omega) (by omega) (by omega) g3 g4
  obtain⟨lv,l1,l2⟩:=H.lb
  exact⟨s',g1,{ sat:=k2,hl:=H.hl,sb:=H.sb.keep (g4 _ (by omega)),lb:=⟨lv,l1.keep (g4 _ (by omega)),k3 _ _ _ (tne (by decide)) l2⟩,vb:=H.vb.keep (g4 _ (by omega)),mo:=H.mo.keep (g4 _ (by omega)),mb:=H.mb.keep (g4 _ (by omega)),ob:=g2,tg:=H.tg,lt:=by have:=H.lt;omega },k1.mono fun t ht=>.inr (.inr ht),g3⟩
theorem LAt.addSeen{ow:Ow}{s:ASt}{p:Nat}{x:Sf}{v:Sv}{N:Nat}{h:List Int}{a:Lst}(H:LAt ow s p x v N h a){k:Nat}(hk:k ∉ a.seen):
    ∃s',ED Try.prog s 115 (.map (some (N+3))) (iv (k:Int)) (.agg [])=some s'∧LAt ow s' p x v N h { a with seen:=a.seen++[k] }∧AK (Ea p) ow s ow s'∧s'.next=s.next:=by
  obtain⟨s',g1,g2,g3,g4⟩:=P1 H.mo hk
  obtain⟨k1,k2,k3⟩:=H.box (i:=N+3) (by omega) (by omega) (by omega) g3 g4
  obtain⟨lv,l1,l2⟩:=H.lb
  exact⟨s',g1,{ sat:=k2,hl:=H.hl,sb:=H.sb.keep (g4 _ (by omega)),lb:=⟨lv,l1.keep (g4 _ (by omega)),k3 _ _ _ (tne (by decide)) l2⟩,vb:=H.vb.keep (g4 _ (by omega)),mo:=g2,mb:=H.mb.keep (g4 _ (by omega)),ob:=H.ob.keep (g4 _ (by omega)),tg:=H.tg,lt:=by have:=H.lt;omega },k1.mono fun t ht=>.inr (.inr ht),g3⟩
theorem LAt.heat{ow:Ow}{s:ASt}{p:Nat}{x:Sf}{v:Sv}{N:Nat}{h:List Int}{a:Lst}(H:LAt ow s p x v N h a){k:Nat}(hk:k<h.length)(y:Int):
    ∃s',AN Try.prog s 3 (BC x.heat k) (iv y)=some s'∧LAt ow s' p x v N (h.set k y) a∧AK (Ea p) ow s ow s'∧s'.next=s.next:=by
  obtain⟨s',g1,g2,g3,g4⟩:=H.sat.put_heat (k:=k) hk y
  obtain⟨s'',q1,q2,q3,q4⟩:=H.sat.heat.set (t:=3) sz3 (k:=k) (x:=iv y) (by rw[oF];exact hk) rfl rfl
  rw[g1]at q1
  injection q1 with q1
  subst q1
  have hlt:=H.lt
  have g:∀j,N≤j→j≤N+6→j≠N+5→s'.heap.get j=s.heap.get j:=fun j r1 r2 r3=>q3.heap j (by omega) (by rw[H.tg j r1 r2 r3];exact tne (by decide))
  obtain⟨lv,l1,l2⟩:=H.lb
  exact⟨s',g1,{ sat:=g2,hl:=by rw[oO];exact H.hl,sb:=H.sb.keep (g _ (by omega) (by omega) (by omega)),lb:=⟨lv,l1.keep (g _ (by omega) (by omega) (by omega)),l2.step q3 (tne (by decide))⟩,vb:=H.vb.keep (g _ (by omega) (by omega) (by omega)),mo:=H.mo.keep (g _ (by omega) (by omega) (by omega)),mb:=H.mb.keep (g _ (by omega) (by omega) (by omega)),ob:=H.ob.keep (g _ (by omega) (by omega) (by omega)),tg:=H.tg,lt:=by omega },q3.mono fun t ht=>.inl ht,g4⟩
theorem LAt.push{ow:Ow}{s:ASt}{p:Nat}{x:Sf}{v:Sv}{N:Nat}{h:List Int}{a:Lst}(H:LAt ow s p x v N h a)(hle:a.lits.length≤1000000){lv:AV}(hlv:Al s (N+1) lv){q:Int}{i:Nat}{ty sz':Nat}(hq:s.heap.get i=some (AP ty sz' [iv q])):
    ∃u s' s'' ow',AY Try.prog s [23,23] [lv,.slice (some (i,0)) 1 (some 1)]=some (u,s')∧AN Try.prog s' 23 (.ptr (some (N+1,0))) u=some s''∧LAt ow' s'' p x v N h { a with lits:=a.lits++[q] }∧AK (Ea p) ow s ow' s'':=by
  obtain⟨lv',l1,l2⟩:=H.lb
  have e:lv'=lv:=by
    have q1:=l1.load C1
    rw[hlv.load C1]at q1
    injection q1 with q1
    exact q1.symm
  subst e
  obtain⟨u,s',ow',g1,g2,g3⟩:=l2.push (st:=23) (e:=3) Try.underlying23 sz3 by3 (by decide) Lu Ip (by simp;omega) (x:=iv q) rfl hq
  have hlt:=H.lt
  have hn:=g3.next
  have g:∀j,N≤j→j≤N+6→j≠N+5→s'.heap.get j=s.heap.get j:=fun j r1 r2 r3=>g3.heap j (by omega) (by rw[H.tg j r1 r2 r3];exact tne (by decide))
  have ht:∀j,N≤j→j≤N+6→j≠N+5→ow' j=(p,21,0):=fun j r1 r2 r3=>by rw[g3.tags j (by omega) (by rw[H.tg j r1 r2 r3];exact tne (by decide))];exact H.tg j r1 r2 r3
  have b1:Al s' (N+1) lv':=l1.keep (g _ (by omega) (by omega) (by omega))
  obtain⟨s'',k1,k2,k3,k4⟩:=b1.store (d:=u) BU g2.isCell.1 g2.isCell.2
  have st:AK (· = (p,21,0)) ow' s' ow' s'':=⟨by omega,fun _ _ _=>rfl,fun y _ hm=>k4 y fun e=>hm (by rw[e];exact ht (N+1) (by omega) (by omega) (by omega))⟩
  have kk:∀j,N≤j→j≤N+6→j≠N+5→j≠N+1→s''.heap.get j=s.heap.get j:=fun j r1 r2 r3 r4=>(k4 j r4).trans (g j r1 r2 r3)
  refine⟨u,s',s'',ow',g1,k1,{ sat:=(H.sat.keep16 g3 (fun y i hy e=>by injection e with _ e;injection e with e _;omega)).keep16 st (fun y i hy e=>by injection e with _ e;injection e with e _;omega),hl:=H.hl,sb:=H.sb.keep (kk _ (by omega) (by omega) (by omega) (by omega)),lb:=⟨u,k2,?_⟩,vb:=H.vb.keep (kk _ (by omega) (by omega) (by omega) (by omega)),mo:=H.mo.keep (kk _ (by omega) (by omega) (by omega) (by omega)),mb:=H.mb.keep (kk _ (by omega) (by omega) (by omega) (by omega)),ob:=H.ob.keep (kk _ (by omega) (by omega) (by omega) (by omega)),tg:=ht,lt:=by omega },(g3.mono fun t ht=>.inr (.inl ht)).trans (st.mono fun t ht=>.inr (.inr ht))⟩
  have e:ivs (a.hd::(a.lits++[q]))=ivs (a.hd::a.lits)++[iv q]:=by simp
  show Buf ow' (p,20,0) s'' u (ivs (a.hd::(a.lits++[q])))
  rw[e]
  exact g2.step st (tne (by decide))
abbrev lvs (p N:Nat) (x1 x7 x8 x9 x10 x11 x12 x13 x14 x15 x16 x17 x18 x19 x20:AV):List AV:=[.ptr (some (p,0)),x1,.ptr (some (N,0)),.ptr (some (N+1,0)),.ptr (some (N+2,0)),.ptr (some (N+4,0)),.ptr (some (N+6,0)),x7,x8,x9,x10,x11,x12,x13,x14,x15,x16,x17,x18,x19,x20]
def EV (p N:Nat) (x1 x7 x8 x9 x10 x11 x12 x13 x14 x15 x16 x17 x18 x19 x20:AV) (d:Nat):FE:=G9 67 (lvs p N x1 x7 x8 x9 x10 x11 x12 x13 x14 x15 x16 x17 x18 x19 x20) #[26] a67 b67 d
section
variable{E:Env}{K:List AV→ASt→Prop}{ow:Ow}{s:ASt}{p:Nat}{x:Sf}{v:Sv}{N:Nat}{h:List Int}{a:Lst}
theorem L_o8(H:LAt ow s p x v N h a)(k:Nat){x1 x7 x8 x9 x11 x12 x13 x14 x15 x16 x17 x18 x19 x20:AV}(hK:K (lvs p N x1 x7 x8 x9 (iv (k:Int)) (.bool (decide (k∈a.seen))) x12 x13 x14 x15 x16 x17 x18 x19 x20) (AH s (AP 119 0 []))):
    Qb E YO K [] (lvs p N x1 x7 x8 x9 (iv (k:Int)) x11 x12 x13 x14 x15 x16 x17 x18 x19 x20) s:=by
  have hptr:∀i,Bv.val i .ptr=.ptr (some (i,0)):=fun _=>rfl
  simp only[YO,lvs,H.mb.load OT,Gj H.mo k,Vn,hptr,on2,aU,AT,Qa,Qb,Qc,Qd,Qe,Qf,Qg,Qh,Qi,Qj,Qk,Ql,Qm,Qn,true_and,and_true,Qo,Qp,Qq,Qr,Qs,Qt,Qu,Qv,Qw,Qx,Qy,Qz,Ra,Rb,Rc,Rd,Re,Rf,Rg,Rh,Ri,Rj,Rk,Rl,Rm,Ya,Yb,Yc,Rn,Ro,Rp,Yd,Ye,Rq,Rs,Rt,Ru,Rv,Rw,Rx]
  exact hK
theorem L_o9(H:LAt ow s p x v N h a){k:Nat}(hk:k<v.level.length)(b:Bool){x1 x7 x8 x9 x12 x13 x14 x15 x16 x17 x18 x19 x20:AV}(hK:K (lvs p N x1 x7 x8 x9 (iv (k:Int)) (.bool b) x12 x13 x14 x15 (.bool (b || decide (v.level.getD k 0=0))) x17 x18 x19 x20) s):
    Qb E Tb K [] (lvs p N x1 x7 x8 x9 (iv (k:Int)) (.bool b) x12 x13 x14 x15 x16 x17 x18 x19 x20) s:=by
  have hl:Buf ow (p,5,0) s x.lev (ivs v.level):=H.sat.level
  have hg:=AS (d:=(0:Int)) hk
  have i1:=hl.addr Try.underlying23 sz3 (k:=k) (by rw[oF];exact hk)
  have i2:=hl.get (t:=3) ag3 (k:=k) (A2 hg)
  have l1:=H.sb.load FS
  simp only[AR]at l1
  cases b with
  | true =>
    simp only[Tb,lvs,Qa,Qb,Qc,Qd,Qe,Qf,Qg,Qh,Qi,Qj,Qk,Ql,Qm,Qn,true_and,and_true,Qo,Qp,Qq,Qr,Qs,Qt,Qu,Qv,Qw,Qx,Qy,Qz,Ra,Rb,Rc,Rd,Re,Rf,Rg,Rh,Ri,Rj,Rk,Rl,Rm,Ya,Yb,Yc,Rn,Ro,Rp,Yd,Ye,Rq,Rs,Rt,Ru,Rv,Rw,Rx]
    exact hK
  | false =>
    simp only[Tb,lvs,l1,AG,JF,H.sat.ld_lev,i1,i2,Qa,Qb,Qc,Qd,Qe,Qf,Qg,Qh,Qi,Qj,Qk,Ql,Qm,Qn,true_and,and_true,Qo,Qp,Qq,Qr,Qs,Qt,Qu,Qv,Qw,Qx,Qy,Qz,Ra,Rb,Rc,Rd,Re,Rf,Rg,Rh,Ri,Rj,Rk,Rl,Rm,Ya,Yb,Yc,Rn,Ro,Rp,Yd,Ye,Rq,Rs,Rt,Ru,Rv,Rw,Rx]
    simpa using hK
theorem ll(H:LAt ow s p x v N h a){k:Nat}(hk:k ∉ a.seen){x1 x7 x8 x9 x11 x12 x13 x14 x15 x16 x17 x18 x19 x20:AV}(hK:∀s',LAt ow s' p x v N h { a with seen:=a.seen++[k] }→AK (Ea p) ow s ow s'→s'.next=s.next→K (lvs p N x1 x7 x8 x9 (iv (k:Int)) x11 x12 x13 x14 x15 x16 x17 x18 x19 x20) s'):
    Qb E RL K [] (lvs p N x1 x7 x8 x9 (iv (k:Int)) x11 x12 x13 x14 x15 x16 x17 x18 x19 x20) s:=by
  obtain⟨s',g1,g2,g3,g4⟩:=H.addSeen hk
  simp only[RL,lvs,H.mb.load OT,jG,on3,g1,AT,Qa,Qb,Qc,Qd,Qe,Qf,Qg,Qh,Qi,Qj,Qk,Ql,Qm,Qn,true_and,and_true,Qo,Qp,Qq,Qr,Qs,Qt,Qu,Qv,Qw,Qx,Qy,Qz,Ra,Rb,Rc,Rd,Re,Rf,Rg,Rh,Ri,Rj,Rk,Rl,Rm,Ya,Yb,Yc,Rn,Ro,Rp,Yd,Ye,Rq,Rs,Rt,Ru,Rv,Rw,Rx]
  exact hK s' g2 g3 g4
theorem lm(H:LAt ow s p x v N h a){k:Nat}(hk:k<h.length){x1 x7 x8 x9 x11 x12 x13 x14 x15 x16 x17 x18 x19 x20:AV}(hK:∀s' h',LAt ow s' p x v N h' a→AK (Ea p) ow s ow s'→s'.next=s.next→K (lvs p N x1 x7 x8 x9 (iv (k:Int)) x11 x12 x13 x14 x15 x16 x17 x18 x19 x20) s'):
    Qb E RM K [] (lvs p N x1 x7 x8 x9 (iv (k:Int)) x11 x12 x13 x14 x15 x16 x17 x18 x19 x20) s:=by
  have hl:Buf ow (p,7,0) s x.heat (ivs h):=H.sat.heat
  have hg:=AS (d:=(0:Int)) hk
  have i1:=hl.addr Try.underlying23 sz3 (k:=k) (by rw[oF];exact hk)
  have i2:=hl.get (t:=3) ag3 (k:=k) (A2 hg)
  have l1:=H.sb.load FS
  simp only[AR]at l1
  obtain⟨s',g1,g2,g3,g4⟩:=H.heat hk (Du .i64 (h.getD k 0+1))
  simp only[RM,lvs,l1,AG,LA,H.sat.ld_heat,i1,i2,OX,on2,g1,AT,Qa,Qb,Qc,Qd,Qe,Qf,Qg,Qh,Qi,Qj,Qk,Ql,Qm,Qn,true_and,and_true,Qo,Qp,Qq,Qr,Qs,Qt,Qu,Qv,Qw,Qx,Qy,Qz,Ra,Rb,Rc,Rd,Re,Rf,Rg,Rh,Ri,Rj,Rk,Rl,Rm,Ya,Yb,Yc,Rn,Ro,Rp,Yd,Ye,Rq,Rs,Rt,Ru,Rv,Rw,Rx]
  exact hK s' _ g2 g3 g4
theorem lp(H:LAt ow s p x v N h a){k:Nat}(hk:k<v.level.length){x1 x7 x8 x9 x11 x12 x13 x14 x15 x16 x17 x18 x19 x20:AV}(hK:K (lvs p N x1 x7 x8 x9 (iv (k:Int)) x11 x12 x13 x14 x15 x16 (.bool (decide (v.level.getD k 0=(v.limits.length:Int)))) x18 x19 x20) s):
    Qb E RN K [] (lvs p N x1 x7 x8 x9 (iv (k:Int)) x11 x12 x13 x14 x15 x16 x17 x18 x19 x20) s:=by
  have hl:Buf ow (p,5,0) s x.lev (ivs v.level):=H.sat.level
  have hm:Buf ow (p,10,0) s x.lim (ivs v.limits):=H.sat.limits
  have ln:∀s,Ao Try.prog s 23 x.lim=some (iv (v.limits.length:Int)):=fun s=>by
    have:=hm.len Try.underlying23 s
    rw[oF]at this
    exact this
  have hg:=AS (d:=(0:Int)) hk
  have i1:=hl.addr Try.underlying23 sz3 (k:=k) (by rw[oF];exact hk)
  have i2:=hl.get (t:=3) ag3 (k:=k) (A2 hg)
  have l1:=H.sb.load FS
  simp only[AR]at l1
  simp only[RN,lvs,l1,AG,JF,Hj,H.sat.ld_lev,H.sat.ld_lim,ln,i1,i2,Qa,Qb,Qc,Qd,Qe,Qf,Qg,Qh,Qi,Qj,Qk,Ql,Qm,Qn,true_and,and_true,Qo,Qp,Qq,Qr,Qs,Qt,Qu,Qv,Qw,Qx,Qy,Qz,Ra,Rb,Rc,Rd,Re,Rf,Rg,Rh,Ri,Rj,Rk,Rl,Rm,Ya,Yb,Yc,Rn,Ro,Rp,Yd,Ye,Rq,Rs,Rt,Ru,Rv,Rw,Rx]
  exact hK
theorem lq(H:LAt ow s p x v N h a)(ho:0≤a.opn∧a.opn<1000000000){x1 x7 x8 x9 x10 x11 x12 x13 x14 x15 x16 x17 x18 x19 x20:AV}(hK:∀s',LAt ow s' p x v N h { a with opn:=a.opn+1 }→AK (Ea p) ow s ow s'→s'.next=s.next→K (lvs p N x1 x7 x8 x9 x10 x11 x12 x13 x14 x15 x16 x17 x18 x19 x20) s'):
    Qb E RO K [] (lvs p N x1 x7 x8 x9 x10 x11 x12 x13 x14 x15 x16 x17 x18 x19 x20) s:=by
  obtain⟨s',g1,g2,g3,g4⟩:=H.setOpn (a.opn+1)
  have e3:=Aq Try.prog 3 a.opn 1 ⟨by omega,by omega⟩
  simp only[RO,lvs,H.ob.load ag3,e3,on2,g1,AT,Qa,Qb,Qc,Qd,Qe,Qf,Qg,Qh,Qi,Qj,Qk,Ql,Qm,Qn,true_and,and_true,Qo,Qp,Qq,Qr,Qs,Qt,Qu,Qv,Qw,Qx,Qy,Qz,Ra,Rb,Rc,Rd,Re,Rf,Rg,Rh,Ri,Rj,Rk,Rl,Rm,Ya,Yb,Yc,Rn,Ro,Rp,Yd,Ye,Rq,Rs,Rt,Ru,Rv,Rw,Rx]
  exact hK s' g2 g3 g4
theorem lr(H:LAt ow s p x v N h a)(hle:a.lits.length≤1000000){q:Int}{x1 x7 x8 x10 x11 x12 x13 x14 x15 x16 x17 x18 x19 x20:AV}(hK:∀s' ow',LAt ow' s' p x v N h { a with lits:=a.lits++[q] }→AK (Ea p) ow s ow' s'→K (lvs p N x1 x7 x8 (iv q) x10 x11 x12 x13 x14 x15 x16 x17 x18 x19 x20) s'):
    Qb E RP K [] (lvs p N x1 x7 x8 (iv q) x10 x11 x12 x13 x14 x15 x16 x17 x18 x19 x20) s:=by
  obtain⟨lv,l1,l2⟩:=H.lb
  have hms:∀ (m:Nat) (i:Nat),Bv.val i (.slice m)=.slice (some (i,0)) m (some m):=fun _ _=>rfl
  have bl:=Cd (P:=Try.prog) (t:=23) (v:=iv q) Try.underlying23 sz3 zr3 rfl rfl
  have hst:AK (fun _=>False) ow s (ext ow s.next (0,0,0)) (AH s (AP 3 1 [iv q])):=AK.new _ ow s _ _
  have H1:=H.keep hst (fun _ _ _ q=>q) (fun q=>q) (fun q=>q)
  have l1':Al (AH s (AP 3 1 [iv q])) (N+1) lv:=l1.keep (hst.heap _ (by have:=H.lt;omega) (fun q=>q))
  obtain⟨u,s1,s2,ow',f1,f2,f3,f4⟩:=H1.push hle l1' (q:=q) (i:=s.next) (ty:=3) (sz':=1) (by rw[AO,if_pos rfl])
  simp only[RP,lvs,l1.load C1,bl,hms,f1,on2,f2,AT,Qa,Qb,Qc,Qd,Qe,Qf,Qg,Qh,Qi,Qj,Qk,Ql,Qm,Qn,true_and,and_true,Qo,Qp,Qq,Qr,Qs,Qt,Qu,Qv,Qw,Qx,Qy,Qz,Ra,Rb,Rc,Rd,Re,Rf,Rg,Rh,Ri,Rj,Rk,Rl,Rm,Ya,Yb,Yc,Rn,Ro,Rp,Yd,Ye,Rq,Rs,Rt,Ru,Rv,Rw,Rx]
  exact hK s2 ow' f3 ((hst.mono fun _ q=>q.elim).trans f4)
theorem lw(H:LAt ow s p x v N h a){k:Nat}(hk:k<v.level.length){x1 x7 x8 x9 x11 x12 x13 x14 x15 x16 x17 x18 x19 x20:AV}(hK:∀s',LAt ow s' p x v N h { a with lev:=max a.lev (v.level.getD k 0) }→AK (Ea p) ow s ow s'→s'.next=s.next→K (lvs p N x1 x7 x8 x9 (iv (k:Int)) x11 x12 x13 x14 x15 x16 x17 x18 x19 x20) s'):
    Qb E RQ K [] (lvs p N x1 x7 x8 x9 (iv (k:Int)) x11 x12 x13 x14 x15 x16 x17 x18 x19 x20) s:=by
  have hl:Buf ow (p,5,0) s x.lev (ivs v.level):=H.sat.level
  have hg:=AS (d:=(0:Int)) hk
  have i1:=hl.addr Try.underlying23 sz3 (k:=k) (by rw[oF];exact hk)
  have i2:=hl.get (t:=3) ag3 (k:=k) (A2 hg)
  have l1:=H.sb.load FS
  simp only[AR]at l1
  obtain⟨s',g1,g2,g3,g4⟩:=H.setLev (max a.lev (v.level.getD k 0))
  simp only[RQ,lvs,H.vb.load ag3,l1,AG,JF,H.sat.ld_lev,i1,i2,Zn,on2,g1,AT,Qa,Qb,Qc,Qd,Qe,Qf,Qg,Qh,Qi,Qj,Qk,Ql,Qm,Qn,true_and,and_true,Qo,Qp,Qq,Qr,Qs,Qt,Qu,Qv,Qw,Qx,Qy,Qz,Ra,Rb,Rc,Rd,Re,Rf,Rg,Rh,Ri,Rj,Rk,Rl,Rm,Ya,Yb,Yc,Rn,Ro,Rp,Yd,Ye,Rq,Rs,Rt,Ru,Rv,Rw,Rx]
  exact hK s' g2 g3 g4
end
theorem PK          {E : Env} (hE : An   E) {ow : Ow} {s : ASt} {p : Nat} {x : Sf} {v : Sv} {N : Nat} {h : List Int} {a : Lst} (H : LAt ow s p x v N h a) {n : Nat} (hn : n ≤ 1000000) (hlev : v.level.length = n + 1) (hheat : v.heat.length = n + 1) (hI : GJ   n a) {q : Int} (hq : VL n q) {l d : Nat} {x1 x7 x8 x9 x10 x11 x12 x13 x14 x15 x16 x17 x18 x19 x20 : AV}
    (hlp:A3 s l=some (EV p N x1 x7 x8 x9 x10 x11 x12 x13 x14 x15 x16 x17 x18 x19 x20 d)) (htl:ow l=(p,23,0)) (hll:l<s.next) {K:AV→ASt→Prop}
    (hK:∀s' ow' h',LAt ow' s' p x v N h' (BL v a q)→A3 s' l=some (EV p N x1 x7 x8 x9 x10 x11 x12 x13 x14 x15 x16 x17 x18 x19 x20 d)→AK (GG p) ow s ow' s'→ow' l=(p,23,0)→K (.bool true) s'):
    WR E l [iv q] K s:=by
  have hz:DA (DV E.P 67) (lvs p N x1 x7 x8 x9 x10 x11 x12 x13 x14 x15 x16 x17 x18 x19 x20) [26] [iv q]=some (lvs p N x1 x7 x8 x9 x10 x11 x12 x13 x14 (iv q) x16 x17 x18 x19 x20):=by
    rw[hE.P,lZ];rfl
  refine WR.round hlp hz (by rw[hE.P];exact ca67) (by rw[hE.P];exact cb67) ?_
  refine EE ?_
  simp only[nQ,gP,lvs,Qa,Qb,Qc,Qd,Qe,Qf,Qg,Qh,Qi,Qj,Qk,Ql,Qm,Qn,true_and,and_true,Qo,Qp,Qq,Qr,Qs,Qt,Qu,Qv,Qw,Qx,Qy,Qz,Ra,Rb,Rc,Rd,Re,Rf,Rg,Rh,Ri,Rj,Rk,Rl,Rm,Ya,Yb,Yc,Rn,Ro,Rp,Yd,Ye,Rq,Rs,Rt,Ru,Rv,Rw,Rx]
  refine⟨_,hlp,rfl,EE ?_⟩
  generalize hs1:setObj s l _=s1
  have n1:s1.next=s.next:=by rw[← hs1];rfl
  have l1:A3 s1 l=some { EV p N x1 x7 x8 x9 x10 x11 x12 x13 x14 x15 x16 x17 x18 x19 x20 d with state:=.busy }:=by rw[← hs1,B7]
  have st1:AK (· = (p,23,0)) ow s ow s1:=⟨by omega,fun _ _ _=>rfl,fun y _ hm=>by rw[← hs1,Ai,if_neg (fun e=>hm (by rw[e];exact htl))]⟩
  have H1:LAt ow s1 p x v N h a:=H.keep st1 (fun y i hy e=>by injection e with _ e;injection e with e _;omega) (tne (by decide)) (tne (by decide))
  have fin:∀ (s2:ASt) (ow2:Ow) (h2:List Int),LAt ow2 s2 p x v N h2 (BL v a q)→AK (Ea p) ow s1 ow2 s2→∃r'',A3 s2 l=some r''∧K (.bool true) (setObj s2 l (.loop { r'' with state:=.ready,pending:=none })):=by
    intro s2 ow2 h2 H2 st2
    have hnm:¬ Ea p (p,23,0):=fun e=>by rcases e with e | e | e<;>exact absurd e (tne (by decide))
    have l2:A3 s2 l=some { EV p N x1 x7 x8 x9 x10 x11 x12 x13 x14 x15 x16 x17 x18 x19 x20 d with state:=.busy }:=by
      rw[Dc (st2.heap l (by omega) (by rw[htl];exact hnm))];exact l1
    have t2:ow2 l=(p,23,0):=by rw[st2.tags l (by omega) (by rw[htl];exact hnm)];exact htl
    have hn2:=st2.next
    refine⟨_,l2,?_⟩
    have st3:AK (· = (p,23,0)) ow2 s2 ow2 (setObj s2 l (.loop (EV p N x1 x7 x8 x9 x10 x11 x12 x13 x14 x15 x16 x17 x18 x19 x20 d))):=⟨oD _,fun _ _ _=>rfl,fun y _ hm=>by rw[Ai,if_neg (fun e=>hm (by rw[e];exact t2))]⟩
    refine hK _ ow2 h2 (H2.keep st3 (fun y i hy e=>by injection e with _ e;injection e with e _;omega) (tne (by decide)) (tne (by decide))) (B7 _ _ _) ?_ t2
    exact((st1.mono fun t ht=>.inr ht).trans (st2.mono fun t ht=>.inl ht)).trans (st3.mono fun t ht=>.inr ht)
  have hq2:=hq.2
  have hsm:=hI.small
  simp only[nR,gQ,Qa,Qb,Qc,Qd,Qe,Qf,Qg,Qh,Qi,Qj,Qk,Ql,Qm,Qn,true_and,and_true,Qo,Qp,Qq,Qr,Qs,Qt,Qu,Qv,Qw,Qx,Qy,Qz,Ra,Rb,Rc,Rd,Re,Rf,Rg,Rh,Ri,Rj,Rk,Rl,Rm,Ya,Yb,Yc,Rn,Ro,Rp,Yd,Ye,Rq,Rs,Rt,Ru,Rv,Rw,Rx]
  refine(Dg hE (l:=q) ⟨by omega,by omega⟩).mono ?_
  rintro _ _ ⟨rfl,rfl⟩
  simp only[Qa,Qb,Qc,Qd,Qe,Qf,Qg,Qh,Qi,Qj,Qk,Ql,Qm,Qn,true_and,and_true,Qo,Qp,Qq,Qr,Qs,Qt,Qu,Qv,Qw,Qx,Qy,Qz,Ra,Rb,Rc,Rd,Re,Rf,Rg,Rh,Ri,Rj,Rk,Rl,Rm,Ya,Yb,Yc,Rn,Ro,Rp,Yd,Ye,Rq,Rs,Rt,Ru,Rv,Rw,Rx]
  refine L_o8 H1 q.natAbs ?_
  have st8:AK (fun _=>False) ow s1 (ext ow s1.next (0,0,0)) (AH s1 (AP 119 0 [])):=AK.new _ ow s1 _ _
  have H8:=H1.keep st8 (fun _ _ _ q=>q) (fun q=>q) (fun q=>q)
  generalize AH s1 (AP 119 0 [])=s8 at *
  generalize ext ow s1.next (0,0,0)=ow8 at *
  have hst8:AK (Ea p) ow s1 ow8 s8:=st8.mono fun _ q=>q.elim
  try simp only[Qa,Qb,Qc,Qd,Qe,Qf,Qg,Qh,Qi,Qj,Qk,Ql,Qm,Qn,true_and,and_true,Qo,Qp,Qq,Qr,Qs,Qt,Qu,Qv,Qw,Qx,Qy,Qz,Ra,Rb,Rc,Rd,Re,Rf,Rg,Rh,Ri,Rj,Rk,Rl,Rm,Ya,Yb,Yc,Rn,Ro,Rp,Yd,Ye,Rq,Rs,Rt,Ru,Rv,Rw,Rx]
  refine L_o9 H8 (k:=q.natAbs) (by omega) _ ?_
  by_cases hin:q.natAbs∈a.seen
  · have e:BL v a q=a:=by unfold BL;rw[if_pos (.inl hin)]
    rw[e]at fin
    simp only[hin,decide_true,Bool.true_or,if_true,Qa,Qb,Qc,Qd,Qe,Qf,Qg,Qh,Qi,Qj,Qk,Ql,Qm,Qn,true_and,and_true,Qo,Qp,Qq,Qr,Qs,Qt,Qu,Qv,Qw,Qx,Qy,Qz,Ra,Rb,Rc,Rd,Re,Rf,Rg,Rh,Ri,Rj,Rk,Rl,Rm,Ya,Yb,Yc,Rn,Ro,Rp,Yd,Ye,Rq,Rs,Rt,Ru,Rv,Rw,Rx]
    exact fin s8 ow8 h H8 hst8
  · by_cases h0 : v.level.getD q.natAbs 0 = 0
    · have e:BL v a q=a:=by unfold BL;rw[if_pos (.inr h0)]
      rw[e]at fin
      simp only[hin,h0,decide_false,decide_true,Bool.or_true,if_true,Qa,Qb,Qc,Qd,Qe,Qf,Qg,Qh,Qi,Qj,Qk,Ql,Qm,Qn,true_and,and_true,Qo,Qp,Qq,Qr,Qs,Qt,Qu,Qv,Qw,Qx,Qy,Qz,Ra,Rb,Rc,Rd,Re,Rf,Rg,Rh,Ri,Rj,Rk,Rl,Rm,Ya,Yb,Yc,Rn,Ro,Rp,Yd,Ye,Rq,Rs,Rt,Ru,Rv,Rw,Rx]
      exact fin s8 ow8 h H8 hst8
    · simp only[hin,h0,decide_false,Bool.or_self,Qa,Qb,Qc,Qd,Qe,Qf,Qg,Qh,Qi,Qj,Qk,Ql,Qm,Qn,true_and,and_true,Qo,Qp,Qq,Qr,Qs,Qt,Qu,Qv,Qw,Qx,Qy,Qz,Ra,Rb,Rc,Rd,Re,Rf,Rg,Rh,Ri,Rj,Rk,Rl,Rm,Ya,Yb,Yc,Rn,Ro,Rp,Yd,Ye,Rq,Rs,Rt,Ru,Rv,Rw,Rx]
      refine ll H8 hin ?_
      intro s10 H10 st10 n10
      try simp only[Qa,Qb,Qc,Qd,Qe,Qf,Qg,Qh,Qi,Qj,Qk,Ql,Qm,Qn,true_and,and_true,Qo,Qp,Qq,Qr,Qs,Qt,Qu,Qv,Qw,Qx,Qy,Qz,Ra,Rb,Rc,Rd,Re,Rf,Rg,Rh,Ri,Rj,Rk,Rl,Rm,Ya,Yb,Yc,Rn,Ro,Rp,Yd,Ye,Rq,Rs,Rt,Ru,Rv,Rw,Rx]
      refine lm H10 (k:=q.natAbs) (by have:=H10.hl;omega) ?_
      intro s11 h11 H11 st11 n11
      try simp only[Qa,Qb,Qc,Qd,Qe,Qf,Qg,Qh,Qi,Qj,Qk,Ql,Qm,Qn,true_and,and_true,Qo,Qp,Qq,Qr,Qs,Qt,Qu,Qv,Qw,Qx,Qy,Qz,Ra,Rb,Rc,Rd,Re,Rf,Rg,Rh,Ri,Rj,Rk,Rl,Rm,Ya,Yb,Yc,Rn,Ro,Rp,Yd,Ye,Rq,Rs,Rt,Ru,Rv,Rw,Rx]
      refine lp H11 (k:=q.natAbs) (by omega) ?_
      have hst11:=(hst8.trans st10).trans st11
      by_cases hL:v.level.getD q.natAbs 0=(v.limits.length:Int)
      · have e:BL v a q={ a with seen:=a.seen++[q.natAbs],opn:=a.opn+1 }:=by unfold BL;rw[if_neg (by rintro(e | e);exact hin e;exact h0 e),if_pos hL]
        simp only[hL,decide_true,Qa,Qb,Qc,Qd,Qe,Qf,Qg,Qh,Qi,Qj,Qk,Ql,Qm,Qn,true_and,and_true,Qo,Qp,Qq,Qr,Qs,Qt,Qu,Qv,Qw,Qx,Qy,Qz,Ra,Rb,Rc,Rd,Re,Rf,Rg,Rh,Ri,Rj,Rk,Rl,Rm,Ya,Yb,Yc,Rn,Ro,Rp,Yd,Ye,Rq,Rs,Rt,Ru,Rv,Rw,Rx]
        refine lq H11 (by have:=hI.opn;show 0≤a.opn∧a.opn<_;omega) ?_
        intro s13 H13 st13 n13
        try simp only[Qa,Qb,Qc,Qd,Qe,Qf,Qg,Qh,Qi,Qj,Qk,Ql,Qm,Qn,true_and,and_true,Qo,Qp,Qq,Qr,Qs,Qt,Qu,Qv,Qw,Qx,Qy,Qz,Ra,Rb,Rc,Rd,Re,Rf,Rg,Rh,Ri,Rj,Rk,Rl,Rm,Ya,Yb,Yc,Rn,Ro,Rp,Yd,Ye,Rq,Rs,Rt,Ru,Rv,Rw,Rx]
        rw[e]at fin
        exact fin s13 ow8 h11 H13 (hst11.trans st13)
      · have e:BL v a q={ a with seen:=a.seen++[q.natAbs],lits:=a.lits++[q],lev:=max a.lev (v.level.getD q.natAbs 0) }:=by unfold BL;rw[if_neg (by rintro(e | e);exact hin e;exact h0 e),if_neg hL]
        simp only[hL,decide_false,Qa,Qb,Qc,Qd,Qe,Qf,Qg,Qh,Qi,Qj,Qk,Ql,Qm,Qn,true_and,and_true,Qo,Qp,Qq,Qr,Qs,Qt,Qu,Qv,Qw,Qx,Qy,Qz,Ra,Rb,Rc,Rd,Re,Rf,Rg,Rh,Ri,Rj,Rk,Rl,Rm,Ya,Yb,Yc,Rn,Ro,Rp,Yd,Ye,Rq,Rs,Rt,Ru,Rv,Rw,Rx]
        refine lr H11 (by have:=hI.len;show a.lits.length≤_;omega) ?_
        intro s14 ow14 H14 st14
        try simp only[Qa,Qb,Qc,Qd,Qe,Qf,Qg,Qh,Qi,Qj,Qk,Ql,Qm,Qn,true_and,and_true,Qo,Qp,Qq,Qr,Qs,Qt,Qu,Qv,Qw,Qx,Qy,Qz,Ra,Rb,Rc,Rd,Re,Rf,Rg,Rh,Ri,Rj,Rk,Rl,Rm,Ya,Yb,Yc,Rn,Ro,Rp,Yd,Ye,Rq,Rs,Rt,Ru,Rv,Rw,Rx]
        refine lw H14 (k:=q.natAbs) (by omega) ?_
        intro s15 H15 st15 n15
        try simp only[Qa,Qb,Qc,Qd,Qe,Qf,Qg,Qh,Qi,Qj,Qk,Ql,Qm,Qn,true_and,and_true,Qo,Qp,Qq,Qr,Qs,Qt,Qu,Qv,Qw,Qx,Qy,Qz,Ra,Rb,Rc,Rd,Re,Rf,Rg,Rh,Ri,Rj,Rk,Rl,Rm,Ya,Yb,Yc,Rn,Ro,Rp,Yd,Ye,Rq,Rs,Rt,Ru,Rv,Rw,Rx]
        rw[e]at fin
        exact fin s15 ow14 h11 H15 ((hst11.trans st14).trans st15)
def BK(f:Int→Bool):List Int→Nat→Option Nat
  | [],_=>none
  | x::l,k=>if f x=true then some k else BK f l (k+1)
def JI:Option Nat→AV
  | none=>iv (-1)
  | some k=>iv (k:Int)
theorem O9{E:Env}(hE:An E){s:ASt}{b:Nat}{L:List Int}{f:Int→Bool}{g:FuncId}{cp:List AV}(hg:∀q∈L,WF E g (iv q::cp) (fun r s'=>r=.bool (f q)∧s=s') s)(hlen:L.length<9223372036854775808){a:Option (Nat×Nat)}{cap:Option Nat}(hc:A8 b s a (ivs L)){Q:A6→Prop}(x2:AV):
    ∀ (l : List Int) (k : Nat) (x3 x6 x7 : AV), L.drop k = l → k ≤ L.length →
      (BK f l k=none→∀ (y3 y5 y6 y7:AV),Q ⟨.exit 0,[.slice a L.length cap,.func g [] cp,x2,y3,iv (L.length:Int),y5,y6,y7],[],s⟩) →
      (∀i,BK f l k=some i→∀ (y3 y5 y6 y7:AV),Q ⟨.ret,[.slice a L.length cap,.func g [] cp,iv (i:Int),y3,iv (L.length:Int),y5,y6,y7],[],s⟩) →
      WC E none (.loop IC) Q [.slice a L.length cap,.func g [] cp,x2,x3,iv (L.length:Int),iv (k:Int),x6,x7] [] s:=by
  intro l
  induction l with
  | nil =>
    intro k x3 x6 x7 hd hk hq _
    have:=Ck hd hk
    subst this
    refine WC.loop' ?_
    simp only[IC,Ou,om,decide_false,Qa,Qb,Qc,Qd,Qe,Qf,Qg,Qh,Qi,Qj,Qk,Ql,Qm,Qn,true_and,and_true,Qo,Qp,Qq,Qr,Qs,Qt,Qu,Qv,Qw,Qx,Qy,Qz,Ra,Rb,Rc,Rd,Re,Rf,Rg,Rh,Ri,Rj,Rk,Rl,Rm,Ya,Yb,Yc,Rn,Ro,Rp,Yd,Ye,Rq,Rs,Rt,Ru,Rv,Rw,Rx]
    exact hq rfl _ _ _ _
  | cons x l ih =>
    intro k x3 x6 x7 hd hk hq hr
    obtain⟨hlt,hx,hd'⟩:=Bk hd
    obtain⟨i,o,rfl,hi,hload⟩:=hc k _ (A2 hx)
    have hxm:x∈L:=oG hx
    have e1:=Aw (cap:=cap) (i:=i) (o:=o) Try.underlying23 sz3 hlt
    have e2:AD Try.prog s 3 (.ptr (some (i,o+k * 1)))=some (iv x):=A7 ag3 (by rw[oV];exact hload)
    have hkk:decide ((k:Int)<(L.length:Int))=true:=decide_eq_true (by omega)
    have e3:=Aq Try.prog 3 (k:Int) 1 ⟨by omega,by omega⟩
    have e3':((k:Int)+1)=((k+1:Nat):Int):=by omega
    refine WC.loop' ?_
    generalize hW:WC E none (AX.loop IC) Q=WW
    simp only[IC,Ou,Y4,Y5,hkk,e1,e2,oz,pQ,pW,Qa,Qb,Qc,Qd,Qe,Qf,Qg,Qh,Qi,Qj,Qk,Ql,Qm,Qn,true_and,and_true,Qo,Qp,Qq,Qr,Qs,Qt,Qu,Qv,Qw,Qx,Qy,Qz,Ra,Rb,Rc,Rd,Re,Rf,Rg,Rh,Ri,Rj,Rk,Rl,Rm,Ya,Yb,Yc,Rn,Ro,Rp,Yd,Ye,Rq,Rs,Rt,Ru,Rv,Rw,Rx]
    refine(hg x hxm).mono ?_
    rintro _ _ ⟨rfl,rfl⟩
    cases hf:f x with
    | true =>
      have ef:BK f (x::l) k=some k:=by unfold BK;rw[if_pos hf]
      simp only[ic,Qa,Qb,Qc,Qd,Qe,Qf,Qg,Qh,Qi,Qj,Qk,Ql,Qm,Qn,true_and,and_true,Qo,Qp,Qq,Qr,Qs,Qt,Qu,Qv,Qw,Qx,Qy,Qz,Ra,Rb,Rc,Rd,Re,Rf,Rg,Rh,Ri,Rj,Rk,Rl,Rm,Ya,Yb,Yc,Rn,Ro,Rp,Yd,Ye,Rq,Rs,Rt,Ru,Rv,Rw,Rx]
      exact hr k ef _ _ _ _
    | false =>
      have ef:BK f (x::l) k=BK f l (k+1):=by rw[BK,if_neg (by rw[hf];decide)]
      simp only[Y6,e3,e3',Qa,Qb,Qc,Qd,Qe,Qf,Qg,Qh,Qi,Qj,Qk,Ql,Qm,Qn,true_and,and_true,Qo,Qp,Qq,Qr,Qs,Qt,Qu,Qv,Qw,Qx,Qy,Qz,Ra,Rb,Rc,Rd,Re,Rf,Rg,Rh,Ri,Rj,Rk,Rl,Rm,Ya,Yb,Yc,Rn,Ro,Rp,Yd,Ye,Rq,Rs,Rt,Ru,Rv,Rw,Rx]
      rw[← hW]
      rw[ef]at hq hr
      exact ih (k+1) _ _ _ hd' hlt hq hr
theorem Mi{E:Env}(hE:An E){s:ASt}{b:Nat}{L:List Int}{f:Int→Bool}{g:FuncId}{cp:List AV}(hg:∀q∈L,WF E g (iv q::cp) (fun r s'=>r=.bool (f q)∧s=s') s)(hlen:L.length<9223372036854775808){v:AV}(hv:AM b s v (ivs L)):
    WF E 94 [v,.func g [] cp] (fun r s'=>r=JI (BK f L 0)∧s=s') s:=by
  obtain⟨a,cap,rfl,hc⟩:=hv
  rw[Ce]
  refine hE.go ZG (by decide) rfl ?_
  simp only[c94,Y2,Y3,AZ Try.underlying23,Qa,Qb,Qc,Qd,Qe,Qf,Qg,Qh,Qi,Qj,Qk,Ql,Qm,Qn,true_and,and_true,Qo,Qp,Qq,Qr,Qs,Qt,Qu,Qv,Qw,Qx,Qy,Qz,Ra,Rb,Rc,Rd,Re,Rf,Rg,Rh,Ri,Rj,Rk,Rl,Rm,Ya,Yb,Yc,Rn,Ro,Rp,Yd,Ye,Rq,Rs,Rt,Ru,Rv,Rw,Rx]
  refine O9 hE hg hlen hc _ L 0 _ _ _ rfl (oK _) ?_ ?_
  · intro hn y3 y5 y6 y7
    rw[hn]
    simp only[Y7,if_true,JI,Qa,Qb,Qc,Qd,Qe,Qf,Qg,Qh,Qi,Qj,Qk,Ql,Qm,Qn,true_and,and_true,Qo,Qp,Qq,Qr,Qs,Qt,Qu,Qv,Qw,Qx,Qy,Qz,Ra,Rb,Rc,Rd,Re,Rf,Rg,Rh,Ri,Rj,Rk,Rl,Rm,Ya,Yb,Yc,Rn,Ro,Rp,Yd,Ye,Rq,Rs,Rt,Ru,Rv,Rw,Rx]
  · intro i hi y3 y5 y6 y7
    rw[hi]
    simp only[JI,Qa,Qb,Qc,Qd,Qe,Qf,Qg,Qh,Qi,Qj,Qk,Ql,Qm,Qn,true_and,and_true,Qo,Qp,Qq,Qr,Qs,Qt,Qu,Qv,Qw,Qx,Qy,Qz,Ra,Rb,Rc,Rd,Re,Rf,Rg,Rh,Ri,Rj,Rk,Rl,Rm,Ya,Yb,Yc,Rn,Ro,Rp,Yd,Ye,Rq,Rs,Rt,Ru,Rv,Rw,Rx]
theorem Vp{E:Env}(hE:An E){ow:Ow}{s:ASt}{p:Nat}{x:Sf}{v:Sv}{N:Nat}{h:List Int}{a:Lst}(H:LAt ow s p x v N h a){q:Int}(hq:q.natAbs<v.level.length)(hs:v.level.length<1000000000):
    WF E 95 [iv q,.ptr (some (N,0)),.ptr (some (N+2,0))] (fun r s'=>r=.bool (decide (v.level.getD q.natAbs 0=a.lev))∧s=s') s:=by
  have hl:Buf ow (p,5,0) s x.lev (ivs v.level):=H.sat.level
  have hg:=AS (d:=(0:Int)) hq
  have i1:=hl.addr Try.underlying23 sz3 (k:=q.natAbs) (by rw[oF];exact hq)
  have i2:=hl.get (t:=3) ag3 (k:=q.natAbs) (A2 hg)
  have l1:=H.sb.load FS
  simp only[AR]at l1
  have eqp:eqA (.ptr (some (p,0))) (.ptr (some (p,0)))=true:=by simp[eqA]
  refine hE.go lG (by decide) rfl ?_
  simp only[c95,ie,ig,l1,AG,JF,H.sat.ld_lev,H.vb.load ag3,Qa,Qb,Qc,Qd,Qe,Qf,Qg,Qh,Qi,Qj,Qk,Ql,Qm,Qn,true_and,and_true,Qo,Qp,Qq,Qr,Qs,Qt,Qu,Qv,Qw,Qx,Qy,Qz,Ra,Rb,Rc,Rd,Re,Rf,Rg,Rh,Ri,Rj,Rk,Rl,Rm,Ya,Yb,Yc,Rn,Ro,Rp,Yd,Ye,Rq,Rs,Rt,Ru,Rv,Rw,Rx]
  refine(Dg hE (l:=q) ⟨by omega,by omega⟩).mono ?_
  rintro _ _ ⟨rfl,rfl⟩
  simp only[BR,Az,l1,H.sat.ld_lev,H.vb.load ag3,hl.self,Nk,eqp,i1,i2,Qa,Qb,Qc,Qd,Qe,Qf,Qg,Qh,Qi,Qj,Qk,Ql,Qm,Qn,true_and,and_true,Qo,Qp,Qq,Qr,Qs,Qt,Qu,Qv,Qw,Qx,Qy,Qz,Ra,Rb,Rc,Rd,Re,Rf,Rg,Rh,Ri,Rj,Rk,Rl,Rm,Ya,Yb,Yc,Rn,Ro,Rp,Yd,Ye,Rq,Rs,Rt,Ru,Rv,Rw,Rx]
theorem U7{E:Env}(hE:An E){s:ASt}(c:Nat)(l:Int):WF E 93 [AR c,iv l] (fun r s'=>r=.func 111 [] [.ptr (some (s.next,0)),.ptr (some (s.next+1,0))]∧s'=AH (AH s (AP 92 0 [AR c])) (AP 3 0 [iv l])) s:=by
  have hptr:∀i,Bv.val i .ptr=.ptr (some (i,0)):=fun _=>rfl
  have hb1:CL 92 (AR c)=some (AP 92 0 [AR c],.ptr):=by simp[CL,AR,AV.cells]
  have hb2:CL 3 (iv l)=some (AP 3 0 [iv l],.ptr):=by simp[CL,AV.cells]
  refine hE.go lF (by decide) rfl ?_
  simp only[c93,ia,ib,hb1,hb2,hptr,pU,pP,Qa,Qb,Qc,Qd,Qe,Qf,Qg,Qh,Qi,Qj,Qk,Ql,Qm,Qn,true_and,and_true,Qo,Qp,Qq,Qr,Qs,Qt,Qu,Qv,Qw,Qx,Qy,Qz,Ra,Rb,Rc,Rd,Re,Rf,Rg,Rh,Ri,Rj,Rk,Rl,Rm,Ya,Yb,Yc,Rn,Ro,Rp,Yd,Ye,Rq,Rs,Rt,Ru,Rv,Rw,Rx]
  rfl
def rest(but:Int)(L:List Int):List Int:=L.filter fun q=>decide (q≠but)
theorem Pb          {E : Env} (hE : An   E) {ow0 : Ow} {s0 : ASt} {p : Nat} {x : Sf} {v : Sv} {N : Nat} {n : Nat} (hn : n ≤ 1000000) (hlev : v.level.length = n + 1) (hheat : v.heat.length = n + 1) {ls : List Int} (hls : BM    n ls) {c cb kb l d : Nat} {but : Int} {u : AV} {R : Lst}
    {x1 x7 x8 x9 x10 x11 x12 x13 x14 x15 x16 x17 x18 x19 x20:AV} {Q:A6→Prop}
    (hq:∀s' ow' h' y3 y7 y8,LAt ow' s' p x v N h' R→GJ n R→A3 s' l=some (EV p N x1 x7 x8 x9 x10 x11 x12 x13 x14 x15 x16 x17 x18 x19 x20 d)→AK (GG p) ow0 s0 ow' s'→ow' l=(p,23,0)→Q ⟨.exit 0,[.yield l,.ptr (some (cb,0)),.ptr (some (kb,0)),y3,u,iv (ls.length:Int),iv (ls.length:Int),y7,y8],[],s'⟩):
    ∀ (m k:Nat) (s:ASt) (ow:Ow) (h:List Int) (a:Lst) (x3 x7' x8':AV),ls.length - k=m→k≤ls.length→LAt ow s p x v N h a→GJ n a→Buf ow (p,15,c) s u (ivs ls)→Al s kb (iv but)→ow kb=(p,22,0)→kb<s.next→A3 s l=some (EV p N x1 x7 x8 x9 x10 x11 x12 x13 x14 x15 x16 x17 x18 x19 x20 d)→ow l=(p,23,0)→l<s.next→AK (GG p) ow0 s0 ow s→(rest but (ls.drop k)).foldl (BL v) a=R →
      WC E none (.loop Iz) Q [.yield l,.ptr (some (cb,0)),.ptr (some (kb,0)),x3,u,iv (ls.length:Int),iv (k:Int),x7',x8'] [] s:=by
  intro m
  induction m with
  | zero =>
    intro k s ow h a x3 x7' x8' hm hk H hI hu hkb htk hlk hlp htl hll hst hR
    have hk:k=ls.length:=by omega
    subst hk
    rw[List.drop_length]at hR
    have hR:a=R:=hR
    subst hR
    refine WC.loop' ?_
    simp only[Iz,NU,om,decide_false,Qa,Qb,Qc,Qd,Qe,Qf,Qg,Qh,Qi,Qj,Qk,Ql,Qm,Qn,true_and,and_true,Qo,Qp,Qq,Qr,Qs,Qt,Qu,Qv,Qw,Qx,Qy,Qz,Ra,Rb,Rc,Rd,Re,Rf,Rg,Rh,Ri,Rj,Rk,Rl,Rm,Ya,Yb,Yc,Rn,Ro,Rp,Yd,Ye,Rq,Rs,Rt,Ru,Rv,Rw,Rx]
    exact hq s ow h _ _ _ H hI hlp hst htl
  | succ m ih =>
    intro k s ow h a x3 x7' x8' hm hk H hI hu hkb htk hlk hlp htl hll hst hR
    have hlt:k<ls.length:=by omega
    have hls2:=hls.2
    have hV:=hls.get hlt
    have hg:=AS (d:=(0:Int)) hlt
    have i1:=hu.addr Try.underlying23 sz3 (k:=k) (by rw[oF];exact hlt)
    have i2:=hu.get (t:=3) ag3 (k:=k) (A2 hg)
    have hd:decide ((k:Int)<(ls.length:Int))=true:=decide_eq_true (by omega)
    have e3:=Aq Try.prog 3 (k:Int) 1 ⟨by omega,by omega⟩
    have e3':((k:Int)+1)=((k+1:Nat):Int):=by omega
    have hdr:ls.drop k=ls.getD k 0::ls.drop (k+1):=by
      rw[pz hlt]
      congr 1
      rw[oM hlt]at hg
      injection hg
    refine WC.loop' ?_
    generalize hW:WC E none (AX.loop Iz) Q=WW
    by_cases he:ls.getD k 0=but
    · have hne:decide (ls.getD k 0≠but)=false:=decide_eq_false (fun q=>q he)
      simp only[Iz,NU,hd,QN,i1,i2,QO,hkb.load ag3,hne,QP,e3,e3',Qa,Qb,Qc,Qd,Qe,Qf,Qg,Qh,Qi,Qj,Qk,Ql,Qm,Qn,true_and,and_true,Qo,Qp,Qq,Qr,Qs,Qt,Qu,Qv,Qw,Qx,Qy,Qz,Ra,Rb,Rc,Rd,Re,Rf,Rg,Rh,Ri,Rj,Rk,Rl,Rm,Ya,Yb,Yc,Rn,Ro,Rp,Yd,Ye,Rq,Rs,Rt,Ru,Rv,Rw,Rx]
      rw[← hW]
      refine ih (k+1) s ow h a _ _ _ (by omega) (by omega) H hI hu hkb htk hlk hlp htl hll hst ?_
      rw[hdr]at hR
      unfold rest at hR
      rw[pq (p:=fun q=>decide (q≠but)) (by rw[hne];decide)]at hR
      exact hR
    · have hne:decide (ls.getD k 0≠but)=true:=decide_eq_true he
      simp only[Iz,NU,hd,QN,i1,i2,QO,hkb.load ag3,hne,Qa,Qb,Qc,Qd,Qe,Qf,Qg,Qh,Qi,Qj,Qk,Ql,Qm,Qn,true_and,and_true,Qo,Qp,Qq,Qr,Qs,Qt,Qu,Qv,Qw,Qx,Qy,Qz,Ra,Rb,Rc,Rd,Re,Rf,Rg,Rh,Ri,Rj,Rk,Rl,Rm,Ya,Yb,Yc,Rn,Ro,Rp,Yd,Ye,Rq,Rs,Rt,Ru,Rv,Rw,Rx]
      refine PK hE H hn hlev hheat hI hV hlp htl hll ?_
      intro s' ow' h' H' hlp' st' hlo
      have hn':=st'.next
      have nm:∀y i,y≠7→y≠20→y≠21→y≠23→¬ GG p (p,y,i):=by
        rintro y i g1 g2 g3 g4 ((e | e | e) | e)
        · exact tne g1 e
        · exact tne g2 e
        · exact tne g3 e
        · exact tne g4 e
      simp only[QP,e3,e3',Qa,Qb,Qc,Qd,Qe,Qf,Qg,Qh,Qi,Qj,Qk,Ql,Qm,Qn,true_and,and_true,Qo,Qp,Qq,Qr,Qs,Qt,Qu,Qv,Qw,Qx,Qy,Qz,Ra,Rb,Rc,Rd,Re,Rf,Rg,Rh,Ri,Rj,Rk,Rl,Rm,Ya,Yb,Yc,Rn,Ro,Rp,Yd,Ye,Rq,Rs,Rt,Ru,Rv,Rw,Rx]
      rw[← hW]
      refine ih (k+1) s' ow' h' (BL v a (ls.getD k 0)) _ _ _ (by omega) (by omega) H' (hI.step v hV) (hu.step st' (nm _ _ (by decide) (by decide) (by decide) (by decide))) (hkb.keep (st'.heap kb hlk (by rw[htk];exact nm _ _ (by decide) (by decide) (by decide) (by decide)))) (by rw[st'.tags kb hlk (by rw[htk];exact nm _ _ (by decide) (by decide) (by decide) (by decide))];exact htk) (by omega) hlp' hlo (by omega) (hst.trans st') ?_
      rw[hdr]at hR
      unfold rest at hR
      rw[pc (p:=fun q=>decide (q≠but)) hne]at hR
      exact hR
theorem JL{p y i:Nat}(g1:y≠7)(g2:y≠20)(g3:y≠21)(g4:y≠23):¬ GG p (p,y,i):=by
  rintro((e | e | e) | e)
  · exact tne g1 e
  · exact tne g2 e
  · exact tne g3 e
  · exact tne g4 e
theorem Sl{E:Env}(hE:An E){ow:Ow}{s:ASt}{p:Nat}{x:Sf}{v:Sv}{N:Nat}{h:List Int}{a:Lst}(H:LAt ow s p x v N h a){n:Nat}(hn:n≤1000000)(hlev:v.level.length=n+1)(hheat:v.heat.length=n+1)(hI:GJ n a){c:Nat}{ls:List Int}{b:Bool×Bool}(hc:v.cl c=some (ls,b))(hls:BM n ls){cb kb l d:Nat}{but:Int}
    {x1 x7 x8 x9 x10 x11 x12 x13 x14 x15 x16 x17 x18 x19 x20:AV} (hcb:Al s cb (AR c)) (hkb:Al s kb (iv but)) (htk:ow kb=(p,22,0)) (hlk:kb<s.next) (hlp:A3 s l=some (EV p N x1 x7 x8 x9 x10 x11 x12 x13 x14 x15 x16 x17 x18 x19 x20 d)) (htl:ow l=(p,23,0)) (hll:l<s.next):
    WF E 111 [.yield l,.ptr (some (cb,0)),.ptr (some (kb,0))] (fun _ s'=>∃ow' h',LAt ow' s' p x v N h' ((rest but ls).foldl (BL v) a)∧GJ n ((rest but ls).foldl (BL v) a)∧A3 s' l=some (EV p N x1 x7 x8 x9 x10 x11 x12 x13 x14 x15 x16 x17 x18 x19 x20 d)∧AK (GG p) ow s ow' s'∧ow' l=(p,23,0)) s:=by
  obtain⟨u,hbox,ht1,hlc,hu⟩:=H.sat.cls c (ls,b) hc
  have lu:AD Try.prog s 23 (.ptr (some (c,0)))=some u:=hbox.load rfl C1
  have ln:∀s,Ao Try.prog s 23 u=some (iv (ls.length:Int)):=fun s=>by
    have:=hu.len Try.underlying23 s
    rw[oF]at this
    exact this
  have lc:=hcb.load jA
  simp only[AR]at lc
  refine hE.go cJ (by decide) rfl ?_
  simp only[mW,Wb,lc,AG,EC,lu,ln,Qa,Qb,Qc,Qd,Qe,Qf,Qg,Qh,Qi,Qj,Qk,Ql,Qm,Qn,true_and,and_true,Qo,Qp,Qq,Qr,Qs,Qt,Qu,Qv,Qw,Qx,Qy,Qz,Ra,Rb,Rc,Rd,Re,Rf,Rg,Rh,Ri,Rj,Rk,Rl,Rm,Ya,Yb,Yc,Rn,Ro,Rp,Yd,Ye,Rq,Rs,Rt,Ru,Rv,Rw,Rx]
  refine Pb hE hn hlev hheat hls (c:=c) (l:=l) (d:=d) (R:=(rest but ls).foldl (BL v) a) ?_ _ 0 s ow h a _ _ _ rfl (oK _) H hI hu hkb htk hlk hlp htl hll (AK.refl _ _ _) (by rw[pP])
  intro s' ow' h' y3 y7 y8 g1 g2 g3 g4 g5
  simp only[if_true,Qa,Qb,Qc,Qd,Qe,Qf,Qg,Qh,Qi,Qj,Qk,Ql,Qm,Qn,true_and,and_true,Qo,Qp,Qq,Qr,Qs,Qt,Qu,Qv,Qw,Qx,Qy,Qz,Ra,Rb,Rc,Rd,Re,Rf,Rg,Rh,Ri,Rj,Rk,Rl,Rm,Ya,Yb,Yc,Rn,Ro,Rp,Yd,Ye,Rq,Rs,Rt,Ru,Rv,Rw,Rx]
  exact⟨ow',h',g1,g2,g3,g4,g5⟩
def MJ(tr:List Int)(seen:List Nat):Nat→Option Nat
  | 0=>none
  | k+1=>if (tr.getD k 0).natAbs∈seen then some k else MJ tr seen k
theorem OE{tr:List Int}{seen:List Nat}:∀ {k i:Nat},MJ tr seen k=some i→i<k∧(tr.getD i 0).natAbs∈seen
  | 0,i,h=>by cases h
  | k+1,i,h=>by
    unfold MJ at h
    split at h
    · injection h with h
      subst h
      exact⟨pF _,by assumption⟩
    · obtain⟨h1,h2⟩:=OE h
      exact⟨by omega,h2⟩
theorem Pl{E:Env}(hE:An E){ow:Ow}{s:ASt}{p:Nat}{x:Sf}{v:Sv}{N:Nat}{h:List Int}{a:Lst}(H:LAt ow s p x v N h a){n:Nat}(hf:Fit n v){i:Nat}{M:List Nat}{Q:A6→Prop}{x1 x8 x9 x10 x11 x13 x14 x15 x16 x17 x19 x20:AV}
    (hq:∀y18,Q ⟨.exit 4,lvs p N x1 (iv (i:Int)) x8 x9 x10 x11 (.bool true) x13 x14 x15 x16 x17 y18 x19 x20,M,s⟩):
    ∀ (k:Nat) (x18:AV),k≤v.trail.length→MJ v.trail a.seen k=some i→WC E none (.loop I5) Q (lvs p N x1 (iv (k:Int)) x8 x9 x10 x11 (.bool false) x13 x14 x15 x16 x17 x18 x19 x20) M s:=by
  have htr:Buf ow (p,9,0) s x.tr (ivs v.trail):=H.sat.trail
  have l1:=H.sb.load FS
  simp only[AR]at l1
  intro k
  induction k with
  | zero=>intro x18 hk hs;cases hs
  | succ k ih =>
    intro x18 hk hs
    have hlt:k<v.trail.length:=hk
    have hg:=AS (d:=(0:Int)) hlt
    have hV:=hf.lits _ (oG hg)
    have hsz:=hf.siz.small
    have htl:=hf.siz.trail
    have i1:=htr.addr Try.underlying23 sz3 (k:=k) (by rw[oF];exact hlt)
    have i2:=htr.get (t:=3) ag3 (k:=k) (A2 hg)
    have e3:=CD Try.prog 3 ((k+1:Nat):Int) 1 ⟨by omega,by omega⟩
    have e3':((k+1:Nat):Int) - 1=(k:Int):=by omega
    have eqm:eqA (.map (some (N+3))) (.map (some (N+3)))=true:=by simp[eqA]
    refine WC.loop' ?_
    generalize hW:WC E none (AX.loop I5) Q=WW
    simp only[I5,RR,YM,YN,lvs,e3,e3',H.mb.load OT,l1,AG,E2,H.sat.ld_tr,i1,i2,Qa,Qb,Qc,Qd,Qe,Qf,Qg,Qh,Qi,Qj,Qk,Ql,Qm,Qn,true_and,and_true,Qo,Qp,Qq,Qr,Qs,Qt,Qu,Qv,Qw,Qx,Qy,Qz,Ra,Rb,Rc,Rd,Re,Rf,Rg,Rh,Ri,Rj,Rk,Rl,Rm,Ya,Yb,Yc,Rn,Ro,Rp,Yd,Ye,Rq,Rs,Rt,Ru,Rv,Rw,Rx]
    refine(Dg hE (l:=v.trail.getD k 0) ⟨by have:=hV.2;omega,by have:=hV.2;omega⟩).mono ?_
    rintro _ _ ⟨rfl,rfl⟩
    unfold MJ at hs
    by_cases hin:(v.trail.getD k 0).natAbs∈a.seen
    · rw[if_pos hin]at hs
      injection hs with hs
      subst hs
      simp only[BR,Az,H.mb.load OT,eqm,on2,Gj H.mo,hin,decide_true,Qa,Qb,Qc,Qd,Qe,Qf,Qg,Qh,Qi,Qj,Qk,Ql,Qm,Qn,true_and,and_true,Qo,Qp,Qq,Qr,Qs,Qt,Qu,Qv,Qw,Qx,Qy,Qz,Ra,Rb,Rc,Rd,Re,Rf,Rg,Rh,Ri,Rj,Rk,Rl,Rm,Ya,Yb,Yc,Rn,Ro,Rp,Yd,Ye,Rq,Rs,Rt,Ru,Rv,Rw,Rx]
      rw[← hW]
      refine WC.loop' ?_
      generalize hW2:WC E none (AX.loop I5) Q=WW2
      simp only[I5,RR,Qa,Qb,Qc,Qd,Qe,Qf,Qg,Qh,Qi,Qj,Qk,Ql,Qm,Qn,true_and,and_true,Qo,Qp,Qq,Qr,Qs,Qt,Qu,Qv,Qw,Qx,Qy,Qz,Ra,Rb,Rc,Rd,Re,Rf,Rg,Rh,Ri,Rj,Rk,Rl,Rm,Ya,Yb,Yc,Rn,Ro,Rp,Yd,Ye,Rq,Rs,Rt,Ru,Rv,Rw,Rx]
      exact hq _
    · rw[if_neg hin]at hs
      simp only[BR,Az,H.mb.load OT,eqm,on2,Gj H.mo,hin,decide_false,Qa,Qb,Qc,Qd,Qe,Qf,Qg,Qh,Qi,Qj,Qk,Ql,Qm,Qn,true_and,and_true,Qo,Qp,Qq,Qr,Qs,Qt,Qu,Qv,Qw,Qx,Qy,Qz,Ra,Rb,Rc,Rd,Re,Rf,Rg,Rh,Ri,Rj,Rk,Rl,Rm,Ya,Yb,Yc,Rn,Ro,Rp,Yd,Ye,Rq,Rs,Rt,Ru,Rv,Rw,Rx]
      rw[← hW]
      exact ih _ (by omega) hs
section
variable{E:Env}{K:List AV→ASt→Prop}{ow:Ow}{s:ASt}{p:Nat}{x:Sf}{v:Sv}{N:Nat}{h:List Int}{a:Lst}
theorem lx(H:LAt ow s p x v N h a){k:Nat}(hk:k<v.trail.length){x1 x8 x9 x10 x11 x12 x13 x14 x15 x16 x17 x18 x19 x20:AV}(hK:K (lvs p N x1 (iv (k:Int)) (iv (v.trail.getD k 0)) x9 x10 x11 x12 x13 x14 x15 x16 x17 x18 x19 x20) s):
    Qb E RS K [] (lvs p N x1 (iv (k:Int)) x8 x9 x10 x11 x12 x13 x14 x15 x16 x17 x18 x19 x20) s:=by
  have htr:Buf ow (p,9,0) s x.tr (ivs v.trail):=H.sat.trail
  have l1:=H.sb.load FS
  simp only[AR]at l1
  have hg:=AS (d:=(0:Int)) hk
  have i1:=htr.addr Try.underlying23 sz3 (k:=k) (by rw[oF];exact hk)
  have i2:=htr.get (t:=3) ag3 (k:=k) (A2 hg)
  simp only[RS,lvs,l1,AG,E2,H.sat.ld_tr,i1,i2,Qa,Qb,Qc,Qd,Qe,Qf,Qg,Qh,Qi,Qj,Qk,Ql,Qm,Qn,true_and,and_true,Qo,Qp,Qq,Qr,Qs,Qt,Qu,Qv,Qw,Qx,Qy,Qz,Ra,Rb,Rc,Rd,Re,Rf,Rg,Rh,Ri,Rj,Rk,Rl,Rm,Ya,Yb,Yc,Rn,Ro,Rp,Yd,Ye,Rq,Rs,Rt,Ru,Rv,Rw,Rx]
  exact hK
theorem ly(hE:An E)(H:LAt ow s p x v N h a){q:Int}(hq:q.natAbs<v.why.length)(hs:v.why.length<1000000000){x1 x7 x9 x10 x11 x12 x13 x14 x15 x16 x17 x18 x19 x20:AV}(hK:K (lvs p N (Io (v.why.getD q.natAbs none)) x7 (iv q) x9 x10 x11 x12 x13 x14 x15 x16 x17 x18 x19 x20) s):
    Qb E RT K [] (lvs p N x1 x7 (iv q) x9 x10 x11 x12 x13 x14 x15 x16 x17 x18 x19 x20) s:=by
  have hw:Buf ow (p,6,0) s x.why (v.why.map Io):=H.sat.why
  have l1:=H.sb.load FS
  simp only[AR]at l1
  have hg:=AS (d:=(none:Option Nat)) hq
  have i1:=hw.addr Try.underlying89 Gw (k:=q.natAbs) (by rw[oF];exact hq)
  have i2:=hw.get (t:=92) jA (k:=q.natAbs) (by rw[pL,hg];rfl)
  have eqp:eqA (.ptr (some (p,0))) (.ptr (some (p,0)))=true:=by simp[eqA]
  simp only[RT,lvs,l1,AG,Nn,H.sat.ld_why,Qa,Qb,Qc,Qd,Qe,Qf,Qg,Qh,Qi,Qj,Qk,Ql,Qm,Qn,true_and,and_true,Qo,Qp,Qq,Qr,Qs,Qt,Qu,Qv,Qw,Qx,Qy,Qz,Ra,Rb,Rc,Rd,Re,Rf,Rg,Rh,Ri,Rj,Rk,Rl,Rm,Ya,Yb,Yc,Rn,Ro,Rp,Yd,Ye,Rq,Rs,Rt,Ru,Rv,Rw,Rx]
  refine(Dg hE (l:=q) ⟨by omega,by omega⟩).mono ?_
  rintro _ _ ⟨rfl,rfl⟩
  simp only[BR,Az,l1,eqp,H.sat.ld_why,hw.self,i1,i2,Qa,Qb,Qc,Qd,Qe,Qf,Qg,Qh,Qi,Qj,Qk,Ql,Qm,Qn,true_and,and_true,Qo,Qp,Qq,Qr,Qs,Qt,Qu,Qv,Qw,Qx,Qy,Qz,Ra,Rb,Rc,Rd,Re,Rf,Rg,Rh,Ri,Rj,Rk,Rl,Rm,Ya,Yb,Yc,Rn,Ro,Rp,Yd,Ye,Rq,Rs,Rt,Ru,Rv,Rw,Rx]
  exact hK
theorem lz(H:LAt ow s p x v N h a)(ho:0≤a.opn∧a.opn<1000000000){x1 x7 x8 x9 x10 x11 x12 x13 x14 x15 x16 x17 x18 x19 x20:AV}(hK:∀s',LAt ow s' p x v N h { a with opn:=a.opn - 1 }→AK (Ea p) ow s ow s'→s'.next=s.next→K (lvs p N x1 x7 x8 x9 x10 x11 x12 x13 x14 x15 x16 x17 x18 x19 x20) s'):
    Qb E RU K [] (lvs p N x1 x7 x8 x9 x10 x11 x12 x13 x14 x15 x16 x17 x18 x19 x20) s:=by
  obtain⟨s',g1,g2,g3,g4⟩:=H.setOpn (a.opn - 1)
  have e3:=CD Try.prog 3 a.opn 1 ⟨by omega,by omega⟩
  simp only[RU,lvs,H.ob.load ag3,e3,on2,g1,AT,Qa,Qb,Qc,Qd,Qe,Qf,Qg,Qh,Qi,Qj,Qk,Ql,Qm,Qn,true_and,and_true,Qo,Qp,Qq,Qr,Qs,Qt,Qu,Qv,Qw,Qx,Qy,Qz,Ra,Rb,Rc,Rd,Re,Rf,Rg,Rh,Ri,Rj,Rk,Rl,Rm,Ya,Yb,Yc,Rn,Ro,Rp,Yd,Ye,Rq,Rs,Rt,Ru,Rv,Rw,Rx]
  exact hK s' g2 g3 g4
theorem mA(H:LAt ow s p x v N h a){x1 x7 x8 x9 x10 x11 x12 x13 x14 x15 x16 x17 x18 x19 x20:AV}(hK:K (lvs p N x1 x7 x8 x9 x10 x11 x12 x13 x14 x15 x16 x17 x18 (.bool (decide (a.opn=0))) x20) s):
    Qb E RV K [] (lvs p N x1 x7 x8 x9 x10 x11 x12 x13 x14 x15 x16 x17 x18 x19 x20) s:=by
  simp only[RV,lvs,H.ob.load ag3,Qa,Qb,Qc,Qd,Qe,Qf,Qg,Qh,Qi,Qj,Qk,Ql,Qm,Qn,true_and,and_true,Qo,Qp,Qq,Qr,Qs,Qt,Qu,Qv,Qw,Qx,Qy,Qz,Ra,Rb,Rc,Rd,Re,Rf,Rg,Rh,Ri,Rj,Rk,Rl,Rm,Ya,Yb,Yc,Rn,Ro,Rp,Yd,Ye,Rq,Rs,Rt,Ru,Rv,Rw,Rx]
  exact hK
theorem mB(H:LAt ow s p x v N h a){q:Int}(hq:i64 (-q)){x1 x7 x9 x10 x11 x12 x13 x14 x15 x16 x17 x18 x19 x20:AV}(hK:∀s',LAt ow s' p x v N h { a with hd:=-q }→AK (Ea p) ow s ow s'→s'.next=s.next→K (lvs p N x1 x7 (iv q) x9 x10 x11 x12 x13 x14 x15 x16 x17 x18 x19 x20) s'):
    Qb E RW K [] (lvs p N x1 x7 (iv q) x9 x10 x11 x12 x13 x14 x15 x16 x17 x18 x19 x20) s:=by
  obtain⟨lv,b1,b2⟩:=H.lb
  have e1:=EY Try.prog q hq
  have i0:AC Try.prog 23 lv (iv 0)=some (BC lv 0):=b2.addr Try.underlying23 sz3 (k:=0) (by simp)
  obtain⟨s',g1,g2,g3,g4⟩:=b2.set (t:=3) sz3 (k:=0) (x:=iv (-q)) (by simp) rfl rfl
  have hlt:=H.lt
  have g:∀j,N≤j→j≤N+6→j≠N+5→s'.heap.get j=s.heap.get j:=fun j q1 q2 q3=>g3.heap j (by omega) (by rw[H.tg j q1 q2 q3];exact tne (by decide))
  simp only[RW,lvs,b1.load C1,e1,i0,on2,g1,AT,Qa,Qb,Qc,Qd,Qe,Qf,Qg,Qh,Qi,Qj,Qk,Ql,Qm,Qn,true_and,and_true,Qo,Qp,Qq,Qr,Qs,Qt,Qu,Qv,Qw,Qx,Qy,Qz,Ra,Rb,Rc,Rd,Re,Rf,Rg,Rh,Ri,Rj,Rk,Rl,Rm,Ya,Yb,Yc,Rn,Ro,Rp,Yd,Ye,Rq,Rs,Rt,Ru,Rv,Rw,Rx]
  refine hK s' { sat:=H.sat.keep16 g3 (fun y i hy e=>by injection e with _ e;injection e with e _;omega),hl:=H.hl,sb:=H.sb.keep (g _ (by omega) (by omega) (by omega)),lb:=⟨lv,b1.keep (g _ (by omega) (by omega) (by omega)),g2⟩,vb:=H.vb.keep (g _ (by omega) (by omega) (by omega)),mo:=H.mo.keep (g _ (by omega) (by omega) (by omega)),mb:=H.mb.keep (g _ (by omega) (by omega) (by omega)),ob:=H.ob.keep (g _ (by omega) (by omega) (by omega)),tg:=H.tg,lt:=by omega } (g3.mono fun t ht=>.inr (.inl ht)) g4
end
def Ca(ow:Ow)(s:ASt)(p:Nat)(M:List Nat):Prop:=M.Nodup∧∀i∈M,s.heap.get i=some .mark∧ow i=(p,22,0)∧i<s.next
theorem Ca.step{ow ow':Ow}{s s':ASt}{p:Nat}{M:List Nat}{m:Tag→Prop}(h:Ca ow s p M)(k:AK m ow s ow' s')(hm:¬ m (p,22,0)):Ca ow' s' p M:=by
  have hn:=k.next
  refine⟨h.1,fun i hi=>?_⟩
  obtain⟨h1,h2,h3⟩:=h.2 i hi
  exact⟨(k.heap i h3 (by rw[h2];exact hm)).trans h1,(k.tags i h3 (by rw[h2];exact hm)).trans h2,by omega⟩
theorem L4:∀ (M:List Nat)(s:ASt),M.Nodup→(∀i∈M,s.heap.get i=some .mark)→∃s',unmark s M=some s'∧s'.next=s.next∧∀j,j ∉ M→s'.heap.get j=s.heap.get j
  | [],s,_,_=>⟨s,rfl,rfl,fun _ _=>rfl⟩
  | i::M,s,h1,h2=>by
    rw[pt]at h1
    obtain⟨s',g1,g2,g3⟩:=L4 M (Bc s i) h1.2 (fun j hj=>by
      rw[Bi,if_neg (fun e=>h1.1 (by rw[← e];exact hj))]
      exact h2 j (oJ _ hj))
    refine⟨s',?_,g2,fun j hj=>?_⟩
    · have:=h2 i (oH ..)
      simp only[unmark,this]
      exact g1
    · rw[g3 j (fun q=>hj (oJ _ q)),Bi,if_neg (fun e=>hj (by rw[e];exact oH ..))]
theorem Ca.unmark{ow:Ow}{s:ASt}{p:Nat}{M:List Nat}(h:Ca ow s p M):∃s',Go.Proofs.Ytilhhmkdcoajnaa.Am.unmark s M=some s'∧s'.next=s.next∧AK (· = (p,22,0)) ow s ow s':=by
  obtain⟨s',g1,g2,g3⟩:=L4 M s h.1 (fun i hi=>(h.2 i hi).1)
  exact⟨s',g1,g2,by omega,fun _ _ _=>rfl,fun y hy hm=>g3 y fun q=>hm (h.2 y q).2.1⟩
inductive B5 (v:Sv):Nat→Lst→Nat→Int→Lst→Prop
  | last {c:Nat} {a a':Lst} {at_ i:Nat} {l:Int} {ls:List Int} {b:Bool×Bool} (hc:v.cl c=some (ls,b)) (ha:(rest l ls).foldl (BL v) a=a') (hs:MJ v.trail a'.seen at_=some i) (ho:a'.opn=1):B5 v c a at_ l { a' with opn:=0,hd:=-(v.trail.getD i 0) }
  | more {c c':Nat} {a a' r:Lst} {at_ i:Nat} {l:Int} {ls:List Int} {b:Bool×Bool} (hc:v.cl c=some (ls,b)) (ha:(rest l ls).foldl (BL v) a=a') (hs:MJ v.trail a'.seen at_=some i) (ho:2≤a'.opn) (hw:v.why.getD (v.trail.getD i 0).natAbs none=some c') (hr:B5 v c' { a' with opn:=a'.opn - 1 } i (v.trail.getD i 0) r):B5 v c a at_ l r
theorem LV         {E : Env} (hE : An   E) {ow : Ow} {s : ASt} {p : Nat} {x : Sf} {v : Sv} {N : Nat} {h : List Int} {a : Lst} (H : LAt ow s p x v N h a) {n : Nat} (hn : n ≤ 1000000) (hf : Fit n v) (hI : GJ   n a) {c : Nat} {ls : List Int} {b : Bool × Bool} (hc : v.cl c = some (ls, b)) (hls : BM    n ls) {at_ i : Nat} {l : Int} {a' : Lst} (ha : (rest l ls).foldl (BL     v) a = a') (hat : at_ ≤ v.trail.length) (hs : MJ   v.trail a'.seen at_ = some i) (ho : 1 ≤ a'.opn) {M : List Nat} (hM : Ca      ow s p M)
    {x9 x10 x11 x12 x13 x14 x15 x16 x17 x18 x19 x20:AV} {Q:A6→Prop}
    (hlast:a'.opn=1→∀s' ow' h' M' y1 y7 y8 y9 y10 y11 y12 y13 y14 y15 y16 y17 y18 y19 y20,LAt ow' s' p x v N h' { a' with opn:=0,hd:=-(v.trail.getD i 0) }→GJ n { a' with opn:=0,hd:=-(v.trail.getD i 0) }→Ca ow' s' p M'→AK (GG p) ow s ow' s'→Q ⟨.exit 0,lvs p N y1 y7 y8 y9 y10 y11 y12 y13 y14 y15 y16 y17 y18 y19 y20,M',s'⟩)
    (hmore:a'.opn≠1→∀s' ow' h' M' y9 y10 y11 y12 y13 y14 y15 y16 y17 y18 y19 y20,LAt ow' s' p x v N h' { a' with opn:=a'.opn - 1 }→GJ n { a' with opn:=a'.opn - 1 }→Ca ow' s' p M'→AK (GG p) ow s ow' s'→WC E none (.loop I6) Q (lvs p N (Io (v.why.getD (v.trail.getD i 0).natAbs none)) (iv (i:Int)) (iv (v.trail.getD i 0)) y9 y10 y11 y12 y13 y14 y15 y16 y17 y18 y19 y20) M' s'):
    WC E none (.loop I6) Q (lvs p N (AR c) (iv (at_:Int)) (iv l) x9 x10 x11 x12 x13 x14 x15 x16 x17 x18 x19 x20) M s:=by
  refine WC.loop' ?_
  generalize hW:WC E none (AX.loop I6) Q=WW at hmore ⊢
  simp only[I6,gO,lvs,Qa,Qb,Qc,Qd,Qe,Qf,Qg,Qh,Qi,Qj,Qk,Ql,Qm,Qn,true_and,and_true,Qo,Qp,Qq,Qr,Qs,Qt,Qu,Qv,Qw,Qx,Qy,Qz,Ra,Rb,Rc,Rd,Re,Rf,Rg,Rh,Ri,Rj,Rk,Rl,Rm,Ya,Yb,Yc,Rn,Ro,Rp,Yd,Ye,Rq,Rs,Rt,Ru,Rv,Rw,Rx]
  refine(U7 hE c l).mono ?_
  rintro _ s1 ⟨rfl,rfl⟩
  simp only[Qa,Qb,Qc,Qd,Qe,Qf,Qg,Qh,Qi,Qj,Qk,Ql,Qm,Qn,true_and,and_true,Qo,Qp,Qq,Qr,Qs,Qt,Qu,Qv,Qw,Qx,Qy,Qz,Ra,Rb,Rc,Rd,Re,Rf,Rg,Rh,Ri,Rj,Rk,Rl,Rm,Ya,Yb,Yc,Rn,Ro,Rp,Yd,Ye,Rq,Rs,Rt,Ru,Rv,Rw,Rx]
  generalize hsa:AH s (AP 92 0 [AR c])=sa
  have na:sa.next=s.next+1:=by rw[← hsa];rfl
  have oa:Old s.next s sa:=by rw[← hsa];exact Old.new s _
  have ba:Al sa s.next (AR c):=by rw[← hsa];exact Al.new
  generalize hsb:AH sa (AP 3 0 [iv l])=sb
  have nb:sb.next=s.next+2:=by rw[← hsb];show sa.next+1=_;omega
  have ob:Old (s.next+1) sa sb:=by rw[← hsb,← na];exact Old.new sa _
  have bb:Al sb (s.next+1) (iv l):=by rw[← hsb,← na];exact Al.new
  refine WC.range (g:=111) (first:=[]) (cap:=[.ptr (some (s.next,0)),.ptr (some (s.next+1,0))]) rfl ?_
  rw[nb]
  generalize hsc:AH sb .mark=sc
  have nc:sc.next=s.next+3:=by rw[← hsc];show sb.next+1=_;omega
  have oc:Old (s.next+2) sb sc:=by rw[← hsc,← nb];exact Old.new sb _
  have mc:sc.heap.get (s.next+2)=some .mark:=by rw[← hsc,AO,if_pos nb.symm]
  generalize hsd:AH sc (.loop (G9 67 _ _ _ _ _))=sd
  have nd:sd.next=s.next+4:=by rw[← hsd];show sc.next+1=_;omega
  have od:Old (s.next+3) sc sd:=by rw[← hsd,← nc];exact Old.new sc _
  have ld:A3 sd (s.next+2+1)=some (EV p N (AR c) (iv (at_:Int)) (iv l) x9 x10 x11 x12 x13 (.func 111 [] [.ptr (some (s.next,0)),.ptr (some (s.next+1,0))]) x15 x16 x17 x18 x19 x20 (s.next+2)):=by
    rw[← hsd]
    unfold A3
    rw[AO,if_pos (by omega)]
    rfl
  have osd:Old s.next s sd:=((oa.trans (ob.mono (by omega))).trans (oc.mono (by omega))).trans (od.mono (by omega))
  have st0:AK (fun _=>False) ow s (fun j=>if j<s.next then ow j else if j=s.next+3 then (p,23,0)else (p,22,0)) sd:=⟨by omega,fun j hj _=>if_pos hj,fun j hj _=>osd.2 j hj⟩
  generalize how:(fun j=>if j<s.next then ow j else if j=s.next+3 then (p,23,0)else (p,22,0):Ow)=owd at st0
  have tk:owd (s.next+1)=(p,22,0):=by rw[← how];show(if _ then _ else if _ then _ else _:Tag)=_;rw[if_neg (by omega),if_neg (by omega)]
  have tm:owd (s.next+2)=(p,22,0):=by rw[← how];show(if _ then _ else if _ then _ else _:Tag)=_;rw[if_neg (by omega),if_neg (by omega)]
  have tl:owd (s.next+2+1)=(p,23,0):=by rw[← how];show(if _ then _ else if _ then _ else _:Tag)=_;rw[if_neg (by omega),if_pos (by omega)]
  have Hd:LAt owd sd p x v N h a:=H.keep st0 (fun _ _ _ q=>q) (fun q=>q) (fun q=>q)
  have Md:Ca owd sd p M:=hM.step st0 (fun q=>q)
  have M2:Ca owd sd p ((s.next+2)::M):=by
    refine⟨?_,fun i hi=>?_⟩
    · rw[pt]
      exact⟨fun q=>by have:=(hM.2 _ q).2.2;omega,hM.1⟩
    · rcases ov.1            hi with e | e
      · rw[e]
        exact⟨by rw[od.2 _ (by omega)];exact mc,tm,by omega⟩
      · exact Md.2 i e
  have bad:Al sd s.next (AR c):=ba.keep (by rw[od.2 _ (by omega),oc.2 _ (by omega),ob.2 _ (by omega)])
  have bbd:Al sd (s.next+1) (iv l):=bb.keep (by rw[od.2 _ (by omega),oc.2 _ (by omega)])
  have hz:=hf.siz
  refine(Sl hE Hd hn hz.level hz.heat hI hc hls bad bbd tk (by omega) ld tl (by omega)).mono ?_
  rintro _ s2 ⟨ow2,h2,H2,I2,l2,st2,t2⟩
  rw[ha]at H2 I2
  have n2:=st2.next
  refine⟨_,l2,rfl,?_⟩
  have st3:AK (· = (p,23,0)) ow2 s2 ow2 (setObj s2 (s.next+2+1) (.loop { EV p N (AR c) (iv (at_:Int)) (iv l) x9 x10 x11 x12 x13 (.func 111 [] [.ptr (some (s.next,0)),.ptr (some (s.next+1,0))]) x15 x16 x17 x18 x19 x20 (s.next+2)with state:=.exhausted })):=⟨oD _,fun _ _ _=>rfl,fun y _ hm=>by rw[Ai,if_neg (fun e=>hm (by rw[e];exact t2))]⟩
  have H3:=H2.keep st3 (fun y i hy e=>by injection e with _ e;injection e with e _;omega) (tne (by decide)) (tne (by decide))
  have M3:Ca ow2 _ p ((s.next+2)::M):=(M2.step st2 (JL (by decide) (by decide) (by decide) (by decide))).step st3 (tne (by decide))
  have stT:AK (GG p) ow s ow2 (setObj s2 (s.next+2+1) (.loop { EV p N (AR c) (iv (at_:Int)) (iv l) x9 x10 x11 x12 x13 (.func 111 [] [.ptr (some (s.next,0)),.ptr (some (s.next+1,0))]) x15 x16 x17 x18 x19 x20 (s.next+2)with state:=.exhausted })):=((st0.mono fun _ q=>q.elim).trans st2).trans (st3.mono fun t ht=>.inr ht)
  show Fd _ _ _ _ none
  unfold Fd
  generalize setObj s2 (s.next+2+1) _=s3 at *
  obtain⟨hi,hin⟩:=OE hs
  have hil:i<v.trail.length:=by omega
  have hg:=AS (d:=(0:Int)) hil
  have hV:=hf.lits _ (oG hg)
  have hsz:=hz.small
  have hV2:=hV.2
  have hwl:=hz.why
  simp only[YL,Qa,Qb,Qc,Qd,Qe,Qf,Qg,Qh,Qi,Qj,Qk,Ql,Qm,Qn,true_and,and_true,Qo,Qp,Qq,Qr,Qs,Qt,Qu,Qv,Qw,Qx,Qy,Qz,Ra,Rb,Rc,Rd,Re,Rf,Rg,Rh,Ri,Rj,Rk,Rl,Rm,Ya,Yb,Yc,Rn,Ro,Rp,Yd,Ye,Rq,Rs,Rt,Ru,Rv,Rw,Rx]
  refine Pl hE H3 hf (i:=i) ?_ at_ _ hat hs
  intro y18
  simp only[if_true,Qa,Qb,Qc,Qd,Qe,Qf,Qg,Qh,Qi,Qj,Qk,Ql,Qm,Qn,true_and,and_true,Qo,Qp,Qq,Qr,Qs,Qt,Qu,Qv,Qw,Qx,Qy,Qz,Ra,Rb,Rc,Rd,Re,Rf,Rg,Rh,Ri,Rj,Rk,Rl,Rm,Ya,Yb,Yc,Rn,Ro,Rp,Yd,Ye,Rq,Rs,Rt,Ru,Rv,Rw,Rx]
  refine lx H3 hil ?_
  try simp only[Qa,Qb,Qc,Qd,Qe,Qf,Qg,Qh,Qi,Qj,Qk,Ql,Qm,Qn,true_and,and_true,Qo,Qp,Qq,Qr,Qs,Qt,Qu,Qv,Qw,Qx,Qy,Qz,Ra,Rb,Rc,Rd,Re,Rf,Rg,Rh,Ri,Rj,Rk,Rl,Rm,Ya,Yb,Yc,Rn,Ro,Rp,Yd,Ye,Rq,Rs,Rt,Ru,Rv,Rw,Rx]
  refine ly hE H3 (q:=v.trail.getD i 0) (by omega) (by omega) ?_
  try simp only[Qa,Qb,Qc,Qd,Qe,Qf,Qg,Qh,Qi,Qj,Qk,Ql,Qm,Qn,true_and,and_true,Qo,Qp,Qq,Qr,Qs,Qt,Qu,Qv,Qw,Qx,Qy,Qz,Ra,Rb,Rc,Rd,Re,Rf,Rg,Rh,Ri,Rj,Rk,Rl,Rm,Ya,Yb,Yc,Rn,Ro,Rp,Yd,Ye,Rq,Rs,Rt,Ru,Rv,Rw,Rx]
  have hop:=I2.opn
  have hsm:=I2.small
  refine lz H3 (by omega) ?_
  intro s4 H4 st4 n4
  try simp only[Qa,Qb,Qc,Qd,Qe,Qf,Qg,Qh,Qi,Qj,Qk,Ql,Qm,Qn,true_and,and_true,Qo,Qp,Qq,Qr,Qs,Qt,Qu,Qv,Qw,Qx,Qy,Qz,Ra,Rb,Rc,Rd,Re,Rf,Rg,Rh,Ri,Rj,Rk,Rl,Rm,Ya,Yb,Yc,Rn,Ro,Rp,Yd,Ye,Rq,Rs,Rt,Ru,Rv,Rw,Rx]
  refine mA H4 ?_
  have I4:GJ n { a' with opn:=a'.opn - 1 }:=⟨I2.nodup,I2.mem,I2.len,I2.lits,by show 0≤a'.opn - 1∧a'.opn - 1≤(a'.seen.length:Int);omega⟩
  have M4:Ca ow2 s4 p ((s.next+2)::M):=M3.step st4 (fun q=>JL (by decide) (by decide) (by decide) (by decide) (.inl q))
  have stT4:=stT.trans (st4.mono fun t ht=>.inl ht)
  by_cases h1:a'.opn=1
  · have hd0:decide (a'.opn - 1=0)=true:=decide_eq_true (by omega)
    simp only[hd0,Qa,Qb,Qc,Qd,Qe,Qf,Qg,Qh,Qi,Qj,Qk,Ql,Qm,Qn,true_and,and_true,Qo,Qp,Qq,Qr,Qs,Qt,Qu,Qv,Qw,Qx,Qy,Qz,Ra,Rb,Rc,Rd,Re,Rf,Rg,Rh,Ri,Rj,Rk,Rl,Rm,Ya,Yb,Yc,Rn,Ro,Rp,Yd,Ye,Rq,Rs,Rt,Ru,Rv,Rw,Rx]
    refine mB H4 (q:=v.trail.getD i 0) ⟨by omega,by omega⟩ ?_
    intro s5 H5 st5 n5
    simp only[show(0:Nat)≠1 by decide,if_false,Qa,Qb,Qc,Qd,Qe,Qf,Qg,Qh,Qi,Qj,Qk,Ql,Qm,Qn,true_and,and_true,Qo,Qp,Qq,Qr,Qs,Qt,Qu,Qv,Qw,Qx,Qy,Qz,Ra,Rb,Rc,Rd,Re,Rf,Rg,Rh,Ri,Rj,Rk,Rl,Rm,Ya,Yb,Yc,Rn,Ro,Rp,Yd,Ye,Rq,Rs,Rt,Ru,Rv,Rw,Rx]
    have e:({ ({ a' with opn:=a'.opn - 1 }:Lst)with hd:=-(v.trail.getD i 0) }:Lst)={ a' with opn:=0,hd:=-(v.trail.getD i 0) }:=by
      show Lst.mk _ _ _ _ _=Lst.mk _ _ _ _ _
      rw[h1];rfl
    rw[e]at H5
    exact hlast h1 s5 ow2 h2 _ _ _ _ _ _ _ _ _ _ _ _ _ _ _ _ H5 ⟨I2.nodup,I2.mem,I2.len,I2.lits,by show(0:Int)≤0∧(0:Int)≤(a'.seen.length:Int);omega⟩ (M4.step st5 (fun q=>JL (by decide) (by decide) (by decide) (by decide) (.inl q))) (stT4.trans (st5.mono fun t ht=>.inl ht))
  · have hd0:decide (a'.opn - 1=0)=false:=decide_eq_false (by omega)
    simp only[hd0,Qa,Qb,Qc,Qd,Qe,Qf,Qg,Qh,Qi,Qj,Qk,Ql,Qm,Qn,true_and,and_true,Qo,Qp,Qq,Qr,Qs,Qt,Qu,Qv,Qw,Qx,Qy,Qz,Ra,Rb,Rc,Rd,Re,Rf,Rg,Rh,Ri,Rj,Rk,Rl,Rm,Ya,Yb,Yc,Rn,Ro,Rp,Yd,Ye,Rq,Rs,Rt,Ru,Rv,Rw,Rx]
    exact hmore h1 s4 ow2 h2 _ _ _ _ _ _ _ _ _ _ _ _ _ H4 I4 M4 stT4
theorem SV{E:Env}(hE:An E){ow0:Ow}{s0:ASt}{p:Nat}{x:Sf}{v:Sv}{N:Nat}{n:Nat}(hn:n≤1000000)(hf:Fit n v)(hcl:∀c ls b,v.cl c=some (ls,b)→BM n ls){r:Lst}{Q:A6→Prop}
    (hq:∀s' ow' h' M' y1 y7 y8 y9 y10 y11 y12 y13 y14 y15 y16 y17 y18 y19 y20,LAt ow' s' p x v N h' r→GJ n r→Ca ow' s' p M'→AK (GG p) ow0 s0 ow' s'→Q ⟨.exit 0,lvs p N y1 y7 y8 y9 y10 y11 y12 y13 y14 y15 y16 y17 y18 y19 y20,M',s'⟩) {c at_:Nat} {a:Lst} {l:Int} (hr:B5 v c a at_ l r):
    ∀ (s:ASt) (ow:Ow) (h:List Int) (M:List Nat) (x9 x10 x11 x12 x13 x14 x15 x16 x17 x18 x19 x20:AV),at_≤v.trail.length→LAt ow s p x v N h a→GJ n a→Ca ow s p M→AK (GG p) ow0 s0 ow s →
      WC E none (.loop I6) Q (lvs p N (AR c) (iv (at_:Int)) (iv l) x9 x10 x11 x12 x13 x14 x15 x16 x17 x18 x19 x20) M s:=by
  induction hr with
  | last hc ha hs ho =>
    intro s ow h M x9 x10 x11 x12 x13 x14 x15 x16 x17 x18 x19 x20 hat H hI hM hst
    refine LV hE H hn hf hI hc (hcl _ _ _ hc) ha hat hs (by omega) hM ?_ ?_
    · intro _ s' ow' h' M' y1 y7 y8 y9 y10 y11 y12 y13 y14 y15 y16 y17 y18 y19 y20 g1 g2 g3 g4
      exact hq s' ow' h' M' _ _ _ _ _ _ _ _ _ _ _ _ _ _ _ g1 g2 g3 (hst.trans g4)
    · intro q
      exact absurd ho q
  | more hc ha hs ho hw hr ih =>
    intro s ow h M x9 x10 x11 x12 x13 x14 x15 x16 x17 x18 x19 x20 hat H hI hM hst
    refine LV hE H hn hf hI hc (hcl _ _ _ hc) ha hat hs (by omega) hM ?_ ?_
    · intro q
      omega
    · intro _ s' ow' h' M' y9 y10 y11 y12 y13 y14 y15 y16 y17 y18 y19 y20 g1 g2 g3 g4
      rw[hw]
      exact ih hq s' ow' h' M' _ _ _ _ _ _ _ _ _ _ _ _ (by have:=(OE hs).1;omega) g1 g2 g3 (hst.trans g4)
theorem Buf.make{ow:Ow}{T:Tag}{s:ASt}{i:Nat}{e:TypeId}{cs:List AV}(h:s.heap.get i=some (AP e 1 cs))(hc:cs≠[])(ht:ow i=T)(hi:i<s.next):Buf ow T s (.slice (some (i,0)) cs.length (some cs.length)) cs:=by
  obtain⟨r,h1,h2,h3,h4,h5,h6⟩:=Bo e 1 cs
  refine .inr ⟨i,0,some cs.length,r,rfl,⟨by rw[h,h1],ht,hi,h5,h3,fun p hp=>?_⟩,fun k u hk=>?_,by rw[h2.1];omega,⟨oD _,by rw[h2.1];omega⟩⟩
  · rw[h6]at hp;cases hp
  · rw[oN]
    exact h2.2 k u hk
def Jb(v:Sv)(y:Int)(q:Int):Bool:=decide (v.level.getD q.natAbs 0=y)
def Ak(v:Sv)(r:Lst):List Int:=match BK (Jb v r.lev) r.lits 0 with
  | none=>r.hd::r.lits
  | some i=>A0 (r.hd::r.lits) 1 (i+1)
theorem Fk{f:Int→Bool}:∀ {L:List Int}{k i:Nat},BK f L k=some i→k≤i∧i<k+L.length
  | [],k,i,h=>by cases h
  | x::L,k,i,h=>by
    unfold BK at h
    split at h
    · injection h with h
      subst h
      simp
    · obtain⟨h1,h2⟩:=Fk h
      simp
      omega
theorem PL{ow:Ow}{s s1 s2 s3 s4 s5 s6 s7 s8 s9 s10:ASt}{p:Nat}{x:Sf}{v:Sv}(h:SAt ow s p x v)
    (e1:AH s (AP 44 0 [AR p])=s1) (e2:AH s1 (AP 23 0 [.slice none 0 (some 0)])=s2) (e3:AH s2 (AP 3 0 [iv 0])=s3) (e4:AH s3 (.map [] 0)=s4) (e5:AH s4 (AP 115 0 [.map none])=s5)
    (f6:Al s6 (s.next+4) (.map (some (s.next+3)))) (n6:s6.next=s5.next) (o6:∀j,j≠s.next+4→s6.heap.get j=s5.heap.get j)
    (e7:AH s6 (AP 3 1 [iv 0])=s7)
    (f8:Al s8 (s.next+1) (.slice (some (s.next+5,0)) 1 (some 1))) (n8:s8.next=s7.next) (o8:∀j,j≠s.next+1→s8.heap.get j=s7.heap.get j)
    (e9:AH s8 (AP 3 0 [iv 0])=s9)
    (f10:Al s10 (s.next+6) (iv 0)) (n10:s10.next=s9.next) (o10:∀j,j≠s.next+6→s10.heap.get j=s9.heap.get j):
    ∃ow',LAt ow' s10 p x v s.next v.heat ⟨[],0,[],0,0⟩∧AK (fun _=>False) ow s ow' s10:=by
  have n1:s1.next=s.next+1:=by rw[← e1];rfl
  have n2:s2.next=s.next+2:=by rw[← e2];show s1.next+1=_;omega
  have n3:s3.next=s.next+3:=by rw[← e3];show s2.next+1=_;omega
  have n4:s4.next=s.next+4:=by rw[← e4];show s3.next+1=_;omega
  have n5:s5.next=s.next+5:=by rw[← e5];show s4.next+1=_;omega
  have n7:s7.next=s.next+6:=by rw[← e7];show s6.next+1=_;omega
  have n9:s9.next=s.next+7:=by rw[← e9];show s8.next+1=_;omega
  have o1:Old s.next s s1:=by rw[← e1];exact Old.new s _
  have o2:Old (s.next+1) s1 s2:=by rw[← e2,← n1];exact Old.new s1 _
  have o3:Old (s.next+2) s2 s3:=by rw[← e3,← n2];exact Old.new s2 _
  have o4:Old (s.next+3) s3 s4:=by rw[← e4,← n3];exact Old.new s3 _
  have o5:Old (s.next+4) s4 s5:=by rw[← e5,← n4];exact Old.new s4 _
  have o7:Old (s.next+5) s6 s7:=by rw[← e7,show s.next+5=s6.next by omega];exact Old.new s6 _
  have o9:Old (s.next+6) s8 s9:=by rw[← e9,show s.next+6=s8.next by omega];exact Old.new s8 _
  have b10:∀j,j<s.next+5→j≠s.next+4→j≠s.next+1→s10.heap.get j=s5.heap.get j:=fun j h1 h2 h3=>by
    rw[o10 j (by omega),o9.2 j (by omega),o8 j h3,o7.2 j (by omega),o6 j h2]
  have old:Old s.next s s10:=⟨by omega,fun j hj=>by
    rw[b10 j (by omega) (by omega) (by omega),o5.2 j (by omega),o4.2 j (by omega),o3.2 j (by omega),o2.2 j (by omega),o1.2 j hj]⟩
  refine⟨fun j=>if j<s.next then ow j else if j=s.next+5 then (p,20,0)else (p,21,0),?_,⟨old.1,fun j hj _=>if_pos hj,fun j hj _=>old.2 j hj⟩⟩
  have st:AK (fun _=>False) ow s (fun j=>if j<s.next then ow j else if j=s.next+5 then (p,20,0)else (p,21,0)) s10:=⟨old.1,fun j hj _=>if_pos hj,fun j hj _=>old.2 j hj⟩
  have t5:(fun j=>if j<s.next then ow j else if j=s.next+5 then (p,20,0)else (p,21,0):Ow) (s.next+5)=(p,20,0):=by show(if _ then _ else if _ then _ else _:Tag)=_;rw[if_neg (by omega),if_pos rfl]
  have r5:s10.heap.get (s.next+5)=some (AP 3 1 [iv 0]):=by
    rw[o10 _ (by omega),o9.2 _ (by omega),o8 _ (by omega),← e7,AO,if_pos (by omega)]
  refine { sat:=h.keep st (fun _ q=>q.elim),hl:=rfl,sb:=?_,lb:=⟨_,f8.keep (by rw[o10 _ (by omega),o9.2 _ (by omega)]),Buf.make r5 (by simp) t5 (by omega)⟩,vb:=?_,mo:=⟨[],0,?_,rfl⟩,mb:=f6.keep (by rw[o10 _ (by omega),o9.2 _ (by omega),o8 _ (by omega),o7.2 _ (by omega)]),ob:=f10,tg:=fun j h1 h2 h3=>?_,lt:=by omega }
  · have b:Al s1 s.next (AR p):=by rw[← e1];exact Al.new
    exact b.keep (by rw[b10 _ (by omega) (by omega) (by omega),o5.2 _ (by omega),o4.2 _ (by omega),o3.2 _ (by omega),o2.2 _ (by omega)])
  · have b:Al s3 s2.next (iv 0):=by rw[← e3];exact Al.new
    rw[n2]at b
    exact b.keep (by rw[b10 _ (by omega) (by omega) (by omega),o5.2 _ (by omega),o4.2 _ (by omega)])
  · rw[b10 _ (by omega) (by omega) (by omega),o5.2 _ (by omega),← e4,AO,if_pos (by omega)]
  · show(if _ then _ else if _ then _ else _:Tag)=_
    rw[if_neg (by omega),if_neg h3]
theorem Un{E:Env}(hE:An E){ow:Ow}{s:ASt}{p:Nat}{x:Sf}{v:Sv}{N:Nat}{h:List Int}{r:Lst}(H:LAt ow s p x v N h r){n:Nat}(hn:n≤1000000)(hlev:v.level.length=n+1)(hI:GJ n r){K:List AV→ASt→Prop}{x1 x7 x8 x9 x10 x11 x12 x13 x14 x15 x16 x17 x18 x19 x20:AV}
    (hK:Qb E Kr K [] (lvs p N x1 x7 x8 x9 x10 x11 x12 (JI (BK (Jb v r.lev) r.lits 0)) x14 x15 x16 x17 x18 x19 x20) s):
    Qb E RX (fun V s'=>Qb E Kr K [] V s') [] (lvs p N x1 x7 x8 x9 x10 x11 x12 x13 x14 x15 x16 x17 x18 x19 x20) s:=by
  obtain⟨lv,b1,b2⟩:=H.lb
  obtain⟨g1,g2⟩:=b2.rest Try.underlying23 sz3 (k:=1) (by simp)
  have e1:(ivs (r.hd::r.lits)).drop 1=ivs r.lits:=rfl
  rw[e1]at g2
  have g1':AW Try.prog 23 true false false s [lv,iv 1]=some (GH lv 1):=g1
  have hsm:=hI.small
  have hle:=hI.len
  simp only[RX,lvs,b1.load C1,g1',pU,pP,Qa,Qb,Qc,Qd,Qe,Qf,Qg,Qh,Qi,Qj,Qk,Ql,Qm,Qn,true_and,and_true,Qo,Qp,Qq,Qr,Qs,Qt,Qu,Qv,Qw,Qx,Qy,Qz,Ra,Rb,Rc,Rd,Re,Rf,Rg,Rh,Ri,Rj,Rk,Rl,Rm,Ya,Yb,Yc,Rn,Ro,Rp,Yd,Ye,Rq,Rs,Rt,Ru,Rv,Rw,Rx]
  refine(Mi hE (f:=Jb v r.lev) (g:=95) (cp:=[.ptr (some (N,0)),.ptr (some (N+2,0))]) (fun q hq=>?_) (by omega) g2).mono ?_
  · exact Vp hE H (by have:=(hI.lits q hq).2;omega) (by omega)
  rintro _ _ ⟨rfl,rfl⟩
  simp only[Qa,Qb,Qc,Qd,Qe,Qf,Qg,Qh,Qi,Qj,Qk,Ql,Qm,Qn,true_and,and_true,Qo,Qp,Qq,Qr,Qs,Qt,Qu,Qv,Qw,Qx,Qy,Qz,Ra,Rb,Rc,Rd,Re,Rf,Rg,Rh,Ri,Rj,Rk,Rl,Rm,Ya,Yb,Yc,Rn,Ro,Rp,Yd,Ye,Rq,Rs,Rt,Ru,Rv,Rw,Rx]
  exact hK
theorem mC{E:Env}{K:List AV→ASt→Prop}{ow:Ow}{s:ASt}{p:Nat}{lv:AV}{F:List Int}{N i:Nat}(b1:Al s (N+1) lv)(b2:Buf ow (p,20,0) s lv (ivs F))(hi:i+1<F.length)(hl:F.length<1000000000)(ht:ow (N+1)=(p,21,0))(hlt:N+1<s.next){x1 x7 x8 x9 x10 x11 x12 x14 x15 x16 x17 x18 x19 x20:AV}
    (hK:∀s',Al s' (N+1) lv→Buf ow (p,20,0) s' lv (ivs (A0 F 1 (i+1)))→AK (· = (p,20,0)) ow s ow s'→s'.next=s.next→K (lvs p N x1 x7 x8 x9 x10 x11 x12 (iv (i:Int)) x14 x15 x16 x17 x18 x19 x20) s'):
    Qb E RY K [] (lvs p N x1 x7 x8 x9 x10 x11 x12 (iv (i:Int)) x14 x15 x16 x17 x18 x19 x20) s:=by
  have e3:=Aq Try.prog 3 (i:Int) 1 ⟨by omega,by omega⟩
  have e3':((i:Int)+1)=((i+1:Nat):Int):=by omega
  have ga:=AS (d:=(0:Int)) hi
  have gb:=AS (d:=(0:Int)) (show 1<F.length by omega)
  have i1:=b2.addr Try.underlying23 sz3 (k:=i+1) (by rw[oF];exact hi)
  have i2:=b2.get (t:=3) ag3 (k:=i+1) (A2 ga)
  have j1:AC Try.prog 23 lv (iv 1)=some (BC lv 1):=b2.addr Try.underlying23 sz3 (k:=1) (by rw[oF];omega)
  have j2:=b2.get (t:=3) ag3 (k:=1) (A2 gb)
  obtain⟨s1,g1,g2,g3,g4⟩:=b2.set (t:=3) sz3 (k:=1) (x:=iv (F.getD (i+1) 0)) (by rw[oF];omega) rfl rfl
  obtain⟨s2,k1,k2,k3,k4⟩:=g2.set (t:=3) sz3 (k:=i+1) (x:=iv (F.getD 1 0)) (by rw[oO,oF];exact hi) rfl rfl
  have b1':Al s1 (N+1) lv:=b1.keep (g3.heap _ hlt (by rw[ht];exact tne (by decide)))
  have b1'':Al s2 (N+1) lv:=b1'.keep (k3.heap _ (by omega) (by rw[ht];exact tne (by decide)))
  have e:((ivs F).set 1 (iv (F.getD (i+1) 0))).set (i+1) (iv (F.getD 1 0))=ivs (A0 F 1 (i+1)):=by
    unfold A0 ivs
    rw[pe,pe]
  rw[e]at k2
  simp only[RY,lvs,b1.load C1,e3,e3',i1,i2,j1,j2,on2,g1,AT,BR,Az,b1'.load C1,b2.self,k1,Qa,Qb,Qc,Qd,Qe,Qf,Qg,Qh,Qi,Qj,Qk,Ql,Qm,Qn,true_and,and_true,Qo,Qp,Qq,Qr,Qs,Qt,Qu,Qv,Qw,Qx,Qy,Qz,Ra,Rb,Rc,Rd,Re,Rf,Rg,Rh,Ri,Rj,Rk,Rl,Rm,Ya,Yb,Yc,Rn,Ro,Rp,Yd,Ye,Rq,Rs,Rt,Ru,Rv,Rw,Rx]
  exact hK s2 b1'' k2 (g3.trans k3) (by omega)
theorem dY{E:Env}{K:List AV→ASt→Prop}{ow:Ow}{s:ASt}{p:Nat}{lv:AV}{y:Int}{F:List Int}{N:Nat}(b1:Al s (N+1) lv)(b2:Buf ow (p,20,0) s lv (ivs F))(b3:Al s (N+2) (iv y))(ht:∀j,j=N+1∨j=N+2→ow j=(p,21,0)){x1 x7 x8 x9 x10 x11 x12 x13 x14 x15 x16 x17 x18 x19 x20:AV}
    (hK:∀s',Al s' (N+1) lv→Al s' (N+2) (iv y)→AK (· = (p,21,0)) ow s ow s'→s'.next=s.next→K (lvs p N x1 x7 x8 x9 x10 x11 x12 x13 x14 x15 x16 x17 x18 x19 x20) s'):
    Qb E RZ K [] (lvs p N x1 x7 x8 x9 x10 x11 x12 x13 x14 x15 x16 x17 x18 x19 x20) s:=by
  obtain⟨s1,g1,g2,g3,g4⟩:=b1.store (d:=lv) BU b2.isCell.1 b2.isCell.2
  have b3':Al s1 (N+2) (iv y):=b3.keep (g4 _ (by omega))
  obtain⟨s2,k1,k2,k3,k4⟩:=b3'.store (d:=iv y) sz3 rfl rfl
  simp only[RZ,lvs,b1.load C1,b3.load ag3,on2,g1,AT,BR,Az,b3'.load ag3,Nk,k1,Qa,Qb,Qc,Qd,Qe,Qf,Qg,Qh,Qi,Qj,Qk,Ql,Qm,Qn,true_and,and_true,Qo,Qp,Qq,Qr,Qs,Qt,Qu,Qv,Qw,Qx,Qy,Qz,Ra,Rb,Rc,Rd,Re,Rf,Rg,Rh,Ri,Rj,Rk,Rl,Rm,Ya,Yb,Yc,Rn,Ro,Rp,Yd,Ye,Rq,Rs,Rt,Ru,Rv,Rw,Rx]
  refine hK s2 (g2.keep (k4 _ (by omega))) k2 ⟨by omega,fun _ _ _=>rfl,fun j hj hm=>?_⟩ (by omega)
  rw[k4 j (fun e=>hm (ht j (.inr e))),g4 j (fun e=>hm (ht j (.inl e)))]
theorem Zg{E:Env}(hE:An E){ow:Ow}{s:ASt}{p:Nat}{x:Sf}{v:Sv}(h:SAt ow s p x v){n:Nat}(hn:n≤1000000)(hf:Fit n v)(hcl:∀c ls b,v.cl c=some (ls,b)→BM n ls){c:Nat}{r:Lst}(hr:B5 v c ⟨[],0,[],0,0⟩ v.trail.length 0 r):
    WF E 67 [AR p,AR c] (fun res s'=>∃lv ow' h',res=.tuple [lv,iv r.lev]∧GJ n r∧SAt ow' s' p x (CZ v h')∧h'.length=v.heat.length∧Buf ow' (p,20,0) s' lv (ivs (Ak v r))∧AK (Bh p) ow s ow' s') s:=by
  have hptr:∀i,Bv.val i .ptr=.ptr (some (i,0)):=fun _=>rfl
  have hmap:∀i,Bv.val i .map=.map (some i):=fun _=>rfl
  have hms:∀ (m:Nat) (i:Nat),Bv.val i (.slice m)=.slice (some (i,0)) m (some m):=fun _ _=>rfl
  have bl:=Cd (P:=Try.prog) (t:=23) (v:=iv 0) Try.underlying23 sz3 zr3 rfl rfl
  have hbox:CL 44 (AV.ptr (some (p,0)))=some (AP 44 0 [AR p],.ptr):=by simp[CL,AR,AV.cells]
  have eqp:eqA (.ptr (some (p,0))) (.ptr (some (p,0)))=true:=by simp[eqA]
  have hz:=hf.siz
  refine hE.go kh (by decide) rfl ?_
  generalize e1:AH s (AP 44 0 [AR p])=s1
  have n1:s1.next=s.next+1:=by rw[← e1];rfl
  generalize e2:AH s1 (AP 23 0 [.slice none 0 (some 0)])=s2
  have n2:s2.next=s.next+2:=by rw[← e2];show s1.next+1=_;omega
  generalize e3:AH s2 (AP 3 0 [iv 0])=s3
  have n3:s3.next=s.next+3:=by rw[← e3];show s2.next+1=_;omega
  generalize e4:AH s3 (.map [] 0)=s4
  have n4:s4.next=s.next+4:=by rw[← e4];show s3.next+1=_;omega
  generalize e5:AH s4 (AP 115 0 [.map none])=s5
  have n5:s5.next=s.next+5:=by rw[← e5];show s4.next+1=_;omega
  have b5:Al s5 (s.next+4) (.map none):=by rw[← e5,← n4];exact Al.new
  obtain⟨s6,g6,f6,n6,o6⟩:=b5.store (d:=.map (some (s.next+3))) (t:=115) nw rfl rfl
  generalize e7:AH s6 (AP 3 1 [iv 0])=s7
  have n7:s7.next=s.next+6:=by rw[← e7];show s6.next+1=_;omega
  have o2:Al s2 (s.next+1) (.slice none 0 (some 0)):=by rw[← e2,← n1];exact Al.new
  have b7:Al s7 (s.next+1) (.slice none 0 (some 0)):=o2.keep (by
    rw[← e7,AO,if_neg (by omega),o6 _ (by omega),← e5,AO,if_neg (by omega),← e4,AO,if_neg (by omega),← e3,AO,if_neg (by omega)])
  obtain⟨s8,g8,f8,n8,o8⟩:=b7.store (d:=.slice (some (s.next+5,0)) 1 (some 1)) (t:=23) BU rfl rfl
  generalize e9:AH s8 (AP 3 0 [iv 0])=s9
  have n9:s9.next=s.next+7:=by rw[← e9];show s8.next+1=_;omega
  have b9:Al s9 (s.next+6) (iv 0):=by rw[← e9,show s.next+6=s8.next by omega];exact Al.new
  obtain⟨s10,g10,f10,n10,o10⟩:=b9.store (d:=iv 0) (t:=3) sz3 rfl rfl
  obtain⟨ow1,H,st⟩:=PL h e1 e2 e3 e4 e5 f6 n6 o6 e7 f8 n8 o8 e9 f10 n10 o10
  have hlt:=h.lt
  have l8:AD Try.prog s8 44 (.ptr (some (s.next,0)))=some (AR p):=by
    have b:Al s1 s.next (AR p):=by rw[← e1];exact Al.new
    refine(b.keep ?_).load FS
    rw[o8 _ (by omega),← e7,AO,if_neg (by omega),o6 _ (by omega),← e5,AO,if_neg (by omega),← e4,AO,if_neg (by omega),← e3,AO,if_neg (by omega),← e2,AO,if_neg (by omega)]
  have t8:AD Try.prog s8 23 (.ptr (some (p,7)))=some x.tr:=by
    refine(h.box.keep (s':=s8) ?_).load (k:=7) rfl C1
    rw[o8 _ (by omega),← e7,AO,if_neg (by omega),o6 _ (by omega),← e5,AO,if_neg (by omega),← e4,AO,if_neg (by omega),← e3,AO,if_neg (by omega),← e2,AO,if_neg (by omega),← e1,AO,if_neg (by omega)]
  have l9:AD Try.prog s9 44 (.ptr (some (s.next,0)))=some (AR p):=by rw[← l8];exact Dq (by rw[← e9,AO,if_neg (by omega)])
  have t9:AD Try.prog s9 23 (.ptr (some (p,7)))=some x.tr:=by rw[← t8];exact Dq (by rw[← e9,AO,if_neg (by omega)])
  have l10:AD Try.prog s10 44 (.ptr (some (s.next,0)))=some (AR p):=by rw[← l9];exact Dq (o10 _ (by omega))
  have t10:AD Try.prog s10 23 (.ptr (some (p,7)))=some x.tr:=by rw[← t9];exact Dq (o10 _ (by omega))
  have ln:∀s,Ao Try.prog s 23 x.tr=some (iv (v.trail.length:Int)):=fun s=>by
    have:=h.trail.len Try.underlying23 s
    rw[oF]at this
    exact this
  simp only[AR]at e1 hbox l8 l9 l10
  have q6:s6.next=s.next+5:=by omega
  have q8:s8.next=s.next+6:=by omega
  simp only[c67,gI,gK,gL,gM,gN,AR,hbox,e1,hptr,n1,NK,e2,n2,TO,e3,n3,e4,hmap,n4,Vm,e5,on2,g6,AT,bl,e7,hms,q6,g8,l8,t8,AG,E2,ln,e9,q8,g10,BR,J5,Az,l10,t10,eqp,h.trail.self,Nk,Qa,Qb,Qc,Qd,Qe,Qf,Qg,Qh,Qi,Qj,Qk,Ql,Qm,Qn,true_and,and_true,Qo,Qp,Qq,Qr,Qs,Qt,Qu,Qv,Qw,Qx,Qy,Qz,Ra,Rb,Rc,Rd,Re,Rf,Rg,Rh,Ri,Rj,Rk,Rl,Rm,Ya,Yb,Yc,Rn,Ro,Rp,Yd,Ye,Rq,Rs,Rt,Ru,Rv,Rw,Rx]
  refine SV hE hn hf hcl ?_ hr s10 ow1 v.heat [] _ _ _ _ _ _ _ _ _ _ _ _ (oD _) H ⟨by simp,by simp,oK _,by simp,by simp⟩ ⟨by simp,by simp⟩ (AK.refl _ _ _)
  intro s11 ow11 h11 M y1 y7 y8 y9 y10 y11 y12 y13 y14 y15 y16 y17 y18 y19 y20 H11 I11 M11 st11
  simp only[if_true,Qa,Qb,Qc,Qd,Qe,Qf,Qg,Qh,Qi,Qj,Qk,Ql,Qm,Qn,true_and,and_true,Qo,Qp,Qq,Qr,Qs,Qt,Qu,Qv,Qw,Qx,Qy,Qz,Ra,Rb,Rc,Rd,Re,Rf,Rg,Rh,Ri,Rj,Rk,Rl,Rm,Ya,Yb,Yc,Rn,Ro,Rp,Yd,Ye,Rq,Rs,Rt,Ru,Rv,Rw,Rx]
  refine Un hE H11 hn hz.level I11 ?_
  have hmL:∀ {t:Tag},GG p t→Bh p t:=by
    rintro t ((e | e | e) | e)<;>rw[e]<;>rfl
  have stA:AK (Bh p) ow s ow11 s11:=(st.mono fun _ q=>q.elim).trans (st11.mono fun t ht=>hmL ht)
  obtain⟨lv,b1,b2⟩:=H11.lb
  have hsm:=I11.small
  have hle:=I11.len
  have hlt11:=H11.lt
  have hm20:∀y i,y≠20→¬ ((p,y,i):Tag)=(p,20,0):=fun y i hy=>tne hy
  have fin:∀ (s12 s13:ASt),Al s12 (s.next+1) lv→Buf ow11 (p,20,0) s12 lv (ivs (Ak v r))→AK (· = (p,20,0)) ow11 s11 ow11 s12→s12.next=s11.next →
      Al s13 (s.next+1) lv→Al s13 (s.next+2) (iv r.lev)→AK (· = (p,21,0)) ow11 s12 ow11 s13→s13.next=s12.next →
      ∃s14,unmark s13 M=some s14∧AD Try.prog s14 23 (.ptr (some (s.next+1,0)))=some lv∧AD Try.prog s14 3 (.ptr (some (s.next+2,0)))=some (iv r.lev)∧SAt ow11 s14 p x (CZ v h11)∧Buf ow11 (p,20,0) s14 lv (ivs (Ak v r))∧AK (Bh p) ow s ow11 s14:=by
    intro s12 s13 d1 d2 d3 d4 k1 k2 k3 k4
    have M13:Ca ow11 s13 p M:=(M11.step d3 (hm20 _ _ (by decide))).step k3 (tne (by decide))
    obtain⟨s14,u1,u2,u3⟩:=M13.unmark
    have w1:Al s14 (s.next+1) lv:=k1.keep (u3.heap _ (by omega) (by rw[H11.tg (s.next+1) (by omega) (by omega) (by omega)];exact tne (by decide)))
    have w2:Al s14 (s.next+2) (iv r.lev):=k2.keep (u3.heap _ (by omega) (by rw[H11.tg (s.next+2) (by omega) (by omega) (by omega)];exact tne (by decide)))
    have hno:∀ (z:Nat),16≤z→∀y i,y<16→¬ ((p,y,i):Tag)=(p,z,0):=fun z hz y i hy=>tne (by omega)
    exact⟨s14,u1,w1.load C1,w2.load ag3,((H11.sat.keep16 d3 (hno 20 (by decide))).keep16 k3 (hno 21 (by decide))).keep16 u3 (hno 22 (by decide)),(d2.step k3 (tne (by decide))).step u3 (tne (by decide)),
      ((stA.trans (d3.mono fun t ht=>by rw[ht];rfl)).trans (k3.mono fun t ht=>by rw[ht];rfl)).trans (u3.mono fun t ht=>by rw[ht];rfl)⟩
  have tg12:∀j,j=s.next+1∨j=s.next+2→ow11 j=(p,21,0):=by
    rintro j (e | e)<;>subst e<;>exact H11.tg _ (by omega) (by omega) (by omega)
  cases hfi:BK (Jb v r.lev) r.lits 0 with
  | none =>
    have el:Ak v r=r.hd::r.lits:=by unfold Ak;rw[hfi]
    have hd0:decide ((0:Int)≤-1)=false:=rfl
    simp only[Kr,JI,hd0,lvs,Qa,Qb,Qc,Qd,Qe,Qf,Qg,Qh,Qi,Qj,Qk,Ql,Qm,Qn,true_and,and_true,Qo,Qp,Qq,Qr,Qs,Qt,Qu,Qv,Qw,Qx,Qy,Qz,Ra,Rb,Rc,Rd,Re,Rf,Rg,Rh,Ri,Rj,Rk,Rl,Rm,Ya,Yb,Yc,Rn,Ro,Rp,Yd,Ye,Rq,Rs,Rt,Ru,Rv,Rw,Rx]
    refine dY b1 b2 H11.vb tg12 ?_
    intro s13 k1 k2 k3 k4
    rw[← el]at b2
    obtain⟨s14,u1,u2,u3,u4,u5,u6⟩:=fin s11 s13 b1 b2 (AK.refl _ _ _) rfl k1 k2 k3 k4
    simp only[u1,C8,u2,u3,Qa,Qb,Qc,Qd,Qe,Qf,Qg,Qh,Qi,Qj,Qk,Ql,Qm,Qn,true_and,and_true,Qo,Qp,Qq,Qr,Qs,Qt,Qu,Qv,Qw,Qx,Qy,Qz,Ra,Rb,Rc,Rd,Re,Rf,Rg,Rh,Ri,Rj,Rk,Rl,Rm,Ya,Yb,Yc,Rn,Ro,Rp,Yd,Ye,Rq,Rs,Rt,Ru,Rv,Rw,Rx]
    exact⟨lv,ow11,h11,rfl,I11,u4,H11.hl,u5,u6⟩
  | some i =>
    have el:Ak v r=A0 (r.hd::r.lits) 1 (i+1):=by unfold Ak;rw[hfi]
    have hd0:decide ((0:Int)≤(i:Int))=true:=decide_eq_true (by omega)
    have hfl:=(Fk hfi).2
    simp only[Kr,JI,hd0,lvs,Qa,Qb,Qc,Qd,Qe,Qf,Qg,Qh,Qi,Qj,Qk,Ql,Qm,Qn,true_and,and_true,Qo,Qp,Qq,Qr,Qs,Qt,Qu,Qv,Qw,Qx,Qy,Qz,Ra,Rb,Rc,Rd,Re,Rf,Rg,Rh,Ri,Rj,Rk,Rl,Rm,Ya,Yb,Yc,Rn,Ro,Rp,Yd,Ye,Rq,Rs,Rt,Ru,Rv,Rw,Rx]
    refine mC b1 b2 (i:=i) (by simp;omega) (by simp;omega) (H11.tg _ (by omega) (by omega) (by omega)) (by omega) ?_
    intro s12 d1 d2 d3 d4
    rw[← el]at d2
    have d5:Al s12 (s.next+2) (iv r.lev):=H11.vb.keep (d3.heap _ (by omega) (by rw[H11.tg (s.next+2) (by omega) (by omega) (by omega)];exact hm20 _ _ (by decide)))
    try simp only[Qa,Qb,Qc,Qd,Qe,Qf,Qg,Qh,Qi,Qj,Qk,Ql,Qm,Qn,true_and,and_true,Qo,Qp,Qq,Qr,Qs,Qt,Qu,Qv,Qw,Qx,Qy,Qz,Ra,Rb,Rc,Rd,Re,Rf,Rg,Rh,Ri,Rj,Rk,Rl,Rm,Ya,Yb,Yc,Rn,Ro,Rp,Yd,Ye,Rq,Rs,Rt,Ru,Rv,Rw,Rx]
    refine dY d1 d2 d5 tg12 ?_
    intro s13 k1 k2 k3 k4
    obtain⟨s14,u1,u2,u3,u4,u5,u6⟩:=fin s12 s13 d1 d2 d3 d4 k1 k2 k3 k4
    simp only[u1,C8,u2,u3,Qa,Qb,Qc,Qd,Qe,Qf,Qg,Qh,Qi,Qj,Qk,Ql,Qm,Qn,true_and,and_true,Qo,Qp,Qq,Qr,Qs,Qt,Qu,Qv,Qw,Qx,Qy,Qz,Ra,Rb,Rc,Rd,Re,Rf,Rg,Rh,Ri,Rj,Rk,Rl,Rm,Ya,Yb,Yc,Rn,Ro,Rp,Yd,Ye,Rq,Rs,Rt,Ru,Rv,Rw,Rx]
    exact⟨lv,ow11,h11,rfl,I11,u4,H11.hl,u5,u6⟩
theorem IQ{α:Type}{cs add:List α}{u:α}{k:Nat}(h:(cs++add)[k]? = some u):(k<cs.length∧cs[k]? = some u)∨(cs.length≤k∧add[k - cs.length]? = some u):=by
  rcases oI k cs.length with hlt | hge
  · rw[oR hlt]at h;exact .inl ⟨hlt,h⟩
  · rw[oT hge]at h
    exact .inr ⟨hge,h⟩
theorem Buf.pushN {ow : Ow} {T : Tag} {s : ASt} {v : AV} {cs : List AV} (h : Buf ow T s v cs) {st e : TypeId} {by_ : Nat} (ht : Try.prog.underlying st = some (.slice e)) (hs : BB    Try.prog e = some 1) (hb : CM     Try.prog e = some by_) (hby : by_ ≤ 100) (hx : A9           Try.prog st = true) (hz : By     Try.prog e 1 = true)
    (hl:cs.length≤1000000000) {add:List AV} (hne:0<add.length) (hal:add.length≤1000) (hac:Af add=true) {w:AV} (hsrc:Bg Try.prog s e 1 w=some (add.length,add)) (hw:∃aw cw,w=.slice aw add.length cw):
    ∃v' s' ow',AY Try.prog s [st,st] [v,w]=some (v',s')∧Buf ow' T s' v' (cs++add)∧AK (· = T) ow s ow' s':=by
  obtain⟨aw,cw,rfl⟩:=hw
  have hnn:add≠[]:=fun e=>by rw[e]at hne;cases hne
  have hmul:(cs.length+add.length) * by_≤(cs.length+add.length) * 100:=px _ hby
  have fresh:∀ (s1:ASt),AK (· = T) ow s ow s1→s1.next=s.next→(∀ (c:Aj AV) (par:Option Nat),(∀k u,(cs++add)[k]? = some u→c.get k=some u)→(∀p,par=some p→ow p=T∧p<s.next) →
      ∃ow',Buf ow' T (AH s1 (B6 e 1 c (cs++add).length par)) (.slice (some (s.next,0)) (cs.length+add.length) none) (cs++add)∧AK (· = T) ow s ow' (AH s1 (B6 e 1 c (cs++add).length par))):=by
    intro s1 hst hn c par hcg hpar
    refine⟨ext ow s1.next T,.inr ⟨s.next,0,none,{ elem:=e,sz:=1,n:=(cs++add).length,c,spare:=true,mode:=.own,par,bytes:=false },by rw[oL],⟨by rw[AO,if_pos hn.symm];rfl,ER (by omega),by show s.next<s1.next+1;omega,rfl,rfl,fun p hp=>?_⟩,fun k u hk=>by rw[oN];exact hcg k u hk,by rw[oN];exact oD _,⟨rfl,by show 0<(cs++add).length;rw[oL];omega⟩⟩,hst.trans (AK.new _ ow s1 _ T)⟩
    obtain⟨h1,h2⟩:=hpar p hp
    exact⟨by rw[FU (by omega)];exact h1,by show p<s1.next+1;omega,by omega⟩
  rcases h with⟨rfl,rfl⟩ | ⟨i,o,cap,r,rfl,h2,h3,h4,h5⟩
  · obtain⟨ow',g1,g2⟩:=fresh s (AK.refl _ _ _) rfl (Aj.fill .leaf 0 add) none (fun k u hk=>by
      have:=Cy (t:=Aj.leaf) (n:=0) hk
      rw[oN]at this
      exact this) (fun p hp=>by cases hp)
    refine⟨_,_,ow',?_,g1,g2⟩
    have hmul':(0+add.length) * by_≤(0+add.length) * 100:=px _ hby
    rw[BO ht hs hb (by decide) hx hsrc hac (by omega) (by omega)]
    simp only[appTo,EB (show add.length≠0 by omega),cond_false,BV,AF,hz,cond_true,oz,pH,oN]
  · have happ := BO         (st := st) (xt := st) (a := some (i, o)) (n := cs.length) (cap := cap) ht hs hb (by decide) hx hsrc hac (by omega) (by omega)
    have hcells:loadN s i o (cs.length * 1)=some cs:=by
      have hrow:BA s i=some r:=by simp[BA,h2.get]
      simp only[loadN,hrow,Option.bind_some,oV,A1 h4,AF,cond_true]
      exact KM _ _ fun j u hj=>h3 j u hj
    have freshC:∀k u,(cs++add)[k]? = some u→(Aj.fill .leaf 0 (cs++add)).get k=some u:=fun k u hk=>by
      have:=Cy (t:=Aj.leaf) (n:=0) hk
      rw[oN]at this
      exact this
    cases cap with
    | some c =>
      obtain⟨h6,h7⟩:=h5
      by_cases hfit:cs.length+add.length≤c
      · obtain⟨s',g1,g2,g3,g4⟩:=h2.store (o:=o+cs.length * 1) (vs:=add) hnn (by omega) hac
        refine⟨.slice (some (i,o)) (cs.length+add.length) (some c),s',ow,?_,.inr ⟨i,o,some c,_,by rw[oL],g2,fun k u hk=>?_,by rw[oL];show o+(cs.length+add.length)≤r.n;omega,by rw[oL];exact⟨hfit,h7⟩⟩,g3⟩
        · rw[happ]
          simp only[appTo,Cw,A1 hfit,cond_true,g1,Option.bind_some]
        · show(Aj.fill r.c (o+cs.length * 1) add).get (o+k)=some u
          rcases IQ hk with⟨k1,k2⟩ | ⟨k1,k2⟩
          · rw[E3 (by omega)];exact h3 k u k2
          · have:=Cy (t:=r.c) (n:=o+cs.length * 1) k2
            rw[show o+k=o+cs.length * 1+(k - cs.length) by omega];exact this
      · obtain⟨ow',g1,g2⟩:=fresh s (AK.refl _ _ _) rfl (Aj.fill .leaf 0 (cs++add)) none freshC (fun p hp=>by cases hp)
        refine⟨_,_,ow',?_,g1,g2⟩
        rw[happ]
        simp only[appTo,Cw,Ej (show c<cs.length+add.length by omega),cond_false,hcells,Option.bind_some,BV,AF,hz,cond_true]
    | none =>
      have h5:o=0:=h5.1
      subst h5
      have hrow:BA s i=some r:=by simp[BA,h2.get]
      by_cases hfit:cs.length+add.length≤r.n
      · obtain⟨s',g1,g2,g3,g4⟩:=h2.store (o:=0+cs.length * 1) (vs:=add) hnn (by omega) hac
        refine⟨.slice (some (i,0)) (cs.length+add.length) none,s',ow,?_,.inr ⟨i,0,none,_,by rw[oL],g2,fun k u hk=>?_,by rw[oL];show 0+(cs.length+add.length)≤r.n;omega,⟨rfl,by show 0<r.n;omega⟩⟩,g3⟩
        · rw[happ]
          simp only[appTo,hrow,Option.bind_some,C2,h2.sz,Dl rfl,AF,cond_true,A1 (show 0+(cs.length+add.length) * 1≤r.n by omega),g1]
        · show(Aj.fill r.c (0+cs.length * 1) add).get (0+k)=some u
          rcases IQ hk with⟨k1,k2⟩ | ⟨k1,k2⟩
          · rw[E3 (by omega)];exact h3 k u k2
          · have:=Cy (t:=r.c) (n:=0+cs.length * 1) k2
            rw[show 0+k=0+cs.length * 1+(k - cs.length) by omega];exact this
      · have hnf:Nat.ble (0+(cs.length+add.length) * 1) r.n=false:=Ej (by omega)
        cases hsp:r.spare with
        | false =>
          obtain⟨ow',g1,g2⟩:=fresh s (AK.refl _ _ _) rfl (Aj.fill .leaf 0 (cs++add)) none freshC (fun p hp=>by cases hp)
          refine⟨_,_,ow',?_,g1,g2⟩
          rw[happ]
          simp only[appTo,hrow,Option.bind_some,C2,h2.sz,Dl rfl,AF,cond_true,hnf,cond_false,hcells,hsp,BV,hz]
        | true =>
          have hun:(Ax s i r).next=s.next:=by
            unfold Ax
            split
            · rfl
            · rename_i p _
              cases Nat.beq p i<;>rfl
          have hunh:∀y,y<s.next→¬ ow y=T→(Ax s i r).heap.get y=s.heap.get y:=fun y hy hm=>by
            unfold Ax
            cases hp:r.par with
            | none=>rfl
            | some p =>
              obtain⟨k1,k2,k3⟩:=h2.par p hp
              simp only[EB k3,cond_false]
              rw[Bi,if_neg (fun e=>hm (by rw[e];exact k1))]
          have hcc:∀k u,(cs++add)[k]? = some u→(r.c.fill (cs.length * 1) add).get k=some u:=fun k u hk=>by
            rcases IQ hk with⟨k1,k2⟩ | ⟨k1,k2⟩
            · rw[E3 (by omega)]
              have:=h3 k u k2
              rw[oN]at this
              exact this
            · have:=Cy (t:=r.c) (n:=cs.length * 1) k2
              rw[show k=cs.length * 1+(k - cs.length) by omega]
              exact this
          cases hends:Nat.beq (0+cs.length * 1) r.n with
          | true =>
            have hst:AK (· = T) ow s ow (setObj (Ax s i r) i (.row { r with mode:=.sealed,par:=none })):=by
              refine⟨by show s.next≤(Ax s i r).next;omega,fun _ _ _=>rfl,fun y hy hm=>?_⟩
              have hyi:y≠i:=fun e=>hm (by rw[e];exact h2.whose)
              rw[Ai,if_neg hyi]
              exact hunh y hy hm
            obtain⟨ow',g1,g2⟩:=fresh _ hst hun (r.c.fill (cs.length * 1) add) (some i) hcc (fun p hp=>by injection hp with hp;subst hp;exact⟨h2.whose,h2.lt⟩)
            refine⟨_,_,ow',?_,g1,g2⟩
            rw[happ]
            simp only[appTo,hrow,Option.bind_some,C2,h2.sz,Dl rfl,AF,cond_true,hnf,cond_false,hcells,hsp,DF,h2.own,FL,hz,Bool.and_self,hends,Cf]
          | false =>
            have hst:AK (· = T) ow s ow (Bc (Ax s i r) i):=by
              refine⟨by show s.next≤(Ax s i r).next;omega,fun _ _ _=>rfl,fun y hy hm=>?_⟩
              have hyi:y≠i:=fun e=>hm (by rw[e];exact h2.whose)
              rw[Bi,if_neg hyi]
              exact hunh y hy hm
            obtain⟨ow',g1,g2⟩:=fresh _ hst hun (r.c.fill (cs.length * 1) add) none hcc (fun p hp=>by cases hp)
            refine⟨_,_,ow',?_,g1,g2⟩
            rw[happ]
            simp only[appTo,hrow,Option.bind_some,C2,h2.sz,Dl rfl,AF,cond_true,hnf,cond_false,hcells,hsp,DF,h2.own,FL,hz,Bool.and_self,hends,Cf]
def PD(v:Sv):Sv:={ v with watches:=v.watches++[[],[]],value:=v.value++[0],level:=v.level++[0],why:=v.why++[none],heat:=v.heat++[0],phase:=v.phase++[-1] }
def Tr:Nat→Sv→Sv
  | 0,v=>v
  | k+1,v=>Tr k (PD v)
def Ts(v:Sv)(n:Nat):Sv:=Tr (n+1 - v.value.length) v
theorem mM:Ad Try.prog 88 2 (zipIdx [0,1] [.slice none 0 (some 0),.slice none 0 (some 0)])=some (AP 89 1 [.slice none 0 (some 0),.slice none 0 (some 0)]):=by
  simp[Ad,Try.underlying88,EX,AF,oC,zipIdx,Dm,AV.cells,rep]
  rfl
theorem DE.put{ow:Ow}{s:ASt}{p k:Nat}{cs:List AV}(h:DE s p cs)(ht:ow p=(p,0,0))(hk:k<cs.length){t:TypeId}(hs:BB Try.prog t=some 1){d:AV}(h1:d.isCell=true)(h2:d.cells=[d]):
    ∃s',AN Try.prog s t (.ptr (some (p,k))) d=some s'∧DE s' p (cs.set k d)∧AK (· = (p,0,0)) ow s ow s'∧s'.next=s.next:=by
  obtain⟨s',g1,g2,g3,g4⟩:=h.store (k:=k) (d:=d) hk hs h1 h2
  exact⟨s',g1,g2,⟨by omega,fun _ _ _=>rfl,fun y _ hm=>g4 y fun e=>hm (by rw[e];exact ht)⟩,g3⟩
theorem SAt.push_w{ow:Ow}{s:ASt}{p:Nat}{x:Sf}{v:Sv}(h:SAt ow s p x v)(hl:v.watches.length≤1000000000){q:Nat}{ty sz':Nat}(hq:s.heap.get q=some (AP ty sz' [.slice none 0 (some 0),.slice none 0 (some 0)])):
    ∃u s' s'' ow',AY Try.prog s [88,88] [x.w,.slice (some (q,0)) 2 (some 2)]=some (u,s')∧AN Try.prog s' 88 (.ptr (some (p,0))) u=some s''∧SAt ow' s'' p { x with w:=u } { v with watches:=v.watches++[[],[]] }∧AK (Bh p) ow s ow' s'':=by
  obtain⟨us,w1,w2,w3⟩:=h.w
  have src:=GA (P:=Try.prog) (e:=89) (s:=s) (n:=2) (cap:=some 2) (sz:=1) ty sz' hq rfl
  obtain⟨u,s',ow',g1,g2,g3⟩:=w2.pushN (st:=88) (e:=89) Try.underlying88 EX by89 (by decide) nu lg (by omega) (add:=[.slice none 0 (some 0),.slice none 0 (some 0)]) (by decide) (by decide) rfl src ⟨_,_,rfl⟩
  have hm1:∀a i,a≠1→¬ ((p,a,i):Tag)=(p,1,0):=fun a i ha=>tne ha
  have hl:=h.lt
  have hn:=g3.next
  have hb:DE s' p (DP x v):=h.box.step g3 h.tag h.lt (hm1 0 0 (by decide))
  have ht:ow' p=(p,0,0):=by rw[g3.tags p h.lt (by rw[h.tag];exact hm1 0 0 (by decide))];exact h.tag
  obtain⟨s'',k1,k2,k3,k4⟩:=hb.put ht (k:=0) (d:=u) (by simp) (t:=88) Gv g2.isCell.1 g2.isCell.2
  have hm0:∀a i,a≠0→¬ ((p,a,i):Tag)=(p,0,0):=fun a i ha=>tne ha
  have st:AK (fun t=>t=(p,1,0)∨t=(p,0,0)) ow s ow' s'':=(g3.mono fun t ht=>.inl ht).trans (k3.mono fun t ht=>.inr ht)
  have hm:∀a i,a ∉ [0,1]→¬ (((p,a,i):Tag)=(p,1,0)∨((p,a,i):Tag)=(p,0,0)):=fun a i ha=>by
    rintro(e | e)
    · exact tne (fun q=>ha (by rw[q];decide)) e
    · exact tne (fun q=>ha (by rw[q];decide)) e
  refine⟨u,s',s'',ow',g1,k1,{ box:=k2,tag:=ht,lt:=by omega,w:=?_,learned:=h.learned.step st (hm 3 0 (by decide)),value:=h.value.step st (hm 4 0 (by decide)),level:=h.level.step st (hm 5 0 (by decide)),why:=h.why.step st (hm 6 0 (by decide)),heat:=h.heat.step st (hm 7 0 (by decide)),phase:=h.phase.step st (hm 8 0 (by decide)),trail:=h.trail.step st (hm 9 0 (by decide)),limits:=h.limits.step st (hm 10 0 (by decide)),model:=h.model.step st (hm 11 0 (by decide)),trace:=h.trace.step st (hm 12 0 (by decide)) (hm 13 0 (by decide)),cls:=fun c l hc=>(h.cls c l hc).step st (hm 14 c (by decide)) (hm 15 c (by decide)) },st.mono fun t ht=>by rcases ht with e | e<;>rw[e]<;>rfl⟩
  refine⟨us++[.slice none 0 (some 0),.slice none 0 (some 0)],by rw[oL,oL,w1];rfl,g2.step k3 (hm0 1 0 (by decide)),fun j L hj=>?_⟩
  rcases IQ hj with⟨j1,j2⟩ | ⟨j1,j2⟩
  · obtain⟨u',r1,r2⟩:=w3 j L j2
    exact⟨u',by rw[oR (by omega)];exact r1,(r2.step st (hm 2 j (by decide)))⟩
  · have e:L=[]:=by
      have:=oG j2
      simpa using this
    subst e
    refine⟨.slice none 0 (some 0),?_,Buf.nil _ _ _⟩
    rw[oT (by omega),w1]
    have:=Ab j2
    generalize hz:j - v.watches.length=z at *
    match z,this with
    | 0,_=>rfl
    | 1,_=>rfl
theorem SAt.push_vlw{ow:Ow}{s:ASt}{p:Nat}{x:Sf}{v:Sv}(h:SAt ow s p x v)(hl1:v.value.length≤1000000000)(hl2:v.level.length≤1000000000)(hl3:v.why.length≤1000000000){q1 q2 q3:Nat}(hq1:s.heap.get q1=some (AP 3 1 [iv 0]))(hq2:s.heap.get q2=some (AP 3 1 [iv 0]))(hq3:s.heap.get q3=some (AP 92 1 [.ptr none]))(t2:ow q2=(0,0,0)∧q2<s.next)(t3:ow q3=(0,0,0)∧q3<s.next):
    ∃u1 u2 u3 s1 s2 s3 s4 s5 s6 ow',AY Try.prog s [23,23] [x.val,.slice (some (q1,0)) 1 (some 1)]=some (u1,s1)∧AY Try.prog s1 [23,23] [x.lev,.slice (some (q2,0)) 1 (some 1)]=some (u2,s2)∧AY Try.prog s2 [89,89] [x.why,.slice (some (q3,0)) 1 (some 1)]=some (u3,s3) ∧
      AN Try.prog s3 23 (.ptr (some (p,2))) u1=some s4∧AN Try.prog s4 23 (.ptr (some (p,3))) u2=some s5∧AN Try.prog s5 89 (.ptr (some (p,4))) u3=some s6 ∧
      SAt ow' s6 p { x with val:=u1,lev:=u2,why:=u3 } { v with value:=v.value++[0],level:=v.level++[0],why:=v.why++[none] }∧AK (Bh p) ow s ow' s6 ∧
      (∀t a,AD Try.prog s t (.ptr (some (p,a)))=AD Try.prog s1 t (.ptr (some (p,a)))∧AD Try.prog s t (.ptr (some (p,a)))=AD Try.prog s2 t (.ptr (some (p,a)))):=by
  have hlt:=h.lt
  have z0:∀a,a≠0→¬ ((0,0,0):Tag)=(p,a,0):=fun a ha e=>by
    injection e with _ e
    injection e with e _
    exact ha e.symm
  obtain⟨u1,s1,ow1,a1,a2,a3⟩:=h.value.push (st:=23) (e:=3) Try.underlying23 sz3 by3 (by decide) Lu Ip (by rw[oF];exact hl1) (x:=iv 0) rfl hq1
  have n1:=a3.next
  have r2:s1.heap.get q2=some (AP 3 1 [iv 0]):=(a3.heap q2 t2.2 (by rw[t2.1];exact z0 4 (by decide))).trans hq2
  obtain⟨u2,s2,ow2,b1,b2,b3⟩:=(h.level.step a3 (tne (by decide))).push (st:=23) (e:=3) Try.underlying23 sz3 by3 (by decide) Lu Ip (by rw[oF];exact hl2) (x:=iv 0) rfl r2
  have n2:=b3.next
  have r3:s2.heap.get q3=some (AP 92 1 [.ptr none]):=by
    have e:=a3.heap q3 t3.2 (by rw[t3.1];exact z0 4 (by decide))
    have o:=a3.tags q3 t3.2 (by rw[t3.1];exact z0 4 (by decide))
    exact((b3.heap q3 (by omega) (by rw[o,t3.1];exact z0 5 (by decide))).trans e).trans hq3
  obtain⟨u3,s3,ow3,c1,c2,c3⟩:=((h.why.step a3 (tne (by decide))).step b3 (tne (by decide))).push (st:=89) (e:=92) Try.underlying89 Gw Vu (by decide) Pw TC (by rw[oF];exact hl3) (x:=.ptr none) rfl r3
  have n3:=c3.next
  have stA:AK (fun t=>t=(p,4,0)∨t=(p,5,0)∨t=(p,6,0)) ow s ow3 s3:=((a3.mono fun t ht=>.inl ht).trans (b3.mono fun t ht=>.inr (.inl ht))).trans (c3.mono fun t ht=>.inr (.inr ht))
  have hm3:∀a i,a ∉ [4,5,6]→¬ (((p,a,i):Tag)=(p,4,0)∨((p,a,i):Tag)=(p,5,0)∨((p,a,i):Tag)=(p,6,0)):=fun a i ha=>by
    rintro(e | e | e)
    · exact tne (fun q=>ha (by rw[q];decide)) e
    · exact tne (fun q=>ha (by rw[q];decide)) e
    · exact tne (fun q=>ha (by rw[q];decide)) e
  have hb:DE s3 p (DP x v):=h.box.step stA h.tag h.lt (hm3 0 0 (by decide))
  have ht:ow3 p=(p,0,0):=by rw[stA.tags p h.lt (by rw[h.tag];exact hm3 0 0 (by decide))];exact h.tag
  obtain⟨s4,d1,d2,d3,d4⟩:=hb.put ht (k:=2) (d:=u1) (by simp) (t:=23) BU a2.isCell.1 a2.isCell.2
  obtain⟨s5,e1,e2,e3,e4⟩:=d2.put ht (k:=3) (d:=u2) (by simp) (t:=23) BU b2.isCell.1 b2.isCell.2
  obtain⟨s6,f1,f2,f3,f4⟩:=e2.put ht (k:=4) (d:=u3) (by simp) (t:=89) EX c2.isCell.1 c2.isCell.2
  have stB:AK (· = (p,0,0)) ow3 s3 ow3 s6:=(d3.trans e3).trans f3
  have hm0:∀a i,a≠0→¬ ((p,a,i):Tag)=(p,0,0):=fun a i ha=>tne ha
  have st:AK (fun t=>(t=(p,4,0)∨t=(p,5,0)∨t=(p,6,0))∨t=(p,0,0)) ow s ow3 s6:=(stA.mono fun t ht=>.inl ht).trans (stB.mono fun t ht=>.inr ht)
  have hm:∀a i,a ∉ [0,4,5,6]→¬ ((((p,a,i):Tag)=(p,4,0)∨((p,a,i):Tag)=(p,5,0)∨((p,a,i):Tag)=(p,6,0))∨((p,a,i):Tag)=(p,0,0)):=fun a i ha=>by
    rintro(e | e)
    · exact hm3 a i (fun q=>ha (oJ _ q)) e
    · exact tne (fun q=>ha (by rw[q];decide)) e
  refine⟨u1,u2,u3,s1,s2,s3,s4,s5,s6,ow3,a1,b1,c1,d1,e1,f1,{ box:=f2,tag:=ht,lt:=by omega,w:=h.w.step st (hm 1 0 (by decide)) (fun j=>hm 2 j (by decide)),learned:=h.learned.step st (hm 3 0 (by decide)),value:=by show Buf ow3 (p,4,0) s6 u1 (List.map iv (v.value++[0]));rw[pB];exact((a2.step b3 (tne (by decide))).step c3 (tne (by decide))).step stB (hm0 4 0 (by decide)),level:=by show Buf ow3 (p,5,0) s6 u2 (List.map iv (v.level++[0]));rw[pB];exact(b2.step c3 (tne (by decide))).step stB (hm0 5 0 (by decide)),why:=by show Buf ow3 (p,6,0) s6 u3 (List.map Io (v.why++[none]));rw[pB];exact c2.step stB (hm0 6 0 (by decide)),heat:=h.heat.step st (hm 7 0 (by decide)),phase:=h.phase.step st (hm 8 0 (by decide)),trail:=h.trail.step st (hm 9 0 (by decide)),limits:=h.limits.step st (hm 10 0 (by decide)),model:=h.model.step st (hm 11 0 (by decide)),trace:=h.trace.step st (hm 12 0 (by decide)) (hm 13 0 (by decide)),cls:=fun c l hc=>(h.cls c l hc).step st (hm 14 c (by decide)) (hm 15 c (by decide)) },st.mono fun t ht=>by rcases ht with(e | e | e) | e<;>rw[e]<;>rfl,fun t a=>⟨(Dq (a3.heap p hlt (by rw[h.tag];exact tne (by decide)))).symm,?_⟩⟩
  · have o:=a3.tags p hlt (by rw[h.tag];exact tne (by decide))
    rw[Dq (b3.heap p (by omega) (by rw[o,h.tag];exact tne (by decide)))]
    exact(Dq (a3.heap p hlt (by rw[h.tag];exact tne (by decide)))).symm
theorem SAt.push_hp{ow:Ow}{s:ASt}{p:Nat}{x:Sf}{v:Sv}(h:SAt ow s p x v)(hl1:v.heat.length≤1000000000)(hl2:v.phase.length≤1000000000){q1 q2:Nat}(hq1:s.heap.get q1=some (AP 3 1 [iv 0]))(hq2:s.heap.get q2=some (AP 3 1 [iv (-1)]))(t2:ow q2=(0,0,0)∧q2<s.next):
    ∃u1 u2 s1 s2 s3 s4 ow',AY Try.prog s [23,23] [x.heat,.slice (some (q1,0)) 1 (some 1)]=some (u1,s1)∧AY Try.prog s1 [23,23] [x.ph,.slice (some (q2,0)) 1 (some 1)]=some (u2,s2) ∧
      AN Try.prog s2 23 (.ptr (some (p,5))) u1=some s3∧AN Try.prog s3 23 (.ptr (some (p,6))) u2=some s4 ∧
      SAt ow' s4 p { x with heat:=u1,ph:=u2 } { v with heat:=v.heat++[0],phase:=v.phase++[-1] }∧AK (Bh p) ow s ow' s4 ∧
      (∀t a,AD Try.prog s t (.ptr (some (p,a)))=AD Try.prog s1 t (.ptr (some (p,a)))):=by
  have hlt:=h.lt
  have z0:∀a,a≠0→¬ ((0,0,0):Tag)=(p,a,0):=fun a ha e=>by
    injection e with _ e
    injection e with e _
    exact ha e.symm
  obtain⟨u1,s1,ow1,a1,a2,a3⟩:=h.heat.push (st:=23) (e:=3) Try.underlying23 sz3 by3 (by decide) Lu Ip (by rw[oF];exact hl1) (x:=iv 0) rfl hq1
  have n1:=a3.next
  have r2:s1.heap.get q2=some (AP 3 1 [iv (-1)]):=(a3.heap q2 t2.2 (by rw[t2.1];exact z0 7 (by decide))).trans hq2
  obtain⟨u2,s2,ow2,b1,b2,b3⟩:=(h.phase.step a3 (tne (by decide))).push (st:=23) (e:=3) Try.underlying23 sz3 by3 (by decide) Lu Ip (by rw[oF];exact hl2) (x:=iv (-1)) rfl r2
  have n2:=b3.next
  have stA:AK (fun t=>t=(p,7,0)∨t=(p,8,0)) ow s ow2 s2:=(a3.mono fun t ht=>.inl ht).trans (b3.mono fun t ht=>.inr ht)
  have hm3:∀a i,a ∉ [7,8]→¬ (((p,a,i):Tag)=(p,7,0)∨((p,a,i):Tag)=(p,8,0)):=fun a i ha=>by
    rintro(e | e)
    · exact tne (fun q=>ha (by rw[q];decide)) e
    · exact tne (fun q=>ha (by rw[q];decide)) e
  have hb:DE s2 p (DP x v):=h.box.step stA h.tag h.lt (hm3 0 0 (by decide))
  have ht:ow2 p=(p,0,0):=by rw[stA.tags p h.lt (by rw[h.tag];exact hm3 0 0 (by decide))];exact h.tag
  obtain⟨s3,d1,d2,d3,d4⟩:=hb.put ht (k:=5) (d:=u1) (by simp) (t:=23) BU a2.isCell.1 a2.isCell.2
  obtain⟨s4,e1,e2,e3,e4⟩:=d2.put ht (k:=6) (d:=u2) (by simp) (t:=23) BU b2.isCell.1 b2.isCell.2
  have stB:AK (· = (p,0,0)) ow2 s2 ow2 s4:=d3.trans e3
  have hm0:∀a i,a≠0→¬ ((p,a,i):Tag)=(p,0,0):=fun a i ha=>tne ha
  have st:AK (fun t=>(t=(p,7,0)∨t=(p,8,0))∨t=(p,0,0)) ow s ow2 s4:=(stA.mono fun t ht=>.inl ht).trans (stB.mono fun t ht=>.inr ht)
  have hm:∀a i,a ∉ [0,7,8]→¬ ((((p,a,i):Tag)=(p,7,0)∨((p,a,i):Tag)=(p,8,0))∨((p,a,i):Tag)=(p,0,0)):=fun a i ha=>by
    rintro(e | e)
    · exact hm3 a i (fun q=>ha (oJ _ q)) e
    · exact tne (fun q=>ha (by rw[q];decide)) e
  exact⟨u1,u2,s1,s2,s3,s4,ow2,a1,b1,d1,e1,{ box:=e2,tag:=ht,lt:=by omega,w:=h.w.step st (hm 1 0 (by decide)) (fun j=>hm 2 j (by decide)),learned:=h.learned.step st (hm 3 0 (by decide)),value:=h.value.step st (hm 4 0 (by decide)),level:=h.level.step st (hm 5 0 (by decide)),why:=h.why.step st (hm 6 0 (by decide)),heat:=by show Buf ow2 (p,7,0) s4 u1 (List.map iv (v.heat++[0]));rw[pB];exact(a2.step b3 (tne (by decide))).step stB (hm0 7 0 (by decide)),phase:=by show Buf ow2 (p,8,0) s4 u2 (List.map iv (v.phase++[-1]));rw[pB];exact b2.step stB (hm0 8 0 (by decide)),trail:=h.trail.step st (hm 9 0 (by decide)),limits:=h.limits.step st (hm 10 0 (by decide)),model:=h.model.step st (hm 11 0 (by decide)),trace:=h.trace.step st (hm 12 0 (by decide)) (hm 13 0 (by decide)),cls:=fun c l hc=>(h.cls c l hc).step st (hm 14 c (by decide)) (hm 15 c (by decide)) },st.mono fun t ht=>by rcases ht with(e | e) | e<;>rw[e]<;>rfl,fun t a=>(Dq (a3.heap p hlt (by rw[h.tag];exact tne (by decide)))).symm⟩
def Szs(B:Nat)(v:Sv):Prop:=v.watches.length≤2 * B∧v.value.length≤B∧v.level.length≤B∧v.why.length≤B∧v.heat.length≤B∧v.phase.length≤B
theorem Szs.one{B:Nat}{v:Sv}(h:Szs B v):Szs (B+1) (PD v):=by
  obtain⟨h1,h2,h3,h4,h5,h6⟩:=h
  refine⟨?_,?_,?_,?_,?_,?_⟩<;>simp[PD]<;>omega
theorem cZ{E:Env}{K:List AV→ASt→Prop}{ow:Ow}{s:ASt}{p:Nat}{x:Sf}{v:Sv}(h:SAt ow s p x v)(hl:v.watches.length≤1000000000)(x1 x2 x3:AV)
    (hK:∀s' ow' u,SAt ow' s' p { x with w:=u } { v with watches:=v.watches++[[],[]] }→AK (Bh p) ow s ow' s'→K [AV.ptr (some (p,0)),x1,x2,x3] s'):Qb E Xo K [] [AV.ptr (some (p,0)),x1,x2,x3] s:=by
  have hms:∀ (m:Nat) (i:Nat),Bv.val i (.slice m)=.slice (some (i,0)) m (some m):=fun _ _=>rfl
  have st:AK (fun _=>False) ow s (ext ow s.next (0,0,0)) (AH s (AP 89 1 [.slice none 0 (some 0),.slice none 0 (some 0)])):=AK.new _ ow s _ _
  have h1:=h.keep st (fun _ q=>q.elim)
  obtain⟨u,s1,s2,ow',g1,g2,g3,g4⟩:=h1.push_w hl (q:=s.next) (ty:=89) (sz':=1) (by rw[AO,if_pos rfl])
  simp only[Xo,AG,JE,h.ld_w,mM,hms,g1,on2,g2,AT,Qa,Qb,Qc,Qd,Qe,Qf,Qg,Qh,Qi,Qj,Qk,Ql,Qm,Qn,true_and,and_true,Qo,Qp,Qq,Qr,Qs,Qt,Qu,Qv,Qw,Qx,Qy,Qz,Ra,Rb,Rc,Rd,Re,Rf,Rg,Rh,Ri,Rj,Rk,Rl,Rm,Ya,Yb,Yc,Rn,Ro,Rp,Yd,Ye,Rq,Rs,Rt,Ru,Rv,Rw,Rx]
  exact hK s2 ow' u g3 ((st.mono fun _ q=>q.elim).trans g4)
theorem cc{E:Env}{K:List AV→ASt→Prop}{ow:Ow}{s:ASt}{p:Nat}{x:Sf}{v:Sv}(h:SAt ow s p x v)(hl1:v.value.length≤1000000000)(hl2:v.level.length≤1000000000)(hl3:v.why.length≤1000000000)(x1 x2 x3:AV)
    (hK:∀s' ow' u1 u2 u3,SAt ow' s' p { x with val:=u1,lev:=u2,why:=u3 } { v with value:=v.value++[0],level:=v.level++[0],why:=v.why++[none] }→AK (Bh p) ow s ow' s'→K [AV.ptr (some (p,0)),x1,x2,x3] s'):Qb E Xp K [] [AV.ptr (some (p,0)),x1,x2,x3] s:=by
  have hms:∀ (m:Nat) (i:Nat),Bv.val i (.slice m)=.slice (some (i,0)) m (some m):=fun _ _=>rfl
  have b3:=Cd (P:=Try.prog) (t:=23) (v:=iv 0) Try.underlying23 sz3 zr3 rfl rfl
  have b92:=Cd (P:=Try.prog) (t:=89) (v:=.ptr none) Try.underlying89 Gw Ve rfl rfl
  generalize e1:AH s (AP 3 1 [iv 0])=s1
  have n1:s1.next=s.next+1:=by rw[← e1];rfl
  have o1:Old s.next s s1:=by rw[← e1];exact Old.new s _
  generalize e2:AH s1 (AP 3 1 [iv 0])=s2
  have n2:s2.next=s.next+2:=by rw[← e2];show s1.next+1=_;omega
  have o2:Old (s.next+1) s1 s2:=by rw[← e2,← n1];exact Old.new s1 _
  generalize e3:AH s2 (AP 92 1 [.ptr none])=s3
  have n3:s3.next=s.next+3:=by rw[← e3];show s2.next+1=_;omega
  have o3:Old (s.next+2) s2 s3:=by rw[← e3,← n2];exact Old.new s2 _
  have h1:=h.keep (AK.old (m:=fun _=>False) o1 (0,0,0)) (fun _ q=>q.elim)
  have oo:Old s.next s s2:=o1.trans (o2.mono (by omega))
  have h2:=h.keep (AK.old (m:=fun _=>False) oo (0,0,0)) (fun _ q=>q.elim)
  have o:Old s.next s s3:=oo.trans (o3.mono (by omega))
  have st:AK (fun _=>False) ow s (ext ow s.next (0,0,0)) s3:=AK.old o _
  have h3:=h.keep st (fun _ q=>q.elim)
  obtain⟨u1,u2,u3,t1,t2,t3,t4,t5,t6,ow',g1,g2,g3,g4,g5,g6,g7,g8,g9⟩:=h3.push_vlw hl1 hl2 hl3 (q1:=s.next) (q2:=s.next+1) (q3:=s.next+2)
    (by rw[o3.2 _ (by omega),o2.2 _ (by omega),← e1,AO,if_pos rfl]) (by rw[o3.2 _ (by omega),← e2,AO,if_pos (by omega)]) (by rw[← e3,AO,if_pos (by omega)]) ⟨ER (by omega),by omega⟩ ⟨ER (by omega),by omega⟩
  have q1:AD Try.prog t1 23 (.ptr (some (p,3)))=some x.lev:=by rw[← (g9 23 3).1];exact h3.ld_lev
  have q2:AD Try.prog t1 89 (.ptr (some (p,4)))=some x.why:=by rw[← (g9 89 4).1];exact h3.ld_why
  have q3:AD Try.prog t2 89 (.ptr (some (p,4)))=some x.why:=by rw[← (g9 89 4).2];exact h3.ld_why
  simp only[Xp,AG,ES,JF,Nn,h.ld_val,b3,e1,hms,h1.ld_lev,n1,e2,h2.ld_why,b92,n2,e3,g1,BR,Az,q1,q2,h3.level.self,h3.why.self,g2,q3,g3,on2,g4,g5,g6,AT,Qa,Qb,Qc,Qd,Qe,Qf,Qg,Qh,Qi,Qj,Qk,Ql,Qm,Qn,true_and,and_true,Qo,Qp,Qq,Qr,Qs,Qt,Qu,Qv,Qw,Qx,Qy,Qz,Ra,Rb,Rc,Rd,Re,Rf,Rg,Rh,Ri,Rj,Rk,Rl,Rm,Ya,Yb,Yc,Rn,Ro,Rp,Yd,Ye,Rq,Rs,Rt,Ru,Rv,Rw,Rx]
  exact hK t6 ow' u1 u2 u3 g7 ((st.mono fun _ q=>q.elim).trans g8)
theorem cd{E:Env}{K:List AV→ASt→Prop}{ow:Ow}{s:ASt}{p:Nat}{x:Sf}{v:Sv}(h:SAt ow s p x v)(hl1:v.heat.length≤1000000000)(hl2:v.phase.length≤1000000000)(x1 x2 x3:AV)
    (hK:∀s' ow' u1 u2,SAt ow' s' p { x with heat:=u1,ph:=u2 } { v with heat:=v.heat++[0],phase:=v.phase++[-1] }→AK (Bh p) ow s ow' s'→K [AV.ptr (some (p,0)),x1,x2,x3] s'):Qb E Xq K [] [AV.ptr (some (p,0)),x1,x2,x3] s:=by
  have hms:∀ (m:Nat) (i:Nat),Bv.val i (.slice m)=.slice (some (i,0)) m (some m):=fun _ _=>rfl
  have b3:=Cd (P:=Try.prog) (t:=23) (v:=iv 0) Try.underlying23 sz3 zr3 rfl rfl
  have b3':=Cd (P:=Try.prog) (t:=23) (v:=iv (-1)) Try.underlying23 sz3 zr3 rfl rfl
  generalize e1:AH s (AP 3 1 [iv 0])=s1
  have n1:s1.next=s.next+1:=by rw[← e1];rfl
  have o1:Old s.next s s1:=by rw[← e1];exact Old.new s _
  generalize e2:AH s1 (AP 3 1 [iv (-1)])=s2
  have n2:s2.next=s.next+2:=by rw[← e2];show s1.next+1=_;omega
  have o2:Old (s.next+1) s1 s2:=by rw[← e2,← n1];exact Old.new s1 _
  have h1:=h.keep (AK.old (m:=fun _=>False) o1 (0,0,0)) (fun _ q=>q.elim)
  have oo:Old s.next s s2:=o1.trans (o2.mono (by omega))
  have st:AK (fun _=>False) ow s (ext ow s.next (0,0,0)) s2:=AK.old oo _
  have h2:=h.keep st (fun _ q=>q.elim)
  obtain⟨u1,u2,t1,t2,t3,t4,ow',g1,g2,g3,g4,g5,g6,g7⟩:=h2.push_hp hl1 hl2 (q1:=s.next) (q2:=s.next+1)
    (by rw[o2.2 _ (by omega),← e1,AO,if_pos rfl]) (by rw[← e2,AO,if_pos (by omega)]) ⟨ER (by omega),by omega⟩
  have q1:AD Try.prog t1 23 (.ptr (some (p,6)))=some x.ph:=by rw[← g7 23 6];exact h2.ld_ph
  simp only[Xq,AG,LA,SN,h.ld_heat,b3,e1,hms,h1.ld_ph,b3',n1,e2,g1,BR,Az,q1,h2.phase.self,g2,on2,g3,g4,AT,Qa,Qb,Qc,Qd,Qe,Qf,Qg,Qh,Qi,Qj,Qk,Ql,Qm,Qn,true_and,and_true,Qo,Qp,Qq,Qr,Qs,Qt,Qu,Qv,Qw,Qx,Qy,Qz,Ra,Rb,Rc,Rd,Re,Rf,Rg,Rh,Ri,Rj,Rk,Rl,Rm,Ya,Yb,Yc,Rn,Ro,Rp,Yd,Ye,Rq,Rs,Rt,Ru,Rv,Rw,Rx]
  exact hK t4 ow' u1 u2 g5 ((st.mono fun _ q=>q.elim).trans g6)
theorem Uh{E:Env}(hE:An E){n p:Nat}(hn:n<100000000){ow0:Ow}{s0:ASt}{v0:Sv}{Q:A6→Prop}(hq:∀s' ow' x' y3,SAt ow' s' p x' v0→AK (Bh p) ow0 s0 ow' s'→Q ⟨.exit 0,[AV.ptr (some (p,0)),iv (n:Int),.bool false,y3],[],s'⟩):
    ∀ (m:Nat) (s:ASt) (ow:Ow) (x:Sf) (v:Sv) (x3:AV),n+1 - v.value.length=m→Szs (n+1000 - m) v→m≤1000+n→SAt ow s p x v→Tr m v=v0→AK (Bh p) ow0 s0 ow s →
      WC E none (.loop Oc) Q [AV.ptr (some (p,0)),iv (n:Int),.bool false,x3] [] s:=by
  intro m
  induction m with
  | zero =>
    intro s ow x v x3 hm hz hle h hv hst
    have ln:∀s,Ao Try.prog s 23 x.val=some (iv (v.value.length:Int)):=fun s=>by
      have:=h.value.len Try.underlying23 s
      rw[oF]at this
      exact this
    have hd:decide ((v.value.length:Int)≤(n:Int))=false:=decide_eq_false (by omega)
    have hv:v=v0:=hv
    subst hv
    refine WC.loop' ?_
    simp only[Oc,Xn,AG,ES,h.ld_val,ln,hd,Qa,Qb,Qc,Qd,Qe,Qf,Qg,Qh,Qi,Qj,Qk,Ql,Qm,Qn,true_and,and_true,Qo,Qp,Qq,Qr,Qs,Qt,Qu,Qv,Qw,Qx,Qy,Qz,Ra,Rb,Rc,Rd,Re,Rf,Rg,Rh,Ri,Rj,Rk,Rl,Rm,Ya,Yb,Yc,Rn,Ro,Rp,Yd,Ye,Rq,Rs,Rt,Ru,Rv,Rw,Rx]
    exact hq s ow x _ h hst
  | succ m ih =>
    intro s ow x v x3 hm hz hle h hv hst
    have ln:∀s,Ao Try.prog s 23 x.val=some (iv (v.value.length:Int)):=fun s=>by
      have:=h.value.len Try.underlying23 s
      rw[oF]at this
      exact this
    have hd:decide ((v.value.length:Int)≤(n:Int))=true:=decide_eq_true (by omega)
    obtain⟨z1,z2,z3,z4,z5,z6⟩:=hz
    refine WC.loop' ?_
    generalize hW:WC E none (AX.loop Oc) Q=W
    simp only[Oc,Xn,AG,ES,h.ld_val,ln,hd,Qa,Qb,Qc,Qd,Qe,Qf,Qg,Qh,Qi,Qj,Qk,Ql,Qm,Qn,true_and,and_true,Qo,Qp,Qq,Qr,Qs,Qt,Qu,Qv,Qw,Qx,Qy,Qz,Ra,Rb,Rc,Rd,Re,Rf,Rg,Rh,Ri,Rj,Rk,Rl,Rm,Ya,Yb,Yc,Rn,Ro,Rp,Yd,Ye,Rq,Rs,Rt,Ru,Rv,Rw,Rx]
    refine cZ h (by omega) _ _ _ ?_
    intro s1 ow1 u1 h1 st1
    try simp only[Qa,Qb,Qc,Qd,Qe,Qf,Qg,Qh,Qi,Qj,Qk,Ql,Qm,Qn,true_and,and_true,Qo,Qp,Qq,Qr,Qs,Qt,Qu,Qv,Qw,Qx,Qy,Qz,Ra,Rb,Rc,Rd,Re,Rf,Rg,Rh,Ri,Rj,Rk,Rl,Rm,Ya,Yb,Yc,Rn,Ro,Rp,Yd,Ye,Rq,Rs,Rt,Ru,Rv,Rw,Rx]
    refine cc h1 (by show v.value.length≤_;omega) (by show v.level.length≤_;omega) (by show v.why.length≤_;omega) _ _ _ ?_
    intro s2 ow2 u2 u3 u4 h2 st2
    try simp only[Qa,Qb,Qc,Qd,Qe,Qf,Qg,Qh,Qi,Qj,Qk,Ql,Qm,Qn,true_and,and_true,Qo,Qp,Qq,Qr,Qs,Qt,Qu,Qv,Qw,Qx,Qy,Qz,Ra,Rb,Rc,Rd,Re,Rf,Rg,Rh,Ri,Rj,Rk,Rl,Rm,Ya,Yb,Yc,Rn,Ro,Rp,Yd,Ye,Rq,Rs,Rt,Ru,Rv,Rw,Rx]
    refine cd h2 (by show v.heat.length≤_;omega) (by show v.phase.length≤_;omega) _ _ _ ?_
    intro s3 ow3 u5 u6 h3 st3
    try simp only[Qa,Qb,Qc,Qd,Qe,Qf,Qg,Qh,Qi,Qj,Qk,Ql,Qm,Qn,true_and,and_true,Qo,Qp,Qq,Qr,Qs,Qt,Qu,Qv,Qw,Qx,Qy,Qz,Ra,Rb,Rc,Rd,Re,Rf,Rg,Rh,Ri,Rj,Rk,Rl,Rm,Ya,Yb,Yc,Rn,Ro,Rp,Yd,Ye,Rq,Rs,Rt,Ru,Rv,Rw,Rx]
    rw[← hW]
    refine ih s3 ow3 _ (PD v) _ (by show n+1 - (v.value++[0]).length=m;rw[oL];simp;omega) ?_ (by omega) h3 hv (((hst.trans st1).trans st2).trans st3)
    have:=Szs.one (B:=n+1000 - (m+1)) (v:=v) ⟨z1,z2,z3,z4,z5,z6⟩
    rw[show n+1000 - m=n+1000 - (m+1)+1 by omega]
    exact this
theorem Ug{E:Env}(hE:An E){ow:Ow}{s:ASt}{p:Nat}{x:Sf}{v:Sv}(h:SAt ow s p x v){n:Nat}(hn:n<100000000)(hz:Szs 900 v):
    WF E 46 [AR p,iv (n:Int)] (fun _ s'=>∃ow' x',SAt ow' s' p x' (Ts v n)∧AK (Bh p) ow s ow' s') s:=by
  have he:=Fj p
  simp only[AR]at he
  refine hE.go kP (by decide) rfl ?_
  simp only[c46,fA,AR,he,Qa,Qb,Qc,Qd,Qe,Qf,Qg,Qh,Qi,Qj,Qk,Ql,Qm,Qn,true_and,and_true,Qo,Qp,Qq,Qr,Qs,Qt,Qu,Qv,Qw,Qx,Qy,Qz,Ra,Rb,Rc,Rd,Re,Rf,Rg,Rh,Ri,Rj,Rk,Rl,Rm,Ya,Yb,Yc,Rn,Ro,Rp,Yd,Ye,Rq,Rs,Rt,Ru,Rv,Rw,Rx]
  obtain⟨z1,z2,z3,z4,z5,z6⟩:=hz
  refine Uh hE hn (v0:=Ts v n) ?_ _ s ow x v _ rfl ⟨by omega,by omega,by omega,by omega,by omega,by omega⟩ (by omega) h rfl (AK.refl _ _ _)
  intro s' ow' x' y3 k1 k2
  simp only[if_true,Qa,Qb,Qc,Qd,Qe,Qf,Qg,Qh,Qi,Qj,Qk,Ql,Qm,Qn,true_and,and_true,Qo,Qp,Qq,Qr,Qs,Qt,Qu,Qv,Qw,Qx,Qy,Qz,Ra,Rb,Rc,Rd,Re,Rf,Rg,Rh,Ri,Rj,Rk,Rl,Rm,Ya,Yb,Yc,Rn,Ro,Rp,Yd,Ye,Rq,Rs,Rt,Ru,Rv,Rw,Rx]
  exact⟨ow',x',k1,k2⟩
def Se:Sv:={ watches:=[],learned:=[],value:=[],level:=[],why:=[],heat:=[],phase:=[],trail:=[],limits:=[],head:=0,broken:=false,model:=[],trace:=[],many:=0,room:=2000,cl:=fun _=>none }
theorem mN:Bz Try.prog 91 (zipIdx [14] [iv 2000])=some (.agg (DP ⟨.slice none 0 (some 0),.slice none 0 (some 0),.slice none 0 (some 0),.slice none 0 (some 0),.slice none 0 (some 0),.slice none 0 (some 0),.slice none 0 (some 0),.slice none 0 (some 0),.slice none 0 (some 0),.slice none 0 (some 0),.slice none 0 (some 0)⟩ Se)):=by
  simp[Bz,zr91,Try.underlying91,Bw,sz3,sz4,BU,Gv,EX,GL,zipIdx,Dm,DX,AF]
  rfl
theorem newS(ow:Ow)(s:ASt):SAt (ext ow s.next (s.next,0,0)) (AH s (AP 91 0 (DP ⟨.slice none 0 (some 0),.slice none 0 (some 0),.slice none 0 (some 0),.slice none 0 (some 0),.slice none 0 (some 0),.slice none 0 (some 0),.slice none 0 (some 0),.slice none 0 (some 0),.slice none 0 (some 0),.slice none 0 (some 0),.slice none 0 (some 0)⟩ Se))) s.next ⟨.slice none 0 (some 0),.slice none 0 (some 0),.slice none 0 (some 0),.slice none 0 (some 0),.slice none 0 (some 0),.slice none 0 (some 0),.slice none 0 (some 0),.slice none 0 (some 0),.slice none 0 (some 0),.slice none 0 (some 0),.slice none 0 (some 0)⟩ Se:=
  { box:=DE.new,tag:=ER (oD _),lt:=pF _,w:=⟨[],rfl,Buf.nil _ _ _,fun k L hk=>by cases hk⟩,learned:=Buf.nil _ _ _,value:=Buf.nil _ _ _,level:=Buf.nil _ _ _,why:=Buf.nil _ _ _,heat:=Buf.nil _ _ _,phase:=Buf.nil _ _ _,trail:=Buf.nil _ _ _,limits:=Buf.nil _ _ _,model:=Buf.nil _ _ _,trace:=⟨[],[],CG.nil _ _,fun j hj=>(by cases hj),fun j hj=>(by cases hj),BS.nil _ _,fun u hu=>by cases hu⟩,cls:=fun c l hc=>by cases hc }
theorem lS{E:Env}(hE:An E)(ow:Ow){s:ASt}{n:Nat}(hn:n<100000000):
    WF E 40 [iv (n:Int)] (fun r s'=>∃ow' x',r=AR s.next∧SAt ow' s' s.next x' (Ts Se n)∧AK (Bh s.next) ow s ow' s') s:=by
  have hptr:∀i,Bv.val i .ptr=.ptr (some (i,0)):=fun _=>rfl
  have hmax:DU true (iv (n:Int)) [iv 0]=some (iv (n:Int)):=by rw[Zn];congr 2;omega
  refine hE.go kN (by decide) rfl ?_
  have hN:=newS ow s
  have hst:AK (Bh s.next) ow s (ext ow s.next (s.next,0,0)) (AH s (AP 91 0 (DP ⟨.slice none 0 (some 0),.slice none 0 (some 0),.slice none 0 (some 0),.slice none 0 (some 0),.slice none 0 (some 0),.slice none 0 (some 0),.slice none 0 (some 0),.slice none 0 (some 0),.slice none 0 (some 0),.slice none 0 (some 0),.slice none 0 (some 0)⟩ Se))):=AK.new _ ow s _ _
  have hbox:∀l,CL 91 (.agg l)=some (AP 91 0 l,.ptr):=fun l=>rfl
  simp only[c40,eb,ee,eg,mN,hbox,hptr,hmax,Qa,Qb,Qc,Qd,Qe,Qf,Qg,Qh,Qi,Qj,Qk,Ql,Qm,Qn,true_and,and_true,Qo,Qp,Qq,Qr,Qs,Qt,Qu,Qv,Qw,Qx,Qy,Qz,Ra,Rb,Rc,Rd,Re,Rf,Rg,Rh,Ri,Rj,Rk,Rl,Rm,Ya,Yb,Yc,Rn,Ro,Rp,Yd,Ye,Rq,Rs,Rt,Ru,Rv,Rw,Rx]
  refine(Ug hE hN hn ⟨by decide,by decide,by decide,by decide,by decide,by decide⟩).mono ?_
  rintro _ s' ⟨ow',x',g1,g2⟩
  simp only[eh,Qa,Qb,Qc,Qd,Qe,Qf,Qg,Qh,Qi,Qj,Qk,Ql,Qm,Qn,true_and,and_true,Qo,Qp,Qq,Qr,Qs,Qt,Qu,Qv,Qw,Qx,Qy,Qz,Ra,Rb,Rc,Rd,Re,Rf,Rg,Rh,Ri,Rj,Rk,Rl,Rm,Ya,Yb,Yc,Rn,Ro,Rp,Yd,Ye,Rq,Rs,Rt,Ru,Rv,Rw,Rx]
  exact⟨ow',x',rfl,g1,hst.trans g2⟩
end
end Go.Proofs.Ytilhhmkdcoajnaa.Am
