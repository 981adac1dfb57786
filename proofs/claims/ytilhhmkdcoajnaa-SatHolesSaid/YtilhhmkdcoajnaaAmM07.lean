/- The solver's state: other parts may change; a line is put behind the trace; printed by a program of ours (dev/sv4.py); conditions: none. -/
import Derived.Test.YtilhhmkdcoajnaaAmM06
import Derived.Test.YtilhhmkdcoajnaaAmM04
set_option linter.unusedVariables false
set_option linter.unusedSimpArgs false
set_option maxRecDepth 16000
namespace Go.Proofs.Ytilhhmkdcoajnaa.Am
open Go Go.Proofs
noncomputable section
theorem Ac.keep16{m:BT→Prop}{ow ow':Ow}{s s':AG}{p:Nat}{x:Sf}{v:Sv}(h:Ac ow s p x v)(k:AH m ow s ow' s')(hm:∀a i,a<16→¬ m (p,a,i)):Ac ow' s' p x v:=by
 have hn:=k.next
 have hl:=h.lt
 exact { box:=h.box.step k h.tag h.lt (hm 0 0 (by decide)),tag:=by rw[k.tags p h.lt (by rw[h.tag];exact hm 0 0 (by decide))];exact h.tag,lt:=by omega,w:=h.w.step k (hm 1 0 (by decide)) (fun j=>hm 2 j (by decide)),learned:=h.learned.step k (hm 3 0 (by decide)),value:=h.value.step k (hm 4 0 (by decide)),level:=h.level.step k (hm 5 0 (by decide)),why:=h.why.step k (hm 6 0 (by decide)),heat:=h.heat.step k (hm 7 0 (by decide)),phase:=h.phase.step k (hm 8 0 (by decide)),trail:=h.trail.step k (hm 9 0 (by decide)),limits:=h.limits.step k (hm 10 0 (by decide)),model:=h.model.step k (hm 11 0 (by decide)),trace:=h.trace.step k (hm 12 0 (by decide)) (hm 13 0 (by decide)),cls:=fun c l hc=>(h.cls c l hc).step k (hm 14 c (by decide)) (hm 15 c (by decide)) }
theorem Ac.push_trace  {ow : Ow} {s : AG}  {p : Nat} {x : Sf} {v : Sv} (h : Ac  ow s p x v) (hT : v.trace.length ≤ 1000000) (d : Bool) {u : AV} {L : List Int} (hu : Ae      s.next s u (A3  L)) (hslot : ∀ j, EO   u = some j → ow j = (p, 13, 0) ∧ j < s.next) :
    ∃t' s' ow',Ad Try.prog (newObj s (AO 27 2 [.bool d,u])) [33,33] [x.trc,.slice (some (s.next,0)) 1 (some 1)]=some (t',s')∧C8 s' p (DL x v)∧t'.isCell=true∧t'.cells=[t'] ∧
      ∀s'' y,C8 s'' p (DL { x with trc:=t' } { v with broken:=y,trace:=v.trace++[(d,L)] })→s''.next=s'.next→(∀j,j≠p→s''.heap.get j=s'.heap.get j) →
        Ac ow' s'' p { x with trc:=t' } { v with broken:=y,trace:=v.trace++[(d,L)] }∧AH (BI p) ow s ow' s'':=by
  have c1:=KB (P:=Try.prog) (e:=27) (s:=newObj s (AO 27 2 [.bool d,u])) (n:=1) (cap:=some 1) (sz:=2) 27 2 (by rw[AY,if_pos rfl]) rfl
  have hst0:AH (fun _=>False) ow s (ext ow s.next (0,0,0)) (newObj s (AO 27 2 [.bool d,u])):=AH.new _ ow s _ _
  have h1:=h.keep hst0 (fun _ q=>q.elim)
  obtain⟨us,O,t1,t2,t3,t4,t5⟩:=h1.trace
  obtain⟨v',s',O',g1,g2,g3,g4,g5,g6,g7⟩:=t1.append (P:=Try.prog) (st:=33) (xt:=33) Try.underlying33 jR jl (by decide) (UQ 33 27 Try.underlying33) gu c1 rfl (by have:=hu.isCell.1;simp only[A7,this];rfl) (by omega) (by omega)
  generalize hs1:newObj s (AO 27 2 [.bool d,u])=s1 at *
  have n1:s1.next=s.next+1:=by rw[← hs1];rfl
  generalize ho1:ext ow s.next (0,0,0)=ow1 at *
  have hstA:AH (· = (p,12,0)) ow1 s1 (ext ow1 s1.next (p,12,0)) s':=⟨g3,fun j hj _=>Dj hj,fun j hj hm=>g5 j hj fun e=>hm (t2 j e)⟩
  have hm:∀a i,a≠12→¬ ((p,a,i):BT)=(p,12,0):=fun a i ha=>CA ha
  have hlt:=h1.lt
  have hbox:=h1.box.step hstA h1.tag h1.lt (hm 0 0 (by decide))
  have hcell:v'.isCell=true∧v'.cells=[v']:=by
    obtain⟨a,cap,e,_⟩:=g2.cells
    rw[e];exact⟨rfl,rfl⟩
  refine⟨v',s',ext ow1 s1.next (p,12,0),g1,hbox,hcell.1,hcell.2,fun s'' y hb hn hf=>?_⟩
  have htag:(ext ow1 s1.next (p,12,0)) p=(p,0,0):=by rw[Dj h1.lt];exact h1.tag
  have hstB:AH (· = (p,0,0)) (ext ow1 s1.next (p,12,0)) s' (ext ow1 s1.next (p,12,0)) s'':=⟨by omega,fun _ _ _=>rfl,fun j _ hm=>hf j fun e=>hm (by rw[e];exact htag)⟩
  have hm0:∀a i,a≠0→¬ ((p,a,i):BT)=(p,0,0):=fun a i ha=>CA ha
  have hu1:Ae s1.next s1 u (A3 L):=(hu.keep fun j hj=>hst0.heap j (hslot j hj).2 (fun q=>q)).mono (by omega)
  have hslot1:∀j,EO u=some j→ow1 j=(p,13,0)∧j<s1.next:=fun j hj=>⟨by rw[hst0.tags j (hslot j hj).2 (fun q=>q)];exact(hslot j hj).1,by have:=(hslot j hj).2;omega⟩
  have htr:Pj (ext ow1 s1.next (p,12,0)) s' p v' (v.trace++[(d,L)]):=by
    refine⟨us++[.bool d,u],O',by rw[kr];exact g2,fun j hj=>?_,fun j hj=>?_,?_,fun w hw j hj=>?_⟩
    · rcases g6 j hj with q | q
      · rw[Dj (t1.lt j q)];exact t2 j q
      · exact Cn q
    · rcases g7 j hj with q | q
      · obtain⟨q1,q2⟩:=t3 j q
        exact⟨by rw[Dj q2];exact q1,by omega⟩
      · exact⟨Cn q,g2.slot_lt j hj⟩
    · refine ((t4.mono g3).keep fun w hw j hj => ?_).snoc ?_
      · obtain⟨q1,q2⟩:=t5 w hw j hj
        exact hstA.heap j q2 (by rw[q1];exact hm 13 0 (by decide))
      · refine(hu1.keep fun j hj=>?_).mono g3
        obtain⟨q1,q2⟩:=hslot1 j hj
        exact hstA.heap j q2 (by rw[q1];exact hm 13 0 (by decide))
    · rcases List.mem_append.1 hw with hw | hw
      · obtain⟨q1,q2⟩:=t5 w hw j hj
        exact⟨by rw[Dj q2];exact q1,by omega⟩
      · rcases lM.1            hw with rfl | hw
        · cases hj
        · have:w=u:=by simpa using hw
          subst this
          obtain⟨q1,q2⟩:=hslot1 j hj
          exact⟨by rw[Dj q2];exact q1,by omega⟩
  have hstepA:AH (BI p) ow s (ext ow1 s1.next (p,12,0)) s':=(hst0.mono fun _ q=>q.elim).trans (hstA.mono fun t ht=>by rw[ht];exact⟨rfl,by simp,by simp,by simp⟩)
  refine⟨?_,hstepA.trans (hstB.mono fun t ht=>by rw[ht];exact⟨rfl,by simp,by simp,by simp⟩)⟩
  have h:=h1
  have k:True:=trivial
  exact { box:=hb,tag:=htag,lt:=by omega,w:=(h.w.step hstA (hm 1 0 (by decide)) (fun j=>hm 2 j (by decide))).step hstB (hm0 1 0 (by decide)) (fun j=>hm0 2 j (by decide)),learned:=(h.learned.step hstA (hm 3 0 (by decide))).step hstB (hm0 3 0 (by decide)),value:=(h.value.step hstA (hm 4 0 (by decide))).step hstB (hm0 4 0 (by decide)),level:=(h.level.step hstA (hm 5 0 (by decide))).step hstB (hm0 5 0 (by decide)),why:=(h.why.step hstA (hm 6 0 (by decide))).step hstB (hm0 6 0 (by decide)),heat:=(h.heat.step hstA (hm 7 0 (by decide))).step hstB (hm0 7 0 (by decide)),phase:=(h.phase.step hstA (hm 8 0 (by decide))).step hstB (hm0 8 0 (by decide)),trail:=(h.trail.step hstA (hm 9 0 (by decide))).step hstB (hm0 9 0 (by decide)),limits:=(h.limits.step hstA (hm 10 0 (by decide))).step hstB (hm0 10 0 (by decide)),model:=(h.model.step hstA (hm 11 0 (by decide))).step hstB (hm0 11 0 (by decide)),trace:=htr.step hstB (hm0 12 0 (by decide)) (hm0 13 0 (by decide)),cls:=fun c l hc=>((h.cls c l hc).step hstA (hm 14 c (by decide)) (hm 15 c (by decide))).step hstB (hm0 14 c (by decide)) (hm0 15 c (by decide)) }
theorem DT(l:List AV):(AV.agg l).cells=l:=rfl
def DV(v:Sv):Sv:=if v.broken=true then v else { v with broken:=true,trace:=v.trace++[(false,[])] }
theorem Pn:Bw Try.prog 27 (zipIdx [] [])=some (.agg [.bool false,.slice none 0 (some 0)]):=by
 simp[Bw,Yy,Try.underlying27,Bt,Ju,Cb,zipIdx,Dk,DT,AI]
theorem Pm{u:AV}(hu:u.cells=[u]):Bw Try.prog 27 (zipIdx [1] [u])=some (.agg [.bool false,u]):=by
 simp[Bw,Yy,Try.underlying27,Bt,Ju,Cb,zipIdx,Dk,DT,AI,hu]
 rfl
theorem fE{u:AV}(hu:u.cells=[u]):Bw Try.prog 104 (zipIdx [0,1] [u,.bool true])=some (.agg [u,.bool true,.bool false]):=by
 simp[Bw,fA,Try.underlying104,Bt,Ju,Cb,zipIdx,Dk,DT,AI,hu]
 rfl
theorem Pl{u:AV}(hu:u.cells=[u]):Bw Try.prog 104 (zipIdx [0] [u])=some (.agg [u,.bool false,.bool false]):=by
 simp[Bw,fA,Try.underlying104,Bt,Ju,Cb,zipIdx,Dk,DT,AI,hu]
 rfl
theorem Uu{u:AV}(hu:u.cells=[u])(b c:Bool):DD 104 (.agg [u,.bool b,.bool c])=some (AO 104 0 [u,.bool b,.bool c],.ptr):=by
 simp[DD,AV.cells,hu]
theorem J2{E:BJ}(hE:Good E){ow:Ow}{s:AG}{p:Nat}{x:Sf}{v:Sv}(h:Ac ow s p x v)(hT:v.trace.length≤1000000):
  WF E 65 [AJ p] (fun _ s'=>∃ow' x',Ac ow' s' p x' (DV v)∧AH (BI p) ow s ow' s'∧x'.w=x.w) s:=by
 refine hE.go fx (by decide) rfl ?_
 cases hb:v.broken with
 | true =>
  have hf:DV v=v:=by unfold DV;rw[if_pos hb]
  have ld:=h.ld_broken
  rw[hb]at ld
  simp only[jq,Wj,AJ,AF,F4,ld,Qa,Qb,Qc,Qd,Qe,Qf,Qg,Qh,Qi,Qj,Qk,Ql,Qm,Qn,true_and,and_true,Qo,Qp,Qq,Qr,Qs,Qt,Qu,Qv,Qw,Qx,Qy,Qz,Ra,Rb,Rc,Rd,Re,Rf,Rg,Rh,Ri,Rj,Rk,Rl,Rm,Ya,Yb,Yc,Rn,Ro,Rp,Yd,Ye,Rq,Rs,Rt,Ru,Rv,Rw,Rx]
  rw[hf]
  exact⟨ow,x,h,AH.refl _ _ _,rfl⟩
 | false =>
  have hf:DV v={ v with broken:=true,trace:=v.trace++[(false,[])] }:=by unfold DV;rw[if_neg (by rw[hb];decide)]
  have ld:=h.ld_broken
  rw[hb]at ld
  have hms:∀ (m:Nat) (i:Nat),Made.val i (.slice m)=.slice (some (i,0)) m (some m):=fun _ _=>rfl
  obtain⟨t',s1,ow',a1,a2,a3,a4,a5⟩:=h.push_trace hT false (u:=.slice none 0 (some 0)) (L:=[]) ⟨none,some 0,rfl,BM.nil⟩ (fun j hj=>by cases hj)
  obtain⟨s2,b1,b2,b3,b4⟩:=a2.store (k:=10) (d:=.bool true) (by simp) (t:=4) Ju rfl rfl
  obtain⟨s3,d1,d2,d3,d4⟩:=b2.store (k:=12) (d:=t') (by simp) (t:=33) GD a3 a4
  obtain⟨k1,k2⟩:=a5 s3 true d2 (by omega) (fun j hj=>(d4 j hj).trans (b4 j hj))
  simp only[jq,Wj,cO,AJ,AF,F4,H6,ld,h.ld_trc,Pn,KM,hms,a1,BU,b1,d1,AX,Qa,Qb,Qc,Qd,Qe,Qf,Qg,Qh,Qi,Qj,Qk,Ql,Qm,Qn,true_and,and_true,Qo,Qp,Qq,Qr,Qs,Qt,Qu,Qv,Qw,Qx,Qy,Qz,Ra,Rb,Rc,Rd,Re,Rf,Rg,Rh,Ri,Rj,Rk,Rl,Rm,Ya,Yb,Yc,Rn,Ro,Rp,Yd,Ye,Rq,Rs,Rt,Ru,Rv,Rw,Rx]
  rw[hf]
  exact⟨ow',_,k1,k2,rfl⟩
theorem MF{E:BJ}(hE:Good E){ow:Ow}{s:AG}{p:Nat}{x:Sf}{v:Sv}(h:Ac ow s p x v)(hr:(v.learned.length:Int)<v.room):
  WF E 69 [AJ p] (fun _ s'=>∃ow',Ac ow' s' p x v∧AH (BI p) ow s ow' s') s:=by
 have hptr:∀i,Made.val i .ptr=.ptr (some (i,0)):=fun _=>rfl
 have hbox:DD 44 (AV.ptr (some (p,0)))=some (AO 44 0 [AJ p],.ptr):=by simp[DD,AJ,AV.cells]
 have hst:AH (fun _=>False) ow s (ext ow s.next (0,0,0)) (newObj s (AO 44 0 [AJ p])):=AH.new _ ow s _ _
 have h':=h.keep hst (fun _ q=>q.elim)
 have b1:Ak (newObj s (AO 44 0 [AJ p])) s.next (AJ p):=Ak.new
 have l1:=b1.load Dg
 have ln:∀s,A6 Try.prog s 89 x.l=some (iv (v.learned.length:Int)):=fun s=>by
  have:=h.learned.len Try.underlying89 s
  rw[kn]at this
  exact this
 have hd:=decide_eq_true hr
 have ld1:=h'.ld_l
 have ld2:=h'.ld_room
 refine hE.go Xa (by decide) rfl ?_
 simp only[AJ]at hbox l1 ld1 ld2
 simp only[jr,Wr,Ws,AJ,hbox,hptr,l1,AF,NL,St,ld1,ld2,ln,hd,Qa,Qb,Qc,Qd,Qe,Qf,Qg,Qh,Qi,Qj,Qk,Ql,Qm,Qn,true_and,and_true,Qo,Qp,Qq,Qr,Qs,Qt,Qu,Qv,Qw,Qx,Qy,Qz,Ra,Rb,Rc,Rd,Re,Rf,Rg,Rh,Ri,Rj,Rk,Rl,Rm,Ya,Yb,Yc,Rn,Ro,Rp,Yd,Ye,Rq,Rs,Rt,Ru,Rv,Rw,Rx]
 exact⟨_,h',hst.mono fun _ q=>q.elim⟩
def T7(ow:Ow)(T T':BT):Ow:=fun x=>if ow x=T then T' else ow x
theorem AH.aS{m:BT→Prop}(ow:Ow)(s:AG)(T T':BT)(h:m T):AH m ow s (T7 ow T T') s:=
 ⟨kp _,fun x hx hm=>if_neg fun e=>hm (by rw[e];exact h),fun _ _ _=>rfl⟩
theorem BO.aS{ow:Ow}{T T':BT}{s:AG}{v:AV}{cs:List AV}(h:BO ow T s v cs):BO (T7 ow T T') T' s v cs:=by
 rcases h with h | ⟨i,o,cap,r,h1,h2,h3⟩
 ·exact .inl h
 ·exact .inr ⟨i,o,cap,r,h1,⟨h2.get,if_pos h2.whose,h2.lt,h2.own,h2.sz,fun q hq=>let ⟨k1,k2,k3⟩:=h2.par q hq;⟨if_pos k1,k2,k3⟩⟩,h3⟩
def EY(v:Sv)(c:Nat)(l:A5):Sv:={ v with cl:=AP v.cl c l }
def Ax(v:Sv)(c:Nat)(L:List Int):Sv:=
 let v1:=EY { v with trace:=v.trace++[(false,L)] } c (L,true,false)
 let v2:Sv:=if 1<L.length then { Hj v1 c (L.getD 0 0) (L.getD 1 0)with learned:=v.learned++[c] }else v1
 BF v2 (L.getD 0 0) (some c)
theorem Gf:∀ (l:List Int)(v:Sv),∃ph va wh,l.foldl Ct v={ v with phase:=ph,value:=va,why:=wh }∧ph.length=v.phase.length∧va.length=v.value.length∧wh.length=v.why.length
 | [],v=>⟨_,_,_,rfl,rfl,rfl,rfl⟩
 | x::l,v=>by
  obtain⟨ph,va,wh,h1,h2,h3,h4⟩:=Gf l (Ct v x)
  exact⟨ph,va,wh,h1,h2.trans kv,h3.trans kv,h4.trans kv⟩
theorem Bm(v:Sv)(level:Nat):∃ph va wh tr li hd,AW v level={ v with phase:=ph,value:=va,why:=wh,trail:=tr,limits:=li,head:=hd }∧ph.length=v.phase.length∧va.length=v.value.length∧wh.length=v.why.length∧tr.length≤v.trail.length∧li.length≤v.limits.length:=by
 unfold AW
 split
 ·exact⟨_,_,_,_,_,_,rfl,rfl,rfl,rfl,kp _,kp _⟩
 ·unfold GV
  obtain⟨ph,va,wh,h1,h2,h3,h4⟩:=Gf (v.trail.drop (v.limits.getD level 0).toNat) v
  rw[h1]
  exact⟨ph,va,wh,_,_,_,rfl,h2,h3,h4,by rw[lI];omega,by rw[lI];omega⟩
theorem au.back{n:Nat}{v:Sv}(h:au n v)(level:Nat):au n (AW v level):=by
 obtain⟨ph,va,wh,tr,li,hd,e,h1,h2,h3,h4,h5⟩:=Bm v level
 rw[e]
 exact⟨h.small,h.w,h2.trans h.value,h.level,h3.trans h.why,h.heat,h1.trans h.phase,lF h4 h.trail,lF h5 h.limits⟩
theorem Pj.self{ow:Ow}{s:AG}{p:Nat}{v:AV}{T:Fw}(h:Pj ow s p v T):Fs v v=true:=by
 obtain⟨us,O,h1,_⟩:=h
 obtain⟨a,cap,rfl,_⟩:=h1.cells
 exact Ey
theorem Dz.slot_ge{lo:Nat}{s:AG}{v:AV}{L:List Int}(h:Dz lo s v L)(hL:L≠[]):∀j,EO v=some j→lo≤j∧j<s.next:=by
 rcases h with⟨a,rfl,e⟩ | ⟨i,rfl,h1,h2,_⟩
 ·exact absurd e hL
 ·intro j hj
  simp[EO]at hj
  subst hj
  exact⟨h1,h2⟩
theorem Z8{E:BJ}(hE:Good E){K:List AV→AG→Prop}{ow:Ow}{s:AG}{p:Nat}{x:Sf}{v:Sv}(h:Ac ow s p x v){lv:AV}{L:List Int}(hlv:BO ow (p,20,0) s lv (A3 L))(hL:L≠[])(hl:L.length≤1000000)(hT:v.trace.length≤1000000)(x2 x3 x4:AV)
  (hK:∀s1 ow1 x',Ac ow1 s1 p x' { v with trace:=v.trace++[(false,L)] }→x'.w=x.w→AH (BI p) ow s ow1 s1→K [AV.ptr (some (p,0)),lv,x2,x3,x4] s1):
  Qb E Wk K [] [AV.ptr (some (p,0)),lv,x2,x3,x4] s:=by
 have hms:∀ (m:Nat) (i:Nat),Made.val i (.slice m)=.slice (some (i,0)) m (some m):=fun _ _=>rfl
 simp only[Wk,AF,H6,h.ld_trc,Qa,Qb,Qc,Qd,Qe,Qf,Qg,Qh,Qi,Qj,Qk,Ql,Qm,Qn,true_and,and_true,Qo,Qp,Qq,Qr,Qs,Qt,Qu,Qv,Qw,Qx,Qy,Qz,Ra,Rb,Rc,Rd,Re,Rf,Rg,Rh,Ri,Rj,Rk,Rl,Rm,Ya,Yb,Yc,Rn,Ro,Rp,Yd,Ye,Rq,Rs,Rt,Ru,Rv,Rw,Rx]
 refine(Hw hE (kp _) hlv.slice hl).mono ?_
 rintro u s1 ⟨hu,ho⟩
 have hst:AH (fun _=>False) ow s (ext ow s.next (p,13,0)) s1:=AH.old ho _
 have h1:=h.keep hst (fun _ q=>q.elim)
 obtain⟨t',s2,ow2,a1,a2,a3,a4,a5⟩:=h1.push_trace hT false hu.slice (fun j hj=>by
  obtain⟨q1,q2⟩:=hu.slot_ge hL j hj
  exact⟨Cn q1,q2⟩)
 obtain⟨s3,d1,d2,d3,d4⟩:=a2.store (k:=12) (d:=t') (by simp) (t:=33) GD a3 a4
 obtain⟨k1,k2⟩:=a5 s3 v.broken d2 (by omega) (fun j hj=>d4 j hj)
 simp only[BP,Ap,h1.ld_trc,h1.trace.self,Pm hu.slice.isCell.2,KM,hms,a1,BU,d1,AX,AF,H6,Qa,Qb,Qc,Qd,Qe,Qf,Qg,Qh,Qi,Qj,Qk,Ql,Qm,Qn,true_and,and_true,Qo,Qp,Qq,Qr,Qs,Qt,Qu,Qv,Qw,Qx,Qy,Qz,Ra,Rb,Rc,Rd,Re,Rf,Rg,Rh,Ri,Rj,Rk,Rl,Rm,Ya,Yb,Yc,Rn,Ro,Rp,Yd,Ye,Rq,Rs,Rt,Ru,Rv,Rw,Rx]
 exact hK s3 ow2 _ k1 rfl ((hst.mono fun _ q=>q.elim).trans k2)
theorem Z9{E:BJ}(hE:Good E){ow:Ow}{s:AG}{p:Nat}{x:Sf}{v:Sv}(h:Ac ow s p x v){n:Nat}(hf:Lm n v){level:Nat}(hlev:level<100000000){lv:AV}{L:List Int}(hlv:BO ow (p,20,0) s lv (A3 L))(hL:A1 n L)(h1:1≤L.length)(hl:L.length≤1000000)(hT:v.trace.length≤1000000)(hW:CD v.watches≤90000000)(hle:v.learned.length≤100000000):
    WF E 66 [AJ p,lv,iv (level:Int)] (fun _ s'=>∃c ow' x',v.cl c=none∧Ac ow' s' p x' (Ax (AW v level) c L)∧AH (BN p) ow s ow' s') s:=by
  have hne:L≠[]:=fun e=>by rw[e]at h1;cases h1
  have hz0:=hf.siz.back level
  obtain⟨ph,va,wh,tr,li,hd,e,z1,z2,z3,z4,z5⟩:=Bm v level
  have hptr:∀i,Made.val i .ptr=.ptr (some (i,0)):=fun _=>rfl
  refine hE.go fy (by decide) rfl ?_
  simp only[kR,cP,AJ,Qa,Qb,Qc,Qd,Qe,Qf,Qg,Qh,Qi,Qj,Qk,Ql,Qm,Qn,true_and,and_true,Qo,Qp,Qq,Qr,Qs,Qt,Qu,Qv,Qw,Qx,Qy,Qz,Ra,Rb,Rc,Rd,Re,Rf,Rg,Rh,Ri,Rj,Rk,Rl,Rm,Ya,Yb,Yc,Rn,Ro,Rp,Yd,Ye,Rq,Rs,Rt,Ru,Rv,Rw,Rx]
  refine(DC hE h hf hlev).mono ?_
  rintro _ s1 ⟨x1,a1,a2,_⟩
  have b1:BO ow (p,20,0) s1 lv (A3 L):=hlv.step a2 (fun q=>absurd q.2.2.2 (by show ¬ 20<16;omega))
  have hcl1:(AW v level).cl=v.cl:=by rw[e]
  have hT1:(AW v level).trace=v.trace:=by rw[e]
  have hw1:(AW v level).watches=v.watches:=by rw[e]
  have hle1:(AW v level).learned=v.learned:=by rw[e]
  generalize hvb:AW v level=vb at *
  simp only[Qa,Qb,Qc,Qd,Qe,Qf,Qg,Qh,Qi,Qj,Qk,Ql,Qm,Qn,true_and,and_true,Qo,Qp,Qq,Qr,Qs,Qt,Qu,Qv,Qw,Qx,Qy,Qz,Ra,Rb,Rc,Rd,Re,Rf,Rg,Rh,Ri,Rj,Rk,Rl,Rm,Ya,Yb,Yc,Rn,Ro,Rp,Yd,Ye,Rq,Rs,Rt,Ru,Rv,Rw,Rx]
  refine Z8 hE a1 b1 hne hl (by rw[hT1];exact hT) _ _ _ ?_
  intro s2 ow2 x2 d1 d2 d3
  have b2:BO ow2 (p,20,0) s2 lv (A3 L):=b1.step d3 (fun q=>absurd q.2.2.2 (by show ¬ 20<16;omega))
  have hbx:=Uu b2.isCell.2 true false
  have hbl:=fE b2.isCell.2
  have hstN:AH (fun _=>False) ow2 s2 (ext ow2 s2.next (p,14,s2.next)) (newObj s2 (AO 104 0 [lv,.bool true,.bool false])):=AH.new _ ow2 s2 _ _
  have d1N:=d1.keep hstN (fun _ q=>q.elim)
  have b2N:=b2.step hstN (fun q=>q)
  have hbox:C8 (newObj s2 (AO 104 0 [lv,.bool true,.bool false])) s2.next [lv,.bool true,.bool false]:=C8.new
  generalize hc:s2.next=c at *
  generalize hs3:newObj s2 (AO 104 0 [lv,.bool true,.bool false])=s3 at *
  have n3:s3.next=c+1:=by rw[← hs3,← hc];rfl
  have hfresh:vb.cl c=none:=by
    cases hcc:vb.cl c with
    | none=>rfl
    | some l =>
      obtain⟨_,_,_,q,_⟩:=d1.cls c l hcc
      omega
  have hasm:AH (· = (p,20,0)) (ext ow2 c (p,14,c)) s3 (T7 (ext ow2 c (p,14,c)) (p,20,0) (p,15,c)) s3:=AH.aS _ _ _ _ rfl
  have d3A:=d1N.keep16 hasm (fun a i ha q=>by injection q with _ q;injection q with q;omega)
  have b3:BO _ (p,15,c) s3 lv (A3 L):=b2N.aS (T':=(p,15,c))
  have htag:(T7 (ext ow2 c (p,14,c)) (p,20,0) (p,15,c)) c=(p,14,c):=by
    unfold T7
    rw[Cn (kp c),if_neg (CA (by decide))]
  generalize how3:T7 (ext ow2 c (p,14,c)) (p,20,0) (p,15,c)=ow3 at *
  have d4:Ac ow3 s3 p x2 (EY { vb with trace:=vb.trace++[(false,L)] } c (L,true,false)):=d3A.clause hfresh ⟨lv,hbox,htag,by omega,b3⟩
  have hstep:AH (BN p) ow s ow3 s3:=((a2.trans d3).b.trans (hstN.mono fun _ q=>q.elim)).trans (hasm.mono fun t ht=>by rw[ht];rfl)
  have hcl4:(EY { vb with trace:=vb.trace++[(false,L)] } c (L,true,false)).cl c=some (L,true,false):=Aj _ _ _
  have hV0:=hL.get (k:=0) (by omega)
  have hg0:=AQ (d:=(0:Int)) (show 0<L.length by omega)
  have i0:AD Try.prog 23 lv (iv 0)=some (Az lv 0):=b3.addr Try.underlying23 Be (k:=0) (by rw[kn];omega)
  have ln:∀s,A6 Try.prog s 23 lv=some (iv (L.length:Int)):=fun s=>by
    have:=b3.len Try.underlying23 s
    rw[kn]at this
    exact this
  have hms:∀ (m:Nat) (i:Nat),Made.val i (.slice m)=.slice (some (i,0)) m (some m):=fun _ _=>rfl
  have bl:=Cj (P:=Try.prog) (t:=89) (v:=AJ c) Try.underlying89 El SQ rfl rfl
  simp only[AJ]at bl
  simp only[cQ,hbl,hbx,hc,hs3,hptr,cR,ln,Qa,Qb,Qc,Qd,Qe,Qf,Qg,Qh,Qi,Qj,Qk,Ql,Qm,Qn,true_and,and_true,Qo,Qp,Qq,Qr,Qs,Qt,Qu,Qv,Qw,Qx,Qy,Qz,Ra,Rb,Rc,Rd,Re,Rf,Rg,Rh,Ri,Rj,Rk,Rl,Rm,Ya,Yb,Yc,Rn,Ro,Rp,Yd,Ye,Rq,Rs,Rt,Ru,Rv,Rw,Rx]
  by_cases h2:1<L.length
  · have hdd:decide ((1:Int)<(L.length:Int))=true:=decide_eq_true (by omega)
    simp only[hdd,cS,Qa,Qb,Qc,Qd,Qe,Qf,Qg,Qh,Qi,Qj,Qk,Ql,Qm,Qn,true_and,and_true,Qo,Qp,Qq,Qr,Qs,Qt,Qu,Qv,Qw,Qx,Qy,Qz,Ra,Rb,Rc,Rd,Re,Rf,Rg,Rh,Ri,Rj,Rk,Rl,Rm,Ya,Yb,Yc,Rn,Ro,Rp,Yd,Ye,Rq,Rs,Rt,Ru,Rv,Rw,Rx]
    refine(Pb hE d4 (n:=n) hz0.small hz0.w (by show CD vb.watches≤_;rw[hw1];exact hW) hcl4 hL h2).mono ?_
    rintro _ s4 ⟨ow4,e1,e2⟩
    have b4:BO ow4 (p,15,c) s4 lv (A3 L):=b3.step e2 (fun q=>by rcases q.2 with q | q<;>cases q)
    have hst5:AH (fun _=>False) ow4 s4 (ext ow4 s4.next (0,0,0)) (newObj s4 (AO 92 1 [AJ c])):=AH.new _ ow4 s4 _ _
    have e1':=e1.keep hst5 (fun _ q=>q.elim)
    have b4':=b4.step hst5 (fun q=>q)
    obtain⟨u,s5,s6,ow5,f1,f2,f3,f4⟩:=e1'.push_learned (by show vb.learned.length≤_;rw[hle1];omega) c (q:=s4.next) (ty:=92) (sz':=1) (by rw[AY,if_pos rfl])
    have b6:BO ow5 (p,15,c) s6 lv (A3 L):=b4'.step f4 (fun q=>by rcases q with q | q<;>injection q with _ q<;>injection q with q<;>cases q)
    have l0:=b6.get (t:=3) Df (k:=0) (Av hg0)
    have ldl:=e1.ld_l
    simp only[AJ]at f1
    simp only[cT,AF,NL,ldl,bl,hms,f1,BU,f2,AX,Wl,i0,l0,Qa,Qb,Qc,Qd,Qe,Qf,Qg,Qh,Qi,Qj,Qk,Ql,Qm,Qn,true_and,and_true,Qo,Qp,Qq,Qr,Qs,Qt,Qu,Qv,Qw,Qx,Qy,Qz,Ra,Rb,Rc,Rd,Re,Rf,Rg,Rh,Ri,Rj,Rk,Rl,Rm,Ya,Yb,Yc,Rn,Ro,Rp,Yd,Ye,Rq,Rs,Rt,Ru,Rv,Rw,Rx]
    refine(FZ hE f3 (n:=n) ?_ hV0 (some c)).mono ?_
    · exact⟨hz0.small,by show(Ci (Ci _ _ _) _ _).length=_;rw[Cv,Cv];exact hz0.w,hz0.value,hz0.level,hz0.why,hz0.heat,hz0.phase,hz0.trail,hz0.limits⟩
    rintro _ s7 ⟨ow7,x7,g1,g2,_⟩
    simp only[Qa,Qb,Qc,Qd,Qe,Qf,Qg,Qh,Qi,Qj,Qk,Ql,Qm,Qn,true_and,and_true,Qo,Qp,Qq,Qr,Qs,Qt,Qu,Qv,Qw,Qx,Qy,Qz,Ra,Rb,Rc,Rd,Re,Rf,Rg,Rh,Ri,Rj,Rk,Rl,Rm,Ya,Yb,Yc,Rn,Ro,Rp,Yd,Ye,Rq,Rs,Rt,Ru,Rv,Rw,Rx]
    refine⟨c,ow7,x7,by rw[← hcl1];exact hfresh,?_,hstep.trans ((e2.w.trans (hst5.mono fun _ q=>q.elim)).trans ((f4.n (by decide) (by decide) (by decide)).b.trans g2.b))⟩
    unfold Ax
    simp only[if_pos h2]
    exact g1
  · have hdd : decide ((1 : Int) < (L.length : Int)) = false := decide_eq_false (by omega)
    have l0:=b3.get (t:=3) Df (k:=0) (Av hg0)
    simp only[hdd,Wl,i0,l0,Qa,Qb,Qc,Qd,Qe,Qf,Qg,Qh,Qi,Qj,Qk,Ql,Qm,Qn,true_and,and_true,Qo,Qp,Qq,Qr,Qs,Qt,Qu,Qv,Qw,Qx,Qy,Qz,Ra,Rb,Rc,Rd,Re,Rf,Rg,Rh,Ri,Rj,Rk,Rl,Rm,Ya,Yb,Yc,Rn,Ro,Rp,Yd,Ye,Rq,Rs,Rt,Ru,Rv,Rw,Rx]
    refine(FZ hE d4 (n:=n) ⟨hz0.small,hz0.w,hz0.value,hz0.level,hz0.why,hz0.heat,hz0.phase,hz0.trail,hz0.limits⟩ hV0 (some c)).mono ?_
    rintro _ s7 ⟨ow7,x7,g1,g2,_⟩
    simp only[Qa,Qb,Qc,Qd,Qe,Qf,Qg,Qh,Qi,Qj,Qk,Ql,Qm,Qn,true_and,and_true,Qo,Qp,Qq,Qr,Qs,Qt,Qu,Qv,Qw,Qx,Qy,Qz,Ra,Rb,Rc,Rd,Re,Rf,Rg,Rh,Ri,Rj,Rk,Rl,Rm,Ya,Yb,Yc,Rn,Ro,Rp,Yd,Ye,Rq,Rs,Rt,Ru,Rv,Rw,Rx]
    refine⟨c,ow7,x7,by rw[← hcl1];exact hfresh,?_,hstep.trans g2.b⟩
    unfold Ax
    simp only[if_neg h2]
    exact g1
def Ih:List Nat→List (AV×AV×Nat)→Prop
 | [],es=>es=[]
 | k::l,es=>∃b t,es=(iv (k:Int),AV.agg [],b)::t∧Ih l t
def HS(s:AG)(i:Nat)(L:List Nat):Prop:=∃es c,s.heap.get i=some (.map es c)∧Ih L es
theorem HS.keep{s s':AG}{i:Nat}{L:List Nat}(h:HS s i L)(k:s'.heap.get i=s.heap.get i):HS s' i L:=by
 obtain⟨es,c,h1,h2⟩:=h
 exact⟨es,c,k.trans h1,h2⟩
theorem Ih.snoc:∀ {L:List Nat}{es:List (AV×AV×Nat)},Ih L es→∀ (k b:Nat),Ih (L++[k]) (es++[(iv (k:Int),AV.agg [],b)])
 | [],es,h,k,b=>by
  have h:es=[]:=h
  subst h
  exact⟨b,[],rfl,rfl⟩
 | j::L,es,h,k,b=>by
  obtain⟨c,t,rfl,h⟩:=h
  exact⟨c,t++[(iv (k:Int),AV.agg [],b)],rfl,h.snoc k b⟩
theorem Iw        : ∀ {L : List Nat} {es : List (AV × AV × Nat)}, Ih     L es → ∀ (k n : Nat), (k ∈ L ∧ ∃ j b, Dl    (iv (k : Int)) es n = some (some (j, AV.agg [], b))) ∨ (k ∉ L ∧ Dl    (iv (k : Int)) es n = some none)
  | [],es,h,k,n=>by
    have h:es=[]:=h
    subst h
    exact .inr ⟨by simp,rfl⟩
  | j::L,es,h,k,n=>by
    obtain⟨c,t,rfl,h⟩:=h
    by_cases e:k=j
    · subst e
      refine .inl ⟨by simp,n,c,?_⟩
      simp only[Dl,II,decide_true,Option.bind_some]
    · have hd : decide ((k : Int) = (j : Int)) = false := decide_eq_false (by omega)
      have he:Dl (iv (k:Int)) ((iv (j:Int),AV.agg [],c)::t) n=Dl (iv (k:Int)) t (n+1):=by
        simp only[Dl,II,Option.bind_some,hd]
      rw[he]
      rcases Iw h k (n+1)with⟨h1,h2⟩ | ⟨h1,h2⟩
      · exact .inl ⟨kz _ h1,h2⟩
      · exact .inr ⟨by simp[e,h1],h2⟩
theorem Gn{s:AG}{i:Nat}{L:List Nat}(h:HS s i L)(k:Nat):C0 Try.prog s 115 (.map (some i)) (iv (k:Int)) true=some (.tuple [.agg [],.bool (decide (k∈L))]):=by
 obtain⟨es,c,h1,h2⟩:=h
 simp only[C0,Try.underlying115,Ek,AI,cond_true,h1,Option.bind_some]
 rcases Iw h2 k 0 with⟨h3,j,b,h4⟩ | ⟨h3,h4⟩
 ·rw[h4,decide_eq_true h3];rfl
 ·rw[h4,decide_eq_false h3];simp only[Option.bind_some,Yx,cond_true]
theorem PY{s:AG}{i:Nat}{L:List Nat}(h:HS s i L){k:Nat}(hk:k ∉ L):∃s',EH Try.prog s 115 (.map (some i)) (iv (k:Int)) (.agg [])=some s'∧HS s' i (L++[k])∧s'.next=s.next∧∀j,j≠i→s'.heap.get j=s.heap.get j:=by
 obtain⟨es,c,h1,h2⟩:=h
 simp only[EH,Try.underlying115,Ek,AI,cond_true,h1,Option.bind_some]
 rcases Iw h2 k 0 with⟨h3,_⟩ | ⟨h3,h4⟩
 ·exact absurd h3 hk
 ·rw[h4]
  exact⟨_,rfl,⟨_,_,by rw[BL,if_pos rfl],h2.snoc k c⟩,rfl,fun x hx=>by rw[BL,if_neg hx]⟩
theorem Un:Bv Try.prog 119=some (AO 119 0 [],.ptr):=by simp[Bv,Yx,AV.cells]
theorem Um:Bv Try.prog 115=some (AO 115 0 [.map none],.ptr):=by simp[Bv,jS,AV.cells]
theorem fF:Bw Try.prog 119 (zipIdx [] [])=some (.agg []):=by
 simp[Bw,Yx,Try.underlying119,Bt,zipIdx,Dk,DT,AI]
theorem Yo(s:AG)(i:Nat):AN Try.prog s 119 (.ptr (some (i,0))) (.agg [])=some s:=by
 simp[AN,jQ,DT,AI,B7]
theorem X9(a b:Int):D8 true (iv a) [iv b]=some (iv (max a b)):=by
 have hk:Bb .i64 .i64=true:=rfl
 simp only[D8,hk,AI,cond_true,D7]
 by_cases h:a<b
 ·rw[decide_eq_true h,show max a b=b by omega];rfl
 ·rw[decide_eq_false h,show max a b=a by omega];rfl
structure EJ where
 seen:List Nat
 hd:Int
 lits:List Int
 opn:Int
 lev:Int
def BR(v:Sv)(a:EJ)(q:Int):EJ:=
 if q.natAbs∈a.seen∨v.level.getD q.natAbs 0=0 then a
 else if v.level.getD q.natAbs 0=(v.limits.length:Int)then { a with seen:=a.seen++[q.natAbs],opn:=a.opn+1 }
 else { a with seen:=a.seen++[q.natAbs],lits:=a.lits++[q],lev:=max a.lev (v.level.getD q.natAbs 0) }
structure GM(n:Nat)(a:EJ):Prop where
 nodup:a.seen.Nodup
 mem:∀k∈a.seen,1≤k∧k≤n
 len:a.lits.length≤a.seen.length
 lits:∀q∈a.lits,VL n q
 opn:0≤a.opn∧a.opn≤a.seen.length
theorem GM.small{n:Nat}{a:EJ}(h:GM n a):a.seen.length≤n:=Cc h.nodup h.mem
theorem GM.step   {n : Nat} {a : EJ}  (h : GM   n a) (v : Sv) {q : Int} (hq : VL n q) : GM   n (BR     v a q) := by
  unfold BR
  have hq1:1≤q.natAbs∧q.natAbs≤n:=⟨by have:=hq.1;omega,hq.2⟩
  split
  · exact h
  · rename_i h1
    have hns:q.natAbs ∉ a.seen:=fun e=>h1 (.inl e)
    have hnd:(a.seen++[q.natAbs]).Nodup:=by
      rw[ly]
      exact⟨h.nodup,by simp,fun x hx y hy e=>by
        have:y=q.natAbs:=by simpa using hy
        exact hns (by rw[← this,← e];exact hx)⟩
    have hmem:∀k∈a.seen++[q.natAbs],1≤k∧k≤n:=fun k hk=>by
      rcases List.mem_append.1 hk with hk | hk
      · exact h.mem k hk
      · have:k=q.natAbs:=by simpa using hk
        rw[this];exact hq1
    have h2:=h.len
    have h3:=h.opn
    split
    · exact⟨hnd,hmem,by show a.lits.length≤(a.seen++[q.natAbs]).length;simp;omega,h.lits,by show 0≤a.opn+1∧a.opn+1≤((a.seen++[q.natAbs]).length:Int);simp;omega⟩
    · exact⟨hnd,hmem,by show(a.lits++[q]).length≤(a.seen++[q.natAbs]).length;simp;omega,fun y hy=>by
        rcases List.mem_append.1 hy with hy | hy
        · exact h.lits y hy
        · have:y=q:=by simpa using hy
          rw[this];exact hq,by show 0≤a.opn∧a.opn≤((a.seen++[q.natAbs]).length:Int);simp;omega⟩
structure Du(ow:Ow)(s:AG)(p:Nat)(x:Sf)(v:Sv)(N:Nat)(h:List Int)(a:EJ):Prop where
 sat:Ac ow s p x (At v h)
 hl:h.length=v.heat.length
 sb:Ak s N (AJ p)
 lb:∃lv,Ak s (N+1) lv∧BO ow (p,20,0) s lv (A3 (a.hd::a.lits))
 vb:Ak s (N+2) (iv a.lev)
 mo:HS s (N+3) a.seen
 mb:Ak s (N+4) (.map (some (N+3)))
 ob:Ak s (N+6) (iv a.opn)
 tg:∀j,N≤j→j≤N+6→j≠N+5→ow j=(p,21,0)
 lt:N+6<s.next
def Ea(p:Nat)(t:BT):Prop:=t=(p,7,0)∨t=(p,20,0)∨t=(p,21,0)
def GH(p:Nat)(t:BT):Prop:=Ea p t∨t=(p,23,0)
theorem Du.keep{m:BT→Prop}{ow ow':Ow}{s s':AG}{p:Nat}{x:Sf}{v:Sv}{N:Nat}{h:List Int}{a:EJ}(H:Du ow s p x v N h a)(k:AH m ow s ow' s')(hm:∀y i,y<16→¬ m (p,y,i))(h1:¬ m (p,20,0))(h2:¬ m (p,21,0)):Du ow' s' p x v N h a:=by
 have hn:=k.next
 have hlt:=H.lt
 have g:∀j,N≤j→j≤N+6→j≠N+5→s'.heap.get j=s.heap.get j:=fun j q1 q2 q3=>k.heap j (by omega) (by rw[H.tg j q1 q2 q3];exact h2)
 obtain⟨lv,l1,l2⟩:=H.lb
 exact { sat:=H.sat.keep16 k hm,hl:=H.hl,sb:=H.sb.keep (g _ (by omega) (by omega) (by omega)),lb:=⟨lv,l1.keep (g _ (by omega) (by omega) (by omega)),l2.step k h1⟩,vb:=H.vb.keep (g _ (by omega) (by omega) (by omega)),mo:=H.mo.keep (g _ (by omega) (by omega) (by omega)),mb:=H.mb.keep (g _ (by omega) (by omega) (by omega)),ob:=H.ob.keep (g _ (by omega) (by omega) (by omega)),tg:=fun j q1 q2 q3=>by rw[k.tags j (by omega) (by rw[H.tg j q1 q2 q3];exact h2)];exact H.tg j q1 q2 q3,lt:=by omega }
theorem Du.box{ow:Ow}{s s':AG}{p:Nat}{x:Sf}{v:Sv}{N:Nat}{h:List Int}{a:EJ}(H:Du ow s p x v N h a){i:Nat}(h1:N≤i)(h2:i≤N+6)(h3:i≠N+5)(hn:s'.next=s.next)(hf:∀j,j≠i→s'.heap.get j=s.heap.get j):
  AH (· = (p,21,0)) ow s ow s'∧Ac ow s' p x (At v h)∧∀ (T:BT) (u:AV) (cs:List AV),T≠(p,21,0)→BO ow T s u cs→BO ow T s' u cs:=by
 have st:AH (· = (p,21,0)) ow s ow s':=⟨by omega,fun _ _ _=>rfl,fun y _ hm=>hf y fun e=>hm (by rw[e];exact H.tg i h1 h2 h3)⟩
 exact⟨st,H.sat.keep16 st (fun y i hy e=>by injection e with _ e;injection e with e _;omega),fun T u cs hT hb=>hb.step st hT⟩
theorem Du.setLev{ow:Ow}{s:AG}{p:Nat}{x:Sf}{v:Sv}{N:Nat}{h:List Int}{a:EJ}(H:Du ow s p x v N h a)(y:Int):
  ∃s',AN Try.prog s 3 (.ptr (some (N+2,0))) (iv y)=some s'∧Du ow s' p x v N h { a with lev:=y }∧AH (Ea p) ow s ow s'∧s'.next=s.next:=by
 obtain⟨s',g1,g2,g3,g4⟩:=H.vb.store (d:=iv y) Be rfl rfl
 obtain⟨k1,k2,k3⟩:=H.box (i:=N+2) (by omega) (by omega) (by omega) g3 g4
 obtain⟨lv,l1,l2⟩:=H.lb
 exact⟨s',g1,{ sat:=k2,hl:=H.hl,sb:=H.sb.keep (g4 _ (by omega)),lb:=⟨lv,l1.keep (g4 _ (by omega)),k3 _ _ _ (CA (by decide)) l2⟩,vb:=g2,mo:=H.mo.keep (g4 _ (by omega)),mb:=H.mb.keep (g4 _ (by omega)),ob:=H.ob.keep (g4 _ (by omega)),tg:=H.tg,lt:=by have:=H.lt;omega },k1.mono fun t ht=>.inr (.inr ht),g3⟩
theorem Du.setOpn{ow:Ow}{s:AG}{p:Nat}{x:Sf}{v:Sv}{N:Nat}{h:List Int}{a:EJ}(H:Du ow s p x v N h a)(y:Int):
  ∃s',AN Try.prog s 3 (.ptr (some (N+6,0))) (iv y)=some s'∧Du ow s' p x v N h { a with opn:=y }∧AH (Ea p) ow s ow s'∧s'.next=s.next:=by
 obtain⟨s',g1,g2,g3,g4⟩:=H.ob.store (d:=iv y) Be rfl rfl
 obtain⟨k1,k2,k3⟩:=H.box (i:=N+6) (by omega) (by omega) (by omega) g3 g4
 obtain⟨lv,l1,l2⟩:=H.lb
 exact⟨s',g1,{ sat:=k2,hl:=H.hl,sb:=H.sb.keep (g4 _ (by omega)),lb:=⟨lv,l1.keep (g4 _ (by omega)),k3 _ _ _ (CA (by decide)) l2⟩,vb:=H.vb.keep (g4 _ (by omega)),mo:=H.mo.keep (g4 _ (by omega)),mb:=H.mb.keep (g4 _ (by omega)),ob:=g2,tg:=H.tg,lt:=by have:=H.lt;omega },k1.mono fun t ht=>.inr (.inr ht),g3⟩
theorem Du.addSeen{ow:Ow}{s:AG}{p:Nat}{x:Sf}{v:Sv}{N:Nat}{h:List Int}{a:EJ}(H:Du ow s p x v N h a){k:Nat}(hk:k ∉ a.seen):
  ∃s',EH Try.prog s 115 (.map (some (N+3))) (iv (k:Int)) (.agg [])=some s'∧Du ow s' p x v N h { a with seen:=a.seen++[k] }∧AH (Ea p) ow s ow s'∧s'.next=s.next:=by
 obtain⟨s',g1,g2,g3,g4⟩:=PY H.mo hk
 obtain⟨k1,k2,k3⟩:=H.box (i:=N+3) (by omega) (by omega) (by omega) g3 g4
 obtain⟨lv,l1,l2⟩:=H.lb
 exact⟨s',g1,{ sat:=k2,hl:=H.hl,sb:=H.sb.keep (g4 _ (by omega)),lb:=⟨lv,l1.keep (g4 _ (by omega)),k3 _ _ _ (CA (by decide)) l2⟩,vb:=H.vb.keep (g4 _ (by omega)),mo:=g2,mb:=H.mb.keep (g4 _ (by omega)),ob:=H.ob.keep (g4 _ (by omega)),tg:=H.tg,lt:=by have:=H.lt;omega },k1.mono fun t ht=>.inr (.inr ht),g3⟩
theorem Du.heat{ow:Ow}{s:AG}{p:Nat}{x:Sf}{v:Sv}{N:Nat}{h:List Int}{a:EJ}(H:Du ow s p x v N h a){k:Nat}(hk:k<h.length)(y:Int):
  ∃s',AN Try.prog s 3 (Az x.heat k) (iv y)=some s'∧Du ow s' p x v N (h.set k y) a∧AH (Ea p) ow s ow s'∧s'.next=s.next:=by
 obtain⟨s',g1,g2,g3,g4⟩:=H.sat.put_heat (k:=k) hk y
 obtain⟨s'',q1,q2,q3,q4⟩:=H.sat.heat.set (t:=3) Be (k:=k) (x:=iv y) (by rw[kn];exact hk) rfl rfl
 rw[g1]at q1
 injection q1 with q1
 subst q1
 have hlt:=H.lt
 have g:∀j,N≤j→j≤N+6→j≠N+5→s'.heap.get j=s.heap.get j:=fun j r1 r2 r3=>q3.heap j (by omega) (by rw[H.tg j r1 r2 r3];exact CA (by decide))
 obtain⟨lv,l1,l2⟩:=H.lb
 exact⟨s',g1,{ sat:=g2,hl:=by rw[kv];exact H.hl,sb:=H.sb.keep (g _ (by omega) (by omega) (by omega)),lb:=⟨lv,l1.keep (g _ (by omega) (by omega) (by omega)),l2.step q3 (CA (by decide))⟩,vb:=H.vb.keep (g _ (by omega) (by omega) (by omega)),mo:=H.mo.keep (g _ (by omega) (by omega) (by omega)),mb:=H.mb.keep (g _ (by omega) (by omega) (by omega)),ob:=H.ob.keep (g _ (by omega) (by omega) (by omega)),tg:=H.tg,lt:=by omega },q3.mono fun t ht=>.inl ht,g4⟩
theorem Du.push{ow:Ow}{s:AG}{p:Nat}{x:Sf}{v:Sv}{N:Nat}{h:List Int}{a:EJ}(H:Du ow s p x v N h a)(hle:a.lits.length≤1000000){lv:AV}(hlv:Ak s (N+1) lv){q:Int}{i:Nat}{ty sz':Nat}(hq:s.heap.get i=some (AO ty sz' [iv q])):
  ∃u s' s'' ow',Ad Try.prog s [23,23] [lv,.slice (some (i,0)) 1 (some 1)]=some (u,s')∧AN Try.prog s' 23 (.ptr (some (N+1,0))) u=some s''∧Du ow' s'' p x v N h { a with lits:=a.lits++[q] }∧AH (Ea p) ow s ow' s'':=by
 obtain⟨lv',l1,l2⟩:=H.lb
 have e:lv'=lv:=by
  have q1:=l1.load D0
  rw[hlv.load D0]at q1
  injection q1 with q1
  exact q1.symm
 subst e
 obtain⟨u,s',ow',g1,g2,g3⟩:=l2.push (st:=23) (e:=3) Try.underlying23 Be Y0 (by decide) LZ Id (by simp;omega) (x:=iv q) rfl hq
 have hlt:=H.lt
 have hn:=g3.next
 have g:∀j,N≤j→j≤N+6→j≠N+5→s'.heap.get j=s.heap.get j:=fun j r1 r2 r3=>g3.heap j (by omega) (by rw[H.tg j r1 r2 r3];exact CA (by decide))
 have ht:∀j,N≤j→j≤N+6→j≠N+5→ow' j=(p,21,0):=fun j r1 r2 r3=>by rw[g3.tags j (by omega) (by rw[H.tg j r1 r2 r3];exact CA (by decide))];exact H.tg j r1 r2 r3
 have b1:Ak s' (N+1) lv':=l1.keep (g _ (by omega) (by omega) (by omega))
 obtain⟨s'',k1,k2,k3,k4⟩:=b1.store (d:=u) Cb g2.isCell.1 g2.isCell.2
 have st:AH (· = (p,21,0)) ow' s' ow' s'':=⟨by omega,fun _ _ _=>rfl,fun y _ hm=>k4 y fun e=>hm (by rw[e];exact ht (N+1) (by omega) (by omega) (by omega))⟩
 have kk:∀j,N≤j→j≤N+6→j≠N+5→j≠N+1→s''.heap.get j=s.heap.get j:=fun j r1 r2 r3 r4=>(k4 j r4).trans (g j r1 r2 r3)
 refine⟨u,s',s'',ow',g1,k1,{ sat:=(H.sat.keep16 g3 (fun y i hy e=>by injection e with _ e;injection e with e _;omega)).keep16 st (fun y i hy e=>by injection e with _ e;injection e with e _;omega),hl:=H.hl,sb:=H.sb.keep (kk _ (by omega) (by omega) (by omega) (by omega)),lb:=⟨u,k2,?_⟩,vb:=H.vb.keep (kk _ (by omega) (by omega) (by omega) (by omega)),mo:=H.mo.keep (kk _ (by omega) (by omega) (by omega) (by omega)),mb:=H.mb.keep (kk _ (by omega) (by omega) (by omega) (by omega)),ob:=H.ob.keep (kk _ (by omega) (by omega) (by omega) (by omega)),tg:=ht,lt:=by omega },(g3.mono fun t ht=>.inr (.inl ht)).trans (st.mono fun t ht=>.inr (.inr ht))⟩
 have e:A3 (a.hd::(a.lits++[q]))=A3 (a.hd::a.lits)++[iv q]:=by simp
 show BO ow' (p,20,0) s'' u (A3 (a.hd::(a.lits++[q])))
 rw[e]
 exact g2.step st (CA (by decide))
abbrev DI (p N:Nat) (x1 x7 x8 x9 x10 x11 x12 x13 x14 x15 x16 x17 x18 x19 x20:AV):List AV:=[.ptr (some (p,0)),x1,.ptr (some (N,0)),.ptr (some (N+1,0)),.ptr (some (N+2,0)),.ptr (some (N+4,0)),.ptr (some (N+6,0)),x7,x8,x9,x10,x11,x12,x13,x14,x15,x16,x17,x18,x19,x20]
def EV (p N:Nat) (x1 x7 x8 x9 x10 x11 x12 x13 x14 x15 x16 x17 x18 x19 x20:AV) (d:Nat):GO:=J7 67 (DI p N x1 x7 x8 x9 x10 x11 x12 x13 x14 x15 x16 x17 x18 x19 x20) #[26] jg jk d
section
variable{E:BJ}{K:List AV→AG→Prop}{ow:Ow}{s:AG}{p:Nat}{x:Sf}{v:Sv}{N:Nat}{h:List Int}{a:EJ}
theorem jb(H:Du ow s p x v N h a)(k:Nat){x1 x7 x8 x9 x11 x12 x13 x14 x15 x16 x17 x18 x19 x20:AV}(hK:K (DI p N x1 x7 x8 x9 (iv (k:Int)) (.bool (decide (k∈a.seen))) x12 x13 x14 x15 x16 x17 x18 x19 x20) (newObj s (AO 119 0 []))):
  Qb E Wp K [] (DI p N x1 x7 x8 x9 (iv (k:Int)) x11 x12 x13 x14 x15 x16 x17 x18 x19 x20) s:=by
 have hptr:∀i,Made.val i .ptr=.ptr (some (i,0)):=fun _=>rfl
 simp only[Wp,DI,H.mb.load Nz,Gn H.mo k,Un,hptr,BU,Yo,AX,Qa,Qb,Qc,Qd,Qe,Qf,Qg,Qh,Qi,Qj,Qk,Ql,Qm,Qn,true_and,and_true,Qo,Qp,Qq,Qr,Qs,Qt,Qu,Qv,Qw,Qx,Qy,Qz,Ra,Rb,Rc,Rd,Re,Rf,Rg,Rh,Ri,Rj,Rk,Rl,Rm,Ya,Yb,Yc,Rn,Ro,Rp,Yd,Ye,Rq,Rs,Rt,Ru,Rv,Rw,Rx]
 exact hK
theorem jc(H:Du ow s p x v N h a){k:Nat}(hk:k<v.level.length)(b:Bool){x1 x7 x8 x9 x12 x13 x14 x15 x16 x17 x18 x19 x20:AV}(hK:K (DI p N x1 x7 x8 x9 (iv (k:Int)) (.bool b) x12 x13 x14 x15 (.bool (b || decide (v.level.getD k 0=0))) x17 x18 x19 x20) s):
  Qb E Sg K [] (DI p N x1 x7 x8 x9 (iv (k:Int)) (.bool b) x12 x13 x14 x15 x16 x17 x18 x19 x20) s:=by
 have hl:BO ow (p,5,0) s x.lev (A3 v.level):=H.sat.level
 have hg:=AQ (d:=(0:Int)) hk
 have i1:=hl.addr Try.underlying23 Be (k:=k) (by rw[kn];exact hk)
 have i2:=hl.get (t:=3) Df (k:=k) (Av hg)
 have l1:=H.sb.load Dg
 simp only[AJ]at l1
 cases b with
 | true =>
  simp only[Sg,DI,Qa,Qb,Qc,Qd,Qe,Qf,Qg,Qh,Qi,Qj,Qk,Ql,Qm,Qn,true_and,and_true,Qo,Qp,Qq,Qr,Qs,Qt,Qu,Qv,Qw,Qx,Qy,Qz,Ra,Rb,Rc,Rd,Re,Rf,Rg,Rh,Ri,Rj,Rk,Rl,Rm,Ya,Yb,Yc,Rn,Ro,Rp,Yd,Ye,Rq,Rs,Rt,Ru,Rv,Rw,Rx]
  exact hK
 | false =>
  simp only[Sg,DI,l1,AF,Iu,H.sat.ld_lev,i1,i2,Qa,Qb,Qc,Qd,Qe,Qf,Qg,Qh,Qi,Qj,Qk,Ql,Qm,Qn,true_and,and_true,Qo,Qp,Qq,Qr,Qs,Qt,Qu,Qv,Qw,Qx,Qy,Qz,Ra,Rb,Rc,Rd,Re,Rf,Rg,Rh,Ri,Rj,Rk,Rl,Rm,Ya,Yb,Yc,Rn,Ro,Rp,Yd,Ye,Rq,Rs,Rt,Ru,Rv,Rw,Rx]
  simpa using hK
theorem hZ(H:Du ow s p x v N h a){k:Nat}(hk:k ∉ a.seen){x1 x7 x8 x9 x11 x12 x13 x14 x15 x16 x17 x18 x19 x20:AV}(hK:∀s',Du ow s' p x v N h { a with seen:=a.seen++[k] }→AH (Ea p) ow s ow s'→s'.next=s.next→K (DI p N x1 x7 x8 x9 (iv (k:Int)) x11 x12 x13 x14 x15 x16 x17 x18 x19 x20) s'):
  Qb E QR K [] (DI p N x1 x7 x8 x9 (iv (k:Int)) x11 x12 x13 x14 x15 x16 x17 x18 x19 x20) s:=by
 obtain⟨s',g1,g2,g3,g4⟩:=H.addSeen hk
 simp only[QR,DI,H.mb.load Nz,fF,jM,g1,AX,Qa,Qb,Qc,Qd,Qe,Qf,Qg,Qh,Qi,Qj,Qk,Ql,Qm,Qn,true_and,and_true,Qo,Qp,Qq,Qr,Qs,Qt,Qu,Qv,Qw,Qx,Qy,Qz,Ra,Rb,Rc,Rd,Re,Rf,Rg,Rh,Ri,Rj,Rk,Rl,Rm,Ya,Yb,Yc,Rn,Ro,Rp,Yd,Ye,Rq,Rs,Rt,Ru,Rv,Rw,Rx]
 exact hK s' g2 g3 g4
theorem iA(H:Du ow s p x v N h a){k:Nat}(hk:k<h.length){x1 x7 x8 x9 x11 x12 x13 x14 x15 x16 x17 x18 x19 x20:AV}(hK:∀s' h',Du ow s' p x v N h' a→AH (Ea p) ow s ow s'→s'.next=s.next→K (DI p N x1 x7 x8 x9 (iv (k:Int)) x11 x12 x13 x14 x15 x16 x17 x18 x19 x20) s'):
  Qb E QS K [] (DI p N x1 x7 x8 x9 (iv (k:Int)) x11 x12 x13 x14 x15 x16 x17 x18 x19 x20) s:=by
 have hl:BO ow (p,7,0) s x.heat (A3 h):=H.sat.heat
 have hg:=AQ (d:=(0:Int)) hk
 have i1:=hl.addr Try.underlying23 Be (k:=k) (by rw[kn];exact hk)
 have i2:=hl.get (t:=3) Df (k:=k) (Av hg)
 have l1:=H.sb.load Dg
 simp only[AJ]at l1
 obtain⟨s',g1,g2,g3,g4⟩:=H.heat hk (DZ .i64 (h.getD k 0+1))
 simp only[QS,DI,l1,AF,Kr,H.sat.ld_heat,i1,i2,N3,BU,g1,AX,Qa,Qb,Qc,Qd,Qe,Qf,Qg,Qh,Qi,Qj,Qk,Ql,Qm,Qn,true_and,and_true,Qo,Qp,Qq,Qr,Qs,Qt,Qu,Qv,Qw,Qx,Qy,Qz,Ra,Rb,Rc,Rd,Re,Rf,Rg,Rh,Ri,Rj,Rk,Rl,Rm,Ya,Yb,Yc,Rn,Ro,Rp,Yd,Ye,Rq,Rs,Rt,Ru,Rv,Rw,Rx]
 exact hK s' _ g2 g3 g4
theorem iB(H:Du ow s p x v N h a){k:Nat}(hk:k<v.level.length){x1 x7 x8 x9 x11 x12 x13 x14 x15 x16 x17 x18 x19 x20:AV}(hK:K (DI p N x1 x7 x8 x9 (iv (k:Int)) x11 x12 x13 x14 x15 x16 (.bool (decide (v.level.getD k 0=(v.limits.length:Int)))) x18 x19 x20) s):
  Qb E QT K [] (DI p N x1 x7 x8 x9 (iv (k:Int)) x11 x12 x13 x14 x15 x16 x17 x18 x19 x20) s:=by
 have hl:BO ow (p,5,0) s x.lev (A3 v.level):=H.sat.level
 have hm:BO ow (p,10,0) s x.lim (A3 v.limits):=H.sat.limits
 have ln:∀s,A6 Try.prog s 23 x.lim=some (iv (v.limits.length:Int)):=fun s=>by
  have:=hm.len Try.underlying23 s
  rw[kn]at this
  exact this
 have hg:=AQ (d:=(0:Int)) hk
 have i1:=hl.addr Try.underlying23 Be (k:=k) (by rw[kn];exact hk)
 have i2:=hl.get (t:=3) Df (k:=k) (Av hg)
 have l1:=H.sb.load Dg
 simp only[AJ]at l1
 simp only[QT,DI,l1,AF,Iu,Ge,H.sat.ld_lev,H.sat.ld_lim,ln,i1,i2,Qa,Qb,Qc,Qd,Qe,Qf,Qg,Qh,Qi,Qj,Qk,Ql,Qm,Qn,true_and,and_true,Qo,Qp,Qq,Qr,Qs,Qt,Qu,Qv,Qw,Qx,Qy,Qz,Ra,Rb,Rc,Rd,Re,Rf,Rg,Rh,Ri,Rj,Rk,Rl,Rm,Ya,Yb,Yc,Rn,Ro,Rp,Yd,Ye,Rq,Rs,Rt,Ru,Rv,Rw,Rx]
 exact hK
theorem iC(H:Du ow s p x v N h a)(ho:0≤a.opn∧a.opn<1000000000){x1 x7 x8 x9 x10 x11 x12 x13 x14 x15 x16 x17 x18 x19 x20:AV}(hK:∀s',Du ow s' p x v N h { a with opn:=a.opn+1 }→AH (Ea p) ow s ow s'→s'.next=s.next→K (DI p N x1 x7 x8 x9 x10 x11 x12 x13 x14 x15 x16 x17 x18 x19 x20) s'):
  Qb E QU K [] (DI p N x1 x7 x8 x9 x10 x11 x12 x13 x14 x15 x16 x17 x18 x19 x20) s:=by
 obtain⟨s',g1,g2,g3,g4⟩:=H.setOpn (a.opn+1)
 have e3:=Ao Try.prog 3 a.opn 1 ⟨by omega,by omega⟩
 simp only[QU,DI,H.ob.load Df,e3,BU,g1,AX,Qa,Qb,Qc,Qd,Qe,Qf,Qg,Qh,Qi,Qj,Qk,Ql,Qm,Qn,true_and,and_true,Qo,Qp,Qq,Qr,Qs,Qt,Qu,Qv,Qw,Qx,Qy,Qz,Ra,Rb,Rc,Rd,Re,Rf,Rg,Rh,Ri,Rj,Rk,Rl,Rm,Ya,Yb,Yc,Rn,Ro,Rp,Yd,Ye,Rq,Rs,Rt,Ru,Rv,Rw,Rx]
 exact hK s' g2 g3 g4
theorem iD(H:Du ow s p x v N h a)(hle:a.lits.length≤1000000){q:Int}{x1 x7 x8 x10 x11 x12 x13 x14 x15 x16 x17 x18 x19 x20:AV}(hK:∀s' ow',Du ow' s' p x v N h { a with lits:=a.lits++[q] }→AH (Ea p) ow s ow' s'→K (DI p N x1 x7 x8 (iv q) x10 x11 x12 x13 x14 x15 x16 x17 x18 x19 x20) s'):
  Qb E QV K [] (DI p N x1 x7 x8 (iv q) x10 x11 x12 x13 x14 x15 x16 x17 x18 x19 x20) s:=by
 obtain⟨lv,l1,l2⟩:=H.lb
 have hms:∀ (m:Nat) (i:Nat),Made.val i (.slice m)=.slice (some (i,0)) m (some m):=fun _ _=>rfl
 have bl:=Cj (P:=Try.prog) (t:=23) (v:=iv q) Try.underlying23 Be Pd rfl rfl
 have hst:AH (fun _=>False) ow s (ext ow s.next (0,0,0)) (newObj s (AO 3 1 [iv q])):=AH.new _ ow s _ _
 have H1:=H.keep hst (fun _ _ _ q=>q) (fun q=>q) (fun q=>q)
 have l1':Ak (newObj s (AO 3 1 [iv q])) (N+1) lv:=l1.keep (hst.heap _ (by have:=H.lt;omega) (fun q=>q))
 obtain⟨u,s1,s2,ow',f1,f2,f3,f4⟩:=H1.push hle l1' (q:=q) (i:=s.next) (ty:=3) (sz':=1) (by rw[AY,if_pos rfl])
 simp only[QV,DI,l1.load D0,bl,hms,f1,BU,f2,AX,Qa,Qb,Qc,Qd,Qe,Qf,Qg,Qh,Qi,Qj,Qk,Ql,Qm,Qn,true_and,and_true,Qo,Qp,Qq,Qr,Qs,Qt,Qu,Qv,Qw,Qx,Qy,Qz,Ra,Rb,Rc,Rd,Re,Rf,Rg,Rh,Ri,Rj,Rk,Rl,Rm,Ya,Yb,Yc,Rn,Ro,Rp,Yd,Ye,Rq,Rs,Rt,Ru,Rv,Rw,Rx]
 exact hK s2 ow' f3 ((hst.mono fun _ q=>q.elim).trans f4)
theorem iE(H:Du ow s p x v N h a){k:Nat}(hk:k<v.level.length){x1 x7 x8 x9 x11 x12 x13 x14 x15 x16 x17 x18 x19 x20:AV}(hK:∀s',Du ow s' p x v N h { a with lev:=max a.lev (v.level.getD k 0) }→AH (Ea p) ow s ow s'→s'.next=s.next→K (DI p N x1 x7 x8 x9 (iv (k:Int)) x11 x12 x13 x14 x15 x16 x17 x18 x19 x20) s'):
  Qb E QW K [] (DI p N x1 x7 x8 x9 (iv (k:Int)) x11 x12 x13 x14 x15 x16 x17 x18 x19 x20) s:=by
 have hl:BO ow (p,5,0) s x.lev (A3 v.level):=H.sat.level
 have hg:=AQ (d:=(0:Int)) hk
 have i1:=hl.addr Try.underlying23 Be (k:=k) (by rw[kn];exact hk)
 have i2:=hl.get (t:=3) Df (k:=k) (Av hg)
 have l1:=H.sb.load Dg
 simp only[AJ]at l1
 obtain⟨s',g1,g2,g3,g4⟩:=H.setLev (max a.lev (v.level.getD k 0))
 simp only[QW,DI,H.vb.load Df,l1,AF,Iu,H.sat.ld_lev,i1,i2,X9,BU,g1,AX,Qa,Qb,Qc,Qd,Qe,Qf,Qg,Qh,Qi,Qj,Qk,Ql,Qm,Qn,true_and,and_true,Qo,Qp,Qq,Qr,Qs,Qt,Qu,Qv,Qw,Qx,Qy,Qz,Ra,Rb,Rc,Rd,Re,Rf,Rg,Rh,Ri,Rj,Rk,Rl,Rm,Ya,Yb,Yc,Rn,Ro,Rp,Yd,Ye,Rq,Rs,Rt,Ru,Rv,Rw,Rx]
 exact hK s' g2 g3 g4
end
theorem Oj          {E : BJ}  (hE : Good E) {ow : Ow} {s : AG}  {p : Nat} {x : Sf} {v : Sv} {N : Nat} {h : List Int} {a : EJ}  (H : Du  ow s p x v N h a) {n : Nat} (hn : n ≤ 1000000) (hlev : v.level.length = n + 1) (hheat : v.heat.length = n + 1) (hI : GM   n a) {q : Int} (hq : VL n q) {l d : Nat} {x1 x7 x8 x9 x10 x11 x12 x13 x14 x15 x16 x17 x18 x19 x20 : AV}
    (hlp:Bj s l=some (EV p N x1 x7 x8 x9 x10 x11 x12 x13 x14 x15 x16 x17 x18 x19 x20 d)) (htl:ow l=(p,23,0)) (hll:l<s.next) {K:AV→AG→Prop}
    (hK:∀s' ow' h',Du ow' s' p x v N h' (BR v a q)→Bj s' l=some (EV p N x1 x7 x8 x9 x10 x11 x12 x13 x14 x15 x16 x17 x18 x19 x20 d)→AH (GH p) ow s ow' s'→ow' l=(p,23,0)→K (.bool true) s'):
    WR E l [iv q] K s:=by
  have hz:Er (FU E.P 67) (DI p N x1 x7 x8 x9 x10 x11 x12 x13 x14 x15 x16 x17 x18 x19 x20) [26] [iv q]=some (DI p N x1 x7 x8 x9 x10 x11 x12 x13 x14 (iv q) x16 x17 x18 x19 x20):=by
    rw[hE.P,gt];rfl
  refine WR.round hlp hz (by rw[hE.P];exact jy) (by rw[hE.P];exact jz) ?_
  refine KD ?_
  simp only[im,cc,DI,Qa,Qb,Qc,Qd,Qe,Qf,Qg,Qh,Qi,Qj,Qk,Ql,Qm,Qn,true_and,and_true,Qo,Qp,Qq,Qr,Qs,Qt,Qu,Qv,Qw,Qx,Qy,Qz,Ra,Rb,Rc,Rd,Re,Rf,Rg,Rh,Ri,Rj,Rk,Rl,Rm,Ya,Yb,Yc,Rn,Ro,Rp,Yd,Ye,Rq,Rs,Rt,Ru,Rv,Rw,Rx]
  refine⟨_,hlp,rfl,KD ?_⟩
  generalize hs1:setObj s l _=s1
  have n1:s1.next=s.next:=by rw[← hs1];rfl
  have l1:Bj s1 l=some { EV p N x1 x7 x8 x9 x10 x11 x12 x13 x14 x15 x16 x17 x18 x19 x20 d with state:=.busy }:=by rw[← hs1,LD]
  have st1:AH (· = (p,23,0)) ow s ow s1:=⟨by omega,fun _ _ _=>rfl,fun y _ hm=>by rw[← hs1,BL,if_neg (fun e=>hm (by rw[e];exact htl))]⟩
  have H1:Du ow s1 p x v N h a:=H.keep st1 (fun y i hy e=>by injection e with _ e;injection e with e _;omega) (CA (by decide)) (CA (by decide))
  have fin:∀ (s2:AG) (ow2:Ow) (h2:List Int),Du ow2 s2 p x v N h2 (BR v a q)→AH (Ea p) ow s1 ow2 s2→∃r'',Bj s2 l=some r''∧K (.bool true) (setObj s2 l (.loop { r'' with state:=.ready,pending:=none })):=by
    intro s2 ow2 h2 H2 st2
    have hnm:¬ Ea p (p,23,0):=fun e=>by rcases e with e | e | e<;>exact absurd e (CA (by decide))
    have l2:Bj s2 l=some { EV p N x1 x7 x8 x9 x10 x11 x12 x13 x14 x15 x16 x17 x18 x19 x20 d with state:=.busy }:=by
      rw[Tv (st2.heap l (by omega) (by rw[htl];exact hnm))];exact l1
    have t2:ow2 l=(p,23,0):=by rw[st2.tags l (by omega) (by rw[htl];exact hnm)];exact htl
    have hn2:=st2.next
    refine⟨_,l2,?_⟩
    have st3:AH (· = (p,23,0)) ow2 s2 ow2 (setObj s2 l (.loop (EV p N x1 x7 x8 x9 x10 x11 x12 x13 x14 x15 x16 x17 x18 x19 x20 d))):=⟨kp _,fun _ _ _=>rfl,fun y _ hm=>by rw[BL,if_neg (fun e=>hm (by rw[e];exact t2))]⟩
    refine hK _ ow2 h2 (H2.keep st3 (fun y i hy e=>by injection e with _ e;injection e with e _;omega) (CA (by decide)) (CA (by decide))) (LD _ _ _) ?_ t2
    exact((st1.mono fun t ht=>.inr ht).trans (st2.mono fun t ht=>.inl ht)).trans (st3.mono fun t ht=>.inr ht)
  have hq2:=hq.2
  have hsm:=hI.small
  simp only[ip,cd,Qa,Qb,Qc,Qd,Qe,Qf,Qg,Qh,Qi,Qj,Qk,Ql,Qm,Qn,true_and,and_true,Qo,Qp,Qq,Qr,Qs,Qt,Qu,Qv,Qw,Qx,Qy,Qz,Ra,Rb,Rc,Rd,Re,Rf,Rg,Rh,Ri,Rj,Rk,Rl,Rm,Ya,Yb,Yc,Rn,Ro,Rp,Yd,Ye,Rq,Rs,Rt,Ru,Rv,Rw,Rx]
  refine(Cu hE (l:=q) ⟨by omega,by omega⟩).mono ?_
  rintro _ _ ⟨rfl,rfl⟩
  simp only[Qa,Qb,Qc,Qd,Qe,Qf,Qg,Qh,Qi,Qj,Qk,Ql,Qm,Qn,true_and,and_true,Qo,Qp,Qq,Qr,Qs,Qt,Qu,Qv,Qw,Qx,Qy,Qz,Ra,Rb,Rc,Rd,Re,Rf,Rg,Rh,Ri,Rj,Rk,Rl,Rm,Ya,Yb,Yc,Rn,Ro,Rp,Yd,Ye,Rq,Rs,Rt,Ru,Rv,Rw,Rx]
  refine jb H1 q.natAbs ?_
  have st8:AH (fun _=>False) ow s1 (ext ow s1.next (0,0,0)) (newObj s1 (AO 119 0 [])):=AH.new _ ow s1 _ _
  have H8:=H1.keep st8 (fun _ _ _ q=>q) (fun q=>q) (fun q=>q)
  generalize newObj s1 (AO 119 0 [])=s8 at *
  generalize ext ow s1.next (0,0,0)=ow8 at *
  have hst8:AH (Ea p) ow s1 ow8 s8:=st8.mono fun _ q=>q.elim
  try simp only[Qa,Qb,Qc,Qd,Qe,Qf,Qg,Qh,Qi,Qj,Qk,Ql,Qm,Qn,true_and,and_true,Qo,Qp,Qq,Qr,Qs,Qt,Qu,Qv,Qw,Qx,Qy,Qz,Ra,Rb,Rc,Rd,Re,Rf,Rg,Rh,Ri,Rj,Rk,Rl,Rm,Ya,Yb,Yc,Rn,Ro,Rp,Yd,Ye,Rq,Rs,Rt,Ru,Rv,Rw,Rx]
  refine jc H8 (k:=q.natAbs) (by omega) _ ?_
  by_cases hin:q.natAbs∈a.seen
  · have e:BR v a q=a:=by unfold BR;rw[if_pos (.inl hin)]
    rw[e]at fin
    simp only[hin,decide_true,Bool.true_or,if_true,Qa,Qb,Qc,Qd,Qe,Qf,Qg,Qh,Qi,Qj,Qk,Ql,Qm,Qn,true_and,and_true,Qo,Qp,Qq,Qr,Qs,Qt,Qu,Qv,Qw,Qx,Qy,Qz,Ra,Rb,Rc,Rd,Re,Rf,Rg,Rh,Ri,Rj,Rk,Rl,Rm,Ya,Yb,Yc,Rn,Ro,Rp,Yd,Ye,Rq,Rs,Rt,Ru,Rv,Rw,Rx]
    exact fin s8 ow8 h H8 hst8
  · by_cases h0 : v.level.getD q.natAbs 0 = 0
    · have e:BR v a q=a:=by unfold BR;rw[if_pos (.inr h0)]
      rw[e]at fin
      simp only[hin,h0,decide_false,decide_true,Bool.or_true,if_true,Qa,Qb,Qc,Qd,Qe,Qf,Qg,Qh,Qi,Qj,Qk,Ql,Qm,Qn,true_and,and_true,Qo,Qp,Qq,Qr,Qs,Qt,Qu,Qv,Qw,Qx,Qy,Qz,Ra,Rb,Rc,Rd,Re,Rf,Rg,Rh,Ri,Rj,Rk,Rl,Rm,Ya,Yb,Yc,Rn,Ro,Rp,Yd,Ye,Rq,Rs,Rt,Ru,Rv,Rw,Rx]
      exact fin s8 ow8 h H8 hst8
    · simp only[hin,h0,decide_false,Bool.or_self,Qa,Qb,Qc,Qd,Qe,Qf,Qg,Qh,Qi,Qj,Qk,Ql,Qm,Qn,true_and,and_true,Qo,Qp,Qq,Qr,Qs,Qt,Qu,Qv,Qw,Qx,Qy,Qz,Ra,Rb,Rc,Rd,Re,Rf,Rg,Rh,Ri,Rj,Rk,Rl,Rm,Ya,Yb,Yc,Rn,Ro,Rp,Yd,Ye,Rq,Rs,Rt,Ru,Rv,Rw,Rx]
      refine hZ H8 hin ?_
      intro s10 H10 st10 n10
      try simp only[Qa,Qb,Qc,Qd,Qe,Qf,Qg,Qh,Qi,Qj,Qk,Ql,Qm,Qn,true_and,and_true,Qo,Qp,Qq,Qr,Qs,Qt,Qu,Qv,Qw,Qx,Qy,Qz,Ra,Rb,Rc,Rd,Re,Rf,Rg,Rh,Ri,Rj,Rk,Rl,Rm,Ya,Yb,Yc,Rn,Ro,Rp,Yd,Ye,Rq,Rs,Rt,Ru,Rv,Rw,Rx]
      refine iA H10 (k:=q.natAbs) (by have:=H10.hl;omega) ?_
      intro s11 h11 H11 st11 n11
      try simp only[Qa,Qb,Qc,Qd,Qe,Qf,Qg,Qh,Qi,Qj,Qk,Ql,Qm,Qn,true_and,and_true,Qo,Qp,Qq,Qr,Qs,Qt,Qu,Qv,Qw,Qx,Qy,Qz,Ra,Rb,Rc,Rd,Re,Rf,Rg,Rh,Ri,Rj,Rk,Rl,Rm,Ya,Yb,Yc,Rn,Ro,Rp,Yd,Ye,Rq,Rs,Rt,Ru,Rv,Rw,Rx]
      refine iB H11 (k:=q.natAbs) (by omega) ?_
      have hst11:=(hst8.trans st10).trans st11
      by_cases hL:v.level.getD q.natAbs 0=(v.limits.length:Int)
      · have e:BR v a q={ a with seen:=a.seen++[q.natAbs],opn:=a.opn+1 }:=by unfold BR;rw[if_neg (by rintro(e | e);exact hin e;exact h0 e),if_pos hL]
        simp only[hL,decide_true,Qa,Qb,Qc,Qd,Qe,Qf,Qg,Qh,Qi,Qj,Qk,Ql,Qm,Qn,true_and,and_true,Qo,Qp,Qq,Qr,Qs,Qt,Qu,Qv,Qw,Qx,Qy,Qz,Ra,Rb,Rc,Rd,Re,Rf,Rg,Rh,Ri,Rj,Rk,Rl,Rm,Ya,Yb,Yc,Rn,Ro,Rp,Yd,Ye,Rq,Rs,Rt,Ru,Rv,Rw,Rx]
        refine iC H11 (by have:=hI.opn;show 0≤a.opn∧a.opn<_;omega) ?_
        intro s13 H13 st13 n13
        try simp only[Qa,Qb,Qc,Qd,Qe,Qf,Qg,Qh,Qi,Qj,Qk,Ql,Qm,Qn,true_and,and_true,Qo,Qp,Qq,Qr,Qs,Qt,Qu,Qv,Qw,Qx,Qy,Qz,Ra,Rb,Rc,Rd,Re,Rf,Rg,Rh,Ri,Rj,Rk,Rl,Rm,Ya,Yb,Yc,Rn,Ro,Rp,Yd,Ye,Rq,Rs,Rt,Ru,Rv,Rw,Rx]
        rw[e]at fin
        exact fin s13 ow8 h11 H13 (hst11.trans st13)
      · have e:BR v a q={ a with seen:=a.seen++[q.natAbs],lits:=a.lits++[q],lev:=max a.lev (v.level.getD q.natAbs 0) }:=by unfold BR;rw[if_neg (by rintro(e | e);exact hin e;exact h0 e),if_neg hL]
        simp only[hL,decide_false,Qa,Qb,Qc,Qd,Qe,Qf,Qg,Qh,Qi,Qj,Qk,Ql,Qm,Qn,true_and,and_true,Qo,Qp,Qq,Qr,Qs,Qt,Qu,Qv,Qw,Qx,Qy,Qz,Ra,Rb,Rc,Rd,Re,Rf,Rg,Rh,Ri,Rj,Rk,Rl,Rm,Ya,Yb,Yc,Rn,Ro,Rp,Yd,Ye,Rq,Rs,Rt,Ru,Rv,Rw,Rx]
        refine iD H11 (by have:=hI.len;show a.lits.length≤_;omega) ?_
        intro s14 ow14 H14 st14
        try simp only[Qa,Qb,Qc,Qd,Qe,Qf,Qg,Qh,Qi,Qj,Qk,Ql,Qm,Qn,true_and,and_true,Qo,Qp,Qq,Qr,Qs,Qt,Qu,Qv,Qw,Qx,Qy,Qz,Ra,Rb,Rc,Rd,Re,Rf,Rg,Rh,Ri,Rj,Rk,Rl,Rm,Ya,Yb,Yc,Rn,Ro,Rp,Yd,Ye,Rq,Rs,Rt,Ru,Rv,Rw,Rx]
        refine iE H14 (k:=q.natAbs) (by omega) ?_
        intro s15 H15 st15 n15
        try simp only[Qa,Qb,Qc,Qd,Qe,Qf,Qg,Qh,Qi,Qj,Qk,Ql,Qm,Qn,true_and,and_true,Qo,Qp,Qq,Qr,Qs,Qt,Qu,Qv,Qw,Qx,Qy,Qz,Ra,Rb,Rc,Rd,Re,Rf,Rg,Rh,Ri,Rj,Rk,Rl,Rm,Ya,Yb,Yc,Rn,Ro,Rp,Yd,Ye,Rq,Rs,Rt,Ru,Rv,Rw,Rx]
        rw[e]at fin
        exact fin s15 ow14 h11 H15 ((hst11.trans st14).trans st15)
def A9(f:Int→Bool):List Int→Nat→Option Nat
 | [],_=>none
 | x::l,k=>if f x=true then some k else A9 f l (k+1)
def I5:Option Nat→AV
 | none=>iv (-1)
 | some k=>iv (k:Int)
theorem OX{E:BJ}(hE:Good E){s:AG}{b:Nat}{L:List Int}{f:Int→Bool}{g:FuncId}{cp:List AV}(hg:∀q∈L,WF E g (iv q::cp) (fun r s'=>r=.bool (f q)∧s=s') s)(hlen:L.length<9223372036854775808){a:Option (Nat×Nat)}{cap:Option Nat}(hc:BM b s a (A3 L)){Q:Ar→Prop}(x2:AV):
    ∀ (l : List Int) (k : Nat) (x3 x6 x7 : AV), L.drop k = l → k ≤ L.length →
      (A9 f l k=none→∀ (y3 y5 y6 y7:AV),Q ⟨.exit 0,[.slice a L.length cap,.func g [] cp,x2,y3,iv (L.length:Int),y5,y6,y7],[],s⟩) →
      (∀i,A9 f l k=some i→∀ (y3 y5 y6 y7:AV),Q ⟨.ret,[.slice a L.length cap,.func g [] cp,iv (i:Int),y3,iv (L.length:Int),y5,y6,y7],[],s⟩) →
      WC E none (.loop OG) Q [.slice a L.length cap,.func g [] cp,x2,x3,iv (L.length:Int),iv (k:Int),x6,x7] [] s:=by
  intro l
  induction l with
  | nil =>
    intro k x3 x6 x7 hd hk hq _
    have:=Fd hd hk
    subst this
    refine WC.loop' ?_
    simp only[OG,XG,lT,decide_false,Qa,Qb,Qc,Qd,Qe,Qf,Qg,Qh,Qi,Qj,Qk,Ql,Qm,Qn,true_and,and_true,Qo,Qp,Qq,Qr,Qs,Qt,Qu,Qv,Qw,Qx,Qy,Qz,Ra,Rb,Rc,Rd,Re,Rf,Rg,Rh,Ri,Rj,Rk,Rl,Rm,Ya,Yb,Yc,Rn,Ro,Rp,Yd,Ye,Rq,Rs,Rt,Ru,Rv,Rw,Rx]
    exact hq rfl _ _ _ _
  | cons x l ih =>
    intro k x3 x6 x7 hd hk hq hr
    obtain⟨hlt,hx,hd'⟩:=DP hd
    obtain⟨i,o,rfl,hi,hload⟩:=hc k _ (Av hx)
    have hxm:x∈L:=kq hx
    have e1:=Bc (cap:=cap) (i:=i) (o:=o) Try.underlying23 Be hlt
    have e2:AC Try.prog s 3 (.ptr (some (i,o+k * 1)))=some (iv x):=CG Df (by rw[lY];exact hload)
    have hkk:decide ((k:Int)<(L.length:Int))=true:=decide_eq_true (by omega)
    have e3:=Ao Try.prog 3 (k:Int) 1 ⟨by omega,by omega⟩
    have e3':((k:Int)+1)=((k+1:Nat):Int):=by omega
    refine WC.loop' ?_
    generalize hW:WC E none (Aa.loop OG) Q=WW
    simp only[OG,XG,dh,di,hkk,e1,e2,lZ,mE,mN,Qa,Qb,Qc,Qd,Qe,Qf,Qg,Qh,Qi,Qj,Qk,Ql,Qm,Qn,true_and,and_true,Qo,Qp,Qq,Qr,Qs,Qt,Qu,Qv,Qw,Qx,Qy,Qz,Ra,Rb,Rc,Rd,Re,Rf,Rg,Rh,Ri,Rj,Rk,Rl,Rm,Ya,Yb,Yc,Rn,Ro,Rp,Yd,Ye,Rq,Rs,Rt,Ru,Rv,Rw,Rx]
    refine(hg x hxm).mono ?_
    rintro _ _ ⟨rfl,rfl⟩
    cases hf:f x with
    | true =>
      have ef:A9 f (x::l) k=some k:=by unfold A9;rw[if_pos hf]
      simp only[dj,Qa,Qb,Qc,Qd,Qe,Qf,Qg,Qh,Qi,Qj,Qk,Ql,Qm,Qn,true_and,and_true,Qo,Qp,Qq,Qr,Qs,Qt,Qu,Qv,Qw,Qx,Qy,Qz,Ra,Rb,Rc,Rd,Re,Rf,Rg,Rh,Ri,Rj,Rk,Rl,Rm,Ya,Yb,Yc,Rn,Ro,Rp,Yd,Ye,Rq,Rs,Rt,Ru,Rv,Rw,Rx]
      exact hr k ef _ _ _ _
    | false =>
      have ef:A9 f (x::l) k=A9 f l (k+1):=by rw[A9,if_neg (by rw[hf];decide)]
      simp only[dk,e3,e3',Qa,Qb,Qc,Qd,Qe,Qf,Qg,Qh,Qi,Qj,Qk,Ql,Qm,Qn,true_and,and_true,Qo,Qp,Qq,Qr,Qs,Qt,Qu,Qv,Qw,Qx,Qy,Qz,Ra,Rb,Rc,Rd,Re,Rf,Rg,Rh,Ri,Rj,Rk,Rl,Rm,Ya,Yb,Yc,Rn,Ro,Rp,Yd,Ye,Rq,Rs,Rt,Ru,Rv,Rw,Rx]
      rw[← hW]
      rw[ef]at hq hr
      exact ih (k+1) _ _ _ hd' hlt hq hr
theorem MI{E:BJ}(hE:Good E){s:AG}{b:Nat}{L:List Int}{f:Int→Bool}{g:FuncId}{cp:List AV}(hg:∀q∈L,WF E g (iv q::cp) (fun r s'=>r=.bool (f q)∧s=s') s)(hlen:L.length<9223372036854775808){v:AV}(hv:Ae b s v (A3 L)):
  WF E 94 [v,.func g [] cp] (fun r s'=>r=I5 (A9 f L 0)∧s=s') s:=by
 obtain⟨a,cap,rfl,hc⟩:=hv
 rw[EG]
 refine hE.go gQ (by decide) rfl ?_
 simp only[kg,df,dg,BV Try.underlying23,Qa,Qb,Qc,Qd,Qe,Qf,Qg,Qh,Qi,Qj,Qk,Ql,Qm,Qn,true_and,and_true,Qo,Qp,Qq,Qr,Qs,Qt,Qu,Qv,Qw,Qx,Qy,Qz,Ra,Rb,Rc,Rd,Re,Rf,Rg,Rh,Ri,Rj,Rk,Rl,Rm,Ya,Yb,Yc,Rn,Ro,Rp,Yd,Ye,Rq,Rs,Rt,Ru,Rv,Rw,Rx]
 refine OX hE hg hlen hc _ L 0 _ _ _ rfl (ku _) ?_ ?_
 ·intro hn y3 y5 y6 y7
  rw[hn]
  simp only[dm,if_true,I5,Qa,Qb,Qc,Qd,Qe,Qf,Qg,Qh,Qi,Qj,Qk,Ql,Qm,Qn,true_and,and_true,Qo,Qp,Qq,Qr,Qs,Qt,Qu,Qv,Qw,Qx,Qy,Qz,Ra,Rb,Rc,Rd,Re,Rf,Rg,Rh,Ri,Rj,Rk,Rl,Rm,Ya,Yb,Yc,Rn,Ro,Rp,Yd,Ye,Rq,Rs,Rt,Ru,Rv,Rw,Rx]
 ·intro i hi y3 y5 y6 y7
  rw[hi]
  simp only[I5,Qa,Qb,Qc,Qd,Qe,Qf,Qg,Qh,Qi,Qj,Qk,Ql,Qm,Qn,true_and,and_true,Qo,Qp,Qq,Qr,Qs,Qt,Qu,Qv,Qw,Qx,Qy,Qz,Ra,Rb,Rc,Rd,Re,Rf,Rg,Rh,Ri,Rj,Rk,Rl,Rm,Ya,Yb,Yc,Rn,Ro,Rp,Yd,Ye,Rq,Rs,Rt,Ru,Rv,Rw,Rx]
theorem Up{E:BJ}(hE:Good E){ow:Ow}{s:AG}{p:Nat}{x:Sf}{v:Sv}{N:Nat}{h:List Int}{a:EJ}(H:Du ow s p x v N h a){q:Int}(hq:q.natAbs<v.level.length)(hs:v.level.length<1000000000):
  WF E 95 [iv q,.ptr (some (N,0)),.ptr (some (N+2,0))] (fun r s'=>r=.bool (decide (v.level.getD q.natAbs 0=a.lev))∧s=s') s:=by
 have hl:BO ow (p,5,0) s x.lev (A3 v.level):=H.sat.level
 have hg:=AQ (d:=(0:Int)) hq
 have i1:=hl.addr Try.underlying23 Be (k:=q.natAbs) (by rw[kn];exact hq)
 have i2:=hl.get (t:=3) Df (k:=q.natAbs) (Av hg)
 have l1:=H.sb.load Dg
 simp only[AJ]at l1
 have eqp:Fs (.ptr (some (p,0))) (.ptr (some (p,0)))=true:=by simp[Fs]
 refine hE.go gR (by decide) rfl ?_
 simp only[kh,dp,dr,l1,AF,Iu,H.sat.ld_lev,H.vb.load Df,Qa,Qb,Qc,Qd,Qe,Qf,Qg,Qh,Qi,Qj,Qk,Ql,Qm,Qn,true_and,and_true,Qo,Qp,Qq,Qr,Qs,Qt,Qu,Qv,Qw,Qx,Qy,Qz,Ra,Rb,Rc,Rd,Re,Rf,Rg,Rh,Ri,Rj,Rk,Rl,Rm,Ya,Yb,Yc,Rn,Ro,Rp,Yd,Ye,Rq,Rs,Rt,Ru,Rv,Rw,Rx]
 refine(Cu hE (l:=q) ⟨by omega,by omega⟩).mono ?_
 rintro _ _ ⟨rfl,rfl⟩
 simp only[BP,Ap,l1,H.sat.ld_lev,H.vb.load Df,hl.self,NK,eqp,i1,i2,Qa,Qb,Qc,Qd,Qe,Qf,Qg,Qh,Qi,Qj,Qk,Ql,Qm,Qn,true_and,and_true,Qo,Qp,Qq,Qr,Qs,Qt,Qu,Qv,Qw,Qx,Qy,Qz,Ra,Rb,Rc,Rd,Re,Rf,Rg,Rh,Ri,Rj,Rk,Rl,Rm,Ya,Yb,Yc,Rn,Ro,Rp,Yd,Ye,Rq,Rs,Rt,Ru,Rv,Rw,Rx]
theorem T6{E:BJ}(hE:Good E){s:AG}(c:Nat)(l:Int):WF E 93 [AJ c,iv l] (fun r s'=>r=.func 111 [] [.ptr (some (s.next,0)),.ptr (some (s.next+1,0))]∧s'=newObj (newObj s (AO 92 0 [AJ c])) (AO 3 0 [iv l])) s:=by
 have hptr:∀i,Made.val i .ptr=.ptr (some (i,0)):=fun _=>rfl
 have hb1:DD 92 (AJ c)=some (AO 92 0 [AJ c],.ptr):=by simp[DD,AJ,AV.cells]
 have hb2:DD 3 (iv l)=some (AO 3 0 [iv l],.ptr):=by simp[DD,AV.cells]
 refine hE.go gP (by decide) rfl ?_
 simp only[kf,dc,de,hb1,hb2,hptr,mC,lq,Qa,Qb,Qc,Qd,Qe,Qf,Qg,Qh,Qi,Qj,Qk,Ql,Qm,Qn,true_and,and_true,Qo,Qp,Qq,Qr,Qs,Qt,Qu,Qv,Qw,Qx,Qy,Qz,Ra,Rb,Rc,Rd,Re,Rf,Rg,Rh,Ri,Rj,Rk,Rl,Rm,Ya,Yb,Yc,Rn,Ro,Rp,Yd,Ye,Rq,Rs,Rt,Ru,Rv,Rw,Rx]
 rfl
def rest(but:Int)(L:List Int):List Int:=L.filter fun q=>decide (q≠but)
theorem O2          {E : BJ}  (hE : Good E) {ow0 : Ow} {s0 : AG}  {p : Nat} {x : Sf} {v : Sv} {N : Nat} {n : Nat} (hn : n ≤ 1000000) (hlev : v.level.length = n + 1) (hheat : v.heat.length = n + 1) {ls : List Int} (hls : A1    n ls) {c cb kb l d : Nat} {but : Int} {u : AV} {R : EJ}
    {x1 x7 x8 x9 x10 x11 x12 x13 x14 x15 x16 x17 x18 x19 x20:AV} {Q:Ar→Prop}
    (hq:∀s' ow' h' y3 y7 y8,Du ow' s' p x v N h' R→GM n R→Bj s' l=some (EV p N x1 x7 x8 x9 x10 x11 x12 x13 x14 x15 x16 x17 x18 x19 x20 d)→AH (GH p) ow0 s0 ow' s'→ow' l=(p,23,0)→Q ⟨.exit 0,[.yield l,.ptr (some (cb,0)),.ptr (some (kb,0)),y3,u,iv (ls.length:Int),iv (ls.length:Int),y7,y8],[],s'⟩):
    ∀ (m k:Nat) (s:AG) (ow:Ow) (h:List Int) (a:EJ) (x3 x7' x8':AV),ls.length - k=m→k≤ls.length→Du ow s p x v N h a→GM n a→BO ow (p,15,c) s u (A3 ls)→Ak s kb (iv but)→ow kb=(p,22,0)→kb<s.next→Bj s l=some (EV p N x1 x7 x8 x9 x10 x11 x12 x13 x14 x15 x16 x17 x18 x19 x20 d)→ow l=(p,23,0)→l<s.next→AH (GH p) ow0 s0 ow s→(rest but (ls.drop k)).foldl (BR v) a=R →
      WC E none (.loop Ij) Q [.yield l,.ptr (some (cb,0)),.ptr (some (kb,0)),x3,u,iv (ls.length:Int),iv (k:Int),x7',x8'] [] s:=by
  intro m
  induction m with
  | zero =>
    intro k s ow h a x3 x7' x8' hm hk H hI hu hkb htk hlk hlp htl hll hst hR
    have hk:k=ls.length:=by omega
    subst hk
    rw[List.drop_length]at hR
    have hR:a=R:=hR
    subst hR
    refine WC.loop' ?_
    simp only[Ij,M5,lT,decide_false,Qa,Qb,Qc,Qd,Qe,Qf,Qg,Qh,Qi,Qj,Qk,Ql,Qm,Qn,true_and,and_true,Qo,Qp,Qq,Qr,Qs,Qt,Qu,Qv,Qw,Qx,Qy,Qz,Ra,Rb,Rc,Rd,Re,Rf,Rg,Rh,Ri,Rj,Rk,Rl,Rm,Ya,Yb,Yc,Rn,Ro,Rp,Yd,Ye,Rq,Rs,Rt,Ru,Rv,Rw,Rx]
    exact hq s ow h _ _ _ H hI hlp hst htl
  | succ m ih =>
    intro k s ow h a x3 x7' x8' hm hk H hI hu hkb htk hlk hlp htl hll hst hR
    have hlt:k<ls.length:=by omega
    have hls2:=hls.2
    have hV:=hls.get hlt
    have hg:=AQ (d:=(0:Int)) hlt
    have i1:=hu.addr Try.underlying23 Be (k:=k) (by rw[kn];exact hlt)
    have i2:=hu.get (t:=3) Df (k:=k) (Av hg)
    have hd:decide ((k:Int)<(ls.length:Int))=true:=decide_eq_true (by omega)
    have e3:=Ao Try.prog 3 (k:Int) 1 ⟨by omega,by omega⟩
    have e3':((k:Int)+1)=((k+1:Nat):Int):=by omega
    have hdr:ls.drop k=ls.getD k 0::ls.drop (k+1):=by
      rw[List.drop_eq_getElem_cons hlt]
      congr 1
      rw[ky hlt]at hg
      injection hg
    refine WC.loop' ?_
    generalize hW:WC E none (Aa.loop Ij) Q=WW
    by_cases he:ls.getD k 0=but
    · have hne:decide (ls.getD k 0≠but)=false:=decide_eq_false (fun q=>q he)
      simp only[Ij,M5,hd,Pp,i1,i2,Pq,hkb.load Df,hne,Pr,e3,e3',Qa,Qb,Qc,Qd,Qe,Qf,Qg,Qh,Qi,Qj,Qk,Ql,Qm,Qn,true_and,and_true,Qo,Qp,Qq,Qr,Qs,Qt,Qu,Qv,Qw,Qx,Qy,Qz,Ra,Rb,Rc,Rd,Re,Rf,Rg,Rh,Ri,Rj,Rk,Rl,Rm,Ya,Yb,Yc,Rn,Ro,Rp,Yd,Ye,Rq,Rs,Rt,Ru,Rv,Rw,Rx]
      rw[← hW]
      refine ih (k+1) s ow h a _ _ _ (by omega) (by omega) H hI hu hkb htk hlk hlp htl hll hst ?_
      rw[hdr]at hR
      unfold rest at hR
      rw[List.filter_cons_of_neg (p:=fun q=>decide (q≠but)) (by rw[hne];decide)]at hR
      exact hR
    · have hne:decide (ls.getD k 0≠but)=true:=decide_eq_true he
      simp only[Ij,M5,hd,Pp,i1,i2,Pq,hkb.load Df,hne,Qa,Qb,Qc,Qd,Qe,Qf,Qg,Qh,Qi,Qj,Qk,Ql,Qm,Qn,true_and,and_true,Qo,Qp,Qq,Qr,Qs,Qt,Qu,Qv,Qw,Qx,Qy,Qz,Ra,Rb,Rc,Rd,Re,Rf,Rg,Rh,Ri,Rj,Rk,Rl,Rm,Ya,Yb,Yc,Rn,Ro,Rp,Yd,Ye,Rq,Rs,Rt,Ru,Rv,Rw,Rx]
      refine Oj hE H hn hlev hheat hI hV hlp htl hll ?_
      intro s' ow' h' H' hlp' st' hlo
      have hn':=st'.next
      have nm:∀y i,y≠7→y≠20→y≠21→y≠23→¬ GH p (p,y,i):=by
        rintro y i g1 g2 g3 g4 ((e | e | e) | e)
        · exact CA g1 e
        · exact CA g2 e
        · exact CA g3 e
        · exact CA g4 e
      simp only[Pr,e3,e3',Qa,Qb,Qc,Qd,Qe,Qf,Qg,Qh,Qi,Qj,Qk,Ql,Qm,Qn,true_and,and_true,Qo,Qp,Qq,Qr,Qs,Qt,Qu,Qv,Qw,Qx,Qy,Qz,Ra,Rb,Rc,Rd,Re,Rf,Rg,Rh,Ri,Rj,Rk,Rl,Rm,Ya,Yb,Yc,Rn,Ro,Rp,Yd,Ye,Rq,Rs,Rt,Ru,Rv,Rw,Rx]
      rw[← hW]
      refine ih (k+1) s' ow' h' (BR v a (ls.getD k 0)) _ _ _ (by omega) (by omega) H' (hI.step v hV) (hu.step st' (nm _ _ (by decide) (by decide) (by decide) (by decide))) (hkb.keep (st'.heap kb hlk (by rw[htk];exact nm _ _ (by decide) (by decide) (by decide) (by decide)))) (by rw[st'.tags kb hlk (by rw[htk];exact nm _ _ (by decide) (by decide) (by decide) (by decide))];exact htk) (by omega) hlp' hlo (by omega) (hst.trans st') ?_
      rw[hdr]at hR
      unfold rest at hR
      rw[List.filter_cons_of_pos (p:=fun q=>decide (q≠but)) hne]at hR
      exact hR
theorem JB{p y i:Nat}(g1:y≠7)(g2:y≠20)(g3:y≠21)(g4:y≠23):¬ GH p (p,y,i):=by
 rintro((e | e | e) | e)
 ·exact CA g1 e
 ·exact CA g2 e
 ·exact CA g3 e
 ·exact CA g4 e
theorem R6{E:BJ}(hE:Good E){ow:Ow}{s:AG}{p:Nat}{x:Sf}{v:Sv}{N:Nat}{h:List Int}{a:EJ}(H:Du ow s p x v N h a){n:Nat}(hn:n≤1000000)(hlev:v.level.length=n+1)(hheat:v.heat.length=n+1)(hI:GM n a){c:Nat}{ls:List Int}{b:Bool×Bool}(hc:v.cl c=some (ls,b))(hls:A1 n ls){cb kb l d:Nat}{but:Int}
  {x1 x7 x8 x9 x10 x11 x12 x13 x14 x15 x16 x17 x18 x19 x20:AV} (hcb:Ak s cb (AJ c)) (hkb:Ak s kb (iv but)) (htk:ow kb=(p,22,0)) (hlk:kb<s.next) (hlp:Bj s l=some (EV p N x1 x7 x8 x9 x10 x11 x12 x13 x14 x15 x16 x17 x18 x19 x20 d)) (htl:ow l=(p,23,0)) (hll:l<s.next):
  WF E 111 [.yield l,.ptr (some (cb,0)),.ptr (some (kb,0))] (fun _ s'=>∃ow' h',Du ow' s' p x v N h' ((rest but ls).foldl (BR v) a)∧GM n ((rest but ls).foldl (BR v) a)∧Bj s' l=some (EV p N x1 x7 x8 x9 x10 x11 x12 x13 x14 x15 x16 x17 x18 x19 x20 d)∧AH (GH p) ow s ow' s'∧ow' l=(p,23,0)) s:=by
 obtain⟨u,hbox,ht1,hlc,hu⟩:=H.sat.cls c (ls,b) hc
 have lu:AC Try.prog s 23 (.ptr (some (c,0)))=some u:=hbox.load rfl D0
 have ln:∀s,A6 Try.prog s 23 u=some (iv (ls.length:Int)):=fun s=>by
  have:=hu.len Try.underlying23 s
  rw[kn]at this
  exact this
 have lc:=hcb.load KK
 simp only[AJ]at lc
 refine hE.go Zt (by decide) rfl ?_
 simp only[iX,VM,lc,AF,Cy,lu,ln,Qa,Qb,Qc,Qd,Qe,Qf,Qg,Qh,Qi,Qj,Qk,Ql,Qm,Qn,true_and,and_true,Qo,Qp,Qq,Qr,Qs,Qt,Qu,Qv,Qw,Qx,Qy,Qz,Ra,Rb,Rc,Rd,Re,Rf,Rg,Rh,Ri,Rj,Rk,Rl,Rm,Ya,Yb,Yc,Rn,Ro,Rp,Yd,Ye,Rq,Rs,Rt,Ru,Rv,Rw,Rx]
 refine O2 hE hn hlev hheat hls (c:=c) (l:=l) (d:=d) (R:=(rest but ls).foldl (BR v) a) ?_ _ 0 s ow h a _ _ _ rfl (ku _) H hI hu hkb htk hlk hlp htl hll (AH.refl _ _ _) (by rw[lq])
 intro s' ow' h' y3 y7 y8 g1 g2 g3 g4 g5
 simp only[if_true,Qa,Qb,Qc,Qd,Qe,Qf,Qg,Qh,Qi,Qj,Qk,Ql,Qm,Qn,true_and,and_true,Qo,Qp,Qq,Qr,Qs,Qt,Qu,Qv,Qw,Qx,Qy,Qz,Ra,Rb,Rc,Rd,Re,Rf,Rg,Rh,Ri,Rj,Rk,Rl,Rm,Ya,Yb,Yc,Rn,Ro,Rp,Yd,Ye,Rq,Rs,Rt,Ru,Rv,Rw,Rx]
 exact⟨ow',h',g1,g2,g3,g4,g5⟩
def Lv(tr:List Int)(seen:List Nat):Nat→Option Nat
 | 0=>none
 | k+1=>if (tr.getD k 0).natAbs∈seen then some k else Lv tr seen k
theorem Nm{tr:List Int}{seen:List Nat}:∀ {k i:Nat},Lv tr seen k=some i→i<k∧(tr.getD i 0).natAbs∈seen
 | 0,i,h=>by cases h
 | k+1,i,h=>by
  unfold Lv at h
  split at h
  ·injection h with h
   subst h
   exact⟨lW _,by assumption⟩
  ·obtain⟨h1,h2⟩:=Nm h
   exact⟨by omega,h2⟩
theorem PF{E:BJ}(hE:Good E){ow:Ow}{s:AG}{p:Nat}{x:Sf}{v:Sv}{N:Nat}{h:List Int}{a:EJ}(H:Du ow s p x v N h a){n:Nat}(hf:Lm n v){i:Nat}{M:List Nat}{Q:Ar→Prop}{x1 x8 x9 x10 x11 x13 x14 x15 x16 x17 x19 x20:AV}
  (hq:∀y18,Q ⟨.exit 4,DI p N x1 (iv (i:Int)) x8 x9 x10 x11 (.bool true) x13 x14 x15 x16 x17 y18 x19 x20,M,s⟩):
  ∀ (k:Nat) (x18:AV),k≤v.trail.length→Lv v.trail a.seen k=some i→WC E none (.loop Il) Q (DI p N x1 (iv (k:Int)) x8 x9 x10 x11 (.bool false) x13 x14 x15 x16 x17 x18 x19 x20) M s:=by
 have htr:BO ow (p,9,0) s x.tr (A3 v.trail):=H.sat.trail
 have l1:=H.sb.load Dg
 simp only[AJ]at l1
 intro k
 induction k with
 | zero=>intro x18 hk hs;cases hs
 | succ k ih =>
  intro x18 hk hs
  have hlt:k<v.trail.length:=hk
  have hg:=AQ (d:=(0:Int)) hlt
  have hV:=hf.lits _ (kq hg)
  have hsz:=hf.siz.small
  have htl:=hf.siz.trail
  have i1:=htr.addr Try.underlying23 Be (k:=k) (by rw[kn];exact hlt)
  have i2:=htr.get (t:=3) Df (k:=k) (Av hg)
  have e3:=EF Try.prog 3 ((k+1:Nat):Int) 1 ⟨by omega,by omega⟩
  have e3':((k+1:Nat):Int) - 1=(k:Int):=by omega
  have eqm:Fs (.map (some (N+3))) (.map (some (N+3)))=true:=by simp[Fs]
  refine WC.loop' ?_
  generalize hW:WC E none (Aa.loop Il) Q=WW
  simp only[Il,QX,Wn,Wo,DI,e3,e3',H.mb.load Nz,l1,AF,E0,H.sat.ld_tr,i1,i2,Qa,Qb,Qc,Qd,Qe,Qf,Qg,Qh,Qi,Qj,Qk,Ql,Qm,Qn,true_and,and_true,Qo,Qp,Qq,Qr,Qs,Qt,Qu,Qv,Qw,Qx,Qy,Qz,Ra,Rb,Rc,Rd,Re,Rf,Rg,Rh,Ri,Rj,Rk,Rl,Rm,Ya,Yb,Yc,Rn,Ro,Rp,Yd,Ye,Rq,Rs,Rt,Ru,Rv,Rw,Rx]
  refine(Cu hE (l:=v.trail.getD k 0) ⟨by have:=hV.2;omega,by have:=hV.2;omega⟩).mono ?_
  rintro _ _ ⟨rfl,rfl⟩
  unfold Lv at hs
  by_cases hin:(v.trail.getD k 0).natAbs∈a.seen
  ·rw[if_pos hin]at hs
   injection hs with hs
   subst hs
   simp only[BP,Ap,H.mb.load Nz,eqm,BU,Gn H.mo,hin,decide_true,Qa,Qb,Qc,Qd,Qe,Qf,Qg,Qh,Qi,Qj,Qk,Ql,Qm,Qn,true_and,and_true,Qo,Qp,Qq,Qr,Qs,Qt,Qu,Qv,Qw,Qx,Qy,Qz,Ra,Rb,Rc,Rd,Re,Rf,Rg,Rh,Ri,Rj,Rk,Rl,Rm,Ya,Yb,Yc,Rn,Ro,Rp,Yd,Ye,Rq,Rs,Rt,Ru,Rv,Rw,Rx]
   rw[← hW]
   refine WC.loop' ?_
   generalize hW2:WC E none (Aa.loop Il) Q=WW2
   simp only[Il,QX,Qa,Qb,Qc,Qd,Qe,Qf,Qg,Qh,Qi,Qj,Qk,Ql,Qm,Qn,true_and,and_true,Qo,Qp,Qq,Qr,Qs,Qt,Qu,Qv,Qw,Qx,Qy,Qz,Ra,Rb,Rc,Rd,Re,Rf,Rg,Rh,Ri,Rj,Rk,Rl,Rm,Ya,Yb,Yc,Rn,Ro,Rp,Yd,Ye,Rq,Rs,Rt,Ru,Rv,Rw,Rx]
   exact hq _
  ·rw[if_neg hin]at hs
   simp only[BP,Ap,H.mb.load Nz,eqm,BU,Gn H.mo,hin,decide_false,Qa,Qb,Qc,Qd,Qe,Qf,Qg,Qh,Qi,Qj,Qk,Ql,Qm,Qn,true_and,and_true,Qo,Qp,Qq,Qr,Qs,Qt,Qu,Qv,Qw,Qx,Qy,Qz,Ra,Rb,Rc,Rd,Re,Rf,Rg,Rh,Ri,Rj,Rk,Rl,Rm,Ya,Yb,Yc,Rn,Ro,Rp,Yd,Ye,Rq,Rs,Rt,Ru,Rv,Rw,Rx]
   rw[← hW]
   exact ih _ (by omega) hs
section
variable{E:BJ}{K:List AV→AG→Prop}{ow:Ow}{s:AG}{p:Nat}{x:Sf}{v:Sv}{N:Nat}{h:List Int}{a:EJ}
theorem iF(H:Du ow s p x v N h a){k:Nat}(hk:k<v.trail.length){x1 x8 x9 x10 x11 x12 x13 x14 x15 x16 x17 x18 x19 x20:AV}(hK:K (DI p N x1 (iv (k:Int)) (iv (v.trail.getD k 0)) x9 x10 x11 x12 x13 x14 x15 x16 x17 x18 x19 x20) s):
  Qb E QY K [] (DI p N x1 (iv (k:Int)) x8 x9 x10 x11 x12 x13 x14 x15 x16 x17 x18 x19 x20) s:=by
 have htr:BO ow (p,9,0) s x.tr (A3 v.trail):=H.sat.trail
 have l1:=H.sb.load Dg
 simp only[AJ]at l1
 have hg:=AQ (d:=(0:Int)) hk
 have i1:=htr.addr Try.underlying23 Be (k:=k) (by rw[kn];exact hk)
 have i2:=htr.get (t:=3) Df (k:=k) (Av hg)
 simp only[QY,DI,l1,AF,E0,H.sat.ld_tr,i1,i2,Qa,Qb,Qc,Qd,Qe,Qf,Qg,Qh,Qi,Qj,Qk,Ql,Qm,Qn,true_and,and_true,Qo,Qp,Qq,Qr,Qs,Qt,Qu,Qv,Qw,Qx,Qy,Qz,Ra,Rb,Rc,Rd,Re,Rf,Rg,Rh,Ri,Rj,Rk,Rl,Rm,Ya,Yb,Yc,Rn,Ro,Rp,Yd,Ye,Rq,Rs,Rt,Ru,Rv,Rw,Rx]
 exact hK
theorem iG(hE:Good E)(H:Du ow s p x v N h a){q:Int}(hq:q.natAbs<v.why.length)(hs:v.why.length<1000000000){x1 x7 x9 x10 x11 x12 x13 x14 x15 x16 x17 x18 x19 x20:AV}(hK:K (DI p N (G4 (v.why.getD q.natAbs none)) x7 (iv q) x9 x10 x11 x12 x13 x14 x15 x16 x17 x18 x19 x20) s):
  Qb E QZ K [] (DI p N x1 x7 (iv q) x9 x10 x11 x12 x13 x14 x15 x16 x17 x18 x19 x20) s:=by
 have hw:BO ow (p,6,0) s x.why (v.why.map G4):=H.sat.why
 have l1:=H.sb.load Dg
 simp only[AJ]at l1
 have hg:=AQ (d:=(none:Option Nat)) hq
 have i1:=hw.addr Try.underlying89 El (k:=q.natAbs) (by rw[kn];exact hq)
 have i2:=hw.get (t:=92) KK (k:=q.natAbs) (by rw[lg,hg];rfl)
 have eqp:Fs (.ptr (some (p,0))) (.ptr (some (p,0)))=true:=by simp[Fs]
 simp only[QZ,DI,l1,AF,Kq,H.sat.ld_why,Qa,Qb,Qc,Qd,Qe,Qf,Qg,Qh,Qi,Qj,Qk,Ql,Qm,Qn,true_and,and_true,Qo,Qp,Qq,Qr,Qs,Qt,Qu,Qv,Qw,Qx,Qy,Qz,Ra,Rb,Rc,Rd,Re,Rf,Rg,Rh,Ri,Rj,Rk,Rl,Rm,Ya,Yb,Yc,Rn,Ro,Rp,Yd,Ye,Rq,Rs,Rt,Ru,Rv,Rw,Rx]
 refine(Cu hE (l:=q) ⟨by omega,by omega⟩).mono ?_
 rintro _ _ ⟨rfl,rfl⟩
 simp only[BP,Ap,l1,eqp,H.sat.ld_why,hw.self,i1,i2,Qa,Qb,Qc,Qd,Qe,Qf,Qg,Qh,Qi,Qj,Qk,Ql,Qm,Qn,true_and,and_true,Qo,Qp,Qq,Qr,Qs,Qt,Qu,Qv,Qw,Qx,Qy,Qz,Ra,Rb,Rc,Rd,Re,Rf,Rg,Rh,Ri,Rj,Rk,Rl,Rm,Ya,Yb,Yc,Rn,Ro,Rp,Yd,Ye,Rq,Rs,Rt,Ru,Rv,Rw,Rx]
 exact hK
theorem iH(H:Du ow s p x v N h a)(ho:0≤a.opn∧a.opn<1000000000){x1 x7 x8 x9 x10 x11 x12 x13 x14 x15 x16 x17 x18 x19 x20:AV}(hK:∀s',Du ow s' p x v N h { a with opn:=a.opn - 1 }→AH (Ea p) ow s ow s'→s'.next=s.next→K (DI p N x1 x7 x8 x9 x10 x11 x12 x13 x14 x15 x16 x17 x18 x19 x20) s'):
  Qb E Q0 K [] (DI p N x1 x7 x8 x9 x10 x11 x12 x13 x14 x15 x16 x17 x18 x19 x20) s:=by
 obtain⟨s',g1,g2,g3,g4⟩:=H.setOpn (a.opn - 1)
 have e3:=EF Try.prog 3 a.opn 1 ⟨by omega,by omega⟩
 simp only[Q0,DI,H.ob.load Df,e3,BU,g1,AX,Qa,Qb,Qc,Qd,Qe,Qf,Qg,Qh,Qi,Qj,Qk,Ql,Qm,Qn,true_and,and_true,Qo,Qp,Qq,Qr,Qs,Qt,Qu,Qv,Qw,Qx,Qy,Qz,Ra,Rb,Rc,Rd,Re,Rf,Rg,Rh,Ri,Rj,Rk,Rl,Rm,Ya,Yb,Yc,Rn,Ro,Rp,Yd,Ye,Rq,Rs,Rt,Ru,Rv,Rw,Rx]
 exact hK s' g2 g3 g4
theorem iI(H:Du ow s p x v N h a){x1 x7 x8 x9 x10 x11 x12 x13 x14 x15 x16 x17 x18 x19 x20:AV}(hK:K (DI p N x1 x7 x8 x9 x10 x11 x12 x13 x14 x15 x16 x17 x18 (.bool (decide (a.opn=0))) x20) s):
  Qb E Q1 K [] (DI p N x1 x7 x8 x9 x10 x11 x12 x13 x14 x15 x16 x17 x18 x19 x20) s:=by
 simp only[Q1,DI,H.ob.load Df,Qa,Qb,Qc,Qd,Qe,Qf,Qg,Qh,Qi,Qj,Qk,Ql,Qm,Qn,true_and,and_true,Qo,Qp,Qq,Qr,Qs,Qt,Qu,Qv,Qw,Qx,Qy,Qz,Ra,Rb,Rc,Rd,Re,Rf,Rg,Rh,Ri,Rj,Rk,Rl,Rm,Ya,Yb,Yc,Rn,Ro,Rp,Yd,Ye,Rq,Rs,Rt,Ru,Rv,Rw,Rx]
 exact hK
theorem iJ(H:Du ow s p x v N h a){q:Int}(hq:i64 (-q)){x1 x7 x9 x10 x11 x12 x13 x14 x15 x16 x17 x18 x19 x20:AV}(hK:∀s',Du ow s' p x v N h { a with hd:=-q }→AH (Ea p) ow s ow s'→s'.next=s.next→K (DI p N x1 x7 (iv q) x9 x10 x11 x12 x13 x14 x15 x16 x17 x18 x19 x20) s'):
  Qb E Q2 K [] (DI p N x1 x7 (iv q) x9 x10 x11 x12 x13 x14 x15 x16 x17 x18 x19 x20) s:=by
 obtain⟨lv,b1,b2⟩:=H.lb
 have e1:=FT Try.prog q hq
 have i0:AD Try.prog 23 lv (iv 0)=some (Az lv 0):=b2.addr Try.underlying23 Be (k:=0) (by simp)
 obtain⟨s',g1,g2,g3,g4⟩:=b2.set (t:=3) Be (k:=0) (x:=iv (-q)) (by simp) rfl rfl
 have hlt:=H.lt
 have g:∀j,N≤j→j≤N+6→j≠N+5→s'.heap.get j=s.heap.get j:=fun j q1 q2 q3=>g3.heap j (by omega) (by rw[H.tg j q1 q2 q3];exact CA (by decide))
 simp only[Q2,DI,b1.load D0,e1,i0,BU,g1,AX,Qa,Qb,Qc,Qd,Qe,Qf,Qg,Qh,Qi,Qj,Qk,Ql,Qm,Qn,true_and,and_true,Qo,Qp,Qq,Qr,Qs,Qt,Qu,Qv,Qw,Qx,Qy,Qz,Ra,Rb,Rc,Rd,Re,Rf,Rg,Rh,Ri,Rj,Rk,Rl,Rm,Ya,Yb,Yc,Rn,Ro,Rp,Yd,Ye,Rq,Rs,Rt,Ru,Rv,Rw,Rx]
 refine hK s' { sat:=H.sat.keep16 g3 (fun y i hy e=>by injection e with _ e;injection e with e _;omega),hl:=H.hl,sb:=H.sb.keep (g _ (by omega) (by omega) (by omega)),lb:=⟨lv,b1.keep (g _ (by omega) (by omega) (by omega)),g2⟩,vb:=H.vb.keep (g _ (by omega) (by omega) (by omega)),mo:=H.mo.keep (g _ (by omega) (by omega) (by omega)),mb:=H.mb.keep (g _ (by omega) (by omega) (by omega)),ob:=H.ob.keep (g _ (by omega) (by omega) (by omega)),tg:=H.tg,lt:=by omega } (g3.mono fun t ht=>.inr (.inl ht)) g4
end
def CU(ow:Ow)(s:AG)(p:Nat)(M:List Nat):Prop:=M.Nodup∧∀i∈M,s.heap.get i=some .mark∧ow i=(p,22,0)∧i<s.next
theorem CU.step{ow ow':Ow}{s s':AG}{p:Nat}{M:List Nat}{m:BT→Prop}(h:CU ow s p M)(k:AH m ow s ow' s')(hm:¬ m (p,22,0)):CU ow' s' p M:=by
 have hn:=k.next
 refine⟨h.1,fun i hi=>?_⟩
 obtain⟨h1,h2,h3⟩:=h.2 i hi
 exact⟨(k.heap i h3 (by rw[h2];exact hm)).trans h1,(k.tags i h3 (by rw[h2];exact hm)).trans h2,by omega⟩
theorem Lh:∀ (M:List Nat)(s:AG),M.Nodup→(∀i∈M,s.heap.get i=some .mark)→∃s',unmark s M=some s'∧s'.next=s.next∧∀j,j ∉ M→s'.heap.get j=s.heap.get j
 | [],s,_,_=>⟨s,rfl,rfl,fun _ _=>rfl⟩
 | i::M,s,h1,h2=>by
  rw[mV]at h1
  obtain⟨s',g1,g2,g3⟩:=Lh M (CV s i) h1.2 (fun j hj=>by
   rw[E2,if_neg (fun e=>h1.1 (by rw[← e];exact hj))]
   exact h2 j (kz _ hj))
  refine⟨s',?_,g2,fun j hj=>?_⟩
  ·have:=h2 i (kx ..)
   simp only[unmark,this]
   exact g1
  ·rw[g3 j (fun q=>hj (kz _ q)),E2,if_neg (fun e=>hj (by rw[e];exact kx ..))]
theorem CU.unmark{ow:Ow}{s:AG}{p:Nat}{M:List Nat}(h:CU ow s p M):∃s',Go.Proofs.Ytilhhmkdcoajnaa.Am.unmark s M=some s'∧s'.next=s.next∧AH (· = (p,22,0)) ow s ow s':=by
 obtain⟨s',g1,g2,g3⟩:=Lh M s h.1 (fun i hi=>(h.2 i hi).1)
 exact⟨s',g1,g2,by omega,fun _ _ _=>rfl,fun y hy hm=>g3 y fun q=>hm (h.2 y q).2.1⟩
inductive CS (v:Sv):Nat→EJ→Nat→Int→EJ→Prop
 | last {c:Nat} {a a':EJ} {at_ i:Nat} {l:Int} {ls:List Int} {b:Bool×Bool} (hc:v.cl c=some (ls,b)) (ha:(rest l ls).foldl (BR v) a=a') (hs:Lv v.trail a'.seen at_=some i) (ho:a'.opn=1):CS v c a at_ l { a' with opn:=0,hd:=-(v.trail.getD i 0) }
 | more {c c':Nat} {a a' r:EJ} {at_ i:Nat} {l:Int} {ls:List Int} {b:Bool×Bool} (hc:v.cl c=some (ls,b)) (ha:(rest l ls).foldl (BR v) a=a') (hs:Lv v.trail a'.seen at_=some i) (ho:2≤a'.opn) (hw:v.why.getD (v.trail.getD i 0).natAbs none=some c') (hr:CS v c' { a' with opn:=a'.opn - 1 } i (v.trail.getD i 0) r):CS v c a at_ l r
theorem LA         {E : BJ}  (hE : Good E) {ow : Ow} {s : AG}  {p : Nat} {x : Sf} {v : Sv} {N : Nat} {h : List Int} {a : EJ}  (H : Du  ow s p x v N h a) {n : Nat} (hn : n ≤ 1000000) (hf : Lm  n v) (hI : GM   n a) {c : Nat} {ls : List Int} {b : Bool × Bool} (hc : v.cl c = some (ls, b)) (hls : A1    n ls) {at_ i : Nat} {l : Int} {a' : EJ}  (ha : (rest l ls).foldl (BR     v) a = a') (hat : at_ ≤ v.trail.length) (hs : Lv   v.trail a'.seen at_ = some i) (ho : 1 ≤ a'.opn) {M : List Nat} (hM : CU      ow s p M)
    {x9 x10 x11 x12 x13 x14 x15 x16 x17 x18 x19 x20:AV} {Q:Ar→Prop}
    (hlast:a'.opn=1→∀s' ow' h' M' y1 y7 y8 y9 y10 y11 y12 y13 y14 y15 y16 y17 y18 y19 y20,Du ow' s' p x v N h' { a' with opn:=0,hd:=-(v.trail.getD i 0) }→GM n { a' with opn:=0,hd:=-(v.trail.getD i 0) }→CU ow' s' p M'→AH (GH p) ow s ow' s'→Q ⟨.exit 0,DI p N y1 y7 y8 y9 y10 y11 y12 y13 y14 y15 y16 y17 y18 y19 y20,M',s'⟩)
    (hmore:a'.opn≠1→∀s' ow' h' M' y9 y10 y11 y12 y13 y14 y15 y16 y17 y18 y19 y20,Du ow' s' p x v N h' { a' with opn:=a'.opn - 1 }→GM n { a' with opn:=a'.opn - 1 }→CU ow' s' p M'→AH (GH p) ow s ow' s'→WC E none (.loop Im) Q (DI p N (G4 (v.why.getD (v.trail.getD i 0).natAbs none)) (iv (i:Int)) (iv (v.trail.getD i 0)) y9 y10 y11 y12 y13 y14 y15 y16 y17 y18 y19 y20) M' s'):
    WC E none (.loop Im) Q (DI p N (AJ c) (iv (at_:Int)) (iv l) x9 x10 x11 x12 x13 x14 x15 x16 x17 x18 x19 x20) M s:=by
  refine WC.loop' ?_
  generalize hW:WC E none (Aa.loop Im) Q=WW at hmore ⊢
  simp only[Im,cZ,DI,Qa,Qb,Qc,Qd,Qe,Qf,Qg,Qh,Qi,Qj,Qk,Ql,Qm,Qn,true_and,and_true,Qo,Qp,Qq,Qr,Qs,Qt,Qu,Qv,Qw,Qx,Qy,Qz,Ra,Rb,Rc,Rd,Re,Rf,Rg,Rh,Ri,Rj,Rk,Rl,Rm,Ya,Yb,Yc,Rn,Ro,Rp,Yd,Ye,Rq,Rs,Rt,Ru,Rv,Rw,Rx]
  refine(T6 hE c l).mono ?_
  rintro _ s1 ⟨rfl,rfl⟩
  simp only[Qa,Qb,Qc,Qd,Qe,Qf,Qg,Qh,Qi,Qj,Qk,Ql,Qm,Qn,true_and,and_true,Qo,Qp,Qq,Qr,Qs,Qt,Qu,Qv,Qw,Qx,Qy,Qz,Ra,Rb,Rc,Rd,Re,Rf,Rg,Rh,Ri,Rj,Rk,Rl,Rm,Ya,Yb,Yc,Rn,Ro,Rp,Yd,Ye,Rq,Rs,Rt,Ru,Rv,Rw,Rx]
  generalize hsa:newObj s (AO 92 0 [AJ c])=sa
  have na:sa.next=s.next+1:=by rw[← hsa];rfl
  have oa:B6 s.next s sa:=by rw[← hsa];exact B6.new s _
  have ba:Ak sa s.next (AJ c):=by rw[← hsa];exact Ak.new
  generalize hsb:newObj sa (AO 3 0 [iv l])=sb
  have nb:sb.next=s.next+2:=by rw[← hsb];show sa.next+1=_;omega
  have ob:B6 (s.next+1) sa sb:=by rw[← hsb,← na];exact B6.new sa _
  have bb:Ak sb (s.next+1) (iv l):=by rw[← hsb,← na];exact Ak.new
  refine WC.range (g:=111) (first:=[]) (cap:=[.ptr (some (s.next,0)),.ptr (some (s.next+1,0))]) rfl ?_
  rw[nb]
  generalize hsc:newObj sb .mark=sc
  have nc:sc.next=s.next+3:=by rw[← hsc];show sb.next+1=_;omega
  have oc:B6 (s.next+2) sb sc:=by rw[← hsc,← nb];exact B6.new sb _
  have mc:sc.heap.get (s.next+2)=some .mark:=by rw[← hsc,AY,if_pos nb.symm]
  generalize hsd:newObj sc (.loop (J7 67 _ _ _ _ _))=sd
  have nd:sd.next=s.next+4:=by rw[← hsd];show sc.next+1=_;omega
  have od:B6 (s.next+3) sc sd:=by rw[← hsd,← nc];exact B6.new sc _
  have ld:Bj sd (s.next+2+1)=some (EV p N (AJ c) (iv (at_:Int)) (iv l) x9 x10 x11 x12 x13 (.func 111 [] [.ptr (some (s.next,0)),.ptr (some (s.next+1,0))]) x15 x16 x17 x18 x19 x20 (s.next+2)):=by
    rw[← hsd]
    unfold Bj
    rw[AY,if_pos (by omega)]
    rfl
  have osd:B6 s.next s sd:=((oa.trans (ob.mono (by omega))).trans (oc.mono (by omega))).trans (od.mono (by omega))
  have PR:AH (fun _=>False) ow s (fun j=>if j<s.next then ow j else if j=s.next+3 then (p,23,0)else (p,22,0)) sd:=⟨by omega,fun j hj _=>if_pos hj,fun j hj _=>osd.2 j hj⟩
  generalize how:(fun j=>if j<s.next then ow j else if j=s.next+3 then (p,23,0)else (p,22,0):Ow)=owd at PR
  have tk:owd (s.next+1)=(p,22,0):=by rw[← how];show(if _ then _ else if _ then _ else _:BT)=_;rw[if_neg (by omega),if_neg (by omega)]
  have tm:owd (s.next+2)=(p,22,0):=by rw[← how];show(if _ then _ else if _ then _ else _:BT)=_;rw[if_neg (by omega),if_neg (by omega)]
  have tl:owd (s.next+2+1)=(p,23,0):=by rw[← how];show(if _ then _ else if _ then _ else _:BT)=_;rw[if_neg (by omega),if_pos (by omega)]
  have Hd:Du owd sd p x v N h a:=H.keep PR (fun _ _ _ q=>q) (fun q=>q) (fun q=>q)
  have Md:CU owd sd p M:=hM.step PR (fun q=>q)
  have M2:CU owd sd p ((s.next+2)::M):=by
    refine⟨?_,fun i hi=>?_⟩
    · rw[mV]
      exact⟨fun q=>by have:=(hM.2 _ q).2.2;omega,hM.1⟩
    · rcases lM.1            hi with e | e
      · rw[e]
        exact⟨by rw[od.2 _ (by omega)];exact mc,tm,by omega⟩
      · exact Md.2 i e
  have bad:Ak sd s.next (AJ c):=ba.keep (by rw[od.2 _ (by omega),oc.2 _ (by omega),ob.2 _ (by omega)])
  have bbd:Ak sd (s.next+1) (iv l):=bb.keep (by rw[od.2 _ (by omega),oc.2 _ (by omega)])
  have hz:=hf.siz
  refine(R6 hE Hd hn hz.level hz.heat hI hc hls bad bbd tk (by omega) ld tl (by omega)).mono ?_
  rintro _ s2 ⟨ow2,h2,H2,I2,l2,st2,t2⟩
  rw[ha]at H2 I2
  have n2:=st2.next
  refine⟨_,l2,rfl,?_⟩
  have st3:AH (· = (p,23,0)) ow2 s2 ow2 (setObj s2 (s.next+2+1) (.loop { EV p N (AJ c) (iv (at_:Int)) (iv l) x9 x10 x11 x12 x13 (.func 111 [] [.ptr (some (s.next,0)),.ptr (some (s.next+1,0))]) x15 x16 x17 x18 x19 x20 (s.next+2)with state:=.exhausted })):=⟨kp _,fun _ _ _=>rfl,fun y _ hm=>by rw[BL,if_neg (fun e=>hm (by rw[e];exact t2))]⟩
  have H3:=H2.keep st3 (fun y i hy e=>by injection e with _ e;injection e with e _;omega) (CA (by decide)) (CA (by decide))
  have M3:CU ow2 _ p ((s.next+2)::M):=(M2.step st2 (JB (by decide) (by decide) (by decide) (by decide))).step st3 (CA (by decide))
  have stT:AH (GH p) ow s ow2 (setObj s2 (s.next+2+1) (.loop { EV p N (AJ c) (iv (at_:Int)) (iv l) x9 x10 x11 x12 x13 (.func 111 [] [.ptr (some (s.next,0)),.ptr (some (s.next+1,0))]) x15 x16 x17 x18 x19 x20 (s.next+2)with state:=.exhausted })):=((PR.mono fun _ q=>q.elim).trans st2).trans (st3.mono fun t ht=>.inr ht)
  show Nx _ _ _ _ none
  unfold Nx
  generalize setObj s2 (s.next+2+1) _=s3 at *
  obtain⟨hi,hin⟩:=Nm hs
  have hil:i<v.trail.length:=by omega
  have hg:=AQ (d:=(0:Int)) hil
  have hV:=hf.lits _ (kq hg)
  have hsz:=hz.small
  have hV2:=hV.2
  have hwl:=hz.why
  simp only[Wm,Qa,Qb,Qc,Qd,Qe,Qf,Qg,Qh,Qi,Qj,Qk,Ql,Qm,Qn,true_and,and_true,Qo,Qp,Qq,Qr,Qs,Qt,Qu,Qv,Qw,Qx,Qy,Qz,Ra,Rb,Rc,Rd,Re,Rf,Rg,Rh,Ri,Rj,Rk,Rl,Rm,Ya,Yb,Yc,Rn,Ro,Rp,Yd,Ye,Rq,Rs,Rt,Ru,Rv,Rw,Rx]
  refine PF hE H3 hf (i:=i) ?_ at_ _ hat hs
  intro y18
  simp only[if_true,Qa,Qb,Qc,Qd,Qe,Qf,Qg,Qh,Qi,Qj,Qk,Ql,Qm,Qn,true_and,and_true,Qo,Qp,Qq,Qr,Qs,Qt,Qu,Qv,Qw,Qx,Qy,Qz,Ra,Rb,Rc,Rd,Re,Rf,Rg,Rh,Ri,Rj,Rk,Rl,Rm,Ya,Yb,Yc,Rn,Ro,Rp,Yd,Ye,Rq,Rs,Rt,Ru,Rv,Rw,Rx]
  refine iF H3 hil ?_
  try simp only[Qa,Qb,Qc,Qd,Qe,Qf,Qg,Qh,Qi,Qj,Qk,Ql,Qm,Qn,true_and,and_true,Qo,Qp,Qq,Qr,Qs,Qt,Qu,Qv,Qw,Qx,Qy,Qz,Ra,Rb,Rc,Rd,Re,Rf,Rg,Rh,Ri,Rj,Rk,Rl,Rm,Ya,Yb,Yc,Rn,Ro,Rp,Yd,Ye,Rq,Rs,Rt,Ru,Rv,Rw,Rx]
  refine iG hE H3 (q:=v.trail.getD i 0) (by omega) (by omega) ?_
  try simp only[Qa,Qb,Qc,Qd,Qe,Qf,Qg,Qh,Qi,Qj,Qk,Ql,Qm,Qn,true_and,and_true,Qo,Qp,Qq,Qr,Qs,Qt,Qu,Qv,Qw,Qx,Qy,Qz,Ra,Rb,Rc,Rd,Re,Rf,Rg,Rh,Ri,Rj,Rk,Rl,Rm,Ya,Yb,Yc,Rn,Ro,Rp,Yd,Ye,Rq,Rs,Rt,Ru,Rv,Rw,Rx]
  have hop:=I2.opn
  have hsm:=I2.small
  refine iH H3 (by omega) ?_
  intro s4 H4 st4 n4
  try simp only[Qa,Qb,Qc,Qd,Qe,Qf,Qg,Qh,Qi,Qj,Qk,Ql,Qm,Qn,true_and,and_true,Qo,Qp,Qq,Qr,Qs,Qt,Qu,Qv,Qw,Qx,Qy,Qz,Ra,Rb,Rc,Rd,Re,Rf,Rg,Rh,Ri,Rj,Rk,Rl,Rm,Ya,Yb,Yc,Rn,Ro,Rp,Yd,Ye,Rq,Rs,Rt,Ru,Rv,Rw,Rx]
  refine iI H4 ?_
  have I4:GM n { a' with opn:=a'.opn - 1 }:=⟨I2.nodup,I2.mem,I2.len,I2.lits,by show 0≤a'.opn - 1∧a'.opn - 1≤(a'.seen.length:Int);omega⟩
  have M4:CU ow2 s4 p ((s.next+2)::M):=M3.step st4 (fun q=>JB (by decide) (by decide) (by decide) (by decide) (.inl q))
  have stT4:=stT.trans (st4.mono fun t ht=>.inl ht)
  by_cases h1:a'.opn=1
  · have hd0:decide (a'.opn - 1=0)=true:=decide_eq_true (by omega)
    simp only[hd0,Qa,Qb,Qc,Qd,Qe,Qf,Qg,Qh,Qi,Qj,Qk,Ql,Qm,Qn,true_and,and_true,Qo,Qp,Qq,Qr,Qs,Qt,Qu,Qv,Qw,Qx,Qy,Qz,Ra,Rb,Rc,Rd,Re,Rf,Rg,Rh,Ri,Rj,Rk,Rl,Rm,Ya,Yb,Yc,Rn,Ro,Rp,Yd,Ye,Rq,Rs,Rt,Ru,Rv,Rw,Rx]
    refine iJ H4 (q:=v.trail.getD i 0) ⟨by omega,by omega⟩ ?_
    intro s5 H5 st5 n5
    simp only[show(0:Nat)≠1 by decide,if_false,Qa,Qb,Qc,Qd,Qe,Qf,Qg,Qh,Qi,Qj,Qk,Ql,Qm,Qn,true_and,and_true,Qo,Qp,Qq,Qr,Qs,Qt,Qu,Qv,Qw,Qx,Qy,Qz,Ra,Rb,Rc,Rd,Re,Rf,Rg,Rh,Ri,Rj,Rk,Rl,Rm,Ya,Yb,Yc,Rn,Ro,Rp,Yd,Ye,Rq,Rs,Rt,Ru,Rv,Rw,Rx]
    have e:({ ({ a' with opn:=a'.opn - 1 }:EJ)with hd:=-(v.trail.getD i 0) }:EJ)={ a' with opn:=0,hd:=-(v.trail.getD i 0) }:=by
      show EJ.mk _ _ _ _ _=EJ.mk _ _ _ _ _
      rw[h1];rfl
    rw[e]at H5
    exact hlast h1 s5 ow2 h2 _ _ _ _ _ _ _ _ _ _ _ _ _ _ _ _ H5 ⟨I2.nodup,I2.mem,I2.len,I2.lits,by show(0:Int)≤0∧(0:Int)≤(a'.seen.length:Int);omega⟩ (M4.step st5 (fun q=>JB (by decide) (by decide) (by decide) (by decide) (.inl q))) (stT4.trans (st5.mono fun t ht=>.inl ht))
  · have hd0:decide (a'.opn - 1=0)=false:=decide_eq_false (by omega)
    simp only[hd0,Qa,Qb,Qc,Qd,Qe,Qf,Qg,Qh,Qi,Qj,Qk,Ql,Qm,Qn,true_and,and_true,Qo,Qp,Qq,Qr,Qs,Qt,Qu,Qv,Qw,Qx,Qy,Qz,Ra,Rb,Rc,Rd,Re,Rf,Rg,Rh,Ri,Rj,Rk,Rl,Rm,Ya,Yb,Yc,Rn,Ro,Rp,Yd,Ye,Rq,Rs,Rt,Ru,Rv,Rw,Rx]
    exact hmore h1 s4 ow2 h2 _ _ _ _ _ _ _ _ _ _ _ _ _ H4 I4 M4 stT4
theorem RU{E:BJ}(hE:Good E){ow0:Ow}{s0:AG}{p:Nat}{x:Sf}{v:Sv}{N:Nat}{n:Nat}(hn:n≤1000000)(hf:Lm n v)(hcl:∀c ls b,v.cl c=some (ls,b)→A1 n ls){r:EJ}{Q:Ar→Prop}
  (hq:∀s' ow' h' M' y1 y7 y8 y9 y10 y11 y12 y13 y14 y15 y16 y17 y18 y19 y20,Du ow' s' p x v N h' r→GM n r→CU ow' s' p M'→AH (GH p) ow0 s0 ow' s'→Q ⟨.exit 0,DI p N y1 y7 y8 y9 y10 y11 y12 y13 y14 y15 y16 y17 y18 y19 y20,M',s'⟩) {c at_:Nat} {a:EJ} {l:Int} (hr:CS v c a at_ l r):
  ∀ (s:AG) (ow:Ow) (h:List Int) (M:List Nat) (x9 x10 x11 x12 x13 x14 x15 x16 x17 x18 x19 x20:AV),at_≤v.trail.length→Du ow s p x v N h a→GM n a→CU ow s p M→AH (GH p) ow0 s0 ow s →
   WC E none (.loop Im) Q (DI p N (AJ c) (iv (at_:Int)) (iv l) x9 x10 x11 x12 x13 x14 x15 x16 x17 x18 x19 x20) M s:=by
 induction hr with
 | last hc ha hs ho =>
  intro s ow h M x9 x10 x11 x12 x13 x14 x15 x16 x17 x18 x19 x20 hat H hI hM hst
  refine LA hE H hn hf hI hc (hcl _ _ _ hc) ha hat hs (by omega) hM ?_ ?_
  ·intro _ s' ow' h' M' y1 y7 y8 y9 y10 y11 y12 y13 y14 y15 y16 y17 y18 y19 y20 g1 g2 g3 g4
   exact hq s' ow' h' M' _ _ _ _ _ _ _ _ _ _ _ _ _ _ _ g1 g2 g3 (hst.trans g4)
  ·intro q
   exact absurd ho q
 | more hc ha hs ho hw hr ih =>
  intro s ow h M x9 x10 x11 x12 x13 x14 x15 x16 x17 x18 x19 x20 hat H hI hM hst
  refine LA hE H hn hf hI hc (hcl _ _ _ hc) ha hat hs (by omega) hM ?_ ?_
  ·intro q
   omega
  ·intro _ s' ow' h' M' y9 y10 y11 y12 y13 y14 y15 y16 y17 y18 y19 y20 g1 g2 g3 g4
   rw[hw]
   exact ih hq s' ow' h' M' _ _ _ _ _ _ _ _ _ _ _ _ (by have:=(Nm hs).1;omega) g1 g2 g3 (hst.trans g4)
theorem BO.make{ow:Ow}{T:BT}{s:AG}{i:Nat}{e:TypeId}{cs:List AV}(h:s.heap.get i=some (AO e 1 cs))(hc:cs≠[])(ht:ow i=T)(hi:i<s.next):BO ow T s (.slice (some (i,0)) cs.length (some cs.length)) cs:=by
 obtain⟨r,h1,h2,h3,h4,h5,h6⟩:=CP e 1 cs
 refine .inr ⟨i,0,some cs.length,r,rfl,⟨by rw[h,h1],ht,hi,h5,h3,fun p hp=>?_⟩,fun k u hk=>?_,by rw[h2.1];omega,⟨kp _,by rw[h2.1];omega⟩⟩
 ·rw[h6]at hp;cases hp
 ·rw[lD]
  exact h2.2 k u hk
def JS(v:Sv)(y:Int)(q:Int):Bool:=decide (v.level.getD q.natAbs 0=y)
def AU(v:Sv)(r:EJ):List Int:=match A9 (JS v r.lev) r.lits 0 with
 | none=>r.hd::r.lits
 | some i=>Ah (r.hd::r.lits) 1 (i+1)
theorem Ff{f:Int→Bool}:∀ {L:List Int}{k i:Nat},A9 f L k=some i→k≤i∧i<k+L.length
 | [],k,i,h=>by cases h
 | x::L,k,i,h=>by
  unfold A9 at h
  split at h
  ·injection h with h
   subst h
   simp
  ·obtain⟨h1,h2⟩:=Ff h
   simp
   omega
theorem Ok{ow:Ow}{s s1 s2 s3 s4 s5 s6 s7 s8 s9 s10:AG}{p:Nat}{x:Sf}{v:Sv}(h:Ac ow s p x v)
  (e1:newObj s (AO 44 0 [AJ p])=s1) (e2:newObj s1 (AO 23 0 [.slice none 0 (some 0)])=s2) (e3:newObj s2 (AO 3 0 [iv 0])=s3) (e4:newObj s3 (.map [] 0)=s4) (e5:newObj s4 (AO 115 0 [.map none])=s5)
  (f6:Ak s6 (s.next+4) (.map (some (s.next+3)))) (n6:s6.next=s5.next) (o6:∀j,j≠s.next+4→s6.heap.get j=s5.heap.get j)
  (e7:newObj s6 (AO 3 1 [iv 0])=s7)
  (f8:Ak s8 (s.next+1) (.slice (some (s.next+5,0)) 1 (some 1))) (n8:s8.next=s7.next) (o8:∀j,j≠s.next+1→s8.heap.get j=s7.heap.get j)
  (e9:newObj s8 (AO 3 0 [iv 0])=s9)
  (f10:Ak s10 (s.next+6) (iv 0)) (n10:s10.next=s9.next) (o10:∀j,j≠s.next+6→s10.heap.get j=s9.heap.get j):
  ∃ow',Du ow' s10 p x v s.next v.heat ⟨[],0,[],0,0⟩∧AH (fun _=>False) ow s ow' s10:=by
 have n1:s1.next=s.next+1:=by rw[← e1];rfl
 have n2:s2.next=s.next+2:=by rw[← e2];show s1.next+1=_;omega
 have n3:s3.next=s.next+3:=by rw[← e3];show s2.next+1=_;omega
 have n4:s4.next=s.next+4:=by rw[← e4];show s3.next+1=_;omega
 have n5:s5.next=s.next+5:=by rw[← e5];show s4.next+1=_;omega
 have n7:s7.next=s.next+6:=by rw[← e7];show s6.next+1=_;omega
 have n9:s9.next=s.next+7:=by rw[← e9];show s8.next+1=_;omega
 have o1:B6 s.next s s1:=by rw[← e1];exact B6.new s _
 have o2:B6 (s.next+1) s1 s2:=by rw[← e2,← n1];exact B6.new s1 _
 have o3:B6 (s.next+2) s2 s3:=by rw[← e3,← n2];exact B6.new s2 _
 have o4:B6 (s.next+3) s3 s4:=by rw[← e4,← n3];exact B6.new s3 _
 have o5:B6 (s.next+4) s4 s5:=by rw[← e5,← n4];exact B6.new s4 _
 have o7:B6 (s.next+5) s6 s7:=by rw[← e7,show s.next+5=s6.next by omega];exact B6.new s6 _
 have o9:B6 (s.next+6) s8 s9:=by rw[← e9,show s.next+6=s8.next by omega];exact B6.new s8 _
 have b10:∀j,j<s.next+5→j≠s.next+4→j≠s.next+1→s10.heap.get j=s5.heap.get j:=fun j h1 h2 h3=>by
  rw[o10 j (by omega),o9.2 j (by omega),o8 j h3,o7.2 j (by omega),o6 j h2]
 have old:B6 s.next s s10:=⟨by omega,fun j hj=>by
  rw[b10 j (by omega) (by omega) (by omega),o5.2 j (by omega),o4.2 j (by omega),o3.2 j (by omega),o2.2 j (by omega),o1.2 j hj]⟩
 refine⟨fun j=>if j<s.next then ow j else if j=s.next+5 then (p,20,0)else (p,21,0),?_,⟨old.1,fun j hj _=>if_pos hj,fun j hj _=>old.2 j hj⟩⟩
 have st:AH (fun _=>False) ow s (fun j=>if j<s.next then ow j else if j=s.next+5 then (p,20,0)else (p,21,0)) s10:=⟨old.1,fun j hj _=>if_pos hj,fun j hj _=>old.2 j hj⟩
 have t5:(fun j=>if j<s.next then ow j else if j=s.next+5 then (p,20,0)else (p,21,0):Ow) (s.next+5)=(p,20,0):=by show(if _ then _ else if _ then _ else _:BT)=_;rw[if_neg (by omega),if_pos rfl]
 have r5:s10.heap.get (s.next+5)=some (AO 3 1 [iv 0]):=by
  rw[o10 _ (by omega),o9.2 _ (by omega),o8 _ (by omega),← e7,AY,if_pos (by omega)]
 refine { sat:=h.keep st (fun _ q=>q.elim),hl:=rfl,sb:=?_,lb:=⟨_,f8.keep (by rw[o10 _ (by omega),o9.2 _ (by omega)]),BO.make r5 (by simp) t5 (by omega)⟩,vb:=?_,mo:=⟨[],0,?_,rfl⟩,mb:=f6.keep (by rw[o10 _ (by omega),o9.2 _ (by omega),o8 _ (by omega),o7.2 _ (by omega)]),ob:=f10,tg:=fun j h1 h2 h3=>?_,lt:=by omega }
 ·have b:Ak s1 s.next (AJ p):=by rw[← e1];exact Ak.new
  exact b.keep (by rw[b10 _ (by omega) (by omega) (by omega),o5.2 _ (by omega),o4.2 _ (by omega),o3.2 _ (by omega),o2.2 _ (by omega)])
 ·have b:Ak s3 s2.next (iv 0):=by rw[← e3];exact Ak.new
  rw[n2]at b
  exact b.keep (by rw[b10 _ (by omega) (by omega) (by omega),o5.2 _ (by omega),o4.2 _ (by omega)])
 ·rw[b10 _ (by omega) (by omega) (by omega),o5.2 _ (by omega),← e4,AY,if_pos (by omega)]
 ·show(if _ then _ else if _ then _ else _:BT)=_
  rw[if_neg (by omega),if_neg h3]
theorem Ts{E:BJ}(hE:Good E){ow:Ow}{s:AG}{p:Nat}{x:Sf}{v:Sv}{N:Nat}{h:List Int}{r:EJ}(H:Du ow s p x v N h r){n:Nat}(hn:n≤1000000)(hlev:v.level.length=n+1)(hI:GM n r){K:List AV→AG→Prop}{x1 x7 x8 x9 x10 x11 x12 x13 x14 x15 x16 x17 x18 x19 x20:AV}
  (hK:Qb E Ke K [] (DI p N x1 x7 x8 x9 x10 x11 x12 (I5 (A9 (JS v r.lev) r.lits 0)) x14 x15 x16 x17 x18 x19 x20) s):
  Qb E Q3 (fun V s'=>Qb E Ke K [] V s') [] (DI p N x1 x7 x8 x9 x10 x11 x12 x13 x14 x15 x16 x17 x18 x19 x20) s:=by
 obtain⟨lv,b1,b2⟩:=H.lb
 obtain⟨g1,g2⟩:=b2.rest Try.underlying23 Be (k:=1) (by simp)
 have e1:(A3 (r.hd::r.lits)).drop 1=A3 r.lits:=rfl
 rw[e1]at g2
 have g1':Ai Try.prog 23 true false false s [lv,iv 1]=some (Dw lv 1):=g1
 have hsm:=hI.small
 have hle:=hI.len
 simp only[Q3,DI,b1.load D0,g1',mC,lq,Qa,Qb,Qc,Qd,Qe,Qf,Qg,Qh,Qi,Qj,Qk,Ql,Qm,Qn,true_and,and_true,Qo,Qp,Qq,Qr,Qs,Qt,Qu,Qv,Qw,Qx,Qy,Qz,Ra,Rb,Rc,Rd,Re,Rf,Rg,Rh,Ri,Rj,Rk,Rl,Rm,Ya,Yb,Yc,Rn,Ro,Rp,Yd,Ye,Rq,Rs,Rt,Ru,Rv,Rw,Rx]
 refine(MI hE (f:=JS v r.lev) (g:=95) (cp:=[.ptr (some (N,0)),.ptr (some (N+2,0))]) (fun q hq=>?_) (by omega) g2).mono ?_
 ·exact Up hE H (by have:=(hI.lits q hq).2;omega) (by omega)
 rintro _ _ ⟨rfl,rfl⟩
 simp only[Qa,Qb,Qc,Qd,Qe,Qf,Qg,Qh,Qi,Qj,Qk,Ql,Qm,Qn,true_and,and_true,Qo,Qp,Qq,Qr,Qs,Qt,Qu,Qv,Qw,Qx,Qy,Qz,Ra,Rb,Rc,Rd,Re,Rf,Rg,Rh,Ri,Rj,Rk,Rl,Rm,Ya,Yb,Yc,Rn,Ro,Rp,Yd,Ye,Rq,Rs,Rt,Ru,Rv,Rw,Rx]
 exact hK
theorem iK{E:BJ}{K:List AV→AG→Prop}{ow:Ow}{s:AG}{p:Nat}{lv:AV}{F:List Int}{N i:Nat}(b1:Ak s (N+1) lv)(b2:BO ow (p,20,0) s lv (A3 F))(hi:i+1<F.length)(hl:F.length<1000000000)(ht:ow (N+1)=(p,21,0))(hlt:N+1<s.next){x1 x7 x8 x9 x10 x11 x12 x14 x15 x16 x17 x18 x19 x20:AV}
  (hK:∀s',Ak s' (N+1) lv→BO ow (p,20,0) s' lv (A3 (Ah F 1 (i+1)))→AH (· = (p,20,0)) ow s ow s'→s'.next=s.next→K (DI p N x1 x7 x8 x9 x10 x11 x12 (iv (i:Int)) x14 x15 x16 x17 x18 x19 x20) s'):
  Qb E Q4 K [] (DI p N x1 x7 x8 x9 x10 x11 x12 (iv (i:Int)) x14 x15 x16 x17 x18 x19 x20) s:=by
 have e3:=Ao Try.prog 3 (i:Int) 1 ⟨by omega,by omega⟩
 have e3':((i:Int)+1)=((i+1:Nat):Int):=by omega
 have ga:=AQ (d:=(0:Int)) hi
 have gb:=AQ (d:=(0:Int)) (show 1<F.length by omega)
 have i1:=b2.addr Try.underlying23 Be (k:=i+1) (by rw[kn];exact hi)
 have i2:=b2.get (t:=3) Df (k:=i+1) (Av ga)
 have j1:AD Try.prog 23 lv (iv 1)=some (Az lv 1):=b2.addr Try.underlying23 Be (k:=1) (by rw[kn];omega)
 have j2:=b2.get (t:=3) Df (k:=1) (Av gb)
 obtain⟨s1,g1,g2,g3,g4⟩:=b2.set (t:=3) Be (k:=1) (x:=iv (F.getD (i+1) 0)) (by rw[kn];omega) rfl rfl
 obtain⟨s2,k1,k2,k3,k4⟩:=g2.set (t:=3) Be (k:=i+1) (x:=iv (F.getD 1 0)) (by rw[kv,kn];exact hi) rfl rfl
 have b1':Ak s1 (N+1) lv:=b1.keep (g3.heap _ hlt (by rw[ht];exact CA (by decide)))
 have b1'':Ak s2 (N+1) lv:=b1'.keep (k3.heap _ (by omega) (by rw[ht];exact CA (by decide)))
 have e:((A3 F).set 1 (iv (F.getD (i+1) 0))).set (i+1) (iv (F.getD 1 0))=A3 (Ah F 1 (i+1)):=by
  unfold Ah A3
  rw[lx,lx]
 rw[e]at k2
 simp only[Q4,DI,b1.load D0,e3,e3',i1,i2,j1,j2,BU,g1,AX,BP,Ap,b1'.load D0,b2.self,k1,Qa,Qb,Qc,Qd,Qe,Qf,Qg,Qh,Qi,Qj,Qk,Ql,Qm,Qn,true_and,and_true,Qo,Qp,Qq,Qr,Qs,Qt,Qu,Qv,Qw,Qx,Qy,Qz,Ra,Rb,Rc,Rd,Re,Rf,Rg,Rh,Ri,Rj,Rk,Rl,Rm,Ya,Yb,Yc,Rn,Ro,Rp,Yd,Ye,Rq,Rs,Rt,Ru,Rv,Rw,Rx]
 exact hK s2 b1'' k2 (g3.trans k3) (by omega)
theorem ak{E:BJ}{K:List AV→AG→Prop}{ow:Ow}{s:AG}{p:Nat}{lv:AV}{y:Int}{F:List Int}{N:Nat}(b1:Ak s (N+1) lv)(b2:BO ow (p,20,0) s lv (A3 F))(b3:Ak s (N+2) (iv y))(ht:∀j,j=N+1∨j=N+2→ow j=(p,21,0)){x1 x7 x8 x9 x10 x11 x12 x13 x14 x15 x16 x17 x18 x19 x20:AV}
  (hK:∀s',Ak s' (N+1) lv→Ak s' (N+2) (iv y)→AH (· = (p,21,0)) ow s ow s'→s'.next=s.next→K (DI p N x1 x7 x8 x9 x10 x11 x12 x13 x14 x15 x16 x17 x18 x19 x20) s'):
  Qb E Q5 K [] (DI p N x1 x7 x8 x9 x10 x11 x12 x13 x14 x15 x16 x17 x18 x19 x20) s:=by
 obtain⟨s1,g1,g2,g3,g4⟩:=b1.store (d:=lv) Cb b2.isCell.1 b2.isCell.2
 have b3':Ak s1 (N+2) (iv y):=b3.keep (g4 _ (by omega))
 obtain⟨s2,k1,k2,k3,k4⟩:=b3'.store (d:=iv y) Be rfl rfl
 simp only[Q5,DI,b1.load D0,b3.load Df,BU,g1,AX,BP,Ap,b3'.load Df,NK,k1,Qa,Qb,Qc,Qd,Qe,Qf,Qg,Qh,Qi,Qj,Qk,Ql,Qm,Qn,true_and,and_true,Qo,Qp,Qq,Qr,Qs,Qt,Qu,Qv,Qw,Qx,Qy,Qz,Ra,Rb,Rc,Rd,Re,Rf,Rg,Rh,Ri,Rj,Rk,Rl,Rm,Ya,Yb,Yc,Rn,Ro,Rp,Yd,Ye,Rq,Rs,Rt,Ru,Rv,Rw,Rx]
 refine hK s2 (g2.keep (k4 _ (by omega))) k2 ⟨by omega,fun _ _ _=>rfl,fun j hj hm=>?_⟩ (by omega)
 rw[k4 j (fun e=>hm (ht j (.inr e))),g4 j (fun e=>hm (ht j (.inl e)))]
theorem X4{E:BJ}(hE:Good E){ow:Ow}{s:AG}{p:Nat}{x:Sf}{v:Sv}(h:Ac ow s p x v){n:Nat}(hn:n≤1000000)(hf:Lm n v)(hcl:∀c ls b,v.cl c=some (ls,b)→A1 n ls){c:Nat}{r:EJ}(hr:CS v c ⟨[],0,[],0,0⟩ v.trail.length 0 r):
  WF E 67 [AJ p,AJ c] (fun res s'=>∃lv ow' h',res=.tuple [lv,iv r.lev]∧GM n r∧Ac ow' s' p x (At v h')∧h'.length=v.heat.length∧BO ow' (p,20,0) s' lv (A3 (AU v r))∧AH (BN p) ow s ow' s') s:=by
 have hptr:∀i,Made.val i .ptr=.ptr (some (i,0)):=fun _=>rfl
 have hmap:∀i,Made.val i .map=.map (some i):=fun _=>rfl
 have hms:∀ (m:Nat) (i:Nat),Made.val i (.slice m)=.slice (some (i,0)) m (some m):=fun _ _=>rfl
 have bl:=Cj (P:=Try.prog) (t:=23) (v:=iv 0) Try.underlying23 Be Pd rfl rfl
 have hbox:DD 44 (AV.ptr (some (p,0)))=some (AO 44 0 [AJ p],.ptr):=by simp[DD,AJ,AV.cells]
 have eqp:Fs (.ptr (some (p,0))) (.ptr (some (p,0)))=true:=by simp[Fs]
 have hz:=hf.siz
 refine hE.go fz (by decide) rfl ?_
 generalize e1:newObj s (AO 44 0 [AJ p])=s1
 have n1:s1.next=s.next+1:=by rw[← e1];rfl
 generalize e2:newObj s1 (AO 23 0 [.slice none 0 (some 0)])=s2
 have n2:s2.next=s.next+2:=by rw[← e2];show s1.next+1=_;omega
 generalize e3:newObj s2 (AO 3 0 [iv 0])=s3
 have n3:s3.next=s.next+3:=by rw[← e3];show s2.next+1=_;omega
 generalize e4:newObj s3 (.map [] 0)=s4
 have n4:s4.next=s.next+4:=by rw[← e4];show s3.next+1=_;omega
 generalize e5:newObj s4 (AO 115 0 [.map none])=s5
 have n5:s5.next=s.next+5:=by rw[← e5];show s4.next+1=_;omega
 have b5:Ak s5 (s.next+4) (.map none):=by rw[← e5,← n4];exact Ak.new
 obtain⟨s6,g6,f6,n6,o6⟩:=b5.store (d:=.map (some (s.next+3))) (t:=115) jP rfl rfl
 generalize e7:newObj s6 (AO 3 1 [iv 0])=s7
 have n7:s7.next=s.next+6:=by rw[← e7];show s6.next+1=_;omega
 have o2:Ak s2 (s.next+1) (.slice none 0 (some 0)):=by rw[← e2,← n1];exact Ak.new
 have b7:Ak s7 (s.next+1) (.slice none 0 (some 0)):=o2.keep (by
  rw[← e7,AY,if_neg (by omega),o6 _ (by omega),← e5,AY,if_neg (by omega),← e4,AY,if_neg (by omega),← e3,AY,if_neg (by omega)])
 obtain⟨s8,g8,f8,n8,o8⟩:=b7.store (d:=.slice (some (s.next+5,0)) 1 (some 1)) (t:=23) Cb rfl rfl
 generalize e9:newObj s8 (AO 3 0 [iv 0])=s9
 have n9:s9.next=s.next+7:=by rw[← e9];show s8.next+1=_;omega
 have b9:Ak s9 (s.next+6) (iv 0):=by rw[← e9,show s.next+6=s8.next by omega];exact Ak.new
 obtain⟨s10,g10,f10,n10,o10⟩:=b9.store (d:=iv 0) (t:=3) Be rfl rfl
 obtain⟨ow1,H,st⟩:=Ok h e1 e2 e3 e4 e5 f6 n6 o6 e7 f8 n8 o8 e9 f10 n10 o10
 have hlt:=h.lt
 have l8:AC Try.prog s8 44 (.ptr (some (s.next,0)))=some (AJ p):=by
  have b:Ak s1 s.next (AJ p):=by rw[← e1];exact Ak.new
  refine(b.keep ?_).load Dg
  rw[o8 _ (by omega),← e7,AY,if_neg (by omega),o6 _ (by omega),← e5,AY,if_neg (by omega),← e4,AY,if_neg (by omega),← e3,AY,if_neg (by omega),← e2,AY,if_neg (by omega)]
 have t8:AC Try.prog s8 23 (.ptr (some (p,7)))=some x.tr:=by
  refine(h.box.keep (s':=s8) ?_).load (k:=7) rfl D0
  rw[o8 _ (by omega),← e7,AY,if_neg (by omega),o6 _ (by omega),← e5,AY,if_neg (by omega),← e4,AY,if_neg (by omega),← e3,AY,if_neg (by omega),← e2,AY,if_neg (by omega),← e1,AY,if_neg (by omega)]
 have l9:AC Try.prog s9 44 (.ptr (some (s.next,0)))=some (AJ p):=by rw[← l8];exact Do (by rw[← e9,AY,if_neg (by omega)])
 have t9:AC Try.prog s9 23 (.ptr (some (p,7)))=some x.tr:=by rw[← t8];exact Do (by rw[← e9,AY,if_neg (by omega)])
 have l10:AC Try.prog s10 44 (.ptr (some (s.next,0)))=some (AJ p):=by rw[← l9];exact Do (o10 _ (by omega))
 have t10:AC Try.prog s10 23 (.ptr (some (p,7)))=some x.tr:=by rw[← t9];exact Do (o10 _ (by omega))
 have ln:∀s,A6 Try.prog s 23 x.tr=some (iv (v.trail.length:Int)):=fun s=>by
  have:=h.trail.len Try.underlying23 s
  rw[kn]at this
  exact this
 simp only[AJ]at e1 hbox l8 l9 l10
 have q6:s6.next=s.next+5:=by omega
 have q8:s8.next=s.next+6:=by omega
 simp only[kS,cU,cV,cW,cX,cY,AJ,hbox,e1,hptr,n1,SV,e2,n2,SW,e3,n3,e4,hmap,n4,Um,e5,BU,g6,AX,bl,e7,hms,q6,g8,l8,t8,AF,E0,ln,e9,q8,g10,BP,Mv,Ap,l10,t10,eqp,h.trail.self,NK,Qa,Qb,Qc,Qd,Qe,Qf,Qg,Qh,Qi,Qj,Qk,Ql,Qm,Qn,true_and,and_true,Qo,Qp,Qq,Qr,Qs,Qt,Qu,Qv,Qw,Qx,Qy,Qz,Ra,Rb,Rc,Rd,Re,Rf,Rg,Rh,Ri,Rj,Rk,Rl,Rm,Ya,Yb,Yc,Rn,Ro,Rp,Yd,Ye,Rq,Rs,Rt,Ru,Rv,Rw,Rx]
 refine RU hE hn hf hcl ?_ hr s10 ow1 v.heat [] _ _ _ _ _ _ _ _ _ _ _ _ (kp _) H ⟨by simp,by simp,ku _,by simp,by simp⟩ ⟨by simp,by simp⟩ (AH.refl _ _ _)
 intro s11 ow11 h11 M y1 y7 y8 y9 y10 y11 y12 y13 y14 y15 y16 y17 y18 y19 y20 H11 I11 M11 st11
 simp only[if_true,Qa,Qb,Qc,Qd,Qe,Qf,Qg,Qh,Qi,Qj,Qk,Ql,Qm,Qn,true_and,and_true,Qo,Qp,Qq,Qr,Qs,Qt,Qu,Qv,Qw,Qx,Qy,Qz,Ra,Rb,Rc,Rd,Re,Rf,Rg,Rh,Ri,Rj,Rk,Rl,Rm,Ya,Yb,Yc,Rn,Ro,Rp,Yd,Ye,Rq,Rs,Rt,Ru,Rv,Rw,Rx]
 refine Ts hE H11 hn hz.level I11 ?_
 have hmL:∀ {t:BT},GH p t→BN p t:=by
  rintro t ((e | e | e) | e)<;>rw[e]<;>rfl
 have stA:AH (BN p) ow s ow11 s11:=(st.mono fun _ q=>q.elim).trans (st11.mono fun t ht=>hmL ht)
 obtain⟨lv,b1,b2⟩:=H11.lb
 have hsm:=I11.small
 have hle:=I11.len
 have hlt11:=H11.lt
 have hm20:∀y i,y≠20→¬ ((p,y,i):BT)=(p,20,0):=fun y i hy=>CA hy
 have fin:∀ (s12 s13:AG),Ak s12 (s.next+1) lv→BO ow11 (p,20,0) s12 lv (A3 (AU v r))→AH (· = (p,20,0)) ow11 s11 ow11 s12→s12.next=s11.next →
   Ak s13 (s.next+1) lv→Ak s13 (s.next+2) (iv r.lev)→AH (· = (p,21,0)) ow11 s12 ow11 s13→s13.next=s12.next →
   ∃s14,unmark s13 M=some s14∧AC Try.prog s14 23 (.ptr (some (s.next+1,0)))=some lv∧AC Try.prog s14 3 (.ptr (some (s.next+2,0)))=some (iv r.lev)∧Ac ow11 s14 p x (At v h11)∧BO ow11 (p,20,0) s14 lv (A3 (AU v r))∧AH (BN p) ow s ow11 s14:=by
  intro s12 s13 d1 d2 d3 d4 k1 k2 k3 k4
  have M13:CU ow11 s13 p M:=(M11.step d3 (hm20 _ _ (by decide))).step k3 (CA (by decide))
  obtain⟨s14,u1,u2,u3⟩:=M13.unmark
  have w1:Ak s14 (s.next+1) lv:=k1.keep (u3.heap _ (by omega) (by rw[H11.tg (s.next+1) (by omega) (by omega) (by omega)];exact CA (by decide)))
  have w2:Ak s14 (s.next+2) (iv r.lev):=k2.keep (u3.heap _ (by omega) (by rw[H11.tg (s.next+2) (by omega) (by omega) (by omega)];exact CA (by decide)))
  have hno:∀ (z:Nat),16≤z→∀y i,y<16→¬ ((p,y,i):BT)=(p,z,0):=fun z hz y i hy=>CA (by omega)
  exact⟨s14,u1,w1.load D0,w2.load Df,((H11.sat.keep16 d3 (hno 20 (by decide))).keep16 k3 (hno 21 (by decide))).keep16 u3 (hno 22 (by decide)),(d2.step k3 (CA (by decide))).step u3 (CA (by decide)),
   ((stA.trans (d3.mono fun t ht=>by rw[ht];rfl)).trans (k3.mono fun t ht=>by rw[ht];rfl)).trans (u3.mono fun t ht=>by rw[ht];rfl)⟩
 have tg12:∀j,j=s.next+1∨j=s.next+2→ow11 j=(p,21,0):=by
  rintro j (e | e)<;>subst e<;>exact H11.tg _ (by omega) (by omega) (by omega)
 cases hfi:A9 (JS v r.lev) r.lits 0 with
 | none =>
  have el:AU v r=r.hd::r.lits:=by unfold AU;rw[hfi]
  have hd0:decide ((0:Int)≤-1)=false:=rfl
  simp only[Ke,I5,hd0,DI,Qa,Qb,Qc,Qd,Qe,Qf,Qg,Qh,Qi,Qj,Qk,Ql,Qm,Qn,true_and,and_true,Qo,Qp,Qq,Qr,Qs,Qt,Qu,Qv,Qw,Qx,Qy,Qz,Ra,Rb,Rc,Rd,Re,Rf,Rg,Rh,Ri,Rj,Rk,Rl,Rm,Ya,Yb,Yc,Rn,Ro,Rp,Yd,Ye,Rq,Rs,Rt,Ru,Rv,Rw,Rx]
  refine ak b1 b2 H11.vb tg12 ?_
  intro s13 k1 k2 k3 k4
  rw[← el]at b2
  obtain⟨s14,u1,u2,u3,u4,u5,u6⟩:=fin s11 s13 b1 b2 (AH.refl _ _ _) rfl k1 k2 k3 k4
  simp only[u1,IU,u2,u3,Qa,Qb,Qc,Qd,Qe,Qf,Qg,Qh,Qi,Qj,Qk,Ql,Qm,Qn,true_and,and_true,Qo,Qp,Qq,Qr,Qs,Qt,Qu,Qv,Qw,Qx,Qy,Qz,Ra,Rb,Rc,Rd,Re,Rf,Rg,Rh,Ri,Rj,Rk,Rl,Rm,Ya,Yb,Yc,Rn,Ro,Rp,Yd,Ye,Rq,Rs,Rt,Ru,Rv,Rw,Rx]
  exact⟨lv,ow11,h11,rfl,I11,u4,H11.hl,u5,u6⟩
 | some i =>
  have el:AU v r=Ah (r.hd::r.lits) 1 (i+1):=by unfold AU;rw[hfi]
  have hd0:decide ((0:Int)≤(i:Int))=true:=decide_eq_true (by omega)
  have hfl:=(Ff hfi).2
  simp only[Ke,I5,hd0,DI,Qa,Qb,Qc,Qd,Qe,Qf,Qg,Qh,Qi,Qj,Qk,Ql,Qm,Qn,true_and,and_true,Qo,Qp,Qq,Qr,Qs,Qt,Qu,Qv,Qw,Qx,Qy,Qz,Ra,Rb,Rc,Rd,Re,Rf,Rg,Rh,Ri,Rj,Rk,Rl,Rm,Ya,Yb,Yc,Rn,Ro,Rp,Yd,Ye,Rq,Rs,Rt,Ru,Rv,Rw,Rx]
  refine iK b1 b2 (i:=i) (by simp;omega) (by simp;omega) (H11.tg _ (by omega) (by omega) (by omega)) (by omega) ?_
  intro s12 d1 d2 d3 d4
  rw[← el]at d2
  have d5:Ak s12 (s.next+2) (iv r.lev):=H11.vb.keep (d3.heap _ (by omega) (by rw[H11.tg (s.next+2) (by omega) (by omega) (by omega)];exact hm20 _ _ (by decide)))
  try simp only[Qa,Qb,Qc,Qd,Qe,Qf,Qg,Qh,Qi,Qj,Qk,Ql,Qm,Qn,true_and,and_true,Qo,Qp,Qq,Qr,Qs,Qt,Qu,Qv,Qw,Qx,Qy,Qz,Ra,Rb,Rc,Rd,Re,Rf,Rg,Rh,Ri,Rj,Rk,Rl,Rm,Ya,Yb,Yc,Rn,Ro,Rp,Yd,Ye,Rq,Rs,Rt,Ru,Rv,Rw,Rx]
  refine ak d1 d2 d5 tg12 ?_
  intro s13 k1 k2 k3 k4
  obtain⟨s14,u1,u2,u3,u4,u5,u6⟩:=fin s12 s13 d1 d2 d3 d4 k1 k2 k3 k4
  simp only[u1,IU,u2,u3,Qa,Qb,Qc,Qd,Qe,Qf,Qg,Qh,Qi,Qj,Qk,Ql,Qm,Qn,true_and,and_true,Qo,Qp,Qq,Qr,Qs,Qt,Qu,Qv,Qw,Qx,Qy,Qz,Ra,Rb,Rc,Rd,Re,Rf,Rg,Rh,Ri,Rj,Rk,Rl,Rm,Ya,Yb,Yc,Rn,Ro,Rp,Yd,Ye,Rq,Rs,Rt,Ru,Rv,Rw,Rx]
  exact⟨lv,ow11,h11,rfl,I11,u4,H11.hl,u5,u6⟩
theorem IA{α:Type}{cs add:List α}{u:α}{k:Nat}(h:(cs++add)[k]? = some u):(k<cs.length∧cs[k]? = some u)∨(cs.length≤k∧add[k - cs.length]? = some u):=by
 rcases ks k cs.length with hlt | hge
 ·rw[lG hlt]at h;exact .inl ⟨hlt,h⟩
 ·rw[lL hge]at h
  exact .inr ⟨hge,h⟩
theorem BO.pushN  {ow : Ow} {T : BT}  {s : AG}  {v : AV} {cs : List AV} (h : BO  ow T s v cs) {st e : TypeId} {by_ : Nat} (ht : Try.prog.underlying st = some (.slice e)) (hs : BD    Try.prog e = some 1) (hb : Cf     Try.prog e = some by_) (hby : by_ ≤ 100) (hx : BG           Try.prog st = true) (hz : B8     Try.prog e 1 = true)
    (hl:cs.length≤1000000000) {add:List AV} (hne:0<add.length) (hal:add.length≤1000) (hac:A7 add=true) {w:AV} (hsrc:CK Try.prog s e 1 w=some (add.length,add)) (hw:∃aw cw,w=.slice aw add.length cw):
    ∃v' s' ow',Ad Try.prog s [st,st] [v,w]=some (v',s')∧BO ow' T s' v' (cs++add)∧AH (· = T) ow s ow' s':=by
  obtain⟨aw,cw,rfl⟩:=hw
  have hnn:add≠[]:=fun e=>by rw[e]at hne;cases hne
  have hmul:(cs.length+add.length) * by_≤(cs.length+add.length) * 100:=mg _ hby
  have fresh:∀ (s1:AG),AH (· = T) ow s ow s1→s1.next=s.next→(∀ (c:Ag AV) (par:Option Nat),(∀k u,(cs++add)[k]? = some u→c.get k=some u)→(∀p,par=some p→ow p=T∧p<s.next) →
      ∃ow',BO ow' T (newObj s1 (Ca e 1 c (cs++add).length par)) (.slice (some (s.next,0)) (cs.length+add.length) none) (cs++add)∧AH (· = T) ow s ow' (newObj s1 (Ca e 1 c (cs++add).length par))):=by
    intro s1 hst hn c par hcg hpar
    refine⟨ext ow s1.next T,.inr ⟨s.next,0,none,{ elem:=e,sz:=1,n:=(cs++add).length,c,spare:=true,mode:=.own,par,bytes:=false },by rw[kr],⟨by rw[AY,if_pos hn.symm];rfl,Cn (by omega),by show s.next<s1.next+1;omega,rfl,rfl,fun p hp=>?_⟩,fun k u hk=>by rw[lD];exact hcg k u hk,by rw[lD];exact kp _,⟨rfl,by show 0<(cs++add).length;rw[kr];omega⟩⟩,hst.trans (AH.new _ ow s1 _ T)⟩
    obtain⟨h1,h2⟩:=hpar p hp
    exact⟨by rw[Dj (by omega)];exact h1,by show p<s1.next+1;omega,by omega⟩
  rcases h with⟨rfl,rfl⟩ | ⟨i,o,cap,r,rfl,h2,h3,h4,h5⟩
  · obtain⟨ow',g1,g2⟩:=fresh s (AH.refl _ _ _) rfl (Ag.fill .leaf 0 add) none (fun k u hk=>by
      have:=Co (t:=Ag.leaf) (n:=0) hk
      rw[lD]at this
      exact this) (fun p hp=>by cases hp)
    refine⟨_,_,ow',?_,g1,g2⟩
    have hmul':(0+add.length) * by_≤(0+add.length) * 100:=mg _ hby
    rw[Bs ht hs hb (by decide) hx hsrc hac (by omega) (by omega)]
    simp only[appTo,Di (show add.length≠0 by omega),cond_false,Bg,AI,hz,cond_true,lZ,lm,lD]
  · have happ := Bs         (st := st) (xt := st) (a := some (i, o)) (n := cs.length) (cap := cap) ht hs hb (by decide) hx hsrc hac (by omega) (by omega)
    have hcells:loadN s i o (cs.length * 1)=some cs:=by
      have hrow:rowAt s i=some r:=by simp[rowAt,h2.get]
      simp only[loadN,hrow,Option.bind_some,lY,BY h4,AI,cond_true]
      exact KC _ _ fun j u hj=>h3 j u hj
    have freshC:∀k u,(cs++add)[k]? = some u→(Ag.fill .leaf 0 (cs++add)).get k=some u:=fun k u hk=>by
      have:=Co (t:=Ag.leaf) (n:=0) hk
      rw[lD]at this
      exact this
    cases cap with
    | some c =>
      obtain⟨h6,h7⟩:=h5
      by_cases hfit:cs.length+add.length≤c
      · obtain⟨s',g1,g2,g3,g4⟩:=h2.store (o:=o+cs.length * 1) (vs:=add) hnn (by omega) hac
        refine⟨.slice (some (i,o)) (cs.length+add.length) (some c),s',ow,?_,.inr ⟨i,o,some c,_,by rw[kr],g2,fun k u hk=>?_,by rw[kr];show o+(cs.length+add.length)≤r.n;omega,by rw[kr];exact⟨hfit,h7⟩⟩,g3⟩
        · rw[happ]
          simp only[appTo,DA,BY hfit,cond_true,g1,Option.bind_some]
        · show(Ag.fill r.c (o+cs.length * 1) add).get (o+k)=some u
          rcases IA hk with⟨k1,k2⟩ | ⟨k1,k2⟩
          · rw[E1 (by omega)];exact h3 k u k2
          · have:=Co (t:=r.c) (n:=o+cs.length * 1) k2
            rw[show o+k=o+cs.length * 1+(k - cs.length) by omega];exact this
      · obtain⟨ow',g1,g2⟩:=fresh s (AH.refl _ _ _) rfl (Ag.fill .leaf 0 (cs++add)) none freshC (fun p hp=>by cases hp)
        refine⟨_,_,ow',?_,g1,g2⟩
        rw[happ]
        simp only[appTo,DA,FF (show c<cs.length+add.length by omega),cond_false,hcells,Option.bind_some,Bg,AI,hz,cond_true]
    | none =>
      have h5:o=0:=h5.1
      subst h5
      have hrow:rowAt s i=some r:=by simp[rowAt,h2.get]
      by_cases hfit:cs.length+add.length≤r.n
      · obtain⟨s',g1,g2,g3,g4⟩:=h2.store (o:=0+cs.length * 1) (vs:=add) hnn (by omega) hac
        refine⟨.slice (some (i,0)) (cs.length+add.length) none,s',ow,?_,.inr ⟨i,0,none,_,by rw[kr],g2,fun k u hk=>?_,by rw[kr];show 0+(cs.length+add.length)≤r.n;omega,⟨rfl,by show 0<r.n;omega⟩⟩,g3⟩
        · rw[happ]
          simp only[appTo,hrow,Option.bind_some,Dh,h2.sz,D1 rfl,AI,cond_true,BY (show 0+(cs.length+add.length) * 1≤r.n by omega),g1]
        · show(Ag.fill r.c (0+cs.length * 1) add).get (0+k)=some u
          rcases IA hk with⟨k1,k2⟩ | ⟨k1,k2⟩
          · rw[E1 (by omega)];exact h3 k u k2
          · have:=Co (t:=r.c) (n:=0+cs.length * 1) k2
            rw[show 0+k=0+cs.length * 1+(k - cs.length) by omega];exact this
      · have hnf:Nat.ble (0+(cs.length+add.length) * 1) r.n=false:=FF (by omega)
        cases hsp:r.spare with
        | false =>
          obtain⟨ow',g1,g2⟩:=fresh s (AH.refl _ _ _) rfl (Ag.fill .leaf 0 (cs++add)) none freshC (fun p hp=>by cases hp)
          refine⟨_,_,ow',?_,g1,g2⟩
          rw[happ]
          simp only[appTo,hrow,Option.bind_some,Dh,h2.sz,D1 rfl,AI,cond_true,hnf,cond_false,hcells,hsp,Bg,hz]
        | true =>
          have hun:(Al s i r).next=s.next:=by
            unfold Al
            split
            · rfl
            · rename_i p _
              cases Nat.beq p i<;>rfl
          have hunh:∀y,y<s.next→¬ ow y=T→(Al s i r).heap.get y=s.heap.get y:=fun y hy hm=>by
            unfold Al
            cases hp:r.par with
            | none=>rfl
            | some p =>
              obtain⟨k1,k2,k3⟩:=h2.par p hp
              simp only[Di k3,cond_false]
              rw[E2,if_neg (fun e=>hm (by rw[e];exact k1))]
          have hcc:∀k u,(cs++add)[k]? = some u→(r.c.fill (cs.length * 1) add).get k=some u:=fun k u hk=>by
            rcases IA hk with⟨k1,k2⟩ | ⟨k1,k2⟩
            · rw[E1 (by omega)]
              have:=h3 k u k2
              rw[lD]at this
              exact this
            · have:=Co (t:=r.c) (n:=cs.length * 1) k2
              rw[show k=cs.length * 1+(k - cs.length) by omega]
              exact this
          cases hends:Nat.beq (0+cs.length * 1) r.n with
          | true =>
            have hst:AH (· = T) ow s ow (setObj (Al s i r) i (.row { r with mode:=.sealed,par:=none })):=by
              refine⟨by show s.next≤(Al s i r).next;omega,fun _ _ _=>rfl,fun y hy hm=>?_⟩
              have hyi:y≠i:=fun e=>hm (by rw[e];exact h2.whose)
              rw[BL,if_neg hyi]
              exact hunh y hy hm
            obtain⟨ow',g1,g2⟩:=fresh _ hst hun (r.c.fill (cs.length * 1) add) (some i) hcc (fun p hp=>by injection hp with hp;subst hp;exact⟨h2.whose,h2.lt⟩)
            refine⟨_,_,ow',?_,g1,g2⟩
            rw[happ]
            simp only[appTo,hrow,Option.bind_some,Dh,h2.sz,D1 rfl,AI,cond_true,hnf,cond_false,hcells,hsp,DB,h2.own,EK,hz,Bool.and_self,hends,CY]
          | false =>
            have hst:AH (· = T) ow s ow (CV (Al s i r) i):=by
              refine⟨by show s.next≤(Al s i r).next;omega,fun _ _ _=>rfl,fun y hy hm=>?_⟩
              have hyi:y≠i:=fun e=>hm (by rw[e];exact h2.whose)
              rw[E2,if_neg hyi]
              exact hunh y hy hm
            obtain⟨ow',g1,g2⟩:=fresh _ hst hun (r.c.fill (cs.length * 1) add) none hcc (fun p hp=>by cases hp)
            refine⟨_,_,ow',?_,g1,g2⟩
            rw[happ]
            simp only[appTo,hrow,Option.bind_some,Dh,h2.sz,D1 rfl,AI,cond_true,hnf,cond_false,hcells,hsp,DB,h2.own,EK,hz,Bool.and_self,hends,CY]
def Ob(v:Sv):Sv:={ v with watches:=v.watches++[[],[]],value:=v.value++[0],level:=v.level++[0],why:=v.why++[none],heat:=v.heat++[0],phase:=v.phase++[-1] }
def Sw:Nat→Sv→Sv
 | 0,v=>v
 | k+1,v=>Sw k (Ob v)
def Sx(v:Sv)(n:Nat):Sv:=Sw (n+1 - v.value.length) v
theorem iP:Ab Try.prog 88 2 (zipIdx [0,1] [.slice none 0 (some 0),.slice none 0 (some 0)])=some (AO 89 1 [.slice none 0 (some 0),.slice none 0 (some 0)]):=by
 simp[Ab,Try.underlying88,EB,AI,jT,zipIdx,Dk,AV.cells,J8]
 rfl
theorem C8.put{ow:Ow}{s:AG}{p k:Nat}{cs:List AV}(h:C8 s p cs)(ht:ow p=(p,0,0))(hk:k<cs.length){t:TypeId}(hs:BD Try.prog t=some 1){d:AV}(h1:d.isCell=true)(h2:d.cells=[d]):
  ∃s',AN Try.prog s t (.ptr (some (p,k))) d=some s'∧C8 s' p (cs.set k d)∧AH (· = (p,0,0)) ow s ow s'∧s'.next=s.next:=by
 obtain⟨s',g1,g2,g3,g4⟩:=h.store (k:=k) (d:=d) hk hs h1 h2
 exact⟨s',g1,g2,⟨by omega,fun _ _ _=>rfl,fun y _ hm=>g4 y fun e=>hm (by rw[e];exact ht)⟩,g3⟩
theorem Ac.push_w{ow:Ow}{s:AG}{p:Nat}{x:Sf}{v:Sv}(h:Ac ow s p x v)(hl:v.watches.length≤1000000000){q:Nat}{ty sz':Nat}(hq:s.heap.get q=some (AO ty sz' [.slice none 0 (some 0),.slice none 0 (some 0)])):
  ∃u s' s'' ow',Ad Try.prog s [88,88] [x.w,.slice (some (q,0)) 2 (some 2)]=some (u,s')∧AN Try.prog s' 88 (.ptr (some (p,0))) u=some s''∧Ac ow' s'' p { x with w:=u } { v with watches:=v.watches++[[],[]] }∧AH (BN p) ow s ow' s'':=by
 obtain⟨us,w1,w2,w3⟩:=h.w
 have src:=KB (P:=Try.prog) (e:=89) (s:=s) (n:=2) (cap:=some 2) (sz:=1) ty sz' hq rfl
 obtain⟨u,s',ow',g1,g2,g3⟩:=w2.pushN (st:=88) (e:=89) Try.underlying88 EB jm (by decide) jO gv (by omega) (add:=[.slice none 0 (some 0),.slice none 0 (some 0)]) (by decide) (by decide) rfl src ⟨_,_,rfl⟩
 have hm1:∀a i,a≠1→¬ ((p,a,i):BT)=(p,1,0):=fun a i ha=>CA ha
 have hl:=h.lt
 have hn:=g3.next
 have hb:C8 s' p (DL x v):=h.box.step g3 h.tag h.lt (hm1 0 0 (by decide))
 have ht:ow' p=(p,0,0):=by rw[g3.tags p h.lt (by rw[h.tag];exact hm1 0 0 (by decide))];exact h.tag
 obtain⟨s'',k1,k2,k3,k4⟩:=hb.put ht (k:=0) (d:=u) (by simp) (t:=88) Gz g2.isCell.1 g2.isCell.2
 have hm0:∀a i,a≠0→¬ ((p,a,i):BT)=(p,0,0):=fun a i ha=>CA ha
 have st:AH (fun t=>t=(p,1,0)∨t=(p,0,0)) ow s ow' s'':=(g3.mono fun t ht=>.inl ht).trans (k3.mono fun t ht=>.inr ht)
 have hm:∀a i,a ∉ [0,1]→¬ (((p,a,i):BT)=(p,1,0)∨((p,a,i):BT)=(p,0,0)):=fun a i ha=>by
  rintro(e | e)
  ·exact CA (fun q=>ha (by rw[q];decide)) e
  ·exact CA (fun q=>ha (by rw[q];decide)) e
 refine⟨u,s',s'',ow',g1,k1,{ box:=k2,tag:=ht,lt:=by omega,w:=?_,learned:=h.learned.step st (hm 3 0 (by decide)),value:=h.value.step st (hm 4 0 (by decide)),level:=h.level.step st (hm 5 0 (by decide)),why:=h.why.step st (hm 6 0 (by decide)),heat:=h.heat.step st (hm 7 0 (by decide)),phase:=h.phase.step st (hm 8 0 (by decide)),trail:=h.trail.step st (hm 9 0 (by decide)),limits:=h.limits.step st (hm 10 0 (by decide)),model:=h.model.step st (hm 11 0 (by decide)),trace:=h.trace.step st (hm 12 0 (by decide)) (hm 13 0 (by decide)),cls:=fun c l hc=>(h.cls c l hc).step st (hm 14 c (by decide)) (hm 15 c (by decide)) },st.mono fun t ht=>by rcases ht with e | e<;>rw[e]<;>rfl⟩
 refine⟨us++[.slice none 0 (some 0),.slice none 0 (some 0)],by rw[kr,kr,w1];rfl,g2.step k3 (hm0 1 0 (by decide)),fun j L hj=>?_⟩
 rcases IA hj with⟨j1,j2⟩ | ⟨j1,j2⟩
 ·obtain⟨u',r1,r2⟩:=w3 j L j2
  exact⟨u',by rw[lG (by omega)];exact r1,(r2.step st (hm 2 j (by decide)))⟩
 ·have e:L=[]:=by
   have:=kq j2
   simpa using this
  subst e
  refine⟨.slice none 0 (some 0),?_,BO.nil _ _ _⟩
  rw[lL (by omega),w1]
  have:=Af j2
  generalize hz:j - v.watches.length=z at *
  match z,this with
  | 0,_=>rfl
  | 1,_=>rfl
theorem Ac.push_vlw{ow:Ow}{s:AG}{p:Nat}{x:Sf}{v:Sv}(h:Ac ow s p x v)(hl1:v.value.length≤1000000000)(hl2:v.level.length≤1000000000)(hl3:v.why.length≤1000000000){q1 q2 q3:Nat}(hq1:s.heap.get q1=some (AO 3 1 [iv 0]))(hq2:s.heap.get q2=some (AO 3 1 [iv 0]))(hq3:s.heap.get q3=some (AO 92 1 [.ptr none]))(t2:ow q2=(0,0,0)∧q2<s.next)(t3:ow q3=(0,0,0)∧q3<s.next):
  ∃u1 u2 u3 s1 s2 s3 s4 s5 s6 ow',Ad Try.prog s [23,23] [x.val,.slice (some (q1,0)) 1 (some 1)]=some (u1,s1)∧Ad Try.prog s1 [23,23] [x.lev,.slice (some (q2,0)) 1 (some 1)]=some (u2,s2)∧Ad Try.prog s2 [89,89] [x.why,.slice (some (q3,0)) 1 (some 1)]=some (u3,s3) ∧
   AN Try.prog s3 23 (.ptr (some (p,2))) u1=some s4∧AN Try.prog s4 23 (.ptr (some (p,3))) u2=some s5∧AN Try.prog s5 89 (.ptr (some (p,4))) u3=some s6 ∧
   Ac ow' s6 p { x with val:=u1,lev:=u2,why:=u3 } { v with value:=v.value++[0],level:=v.level++[0],why:=v.why++[none] }∧AH (BN p) ow s ow' s6 ∧
   (∀t a,AC Try.prog s t (.ptr (some (p,a)))=AC Try.prog s1 t (.ptr (some (p,a)))∧AC Try.prog s t (.ptr (some (p,a)))=AC Try.prog s2 t (.ptr (some (p,a)))):=by
 have hlt:=h.lt
 have z0:∀a,a≠0→¬ ((0,0,0):BT)=(p,a,0):=fun a ha e=>by
  injection e with _ e
  injection e with e _
  exact ha e.symm
 obtain⟨u1,s1,ow1,a1,a2,a3⟩:=h.value.push (st:=23) (e:=3) Try.underlying23 Be Y0 (by decide) LZ Id (by rw[kn];exact hl1) (x:=iv 0) rfl hq1
 have n1:=a3.next
 have r2:s1.heap.get q2=some (AO 3 1 [iv 0]):=(a3.heap q2 t2.2 (by rw[t2.1];exact z0 4 (by decide))).trans hq2
 obtain⟨u2,s2,ow2,b1,b2,b3⟩:=(h.level.step a3 (CA (by decide))).push (st:=23) (e:=3) Try.underlying23 Be Y0 (by decide) LZ Id (by rw[kn];exact hl2) (x:=iv 0) rfl r2
 have n2:=b3.next
 have r3:s2.heap.get q3=some (AO 92 1 [.ptr none]):=by
  have e:=a3.heap q3 t3.2 (by rw[t3.1];exact z0 4 (by decide))
  have o:=a3.tags q3 t3.2 (by rw[t3.1];exact z0 4 (by decide))
  exact((b3.heap q3 (by omega) (by rw[o,t3.1];exact z0 5 (by decide))).trans e).trans hq3
 obtain⟨u3,s3,ow3,c1,c2,c3⟩:=((h.why.step a3 (CA (by decide))).step b3 (CA (by decide))).push (st:=89) (e:=92) Try.underlying89 El Uv (by decide) PU SP (by rw[kn];exact hl3) (x:=.ptr none) rfl r3
 have n3:=c3.next
 have stA:AH (fun t=>t=(p,4,0)∨t=(p,5,0)∨t=(p,6,0)) ow s ow3 s3:=((a3.mono fun t ht=>.inl ht).trans (b3.mono fun t ht=>.inr (.inl ht))).trans (c3.mono fun t ht=>.inr (.inr ht))
 have hm3:∀a i,a ∉ [4,5,6]→¬ (((p,a,i):BT)=(p,4,0)∨((p,a,i):BT)=(p,5,0)∨((p,a,i):BT)=(p,6,0)):=fun a i ha=>by
  rintro(e | e | e)
  ·exact CA (fun q=>ha (by rw[q];decide)) e
  ·exact CA (fun q=>ha (by rw[q];decide)) e
  ·exact CA (fun q=>ha (by rw[q];decide)) e
 have hb:C8 s3 p (DL x v):=h.box.step stA h.tag h.lt (hm3 0 0 (by decide))
 have ht:ow3 p=(p,0,0):=by rw[stA.tags p h.lt (by rw[h.tag];exact hm3 0 0 (by decide))];exact h.tag
 obtain⟨s4,d1,d2,d3,d4⟩:=hb.put ht (k:=2) (d:=u1) (by simp) (t:=23) Cb a2.isCell.1 a2.isCell.2
 obtain⟨s5,e1,e2,e3,e4⟩:=d2.put ht (k:=3) (d:=u2) (by simp) (t:=23) Cb b2.isCell.1 b2.isCell.2
 obtain⟨s6,f1,f2,f3,f4⟩:=e2.put ht (k:=4) (d:=u3) (by simp) (t:=89) EB c2.isCell.1 c2.isCell.2
 have stB:AH (· = (p,0,0)) ow3 s3 ow3 s6:=(d3.trans e3).trans f3
 have hm0:∀a i,a≠0→¬ ((p,a,i):BT)=(p,0,0):=fun a i ha=>CA ha
 have st:AH (fun t=>(t=(p,4,0)∨t=(p,5,0)∨t=(p,6,0))∨t=(p,0,0)) ow s ow3 s6:=(stA.mono fun t ht=>.inl ht).trans (stB.mono fun t ht=>.inr ht)
 have hm:∀a i,a ∉ [0,4,5,6]→¬ ((((p,a,i):BT)=(p,4,0)∨((p,a,i):BT)=(p,5,0)∨((p,a,i):BT)=(p,6,0))∨((p,a,i):BT)=(p,0,0)):=fun a i ha=>by
  rintro(e | e)
  ·exact hm3 a i (fun q=>ha (kz _ q)) e
  ·exact CA (fun q=>ha (by rw[q];decide)) e
 refine⟨u1,u2,u3,s1,s2,s3,s4,s5,s6,ow3,a1,b1,c1,d1,e1,f1,{ box:=f2,tag:=ht,lt:=by omega,w:=h.w.step st (hm 1 0 (by decide)) (fun j=>hm 2 j (by decide)),learned:=h.learned.step st (hm 3 0 (by decide)),value:=by show BO ow3 (p,4,0) s6 u1 (List.map iv (v.value++[0]));rw[la];exact((a2.step b3 (CA (by decide))).step c3 (CA (by decide))).step stB (hm0 4 0 (by decide)),level:=by show BO ow3 (p,5,0) s6 u2 (List.map iv (v.level++[0]));rw[la];exact(b2.step c3 (CA (by decide))).step stB (hm0 5 0 (by decide)),why:=by show BO ow3 (p,6,0) s6 u3 (List.map G4 (v.why++[none]));rw[la];exact c2.step stB (hm0 6 0 (by decide)),heat:=h.heat.step st (hm 7 0 (by decide)),phase:=h.phase.step st (hm 8 0 (by decide)),trail:=h.trail.step st (hm 9 0 (by decide)),limits:=h.limits.step st (hm 10 0 (by decide)),model:=h.model.step st (hm 11 0 (by decide)),trace:=h.trace.step st (hm 12 0 (by decide)) (hm 13 0 (by decide)),cls:=fun c l hc=>(h.cls c l hc).step st (hm 14 c (by decide)) (hm 15 c (by decide)) },st.mono fun t ht=>by rcases ht with(e | e | e) | e<;>rw[e]<;>rfl,fun t a=>⟨(Do (a3.heap p hlt (by rw[h.tag];exact CA (by decide)))).symm,?_⟩⟩
 ·have o:=a3.tags p hlt (by rw[h.tag];exact CA (by decide))
  rw[Do (b3.heap p (by omega) (by rw[o,h.tag];exact CA (by decide)))]
  exact(Do (a3.heap p hlt (by rw[h.tag];exact CA (by decide)))).symm
theorem Ac.push_hp{ow:Ow}{s:AG}{p:Nat}{x:Sf}{v:Sv}(h:Ac ow s p x v)(hl1:v.heat.length≤1000000000)(hl2:v.phase.length≤1000000000){q1 q2:Nat}(hq1:s.heap.get q1=some (AO 3 1 [iv 0]))(hq2:s.heap.get q2=some (AO 3 1 [iv (-1)]))(t2:ow q2=(0,0,0)∧q2<s.next):
  ∃u1 u2 s1 s2 s3 s4 ow',Ad Try.prog s [23,23] [x.heat,.slice (some (q1,0)) 1 (some 1)]=some (u1,s1)∧Ad Try.prog s1 [23,23] [x.ph,.slice (some (q2,0)) 1 (some 1)]=some (u2,s2) ∧
   AN Try.prog s2 23 (.ptr (some (p,5))) u1=some s3∧AN Try.prog s3 23 (.ptr (some (p,6))) u2=some s4 ∧
   Ac ow' s4 p { x with heat:=u1,ph:=u2 } { v with heat:=v.heat++[0],phase:=v.phase++[-1] }∧AH (BN p) ow s ow' s4 ∧
   (∀t a,AC Try.prog s t (.ptr (some (p,a)))=AC Try.prog s1 t (.ptr (some (p,a)))):=by
 have hlt:=h.lt
 have z0:∀a,a≠0→¬ ((0,0,0):BT)=(p,a,0):=fun a ha e=>by
  injection e with _ e
  injection e with e _
  exact ha e.symm
 obtain⟨u1,s1,ow1,a1,a2,a3⟩:=h.heat.push (st:=23) (e:=3) Try.underlying23 Be Y0 (by decide) LZ Id (by rw[kn];exact hl1) (x:=iv 0) rfl hq1
 have n1:=a3.next
 have r2:s1.heap.get q2=some (AO 3 1 [iv (-1)]):=(a3.heap q2 t2.2 (by rw[t2.1];exact z0 7 (by decide))).trans hq2
 obtain⟨u2,s2,ow2,b1,b2,b3⟩:=(h.phase.step a3 (CA (by decide))).push (st:=23) (e:=3) Try.underlying23 Be Y0 (by decide) LZ Id (by rw[kn];exact hl2) (x:=iv (-1)) rfl r2
 have n2:=b3.next
 have stA:AH (fun t=>t=(p,7,0)∨t=(p,8,0)) ow s ow2 s2:=(a3.mono fun t ht=>.inl ht).trans (b3.mono fun t ht=>.inr ht)
 have hm3:∀a i,a ∉ [7,8]→¬ (((p,a,i):BT)=(p,7,0)∨((p,a,i):BT)=(p,8,0)):=fun a i ha=>by
  rintro(e | e)
  ·exact CA (fun q=>ha (by rw[q];decide)) e
  ·exact CA (fun q=>ha (by rw[q];decide)) e
 have hb:C8 s2 p (DL x v):=h.box.step stA h.tag h.lt (hm3 0 0 (by decide))
 have ht:ow2 p=(p,0,0):=by rw[stA.tags p h.lt (by rw[h.tag];exact hm3 0 0 (by decide))];exact h.tag
 obtain⟨s3,d1,d2,d3,d4⟩:=hb.put ht (k:=5) (d:=u1) (by simp) (t:=23) Cb a2.isCell.1 a2.isCell.2
 obtain⟨s4,e1,e2,e3,e4⟩:=d2.put ht (k:=6) (d:=u2) (by simp) (t:=23) Cb b2.isCell.1 b2.isCell.2
 have stB:AH (· = (p,0,0)) ow2 s2 ow2 s4:=d3.trans e3
 have hm0:∀a i,a≠0→¬ ((p,a,i):BT)=(p,0,0):=fun a i ha=>CA ha
 have st:AH (fun t=>(t=(p,7,0)∨t=(p,8,0))∨t=(p,0,0)) ow s ow2 s4:=(stA.mono fun t ht=>.inl ht).trans (stB.mono fun t ht=>.inr ht)
 have hm:∀a i,a ∉ [0,7,8]→¬ ((((p,a,i):BT)=(p,7,0)∨((p,a,i):BT)=(p,8,0))∨((p,a,i):BT)=(p,0,0)):=fun a i ha=>by
  rintro(e | e)
  ·exact hm3 a i (fun q=>ha (kz _ q)) e
  ·exact CA (fun q=>ha (by rw[q];decide)) e
 exact⟨u1,u2,s1,s2,s3,s4,ow2,a1,b1,d1,e1,{ box:=e2,tag:=ht,lt:=by omega,w:=h.w.step st (hm 1 0 (by decide)) (fun j=>hm 2 j (by decide)),learned:=h.learned.step st (hm 3 0 (by decide)),value:=h.value.step st (hm 4 0 (by decide)),level:=h.level.step st (hm 5 0 (by decide)),why:=h.why.step st (hm 6 0 (by decide)),heat:=by show BO ow2 (p,7,0) s4 u1 (List.map iv (v.heat++[0]));rw[la];exact(a2.step b3 (CA (by decide))).step stB (hm0 7 0 (by decide)),phase:=by show BO ow2 (p,8,0) s4 u2 (List.map iv (v.phase++[-1]));rw[la];exact b2.step stB (hm0 8 0 (by decide)),trail:=h.trail.step st (hm 9 0 (by decide)),limits:=h.limits.step st (hm 10 0 (by decide)),model:=h.model.step st (hm 11 0 (by decide)),trace:=h.trace.step st (hm 12 0 (by decide)) (hm 13 0 (by decide)),cls:=fun c l hc=>(h.cls c l hc).step st (hm 14 c (by decide)) (hm 15 c (by decide)) },st.mono fun t ht=>by rcases ht with(e | e) | e<;>rw[e]<;>rfl,fun t a=>(Do (a3.heap p hlt (by rw[h.tag];exact CA (by decide)))).symm⟩
def gx(B:Nat)(v:Sv):Prop:=v.watches.length≤2 * B∧v.value.length≤B∧v.level.length≤B∧v.why.length≤B∧v.heat.length≤B∧v.phase.length≤B
theorem gx.one{B:Nat}{v:Sv}(h:gx B v):gx (B+1) (Ob v):=by
 obtain⟨h1,h2,h3,h4,h5,h6⟩:=h
 refine⟨?_,?_,?_,?_,?_,?_⟩<;>simp[Ob]<;>omega
theorem Z4{E:BJ}{K:List AV→AG→Prop}{ow:Ow}{s:AG}{p:Nat}{x:Sf}{v:Sv}(h:Ac ow s p x v)(hl:v.watches.length≤1000000000)(x1 x2 x3:AV)
  (hK:∀s' ow' u,Ac ow' s' p { x with w:=u } { v with watches:=v.watches++[[],[]] }→AH (BN p) ow s ow' s'→K [AV.ptr (some (p,0)),x1,x2,x3] s'):Qb E WH K [] [AV.ptr (some (p,0)),x1,x2,x3] s:=by
 have hms:∀ (m:Nat) (i:Nat),Made.val i (.slice m)=.slice (some (i,0)) m (some m):=fun _ _=>rfl
 have st:AH (fun _=>False) ow s (ext ow s.next (0,0,0)) (newObj s (AO 89 1 [.slice none 0 (some 0),.slice none 0 (some 0)])):=AH.new _ ow s _ _
 have h1:=h.keep st (fun _ q=>q.elim)
 obtain⟨u,s1,s2,ow',g1,g2,g3,g4⟩:=h1.push_w hl (q:=s.next) (ty:=89) (sz':=1) (by rw[AY,if_pos rfl])
 simp only[WH,AF,It,h.ld_w,iP,hms,g1,BU,g2,AX,Qa,Qb,Qc,Qd,Qe,Qf,Qg,Qh,Qi,Qj,Qk,Ql,Qm,Qn,true_and,and_true,Qo,Qp,Qq,Qr,Qs,Qt,Qu,Qv,Qw,Qx,Qy,Qz,Ra,Rb,Rc,Rd,Re,Rf,Rg,Rh,Ri,Rj,Rk,Rl,Rm,Ya,Yb,Yc,Rn,Ro,Rp,Yd,Ye,Rq,Rs,Rt,Ru,Rv,Rw,Rx]
 exact hK s2 ow' u g3 ((st.mono fun _ q=>q.elim).trans g4)
theorem Z5{E:BJ}{K:List AV→AG→Prop}{ow:Ow}{s:AG}{p:Nat}{x:Sf}{v:Sv}(h:Ac ow s p x v)(hl1:v.value.length≤1000000000)(hl2:v.level.length≤1000000000)(hl3:v.why.length≤1000000000)(x1 x2 x3:AV)
  (hK:∀s' ow' u1 u2 u3,Ac ow' s' p { x with val:=u1,lev:=u2,why:=u3 } { v with value:=v.value++[0],level:=v.level++[0],why:=v.why++[none] }→AH (BN p) ow s ow' s'→K [AV.ptr (some (p,0)),x1,x2,x3] s'):Qb E WJ K [] [AV.ptr (some (p,0)),x1,x2,x3] s:=by
 have hms:∀ (m:Nat) (i:Nat),Made.val i (.slice m)=.slice (some (i,0)) m (some m):=fun _ _=>rfl
 have b3:=Cj (P:=Try.prog) (t:=23) (v:=iv 0) Try.underlying23 Be Pd rfl rfl
 have b92:=Cj (P:=Try.prog) (t:=89) (v:=.ptr none) Try.underlying89 El SQ rfl rfl
 generalize e1:newObj s (AO 3 1 [iv 0])=s1
 have n1:s1.next=s.next+1:=by rw[← e1];rfl
 have o1:B6 s.next s s1:=by rw[← e1];exact B6.new s _
 generalize e2:newObj s1 (AO 3 1 [iv 0])=s2
 have n2:s2.next=s.next+2:=by rw[← e2];show s1.next+1=_;omega
 have o2:B6 (s.next+1) s1 s2:=by rw[← e2,← n1];exact B6.new s1 _
 generalize e3:newObj s2 (AO 92 1 [.ptr none])=s3
 have n3:s3.next=s.next+3:=by rw[← e3];show s2.next+1=_;omega
 have o3:B6 (s.next+2) s2 s3:=by rw[← e3,← n2];exact B6.new s2 _
 have h1:=h.keep (AH.old (m:=fun _=>False) o1 (0,0,0)) (fun _ q=>q.elim)
 have oo:B6 s.next s s2:=o1.trans (o2.mono (by omega))
 have h2:=h.keep (AH.old (m:=fun _=>False) oo (0,0,0)) (fun _ q=>q.elim)
 have o:B6 s.next s s3:=oo.trans (o3.mono (by omega))
 have st:AH (fun _=>False) ow s (ext ow s.next (0,0,0)) s3:=AH.old o _
 have h3:=h.keep st (fun _ q=>q.elim)
 obtain⟨u1,u2,u3,t1,t2,t3,t4,t5,t6,ow',g1,g2,g3,g4,g5,g6,g7,g8,g9⟩:=h3.push_vlw hl1 hl2 hl3 (q1:=s.next) (q2:=s.next+1) (q3:=s.next+2)
  (by rw[o3.2 _ (by omega),o2.2 _ (by omega),← e1,AY,if_pos rfl]) (by rw[o3.2 _ (by omega),← e2,AY,if_pos (by omega)]) (by rw[← e3,AY,if_pos (by omega)]) ⟨Cn (by omega),by omega⟩ ⟨Cn (by omega),by omega⟩
 have q1:AC Try.prog t1 23 (.ptr (some (p,3)))=some x.lev:=by rw[← (g9 23 3).1];exact h3.ld_lev
 have q2:AC Try.prog t1 89 (.ptr (some (p,4)))=some x.why:=by rw[← (g9 89 4).1];exact h3.ld_why
 have q3:AC Try.prog t2 89 (.ptr (some (p,4)))=some x.why:=by rw[← (g9 89 4).2];exact h3.ld_why
 simp only[WJ,AF,ET,Iu,Kq,h.ld_val,b3,e1,hms,h1.ld_lev,n1,e2,h2.ld_why,b92,n2,e3,g1,BP,Ap,q1,q2,h3.level.self,h3.why.self,g2,q3,g3,BU,g4,g5,g6,AX,Qa,Qb,Qc,Qd,Qe,Qf,Qg,Qh,Qi,Qj,Qk,Ql,Qm,Qn,true_and,and_true,Qo,Qp,Qq,Qr,Qs,Qt,Qu,Qv,Qw,Qx,Qy,Qz,Ra,Rb,Rc,Rd,Re,Rf,Rg,Rh,Ri,Rj,Rk,Rl,Rm,Ya,Yb,Yc,Rn,Ro,Rp,Yd,Ye,Rq,Rs,Rt,Ru,Rv,Rw,Rx]
 exact hK t6 ow' u1 u2 u3 g7 ((st.mono fun _ q=>q.elim).trans g8)
theorem Z6{E:BJ}{K:List AV→AG→Prop}{ow:Ow}{s:AG}{p:Nat}{x:Sf}{v:Sv}(h:Ac ow s p x v)(hl1:v.heat.length≤1000000000)(hl2:v.phase.length≤1000000000)(x1 x2 x3:AV)
  (hK:∀s' ow' u1 u2,Ac ow' s' p { x with heat:=u1,ph:=u2 } { v with heat:=v.heat++[0],phase:=v.phase++[-1] }→AH (BN p) ow s ow' s'→K [AV.ptr (some (p,0)),x1,x2,x3] s'):Qb E WK K [] [AV.ptr (some (p,0)),x1,x2,x3] s:=by
 have hms:∀ (m:Nat) (i:Nat),Made.val i (.slice m)=.slice (some (i,0)) m (some m):=fun _ _=>rfl
 have b3:=Cj (P:=Try.prog) (t:=23) (v:=iv 0) Try.underlying23 Be Pd rfl rfl
 have b3':=Cj (P:=Try.prog) (t:=23) (v:=iv (-1)) Try.underlying23 Be Pd rfl rfl
 generalize e1:newObj s (AO 3 1 [iv 0])=s1
 have n1:s1.next=s.next+1:=by rw[← e1];rfl
 have o1:B6 s.next s s1:=by rw[← e1];exact B6.new s _
 generalize e2:newObj s1 (AO 3 1 [iv (-1)])=s2
 have n2:s2.next=s.next+2:=by rw[← e2];show s1.next+1=_;omega
 have o2:B6 (s.next+1) s1 s2:=by rw[← e2,← n1];exact B6.new s1 _
 have h1:=h.keep (AH.old (m:=fun _=>False) o1 (0,0,0)) (fun _ q=>q.elim)
 have oo:B6 s.next s s2:=o1.trans (o2.mono (by omega))
 have st:AH (fun _=>False) ow s (ext ow s.next (0,0,0)) s2:=AH.old oo _
 have h2:=h.keep st (fun _ q=>q.elim)
 obtain⟨u1,u2,t1,t2,t3,t4,ow',g1,g2,g3,g4,g5,g6,g7⟩:=h2.push_hp hl1 hl2 (q1:=s.next) (q2:=s.next+1)
  (by rw[o2.2 _ (by omega),← e1,AY,if_pos rfl]) (by rw[← e2,AY,if_pos (by omega)]) ⟨Cn (by omega),by omega⟩
 have q1:AC Try.prog t1 23 (.ptr (some (p,6)))=some x.ph:=by rw[← g7 23 6];exact h2.ld_ph
 simp only[WK,AF,Kr,RK,h.ld_heat,b3,e1,hms,h1.ld_ph,b3',n1,e2,g1,BP,Ap,q1,h2.phase.self,g2,BU,g3,g4,AX,Qa,Qb,Qc,Qd,Qe,Qf,Qg,Qh,Qi,Qj,Qk,Ql,Qm,Qn,true_and,and_true,Qo,Qp,Qq,Qr,Qs,Qt,Qu,Qv,Qw,Qx,Qy,Qz,Ra,Rb,Rc,Rd,Re,Rf,Rg,Rh,Ri,Rj,Rk,Rl,Rm,Ya,Yb,Yc,Rn,Ro,Rp,Yd,Ye,Rq,Rs,Rt,Ru,Rv,Rw,Rx]
 exact hK t4 ow' u1 u2 g5 ((st.mono fun _ q=>q.elim).trans g6)
theorem Ti{E:BJ}(hE:Good E){n p:Nat}(hn:n<100000000){ow0:Ow}{s0:AG}{v0:Sv}{Q:Ar→Prop}(hq:∀s' ow' x' y3,Ac ow' s' p x' v0→AH (BN p) ow0 s0 ow' s'→Q ⟨.exit 0,[AV.ptr (some (p,0)),iv (n:Int),.bool false,y3],[],s'⟩):
  ∀ (m:Nat) (s:AG) (ow:Ow) (x:Sf) (v:Sv) (x3:AV),n+1 - v.value.length=m→gx (n+1000 - m) v→m≤1000+n→Ac ow s p x v→Sw m v=v0→AH (BN p) ow0 s0 ow s →
   WC E none (.loop N6) Q [AV.ptr (some (p,0)),iv (n:Int),.bool false,x3] [] s:=by
 intro m
 induction m with
 | zero =>
  intro s ow x v x3 hm hz hle h hv hst
  have ln:∀s,A6 Try.prog s 23 x.val=some (iv (v.value.length:Int)):=fun s=>by
   have:=h.value.len Try.underlying23 s
   rw[kn]at this
   exact this
  have hd:decide ((v.value.length:Int)≤(n:Int))=false:=decide_eq_false (by omega)
  have hv:v=v0:=hv
  subst hv
  refine WC.loop' ?_
  simp only[N6,WG,AF,ET,h.ld_val,ln,hd,Qa,Qb,Qc,Qd,Qe,Qf,Qg,Qh,Qi,Qj,Qk,Ql,Qm,Qn,true_and,and_true,Qo,Qp,Qq,Qr,Qs,Qt,Qu,Qv,Qw,Qx,Qy,Qz,Ra,Rb,Rc,Rd,Re,Rf,Rg,Rh,Ri,Rj,Rk,Rl,Rm,Ya,Yb,Yc,Rn,Ro,Rp,Yd,Ye,Rq,Rs,Rt,Ru,Rv,Rw,Rx]
  exact hq s ow x _ h hst
 | succ m ih =>
  intro s ow x v x3 hm hz hle h hv hst
  have ln:∀s,A6 Try.prog s 23 x.val=some (iv (v.value.length:Int)):=fun s=>by
   have:=h.value.len Try.underlying23 s
   rw[kn]at this
   exact this
  have hd:decide ((v.value.length:Int)≤(n:Int))=true:=decide_eq_true (by omega)
  obtain⟨z1,z2,z3,z4,z5,z6⟩:=hz
  refine WC.loop' ?_
  generalize hW:WC E none (Aa.loop N6) Q=W
  simp only[N6,WG,AF,ET,h.ld_val,ln,hd,Qa,Qb,Qc,Qd,Qe,Qf,Qg,Qh,Qi,Qj,Qk,Ql,Qm,Qn,true_and,and_true,Qo,Qp,Qq,Qr,Qs,Qt,Qu,Qv,Qw,Qx,Qy,Qz,Ra,Rb,Rc,Rd,Re,Rf,Rg,Rh,Ri,Rj,Rk,Rl,Rm,Ya,Yb,Yc,Rn,Ro,Rp,Yd,Ye,Rq,Rs,Rt,Ru,Rv,Rw,Rx]
  refine Z4 h (by omega) _ _ _ ?_
  intro s1 ow1 u1 h1 st1
  try simp only[Qa,Qb,Qc,Qd,Qe,Qf,Qg,Qh,Qi,Qj,Qk,Ql,Qm,Qn,true_and,and_true,Qo,Qp,Qq,Qr,Qs,Qt,Qu,Qv,Qw,Qx,Qy,Qz,Ra,Rb,Rc,Rd,Re,Rf,Rg,Rh,Ri,Rj,Rk,Rl,Rm,Ya,Yb,Yc,Rn,Ro,Rp,Yd,Ye,Rq,Rs,Rt,Ru,Rv,Rw,Rx]
  refine Z5 h1 (by show v.value.length≤_;omega) (by show v.level.length≤_;omega) (by show v.why.length≤_;omega) _ _ _ ?_
  intro s2 ow2 u2 u3 u4 h2 st2
  try simp only[Qa,Qb,Qc,Qd,Qe,Qf,Qg,Qh,Qi,Qj,Qk,Ql,Qm,Qn,true_and,and_true,Qo,Qp,Qq,Qr,Qs,Qt,Qu,Qv,Qw,Qx,Qy,Qz,Ra,Rb,Rc,Rd,Re,Rf,Rg,Rh,Ri,Rj,Rk,Rl,Rm,Ya,Yb,Yc,Rn,Ro,Rp,Yd,Ye,Rq,Rs,Rt,Ru,Rv,Rw,Rx]
  refine Z6 h2 (by show v.heat.length≤_;omega) (by show v.phase.length≤_;omega) _ _ _ ?_
  intro s3 ow3 u5 u6 h3 st3
  try simp only[Qa,Qb,Qc,Qd,Qe,Qf,Qg,Qh,Qi,Qj,Qk,Ql,Qm,Qn,true_and,and_true,Qo,Qp,Qq,Qr,Qs,Qt,Qu,Qv,Qw,Qx,Qy,Qz,Ra,Rb,Rc,Rd,Re,Rf,Rg,Rh,Ri,Rj,Rk,Rl,Rm,Ya,Yb,Yc,Rn,Ro,Rp,Yd,Ye,Rq,Rs,Rt,Ru,Rv,Rw,Rx]
  rw[← hW]
  refine ih s3 ow3 _ (Ob v) _ (by show n+1 - (v.value++[0]).length=m;rw[kr];simp;omega) ?_ (by omega) h3 hv (((hst.trans st1).trans st2).trans st3)
  have:=gx.one (B:=n+1000 - (m+1)) (v:=v) ⟨z1,z2,z3,z4,z5,z6⟩
  rw[show n+1000 - m=n+1000 - (m+1)+1 by omega]
  exact this
theorem Th{E:BJ}(hE:Good E){ow:Ow}{s:AG}{p:Nat}{x:Sf}{v:Sv}(h:Ac ow s p x v){n:Nat}(hn:n<100000000)(hz:gx 900 v):
  WF E 46 [AJ p,iv (n:Int)] (fun _ s'=>∃ow' x',Ac ow' s' p x' (Sx v n)∧AH (BN p) ow s ow' s') s:=by
 have he:=Gb p
 simp only[AJ]at he
 refine hE.go fi (by decide) rfl ?_
 simp only[kK,bZ,AJ,he,Qa,Qb,Qc,Qd,Qe,Qf,Qg,Qh,Qi,Qj,Qk,Ql,Qm,Qn,true_and,and_true,Qo,Qp,Qq,Qr,Qs,Qt,Qu,Qv,Qw,Qx,Qy,Qz,Ra,Rb,Rc,Rd,Re,Rf,Rg,Rh,Ri,Rj,Rk,Rl,Rm,Ya,Yb,Yc,Rn,Ro,Rp,Yd,Ye,Rq,Rs,Rt,Ru,Rv,Rw,Rx]
 obtain⟨z1,z2,z3,z4,z5,z6⟩:=hz
 refine Ti hE hn (v0:=Sx v n) ?_ _ s ow x v _ rfl ⟨by omega,by omega,by omega,by omega,by omega,by omega⟩ (by omega) h rfl (AH.refl _ _ _)
 intro s' ow' x' y3 k1 k2
 simp only[if_true,Qa,Qb,Qc,Qd,Qe,Qf,Qg,Qh,Qi,Qj,Qk,Ql,Qm,Qn,true_and,and_true,Qo,Qp,Qq,Qr,Qs,Qt,Qu,Qv,Qw,Qx,Qy,Qz,Ra,Rb,Rc,Rd,Re,Rf,Rg,Rh,Ri,Rj,Rk,Rl,Rm,Ya,Yb,Yc,Rn,Ro,Rp,Yd,Ye,Rq,Rs,Rt,Ru,Rv,Rw,Rx]
 exact⟨ow',x',k1,k2⟩
def R3:Sv:={ watches:=[],learned:=[],value:=[],level:=[],why:=[],heat:=[],phase:=[],trail:=[],limits:=[],head:=0,broken:=false,model:=[],trace:=[],many:=0,room:=2000,cl:=fun _=>none }
theorem iQ:Bw Try.prog 91 (zipIdx [14] [iv 2000])=some (.agg (DL ⟨.slice none 0 (some 0),.slice none 0 (some 0),.slice none 0 (some 0),.slice none 0 (some 0),.slice none 0 (some 0),.slice none 0 (some 0),.slice none 0 (some 0),.slice none 0 (some 0),.slice none 0 (some 0),.slice none 0 (some 0),.slice none 0 (some 0)⟩ R3)):=by
 simp[Bw,kF,Try.underlying91,Bt,Be,Ju,Cb,Gz,EB,GD,zipIdx,Dk,DT,AI]
 rfl
theorem j0(ow:Ow)(s:AG):Ac (ext ow s.next (s.next,0,0)) (newObj s (AO 91 0 (DL ⟨.slice none 0 (some 0),.slice none 0 (some 0),.slice none 0 (some 0),.slice none 0 (some 0),.slice none 0 (some 0),.slice none 0 (some 0),.slice none 0 (some 0),.slice none 0 (some 0),.slice none 0 (some 0),.slice none 0 (some 0),.slice none 0 (some 0)⟩ R3))) s.next ⟨.slice none 0 (some 0),.slice none 0 (some 0),.slice none 0 (some 0),.slice none 0 (some 0),.slice none 0 (some 0),.slice none 0 (some 0),.slice none 0 (some 0),.slice none 0 (some 0),.slice none 0 (some 0),.slice none 0 (some 0),.slice none 0 (some 0)⟩ R3:=
 { box:=C8.new,tag:=Cn (kp _),lt:=lW _,w:=⟨[],rfl,BO.nil _ _ _,fun k L hk=>by cases hk⟩,learned:=BO.nil _ _ _,value:=BO.nil _ _ _,level:=BO.nil _ _ _,why:=BO.nil _ _ _,heat:=BO.nil _ _ _,phase:=BO.nil _ _ _,trail:=BO.nil _ _ _,limits:=BO.nil _ _ _,model:=BO.nil _ _ _,trace:=⟨[],[],Dv.nil _ _,fun j hj=>(by cases hj),fun j hj=>(by cases hj),B1.nil _ _,fun u hu=>by cases hu⟩,cls:=fun c l hc=>by cases hc }
theorem YE{E:BJ}(hE:Good E)(ow:Ow){s:AG}{n:Nat}(hn:n<100000000):
  WF E 40 [iv (n:Int)] (fun r s'=>∃ow' x',r=AJ s.next∧Ac ow' s' s.next x' (Sx R3 n)∧AH (BN s.next) ow s ow' s') s:=by
 have hptr:∀i,Made.val i .ptr=.ptr (some (i,0)):=fun _=>rfl
 have hmax:D8 true (iv (n:Int)) [iv 0]=some (iv (n:Int)):=by rw[X9];congr 2;omega
 refine hE.go fg (by decide) rfl ?_
 have hN:=j0 ow s
 have hst:AH (BN s.next) ow s (ext ow s.next (s.next,0,0)) (newObj s (AO 91 0 (DL ⟨.slice none 0 (some 0),.slice none 0 (some 0),.slice none 0 (some 0),.slice none 0 (some 0),.slice none 0 (some 0),.slice none 0 (some 0),.slice none 0 (some 0),.slice none 0 (some 0),.slice none 0 (some 0),.slice none 0 (some 0),.slice none 0 (some 0)⟩ R3))):=AH.new _ ow s _ _
 have hbox:∀l,DD 91 (.agg l)=some (AO 91 0 l,.ptr):=fun l=>rfl
 simp only[kJ,bV,bW,bX,iQ,hbox,hptr,hmax,Qa,Qb,Qc,Qd,Qe,Qf,Qg,Qh,Qi,Qj,Qk,Ql,Qm,Qn,true_and,and_true,Qo,Qp,Qq,Qr,Qs,Qt,Qu,Qv,Qw,Qx,Qy,Qz,Ra,Rb,Rc,Rd,Re,Rf,Rg,Rh,Ri,Rj,Rk,Rl,Rm,Ya,Yb,Yc,Rn,Ro,Rp,Yd,Ye,Rq,Rs,Rt,Ru,Rv,Rw,Rx]
 refine(Th hE hN hn ⟨by decide,by decide,by decide,by decide,by decide,by decide⟩).mono ?_
 rintro _ s' ⟨ow',x',g1,g2⟩
 simp only[bY,Qa,Qb,Qc,Qd,Qe,Qf,Qg,Qh,Qi,Qj,Qk,Ql,Qm,Qn,true_and,and_true,Qo,Qp,Qq,Qr,Qs,Qt,Qu,Qv,Qw,Qx,Qy,Qz,Ra,Rb,Rc,Rd,Re,Rf,Rg,Rh,Ri,Rj,Rk,Rl,Rm,Ya,Yb,Yc,Rn,Ro,Rp,Yd,Ye,Rq,Rs,Rt,Ru,Rv,Rw,Rx]
 exact⟨ow',x',rfl,g1,hst.trans g2⟩
end
end Go.Proofs.Ytilhhmkdcoajnaa.Am
