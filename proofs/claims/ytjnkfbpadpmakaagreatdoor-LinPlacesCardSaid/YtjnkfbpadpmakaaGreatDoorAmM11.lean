/- Sums of variables: what is put to an entry, walked; sums as they are read; conditions: none. -/
import Derived.Test.YtjnkfbpadpmakaaGreatDoorAmM08
import Derived.Test.YtjnkfbpadpmakaaGreatDoorAmLTab
import Derived.WideKeyArgs
import Derived.ChangeBears2
import Derived.OpenShut
import GoSem.ClaimJoined
import Derived.Test.YtjnkfbpadpmakaaGreatDoorAmM04
set_option linter.unusedVariables false
set_option linter.unusedSimpArgs false
set_option maxRecDepth 16000
namespace Go.Proofs.YtjnkfbpadpmakaaGreatDoor.Am
open Go Go.Proofs
noncomputable section
def Fx(p m:Nat)(s s':AD):Prop:=s.next≤s'.next∧∀j,j<s.next→j≠p→j≠m→s'.heap.get j=s.heap.get j
theorem Fx.refl(p m:Nat)(s:AD):Fx p m s s:=⟨nl _,fun _ _ _ _=>rfl⟩
theorem Fx.trans{p m:Nat}{s s1 s2:AD}(h:Fx p m s s1)(k:Fx p m s1 s2):Fx p m s s2:=⟨ny h.1 k.1,fun j hj h1 h2=>(k.2 j (ns hj h.1) h1 h2).trans (h.2 j hj h1 h2)⟩
theorem Ac.fx{p m:Nat}{s s':AD}(h:Ac s.next s s'):Fx p m s s':=⟨h.1,fun j hj _ _=>h.2 j hj⟩
theorem Fx.old{p m b:Nat}{s s':AD}(h:Fx p m s s')(hp:b≤p)(hm:b≤m)(hb:b≤s.next):Ac b s s':=⟨h.1,fun j hj=>h.2 j (by omega) (by omega) (by omega)⟩
theorem QR.fx{p mi b:Nat}{s s':AD}{v:AV}{q:Rat}(h:QR b s v q){e sz:Nat}{sp:Bool}{cs:List AV}(hp:s.heap.get p=some (R e sz sp cs))(he:e≠76){kt:Nat}{es:List (AV×AV)}(hm:s.heap.get mi=some (.map kt es))(f:Fx p mi s s'):QR b s' v q:=
 h.keepS f.1 fun j hj hu=>f.2 j hj (Ey hp he hu) (Ex hm hu)
theorem Xe(i:Nat):Et (.map (some i)) (.map (some i))=true:=by simp[Et,Eg]
section
variable{E:CP}{s:AD}
theorem TW        (hE : GoodN E) {b mi : Nat} {T : List Br}  {k kc ko pc po : Nat} {x : Bool} {a d : Option (Nat × Nat)} {na m : Nat} {ca cd : Option Nat} {n : Int} (hn : i64 n) {c o : Rat} {cc co : List AV} (hM : F5   b s mi T k)
    (hc:QI s (.agg cc) c kc) (ho:QI s (.agg co) o ko) (gc:s.heap.get pc=some (R 26 0 false cc)) (go:s.heap.get po=some (R 26 0 false co)) (hpc:pc<s.next) (hpo:po<s.next) (hk1:1≤k) (hkc:1≤kc) (hko:1≤ko) (hk:2 * (k+(kc+ko))+1≤1000000000)
    {K:AV→AD→Prop} (hK:∀r s' w,s.next≤s'.next→(∀j,j<s.next→j≠mi→s'.heap.get j=s.heap.get j)→(∀j∈I3 w,s.next≤j)→F5 b s' mi (DR n (CG n T+c * o) w T) (k+(kc+ko)+1)→K r s'):
    WF E 62 [.agg [.bool x,.slice a na ca,.slice d m cd,.map (some mi)],iv n,.func 73 [] [.ptr (some (pc,0)),.ptr (some (po,0))]] K s:=by
  refine hE.go i5 (by decide) rfl ?_
  obtain⟨n1,o1,g1⟩:=Bj s (R 56 0 false [.bool x,.slice a na ca,.slice d m cd,.map (some mi)])
  simp only[nK,eJ,eK,Wz,Xg,Xb,Ik,Qa,Qb,Qc,Qd,Qe,Qf,Qg,Qh,Qi,Qj,Qk,Ql,Qm,Qn,true_and,and_true,Qo,Qp,Qq,Qr,Qs,Qt,Qu,Qv,Qw,Qx,Qy,Qz,Ra,Rb,Rc,Rd,Re,Rf,Rg,Rh,Ri,Rj,Rk,Rm,Rn,Ro,Rp,Rq,Rs,Ya,Yb,Yc,Rt,Ru,Za,Yd,Ye,Rx,Ry,Rz,Wa,Wb,Wc,Wd]
  generalize newObj s (R 56 0 false [.bool x,.slice a na ca,.slice d m cd,.map (some mi)])=s1 at *
  have hM1:=hM.old o1
  have l1:=AX (P:=Tryz.prog) (t:=54) (o:=0+3) Pn g1 rfl
  have lk:=On hM1.obj hn
  have hmlt:=hM.lt
  have hmlo:=hM.lo
  have key:∀ (s4:AD) (va:AV) (x2:Bool) (a2 b2:Option (Nat×Nat)) (n2 m2:Nat) (c2 d2:Option Nat) (y4 y5 y6:AV),Ac s1.next s1 s4→s1.next+1≤s4.next→va=.agg [.bool x2,.slice a2 n2 c2,.slice b2 m2 d2]→s4.heap.get s1.next=some (BQ x2 (.slice a2 n2 c2) (.slice b2 m2 d2))→QI s4 va (CG n T) k →
      Qb E Ws (fun v s'=>Pj (DZ s' []) fun s'=>K (.tuple []) s') [] [.agg [.bool x,.slice a na ca,.slice d m cd,.map (some mi)],iv n,.func 73 [] [.ptr (some (pc,0)),.ptr (some (po,0))],.ptr (some (s.next,0)),.ptr (some (s1.next,0)),y5,y6] s4:=by
    intro s4 va x2 a2 b2 n2 m2 c2 d2 y4 y5 y6 o4 h4 hva g4 hq
    have o14:=o1.trans (o4.mono o1.1)
    have k1:=(o4.2 s.next (by omega)).trans g1
    have l1:=AX (P:=Tryz.prog) (t:=54) (o:=0+3) Pn k1 rfl
    have l2:=AE (P:=Tryz.prog) (t:=26) A9 Ar g4 rfl
    subst hva
    simp only[Ws,l1,l2,Ik,Qa,Qb,Qc,Qd,Qe,Qf,Qg,Qh,Qi,Qj,Qk,Ql,Qm,Qn,true_and,and_true,Qo,Qp,Qq,Qr,Qs,Qt,Qu,Qv,Qw,Qx,Qy,Qz,Ra,Rb,Rc,Rd,Re,Rf,Rg,Rh,Ri,Rj,Rk,Rm,Rn,Ro,Rp,Rq,Rs,Ya,Yb,Yc,Rt,Ru,Za,Yd,Ye,Rx,Ry,Rz,Wa,Wb,Wc,Wd]
    refine ZM hE hq (hc.old o14) (ho.old o14) ((o14.2 pc hpc).trans gc) ((o14.2 po hpo).trans go) (by have:=o14.1;omega) (by have:=o14.1;omega) hk1 hkc hko hk fun s5 v5 o5 r5=>?_
    have h5:=o5.1
    have k5:=(o5.2 s.next (by omega)).trans k1
    refine⟨⟨Aa (by simp only[Qa,Qb,Qc,Qd,Qe,Qf,Qg,Qh,Qi,Qj,Qk,Ql,Qm,Qn,true_and,and_true,Qo,Qp,Qq,Qr,Qs,Qt,Qu,Qv,Qw,Qx,Qy,Qz,Ra,Rb,Rc,Rd,Re,Rf,Rg,Rh,Ri,Rj,Rk,Rm,Rn,Ro,Rp,Rq,Rs,Ya,Yb,Yc,Rt,Ru,Za,Yd,Ye,Rx,Ry,Rz,Wa,Wb,Wc,Wd];exact AX (o:=0+3) Pn k5 rfl) (Xe mi),trivial⟩,?_⟩
    have o15:=o14.trans (o5.mono o14.1)
    have hM5:=hM.old o15
    have up:=ZA hM5.obj hn (CG n T+c * o) v5
    simp only[up,Xy,Xz,Qa,Qb,Qc,Qd,Qe,Qf,Qg,Qh,Qi,Qj,Qk,Ql,Qm,Qn,true_and,and_true,Qo,Qp,Qq,Qr,Qs,Qt,Qu,Qv,Qw,Qx,Qy,Qz,Ra,Rb,Rc,Rd,Re,Rf,Rg,Rh,Ri,Rj,Rk,Rm,Rn,Ro,Rp,Rq,Rs,Ya,Yb,Yc,Rt,Ru,Za,Yd,Ye,Rx,Ry,Rz,Wa,Wb,Wc,Wd]
    have hq5:QH (CG n T+c * o) (k+(kc+ko)+1):=(ar hM hk1 n).add ((hc.qh hkc).mul (ho.qh hko))
    have hrow:∀j,UL s5 j→j≠mi:=fun j hj=>Ex hM5.obj hj
    have r5':QR s4.next (setObj s5 mi (.map 3 (Fu (DR n (CG n T+c * o) v5 T)))) v5 (CG n T+c * o):=r5.keepS (nl _) fun j _ hj=>Ww _ (hrow j hj)
    refine hK _ _ v5 ?_ (fun j hj hne=>?_) (fun j hj=>?_) ⟨Wv _ _ _,hM.lo,hM5.lt,fun t ht=>?_,MI hM.nd,PC hM.dj fun t ht=>?_⟩
    · exact o15.1
    · rw[Ww _ hne];exact o15.2 j hj
    · have:=(r5.slots hj).1;have:=o14.1;omega
    · rcases Jt      ht with rfl | ht
      · exact⟨r5'.mono (by have:=o14.1;omega),hq5,hn⟩
      · obtain⟨e1,e2,e3⟩:=hM5.ent t ht
        exact⟨e1.keepS (nl _) fun j _ hj=>Ww _ (hrow j hj),e2.le (by omega),e3⟩
    · have e1 := (hM.ent t ht).1
      have hd:UJ t.2.2 v5:=e1.dj r5 o14.1
      exact⟨hd,hd.symm⟩
  simp only[l1,lk,Za,BU,Xb,Xx,Qa,Qb,Qc,Qd,Qe,Qf,Qg,Qh,Qi,Qj,Qk,Ql,Qm,Qn,true_and,and_true,Qo,Qp,Qq,Qr,Qs,Qt,Qu,Qv,Qw,Qx,Qy,Qz,Ra,Rb,Rc,Rd,Re,Rf,Rg,Rh,Ri,Rj,Rk,Rm,Rn,Ro,Rp,Rq,Rs,Ya,Yb,Yc,Rt,Ru,Za,Yd,Ye,Rx,Ry,Rz,Wa,Wb,Wc,Wd]
  obtain⟨n2,o2,g2⟩:=Bj s1 ZQ
  generalize hs2:newObj s1 ZQ=s2 at *
  cases hg:EQ n T with
  | none =>
    have st:=Aj (P:=Tryz.prog) (t:=26) (cs:=[.bool false,.slice none 0 (some 0),.slice none 0 (some 0)]) Ar g2 rfl rfl rfl (by simp)
    generalize hs3:setObj s2 s1.next (R 26 0 false [.bool false,.slice none 0 (some 0),.slice none 0 (some 0)])=s3 at st
    have o3:Ac s1.next s1 s3:=by rw[← hs3];exact o2.set (nl _) _
    have g3:s3.heap.get s1.next=some ZQ:=by rw[← hs3,Wv]
    have n3:s3.next=s1.next+1:=by rw[← hs3];exact n2
    simp only[Wq,eL,Option.isSome,st,Wd,Bool.not_false,Xz,Qa,Qb,Qc,Qd,Qe,Qf,Qg,Qh,Qi,Qj,Qk,Ql,Qm,Qn,true_and,and_true,Qo,Qp,Qq,Qr,Qs,Qt,Qu,Qv,Qw,Qx,Qy,Qz,Ra,Rb,Rc,Rd,Re,Rf,Rg,Rh,Ri,Rj,Rk,Rm,Rn,Ro,Rp,Rq,Rs,Ya,Yb,Yc,Rt,Ru,Za,Yd,Ye,Rx,Ry,Rz,Wa,Wb,Wc,Wd]
    refine Kr hE fun s4 v4 o4 r4=>?_
    have h4:=o4.1
    obtain⟨x2,a2,n2',c2,b2,m2,d2,rfl⟩:=r4.shape
    have st4:=Aj (P:=Tryz.prog) (t:=26) (cs:=[.bool x2,.slice a2 n2' c2,.slice b2 m2 d2]) Ar ((o4.2 s1.next (by omega)).trans g3) rfl rfl rfl (by simp)
    simp only[st4,Xx,Xz,Qa,Qb,Qc,Qd,Qe,Qf,Qg,Qh,Qi,Qj,Qk,Ql,Qm,Qn,true_and,and_true,Qo,Qp,Qq,Qr,Qs,Qt,Qu,Qv,Qw,Qx,Qy,Qz,Ra,Rb,Rc,Rd,Re,Rf,Rg,Rh,Ri,Rj,Rk,Rm,Rn,Ro,Rp,Rq,Rs,Ya,Yb,Yc,Rt,Ru,Za,Yd,Ye,Rx,Ry,Rz,Wa,Wb,Wc,Wd]
    have hv0:CG n T=0:=by unfold CG;rw[hg]
    refine key _ _ x2 a2 b2 n2' m2 c2 d2 (iv 0) _ _ ((o3.trans (o4.mono o3.1)).set (nl _) _) (by show s1.next+1≤s4.next;omega) rfl (Wv _ _ _) ?_
    rw[hv0]
    exact((r4.set (by omega) _).qi jv).le hk1
  | some pq =>
    have hmem:=FE hg
    obtain⟨e1,e2,_⟩:=hM1.ent _ hmem
    obtain⟨x2,a2,n2',c2,b2,m2,d2,hv2⟩:=e1.shape
    simp only at hv2 e1 e2
    have st:=Aj (P:=Tryz.prog) (t:=26) (cs:=[.bool x2,.slice a2 n2' c2,.slice b2 m2 d2]) Ar g2 rfl rfl rfl (by simp)
    rw[← hv2]at st
    generalize hs3:setObj s2 s1.next (R 26 0 false [.bool x2,.slice a2 n2' c2,.slice b2 m2 d2])=s3 at st
    have o3:Ac s1.next s1 s3:=by rw[← hs3];exact o2.set (nl _) _
    have g3:s3.heap.get s1.next=some (BQ x2 (.slice a2 n2' c2) (.slice b2 m2 d2)):=by rw[← hs3,Wv]
    have n3:s3.next=s1.next+1:=by rw[← hs3];exact n2
    simp only[Wq,Option.isSome,st,Wd,Bool.not_true,Xz,Qa,Qb,Qc,Qd,Qe,Qf,Qg,Qh,Qi,Qj,Qk,Ql,Qm,Qn,true_and,and_true,Qo,Qp,Qq,Qr,Qs,Qt,Qu,Qv,Qw,Qx,Qy,Qz,Ra,Rb,Rc,Rd,Re,Rf,Rg,Rh,Ri,Rj,Rk,Rm,Rn,Ro,Rp,Rq,Rs,Ya,Yb,Yc,Rt,Ru,Za,Yd,Ye,Rx,Ry,Rz,Wa,Wb,Wc,Wd]
    have hv0:CG n T=pq.1:=by unfold CG;rw[hg]
    refine key _ pq.2 x2 a2 b2 n2' m2 c2 d2 (iv 0) _ _ o3 (by omega) hv2 g3 ?_
    rw[hv0]
    exact(e1.old o3).qi e2
end
def Fz(sz:Nat)(s:AD)(a:Option (Nat×Nat))(cap:Option Nat)(n:Nat):Prop:=
 (∃c,cap=some c∧n≤c∧(a=none→c=0))∨(cap=none∧∃i o r,a=some (i,o)∧i<s.next∧s.heap.get i=some (.row r)∧r.sz=sz∧o+n * sz≤r.n)
theorem Fz.old{sz:Nat}{s s':AD}{a:Option (Nat×Nat)}{cap:Option Nat}{n:Nat}(h:Fz sz s a cap n)(k:Ac s.next s s'):Fz sz s' a cap n:=by
 rcases h with h | ⟨h1,i,o,r,h3,h4,h5,h6⟩
 ·exact .inl h
 ·exact .inr ⟨h1,i,o,r,h3,ns h4 k.1,by rw[k.2 i h4];exact h5,h6⟩
theorem Fz.less{sz:Nat}{s:AD}{a:Option (Nat×Nat)}{cap:Option Nat}{n k:Nat}(h:Fz sz s a cap n)(hk:k≤n):Fz sz s a cap k:=by
 rcases h with⟨c,h1,h2,h3⟩ | ⟨h1,i,o,r,h3,h4,h5,h6,h7⟩
 ·exact .inl ⟨c,h1,by omega,h3⟩
 ·exact .inr ⟨h1,i,o,r,h3,h4,h5,h6,ny (Nat.add_le_add_left (oC _ hk) _) h7⟩
theorem OT{t e sz:Nat}(ht:Tryz.prog.underlying t=some (.slice e))(hs:A3 Tryz.prog e=some sz)(hz:0<sz){s:AD}{a:Option (Nat×Nat)}{cap:Option Nat}{n k:Nat}(hc:Fz sz s a cap n)(hk:k≤n):
    A4 Tryz.prog t false true false s [.slice a n cap,iv (k:Int)]=some (.slice a k cap):=by
  show Bg Tryz.prog s t (.slice a n cap) none (some (iv (k:Int))) none=_
  rcases hc with⟨c,rfl,h1,h2⟩ | ⟨rfl,i,o,r,rfl,h3,h4,h5,h6⟩
  · have hb:BV (iv (k:Int)) c=some k:=by simp[BV,Fw,AJ,CZ (show k≤c by omega),Do]
    cases a with
    | none=>simp[Bg,ht,hs,hb]
    | some io=>obtain⟨i,o⟩:=io;cases hb2:Nat.beq c 0<;>simp[Bg,ht,hs,hb,hb2]
  · have hrow : rowAt s i = some r := by unfold rowAt; rw [h4]
    have hkd:k≤(r.n - o) / sz:=by
      rw[Nat.le_div_iff_mul_le hz]
      have:k * sz≤n * sz:=oC _ hk
      omega
    have hb:BV (iv (k:Int)) ((r.n - o) / sz)=some k:=by simp[BV,Fw,AJ,CZ hkd,Do]
    have hsz:Nat.beq sz r.sz=true:=FX h5.symm
    have ho:o≤r.n:=by have:0≤n * sz:=oB _;omega
    simp only[Bg,ht,hs,hrow,hsz,AJ,hb,CZ ho,Dx (show sz≠0 by omega),Option.bind_some,Bool.true_and,Bool.and_true,Bool.not_false,cond_true]
    simp
structure B2(s:AD)(a:Option (Nat×Nat))(cs:List Rat)(k:Nat)(cells:List AV):Prop where
 len:cells.length=cs.length * 3
 rd:AZ s.next s a cells
 rat:∀ (i:Nat) (q:Rat),cs[i]? = some q→QI s (.agg ((cells.drop (i * 3)).take 3)) q k
theorem B2.old{s s':AD}{a:Option (Nat×Nat)}{cs:List Rat}{k:Nat}{cells:List AV}(h:B2 s a cs k cells)(o:Ac s.next s s'):B2 s' a cs k cells:=
 ⟨h.len,(h.rd.old o (nl _)).mono o.1,fun i q hi=>(h.rat i q hi).old o⟩
theorem B2.le{s:AD}{a:Option (Nat×Nat)}{cs:List Rat}{k k':Nat}{cells:List AV}(h:B2 s a cs k cells)(hk:k≤k'):B2 s a cs k' cells:=⟨h.len,h.rd,fun i q hi=>(h.rat i q hi).le hk⟩
theorem B2.load{s:AD}{a:Option (Nat×Nat)}{cs:List Rat}{k:Nat}{cells:List AV}(h:B2 s a cs k cells){i:Nat}(hi:i<cs.length):
  ∃i0 o,a=some (i0,o)∧i0<s.next∧AC Tryz.prog s 26 (.ptr (some (i0,o+i * 3)))=some (.agg ((cells.drop (i * 3)).take 3)):=by
 have hl:=h.len
 have h3:((cells.drop (i * 3)).take 3).length=3:=by rw[oO,oh];omega
 have hget:∀j,j<3→((cells.drop (i * 3)).take 3)[j]? = cells[i * 3+j]? := fun j hj=>by rw[pV hj,pW]
 have h0:cells[i * 3]? = some cells[i * 3]:=nr (by omega)
 obtain⟨i0,o,rfl,hlt,_⟩:=h.rd (i * 3) _ h0
 refine⟨i0,o,rfl,hlt,?_⟩
 have:=Js (o:=s.heap.get i0) ((cells.drop (i * 3)).take 3) (o+i * 3) (fun j u hj=>by
  have hj3:j<3:=by
   rcases nm j 3 with h' | h'
   ·exact h'
   ·rw[oF (by omega)]at hj;cases hj
  rw[hget j hj3]at hj
  obtain⟨i',o',e,_,g⟩:=h.rd _ u hj
  injection e with e
  injection e with e1 e2
  subst e1;subst e2
  rw[Jr]at g
  rw[oY];exact g) (by intro e;rw[e]at h3;cases h3)
 rw[h3]at this
 rw[Wf A9,Ar,Option.bind_some,this]
 rfl
def LI(s:AD)(v:AV)(C:Rat)(vs:List Int)(cs:List Rat)(k:Nat):Prop:=∃x a n c b m d av capv ac capc cells,
 v=.agg [.bool x,.slice a n c,.slice b m d,.slice av vs.length capv,.slice ac cs.length capc]∧QI s (.agg [.bool x,.slice a n c,.slice b m d]) C k∧AZ s.next s av (vs.map iv)∧(∀n∈vs,i64 n)∧B2 s ac cs k cells∧Fz 1 s av capv vs.length∧Fz 3 s ac capc cs.length
theorem LI.old{s s':AD}{v:AV}{C:Rat}{vs:List Int}{cs:List Rat}{k:Nat}(h:LI s v C vs cs k)(o:Ac s.next s s'):LI s' v C vs cs k:=by
 obtain⟨x,a,n,c,b,m,d,av,capv,ac,capc,cells,h1,h2,h3,h4,h5,h6,h7⟩:=h
 exact⟨x,a,n,c,b,m,d,av,capv,ac,capc,cells,h1,h2.old o,(h3.old o (nl _)).mono o.1,h4,h5.old o,h6.old o,h7.old o⟩
theorem LI.le{s:AD}{v:AV}{C:Rat}{vs:List Int}{cs:List Rat}{k k':Nat}(h:LI s v C vs cs k)(hk:k≤k'):LI s v C vs cs k':=by
 obtain⟨x,a,n,c,b,m,d,av,capv,ac,capc,cells,h1,h2,h3,h4,h5,h6,h7⟩:=h
 exact⟨x,a,n,c,b,m,d,av,capv,ac,capc,cells,h1,h2.le hk,h3,h4,h5.le hk,h6,h7⟩
inductive Ed (o:Rat):List Int→List Rat→List Br→List Br→Prop
 | nil1 (cs:List Rat) (T:List Br):Ed o [] cs T T
 | nil2 (vs:List Int) (T:List Br):Ed o vs [] T T
 | cons {n:Int} {c:Rat} {vs:List Int} {cs:List Rat} {T T':List Br} (w:AV) (h:Ed o vs cs (DR n (CG n T+c * o) w T) T'):Ed o (n::vs) (c::cs) T T'
def Bu(a:Int→Rat):List Int→List Rat→Rat
 | n::vs,c::cs=>c * a n+Bu a vs cs
 | _,_=>0
theorem Ed.ev{o:Rat}{vs:List Int}{cs:List Rat}{T T':List Br}(h:Ed o vs cs T T')(a:Int→Rat):F2 a T'=F2 a T+Bu a vs cs * o:=by
 induction h with
 | nil1 cs T=>show _=_+0 * o;rw[Rat.zero_mul,Rat.add_zero]
 | nil2 vs T=>cases vs<;>(show _=_+0 * o;rw[Rat.zero_mul,Rat.add_zero])
 | @cons n c vs cs T T' w h ih =>
  rw[ih,Xl]
  show F2 a T+c * o * a n+Bu a vs cs * o=F2 a T+(c * a n+Bu a vs cs) * o
  rw[Rat.add_mul,Rat.add_assoc,Rat.mul_assoc c o,Rat.mul_comm o (a n),Rat.mul_assoc c (a n)]
theorem Kt(a b:Nat):B3 false (iv (a:Int)) [iv (b:Int)]=some (iv ((min a b:Nat):Int)):=by
 simp only[B3,LO,AJ,cond_true]
 congr 2
 cases hlt:Lg (b:Int) (a:Int)with
 | true=>rw[Ca]at hlt;have:=of_decide_eq_true hlt;simp only[cond_true,cond_false];omega
 | false=>rw[Ca]at hlt;have:=of_decide_eq_false hlt;simp only[cond_true,cond_false];omega
theorem LZ{P:Program}{s:AD}{i e sz t n off:Nat}{sp:Bool}{cs0 cs:List AV}(hs:A3 P t=some n)(hg:s.heap.get i=some (R e sz sp cs0))(hl:cs.length=n)(hl0:off+n≤cs0.length)(ha:Ap cs=true)(hn:cs≠[]):AK P s t (.ptr (some (i,off))) (.agg cs)=some (setObj s i (R e sz sp (DX cs0 off cs))):=by
 rw[Wg,hs]
 show AJ (decide (cs.length=n)) (CS s i off cs)=_
 rw[LY hg (by omega) ha,decide_eq_true hl]
 cases cs with
 | nil=>exact absurd rfl hn
 | cons c cs=>rfl
abbrev BP(x:Bool)(m d:AV)(mi:Nat):A8:=R 56 0 false [.bool x,m,d,.map (some mi)]
theorem HQ(a:Nat×Nat):Dp (.ptr (some a))=some (.ptr (some a)):=rfl
theorem En{s:AD}{a:Option (Nat×Nat)}{vs:List Int}(h:AZ s.next s a (vs.map iv)){i:Nat}{n:Int}(hi:vs[i]? = some n):∃i0 o,a=some (i0,o)∧i0<s.next∧AC Tryz.prog s 3 (.ptr (some (i0,o+i * 1)))=some (iv n):=by
 obtain⟨i0,o,rfl,h1,h2⟩:=h i (iv n) (by simp[hi])
 exact⟨i0,o,rfl,h1,CM j4 (by rw[oD];exact h2)⟩
section
variable{E:CP}{s:AD}
theorem TN        (hE : GoodN E) {b p mi q : Nat} {vl vo : AV} {C o : Rat} {vs : List Int} {cs : List Rat} {kl ko k0 : Nat} {x : Bool} {a1 d1 : Option (Nat × Nat)} {n1 m1 : Nat} {c1 e1 : Option Nat} {c' : Rat} {M : Nat} (hM : M = min cs.length vs.length)
    {lc oc:List AV} (hvl:vl=.agg lc) (hvo:vo=.agg oc)
    (hL:∀S,Fx p mi s S→LI S vl C vs cs kl) (hO:∀S,Fx p mi s S→QI S vo o ko) (hb:2 * (k0+(M+1) * (kl+ko+1))+1≤1000000000) (hk0:1≤k0) (hkl:1≤kl) (hko:1≤ko)
    {T0 T':List Br} {Q:A5→Prop} {av ac:Option (Nat×Nat)} {capv capc:Option Nat} {hlc:lc.drop 3=[.slice av vs.length capv,.slice ac cs.length capc]} (hq1:q+1<s.next)
    (hq:∀ (S:AD) (T':List Br) (y5 y6 y9 y10:AV),Fx p mi s S→S.heap.get p=some (BP x (.slice a1 n1 c1) (.slice d1 m1 e1) mi)→EA b S (.agg [.bool x,.slice a1 n1 c1,.slice d1 m1 e1]) mi c' T' (k0+M * (kl+ko+1))→Ed o vs cs T0 T' →
      Q ⟨.exit 0,[.ptr (some (p,0)),vl,vo,.ptr (some (q,0)),.ptr (some (q+1,0)),y5,y6,.slice ac M capc,iv (M:Int),y9,y10],[],S⟩):
    ∀ (j i:Nat) (S:AD) (T:List Br) (x5 x6 x10:AV),i+j=M→Fx p mi s S→S.heap.get p=some (BP x (.slice a1 n1 c1) (.slice d1 m1 e1) mi)→S.heap.get q=some (R 30 0 false lc)→S.heap.get (q+1)=some (R 26 0 false oc)→q≠p→q+1≠p→p<S.next →
      EA b S (.agg [.bool x,.slice a1 n1 c1,.slice d1 m1 e1]) mi c' T (k0+i * (kl+ko+1))→(∀T',Ed o (vs.drop i) (cs.drop i) T T'→Ed o vs cs T0 T') →
      WC E none (.loop OE) Q [.ptr (some (p,0)),vl,vo,.ptr (some (q,0)),.ptr (some (q+1,0)),x5,x6,.slice ac M capc,iv (M:Int),iv (i:Int),x10] [] S:=by
  intro j
  induction j with
  | zero =>
    intro i S T x5 x6 x10 hij f g1 g2 g3 hqp hqp1 hpS hP hT
    have e:i=M:=by omega
    subst e
    have dd:decide ((i:Int)<(i:Int))=false:=decide_eq_false (by omega)
    refine WC.loop' ?_
    simp only[OE,V8,Rx,dd,Qa,Qb,Qc,Qd,Qe,Qf,Qg,Qh,Qi,Qj,Qk,Ql,Qm,Qn,true_and,and_true,Qo,Qp,Qq,Qr,Qs,Qt,Qu,Qv,Qw,Qx,Qy,Qz,Ra,Rb,Rc,Rd,Re,Rf,Rg,Rh,Ri,Rj,Rk,Rm,Rn,Ro,Rp,Rq,Rs,Ya,Yb,Yc,Rt,Ru,Za,Yd,Ye,Rx,Ry,Rz,Wa,Wb,Wc,Wd]
    refine hq S T _ _ _ _ f g1 hP (hT T ?_)
    rcases Nat.le_total cs.length vs.length with h | h
    · rw[oo (show cs.length≤i by omega)];exact .nil2 _ _
    · rw[oo (show vs.length≤i by omega)];exact .nil1 _ _
  | succ j ih =>
    intro i S T x5 x6 x10 hij f g1 g2 g3 hqp hqp1 hpS hP hT
    have hiM:i<M:=by omega
    have hic:i<cs.length:=by omega
    have hiv:i<vs.length:=by omega
    have dd:decide ((i:Int)<(M:Int))=true:=decide_eq_true (by omega)
    obtain⟨x9,a9,n9,cc9,b9,m9,d9,av',capv',ac',capc',cells,hv9,hC,hvc,hvi,hrat,_,_⟩:=hL S f
    have hlc2:[AV.slice av vs.length capv,AV.slice ac cs.length capc]=[.slice av' vs.length capv',.slice ac' cs.length capc']:=by
      rw[hvl]at hv9
      injection hv9 with hv9
      rw[← hlc,hv9];rfl
    injection hlc2 with q1 q2
    injection q1 with q1 _ q1'
    injection q2 with q2 _
    injection q2 with q2 _ q2'
    subst q1;subst q1';subst q2;subst q2'
    have hcs:cs[i]? = some cs[i]:=nr hic
    generalize cs[i]=ci at hcs
    have hvs:vs[i]? = some vs[i]:=nr hiv
    generalize vs[i]=vi at hvs
    have hdv:vs.drop i=vi::vs.drop (i+1):=by
      rw[ol hiv]
      rw[nr hiv]at hvs
      rw[Option.some.inj hvs]
    have hdc:cs.drop i=ci::cs.drop (i+1):=by
      rw[ol hic]
      rw[nr hic]at hcs
      rw[Option.some.inj hcs]
    have hqi:=hrat.rat i ci hcs
    obtain⟨i0,o0,rfl,hi0,ld0⟩:=hrat.load hic
    obtain⟨i1,o1',rfl,hi1,ld1⟩:=En hvc hvs
    have hvin:=hvi vi (oP hvs)
    have ix0:=An (cap:=capc) (i:=i0) (o:=o0) Tryz.underlying28 Ar hiM
    have ix1:=An (cap:=capv) (i:=i1) (o:=o1') Tryz.underlying27 S9 hiv
    obtain⟨xx,aa,nn,kk,bb,mm,ee,hce⟩:=hqi.shape
    generalize hcc:(cells.drop (i * 3)).take 3=cc at *
    injection hce with hce
    subst hce
    obtain⟨n2,o2,g4⟩:=Bj S ZQ
    have hMb:M+1≤(M+1) * (kl+ko+1):=pR _ (by omega)
    have e17:=Bh Tryz.prog 3 (i:Int) 1 ⟨by omega,by omega⟩
    have e17':((i:Int)+1)=((i+1:Nat):Int):=by omega
    have st:=Aj (P:=Tryz.prog) (t:=26) (cs:=[.bool xx,.slice aa nn kk,.slice bb mm ee]) Ar g4 rfl rfl rfl (by simp)
    refine WC.loop' ?_
    generalize hW:WC E none (Af.loop OE) Q=WW
    simp only[OE,V8,dG,Rx,dd,ix0,ld0,BU,Xb,st,Xx,Xz,Qa,Qb,Qc,Qd,Qe,Qf,Qg,Qh,Qi,Qj,Qk,Ql,Qm,Qn,true_and,and_true,Qo,Qp,Qq,Qr,Qs,Qt,Qu,Qv,Qw,Qx,Qy,Qz,Ra,Rb,Rc,Rd,Re,Rf,Rg,Rh,Ri,Rj,Rk,Rm,Rn,Ro,Rp,Rq,Rs,Ya,Yb,Yc,Rt,Ru,Za,Yd,Ye,Rx,Ry,Rz,Wa,Wb,Wc,Wd]
    generalize hs2:setObj (newObj S ZQ) S.next (R 26 0 false [.bool xx,.slice aa nn kk,.slice bb mm ee])=s2 at *
    have os2:Ac S.next S s2:=by rw[← hs2];exact o2.set (nl _) _
    have n3:s2.next=S.next+1:=by rw[← hs2];exact n2
    have gc:s2.heap.get S.next=some (R 26 0 false [.bool xx,.slice aa nn kk,.slice bb mm ee]):=by rw[← hs2,Wv]
    have f1:=f.1
    have k1:=(os2.2 p hpS).trans g1
    have k2:=(os2.2 q (by omega)).trans g2
    have k3:=(os2.2 (q+1) (by omega)).trans g3
    have lp:=AE (P:=Tryz.prog) (t:=56) J5 Hh k1 rfl
    have lcl:lc=[.bool x9,.slice a9 n9 cc9,.slice b9 m9 d9,.slice (some (i1,o1')) vs.length capv,.slice (some (i0,o0)) cs.length capc]:=by
      rw[hvl]at hv9
      injection hv9
    have lv:=AX (P:=Tryz.prog) (t:=27) (o:=0+3) (v:=.slice (some (i1,o1')) vs.length capv) Nw k2 (by rw[lcl];rfl)
    have li:AC Tryz.prog s2 3 (.ptr (some (i1,o1'+i * 1)))=some (iv vi):=by
      obtain⟨i1',o1'',e,_,h3⟩:=En ((hvc.old os2 (nl _)).mono os2.1) hvs
      injection e with e
      injection e with q1 q2
      subst q1;subst q2
      exact h3
    have fs2:Fx p mi s s2:=f.trans os2.fx
    have hO2:=hO s2 fs2
    rw[hvo]at hO2
    have hP2:=hP.old os2
    have hmul:(i+1) * (kl+ko+1)≤M * (kl+ko+1):=oC _ (by omega)
    have hs1:(i+1) * (kl+ko+1)=i * (kl+ko+1)+(kl+ko+1):=oH _ _
    have hs2':(M+1) * (kl+ko+1)=M * (kl+ko+1)+(kl+ko+1):=oH _ _
    simp only[dH,lp,lv,ix1,li,HQ,Ij,pr,pC,Qa,Qb,Qc,Qd,Qe,Qf,Qg,Qh,Qi,Qj,Qk,Ql,Qm,Qn,true_and,and_true,Qo,Qp,Qq,Qr,Qs,Qt,Qu,Qv,Qw,Qx,Qy,Qz,Ra,Rb,Rc,Rd,Re,Rf,Rg,Rh,Ri,Rj,Rk,Rm,Rn,Ro,Rp,Rq,Rs,Ya,Yb,Yc,Rt,Ru,Za,Yd,Ye,Rx,Ry,Rz,Wa,Wb,Wc,Wd]
    refine TW hE hvin hP2.map (hqi.old os2) hO2 gc k3 (by omega) (by omega) (by omega) hkl hko (by omega) fun r s3 w h3 f3 hw hM3=>?_
    simp only[dI,e17,e17',Qa,Qb,Qc,Qd,Qe,Qf,Qg,Qh,Qi,Qj,Qk,Ql,Qm,Qn,true_and,and_true,Qo,Qp,Qq,Qr,Qs,Qt,Qu,Qv,Qw,Qx,Qy,Qz,Ra,Rb,Rc,Rd,Re,Rf,Rg,Rh,Ri,Rj,Rk,Rm,Rn,Ro,Rp,Rq,Rs,Ya,Yb,Yc,Rt,Ru,Za,Yd,Ye,Rx,Ry,Rz,Wa,Wb,Wc,Wd]
    rw[← hW]
    have hmp:mi≠p:=by rintro rfl;have:=hP.map.obj;rw[g1]at this;cases this
    have hmq:mi≠q:=by rintro rfl;have:=hP.map.obj;rw[g2]at this;cases this
    have hmq1:mi≠q+1:=by intro e;have:=hP.map.obj;rw[e,g3]at this;cases this
    have fx3:Fx p mi s s3:=fs2.trans ⟨h3,fun j hj _ h2=>f3 j hj h2⟩
    have ek:k0+i * (kl+ko+1)+(kl+ko)+1=k0+(i+1) * (kl+ko+1):=by omega
    rw[ek]at hM3
    have hc3:QR b s3 (.agg [.bool x,.slice a1 n1 c1,.slice d1 m1 e1]) c':=hP2.cq.keepS h3 fun j hj hu=>f3 j hj (Ex hP2.map.obj hu)
    refine ih (i+1) s3 _ _ _ _ (by omega) fx3 ((f3 p (by omega) hmp.symm).trans k1) ((f3 q (by omega) hmq.symm).trans k2) ((f3 (q+1) (by omega) hmq1.symm).trans k3) hqp hqp1 (by omega) ⟨hc3,hP2.ch.le (by omega),hM3,fun t ht=>?_⟩ fun T' hT'=>hT T' ?_
    · rcases Jt      ht with rfl | ht
      · intro j h1 h2
        have:=(hP2.cq.slots h1).2
        have:=hw j h2
        omega
      · exact hP.dj t ht
    · rw[hdv,hdc]
      exact .cons w hT'
end
theorem Ei(x:Bool)(a b av ac:Option (Nat×Nat))(n m nv nc:Nat)(c d cv cc:Option Nat):Et (.agg [.bool x,.slice a n c,.slice b m d,.slice av nv cv,.slice ac nc cc]) (.agg [.bool x,.slice a n c,.slice b m d,.slice av nv cv,.slice ac nc cc])=true:=by
 have h:=Bb
 have hb:=Hv
 show(Et (.bool x) (.bool x) && (Et (.slice a n c) (.slice a n c) && (Et (.slice b m d) (.slice b m d) && (Et (.slice av nv cv) (.slice av nv cv) && (Et (.slice ac nc cc) (.slice ac nc cc) && true)))))=true
 rw[hb,h,h,h,h];rfl
section
variable{E:CP}{s:AD}
theorem Hl(hE:GoodN E){b p mi:Nat}{vl vo:AV}{C o c:Rat}{vs:List Int}{cs:List Rat}{kl ko k:Nat}{x:Bool}{a1 d1:Option (Nat×Nat)}{n1 m1:Nat}{c1 e1:Option Nat}{T:List Br}
  (gp:s.heap.get p=some (BP x (.slice a1 n1 c1) (.slice d1 m1 e1) mi)) (hpn:p<s.next) (hbn:b≤s.next) (hP:EA b s (.agg [.bool x,.slice a1 n1 c1,.slice d1 m1 e1]) mi c T k)
  (hL:∀S,Fx p mi s S→LI S vl C vs cs kl) (hO:∀S,Fx p mi s S→QI S vo o ko) (hk1:1≤k) (hkl:1≤kl) (hko:1≤ko) (hb:2 * (k+(min cs.length vs.length+2) * (kl+ko+1))+1≤1000000000) {K:AV→AD→Prop}
  (hK:∀r s' x' a' n' c'' d' m' e' T',Fx p mi s s'→s'.heap.get p=some (BP x' (.slice a' n' c'') (.slice d' m' e') mi)→EA b s' (.agg [.bool x',.slice a' n' c'',.slice d' m' e']) mi (c+C * o) T' (k+(min cs.length vs.length+1) * (kl+ko+1))→Ed o vs cs T T'→K r s'):
  WF E 34 [.ptr (some (p,0)),vl,vo] K s:=by
 obtain⟨x9,a9,n9,cc9,b9,m9,d9,av,capv,ac,capc,cells,hv9,hC,hvc,hvi,hrat,hcv,hcc⟩:=hL s (Fx.refl _ _ _)
 have hqo:=hO s (Fx.refl _ _ _)
 obtain⟨x8,a8,n8,c8,b8,m8,d8,hv8⟩:=hqo.shape
 have hqC:=hC.qh hkl
 have hqO:=hqo.qh hko
 generalize hM:min cs.length vs.length=M at *
 have hs2':(M+2) * (kl+ko+1)=M * (kl+ko+1)+(kl+ko+1)+(kl+ko+1):=by rw[show M+2=(M+1)+1 by omega,oH,oH]
 have hs1':(M+1) * (kl+ko+1)=M * (kl+ko+1)+(kl+ko+1):=oH _ _
 refine hE.go ij (by decide) rfl ?_
 obtain⟨n2,o1,g1,g2⟩:=Eu s (R 30 0 false [.bool x9,.slice a9 n9 cc9,.slice b9 m9 d9,.slice av vs.length capv,.slice ac cs.length capc]) (BQ x8 (.slice a8 n8 c8) (.slice b8 m8 d8))
 have hcl:vl.cells=[.bool x9,.slice a9 n9 cc9,.slice b9 m9 d9,.slice av vs.length capv,.slice ac cs.length capc]:=by rw[hv9];rfl
 have hco:vo.cells=[.bool x8,.slice a8 n8 c8,.slice b8 m8 d8]:=by rw[hv8];rfl
 simp only[mu,dD,dE,Wz,hcl,hco,Xb,Aq,HQ,M8,QO,Qa,Qb,Qc,Qd,Qe,Qf,Qg,Qh,Qi,Qj,Qk,Ql,Qm,Qn,true_and,and_true,Qo,Qp,Qq,Qr,Qs,Qt,Qu,Qv,Qw,Qx,Qy,Qz,Ra,Rb,Rc,Rd,Re,Rf,Rg,Rh,Ri,Rj,Rk,Rm,Rn,Ro,Rp,Rq,Rs,Ya,Yb,Yc,Rt,Ru,Za,Yd,Ye,Rx,Ry,Rz,Wa,Wb,Wc,Wd]
 generalize newObj (newObj s (R 30 0 false [.bool x9,.slice a9 n9 cc9,.slice b9 m9 d9,.slice av vs.length capv,.slice ac cs.length capc])) (BQ x8 (.slice a8 n8 c8) (.slice b8 m8 d8))=s1 at *
 have lp:AC Tryz.prog s1 26 (.ptr (some (p,0+0)))=some (.agg [.bool x,.slice a1 n1 c1,.slice d1 m1 e1]):=Au (o:=0) (n:=3) A9 Ar ((o1.2 p hpn).trans gp) (by simp)
 have ll:AC Tryz.prog s1 26 (.ptr (some (s.next,0+0)))=some (.agg [.bool x9,.slice a9 n9 cc9,.slice b9 m9 d9]):=Au (o:=0) (n:=3) A9 Ar g1 (by simp)
 have lo:=AE (P:=Tryz.prog) (t:=26) A9 Ar g2 rfl
 simp only[lp,ll,lo,Qa,Qb,Qc,Qd,Qe,Qf,Qg,Qh,Qi,Qj,Qk,Ql,Qm,Qn,true_and,and_true,Qo,Qp,Qq,Qr,Qs,Qt,Qu,Qv,Qw,Qx,Qy,Qz,Ra,Rb,Rc,Rd,Re,Rf,Rg,Rh,Ri,Rj,Rk,Rm,Rn,Ro,Rp,Rq,Rs,Ya,Yb,Yc,Rt,Ru,Za,Yd,Ye,Rx,Ry,Rz,Wa,Wb,Wc,Wd]
 rw[hv8]at hqo
 refine IH hE (hC.old o1) (hqo.old o1) hkl hko (by omega) fun s2 v2 o2 r2=>?_
 have h2:=o2.1
 have lp2:AC Tryz.prog s2 26 (.ptr (some (p,0+0)))=some (.agg [.bool x,.slice a1 n1 c1,.slice d1 m1 e1]):=Au (o:=0) (n:=3) A9 Ar ((o2.2 p (by omega)).trans ((o1.2 p hpn).trans gp)) (by simp)
 refine⟨⟨Aa (by simp only[Qa,Qb,Qc,Qd,Qe,Qf,Qg,Qh,Qi,Qj,Qk,Ql,Qm,Qn,true_and,and_true,Qo,Qp,Qq,Qr,Qs,Qt,Qu,Qv,Qw,Qx,Qy,Qz,Ra,Rb,Rc,Rd,Re,Rf,Rg,Rh,Ri,Rj,Rk,Rm,Rn,Ro,Rp,Rq,Rs,Ya,Yb,Yc,Rt,Ru,Za,Yd,Ye,Rx,Ry,Rz,Wa,Wb,Wc,Wd];exact lp2) (BK _ _ _ _ _ _ _),trivial⟩,?_⟩
 simp only[Qa,Qb,Qc,Qd,Qe,Qf,Qg,Qh,Qi,Qj,Qk,Ql,Qm,Qn,true_and,and_true,Qo,Qp,Qq,Qr,Qs,Qt,Qu,Qv,Qw,Qx,Qy,Qz,Ra,Rb,Rc,Rd,Re,Rf,Rg,Rh,Ri,Rj,Rk,Rm,Rn,Ro,Rp,Rq,Rs,Ya,Yb,Yc,Rt,Ru,Za,Yd,Ye,Rx,Ry,Rz,Wa,Wb,Wc,Wd]
 have o12:=o1.trans (o2.mono o1.1)
 have hP2:=hP.old o12
 have hqm:=hqC.mul hqO
 refine IG hE (hP2.cq.qi hP2.ch) (r2.qi hqm) hk1 (by omega) (by omega) fun s3 v3 o3 r3=>?_
 have h3:=o3.1
 have o13:=o12.trans (o3.mono o12.1)
 have hP3:=hP.old o13
 obtain⟨x3,a3,n3,c3,b3,m3,d3,rfl⟩:=r3.shape
 have gp3:=(o13.2 p hpn).trans gp
 have st:AK Tryz.prog s3 26 (.ptr (some (p,0+0))) (.agg [.bool x3,.slice a3 n3 c3,.slice b3 m3 d3])=some (setObj s3 p (BP x3 (.slice a3 n3 c3) (.slice b3 m3 d3) mi)):=LZ (off:=0) Ar gp3 rfl (by simp) rfl (by simp)
 generalize hs4:setObj s3 p (BP x3 (.slice a3 n3 c3) (.slice b3 m3 d3) mi)=s4 at st
 have n4:s4.next=s3.next:=by rw[← hs4];rfl
 have g4:s4.heap.get p=some (BP x3 (.slice a3 n3 c3) (.slice b3 m3 d3) mi):=by rw[← hs4,Wv]
 have f4:∀j,j≠p→s4.heap.get j=s3.heap.get j:=fun j hj=>by rw[← hs4,Ww _ hj]
 have fx4:Fx p mi s s4:=⟨by have:=o13.1;omega,fun j hj h1 _=>(f4 j h1).trans (o13.2 j hj)⟩
 have k1:s4.heap.get s.next=some (R 30 0 false [.bool x9,.slice a9 n9 cc9,.slice b9 m9 d9,.slice av vs.length capv,.slice ac cs.length capc]):=by rw[f4 _ (by omega),o3.2 _ (by omega),o2.2 _ (by omega)];exact g1
 have k2:s4.heap.get (s.next+1)=some (BQ x8 (.slice a8 n8 c8) (.slice b8 m8 d8)):=by rw[f4 _ (by omega),o3.2 _ (by omega),o2.2 _ (by omega)];exact g2
 have hmp:mi≠p:=by rintro rfl;have:=hP.map.obj;rw[gp]at this;cases this
 have hu4:∀j,j<s3.next→UL s3 j→s4.heap.get j=s3.heap.get j:=fun j _ hj=>f4 j (Ey gp3 (by decide) hj)
 have hq4:QH (c+C * o) (k+(kl+ko+1)):=(hP.ch.add hqm).le (by omega)
 have hP4:EA b s4 (.agg [.bool x3,.slice a3 n3 c3,.slice b3 m3 d3]) mi (c+C * o) T (k+(kl+ko+1)):=
  ⟨(r3.keepS (oU n4.symm) hu4).mono (by have:=o12.1;omega),hq4,(hP3.map.keepS (oU n4.symm) (f4 mi hmp) hu4).le (by omega),fun t ht=>((hP2.map.ent t ht).1.dj r3 (nl _)).symm⟩
 have l1:=AX (P:=Tryz.prog) (t:=28) (o:=0+4) Nx k1 rfl
 have l2:=AX (P:=Tryz.prog) (t:=27) (o:=0+3) Nw k1 rfl
 have hcc4:Fz 3 s4 ac capc cs.length:=by
  obtain⟨_,_,_,_,_,_,_,av',capv',ac',capc',_,hv9',_,_,_,_,_,hcc'⟩:=hL s4 fx4
  rw[hv9]at hv9'
  injection hv9' with e
  injection e with _ e
  injection e with _ e
  injection e with _ e
  injection e with _ e
  injection e with e _
  injection e with e1 _ e2
  subst e1;subst e2
  exact hcc'
 have ct:=OT (t:=28) Tryz.underlying28 Ar (by decide) hcc4 (show M≤cs.length by omega)
 have mm:=Kt cs.length vs.length
 rw[hM]at mm
 simp only[dF,HQ,M8,st,l1,l2,Ij,HL,AU Tryz.underlying28,AU Tryz.underlying27,mm,ct,Xx,Xz,Qa,Qb,Qc,Qd,Qe,Qf,Qg,Qh,Qi,Qj,Qk,Ql,Qm,Qn,true_and,and_true,Qo,Qp,Qq,Qr,Qs,Qt,Qu,Qv,Qw,Qx,Qy,Qz,Ra,Rb,Rc,Rd,Re,Rf,Rg,Rh,Ri,Rj,Rk,Rm,Rn,Ro,Rp,Rq,Rs,Ya,Yb,Yc,Rt,Ru,Za,Yd,Ye,Rx,Ry,Rz,Wa,Wb,Wc,Wd]
 refine TN hE (s:=s4) (b:=b) (p:=p) (mi:=mi) (q:=s.next) (C:=C) (o:=o) (vs:=vs) (cs:=cs) (kl:=kl) (ko:=ko) (k0:=k+(kl+ko+1)) (c':=c+C * o) (M:=M) hM.symm hv9 hv8 (fun S f=>hL S (fx4.trans f)) (fun S f=>hO S (fx4.trans f)) ?_ (by omega) hkl hko (T0:=T) (T':=T) (hlc:=rfl) (by omega)
  (fun S T' y5 y6 y9 y10 f gq hPq hT=>?_) M 0 s4 T _ _ _ (by omega) (Fx.refl _ _ _) g4 k1 k2 (by omega) (by omega) (by omega) (by rw[pO,oM];exact hP4) fun T' h=>h
 ·rw[hs1'];omega
 ·simp only[if_true,Qa,Qb,Qc,Qd,Qe,Qf,Qg,Qh,Qi,Qj,Qk,Ql,Qm,Qn,true_and,and_true,Qo,Qp,Qq,Qr,Qs,Qt,Qu,Qv,Qw,Qx,Qy,Qz,Ra,Rb,Rc,Rd,Re,Rf,Rg,Rh,Ri,Rj,Rk,Rm,Rn,Ro,Rp,Rq,Rs,Ya,Yb,Yc,Rt,Ru,Za,Yd,Ye,Rx,Ry,Rz,Wa,Wb,Wc,Wd]
  refine hK _ S _ _ _ _ _ _ _ T' (fx4.trans f) gq (hPq.le ?_) hT
  rw[hs1'];omega
theorem YO(hE:GoodN E){vl:AV}{C:Rat}{vs:List Int}{cs:List Rat}{kl:Nat}(hl:LI s vl C vs cs kl)(hkl:1≤kl)(hb:2 * (1+(min cs.length vs.length+2) * (kl+2))+1≤1000000000){K:AV→AD→Prop}
  (hK:∀s' v mi T,Ac s.next s s'→PV s.next s' v mi C T (1+(min cs.length vs.length+1) * (kl+2))→Ed 1 vs cs [] T→K v s'):WF E 32 [vl] K s:=by
 have hl0:=hl
 obtain⟨x9,a9,n9,cc9,b9,m9,d9,av,capv,ac,capc,cells,hv9,_⟩:=hl0
 have hcl:vl.cells=[.bool x9,.slice a9 n9 cc9,.slice b9 m9 d9,.slice av vs.length capv,.slice ac cs.length capc]:=by rw[hv9];rfl
 refine hE.go ig (by decide) rfl ?_
 obtain⟨n2,o1,g1,g2⟩:=Eu s (R 30 0 false [.bool x9,.slice a9 n9 cc9,.slice b9 m9 d9,.slice av vs.length capv,.slice ac cs.length capc]) (R 56 0 false [.bool false,.slice none 0 (some 0),.slice none 0 (some 0),.map none])
 simp only[ms,cZ,ce,Wz,hcl,D2,Xb,Aq,Qa,Qb,Qc,Qd,Qe,Qf,Qg,Qh,Qi,Qj,Qk,Ql,Qm,Qn,true_and,and_true,Qo,Qp,Qq,Qr,Qs,Qt,Qu,Qv,Qw,Qx,Qy,Qz,Ra,Rb,Rc,Rd,Re,Rf,Rg,Rh,Ri,Rj,Rk,Rm,Rn,Ro,Rp,Rq,Rs,Ya,Yb,Yc,Rt,Ru,Za,Yd,Ye,Rx,Ry,Rz,Wa,Wb,Wc,Wd]
 generalize newObj (newObj s (R 30 0 false [.bool x9,.slice a9 n9 cc9,.slice b9 m9 d9,.slice av vs.length capv,.slice ac cs.length capc])) (R 56 0 false [.bool false,.slice none 0 (some 0),.slice none 0 (some 0),.map none])=s1 at *
 refine Kh hE fun s2 v2 mi o2 r2=>?_
 have h2:=o2.1
 obtain⟨x,a,n,ca,d,m,cd,rfl,hP⟩:=r2
 obtain⟨n3,o3,g3⟩:=Bj s2 (R 56 0 false [.bool false,.slice none 0 (some 0),.slice none 0 (some 0),.map none])
 have st:=Aj (P:=Tryz.prog) (t:=56) (cs:=[.bool x,.slice a n ca,.slice d m cd,.map (some mi)]) Hh g3 rfl rfl rfl (by simp)
 have o12:=o1.trans (o2.mono o1.1)
 simp only[D2,Xb,st,Xx,Xz,Qa,Qb,Qc,Qd,Qe,Qf,Qg,Qh,Qi,Qj,Qk,Ql,Qm,Qn,true_and,and_true,Qo,Qp,Qq,Qr,Qs,Qt,Qu,Qv,Qw,Qx,Qy,Qz,Ra,Rb,Rc,Rd,Re,Rf,Rg,Rh,Ri,Rj,Rk,Rm,Rn,Ro,Rp,Rq,Rs,Ya,Yb,Yc,Rt,Ru,Za,Yd,Ye,Rx,Ry,Rz,Wa,Wb,Wc,Wd]
 generalize hs4:setObj (newObj s2 (R 56 0 false [.bool false,.slice none 0 (some 0),.slice none 0 (some 0),.map none])) s2.next (R 56 0 false [.bool x,.slice a n ca,.slice d m cd,.map (some mi)])=s4
 have o24:Ac s2.next s2 s4:=by rw[← hs4];exact o3.set (nl _) _
 have n4:s4.next=s2.next+1:=by rw[← hs4];exact n3
 have g4:s4.heap.get s2.next=some (BP x (.slice a n ca) (.slice d m cd) mi):=by rw[← hs4,Wv]
 have k1:s4.heap.get s.next=some (R 30 0 false [.bool x9,.slice a9 n9 cc9,.slice b9 m9 d9,.slice av vs.length capv,.slice ac cs.length capc]):=by rw[o24.2 _ (by omega),o2.2 _ (by omega)];exact g1
 have o14:=o12.trans (o24.mono o12.1)
 have l1:=AE (P:=Tryz.prog) (t:=30) DD Cs k1 rfl
 simp only[cg,l1,Qa,Qb,Qc,Qd,Qe,Qf,Qg,Qh,Qi,Qj,Qk,Ql,Qm,Qn,true_and,and_true,Qo,Qp,Qq,Qr,Qs,Qt,Qu,Qv,Qw,Qx,Qy,Qz,Ra,Rb,Rc,Rd,Re,Rf,Rg,Rh,Ri,Rj,Rk,Rm,Rn,Ro,Rp,Rq,Rs,Ya,Yb,Yc,Rt,Ru,Za,Yd,Ye,Rx,Ry,Rz,Wa,Wb,Wc,Wd]
 refine FL hE (n:=1) (.inr (.inl rfl)) fun s5 v5 o5 r5=>?_
 have h5:=o5.1
 have k5:=(o5.2 s.next (by omega)).trans k1
 refine⟨⟨Aa (by simp only[Qa,Qb,Qc,Qd,Qe,Qf,Qg,Qh,Qi,Qj,Qk,Ql,Qm,Qn,true_and,and_true,Qo,Qp,Qq,Qr,Qs,Qt,Qu,Qv,Qw,Qx,Qy,Qz,Ra,Rb,Rc,Rd,Re,Rf,Rg,Rh,Ri,Rj,Rk,Rm,Rn,Ro,Rp,Rq,Rs,Ya,Yb,Yc,Rt,Ru,Za,Yd,Ye,Rx,Ry,Rz,Wa,Wb,Wc,Wd];exact AE DD Cs k5 rfl) (Ei ..),trivial⟩,?_⟩
 simp only[Qa,Qb,Qc,Qd,Qe,Qf,Qg,Qh,Qi,Qj,Qk,Ql,Qm,Qn,true_and,and_true,Qo,Qp,Qq,Qr,Qs,Qt,Qu,Qv,Qw,Qx,Qy,Qz,Ra,Rb,Rc,Rd,Re,Rf,Rg,Rh,Ri,Rj,Rk,Rm,Rn,Ro,Rp,Rq,Rs,Ya,Yb,Yc,Rt,Ru,Za,Yd,Ye,Rx,Ry,Rz,Wa,Wb,Wc,Wd]
 have o15:=o14.trans (o5.mono o14.1)
 have g5:=(o5.2 s2.next (by omega)).trans g4
 have hP5:=hP.old (o24.trans (o5.mono o24.1))
 have hmlo:=hP.map.lo
 have hone:QH ((1:Int):Rat) 1:=⟨by decide,by decide⟩
 have hlx:=hl.old o15
 rw[hv9]at hlx
 refine Hl hE (b:=s.next) (p:=s2.next) (kl:=kl) (ko:=1) (k:=1) g5 (by omega) (by omega) (hP5.mono (by omega)) (fun S f=>by
   have:=hl.old (o15.trans ((f.old (b:=s.next) (by omega) (by omega) (by omega))))
   rw[hv9]at this
   exact this) (fun S f=>(r5.fx g5 (by decide) hP5.map.obj f).qi hone) (by omega) hkl (by omega) hb fun r s6 x' a' n' c'' d' m' e' T' f6 g6 hP6 hT=>?_
 have l6:=AE (P:=Tryz.prog) (t:=56) J5 Hh g6 rfl
 have f7:s6.heap.get (s.next+1)=some (R 56 0 false [.bool false,.slice none 0 (some 0),.slice none 0 (some 0),.map none]):=by
  rw[f6.2 _ (by omega) (by omega) (by omega),o5.2 _ (by omega),o24.2 _ (by omega),o2.2 _ (by omega)];exact g2
 have st7:=Aj (P:=Tryz.prog) (t:=56) (cs:=[.bool x',.slice a' n' c'',.slice d' m' e',.map (some mi)]) Hh f7 rfl rfl rfl (by simp)
 have ld7:=AE (P:=Tryz.prog) (t:=56) (s:=setObj s6 (s.next+1) (R 56 0 false [.bool x',.slice a' n' c'',.slice d' m' e',.map (some mi)])) (i:=s.next+1) J5 Hh (Wv _ _ _) rfl
 simp only[ck,l6,st7,ld7,AL,Xx,Xz,Qa,Qb,Qc,Qd,Qe,Qf,Qg,Qh,Qi,Qj,Qk,Ql,Qm,Qn,true_and,and_true,Qo,Qp,Qq,Qr,Qs,Qt,Qu,Qv,Qw,Qx,Qy,Qz,Ra,Rb,Rc,Rd,Re,Rf,Rg,Rh,Ri,Rj,Rk,Rm,Rn,Ro,Rp,Rq,Rs,Ya,Yb,Yc,Rt,Ru,Za,Yd,Ye,Rx,Ry,Rz,Wa,Wb,Wc,Wd]
 have e1:(0:Rat)+C * ((1:Int):Rat)=C:=by rw[Rat.zero_add];exact Rat.mul_one C
 rw[e1]at hP6
 have h6:=f6.1
 refine hK _ _ mi T' ⟨?_,fun j hj=>?_⟩ ⟨_,_,_,_,_,_,_,rfl,hP6.set f7 (by decide) _⟩ hT
 ·show s.next≤s6.next;omega
 ·rw[Ww _ (by omega),f6.2 j (by omega) (by omega) (by omega),o15.2 j hj]
end
structure C5(E:CP):Prop extends GoodN E where
 srt:∀ (xs:List AV) (s:AD),E.nat 78 xs s=FQ 121 3 3 s xs
 wk:∀s:AD,E.nat 15 [] s=some (.bool true,s)
def M5(T:List Br)(ks:List Int):List (Int×Rat):=(ks.map fun n=>(n,CG n T)).filter fun p=>decide (p.2≠0)
def C8(T:List Br):List (Int×Rat):=M5 T (D6 (Ay T))
theorem Lx(T:List Br)(ks:List Int)(n:Int):M5 T (ks++[n])=M5 T ks++(if CG n T=0 then []else [(n,CG n T)]):=by
 unfold M5
 rw[List.map_append,List.filter_append]
 congr 1
 by_cases h:CG n T=0
 ·rw[if_pos h];simp[h]
 ·rw[if_neg h];simp[h]
theorem MB:∀T:List Br,JJ (Fu T)=some (Ay T)
 | []=>rfl
 | t::T=>by
  show(JJ (Fu T)).bind (fun r=>some (t.1::r))=some (t.1::Ay T)
  rw[MB T];rfl
theorem Gh(l:List Int):(D6 l).length=l.length:=(DG l).length_eq
theorem Tf{l:List Int}{x:Int}:x∈D6 l↔x∈l:=(DG l).mem_iff
theorem S5(q:Rat):By q.num≠0↔q≠0:=by
 constructor
 ·rintro h rfl;exact h rfl
 ·intro h h2
  rcases Bz q.num with⟨_,e⟩ | ⟨e,_⟩ | ⟨_,e⟩
  ·rw[e]at h2;exact absurd h2 (by decide)
  ·exact h (Rat.num_eq_zero.1 e)
  ·rw[e]at h2;exact absurd h2 (by decide)
section
variable{E:CP}{s:AD}
theorem UO(hE:GoodN E){x:Bool}{a d:Option (Nat×Nat)}{n m mi:Nat}{ca cd:Option Nat}{K:AV→AD→Prop}
  (hK:∀s',s'.next=s.next+1→Ac s.next s s'→s'.heap.get s.next=some (BP x (.slice a n ca) (.slice d m cd) mi)→K (.func 77 [] [.ptr (some (s.next,0))]) s'):WF E 41 [.agg [.bool x,.slice a n ca,.slice d m cd,.map (some mi)]] K s:=by
 refine hE.go ik (by decide) rfl ?_
 obtain⟨n1,o1,g1⟩:=Bj s (BP x (.slice a n ca) (.slice d m cd) mi)
 simp only[my,dJ,dK,Wz,Xg,Xb,pr,pC,Qa,Qb,Qc,Qd,Qe,Qf,Qg,Qh,Qi,Qj,Qk,Ql,Qm,Qn,true_and,and_true,Qo,Qp,Qq,Qr,Qs,Qt,Qu,Qv,Qw,Qx,Qy,Qz,Ra,Rb,Rc,Rd,Re,Rf,Rg,Rh,Ri,Rj,Rk,Rm,Rn,Ro,Rp,Rq,Rs,Ya,Yb,Yc,Rt,Ru,Za,Yd,Ye,Rx,Ry,Rz,Wa,Wb,Wc,Wd]
 exact hK _ n1 o1 g1
theorem R7      (hE : C5    E) {sA : AD}  {pb l b mi k : Nat} {T : List Br}  (hPA : F5   b sA mi T k) (hk : k ≤ 1000000000) (hTl : T.length ≤ 1000000) (ho : Ac  sA.next sA s) {x : Bool} {a1 d1 : Option (Nat × Nat)} {n1 m1 : Nat} {c1 e1 : Option Nat}
    (gp:s.heap.get pb=some (BP x (.slice a1 n1 c1) (.slice d1 m1 e1) mi)) (hpb:pb<s.next) {O0:List Nat} (hO0:pb ∉ O0) (hOl:∀j∈O0,sA.next≤j) (LI:List (Int×Rat)→List Nat→AD→Prop)
    (hstab:∀done O S S',LI done O S→Ac S.next S S'→LI done O S') (hOlt:∀done O S,LI done O S→∀j∈O,j<S.next)
    (hround:∀ (done:List (Int×Rat)) (n:Int) (q:Rat) (vq:AV) (O:List Nat) (S:AD) (K:AV→AD→Prop),LI done O S→Ac sA.next sA S→q≠0→(n,q,vq)∈T→done.length≤T.length →
      (∀S' O',LI (done++[(n,q)]) O' S'→S.next≤S'.next→(∀j,j<S.next→j ∉ O→S'.heap.get j=S.heap.get j)→(∀j∈O',j∈O∨S.next≤j)→K (.bool true) S')→WR E l [iv n,vq] K S)
    {K:AV→AD→Prop} (h0:LI [] O0 s) (hend:∀v S O,Ac sA.next sA S→s.next≤S.next→(∀j,j<s.next→j ∉ O0→S.heap.get j=s.heap.get j)→LI (C8 T) O S→K v S):WF E 77 [.yield l,.ptr (some (pb,0))] K s:=by
  refine hE.go jH (by decide) rfl ?_
  have l1:=AX (P:=Tryz.prog) (t:=54) (o:=0+3) Pn gp rfl
  simp only[nW,fQ,l1,Ik,Qa,Qb,Qc,Qd,Qe,Qf,Qg,Qh,Qi,Qj,Qk,Ql,Qm,Qn,true_and,and_true,Qo,Qp,Qq,Qr,Qs,Qt,Qu,Qv,Qw,Qx,Qy,Qz,Ra,Rb,Rc,Rd,Re,Rf,Rg,Rh,Ri,Rj,Rk,Rm,Rn,Ro,Rp,Rq,Rs,Ya,Yb,Yc,Rt,Ru,Za,Yd,Ye,Rx,Ry,Rz,Wa,Wb,Wc,Wd]
  refine hE.go jI (by decide) rfl ?_
  obtain⟨n2,o2,g2⟩:=Bj s (R 54 0 false [.map (some mi)])
  simp only[nX,fU,fV,Wz,Xk,Xb,pr,pC,Qa,Qb,Qc,Qd,Qe,Qf,Qg,Qh,Qi,Qj,Qk,Ql,Qm,Qn,true_and,and_true,Qo,Qp,Qq,Qr,Qs,Qt,Qu,Qv,Qw,Qx,Qy,Qz,Ra,Rb,Rc,Rd,Re,Rf,Rg,Rh,Ri,Rj,Rk,Rm,Rn,Ro,Rp,Rq,Rs,Ya,Yb,Yc,Rt,Ru,Za,Yd,Ye,Rx,Ry,Rz,Wa,Wb,Wc,Wd]
  generalize newObj s (R 54 0 false [.map (some mi)])=s1 at *
  have o01:Ac sA.next sA s1:=ho.trans (o2.mono ho.1)
  have hP1:=hPA.old o01
  generalize hks:D6 (Ay T)=ks
  have hksl:ks.length=T.length:=by rw[← hks,Gh];simp[Ay]
  have key:∀ (kv:AV) (s2:AD),Ac s1.next s1 s2→(∃a cap,kv=.slice a ks.length cap∧AZ s2.next s2 a (ks.map iv)∧∀i o,a=some (i,o)→s1.next≤i∧i<s2.next) →
      WC E none (.loop JB) (fun r=>r.exit=.exit 0∧r.marks=[]∧∃O,Ac sA.next sA r.st∧s.next≤r.st.next∧(∀j,j<s.next→j ∉ O0→r.st.heap.get j=s.heap.get j)∧LI (C8 T) O r.st) [.yield l,.ptr (some (pb,0)),BD,BD,kv,iv (ks.length:Int),iv 0,BD,BD] [] s2:=by
    rintro kv s2 o12 ⟨a,cap,rfl,hcell,haid⟩
    have hloop:∀ (m i:Nat) (S:AD) (O:List Nat) (x2 x3 x7 x8:AV),i+m=ks.length→Ac sA.next sA S→s2.next≤S.next→(∀j,j<s2.next→j ∉ O0→S.heap.get j=s2.heap.get j)→(∀j∈O,j∈O0∨s2.next≤j)→LI (M5 T (ks.take i)) O S →
        WC E none (.loop JB) (fun r=>r.exit=.exit 0∧r.marks=[]∧∃O,Ac sA.next sA r.st∧s.next≤r.st.next∧(∀j,j<s.next→j ∉ O0→r.st.heap.get j=s.heap.get j)∧LI (C8 T) O r.st) [.yield l,.ptr (some (pb,0)),x2,x3,.slice a ks.length cap,iv (ks.length:Int),iv (i:Int),x7,x8] [] S:=by
      intro m
      induction m with
      | zero =>
        intro i S O x2 x3 x7 x8 him hoS hnS hfS hOS hLI
        have e:i=ks.length:=by omega
        subst e
        have dd:decide ((ks.length:Int)<(ks.length:Int))=false:=decide_eq_false (by omega)
        rw[List.take_length]at hLI
        refine WC.loop' ?_
        simp only[JB,W6,Rx,dd,Qa,Qb,Qc,Qd,Qe,Qf,Qg,Qh,Qi,Qj,Qk,Ql,Qm,Qn,true_and,and_true,Qo,Qp,Qq,Qr,Qs,Qt,Qu,Qv,Qw,Qx,Qy,Qz,Ra,Rb,Rc,Rd,Re,Rf,Rg,Rh,Ri,Rj,Rk,Rm,Rn,Ro,Rp,Rq,Rs,Ya,Yb,Yc,Rt,Ru,Za,Yd,Ye,Rx,Ry,Rz,Wa,Wb,Wc,Wd]
        refine⟨O,hoS,by have:=o2.1;have:=o12.1;omega,fun j hj hjO=>?_,by unfold C8;rw[hks];exact hLI⟩
        rw[hfS j (by have:=o12.1;omega) hjO,o12.2 j (by omega),o2.2 j hj]
      | succ m ih =>
        intro i S O x2 x3 x7 x8 him hoS hnS hfS hOS hLI
        have hi:i<ks.length:=by omega
        have hkn:ks[i]? = some ks[i]:=nr hi
        generalize ks[i]=n at hkn
        have hnk:n∈Ay T:=by rw[← Tf,hks];exact oP hkn
        have hgt:∃p,EQ n T=some p:=by
          cases h:EQ n T with
          | none=>exact absurd hnk (In.1 h)
          | some p=>exact⟨p,rfl⟩
        obtain⟨⟨q,vq⟩,hgq⟩:=hgt
        have hmem:=FE hgq
        have hvq:CG n T=q:=by unfold CG;rw[hgq]
        have hPS:=hPA.old hoS
        obtain⟨hq1,hq2,hq3⟩:=hPS.ent _ hmem
        simp only at hq1 hq2 hq3
        have dd:decide ((i:Int)<(ks.length:Int))=true:=decide_eq_true (by omega)
        obtain⟨i0,o0,rfl,hi0,hld⟩:=En hcell hkn
        have hid:=haid i0 o0 rfl
        have hi0O:i0 ∉ O0:=fun h=>by have:=hOlt _ _ _ h0 i0 h;have:=o2.1;omega
        have ix:=An (cap:=cap) (i:=i0) (o:=o0) Tryz.underlying27 S9 hi
        have hld':AC Tryz.prog S 3 (.ptr (some (i0,o0+i * 1)))=some (iv n):=by
          rw[We j4]at hld ⊢
          rw[hfS i0 hid.2 hi0O];exact hld
        have gpS:S.heap.get pb=some (BP x (.slice a1 n1 c1) (.slice d1 m1 e1) mi):=by
          rw[hfS pb (by have:=o12.1;omega) hO0,o12.2 pb (by omega),o2.2 pb hpb];exact gp
        have l1:=AX (P:=Tryz.prog) (t:=54) (o:=0+3) Pn gpS rfl
        have lk:=Tm hPS.obj hq3 hgq
        simp only at lk
        obtain⟨xx,aa,nn,kk,bb,mm,ee,hce⟩:=hq1.shape
        obtain⟨n3,o3,g3⟩:=Bj S ZQ
        have st:=Aj (P:=Tryz.prog) (t:=26) (cs:=[.bool xx,.slice aa nn kk,.slice bb mm ee]) Ar g3 rfl rfl rfl (by simp)
        rw[← hce]at st
        have hTb:ks.length≤1000000:=by omega
        have e17:=Bh Tryz.prog 3 (i:Int) 1 ⟨by omega,by omega⟩
        have e17':((i:Int)+1)=((i+1:Nat):Int):=by omega
        refine WC.loop' ?_
        generalize hW:WC E none (Af.loop JB) _=WW
        simp only[JB,W6,fR,fS,Rx,dd,ix,hld',l1,lk,Ik,BU,Xb,st,Xx,Xz,Qa,Qb,Qc,Qd,Qe,Qf,Qg,Qh,Qi,Qj,Qk,Ql,Qm,Qn,true_and,and_true,Qo,Qp,Qq,Qr,Qs,Qt,Qu,Qv,Qw,Qx,Qy,Qz,Ra,Rb,Rc,Rd,Re,Rf,Rg,Rh,Ri,Rj,Rk,Rm,Rn,Ro,Rp,Rq,Rs,Ya,Yb,Yc,Rt,Ru,Za,Yd,Ye,Rx,Ry,Rz,Wa,Wb,Wc,Wd]
        generalize hs3:setObj (newObj S ZQ) S.next (R 26 0 false [.bool xx,.slice aa nn kk,.slice bb mm ee])=s3 at *
        have o13:Ac S.next S s3:=by rw[← hs3];exact o3.set (nl _) _
        have n3':s3.next=S.next+1:=by rw[← hs3];exact n3
        have g3':s3.heap.get S.next=some (R 26 0 false [.bool xx,.slice aa nn kk,.slice bb mm ee]):=by rw[← hs3,Wv]
        have l3:=AE (P:=Tryz.prog) (t:=26) A9 Ar g3' rfl
        rw[← hce]at l3
        simp only[fT,l3,Qa,Qb,Qc,Qd,Qe,Qf,Qg,Qh,Qi,Qj,Qk,Ql,Qm,Qn,true_and,and_true,Qo,Qp,Qq,Qr,Qs,Qt,Qu,Qv,Qw,Qx,Qy,Qz,Ra,Rb,Rc,Rd,Re,Rf,Rg,Rh,Ri,Rj,Rk,Rm,Rn,Ro,Rp,Rq,Rs,Ya,Yb,Yc,Rt,Ru,Za,Yd,Ye,Rx,Ry,Rz,Wa,Wb,Wc,Wd]
        refine Yg hE.toGoodN ((hq1.old o13).qi hq2) hk fun s4 o4=>?_
        have h4:=o4.1
        have o34:Ac S.next S s4:=o13.trans (o4.mono o13.1)
        have hLI4:=hstab _ _ _ s4 hLI o34
        have o04:Ac sA.next sA s4:=hoS.trans (o34.mono hoS.1)
        have htk:ks.take (i+1)=ks.take i++[n]:=by rw[List.take_add_one,hkn];rfl
        by_cases hz:q=0
        · have dz:decide (By q.num≠0)=false:=decide_eq_false (fun h=>(S5 q).1 h hz)
          simp only[Wc,dz,Rt,W7,e17,e17',Qa,Qb,Qc,Qd,Qe,Qf,Qg,Qh,Qi,Qj,Qk,Ql,Qm,Qn,true_and,and_true,Qo,Qp,Qq,Qr,Qs,Qt,Qu,Qv,Qw,Qx,Qy,Qz,Ra,Rb,Rc,Rd,Re,Rf,Rg,Rh,Ri,Rj,Rk,Rm,Rn,Ro,Rp,Rq,Rs,Ya,Yb,Yc,Rt,Ru,Za,Yd,Ye,Rx,Ry,Rz,Wa,Wb,Wc,Wd]
          rw[← hW]
          refine ih (i+1) s4 O _ _ _ _ (by omega) o04 (by omega) (fun j hj hjO=>?_) hOS ?_
          · rw[o34.2 j (by omega),hfS j hj hjO]
          · rw[htk,Lx,hvq,if_pos hz,pz];exact hLI4
        · have dz : decide (By   q.num ≠ 0) = true := decide_eq_true ((S5      q).2 hz)
          have l4:=AE (P:=Tryz.prog) (t:=26) A9 Ar ((o4.2 S.next (by omega)).trans g3') rfl
          rw[← hce]at l4
          simp only[Wc,dz,l4,Qa,Qb,Qc,Qd,Qe,Qf,Qg,Qh,Qi,Qj,Qk,Ql,Qm,Qn,true_and,and_true,Qo,Qp,Qq,Qr,Qs,Qt,Qu,Qv,Qw,Qx,Qy,Qz,Ra,Rb,Rc,Rd,Re,Rf,Rg,Rh,Ri,Rj,Rk,Rm,Rn,Ro,Rp,Rq,Rs,Ya,Yb,Yc,Rt,Ru,Za,Yd,Ye,Rx,Ry,Rz,Wa,Wb,Wc,Wd]
          refine hround _ n q vq O s4 _ hLI4 o04 hz hmem (by
            unfold M5
            refine ny (List.length_filter_le _ _) ?_
            rw[py,oO];omega) fun S' O' hLI' hn' hf' hO'=>?_
          simp only[Wd,Bool.not_true,Rt,W7,e17,e17',Qa,Qb,Qc,Qd,Qe,Qf,Qg,Qh,Qi,Qj,Qk,Ql,Qm,Qn,true_and,and_true,Qo,Qp,Qq,Qr,Qs,Qt,Qu,Qv,Qw,Qx,Qy,Qz,Ra,Rb,Rc,Rd,Re,Rf,Rg,Rh,Ri,Rj,Rk,Rm,Rn,Ro,Rp,Rq,Rs,Ya,Yb,Yc,Rt,Ru,Za,Yd,Ye,Rx,Ry,Rz,Wa,Wb,Wc,Wd]
          rw[← hW]
          refine ih (i+1) S' O' _ _ _ _ (by omega) ⟨by have:=o04.1;omega,fun j hj=>?_⟩ (by omega) (fun j hj hjO=>?_) (fun j hj=>?_) ?_
          · have hjO:j ∉ O:=fun h=>by
              rcases hOS j h with h | h
              · have:=hOl j h;omega
              · have:=o01.1;have:=o12.1;omega
            rw[hf' j (by have:=o04.1;omega) hjO,o04.2 j hj]
          · have hjO':j ∉ O:=fun h=>by
              rcases hOS j h with h | h
              · exact hjO h
              · omega
            rw[hf' j (by omega) hjO',o34.2 j (by omega),hfS j hj hjO]
          · rcases hO' j hj with h | h
            · exact hOS j h
            · exact .inr (by omega)
          · rw[htk,Lx,hvq,if_neg hz];exact hLI'
    exact hloop ks.length 0 s2 O0 _ _ _ _ (by omega) (o01.trans (o12.mono o01.1)) (nl _) (fun _ _ _=>rfl) (fun j hj=>.inl hj) (hstab _ _ _ s2 h0 (o2.trans (o12.mono o2.1)))
  have fin:∀ (kv:AV) (s2:AD),WC E none (.loop JB) (fun r=>r.exit=.exit 0∧r.marks=[]∧∃O,Ac sA.next sA r.st∧s.next≤r.st.next∧(∀j,j<s.next→j ∉ O0→r.st.heap.get j=s.heap.get j)∧LI (C8 T) O r.st) [.yield l,.ptr (some (pb,0)),BD,BD,kv,iv (ks.length:Int),iv 0,BD,BD] [] s2 →
      WC E none (.loop JB) (EK 0 (Ends Tryz.prog [] K)) [.yield l,.ptr (some (pb,0)),BD,BD,kv,iv (ks.length:Int),iv 0,BD,BD] [] s2:=fun kv s2 h=>by
    refine h.mono ?_
    rintro⟨e,v,mm,s'⟩ ⟨q1,q0,O,q2,q3,q4,q5⟩
    simp only at q1 q0 q2 q3 q4 q5
    subst q0
    subst q1
    simp only[if_true,Qa,Qb,Qc,Qd,Qe,Qf,Qg,Qh,Qi,Qj,Qk,Ql,Qm,Qn,true_and,and_true,Qo,Qp,Qq,Qr,Qs,Qt,Qu,Qv,Qw,Qx,Qy,Qz,Ra,Rb,Rc,Rd,Re,Rf,Rg,Rh,Ri,Rj,Rk,Rm,Rn,Ro,Rp,Rq,Rs,Ya,Yb,Yc,Rt,Ru,Za,Yd,Ye,Rx,Ry,Rz,Wa,Wb,Wc,Wd]
    exact hend _ _ O q2 q3 q4 q5
  have hrow:rowAt s1 s.next=some { elem:=54,sz:=0,n:=1,c:=RE [.map (some mi)],spare:=false,mode:=.own,par:=none,bytes:=true }:=by unfold rowAt;rw[g2];rfl
  have hl1:CW s1 s.next 0=some (.map (some mi)):=by rw[Jr,g2,Wn];rfl
  have hmat:GN s1 3 mi=some (Fu T):=by unfold GN;rw[hP1.obj];rfl
  have hsm:FQ 121 3 3 s1 [.func 121 [] [.ptr (some (s.next,0))]]=Gu 3 (Ay T) s1:=by
    unfold FQ
    simp only[Eg,Bool.and_true,hrow,hl1,hmat,MB,Option.bind_some,Xf]
  cases hkt:Ay T with
  | nil =>
    have hk0:ks=[]:=by rw[← hks,hkt];rfl
    have hn:E.nat 78 [.func 121 [] [.ptr (some (s.next,0))]] s1=some (.slice none 0 (some 0),s1):=by rw[hE.srt,hsm,hkt];rfl
    refine WF.nat hn ?_
    simp only[AU Tryz.underlying27,Qa,Qb,Qc,Qd,Qe,Qf,Qg,Qh,Qi,Qj,Qk,Ql,Qm,Qn,true_and,and_true,Qo,Qp,Qq,Qr,Qs,Qt,Qu,Qv,Qw,Qx,Qy,Qz,Ra,Rb,Rc,Rd,Re,Rf,Rg,Rh,Ri,Rj,Rk,Rm,Rn,Ro,Rp,Rq,Rs,Ya,Yb,Yc,Rt,Ru,Za,Yd,Ye,Rx,Ry,Rz,Wa,Wb,Wc,Wd]
    have:=fin (.slice none ks.length (some 0)) s1 (key _ s1 (Ac.refl _ _) ⟨none,some 0,rfl,by rw[hk0];exact AZ.nil,fun i o e=>by cases e⟩)
    rw[hk0]at this
    exact this
  | cons k0 tl =>
    have hlen:(k0::tl).length=ks.length:=by rw[← hkt,← hks,Gh]
    have hr:CL 3 1 (AS.fill .leaf 0 ((D6 (k0::tl)).map Tg)) (k0::tl).length none true=R 3 1 true (ks.map iv):=by
      rw[← hkt,hks]
      have e:(Ay T).length=(ks.map Tg).length:=by rw[py,← hks,Gh]
      rw[e]
      exact QS 3 1 (ks.map Tg)
    have hn:E.nat 78 [.func 121 [] [.ptr (some (s.next,0))]] s1=some (.slice (some (s1.next,0)) ks.length none,newObj s1 (R 3 1 true (ks.map iv))):=by
      rw[hE.srt,hsm,hkt]
      show AJ (Nat.ble (k0::tl).length 1000000) (some (AV.slice (some (s1.next,0)) (k0::tl).length none,newObj s1 (CL 3 1 (AS.fill .leaf 0 ((D6 (k0::tl)).map Tg)) (k0::tl).length none true)))=_
      rw[hr,hlen,CZ (show ks.length≤1000000 by omega)]
      rfl
    refine WF.nat hn ?_
    simp only[AU Tryz.underlying27,Qa,Qb,Qc,Qd,Qe,Qf,Qg,Qh,Qi,Qj,Qk,Ql,Qm,Qn,true_and,and_true,Qo,Qp,Qq,Qr,Qs,Qt,Qu,Qv,Qw,Qx,Qy,Qz,Ra,Rb,Rc,Rd,Re,Rf,Rg,Rh,Ri,Rj,Rk,Rm,Rn,Ro,Rp,Rq,Rs,Ya,Yb,Yc,Rt,Ru,Za,Yd,Ye,Rx,Ry,Rz,Wa,Wb,Wc,Wd]
    obtain⟨n5,o5,g5⟩:=Bj s1 (R 3 1 true (ks.map iv))
    exact fin (.slice (some (s1.next,0)) ks.length none) _ (key _ _ o5 ⟨some (s1.next,0),none,rfl,Ew g5 (by omega),fun i o e=>by
      injection e with e
      injection e with e1 e2
      subst e1;subst e2
      exact⟨nl _,by omega⟩⟩)
end
end
end Go.Proofs.YtjnkfbpadpmakaaGreatDoor.Am
set_option linter.unusedVariables false
namespace Go.Proofs.YtjnkfbpadpmakaaGreatDoor.Am
open Go Go.Proofs
noncomputable section
def H9:Nu:=Jv [15] gw
theorem RA:D9 Tryz.prog H9:=Q9 NT (HR Kw) rfl aL fun r hr=>by
 simp only[gw,List.mem_singleton]at hr
 subst hr
 exact⟨rfl,rfl,Ys⟩
def Ow:Nu:=fun f xs s=>match H9 f xs s with
 | some p=>some p
 | none=>Q8 f xs s
theorem YI:D9 Tryz.prog Ow:=by
 intro ρ s w f xs v s1 xs' hc hi hf ha
 unfold Ow at hc
 cases h:H9 f xs s with
 | some p=>rw[h]at hc;injection hc with hc;subst hc;exact RA ρ s w f xs v s1 xs' h hi hf ha
 | none=>rw[h]at hc;exact Su ρ s w f xs v s1 xs' hc hi hf ha
def gZ:CP:=⟨Tryz.prog,Ow⟩
theorem lL:C5 gZ where
 P:=rfl
 nat:=fun f xs s hf=>by
  have h1:Nat.beq f 78=false:=Dx fun e=>hf (by simp[e])
  have h2:Nat.beq f 15=false:=Dx fun e=>hf (by simp[e])
  have e1:H9 f xs s=none:=by simp[H9,Jv,h2]
  have e2:Q8 f xs s=none:=by simp[Q8,h1]
  show Ow f xs s=none
  simp[Ow,e1,e2]
 srt:=fun xs s=>rfl
 wk:=fun s=>rfl
end
end Go.Proofs.YtjnkfbpadpmakaaGreatDoor.Am
set_option linter.unusedVariables false
set_option linter.unusedSimpArgs false
set_option maxRecDepth 16000
namespace Go.Proofs.YtjnkfbpadpmakaaGreatDoor.Am
open Go Go.Proofs
noncomputable section
theorem TT{W:World}{ρ:BA}{s:AD}{f:FuncId}{xs:List AV}{args:Array Value}(hd:E9 Tryz.prog W ρ s)(ha:AP ρ xs args.toList)(h:WF gZ f xs (fun r _=>r=.bool true) s):
  Calls Tryz.prog f args W fun e W'=>e=.returned (.bool true)∧Ml W W':=by
 obtain⟨n,p,h1,h2⟩:=h
 have:=((mR NT (HR Kw) rfl YI n).call ρ s W f xs p.1 p.2 args h1 hd.inv hd.fresh ha).2
 refine callsIn_wide.1 (CallsIn.mono this ?_)
 intro e w' he
 cases e with
 | panicked c=>exact he.elim
 | outgrown=>exact he.elim
 | returned v' =>
  obtain⟨ρ',k1,k2,k3⟩:=he
  rw[h2]at k1
  cases k1
  exact⟨rfl,aF k3 hd.notOwned⟩
theorem reads_again{H:Type}{enc:TypeId×Value→H}{P:Program}{t:TypeId}(hl:laidOutB P=true)(hr:P.readableRec t=true)(hrow:t<P.types.size){W W':World}{v:Value}{d:DataW H}{ps:List MemPlace}{sp:Nat→Bool}
  (h:DataW.Trod enc P W 0 (fun _=>true) true t v d ps) (hk:Ml W W') (hlt:∀x∈ps,x.block<W.heap.size) (hs:∀x∈ps,sp x.block=true):DataW.Trod enc P W' 0 sp true t v d ps:=
 WideElems.Trod_stays hl hr hrow h (fun x hx=>by
  have:=hlt x hx
  cases x with
  | cell b o=>exact World.cell?_of_block (w:=W) (hk.heap b this)
  | map b=>exact hk.heap b this) hs
theorem R8{t e:TypeId}(ht:Tryz.prog.underlying t=some (.slice e)){W:World}{base:Nat}{v:Value}(h:Value.okWide Tryz.prog W .any base t v){ρ:BA}{a:AV}(hr:AP ρ [a] v.cells.toList):AW ρ a v:=by
 have hv:v.cells.toList=[v]:=by
  cases v with
  | agg cs=>simp[Value.okWide,ht,Cell.okWide,Cell.ok]at h
  | _=>rfl
 rw[hv]at hr
 cases hr with
 | cons h _=>exact h
theorem PW{t e:TypeId}(ht:Tryz.prog.underlying t=some (.slice e)){W:World}{base:Nat}{v:Value}(h:Value.okWide Tryz.prog W .any base t v)(a:Addr)(ha:v.cells.toList=[.slice (some a) 0 0]):0<W.heap.size:=by
 have hv:v=.slice (some a) 0 0:=by
  cases v with
  | agg cs =>
   simp[Value.okWide,ht,Cell.okWide,Cell.ok]at h
  | _ =>
   simp[Value.cells]at ha
   try (obtain⟨e1,e2,e3⟩:=ha;rw[e1,e2,e3])
 subst hv
 simp only[Value.okWide,ht,Cell.okWide,Cell.ok]at h
 obtain⟨_,_,_,_,row,cells,hs,_⟩:=h
 unfold World.shape? at hs
 cases hb:W.heap[a.block]? with
 | none=>rw[hb]at hs;cases hs
 | some o =>
  rcases nm a.block W.heap.size with h' | h'
  ·omega
  ·rw[Array.getElem?_eq_none h']at hb;cases hb
theorem LE{e st sz by_:Nat}(ht:Tryz.prog.underlying st=some (.slice e))(hs:A3 Tryz.prog e=some sz)(hby:C0 Tryz.prog e=some by_)(h0:0<sz)(hx:Bp Tryz.prog st=true)(hz:Cn Tryz.prog e sz=true)(hbl:by_≤1000){S:AD}{v:AV}{n r:Nat}{cs add:List AV}{O:List Nat}(hd:Fy e sz S v n cs O){ez:Nat}(hr:S.heap.get r=some (R ez sz false add))(ha:add.length=sz)(hc:Ap add=true)(hn:n≤1000000000):
  ∃v' s' O',Av Tryz.prog S [st,st] [v,.slice (some (r,0)) 1 (some 1)]=some (v',s')∧Fy e sz s' v' (n+1) (cs++add) O'∧s'.next=S.next+1∧(∀j,j<S.next→j ∉ O→s'.heap.get j=S.heap.get j)∧(∀j∈O',j∈O∨S.next≤j):=by
 have hsrc:CB Tryz.prog S e sz (.slice (some (r,0)) 1 (some 1))=some (1,add):=Nk ez sz (by rw[hr];rfl) (by omega)
 have hb1:(n+1) * by_≤(1000000000+1) * 1000:=oq (by omega) hbl
 obtain⟨v',s',O',happ,hb',hn',hf,hO,_⟩:=hd.append (xt:=st) (m:=1) ht hs hby h0 hx hz (by omega) hsrc (by omega) hc (by omega) (by omega)
 exact⟨v',s',O',happ,hb',hn',hf,hO⟩
theorem ZF:Cn Tryz.prog 3 1=true:=by kernel_rfl
theorem TH:Bp Tryz.prog 27=true:=by kernel_rfl
theorem RZ:Cn Tryz.prog 26 3=true:=by kernel_rfl
theorem No:Bp Tryz.prog 28=true:=by kernel_rfl
theorem IN(n:Int):Ad Tryz.prog 27 1 (zipIdx [0] [iv n])=some (R 3 1 false [iv n]):=by kernel_rfl
theorem FN(x:Bool)(a b:Option (Nat×Nat))(n m:Nat)(c d:Option Nat):Ad Tryz.prog 28 1 (zipIdx [0] [.agg [.bool x,.slice a n c,.slice b m d]])=some (R 26 3 false [.bool x,.slice a n c,.slice b m d]):=by kernel_rfl
def Hy(D:List Br):List AV:=D.map fun t=>iv t.1
def Cw(D:List Br):List AV:=(D.map fun t=>t.2.2.cells).flatten
abbrev BL(x:Bool)(m d vv cv:AV):A8:=R 30 0 false [.bool x,m,d,vv,cv]
def Fg (v0:AV) (pb p:Nat) (x3 x4 fn x6 x7:AV) (mk:Nat):C4:=
 Gj 33 [v0,.ptr (some (pb,0)),.ptr (some (p,0)),x3,x4,fn,x6,x7] #[10,11] V3 V4 mk
structure Nt(lo:C4)(p l:Nat)(T:List Br)(x:Bool)(m d:AV)(done:List (Int×Rat))(O:List Nat)(S:AD):Prop where
 lp:BC S l=some lo
 ll:l<S.next
 ex:∃vv cv D O1 O2,S.heap.get p=some (BL x m d vv cv)∧Fy 3 1 S vv D.length (Hy D) O1∧Fy 26 3 S cv D.length (Cw D) O2∧O=p::l::(O1++O2)∧(∀j∈O1,l<j∧j ∉ O2)∧(∀j∈O2,l<j)∧done=(D.map fun t=>(t.1,t.2.1))∧(∀t∈D,t∈T)
theorem Nt.olt{lo:C4}{p l:Nat}{T:List Br}{x:Bool}{m d:AV}{done:List (Int×Rat)}{O:List Nat}{S:AD}(h:Nt lo p l T x m d done O S)(hp:p<l):∀j∈O,j<S.next:=by
  obtain⟨_,h2,vv,cv,D,O1,O2,_,b1,b2,rfl,_⟩:=h
  intro j hj
  rcases List.mem_cons.1 hj with rfl | hj
  · omega
  · rcases List.mem_cons.1 hj with rfl | hj
    · exact h2
    · rcases List.mem_append.1 hj with hj | hj
      · exact b1.lt j hj
      · exact b2.lt j hj
theorem Nt.stab{lo:C4}{p l:Nat}{T:List Br}{x:Bool}{m d:AV}{done:List (Int×Rat)}{O:List Nat}{S S':AD}(h:Nt lo p l T x m d done O S)(hp:p<l)(o:Ac S.next S S'):Nt lo p l T x m d done O S':=by
 obtain⟨h1,h2,vv,cv,D,O1,O2,g,b1,b2,h3⟩:=h
 exact⟨(DK (o.2 l h2)).trans h1,ns h2 o.1,vv,cv,D,O1,O2,(o.2 p (by omega)).trans g,b1.frame o.1 fun j hj=>o.2 j (b1.lt j hj),b2.frame o.1 fun j hj=>o.2 j (b2.lt j hj),h3⟩
section
variable{E:CP}
theorem Tk        (hE : GoodN E) {v0 x3 x4 fn x6 x7 : AV} {pb p l mk : Nat} {T : List Br}  {x : Bool} {m d : AV} {done : List (Int × Rat)} {O : List Nat} {S : AD}  (hpl : p < l) (hT : T.length ≤ 1000000) (hdl : done.length ≤ 1000000000)
    (hI:Nt (Fg v0 pb p x3 x4 fn x6 x7 mk) p l T x m d done O S) {n:Int} {q:Rat} {vq:AV} {b:Nat} (hmem:(n,q,vq)∈T) (hq:QR b S vq q) {K:AV→AD→Prop}
    (hK:∀S' O',Nt (Fg v0 pb p x3 x4 fn x6 x7 mk) p l T x m d (done++[(n,q)]) O' S'→S.next≤S'.next→(∀j,j<S.next→j ∉ O→S'.heap.get j=S.heap.get j)→(∀j∈O',j∈O∨S.next≤j)→K (.bool true) S'):WR E l [iv n,vq] K S:=by
  obtain⟨hlp,hll,vv,cv,D,O1,O2,gp,b1,b2,hO,HN,Jn,hdn,hDT⟩:=hI
  obtain⟨xx,aa,nn,kk,bb,mm,ee,rfl⟩:=hq.shape
  have hz:Cu (C3 E.P 33) (Fg v0 pb p x3 x4 fn x6 x7 mk).var [10,11] [iv n,.agg [.bool xx,.slice aa nn kk,.slice bb mm ee]]=some [v0,.ptr (some (pb,0)),.ptr (some (p,0)),x3,x4,fn,iv n,.agg [.bool xx,.slice aa nn kk,.slice bb mm ee]]:=by
    rw[hE.P,V7];rfl
  refine WR.round hlp hz (by rw[hE.P];exact iM) (by rw[hE.P];exact iN) ?_
  refine Dy ?_
  obtain⟨n2,o2,g2⟩:=Bj S ZQ
  have st:=Aj (P:=Tryz.prog) (t:=26) (cs:=[.bool xx,.slice aa nn kk,.slice bb mm ee]) Ar g2 rfl rfl rfl (by simp)
  simp only[V5,cz,dA,BU,Xb,st,Xx,Xz,Qa,Qb,Qc,Qd,Qe,Qf,Qg,Qh,Qi,Qj,Qk,Ql,Qm,Qn,true_and,and_true,Qo,Qp,Qq,Qr,Qs,Qt,Qu,Qv,Qw,Qx,Qy,Qz,Ra,Rb,Rc,Rd,Re,Rf,Rg,Rh,Ri,Rj,Rk,Rm,Rn,Ro,Rp,Rq,Rs,Ya,Yb,Yc,Rt,Ru,Za,Yd,Ye,Rx,Ry,Rz,Wa,Wb,Wc,Wd]
  generalize hs2:setObj (newObj S ZQ) S.next (R 26 0 false [.bool xx,.slice aa nn kk,.slice bb mm ee])=s2 at *
  have os2:Ac S.next S s2:=by rw[← hs2];exact o2.set (nl _) _
  have n3:s2.next=S.next+1:=by rw[← hs2];exact n2
  have g3:s2.heap.get S.next=some (BQ xx (.slice aa nn kk) (.slice bb mm ee)):=by rw[← hs2,Wv]
  refine⟨_,(DK (os2.2 l hll)).trans hlp,rfl,Dy ?_⟩
  generalize hs4:setObj s2 l _=s4
  have n4:s4.next=s2.next:=by rw[← hs4];rfl
  have f4:∀j,j≠l→s4.heap.get j=s2.heap.get j:=fun j hj=>by rw[← hs4,Ww _ hj]
  have l4:BC s4 l=some { Fg v0 pb p x3 x4 fn x6 x7 mk with state:=.busy }:=by rw[← hs4,CQ]
  have hpO1:p ∉ O1:=fun h=>by have:=(HN p h).1;omega
  have hpO2:p ∉ O2:=fun h=>by have:=Jn p h;omega
  have hlO1:l ∉ O1:=fun h=>by have:=(HN l h).1;omega
  have hlO2:l ∉ O2:=fun h=>by have:=Jn l h;omega
  have gp4:s4.heap.get p=some (BL x m d vv cv):=by rw[f4 p (by omega),os2.2 p (by omega)];exact gp
  have gc4:s4.heap.get S.next=some (BQ xx (.slice aa nn kk) (.slice bb mm ee)):=by rw[f4 _ (by omega)];exact g3
  have lv:=AX (P:=Tryz.prog) (t:=27) (o:=0+3) (v:=vv) Nw gp4 rfl
  obtain⟨n5,o5,g5⟩:=Bj s4 (R 3 1 false [iv n])
  generalize hs5:newObj s4 (R 3 1 false [iv n])=s5 at *
  have lc:=AX (P:=Tryz.prog) (t:=28) (s:=s5) (i:=p) (o:=0+4) (v:=cv) Nx ((o5.2 p (by omega)).trans gp4) rfl
  have lq:=AE (P:=Tryz.prog) (t:=26) (s:=s5) (i:=S.next) A9 Ar ((o5.2 _ (by omega)).trans gc4) rfl
  obtain⟨n6,o6,g6⟩:=Bj s5 (R 26 3 false [.bool xx,.slice aa nn kk,.slice bb mm ee])
  generalize hs6:newObj s5 (R 26 3 false [.bool xx,.slice aa nn kk,.slice bb mm ee])=s6 at *
  have f46:∀j,j<s4.next→s6.heap.get j=s4.heap.get j:=fun j hj=>by rw[o6.2 j (by omega),o5.2 j hj]
  have f06:∀j,j<S.next→j≠l→s6.heap.get j=S.heap.get j:=fun j hj hne=>by rw[f46 j (by omega),f4 j hne,os2.2 j hj]
  have b1':Fy 3 1 s6 vv D.length (Hy D) O1:=b1.frame (by omega) fun j hj=>f06 j (b1.lt j hj) (fun e=>hlO1 (e▸hj))
  have b2':Fy 26 3 s6 cv D.length (Cw D) O2:=b2.frame (by omega) fun j hj=>f06 j (b2.lt j hj) (fun e=>hlO2 (e▸hj))
  have hDl:D.length≤1000000000:=by rw[hdn]at hdl;simpa using hdl
  have r1:s6.heap.get s4.next=some (R 3 1 false [iv n]):=by rw[o6.2 _ (by omega)];exact g5
  obtain⟨v7,s7,O7,happ7,b7,n7,f7,hO7⟩:=LE Tryz.underlying27 S9 mX (by decide) TH ZF (by decide) b1' r1 rfl rfl hDl
  have b2'':Fy 26 3 s7 cv D.length (Cw D) O2:=b2'.frame (by omega) fun j hj=>f7 j (b2'.lt j hj) (fun h=>(HN j h).2 hj)
  have r2:s7.heap.get s5.next=some (R 26 3 false [.bool xx,.slice aa nn kk,.slice bb mm ee]):=by
    rw[f7 _ (by omega) (fun h=>by have:=b1.lt _ h;omega)];exact g6
  obtain⟨v8,s8,O8,happ8,b8,n8,f8,hO8⟩:=LE Tryz.underlying28 Ar iH (by decide) No RZ (by decide) b2'' r2 rfl rfl hDl
  have b7':Fy 3 1 s8 v7 (D.length+1) (Hy D++[iv n]) O7:=b7.frame (by omega) fun j hj=>f8 j (b7.lt j hj) (fun h=>by
    rcases hO7 j hj with h' | h'
    · exact(HN j h').2 h
    · have:=b2'.lt j h;omega)
  have gp7:s7.heap.get p=some (BL x m d vv cv):=by rw[f7 p (by omega) hpO1,f46 p (by omega)];exact gp4
  have gp8:s8.heap.get p=some (BL x m d vv cv):=by rw[f8 p (by omega) hpO2];exact gp7
  have ag1:AC Tryz.prog s7 26 (.ptr (some (S.next,0)))=some (.agg [.bool xx,.slice aa nn kk,.slice bb mm ee]):=AE A9 Ar (by rw[f7 _ (by omega) (fun h=>by have:=b1.lt _ h;omega),f46 _ (by omega)];exact gc4) rfl
  have ag2:AC Tryz.prog s7 28 (.ptr (some (p,0+4)))=some cv:=AX (o:=0+4) Nx gp7 rfl
  obtain⟨_,_,ecv,_⟩:=b2.slice
  obtain⟨_,_,ev7,_⟩:=b7.slice
  obtain⟨_,_,ev8,_⟩:=b8.slice
  have st9:=B1 (P:=Tryz.prog) (t:=27) (o:=0+3) (v:=v7) mS gp8 (by simp) (by rw[ev7];rfl)
  generalize hs9:setObj s8 p (R 30 0 false ([AV.bool x,m,d,vv,cv].set (0+3) v7))=s9 at st9
  have gp9:s9.heap.get p=some (BL x m d v7 cv):=by rw[← hs9,Wv];rfl
  have f9:∀j,j≠p→s9.heap.get j=s8.heap.get j:=fun j hj=>by rw[← hs9,Ww _ hj]
  have st10:=B1 (P:=Tryz.prog) (t:=28) (o:=0+4) (v:=v8) lg gp9 (by simp) (by rw[ev8];rfl)
  generalize hs10:setObj s9 p (R 30 0 false ([AV.bool x,m,d,v7,cv].set (0+4) v8))=s10 at st10
  have gp10:s10.heap.get p=some (BL x m d v7 v8):=by rw[← hs10,Wv];rfl
  have f10:∀j,j≠p→s10.heap.get j=s9.heap.get j:=fun j hj=>by rw[← hs10,Ww _ hj]
  have n9:s9.next=s8.next:=by rw[← hs9];rfl
  have n10:s10.next=s9.next:=by rw[← hs10];rfl
  have fall:∀j,j<s4.next→j ∉ O1→j ∉ O2→j≠p→s10.heap.get j=s4.heap.get j:=fun j hj h1 h2 h3=>by
    rw[f10 j h3,f9 j h3,f8 j (by omega) h2,f7 j (by omega) h1,f46 j hj]
  have l10:BC s10 l=some { Fg v0 pb p x3 x4 fn x6 x7 mk with state:=.busy }:=by
    rw[DK (fall l (by omega) hlO1 hlO2 (by omega))];exact l4
  simp only[V6,dB,lv,IN,hs5,Xd,lc,lq,FN,hs6,happ7,Ij,HL,Qa,Qb,Qc,Qd,Qe,Qf,Qg,Qh,Qi,Qj,Qk,Ql,Qm,Qn,true_and,and_true,Qo,Qp,Qq,Qr,Qs,Qt,Qu,Qv,Qw,Qx,Qy,Qz,Ra,Rb,Rc,Rd,Re,Rf,Rg,Rh,Ri,Rj,Rk,Rm,Rn,Ro,Rp,Rq,Rs,Ya,Yb,Yc,Rt,Ru,Za,Yd,Ye,Rx,Ry,Rz,Wa,Wb,Wc,Wd]
  refine⟨⟨Aa (by simp only[Qa,Qb,Qc,Qd,Qe,Qf,Qg,Qh,Qi,Qj,Qk,Ql,Qm,Qn,true_and,and_true,Qo,Qp,Qq,Qr,Qs,Qt,Qu,Qv,Qw,Qx,Qy,Qz,Ra,Rb,Rc,Rd,Re,Rf,Rg,Rh,Ri,Rj,Rk,Rm,Rn,Ro,Rp,Rq,Rs,Ya,Yb,Yc,Rt,Ru,Za,Yd,Ye,Rx,Ry,Rz,Wa,Wb,Wc,Wd];exact ag1) (BK _ _ _ _ _ _ _),Aa (by simp only[Qa,Qb,Qc,Qd,Qe,Qf,Qg,Qh,Qi,Qj,Qk,Ql,Qm,Qn,true_and,and_true,Qo,Qp,Qq,Qr,Qs,Qt,Qu,Qv,Qw,Qx,Qy,Qz,Ra,Rb,Rc,Rd,Re,Rf,Rg,Rh,Ri,Rj,Rk,Rm,Rn,Ro,Rp,Rq,Rs,Ya,Yb,Yc,Rt,Ru,Za,Yd,Ye,Rx,Ry,Rz,Wa,Wb,Wc,Wd];exact ag2) (by simp only[Qa,Qb,Qc,Qd,Qe,Qf,Qg,Qh,Qi,Qj,Qk,Ql,Qm,Qn,true_and,and_true,Qo,Qp,Qq,Qr,Qs,Qt,Qu,Qv,Qw,Qx,Qy,Qz,Ra,Rb,Rc,Rd,Re,Rf,Rg,Rh,Ri,Rj,Rk,Rm,Rn,Ro,Rp,Rq,Rs,Ya,Yb,Yc,Rt,Ru,Za,Yd,Ye,Rx,Ry,Rz,Wa,Wb,Wc,Wd];rw[ecv];exact Bb _ _ _)⟩,?_⟩
  simp only[happ8,st9,st10,Ij,HL,Xx,Xz,Qa,Qb,Qc,Qd,Qe,Qf,Qg,Qh,Qi,Qj,Qk,Ql,Qm,Qn,true_and,and_true,Qo,Qp,Qq,Qr,Qs,Qt,Qu,Qv,Qw,Qx,Qy,Qz,Ra,Rb,Rc,Rd,Re,Rf,Rg,Rh,Ri,Rj,Rk,Rm,Rn,Ro,Rp,Rq,Rs,Ya,Yb,Yc,Rt,Ru,Za,Yd,Ye,Rx,Ry,Rz,Wa,Wb,Wc,Wd]
  refine⟨_,l10,hK _ (p::l::(O7++O8)) ⟨?_,?_,v7,v8,D++[(n,q,.agg [.bool xx,.slice aa nn kk,.slice bb mm ee])],O7,O8,?_,?_,?_,rfl,fun j hj=>⟨?_,fun h=>?_⟩,fun j hj=>?_,?_,fun t ht=>?_⟩ ?_ (fun j hj hjO=>?_) (fun j hj=>?_)⟩
  · rw[CQ];rfl
  · show l<s10.next;omega
  · rw[Ww _ (by omega)];exact gp10
  · have e:Hy (D++[(n,q,AV.agg [.bool xx,.slice aa nn kk,.slice bb mm ee])])=Hy D++[iv n]:=by simp[Hy]
    rw[e,oI]
    refine b7'.frame (by show s8.next≤s10.next;omega) fun j hj=>?_
    have hjl:l<j:=by
      rcases hO7 j hj with h | h
      · exact(HN j h).1
      · omega
    rw[Ww _ (by omega),f10 j (by omega),f9 j (by omega)]
  · have e:Cw (D++[(n,q,AV.agg [.bool xx,.slice aa nn kk,.slice bb mm ee])])=Cw D++[.bool xx,.slice aa nn kk,.slice bb mm ee]:=by simp[Cw,AV.cells]
    rw[e,oI]
    refine b8.frame (by show s8.next≤s10.next;omega) fun j hj=>?_
    have hjl:l<j:=by
      rcases hO8 j hj with h | h
      · exact Jn j h
      · omega
    rw[Ww _ (by omega),f10 j (by omega),f9 j (by omega)]
  · rcases hO7 j hj with h | h
    · exact(HN j h).1
    · omega
  · rcases hO7 j hj with h' | h'
    · rcases hO8 j h with h2 | h2
      · exact(HN j h').2 h2
      · have:=b1.lt j h';omega
    · rcases hO8 j h with h2 | h2
      · have:=b2.lt j h2;omega
      · have:=b7.lt j hj;omega
  · rcases hO8 j hj with h | h
    · exact Jn j h
    · omega
  · rw[hdn];simp
  · rcases List.mem_append.1 ht with ht | ht
    · exact hDT t ht
    · rw[List.mem_singleton.1 ht];exact hmem
  · show S.next≤s10.next;omega
  · have h1 : j ∉ O1 := fun h => hjO (by rw [hO]; simp [h])
    have h2:j ∉ O2:=fun h=>hjO (by rw[hO];simp[h])
    have h3:j≠p:=fun h=>hjO (by rw[hO,h];simp)
    have h4:j≠l:=fun h=>hjO (by rw[hO,h];simp)
    rw[Ww _ h4,fall j (by omega) h1 h2 h3,f4 j h4,os2.2 j hj]
  · rw [hO]
    rcases List.mem_cons.1 hj with rfl | hj
    · exact .inl (by simp)
    · rcases List.mem_cons.1 hj with rfl | hj
      · exact .inl (by simp)
      · rcases List.mem_append.1 hj with hj | hj
        · rcases hO7 j hj with h | h
          · exact .inl (by simp[h])
          · exact .inr (by omega)
        · rcases hO8 j hj with h | h
          · exact .inl (by simp[h])
          · exact .inr (by omega)
end
def LR(b:Nat)(s:AD)(v:AV)(C:Rat)(L:List (Int×Rat)):Prop:=∃x a n ca d m cd vv cv D O1 O2,
 v=.agg [.bool x,.slice a n ca,.slice d m cd,vv,cv]∧QR b s (.agg [.bool x,.slice a n ca,.slice d m cd]) C∧L=(D.map fun t=>(t.1,t.2.1)) ∧
 (∀t∈D,QR b s t.2.2 t.2.1∧i64 t.1∧UJ (.agg [.bool x,.slice a n ca,.slice d m cd]) t.2.2)∧(D.Pairwise fun t u=>UJ t.2.2 u.2.2) ∧
 Fy 3 1 s vv D.length (Hy D) O1∧Fy 26 3 s cv D.length (Cw D) O2∧(∀j∈O1,b≤j∧j ∉ O2)∧(∀j∈O2,b≤j)
theorem Sw{Rl:Br→Br→Prop}(hs:∀t u,Rl t u→Rl u t):∀ {T:List Br},T.Pairwise Rl→∀t∈T,∀u∈T,t≠u→Rl t u
  | [],_,t,ht,_,_,_=>by cases ht
  | x::T,h,t,ht,u,hu,hne=>by
    obtain⟨h1,h2⟩:=List.pairwise_cons.1 h
    rcases List.mem_cons.1 ht with e1 | ht'
    · rcases List.mem_cons.1 hu with e2 | hu'
      · exact absurd (e1.trans e2.symm) hne
      · rw[e1];exact h1 u hu'
    · rcases List.mem_cons.1 hu with e2 | hu'
      · rw[e2];exact hs _ _ (h1 t ht')
      · exact Sw hs h2 t ht' u hu' hne
theorem Og{l:List Int}(h:l.Nodup):(D6 l).Nodup:=(DG l).nodup_iff.2 h
theorem QD{T:List Br}(h:(Ay T).Nodup):((C8 T).map (·.1)).Nodup:=by
 have h1:((D6 (Ay T)).map fun n=>(n,CG n T)).map (·.1)=D6 (Ay T):=by rw[pj];exact List.map_id _
 have h2:((C8 T).map (·.1)).Sublist (D6 (Ay T)):=by
  rw[← h1]
  exact List.Sublist.map _ List.filter_sublist
 exact h2.nodup (Og h)
theorem YU{T D:List Br}(h:T.Pairwise fun t u=>UJ t.2.2 u.2.2)(hD:∀t∈D,t∈T)(hn:(D.map (·.1)).Nodup):D.Pairwise fun t u=>UJ t.2.2 u.2.2:=by
 induction D with
 | nil=>exact .nil
 | cons t D ih =>
  obtain⟨h1,h2⟩:=List.nodup_cons.1 (show(t.1::D.map (·.1)).Nodup from hn)
  refine List.pairwise_cons.2 ⟨fun u hu=>?_,ih (fun u hu=>hD u (oN _ hu)) h2⟩
  refine Sw (fun t u h=>h.symm) h t (hD t oK) u (hD u (oN _ hu)) ?_
  rintro rfl
  exact h1 (List.mem_map.2 ⟨t,hu,rfl⟩)
theorem E4:Ab Tryz.prog 30=some (BL false (.slice none 0 (some 0)) (.slice none 0 (some 0)) (.slice none 0 (some 0)) (.slice none 0 (some 0)),.ptr):=by kernel_rfl
section
variable{E:CP}{s:AD}
theorem NH(hE:C5 E){b mi k:Nat}{v:AV}{c:Rat}{T:List Br}(hv:PV b s v mi c T k)(hb:b≤s.next)(hk:k≤1000000000)(hTl:T.length≤1000000){K:AV→AD→Prop}
  (hK:∀s' w,Ac s.next s s'→LR b s' w c (C8 T)→K w s'):WF E 33 [v] K s:=by
 obtain⟨x,a,n,ca,d,m,cd,rfl,hP⟩:=hv
 refine hE.go ii (by decide) rfl ?_
 obtain⟨n1,o1,g1,g2⟩:=Eu s (BP x (.slice a n ca) (.slice d m cd) mi) (BL false (.slice none 0 (some 0)) (.slice none 0 (some 0)) (.slice none 0 (some 0)) (.slice none 0 (some 0)))
 simp only[mt,cl,cn,Wz,Xg,E4,Xb,Aq,M8,QO,Qa,Qb,Qc,Qd,Qe,Qf,Qg,Qh,Qi,Qj,Qk,Ql,Qm,Qn,true_and,and_true,Qo,Qp,Qq,Qr,Qs,Qt,Qu,Qv,Qw,Qx,Qy,Qz,Ra,Rb,Rc,Rd,Re,Rf,Rg,Rh,Ri,Rj,Rk,Rm,Rn,Ro,Rp,Rq,Rs,Ya,Yb,Yc,Rt,Ru,Za,Yd,Ye,Rx,Ry,Rz,Wa,Wb,Wc,Wd]
 generalize newObj (newObj s (BP x (.slice a n ca) (.slice d m cd) mi)) (BL false (.slice none 0 (some 0)) (.slice none 0 (some 0)) (.slice none 0 (some 0)) (.slice none 0 (some 0)))=s1 at *
 have l1:AC Tryz.prog s1 26 (.ptr (some (s.next,0+0)))=some (.agg [.bool x,.slice a n ca,.slice d m cd]):=Au (o:=0) (n:=3) A9 Ar g1 (by simp)
 have st:AK Tryz.prog s1 26 (.ptr (some (s.next+1,0+0))) (.agg [.bool x,.slice a n ca,.slice d m cd])=some (setObj s1 (s.next+1) (BL x (.slice a n ca) (.slice d m cd) (.slice none 0 (some 0)) (.slice none 0 (some 0)))):=LZ (off:=0) Ar g2 rfl (by simp) rfl (by simp)
 generalize hs2:setObj s1 (s.next+1) (BL x (.slice a n ca) (.slice d m cd) (.slice none 0 (some 0)) (.slice none 0 (some 0)))=s2 at st
 have n2:s2.next=s1.next:=by rw[← hs2];rfl
 have o2:Ac s.next s s2:=by rw[← hs2];exact o1.set (by omega) _
 have k1:s2.heap.get s.next=some (BP x (.slice a n ca) (.slice d m cd) mi):=by rw[← hs2,Ww _ (by omega)];exact g1
 have k2:s2.heap.get (s.next+1)=some (BL x (.slice a n ca) (.slice d m cd) (.slice none 0 (some 0)) (.slice none 0 (some 0))):=by rw[← hs2,Wv]
 have l2:=AE (P:=Tryz.prog) (t:=56) J5 Hh k1 rfl
 simp only[cy,l1,st,l2,Xx,Xz,Qa,Qb,Qc,Qd,Qe,Qf,Qg,Qh,Qi,Qj,Qk,Ql,Qm,Qn,true_and,and_true,Qo,Qp,Qq,Qr,Qs,Qt,Qu,Qv,Qw,Qx,Qy,Qz,Ra,Rb,Rc,Rd,Re,Rf,Rg,Rh,Ri,Rj,Rk,Rm,Rn,Ro,Rp,Rq,Rs,Ya,Yb,Yc,Rt,Ru,Za,Yd,Ye,Rx,Ry,Rz,Wa,Wb,Wc,Wd]
 refine UO hE.toGoodN fun s3 n3 o3 g3=>?_
 have k3:=(o3.2 (s.next+1) (by omega)).trans k2
 simp only[Qa,Qb,Qc,Qd,Qe,Qf,Qg,Qh,Qi,Qj,Qk,Ql,Qm,Qn,true_and,and_true,Qo,Qp,Qq,Qr,Qs,Qt,Qu,Qv,Qw,Qx,Qy,Qz,Ra,Rb,Rc,Rd,Re,Rf,Rg,Rh,Ri,Rj,Rk,Rm,Rn,Ro,Rp,Rq,Rs,Ya,Yb,Yc,Rt,Ru,Za,Yd,Ye,Rx,Ry,Rz,Wa,Wb,Wc,Wd]
 refine WC.range rfl ?_
 show WF E 77 [.yield (s3.next+1),.ptr (some (s2.next,0))] _ (newObj (newObj s3 .mark) (.loop (Fg _ s.next (s.next+1) _ _ _ _ _ s3.next)))
 generalize hlo:Fg _ s.next (s.next+1) _ _ _ _ _ s3.next=lo
 have hm1:(newObj s3 .mark).next=s3.next+1:=rfl
 generalize hs5:newObj (newObj s3 .mark) (.loop lo)=s5
 have n5:s5.next=s3.next+2:=by rw[← hs5];rfl
 have f5:∀j,j<s3.next→s5.heap.get j=s3.heap.get j:=fun j hj=>by rw[← hs5,AO,if_neg (by omega),AO,if_neg (by omega)]
 have hmk5:s5.heap.get s3.next=some .mark:=by rw[← hs5,AO,if_neg (by omega),AO,if_pos rfl]
 have hlp5:BC s5 (s3.next+1)=some lo:=by
  unfold BC
  rw[← hs5,AO,if_pos hm1.symm]
 have o35:Ac s3.next s3 s5:=⟨by omega,f5⟩
 have o25:Ac s2.next s2 s5:=o3.trans (o35.mono o3.1)
 have o05:Ac s.next s s5:=o2.trans (o25.mono o2.1)
 refine R7 hE (sA:=s) (pb:=s2.next) (l:=s3.next+1) hP.map hk hTl o05 ((f5 _ (by omega)).trans g3) (by omega) (O0:=[s.next+1,s3.next+1]) (by simp;omega) (fun j hj=>by simp at hj;omega)
  (Nt lo (s.next+1) (s3.next+1) T x (.slice a n ca) (.slice d m cd)) (fun done O S S' h o=>h.stab (by omega) o) (fun done O S h=>h.olt (by omega)) (fun done n' q vq O S K2 hI hoS hq hmem hdl hK2=>?_)
  ⟨hlp5,by omega,_,_,[],[],[],(f5 _ (by omega)).trans k3,Fy.nil _ _ _,Fy.nil _ _ _,rfl,fun j hj=>(by cases hj),fun j hj=>(by cases hj),rfl,fun t ht=>by cases ht⟩ fun v S O hoS hnS hfS hI=>?_
 ·subst hlo
  exact Tk hE.toGoodN (by omega) hTl (by omega) hI hmem ((hP.map.old hoS).ent _ hmem).1 hK2
 obtain⟨hlp,hll,vv,cv,D,O1,O2,gp,b1,b2,hO,HN,Jn,hdn,hDT⟩:=hI
 refine⟨lo,hlp,by rw[← hlo];rfl,?_⟩
 have hpd:lo.pending=none:=by rw[← hlo];rfl
 rw[hpd]
 generalize hs6:setObj S (s3.next+1) _=s6
 have n6:s6.next=S.next:=by rw[← hs6];rfl
 have f6:∀j,j≠s3.next+1→s6.heap.get j=S.heap.get j:=fun j hj=>by rw[← hs6,Ww _ hj]
 have g6:s6.heap.get (s.next+1)=some (BL x (.slice a n ca) (.slice d m cd) vv cv):=by rw[f6 _ (by omega)];exact gp
 have l6:=AE (P:=Tryz.prog) (t:=30) DD Cs g6 rfl
 obtain⟨av,capv,evv,_⟩:=b1.slice
 obtain⟨ac,capc,ecv,_⟩:=b2.slice
 have st6:=Aj (P:=Tryz.prog) (t:=30) (cs:=[.bool x,.slice a n ca,.slice d m cd,vv,cv]) Cs g6 rfl rfl (by rw[evv,ecv];rfl) (by simp)
 generalize hs7:setObj s6 (s.next+1) (R 30 0 false [.bool x,.slice a n ca,.slice d m cd,vv,cv])=s7 at st6
 have f7:∀j,j≠s.next+1→s7.heap.get j=s6.heap.get j:=fun j hj=>by rw[← hs7,Ww _ hj]
 have g7:s7.heap.get (s.next+1)=some (BL x (.slice a n ca) (.slice d m cd) vv cv):=by rw[← hs7,Wv]
 have n7:s7.next=s6.next:=by rw[← hs7];rfl
 have hmk7:s7.heap.get s3.next=some .mark:=by rw[f7 _ (by omega),f6 _ (by omega),hfS _ (by omega) (by simp;omega)];exact hmk5
 obtain⟨s8,u1,u2,u3⟩:=FS [s3.next] s7 (by simp) (fun m h=>by rw[List.mem_singleton.1 h];exact hmk7)
 have u3':∀j,j≠s3.next→s8.heap.get j=s7.heap.get j:=fun j hj=>u3 j (by simpa using hj)
 have l8:=AE (P:=Tryz.prog) (t:=30) DD Cs ((u3' (s.next+1) (by omega)).trans g7) rfl
 simp only[J0,dC,l6,st6,u1,l8,AL,Xx,Xz,Qa,Qb,Qc,Qd,Qe,Qf,Qg,Qh,Qi,Qj,Qk,Ql,Qm,Qn,true_and,and_true,Qo,Qp,Qq,Qr,Qs,Qt,Qu,Qv,Qw,Qx,Qy,Qz,Ra,Rb,Rc,Rd,Re,Rf,Rg,Rh,Ri,Rj,Rk,Rm,Rn,Ro,Rp,Rq,Rs,Ya,Yb,Yc,Rt,Ru,Za,Yd,Ye,Rx,Ry,Rz,Wa,Wb,Wc,Wd]
 have hs1:=hoS.1
 have oend:Ac s.next s s8:=⟨by omega,fun j hj=>by rw[u3' j (by omega),f7 j (by omega),f6 j (by omega),hoS.2 j hj]⟩
 have hP8:=hP.old oend
 have hnd:(D.map (·.1)).Nodup:=by
  have:=QD hP.map.nd
  rw[hdn,pj]at this
  exact this
 have hkeep:∀j,s3.next+1<j→s8.heap.get j=S.heap.get j:=fun j hj=>by rw[u3' j (by omega),f7 j (by omega),f6 j (by omega)]
 exact hK s8 _ oend ⟨x,a,n,ca,d,m,cd,vv,cv,D,O1,O2,rfl,hP8.cq,hdn,fun t ht=>⟨(hP8.map.ent t (hDT t ht)).1,(hP8.map.ent t (hDT t ht)).2.2,hP8.dj t (hDT t ht)⟩,YU hP8.map.dj hDT hnd,b1.frame (by omega) fun j hj=>hkeep j (HN j hj).1,b2.frame (by omega) fun j hj=>hkeep j (Jn j hj),
  fun j hj=>⟨by have:=(HN j hj).1;omega,(HN j hj).2⟩,fun j hj=>by have:=Jn j hj;omega⟩
end
theorem Fy.capZ{e sz:Nat}{s:AD}{v:AV}{n:Nat}{cs:List AV}{O:List Nat}(h:Fy e sz s v n cs O):∃a cap,v=.slice a n cap∧AZ s.next s a cs∧Fz sz s a cap n:=by
 rcases h with⟨rfl,rfl,rfl,_⟩ | ⟨i,p,rfl,h,_⟩
 ·exact⟨none,some 0,rfl,AZ.nil,.inl ⟨0,rfl,nl _,fun _=>rfl⟩⟩
 ·obtain⟨a,cap,e,hc⟩:=h.cells
  injection e with e1 e2 e3
  subst e1;subst e3
  refine⟨_,_,rfl,hc,.inr ⟨rfl,i,0,?_⟩⟩
  rcases h.ex with⟨e',_⟩ | ⟨_,_,k2,_,r,k4,k5,_,_,k8,_⟩
  ·cases e'
  ·exact⟨r,rfl,k2,k4,k8,by rw[k5.1,h.len];omega⟩
theorem Gp:∀ (D:List Br),(∀t∈D,t.2.2.cells.length=3)→(Cw D).length=D.length * 3∧∀ (i:Nat)(t:Br),D[i]? = some t→((Cw D).drop (i * 3)).take 3=t.2.2.cells
 | [],_=>⟨rfl,fun i t h=>by cases h⟩
 | u::D,hl=>by
  obtain⟨h1,h2⟩:=Gp D fun t ht=>hl t (oN _ ht)
  have hu:=hl u oK
  have e:Cw (u::D)=u.2.2.cells++Cw D:=by simp[Cw]
  rw[e]
  refine⟨by rw[oI,h1,hu,oV];omega,fun i t hi=>?_⟩
  cases i with
  | zero =>
   cases hi
   rw[pO,pC,List.take_left' hu]
  | succ i =>
   rw[show(i+1) * 3=u.2.2.cells.length+i * 3 by rw[hu];omega,List.drop_append,oo (by omega),qP,Nat.add_sub_cancel_left]
   exact h2 i t hi
theorem LR.li {b : Nat} {s : AD}  {v : AV} {C : Rat} {L : List (Int × Rat)} {k : Nat} (h : LR b s v C L) (hC : QH C k) (hL : ∀ p ∈ L, QH p.2 k) : LI s v C (L.map (·.1)) (L.map (·.2)) k := by
  obtain⟨x,a,n,ca,d,m,cd,vv,cv,D,O1,O2,rfl,hq,rfl,hD,_,b1,b2,_⟩:=h
  obtain⟨av,capv,rfl,hcv,hzv⟩:=b1.capZ
  obtain⟨ac,capc,rfl,hcc,hzc⟩:=b2.capZ
  have hl3:∀t∈D,t.2.2.cells.length=3:=fun t ht=>by
    obtain⟨_,_,_,_,_,_,_,e⟩:=(hD t ht).1.shape
    rw[e];rfl
  obtain⟨p1,p2⟩:=Gp D hl3
  have e1:((D.map fun t=>(t.1,t.2.1)).map (·.1)).map iv=Hy D:=by simp[Hy,pj,Function.comp_def]
  refine⟨x,a,n,ca,d,m,cd,av,capv,ac,capc,Cw D,by simp,hq.qi hC,by rw[e1];exact hcv,fun z hz=>?_,⟨by simp[p1],hcc,fun i q hi=>?_⟩,by simpa using hzv,by simpa using hzc⟩
  · rw[pj]at hz
    obtain⟨t,ht,rfl⟩:=List.mem_map.1 hz
    exact(hD t ht).2.1
  · rw[pj,pH]at hi
    cases hDi:D[i]? with
    | none=>rw[hDi]at hi;cases hi
    | some t =>
      rw[hDi]at hi
      injection hi with hi
      have htm:=oP hDi
      rw[p2 i t hDi]
      obtain⟨_,_,_,_,_,_,_,e⟩:=(hD t htm).1.shape
      have:=(hD t htm).1.qi (k:=k) (by
        have:=hL (t.1,t.2.1) (List.mem_map.2 ⟨t,htm,rfl⟩)
        exact this)
      rw[← hi,show AV.agg t.2.2.cells=t.2.2 from by rw[e];rfl]
      exact this
theorem LI.shape{s:AD}{v:AV}{C:Rat}{vs:List Int}{cs:List Rat}{k:Nat}(h:LI s v C vs cs k):∃x a n c b m d av nv capv ac nc capc,v=.agg [.bool x,.slice a n c,.slice b m d,.slice av nv capv,.slice ac nc capc]:=by
 obtain⟨x,a,n,c,b,m,d,av,capv,ac,capc,cells,rfl,_⟩:=h
 exact⟨_,_,_,_,_,_,_,_,_,_,_,_,_,rfl⟩
theorem LR.shape{b:Nat}{s:AD}{v:AV}{C:Rat}{L:List (Int×Rat)}(h:LR b s v C L):∃x a n c b m d av nv capv ac nc capc,v=.agg [.bool x,.slice a n c,.slice b m d,.slice av nv capv,.slice ac nc capc]:=by
 obtain⟨x,a,n,ca,d,m,cd,vv,cv,D,O1,O2,rfl,_,_,_,_,b1,b2,_⟩:=h
 obtain⟨av,capv,rfl,_⟩:=b1.slice
 obtain⟨ac,capc,rfl,_⟩:=b2.slice
 exact⟨_,_,_,_,_,_,_,_,_,_,_,_,_,rfl⟩
theorem LR.set{b i:Nat}{s:AD}{v:AV}{C:Rat}{L:List (Int×Rat)}(h:LR b s v C L)(hi:i<b)(o:A8):LR b (setObj s i o) v C L:=by
 obtain⟨x,a,n,ca,d,m,cd,vv,cv,D,O1,O2,h1,hq,hL,hD,hp,b1,b2,h3,h4⟩:=h
 exact⟨x,a,n,ca,d,m,cd,vv,cv,D,O1,O2,h1,hq.set hi o,hL,fun t ht=>⟨(hD t ht).1.set hi o,(hD t ht).2⟩,hp,b1.frame (nl _) fun j hj=>Ww _ (by have:=(h3 j hj).1;omega),b2.frame (nl _) fun j hj=>Ww _ (by have:=h4 j hj;omega),h3,h4⟩
theorem LR.mono{b b':Nat}{s:AD}{v:AV}{C:Rat}{L:List (Int×Rat)}(h:LR b s v C L)(hb:b'≤b):LR b' s v C L:=by
 obtain⟨x,a,n,ca,d,m,cd,vv,cv,D,O1,O2,h1,hq,hL,hD,hp,b1,b2,h3,h4⟩:=h
 exact⟨x,a,n,ca,d,m,cd,vv,cv,D,O1,O2,h1,hq.mono hb,hL,fun t ht=>⟨(hD t ht).1.mono hb,(hD t ht).2⟩,hp,b1,b2,fun j hj=>⟨ny hb (h3 j hj).1,(h3 j hj).2⟩,fun j hj=>ny hb (h4 j hj)⟩
theorem Ed.len{o:Rat}{vs:List Int}{cs:List Rat}{T T':List Br}(h:Ed o vs cs T T'):T'.length≤T.length+min cs.length vs.length:=by
 induction h with
 | nil1 cs T=>omega
 | nil2 vs T=>omega
 | @cons n c vs cs T T' w h ih =>
  have:=Sp (n:=n) (q:=CG n T+c * o) (v:=w) (T:=T)
  simp only[oV]
  omega
abbrev ZL:A8:=BL false (.slice none 0 (some 0)) (.slice none 0 (some 0)) (.slice none 0 (some 0)) (.slice none 0 (some 0))
abbrev ZP:A8:=R 56 0 false [.bool false,.slice none 0 (some 0),.slice none 0 (some 0),.map none]
theorem C7{s2:AD}{p:Nat}{cs0:List AV}(h0:cs0.length=5){x:Bool}{a b av ac:Option (Nat×Nat)}{n m nv nc:Nat}{c d cv cc:Option Nat}(hg:s2.heap.get p=some (R 30 0 false cs0)):
  AK Tryz.prog s2 30 (.ptr (some (p,0))) (.agg [.bool x,.slice a n c,.slice b m d,.slice av nv cv,.slice ac nc cc])=some (setObj s2 p (BL x (.slice a n c) (.slice b m d) (.slice av nv cv) (.slice ac nc cc)))∧AC Tryz.prog (setObj s2 p (BL x (.slice a n c) (.slice b m d) (.slice av nv cv) (.slice ac nc cc))) 30 (.ptr (some (p,0)))=some (.agg [.bool x,.slice a n c,.slice b m d,.slice av nv cv,.slice ac nc cc]):=
 ⟨Aj Cs hg h0 rfl rfl (by simp),AE DD Cs (Wv _ _ _) rfl⟩
theorem F9{s2:AD}{p:Nat}{cs0:List AV}(h0:cs0.length=4){x:Bool}{a b:Option (Nat×Nat)}{n m mi:Nat}{c d:Option Nat}(hg:s2.heap.get p=some (R 56 0 false cs0)):
  AK Tryz.prog s2 56 (.ptr (some (p,0))) (.agg [.bool x,.slice a n c,.slice b m d,.map (some mi)])=some (setObj s2 p (BP x (.slice a n c) (.slice b m d) mi)):=Aj Hh hg h0 rfl rfl (by simp)
section
variable{E:CP}{s:AD}
theorem Yt(hE:C5 E){vl vo:AV}{C o:Rat}{vs:List Int}{cs:List Rat}{kl ko:Nat}(hl:LI s vl C vs cs kl)(ho:QI s vo o ko)(hkl:1≤kl)(hko:1≤ko)(hb:2 * (1+(min cs.length vs.length+2) * (kl+ko+1))+1≤1000000){K:AV→AD→Prop}
  (hK:∀s' w T,Ac s.next s s'→LR s.next s' w (C * o) (C8 T)→Ed o vs cs [] T→QH (C * o) (1+(min cs.length vs.length+1) * (kl+ko+1))→(∀t∈T,QH t.2.1 (1+(min cs.length vs.length+1) * (kl+ko+1)))→(Ay T).Nodup→K w s'):WF E 22 [vl,vo] K s:=by
 have hl0:=hl
 have ho0:=ho
 obtain⟨x1,a1,n1,c1,b1,m1,d1,av,nv,cv,ac,nc,cc,el⟩:=hl.shape
 obtain⟨x2,a2,n2,c2,b2,m2,d2,eo⟩:=ho.shape
 subst el;subst eo
 generalize hM:min cs.length vs.length=M at *
 have hMb:M+2≤(M+2) * (kl+ko+1):=pR _ (by omega)
 have hM2:(M+2) * (kl+ko+1)=(M+1) * (kl+ko+1)+(kl+ko+1):=oH _ _
 refine hE.go iX (by decide) rfl ?_
 obtain⟨n3,o1,g1,g2,g3⟩:=Iu s (BL x1 (.slice a1 n1 c1) (.slice b1 m1 d1) (.slice av nv cv) (.slice ac nc cc)) (BQ x2 (.slice a2 n2 c2) (.slice b2 m2 d2)) ZL
 simp only[me,cC,cE,Wz,Xg,E4,Xb,Aq,Qa,Qb,Qc,Qd,Qe,Qf,Qg,Qh,Qi,Qj,Qk,Ql,Qm,Qn,true_and,and_true,Qo,Qp,Qq,Qr,Qs,Qt,Qu,Qv,Qw,Qx,Qy,Qz,Ra,Rb,Rc,Rd,Re,Rf,Rg,Rh,Ri,Rj,Rk,Rm,Rn,Ro,Rp,Rq,Rs,Ya,Yb,Yc,Rt,Ru,Za,Yd,Ye,Rx,Ry,Rz,Wa,Wb,Wc,Wd]
 generalize newObj (newObj (newObj s (BL x1 (.slice a1 n1 c1) (.slice b1 m1 d1) (.slice av nv cv) (.slice ac nc cc))) (BQ x2 (.slice a2 n2 c2) (.slice b2 m2 d2))) ZL=s1 at *
 refine Kh hE.toGoodN fun s2 v2 mi o2 r2=>?_
 have h2:=o2.1
 obtain⟨x,a,n,ca,d,m,cd,rfl,hP⟩:=r2
 obtain⟨n4,o3,g4⟩:=Bj s2 ZP
 have st:=F9 (cs0:=[.bool false,.slice none 0 (some 0),.slice none 0 (some 0),.map none]) rfl (x:=x) (a:=a) (n:=n) (c:=ca) (b:=d) (m:=m) (d:=cd) (mi:=mi) g4
 simp only[D2,Xb,st,Xx,Xz,Qa,Qb,Qc,Qd,Qe,Qf,Qg,Qh,Qi,Qj,Qk,Ql,Qm,Qn,true_and,and_true,Qo,Qp,Qq,Qr,Qs,Qt,Qu,Qv,Qw,Qx,Qy,Qz,Ra,Rb,Rc,Rd,Re,Rf,Rg,Rh,Ri,Rj,Rk,Rm,Rn,Ro,Rp,Rq,Rs,Ya,Yb,Yc,Rt,Ru,Za,Yd,Ye,Rx,Ry,Rz,Wa,Wb,Wc,Wd]
 generalize hs4:setObj (newObj s2 ZP) s2.next (BP x (.slice a n ca) (.slice d m cd) mi)=s4
 have o24:Ac s2.next s2 s4:=by rw[← hs4];exact o3.set (nl _) _
 have n5:s4.next=s2.next+1:=by rw[← hs4];exact n4
 have k4:s4.heap.get s2.next=some (BP x (.slice a n ca) (.slice d m cd) mi):=by rw[← hs4,Wv]
 have o12:=o1.trans (o2.mono o1.1)
 have o14:=o12.trans (o24.mono o12.1)
 have l1:=AE (P:=Tryz.prog) (t:=30) DD Cs ((o24.2 s.next (by omega)).trans ((o2.2 s.next (by omega)).trans g1)) rfl
 have l2:=AE (P:=Tryz.prog) (t:=26) A9 Ar ((o24.2 (s.next+1) (by omega)).trans ((o2.2 (s.next+1) (by omega)).trans g2)) rfl
 simp only[cF,l1,l2,Qa,Qb,Qc,Qd,Qe,Qf,Qg,Qh,Qi,Qj,Qk,Ql,Qm,Qn,true_and,and_true,Qo,Qp,Qq,Qr,Qs,Qt,Qu,Qv,Qw,Qx,Qy,Qz,Ra,Rb,Rc,Rd,Re,Rf,Rg,Rh,Ri,Rj,Rk,Rm,Rn,Ro,Rp,Rq,Rs,Ya,Yb,Yc,Rt,Ru,Za,Yd,Ye,Rx,Ry,Rz,Wa,Wb,Wc,Wd]
 have hP4:=hP.old o24
 have hmlo:=hP.map.lo
 refine Hl hE.toGoodN (b:=s1.next) (p:=s2.next) (kl:=kl) (ko:=ko) (k:=1) k4 (by omega) (by omega) hP4 (fun S f=>hl0.old (o14.trans (f.old (by omega) (by omega) (by omega)))) (fun S f=>ho0.old (o14.trans (f.old (by omega) (by omega) (by omega)))) (by omega) hkl hko (by rw[hM];omega) fun r s6 x' a' n' c'' d' m' e' T' f6 g6 hP6 hT=>?_
 have h6:=f6.1
 have l6:=AE (P:=Tryz.prog) (t:=56) J5 Hh g6 rfl
 rw[Rat.zero_add,hM]at hP6
 have hTl:=hT.len
 rw[hM]at hTl
 simp only[pG]at hTl
 simp only[cG,l6,Qa,Qb,Qc,Qd,Qe,Qf,Qg,Qh,Qi,Qj,Qk,Ql,Qm,Qn,true_and,and_true,Qo,Qp,Qq,Qr,Qs,Qt,Qu,Qv,Qw,Qx,Qy,Qz,Ra,Rb,Rc,Rd,Re,Rf,Rg,Rh,Ri,Rj,Rk,Rm,Rn,Ro,Rp,Rq,Rs,Ya,Yb,Yc,Rt,Ru,Za,Yd,Ye,Rx,Ry,Rz,Wa,Wb,Wc,Wd]
 refine NH hE (b:=s1.next) ⟨_,_,_,_,_,_,_,rfl,hP6⟩ (by omega) (by omega) (by omega) fun s7 w o7 r7=>?_
 obtain⟨x7,a7,n7,c7,b7,m7,d7,av7,nv7,cv7,ac7,nc7,cc7,rfl⟩:=r7.shape
 have g7:s7.heap.get (s.next+1+1)=some ZL:=by rw[o7.2 _ (by omega),f6.2 _ (by omega) (by omega) (by omega),o24.2 _ (by omega),o2.2 _ (by omega)];exact g3
 have o17:Ac s.next s s7:=by
  have:=o14.trans (f6.old (b:=s.next) (by omega) (by omega) (by omega))
  exact this.trans (o7.mono this.1)
 obtain⟨st8,ld8⟩:=C7 (cs0:=[.bool false,.slice none 0 (some 0),.slice none 0 (some 0),.slice none 0 (some 0),.slice none 0 (some 0)]) rfl (x:=x7) (a:=a7) (n:=n7) (c:=c7) (b:=b7) (m:=m7) (d:=d7) (av:=av7) (nv:=nv7) (cv:=cv7) (ac:=ac7) (nc:=nc7) (cc:=cc7) g7
 simp only[st8,ld8,AL,Xx,Xz,Qa,Qb,Qc,Qd,Qe,Qf,Qg,Qh,Qi,Qj,Qk,Ql,Qm,Qn,true_and,and_true,Qo,Qp,Qq,Qr,Qs,Qt,Qu,Qv,Qw,Qx,Qy,Qz,Ra,Rb,Rc,Rd,Re,Rf,Rg,Rh,Ri,Rj,Rk,Rm,Rn,Ro,Rp,Rq,Rs,Ya,Yb,Yc,Rt,Ru,Za,Yd,Ye,Rx,Ry,Rz,Wa,Wb,Wc,Wd]
 exact hK _ _ T' (o17.set (by omega) _) ((r7.set (by omega) _).mono (by omega)) hT hP6.ch (fun t ht=>(hP6.map.ent t ht).2.1) hP6.map.nd
theorem RV(hE:C5 E){va vb:AV}{C C2:Rat}{vs vs2:List Int}{cs cs2:List Rat}{ka kb:Nat}(ha:LI s va C vs cs ka)(hb':LI s vb C2 vs2 cs2 kb)(hka:1≤ka)(hkb:1≤kb)(hb:2 * (1+(min cs.length vs.length+2) * (ka+2)+(min cs2.length vs2.length+2) * (kb+2))+1≤1000000){K:AV→AD→Prop}
  (hK:∀s' w T0 T,Ac s.next s s'→LR s.next s' w (C+C2 * ((-1:Int):Rat)) (C8 T)→Ed 1 vs cs [] T0→Ed ((-1:Int):Rat) vs2 cs2 T0 T→QH (C+C2 * ((-1:Int):Rat)) (1+(min cs.length vs.length+1) * (ka+2)+(min cs2.length vs2.length+1) * (kb+2)) →
   (∀t∈T,QH t.2.1 (1+(min cs.length vs.length+1) * (ka+2)+(min cs2.length vs2.length+1) * (kb+2)))→(Ay T).Nodup→K w s'):WF E 21 [va,vb] K s:=by
 have ha0:=ha
 have hb0:=hb'
 obtain⟨x1,a1,n1,c1,b1,m1,d1,av,nv,cv,ac,nc,cc,ea⟩:=ha.shape
 obtain⟨x2,a2,n2,c2,b2,m2,d2,av2,nv2,cv2,ac2,nc2,cc2,eb⟩:=hb'.shape
 subst ea;subst eb
 generalize hM:min cs.length vs.length=M at *
 generalize hN:min cs2.length vs2.length=N at *
 have hMb:M+2≤(M+2) * (ka+2):=pR _ (by omega)
 have hM2:(M+2) * (ka+2)=(M+1) * (ka+2)+(ka+2):=oH _ _
 have hNb:N+2≤(N+2) * (kb+2):=pR _ (by omega)
 have hN2:(N+2) * (kb+2)=(N+1) * (kb+2)+(kb+2):=oH _ _
 refine hE.go iW (by decide) rfl ?_
 obtain⟨n3,o1,g1,g2,g3⟩:=Iu s (BL x1 (.slice a1 n1 c1) (.slice b1 m1 d1) (.slice av nv cv) (.slice ac nc cc)) (BL x2 (.slice a2 n2 c2) (.slice b2 m2 d2) (.slice av2 nv2 cv2) (.slice ac2 nc2 cc2)) ZL
 simp only[md,bo,bs,Wz,Xg,E4,Xb,Aq,Qa,Qb,Qc,Qd,Qe,Qf,Qg,Qh,Qi,Qj,Qk,Ql,Qm,Qn,true_and,and_true,Qo,Qp,Qq,Qr,Qs,Qt,Qu,Qv,Qw,Qx,Qy,Qz,Ra,Rb,Rc,Rd,Re,Rf,Rg,Rh,Ri,Rj,Rk,Rm,Rn,Ro,Rp,Rq,Rs,Ya,Yb,Yc,Rt,Ru,Za,Yd,Ye,Rx,Ry,Rz,Wa,Wb,Wc,Wd]
 generalize newObj (newObj (newObj s (BL x1 (.slice a1 n1 c1) (.slice b1 m1 d1) (.slice av nv cv) (.slice ac nc cc))) (BL x2 (.slice a2 n2 c2) (.slice b2 m2 d2) (.slice av2 nv2 cv2) (.slice ac2 nc2 cc2))) ZL=s1 at *
 have l1:=AE (P:=Tryz.prog) (t:=30) DD Cs g1 rfl
 simp only[l1,Qa,Qb,Qc,Qd,Qe,Qf,Qg,Qh,Qi,Qj,Qk,Ql,Qm,Qn,true_and,and_true,Qo,Qp,Qq,Qr,Qs,Qt,Qu,Qv,Qw,Qx,Qy,Qz,Ra,Rb,Rc,Rd,Re,Rf,Rg,Rh,Ri,Rj,Rk,Rm,Rn,Ro,Rp,Rq,Rs,Ya,Yb,Yc,Rt,Ru,Za,Yd,Ye,Rx,Ry,Rz,Wa,Wb,Wc,Wd]
 refine YO hE.toGoodN (ha0.old o1) hka (by rw[hM];omega) fun s2 v2 mi T0 o2 r2 hT0=>?_
 rw[hM]at r2
 have h2:=o2.1
 obtain⟨x,a,n,ca,d,m,cd,rfl,hP⟩:=r2
 obtain⟨n4,o3,g4⟩:=Bj s2 ZP
 have st:=F9 (cs0:=[.bool false,.slice none 0 (some 0),.slice none 0 (some 0),.map none]) rfl (x:=x) (a:=a) (n:=n) (c:=ca) (b:=d) (m:=m) (d:=cd) (mi:=mi) g4
 simp only[D2,Xb,st,Xx,Xz,Qa,Qb,Qc,Qd,Qe,Qf,Qg,Qh,Qi,Qj,Qk,Ql,Qm,Qn,true_and,and_true,Qo,Qp,Qq,Qr,Qs,Qt,Qu,Qv,Qw,Qx,Qy,Qz,Ra,Rb,Rc,Rd,Re,Rf,Rg,Rh,Ri,Rj,Rk,Rm,Rn,Ro,Rp,Rq,Rs,Ya,Yb,Yc,Rt,Ru,Za,Yd,Ye,Rx,Ry,Rz,Wa,Wb,Wc,Wd]
 generalize hs4:setObj (newObj s2 ZP) s2.next (BP x (.slice a n ca) (.slice d m cd) mi)=s4
 have o24:Ac s2.next s2 s4:=by rw[← hs4];exact o3.set (nl _) _
 have n5:s4.next=s2.next+1:=by rw[← hs4];exact n4
 have k4:s4.heap.get s2.next=some (BP x (.slice a n ca) (.slice d m cd) mi):=by rw[← hs4,Wv]
 have o12:=o1.trans (o2.mono o1.1)
 have o14:=o12.trans (o24.mono o12.1)
 have kk2:=(o24.2 (s.next+1) (by omega)).trans ((o2.2 (s.next+1) (by omega)).trans g2)
 have l2:=AE (P:=Tryz.prog) (t:=30) DD Cs kk2 rfl
 simp only[bu,l2,Qa,Qb,Qc,Qd,Qe,Qf,Qg,Qh,Qi,Qj,Qk,Ql,Qm,Qn,true_and,and_true,Qo,Qp,Qq,Qr,Qs,Qt,Qu,Qv,Qw,Qx,Qy,Qz,Ra,Rb,Rc,Rd,Re,Rf,Rg,Rh,Ri,Rj,Rk,Rm,Rn,Ro,Rp,Rq,Rs,Ya,Yb,Yc,Rt,Ru,Za,Yd,Ye,Rx,Ry,Rz,Wa,Wb,Wc,Wd]
 refine FL hE.toGoodN (n:=-1) (.inr (.inr rfl)) fun s5 v5 o5 r5=>?_
 have h5:=o5.1
 refine⟨⟨Aa (by simp only[Qa,Qb,Qc,Qd,Qe,Qf,Qg,Qh,Qi,Qj,Qk,Ql,Qm,Qn,true_and,and_true,Qo,Qp,Qq,Qr,Qs,Qt,Qu,Qv,Qw,Qx,Qy,Qz,Ra,Rb,Rc,Rd,Re,Rf,Rg,Rh,Ri,Rj,Rk,Rm,Rn,Ro,Rp,Rq,Rs,Ya,Yb,Yc,Rt,Ru,Za,Yd,Ye,Rx,Ry,Rz,Wa,Wb,Wc,Wd];exact AE DD Cs ((o5.2 (s.next+1) (by omega)).trans kk2) rfl) (Ei ..),trivial⟩,?_⟩
 simp only[Qa,Qb,Qc,Qd,Qe,Qf,Qg,Qh,Qi,Qj,Qk,Ql,Qm,Qn,true_and,and_true,Qo,Qp,Qq,Qr,Qs,Qt,Qu,Qv,Qw,Qx,Qy,Qz,Ra,Rb,Rc,Rd,Re,Rf,Rg,Rh,Ri,Rj,Rk,Rm,Rn,Ro,Rp,Rq,Rs,Ya,Yb,Yc,Rt,Ru,Za,Yd,Ye,Rx,Ry,Rz,Wa,Wb,Wc,Wd]
 have o15:=o14.trans (o5.mono o14.1)
 have hP5:=hP.old (o24.trans (o5.mono o24.1))
 have hmlo:=hP.map.lo
 have hneg1:QH ((-1:Int):Rat) 1:=⟨by decide,by decide⟩
 have g5:=(o5.2 s2.next (by omega)).trans k4
 refine Hl hE.toGoodN (b:=s1.next) (p:=s2.next) (kl:=kb) (ko:=1) (k:=1+(M+1) * (ka+2)) g5 (by omega) (by omega) hP5 (fun S f=>hb0.old (o15.trans (f.old (by omega) (by omega) (by omega)))) (fun S f=>(r5.fx g5 (by decide) hP5.map.obj f).qi hneg1) (by omega) hkb (by omega) (by rw[hN];show 2 * (1+(M+1) * (ka+2)+(N+2) * (kb+2))+1≤1000000000;omega) fun r s6 x' a' n' c'' d' m' e' T' f6 g6 hP6 hT=>?_
 have h6:=f6.1
 have l6:=AE (P:=Tryz.prog) (t:=56) J5 Hh g6 rfl
 rw[hN]at hP6
 replace hP6:=hP6.le (show _≤1+(M+1) * (ka+2)+(N+1) * (kb+2)from nl _)
 have hTl:=hT.len
 have hTl0:=hT0.len
 rw[hM]at hTl0
 rw[hN]at hTl
 simp only[pG]at hTl0
 simp only[bv,l6,Qa,Qb,Qc,Qd,Qe,Qf,Qg,Qh,Qi,Qj,Qk,Ql,Qm,Qn,true_and,and_true,Qo,Qp,Qq,Qr,Qs,Qt,Qu,Qv,Qw,Qx,Qy,Qz,Ra,Rb,Rc,Rd,Re,Rf,Rg,Rh,Ri,Rj,Rk,Rm,Rn,Ro,Rp,Rq,Rs,Ya,Yb,Yc,Rt,Ru,Za,Yd,Ye,Rx,Ry,Rz,Wa,Wb,Wc,Wd]
 refine NH hE (b:=s1.next) ⟨_,_,_,_,_,_,_,rfl,hP6⟩ (by omega) (by omega) (by omega) fun s7 w o7 r7=>?_
 obtain⟨x7,a7,n7,c7,b7,m7,d7,av7,nv7,cv7,ac7,nc7,cc7,rfl⟩:=r7.shape
 have g7:s7.heap.get (s.next+1+1)=some ZL:=by rw[o7.2 _ (by omega),f6.2 _ (by omega) (by omega) (by omega),o5.2 _ (by omega),o24.2 _ (by omega),o2.2 _ (by omega)];exact g3
 have o17:Ac s.next s s7:=by
  have:=o15.trans (f6.old (b:=s.next) (by omega) (by omega) (by omega))
  exact this.trans (o7.mono this.1)
 obtain⟨st8,ld8⟩:=C7 (cs0:=[.bool false,.slice none 0 (some 0),.slice none 0 (some 0),.slice none 0 (some 0),.slice none 0 (some 0)]) rfl (x:=x7) (a:=a7) (n:=n7) (c:=c7) (b:=b7) (m:=m7) (d:=d7) (av:=av7) (nv:=nv7) (cv:=cv7) (ac:=ac7) (nc:=nc7) (cc:=cc7) g7
 simp only[st8,ld8,AL,Xx,Xz,Qa,Qb,Qc,Qd,Qe,Qf,Qg,Qh,Qi,Qj,Qk,Ql,Qm,Qn,true_and,and_true,Qo,Qp,Qq,Qr,Qs,Qt,Qu,Qv,Qw,Qx,Qy,Qz,Ra,Rb,Rc,Rd,Re,Rf,Rg,Rh,Ri,Rj,Rk,Rm,Rn,Ro,Rp,Rq,Rs,Ya,Yb,Yc,Rt,Ru,Za,Yd,Ye,Rx,Ry,Rz,Wa,Wb,Wc,Wd]
 exact hK _ _ T0 T' (o17.set (by omega) _) ((r7.set (by omega) _).mono (by omega)) hT0 hT hP6.ch (fun t ht=>(hP6.map.ent t ht).2.1) hP6.map.nd
end
theorem XV{n:Int}{T:List Br}(h:(Ay T).Nodup):(Ay (D3 n T)).Nodup:=((Ge n T).map (fun t:Br=>t.1)).nodup h
theorem Sb(n:Int)(T:List Br):(D3 n T).length≤T.length:=(Ge n T).length_le
def hZ(n:Int)(C2:Rat)(vs2:List Int)(cs2:List Rat)(C:Rat)(T:List Br)(C':Rat)(T':List Br):Prop:=
 (EQ n T=none∧C'=C∧T'=T)∨(EQ n T≠none∧C'=C+C2 * CG n T∧Ed (CG n T) vs2 cs2 (D3 n T) T')
section
variable{E:CP}{s:AD}
theorem jg     (hE : C5    E) {va vb : AV} {C C2 : Rat} {vs vs2 : List Int} {cs cs2 : List Rat} {ka kb : Nat} {n : Int} (hn : i64 n) (ha : LI s va C vs cs ka) (hb' : LI s vb C2 vs2 cs2 kb) (hka : 1 ≤ ka) (hkb : 1 ≤ kb) {M N k1 k2 : Nat} (hM : min cs.length vs.length = M) (hN : min cs2.length vs2.length = N)
    (hk1:k1=1+(M+1) * (ka+2)) (hk2:k2=k1+(N+1) * (kb+k1+1)) (hb:2 * (k2+(ka+2)+(kb+k1+1))+1≤1000000) {K:AV→AD→Prop}
    (hK:∀s' w T0 C' T,Ac s.next s s'→LR s.next s' w C' (C8 T)→Ed 1 vs cs [] T0→hZ n C2 vs2 cs2 C T0 C' T→QH C' k2→(∀t∈T,QH t.2.1 k2)→(Ay T).Nodup→(Ay T0).Nodup→K w s'):WF E 10 [va,iv n,vb] K s:=by
  have ha0:=ha
  have hb0:=hb'
  obtain⟨x1,a1,n1,c1,b1,m1,d1,av,nv,cv,ac,nc,cc,ea⟩:=ha.shape
  obtain⟨x2,a2,n2,c2,b2,m2,d2,av2,nv2,cv2,ac2,nc2,cc2,eb⟩:=hb'.shape
  subst ea;subst eb
  have hMb:M+1≤(M+1) * (ka+2):=pR _ (by omega)
  have hM2:(M+2) * (ka+2)=(M+1) * (ka+2)+(ka+2):=oH _ _
  have hNb:N+1≤(N+1) * (kb+k1+1):=pR _ (by omega)
  have hN2:(N+2) * (kb+k1+1)=(N+1) * (kb+k1+1)+(kb+k1+1):=oH _ _
  refine hE.go iT (by decide) rfl ?_
  obtain⟨n3,o1,g1,g2,g3⟩:=Iu s (BL x1 (.slice a1 n1 c1) (.slice b1 m1 d1) (.slice av nv cv) (.slice ac nc cc)) (BL x2 (.slice a2 n2 c2) (.slice b2 m2 d2) (.slice av2 nv2 cv2) (.slice ac2 nc2 cc2)) ZL
  simp only[mY,bI,bJ,Wz,Xg,E4,Xb,Aq,Qa,Qb,Qc,Qd,Qe,Qf,Qg,Qh,Qi,Qj,Qk,Ql,Qm,Qn,true_and,and_true,Qo,Qp,Qq,Qr,Qs,Qt,Qu,Qv,Qw,Qx,Qy,Qz,Ra,Rb,Rc,Rd,Re,Rf,Rg,Rh,Ri,Rj,Rk,Rm,Rn,Ro,Rp,Rq,Rs,Ya,Yb,Yc,Rt,Ru,Za,Yd,Ye,Rx,Ry,Rz,Wa,Wb,Wc,Wd]
  generalize newObj (newObj (newObj s (BL x1 (.slice a1 n1 c1) (.slice b1 m1 d1) (.slice av nv cv) (.slice ac nc cc))) (BL x2 (.slice a2 n2 c2) (.slice b2 m2 d2) (.slice av2 nv2 cv2) (.slice ac2 nc2 cc2))) ZL=s1 at *
  have l1:=AE (P:=Tryz.prog) (t:=30) DD Cs g1 rfl
  simp only[l1,Qa,Qb,Qc,Qd,Qe,Qf,Qg,Qh,Qi,Qj,Qk,Ql,Qm,Qn,true_and,and_true,Qo,Qp,Qq,Qr,Qs,Qt,Qu,Qv,Qw,Qx,Qy,Qz,Ra,Rb,Rc,Rd,Re,Rf,Rg,Rh,Ri,Rj,Rk,Rm,Rn,Ro,Rp,Rq,Rs,Ya,Yb,Yc,Rt,Ru,Za,Yd,Ye,Rx,Ry,Rz,Wa,Wb,Wc,Wd]
  refine YO hE.toGoodN (ha0.old o1) hka (by rw[hM];omega) fun s2 v2 mi T0 o2 r2 hT0=>?_
  rw[hM,← hk1]at r2
  have h2:=o2.1
  have hTl0:=hT0.len
  rw[hM]at hTl0
  simp only[pG]at hTl0
  obtain⟨x,a,nn,ca,d,m,cd,rfl,hP⟩:=r2
  obtain⟨n4,o3,g4⟩:=Bj s2 ZP
  have st:=F9 (cs0:=[.bool false,.slice none 0 (some 0),.slice none 0 (some 0),.map none]) rfl (x:=x) (a:=a) (n:=nn) (c:=ca) (b:=d) (m:=m) (d:=cd) (mi:=mi) g4
  simp only[D2,Xb,st,Xx,Xz,Qa,Qb,Qc,Qd,Qe,Qf,Qg,Qh,Qi,Qj,Qk,Ql,Qm,Qn,true_and,and_true,Qo,Qp,Qq,Qr,Qs,Qt,Qu,Qv,Qw,Qx,Qy,Qz,Ra,Rb,Rc,Rd,Re,Rf,Rg,Rh,Ri,Rj,Rk,Rm,Rn,Ro,Rp,Rq,Rs,Ya,Yb,Yc,Rt,Ru,Za,Yd,Ye,Rx,Ry,Rz,Wa,Wb,Wc,Wd]
  generalize hs4:setObj (newObj s2 ZP) s2.next (BP x (.slice a nn ca) (.slice d m cd) mi)=s4
  have o24:Ac s2.next s2 s4:=by rw[← hs4];exact o3.set (nl _) _
  have n5:s4.next=s2.next+1:=by rw[← hs4];exact n4
  have k4:s4.heap.get s2.next=some (BP x (.slice a nn ca) (.slice d m cd) mi):=by rw[← hs4,Wv]
  have o12:=o1.trans (o2.mono o1.1)
  have o14:=o12.trans (o24.mono o12.1)
  have hP4:=hP.old o24
  have hmlo:=hP.map.lo
  have hmlt:=hP.map.lt
  have kk2:=(o24.2 (s.next+1) (by omega)).trans ((o2.2 (s.next+1) (by omega)).trans g2)
  have kk3:=(o24.2 (s.next+1+1) (by omega)).trans ((o2.2 (s.next+1+1) (by omega)).trans g3)
  have lm:=AX (P:=Tryz.prog) (t:=54) (o:=0+3) Pn k4 rfl
  have lk:=On hP4.map.obj hn
  obtain⟨n6,o6,g6⟩:=Bj s4 ZQ
  simp only[bK,lm,lk,Za,BU,Xb,Ik,Xx,Qa,Qb,Qc,Qd,Qe,Qf,Qg,Qh,Qi,Qj,Qk,Ql,Qm,Qn,true_and,and_true,Qo,Qp,Qq,Qr,Qs,Qt,Qu,Qv,Qw,Qx,Qy,Qz,Ra,Rb,Rc,Rd,Re,Rf,Rg,Rh,Ri,Rj,Rk,Rm,Rn,Ro,Rp,Rq,Rs,Ya,Yb,Yc,Rt,Ru,Za,Yd,Ye,Rx,Ry,Rz,Wa,Wb,Wc,Wd]
  have fin:∀ (s6:AD) (x':Bool) (a' d':Option (Nat×Nat)) (n' m':Nat) (c'' e':Option Nat) (C':Rat) (T':List Br),Ac s.next s s6→s1.next≤s6.next→s6.heap.get (s.next+1+1)=some ZL→EA s1.next s6 (.agg [.bool x',.slice a' n' c'',.slice d' m' e']) mi C' T' k2→T'.length≤M+N→hZ n C2 vs2 cs2 C T0 C' T'→∀K2:AV→AD→Prop,
      (∀s7 x7 a7 n7 c7 b7 m7 d7 av7 nv7 cv7 ac7 nc7 cc7,AK Tryz.prog s7 30 (.ptr (some (s.next+1+1,0))) (.agg [.bool x7,.slice a7 n7 c7,.slice b7 m7 d7,.slice av7 nv7 cv7,.slice ac7 nc7 cc7])=some (setObj s7 (s.next+1+1) (BL x7 (.slice a7 n7 c7) (.slice b7 m7 d7) (.slice av7 nv7 cv7) (.slice ac7 nc7 cc7))) →
        AC Tryz.prog (setObj s7 (s.next+1+1) (BL x7 (.slice a7 n7 c7) (.slice b7 m7 d7) (.slice av7 nv7 cv7) (.slice ac7 nc7 cc7))) 30 (.ptr (some (s.next+1+1,0)))=some (.agg [.bool x7,.slice a7 n7 c7,.slice b7 m7 d7,.slice av7 nv7 cv7,.slice ac7 nc7 cc7]) →
        K (.agg [.bool x7,.slice a7 n7 c7,.slice b7 m7 d7,.slice av7 nv7 cv7,.slice ac7 nc7 cc7]) (setObj s7 (s.next+1+1) (BL x7 (.slice a7 n7 c7) (.slice b7 m7 d7) (.slice av7 nv7 cv7) (.slice ac7 nc7 cc7))) →
        K2 (.agg [.bool x7,.slice a7 n7 c7,.slice b7 m7 d7,.slice av7 nv7 cv7,.slice ac7 nc7 cc7]) s7) →
      WF E 33 [.agg [.bool x',.slice a' n' c'',.slice d' m' e',.map (some mi)]] K2 s6:=by
    intro s6 x' a' d' n' m' c'' e' C' T' os6 hs6 gz hP6 hTl6 hPut K2 hK2
    refine NH hE (b:=s1.next) ⟨_,_,_,_,_,_,_,rfl,hP6⟩ (by omega) (by omega) (by omega) fun s7 w o7 r7=>?_
    obtain⟨x7,a7,n7,c7,b7,m7,d7,av7,nv7,cv7,ac7,nc7,cc7,rfl⟩:=r7.shape
    have g7:s7.heap.get (s.next+1+1)=some ZL:=by rw[o7.2 _ (by omega)];exact gz
    obtain⟨st8,ld8⟩:=C7 (cs0:=[.bool false,.slice none 0 (some 0),.slice none 0 (some 0),.slice none 0 (some 0),.slice none 0 (some 0)]) rfl (x:=x7) (a:=a7) (n:=n7) (c:=c7) (b:=b7) (m:=m7) (d:=d7) (av:=av7) (nv:=nv7) (cv:=cv7) (ac:=ac7) (nc:=nc7) (cc:=cc7) g7
    exact hK2 _ _ _ _ _ _ _ _ _ _ _ _ _ _ st8 ld8 (hK _ _ T0 C' T' ((os6.trans (o7.mono os6.1)).set (by omega) _) ((r7.set (by omega) _).mono (by omega)) hT0 hPut hP6.ch (fun t ht=>(hP6.map.ent t ht).2.1) hP6.map.nd hP.map.nd)
  cases hg:EQ n T0 with
  | none =>
    have st6:=Aj (P:=Tryz.prog) (t:=26) (cs:=[.bool false,.slice none 0 (some 0),.slice none 0 (some 0)]) Ar g6 rfl rfl rfl (by simp)
    generalize hs7:setObj (newObj s4 ZQ) s4.next (R 26 0 false [.bool false,.slice none 0 (some 0),.slice none 0 (some 0)])=s7 at st6
    have o47:Ac s4.next s4 s7:=by rw[← hs7];exact o6.set (nl _) _
    have l7:=AE (P:=Tryz.prog) (t:=56) J5 Hh ((o47.2 s2.next (by omega)).trans k4) rfl
    have h47:=o47.1
    simp only[Option.isSome,Uj,bL,st6,l7,Wd,Bool.not_false,Xz,Qa,Qb,Qc,Qd,Qe,Qf,Qg,Qh,Qi,Qj,Qk,Ql,Qm,Qn,true_and,and_true,Qo,Qp,Qq,Qr,Qs,Qt,Qu,Qv,Qw,Qx,Qy,Qz,Ra,Rb,Rc,Rd,Re,Rf,Rg,Rh,Ri,Rj,Rk,Rm,Rn,Ro,Rp,Rq,Rs,Ya,Yb,Yc,Rt,Ru,Za,Yd,Ye,Rx,Ry,Rz,Wa,Wb,Wc,Wd]
    refine fin s7 x a d nn m ca cd C T0 (o14.trans (o47.mono o14.1)) (by omega) ((o47.2 _ (by omega)).trans kk3) ((hP4.old o47).le (by omega)) (by omega) (.inl ⟨hg,rfl,rfl⟩) _ fun s7 x7 a7 n7 c7 b7 m7 d7 av7 nv7 cv7 ac7 nc7 cc7 st8 ld8 hk8=>?_
    simp only[st8,ld8,AL,Xx,Xz,Qa,Qb,Qc,Qd,Qe,Qf,Qg,Qh,Qi,Qj,Qk,Ql,Qm,Qn,true_and,and_true,Qo,Qp,Qq,Qr,Qs,Qt,Qu,Qv,Qw,Qx,Qy,Qz,Ra,Rb,Rc,Rd,Re,Rf,Rg,Rh,Ri,Rj,Rk,Rm,Rn,Ro,Rp,Rq,Rs,Ya,Yb,Yc,Rt,Ru,Za,Yd,Ye,Rx,Ry,Rz,Wa,Wb,Wc,Wd]
    exact hk8
  | some pq =>
    have hmem:=FE hg
    obtain⟨e1,e2,_⟩:=hP4.map.ent _ hmem
    simp only at e1 e2
    have hval:CG n T0=pq.1:=by unfold CG;rw[hg]
    obtain⟨xx,aa,nq,kk,bb,mm,ee,hce⟩:=e1.shape
    have st6:=Aj (P:=Tryz.prog) (t:=26) (cs:=[.bool xx,.slice aa nq kk,.slice bb mm ee]) Ar g6 rfl rfl rfl (by simp)
    rw[← hce]at st6
    generalize hs7:setObj (newObj s4 ZQ) s4.next (R 26 0 false [.bool xx,.slice aa nq kk,.slice bb mm ee])=s7 at st6
    have o47:Ac s4.next s4 s7:=by rw[← hs7];exact o6.set (nl _) _
    have h47:=o47.1
    have n7:s7.next=s4.next+1:=by rw[← hs7];exact n6
    have g7:s7.heap.get s4.next=some (BQ xx (.slice aa nq kk) (.slice bb mm ee)):=by rw[← hs7,Wv]
    have k7:=(o47.2 s2.next (by omega)).trans k4
    have hP7:=hP4.old o47
    have lm7:=AX (P:=Tryz.prog) (t:=54) (o:=0+3) Pn k7 rfl
    have dl:=XW hP7.map.obj hn (by rw[hg];simp)
    generalize hs8:setObj s7 mi (.map 3 (Fu (D3 n T0)))=s8 at dl
    have n8:s8.next=s7.next:=by rw[← hs8];rfl
    have f8:∀j,j≠mi→s8.heap.get j=s7.heap.get j:=fun j hj=>by rw[← hs8,Ww _ hj]
    have hu8:∀j,j<s7.next→UL s7 j→s8.heap.get j=s7.heap.get j:=fun j _ hj=>f8 j (Ex hP7.map.obj hj)
    have ho8:s8.heap.get mi=some (.map 3 (Fu (D3 n T0))):=by rw[← hs8,Wv]
    have hP8:EA s1.next s8 (.agg [.bool x,.slice a nn ca,.slice d m cd]) mi C (D3 n T0) k1:=
      ⟨hP7.cq.keepS (oU n8.symm) hu8,hP7.ch,⟨ho8,hP7.map.lo,by rw[n8];exact hP7.map.lt,fun t ht=>by
        have ht':=(Ge n T0).subset ht
        obtain⟨q1,q2⟩:=hP7.map.ent t ht'
        exact⟨q1.keepS (oU n8.symm) hu8,q2⟩,XV hP7.map.nd,hP7.map.dj.sublist (Ge n T0)⟩,fun t ht=>hP7.dj t ((Ge n T0).subset ht)⟩
    have e8:QR s1.next s8 pq.2 pq.1:=(e1.old o47).keepS (oU n8.symm) hu8
    have k8:=(f8 s2.next (by omega)).trans k7
    have l8:=AE (P:=Tryz.prog) (t:=30) DD Cs ((f8 (s.next+1) (by omega)).trans ((o47.2 _ (by omega)).trans kk2)) rfl
    have l9:=AE (P:=Tryz.prog) (t:=26) A9 Ar ((f8 s4.next (by omega)).trans g7) rfl
    rw[← hce]at l9
    have o18:Ac s1.next s1 s8:=by
      have:Ac s1.next s1 s7:=o2.trans ((o24.trans (o47.mono o24.1)).mono o2.1)
      exact⟨by have:=this.1;omega,fun j hj=>by rw[f8 j (by omega),this.2 j hj]⟩
    have os8:=o1.trans (o18.mono o1.1)
    simp only[Option.isSome,Uj,bM,bN,st6,lm7,dl,l8,l9,Wd,Bool.not_true,Ik,Xx,Xz,Qa,Qb,Qc,Qd,Qe,Qf,Qg,Qh,Qi,Qj,Qk,Ql,Qm,Qn,true_and,and_true,Qo,Qp,Qq,Qr,Qs,Qt,Qu,Qv,Qw,Qx,Qy,Qz,Ra,Rb,Rc,Rd,Re,Rf,Rg,Rh,Ri,Rj,Rk,Rm,Rn,Ro,Rp,Rq,Rs,Ya,Yb,Yc,Rt,Ru,Za,Yd,Ye,Rx,Ry,Rz,Wa,Wb,Wc,Wd]
    refine Hl hE.toGoodN (b:=s1.next) (p:=s2.next) (kl:=kb) (ko:=k1) (k:=k1) k8 (by omega) (by omega) hP8 (fun S f=>hb0.old (os8.trans (f.old (by omega) (by omega) (by omega)))) (fun S f=>(e8.fx k8 (by decide) ho8 f).qi e2) (by omega) hkb (by omega) (by rw[hN];omega) fun r s9 x' a' n' c'' d' m' e' T' f9 g9 hP9 hT=>?_
    have h9:=f9.1
    rw[hN,← hk2]at hP9
    have hTl:=hT.len
    rw[hN]at hTl
    have hdl:=Sb n T0
    have l10:=AE (P:=Tryz.prog) (t:=56) J5 Hh g9 rfl
    simp only[bO,l10,Qa,Qb,Qc,Qd,Qe,Qf,Qg,Qh,Qi,Qj,Qk,Ql,Qm,Qn,true_and,and_true,Qo,Qp,Qq,Qr,Qs,Qt,Qu,Qv,Qw,Qx,Qy,Qz,Ra,Rb,Rc,Rd,Re,Rf,Rg,Rh,Ri,Rj,Rk,Rm,Rn,Ro,Rp,Rq,Rs,Ya,Yb,Yc,Rt,Ru,Za,Yd,Ye,Rx,Ry,Rz,Wa,Wb,Wc,Wd]
    have os9:Ac s.next s s9:=os8.trans (f9.old (by omega) (by omega) (by omega))
    refine fin s9 x' a' d' n' m' c'' e' (C+C2 * pq.1) T' os9 (by omega) (by rw[f9.2 _ (by omega) (by omega) (by omega),f8 _ (by omega),o47.2 _ (by omega)];exact kk3) hP9 (by omega) (.inr ⟨by rw[hg];simp,by rw[hval],by rw[hval];exact hT⟩) _ fun s7 x7 a7 n7 c7 b7 m7 d7 av7 nv7 cv7 ac7 nc7 cc7 st8 ld8 hk8=>?_
    simp only[st8,ld8,AL,Xx,Xz,Qa,Qb,Qc,Qd,Qe,Qf,Qg,Qh,Qi,Qj,Qk,Ql,Qm,Qn,true_and,and_true,Qo,Qp,Qq,Qr,Qs,Qt,Qu,Qv,Qw,Qx,Qy,Qz,Ra,Rb,Rc,Rd,Re,Rf,Rg,Rh,Ri,Rj,Rk,Rm,Rn,Ro,Rp,Rq,Rs,Ya,Yb,Yc,Rt,Ru,Za,Yd,Ye,Rx,Ry,Rz,Wa,Wb,Wc,Wd]
    exact hk8
theorem UW(x:Bool)(a b av ac:Option (Nat×Nat))(n m nv nc:Nat)(c d cv cc:Option Nat):Cz Tryz.prog 30 (zipIdx [0,1,2] [.agg [.bool x,.slice a n c,.slice b m d],.slice av nv cv,.slice ac nc cc])=some (.agg [.bool x,.slice a n c,.slice b m d,.slice av nv cv,.slice ac nc cc]):=by kernel_rfl
theorem jq(hE:GoodN E){n:Int}(hn:i64 n){K:AV→AD→Prop}(hK:∀s' w,Ac s.next s s'→LI s' w 0 [n] [1] 1→K w s'):WF E 30 [iv n] K s:=by
 refine hE.go ic (by decide) rfl ?_
 obtain⟨n1,o1,g1⟩:=Bj s ZL
 simp only[mo,cT,cU,E4,Xb,Qa,Qb,Qc,Qd,Qe,Qf,Qg,Qh,Qi,Qj,Qk,Ql,Qm,Qn,true_and,and_true,Qo,Qp,Qq,Qr,Qs,Qt,Qu,Qv,Qw,Qx,Qy,Qz,Ra,Rb,Rc,Rd,Re,Rf,Rg,Rh,Ri,Rj,Rk,Rm,Rn,Ro,Rp,Rq,Rs,Ya,Yb,Yc,Rt,Ru,Za,Yd,Ye,Rx,Ry,Rz,Wa,Wb,Wc,Wd]
 generalize newObj s ZL=s1 at *
 refine Kr hE fun s2 v2 o2 r2=>?_
 have h2:=o2.1
 obtain⟨n3,o3,g3⟩:=Bj s2 (R 3 1 false [iv n])
 simp only[IN,Xd,Qa,Qb,Qc,Qd,Qe,Qf,Qg,Qh,Qi,Qj,Qk,Ql,Qm,Qn,true_and,and_true,Qo,Qp,Qq,Qr,Qs,Qt,Qu,Qv,Qw,Qx,Qy,Qz,Ra,Rb,Rc,Rd,Re,Rf,Rg,Rh,Ri,Rj,Rk,Rm,Rn,Ro,Rp,Rq,Rs,Ya,Yb,Yc,Rt,Ru,Za,Yd,Ye,Rx,Ry,Rz,Wa,Wb,Wc,Wd]
 generalize newObj s2 (R 3 1 false [iv n])=s3 at *
 refine FL hE (n:=1) (.inr (.inl rfl)) fun s4 v4 o4 r4=>?_
 have h4:=o4.1
 have r2':=(r2.old o3).old o4
 obtain⟨x2,a2,n2,c2,b2,m2,d2,rfl⟩:=r2.shape
 obtain⟨x4,a4,n4,c4,b4,m4,d4,rfl⟩:=r4.shape
 obtain⟨n5,o5,g5⟩:=Bj s4 (R 26 3 false [.bool x4,.slice a4 n4 c4,.slice b4 m4 d4])
 simp only[FN,Xd,Qa,Qb,Qc,Qd,Qe,Qf,Qg,Qh,Qi,Qj,Qk,Ql,Qm,Qn,true_and,and_true,Qo,Qp,Qq,Qr,Qs,Qt,Qu,Qv,Qw,Qx,Qy,Qz,Ra,Rb,Rc,Rd,Re,Rf,Rg,Rh,Ri,Rj,Rk,Rm,Rn,Ro,Rp,Rq,Rs,Ya,Yb,Yc,Rt,Ru,Za,Yd,Ye,Rx,Ry,Rz,Wa,Wb,Wc,Wd]
 generalize newObj s4 (R 26 3 false [.bool x4,.slice a4 n4 c4,.slice b4 m4 d4])=s5 at *
 have gz:s5.heap.get s.next=some ZL:=by rw[o5.2 _ (by omega),o4.2 _ (by omega),o3.2 _ (by omega),o2.2 _ (by omega)];exact g1
 obtain⟨st,ld⟩:=C7 (cs0:=[.bool false,.slice none 0 (some 0),.slice none 0 (some 0),.slice none 0 (some 0),.slice none 0 (some 0)]) rfl (x:=x2) (a:=a2) (n:=n2) (c:=c2) (b:=b2) (m:=m2) (d:=d2) (av:=some (s2.next,0)) (nv:=1) (cv:=some 1) (ac:=some (s4.next,0)) (nc:=1) (cc:=some 1) gz
 simp only[UW,st,ld,AL,Xx,Xz,Qa,Qb,Qc,Qd,Qe,Qf,Qg,Qh,Qi,Qj,Qk,Ql,Qm,Qn,true_and,and_true,Qo,Qp,Qq,Qr,Qs,Qt,Qu,Qv,Qw,Qx,Qy,Qz,Ra,Rb,Rc,Rd,Re,Rf,Rg,Rh,Ri,Rj,Rk,Rm,Rn,Ro,Rp,Rq,Rs,Ya,Yb,Yc,Rt,Ru,Za,Yd,Ye,Rx,Ry,Rz,Wa,Wb,Wc,Wd]
 have o35:Ac s3.next s3 s5:=o4.trans (o5.mono h4)
 have o15:Ac s1.next s1 s5:=o2.trans ((o3.trans (o35.mono o3.1)).mono h2)
 have o05:=o1.trans (o15.mono o1.1)
 generalize hs6:setObj s5 s.next (BL x2 (.slice a2 n2 c2) (.slice b2 m2 d2) (.slice (some (s2.next,0)) 1 (some 1)) (.slice (some (s4.next,0)) 1 (some 1)))=s6
 have f6:∀j,j≠s.next→s6.heap.get j=s5.heap.get j:=fun j hj=>by rw[← hs6,Ww _ hj]
 have n6:s6.next=s5.next:=by rw[← hs6];rfl
 have q2:QR s1.next s6 (.agg [.bool x2,.slice a2 n2 c2,.slice b2 m2 d2]) 0:=by rw[← hs6];exact(r2'.old o5).set (by omega) _
 have q4:QR s3.next s6 (.agg [.bool x4,.slice a4 n4 c4,.slice b4 m4 d4]) ((1:Int):Rat):=by rw[← hs6];exact(r4.old o5).set (by omega) _
 have k3:s6.heap.get s2.next=some (R 3 1 false [iv n]):=by rw[f6 _ (by omega),o5.2 _ (by omega),o4.2 _ (by omega)];exact g3
 have k5:s6.heap.get s4.next=some (R 26 3 false [.bool x4,.slice a4 n4 c4,.slice b4 m4 d4]):=by rw[f6 _ (by omega)];exact g5
 have hone:QH ((1:Int):Rat) 1:=⟨by decide,by decide⟩
 refine hK _ _ (by rw[← hs6];exact o05.set (nl _) _) ⟨x2,a2,n2,c2,b2,m2,d2,_,_,_,_,[.bool x4,.slice a4 n4 c4,.slice b4 m4 d4],rfl,q2.qi jv,Ew k3 (by omega),fun z hz=>by rw[List.mem_singleton.1 hz];exact hn,⟨rfl,Ew k5 (by omega),fun i q hi=>?_⟩,.inl ⟨1,rfl,nl _,fun e=>by cases e⟩,.inl ⟨1,rfl,nl _,fun e=>by cases e⟩⟩
 cases i with
 | zero =>
  cases hi
  exact q4.qi hone
 | succ i=>cases hi
end
inductive Ec:List (Rat×List Int×List Rat)→Rat→List Br→Rat→List Br→Prop
 | nil (c:Rat) (T:List Br):Ec [] c T c T
 | cons {C:Rat} {vs:List Int} {cs:List Rat} {L:List (Rat×List Int×List Rat)} {c c':Rat} {T T1 T':List Br} (h:Ed 1 vs cs T T1) (hs:Ec L (c+C) T1 c' T'):Ec ((C,vs,cs)::L) c T c' T'
theorem Ec.ev{L:List (Rat×List Int×List Rat)}{c c':Rat}{T T':List Br}(h:Ec L c T c' T')(a:Int→Rat):c'+F2 a T'=c+F2 a T+(L.map fun l=>l.1+Bu a l.2.1 l.2.2).sum:=by
 induction h with
 | nil c T=>simp[Rat.add_zero]
 | @cons C vs cs L c c' T T1 T' h hs ih =>
  rw[ih,h.ev a,pM,List.sum_cons,Rat.mul_one]
  generalize (L.map fun l=>l.1+Bu a l.2.1 l.2.2).sum=z
  generalize Bu a vs cs=y
  generalize F2 a T=w
  show c+C+(w+y)+z=c+w+(C+y+z)
  rw[Rat.add_assoc c C,Rat.add_assoc c,Rat.add_assoc c]
  congr 1
  rw[← Rat.add_assoc C w y,Rat.add_comm C w,Rat.add_assoc w C y,Rat.add_assoc w]
section
variable{E:CP}{s:AD}
theorem TM(hE:C5 E){s0:AD}{b p mi ri kl M k0:Nat}{rows:List AV}{L:List (Rat×List Int×List Rat)}(hri:ri<s0.next)(hrow:s0.heap.get ri=some (R 30 5 false rows))(hrl:rows.length=L.length * 5)
    (hel:∀ (i:Nat) (l:Rat×List Int×List Rat),L[i]? = some l→LI s0 (.agg ((rows.drop (i * 5)).take 5)) l.1 l.2.1 l.2.2 kl∧min l.2.2.length l.2.1.length≤M) (hkl:1≤kl) (hk0:1≤k0) (hp:s0.next≤p) (hmi:s0.next≤mi) (hb0:b≤p) (hb:2 * (k0+(L.length+1) * ((M+2) * (kl+2)))+1≤1000000)
    {c0:Rat} {T0:List Br} {Q:A5→Prop} {y0 y1:AV}
    (hq:∀ (S:AD) (c':Rat) (T':List Br) (x':Bool) (a' d':Option (Nat×Nat)) (n' m':Nat) (cc' e':Option Nat) (y3 y6 y7:AV),Ac s0.next s0 S→p<S.next→S.heap.get p=some (BP x' (.slice a' n' cc') (.slice d' m' e') mi)→EA b S (.agg [.bool x',.slice a' n' cc',.slice d' m' e']) mi c' T' (k0+L.length * ((M+2) * (kl+2)))→Ec L c0 T0 c' T'→(∀j,s0.next≤j→j<p→j≠mi→S.heap.get j=S.heap.get j) →
      Q ⟨.exit 0,[y0,y1,.ptr (some (p,0)),y3,.slice (some (ri,0)) L.length (some L.length),iv (L.length:Int),y6,y7],[],S⟩):
    ∀ (r : List (Rat × List Int × List Rat)) (i : Nat) (S : AD)  (c : Rat) (T : List Br)  (x : Bool) (a d : Option (Nat × Nat)) (n m : Nat) (cc e : Option Nat) (x3 x7 : AV), L.drop i = r → i ≤ L.length → Ac  s0.next s0 S → p < S.next → S.heap.get p = some (BP x (.slice a n cc) (.slice d m e) mi) → EA   b S (.agg [.bool x, .slice a n cc, .slice d m e]) mi c T (k0 + i * ((M + 2) * (kl + 2))) → (∀ c' T', Ec     r c T c' T' → Ec     L c0 T0 c' T') →
      (∀ (z:Nat) (o:A8),s0.next≤z→z<p→z≠mi→S.heap.get z=some o→True) →
      WC E none (.loop OD) Q [y0,y1,.ptr (some (p,0)),x3,.slice (some (ri,0)) L.length (some L.length),iv (L.length:Int),iv (i:Int),x7] [] S:=by
  have hMk:(M+1) * (kl+2)+(kl+2)=(M+2) * (kl+2):=(oH _ _).symm
  have hLL:(L.length+1) * ((M+2) * (kl+2))=L.length * ((M+2) * (kl+2))+(M+2) * (kl+2):=oH _ _
  have hLb:L.length+1≤(L.length+1) * ((M+2) * (kl+2)):=pR _ (pg (by omega) (by omega))
  intro r
  induction r with
  | nil =>
    intro i S c T x a d n m cc e x3 x7 hd hi ho hpS g hP hA _
    have e:i=L.length:=by
      have:=congrArg List.length hd
      simp at this
      omega
    subst e
    have dd:decide ((L.length:Int)<(L.length:Int))=false:=decide_eq_false (by omega)
    refine WC.loop' ?_
    simp only[OD,V2,Rx,dd,Qa,Qb,Qc,Qd,Qe,Qf,Qg,Qh,Qi,Qj,Qk,Ql,Qm,Qn,true_and,and_true,Qo,Qp,Qq,Qr,Qs,Qt,Qu,Qv,Qw,Qx,Qy,Qz,Ra,Rb,Rc,Rd,Re,Rf,Rg,Rh,Ri,Rj,Rk,Rm,Rn,Ro,Rp,Rq,Rs,Ya,Yb,Yc,Rt,Ru,Za,Yd,Ye,Rx,Ry,Rz,Wa,Wb,Wc,Wd]
    exact hq S c T _ _ _ _ _ _ _ _ _ _ ho hpS g hP (hA c T (.nil c T)) (fun _ _ _ _=>rfl)
  | cons l r ih =>
    intro i S c T x a d n m cc e x3 x7 hd hi ho hpS g hP hA _
    obtain⟨C,vs,cs⟩:=l
    have hlt:i<L.length:=by
      rcases nm i L.length with h' | h'
      · exact h'
      · rw[oo h']at hd;cases hd
    have hl:L[i]? = some (C,vs,cs):=by
      have:=congrArg (fun l=>l[0]?) hd
      simpa using this
    have hd':L.drop (i+1)=r:=by
      have:=congrArg (List.drop 1) hd
      simpa[pF]using this
    obtain⟨hLI,hm⟩:=hel i _ hl
    simp only at hLI hm
    have dd:decide ((i:Int)<(L.length:Int))=true:=decide_eq_true (by omega)
    have ix:=An (cap:=some L.length) (i:=ri) (o:=0) (n:=5) Tryz.underlying46 Cs hlt
    have hle:(i+1) * 5≤L.length * 5:=oC _ hlt
    have ld:AC Tryz.prog S 30 (.ptr (some (ri,0+i * 5)))=some (.agg ((rows.drop (i * 5)).take 5)):=by
      rw[oG]
      exact Au (o:=i * 5) (n:=5) DD Cs ((ho.2 ri hri).trans hrow) (by omega)
    obtain⟨x1,a1,n1,c1,b1,m1,d1,av,nv,cv,ac,nc,cc1,hsh⟩:=hLI.shape
    generalize (rows.drop (i * 5)).take 5=rw5 at *
    injection hsh with hsh
    subst hsh
    obtain⟨n2,o2,g2⟩:=Bj S ZL
    have e17:=Bh Tryz.prog 3 (i:Int) 1 ⟨by omega,by omega⟩
    have e17':((i:Int)+1)=((i+1:Nat):Int):=by omega
    obtain⟨st,lb⟩:=C7 (cs0:=[.bool false,.slice none 0 (some 0),.slice none 0 (some 0),.slice none 0 (some 0),.slice none 0 (some 0)]) rfl (x:=x1) (a:=a1) (n:=n1) (c:=c1) (b:=b1) (m:=m1) (d:=d1) (av:=av) (nv:=nv) (cv:=cv) (ac:=ac) (nc:=nc) (cc:=cc1) g2
    refine WC.loop' ?_
    generalize hW:WC E none (Af.loop OD) Q=WW
    simp only[OD,V2,bh,bj,Rx,dd,ix,ld,E4,Xb,st,lb,Xx,Xz,Qa,Qb,Qc,Qd,Qe,Qf,Qg,Qh,Qi,Qj,Qk,Ql,Qm,Qn,true_and,and_true,Qo,Qp,Qq,Qr,Qs,Qt,Qu,Qv,Qw,Qx,Qy,Qz,Ra,Rb,Rc,Rd,Re,Rf,Rg,Rh,Ri,Rj,Rk,Rm,Rn,Ro,Rp,Rq,Rs,Ya,Yb,Yc,Rt,Ru,Za,Yd,Ye,Rx,Ry,Rz,Wa,Wb,Wc,Wd]
    generalize hs3:setObj (newObj S ZL) S.next (BL x1 (.slice a1 n1 c1) (.slice b1 m1 d1) (.slice av nv cv) (.slice ac nc cc1))=s3
    have o3:Ac S.next S s3:=by rw[← hs3];exact o2.set (nl _) _
    have n3:s3.next=S.next+1:=by rw[← hs3];exact n2
    have g3:s3.heap.get S.next=some (BL x1 (.slice a1 n1 c1) (.slice b1 m1 d1) (.slice av nv cv) (.slice ac nc cc1)):=by rw[← hs3,Wv]
    refine FL hE.toGoodN (n:=1) (.inr (.inl rfl)) fun s4 v4 o4 r4=>?_
    have h4:=o4.1
    refine⟨⟨Aa (by simp only[Qa,Qb,Qc,Qd,Qe,Qf,Qg,Qh,Qi,Qj,Qk,Ql,Qm,Qn,true_and,and_true,Qo,Qp,Qq,Qr,Qs,Qt,Qu,Qv,Qw,Qx,Qy,Qz,Ra,Rb,Rc,Rd,Re,Rf,Rg,Rh,Ri,Rj,Rk,Rm,Rn,Ro,Rp,Rq,Rs,Ya,Yb,Yc,Rt,Ru,Za,Yd,Ye,Rx,Ry,Rz,Wa,Wb,Wc,Wd];exact AE DD Cs ((o4.2 S.next (by omega)).trans g3) rfl) (Ei ..),trivial⟩,?_⟩
    simp only[Qa,Qb,Qc,Qd,Qe,Qf,Qg,Qh,Qi,Qj,Qk,Ql,Qm,Qn,true_and,and_true,Qo,Qp,Qq,Qr,Qs,Qt,Qu,Qv,Qw,Qx,Qy,Qz,Ra,Rb,Rc,Rd,Re,Rf,Rg,Rh,Ri,Rj,Rk,Rm,Rn,Ro,Rp,Rq,Rs,Ya,Yb,Yc,Rt,Ru,Za,Yd,Ye,Rx,Ry,Rz,Wa,Wb,Wc,Wd]
    have o34:Ac S.next S s4:=o3.trans (o4.mono o3.1)
    have o04:=ho.trans (o34.mono ho.1)
    have hP4:=hP.old o34
    have g4:=(o34.2 p hpS).trans g
    have hone:QH ((1:Int):Rat) 1:=⟨by decide,by decide⟩
    have hMm:(min cs.length vs.length+2) * (kl+2)≤(M+2) * (kl+2):=oC _ (by omega)
    have hMm1:(min cs.length vs.length+1) * (kl+2)≤(M+2) * (kl+2):=oC _ (by omega)
    have hiL:(i+1) * ((M+2) * (kl+2))≤L.length * ((M+2) * (kl+2)):=oC _ hlt
    have hi1:(i+1) * ((M+2) * (kl+2))=i * ((M+2) * (kl+2))+(M+2) * (kl+2):=oH _ _
    have hs0:=o04.1
    refine Hl hE.toGoodN (b:=b) (p:=p) (kl:=kl) (ko:=1) (k:=k0+i * ((M+2) * (kl+2))) g4 (by omega) (by omega) hP4 (fun S' f=>hLI.old (o04.trans (f.old (by omega) (by omega) (by omega)))) (fun S' f=>(r4.fx g4 (by decide) hP4.map.obj f).qi hone) (by omega) hkl (by omega) (by show 2 * (k0+i * ((M+2) * (kl+2))+(min cs.length vs.length+2) * (kl+2))+1≤1000000000;omega) fun rr s6 x' a' n' c'' d' m' e' T' f6 g6 hP6 hT=>?_
    simp only[bk,e17,e17',Qa,Qb,Qc,Qd,Qe,Qf,Qg,Qh,Qi,Qj,Qk,Ql,Qm,Qn,true_and,and_true,Qo,Qp,Qq,Qr,Qs,Qt,Qu,Qv,Qw,Qx,Qy,Qz,Ra,Rb,Rc,Rd,Re,Rf,Rg,Rh,Ri,Rj,Rk,Rm,Rn,Ro,Rp,Rq,Rs,Ya,Yb,Yc,Rt,Ru,Za,Yd,Ye,Rx,Ry,Rz,Wa,Wb,Wc,Wd]
    rw[← hW]
    have e1:c+C * ((1:Int):Rat)=c+C:=by rw[show((1:Int):Rat)=1 from rfl,Rat.mul_one]
    rw[e1]at hP6
    have h6:=f6.1
    refine ih (i+1) s6 _ T' x' a' d' n' m' c'' e' _ _ hd' hlt (o04.trans (f6.old (by omega) (by omega) (by omega))) (by omega) g6 (hP6.le ?_) (fun c' T'' h=>hA c' T'' (.cons hT h)) (fun _ _ _ _ _ _=>trivial)
    show k0+i * ((M+2) * (kl+2))+(min cs.length vs.length+1) * (kl+2)≤_
    omega
theorem ZN      (hE : C5    E) {ri kl M : Nat} {rows : List AV} {L : List (Rat × List Int × List Rat)} (hri : ri < s.next) (hrow : s.heap.get ri = some (R 30 5 false rows)) (hrl : rows.length = L.length * 5)
    (hel:∀ (i:Nat) (l:Rat×List Int×List Rat),L[i]? = some l→LI s (.agg ((rows.drop (i * 5)).take 5)) l.1 l.2.1 l.2.2 kl∧min l.2.2.length l.2.1.length≤M) (hkl:1≤kl) (hb:2 * (1+(L.length+1) * ((M+2) * (kl+2)))+1≤1000000) {K:AV→AD→Prop}
    (hK:∀s' w c T,Ac s.next s s'→LR s.next s' w c (C8 T)→Ec L 0 [] c T→QH c (1+L.length * ((M+2) * (kl+2)))→(∀t∈T,QH t.2.1 (1+L.length * ((M+2) * (kl+2))))→(Ay T).Nodup→T.length≤1000000→K w s'):WF E 20 [.slice (some (ri,0)) L.length (some L.length)] K s:=by
  have hLL:(L.length+1) * ((M+2) * (kl+2))=L.length * ((M+2) * (kl+2))+(M+2) * (kl+2):=oH _ _
  refine hE.go iV (by decide) rfl ?_
  obtain⟨n1,o1,g1⟩:=Bj s ZL
  simp only[mc,bX,bY,E4,Xb,Qa,Qb,Qc,Qd,Qe,Qf,Qg,Qh,Qi,Qj,Qk,Ql,Qm,Qn,true_and,and_true,Qo,Qp,Qq,Qr,Qs,Qt,Qu,Qv,Qw,Qx,Qy,Qz,Ra,Rb,Rc,Rd,Re,Rf,Rg,Rh,Ri,Rj,Rk,Rm,Rn,Ro,Rp,Rq,Rs,Ya,Yb,Yc,Rt,Ru,Za,Yd,Ye,Rx,Ry,Rz,Wa,Wb,Wc,Wd]
  generalize newObj s ZL=s1 at *
  refine Kh hE.toGoodN fun s2 v2 mi o2 r2=>?_
  have h2:=o2.1
  obtain⟨x,a,n,ca,d,m,cd,rfl,hP⟩:=r2
  obtain⟨n4,o3,g4⟩:=Bj s2 ZP
  have st:=F9 (cs0:=[.bool false,.slice none 0 (some 0),.slice none 0 (some 0),.map none]) rfl (x:=x) (a:=a) (n:=n) (c:=ca) (b:=d) (m:=m) (d:=cd) (mi:=mi) g4
  simp only[bZ,D2,Xb,st,AU Tryz.underlying46,Xx,Xz,Qa,Qb,Qc,Qd,Qe,Qf,Qg,Qh,Qi,Qj,Qk,Ql,Qm,Qn,true_and,and_true,Qo,Qp,Qq,Qr,Qs,Qt,Qu,Qv,Qw,Qx,Qy,Qz,Ra,Rb,Rc,Rd,Re,Rf,Rg,Rh,Ri,Rj,Rk,Rm,Rn,Ro,Rp,Rq,Rs,Ya,Yb,Yc,Rt,Ru,Za,Yd,Ye,Rx,Ry,Rz,Wa,Wb,Wc,Wd]
  generalize hs4:setObj (newObj s2 ZP) s2.next (BP x (.slice a n ca) (.slice d m cd) mi)=s4
  have o24:Ac s2.next s2 s4:=by rw[← hs4];exact o3.set (nl _) _
  have n5:s4.next=s2.next+1:=by rw[← hs4];exact n4
  have k4:s4.heap.get s2.next=some (BP x (.slice a n ca) (.slice d m cd) mi):=by rw[← hs4,Wv]
  have o12:=o1.trans (o2.mono o1.1)
  have hmlo:=hP.map.lo
  have o14:Ac s1.next s1 s4:=o2.trans (o24.mono h2)
  refine TM hE (s0:=s1) (b:=s1.next) (p:=s2.next) (mi:=mi) (kl:=kl) (M:=M) (k0:=1) (by omega) ((o1.2 ri hri).trans hrow) hrl (fun i l hl=>⟨(hel i l hl).1.old o1,(hel i l hl).2⟩) hkl (by omega) h2 hmlo h2 hb (c0:=0) (T0:=[])
    (fun S c' T' x' a' d' n' m' cc' e' y3 y6 y7 hoS hpS gS hPS hA _=>?_) L 0 s4 0 [] x a d n m ca cd _ _ rfl (oB _) o14 (by omega) k4 (by rw[pO,oM];exact hP.old o24) (fun c' T' h=>h) (fun _ _ _ _ _ _=>trivial)
  have lS:=AE (P:=Tryz.prog) (t:=56) J5 Hh gS rfl
  have hTb:T'.length≤L.length * M:=by
    have:∀ {L:List (Rat×List Int×List Rat)} {c c':Rat} {T T':List Br},Ec L c T c' T'→(∀l∈L,min l.2.2.length l.2.1.length≤M)→T'.length≤T.length+L.length * M:=by
      intro L c c' T T' h
      induction h with
      | nil c T=>intro _;omega
      | @cons C vs cs L c c' T T1 T' h hs ih =>
        intro hl
        have h1:=h.len
        have h2:=hl _ oK
        have h3:=ih fun l hl'=>hl l (oN _ hl')
        simp only at h2
        rw[oV,oH]
        omega
    have:=this hA (fun l hl=>by
      obtain⟨i,hi⟩:=List.getElem?_of_mem hl
      exact(hel i l hi).2)
    simpa using this
  have hLM:L.length * M≤L.length * ((M+2) * (kl+2)):=oZ _ (ny (by omega:M≤M+2) (pR _ (by omega)))
  simp only[bl,lS,if_true,Qa,Qb,Qc,Qd,Qe,Qf,Qg,Qh,Qi,Qj,Qk,Ql,Qm,Qn,true_and,and_true,Qo,Qp,Qq,Qr,Qs,Qt,Qu,Qv,Qw,Qx,Qy,Qz,Ra,Rb,Rc,Rd,Re,Rf,Rg,Rh,Ri,Rj,Rk,Rm,Rn,Ro,Rp,Rq,Rs,Ya,Yb,Yc,Rt,Ru,Za,Yd,Ye,Rx,Ry,Rz,Wa,Wb,Wc,Wd]
  refine NH hE (b:=s1.next) ⟨_,_,_,_,_,_,_,rfl,hPS⟩ hoS.1 (by omega) (by omega) fun s7 w o7 r7=>?_
  obtain⟨x7,a7,n7,c7,b7,m7,d7,av7,nv7,cv7,ac7,nc7,cc7,rfl⟩:=r7.shape
  have g7:s7.heap.get s.next=some ZL:=by rw[o7.2 _ (by have:=hoS.1;omega),hoS.2 _ (by omega)];exact g1
  have o17:Ac s.next s s7:=o1.trans ((hoS.trans (o7.mono hoS.1)).mono o1.1)
  obtain⟨st8,ld8⟩:=C7 (cs0:=[.bool false,.slice none 0 (some 0),.slice none 0 (some 0),.slice none 0 (some 0),.slice none 0 (some 0)]) rfl (x:=x7) (a:=a7) (n:=n7) (c:=c7) (b:=b7) (m:=m7) (d:=d7) (av:=av7) (nv:=nv7) (cv:=cv7) (ac:=ac7) (nc:=nc7) (cc:=cc7) g7
  simp only[st8,ld8,AL,Xx,Xz,Qa,Qb,Qc,Qd,Qe,Qf,Qg,Qh,Qi,Qj,Qk,Ql,Qm,Qn,true_and,and_true,Qo,Qp,Qq,Qr,Qs,Qt,Qu,Qv,Qw,Qx,Qy,Qz,Ra,Rb,Rc,Rd,Re,Rf,Rg,Rh,Ri,Rj,Rk,Rm,Rn,Ro,Rp,Rq,Rs,Ya,Yb,Yc,Rt,Ru,Za,Yd,Ye,Rx,Ry,Rz,Wa,Wb,Wc,Wd]
  exact hK _ _ c' T' (o17.set (nl _) _) ((r7.set (by omega) _).mono (by omega)) hA hPS.ch (fun t ht=>(hPS.map.ent t ht).2.1) hPS.map.nd (by omega)
end
def DQ(n:Int):List Int→Nat→Int
 | [],_=>-1
 | x::l,i=>if n=x then (i:Int)else DQ n l (i+1)
def DF(vars:List Int)(Qh:List Rat)(n:Int):Rat:=if 0≤DQ n vars 0∧DQ n vars 0<Qh.length then Qh.getD (DQ n vars 0).toNat 0 else 0
def JE(a:Int→Rat):List (Int×Rat)→Rat
 | []=>0
 | p::L=>p.2 * a p.1+JE a L
theorem KT(a:Int→Rat):∀L M:List (Int×Rat),JE a (L++M)=JE a L+JE a M
 | [],M=>(Rat.zero_add _).symm
 | p::L,M=>by show p.2 * a p.1+JE a (L++M)=p.2 * a p.1+JE a L+JE a M;rw[KT a L M,Rat.add_assoc]
theorem Xi(a:Int→Rat){L M:List (Int×Rat)}(h:L.Perm M):JE a L=JE a M:=by
 induction h with
 | nil=>rfl
 | cons p h ih=>show _+_=_+_;rw[ih]
 | swap p q L=>show _+(_+_)=_+(_+_);exact Rat.add_left_comm ..
 | trans h1 h2 ih1 ih2=>exact ih1.trans ih2
theorem HJ(a:Int→Rat):∀L:List (Int×Rat),JE a (L.filter fun p=>decide (p.2≠0))=JE a L
 | []=>rfl
 | p::L=>by
  by_cases h:p.2=0
  ·rw[List.filter_cons_of_neg (by simp[h]),HJ a L]
   show _=p.2 * a p.1+JE a L
   rw[h,Rat.zero_mul,Rat.zero_add]
  ·rw[List.filter_cons_of_pos (by simp[h])]
   show p.2 * a p.1+_=p.2 * a p.1+_
   rw[HJ a L]
theorem OX(a:Int→Rat):∀ {T:List Br},(Ay T).Nodup→JE a ((Ay T).map fun n=>(n,CG n T))=F2 a T
 | [],_=>rfl
 | t::T,h=>by
  obtain⟨h1,h2⟩:=List.nodup_cons.1 (show(t.1::Ay T).Nodup from h)
  have e:(Ay T).map (fun n=>(n,CG n (t::T)))=(Ay T).map fun n=>(n,CG n T):=by
   refine List.map_congr_left fun n hn=>?_
   rw[Gy,if_neg (fun(e:n=t.1)=>h1 (e▸hn))]
  show JE a ((t.1,CG t.1 (t::T))::(Ay T).map fun n=>(n,CG n (t::T)))=_
  rw[e]
  show CG t.1 (t::T) * a t.1+JE a ((Ay T).map fun n=>(n,CG n T))=t.2.1 * a t.1+F2 a T
  rw[OX a h2,Gy,if_pos rfl]
theorem Sf(a:Int→Rat){T:List Br}(h:(Ay T).Nodup):JE a (C8 T)=F2 a T:=by
 unfold C8 M5
 rw[HJ,Xi a ((DG (Ay T)).map _),OX a h]
theorem Om(a:Int→Rat):∀L:List (Int×Rat),Bu a (L.map (·.1)) (L.map (·.2))=JE a L
 | []=>rfl
 | p::L=>by show p.2 * a p.1+Bu a (L.map (·.1)) (L.map (·.2))=_;rw[Om a L];rfl
theorem Ji{T:List Br}{k:Nat}(hk:1≤k)(h:∀t∈T,QH t.2.1 k):∀p∈C8 T,QH p.2 k:=fun p hp=>by
 unfold C8 M5 at hp
 obtain⟨h1,_⟩:=List.mem_filter.1 hp
 obtain⟨n,_,rfl⟩:=List.mem_map.1 h1
 show QH (CG n T) k
 unfold CG
 cases hg:EQ n T with
 | none=>exact jv.le hk
 | some q=>exact h _ (FE hg)
theorem OP(T:List Br):(C8 T).length≤T.length:=by
 unfold C8 M5
 refine ny (List.length_filter_le _ _) ?_
 rw[py,Gh];simp[Ay]
section
variable{E:CP}{s:AD}
theorem X0       (hE : GoodN E) {a : Option (Nat × Nat)} {cap : Option Nat} {vs : List Int} {n : Int} (hc : AZ      s.next s a (vs.map iv)) (hl : vs.length ≤ 1000000000) {K : AV → AD  → Prop} (hK : K (iv (DQ   n vs 0)) s) : WF E 42 [.slice a vs.length cap, iv n] K s := by
  refine hE.go il (by decide) rfl ?_
  simp only[nC,dL,dM,AU Tryz.underlying27,Qa,Qb,Qc,Qd,Qe,Qf,Qg,Qh,Qi,Qj,Qk,Ql,Qm,Qn,true_and,and_true,Qo,Qp,Qq,Qr,Qs,Qt,Qu,Qv,Qw,Qx,Qy,Qz,Ra,Rb,Rc,Rd,Re,Rf,Rg,Rh,Ri,Rj,Rk,Rm,Rn,Ro,Rp,Rq,Rs,Ya,Yb,Yc,Rt,Ru,Za,Yd,Ye,Rx,Ry,Rz,Wa,Wb,Wc,Wd]
  have key:∀ (r:List Int) (i:Nat) (x3 x6 x7:AV),vs.drop i=r→i≤vs.length→DQ n vs 0=DQ n r i→WC E none (.loop Lt) (EK 0 (Ja (fun x x_1 x_2=>Qb E WB (fun v s'=>Pj (DZ s' x_1) fun s'=>Pj (Bk Tryz.prog s' v [(CX.var 2,none)]) fun l=>K (Ba l) s') [] x x_2) (Ends Tryz.prog [(CX.var 2,none)] K)))
      [.slice a vs.length cap,iv n,.int .i64 0,x3,iv (vs.length:Int),iv (i:Int),x6,x7] [] s:=by
    intro r
    induction r with
    | nil =>
      intro i x3 x6 x7 hd hi hp
      have e:i=vs.length:=by
        have:=congrArg List.length hd
        simp at this
        omega
      subst e
      have dd:decide ((vs.length:Int)<(vs.length:Int))=false:=decide_eq_false (by omega)
      refine WC.loop' ?_
      simp only[Lt,SO,Rx,dd,if_true,WB,Qa,Qb,Qc,Qd,Qe,Qf,Qg,Qh,Qi,Qj,Qk,Ql,Qm,Qn,true_and,and_true,Qo,Qp,Qq,Qr,Qs,Qt,Qu,Qv,Qw,Qx,Qy,Qz,Ra,Rb,Rc,Rd,Re,Rf,Rg,Rh,Ri,Rj,Rk,Rm,Rn,Ro,Rp,Rq,Rs,Ya,Yb,Yc,Rt,Ru,Za,Yd,Ye,Rx,Ry,Rz,Wa,Wb,Wc,Wd]
      rw[hp]at hK
      exact hK
    | cons x r ih =>
      intro i x3 x6 x7 hd hi hp
      have hlt:i<vs.length:=by
        rcases nm i vs.length with h' | h'
        · exact h'
        · rw[oo h']at hd;cases hd
      have hx:vs[i]? = some x:=by
        have:=congrArg (fun l=>l[0]?) hd
        simpa using this
      have hd':vs.drop (i+1)=r:=by
        have:=congrArg (List.drop 1) hd
        simpa[pF]using this
      have dd:decide ((i:Int)<(vs.length:Int))=true:=decide_eq_true (by omega)
      obtain⟨i0,o0,rfl,_,ld⟩:=En hc hx
      have ix:=An (cap:=cap) (i:=i0) (o:=o0) Tryz.underlying27 S9 hlt
      have e17:=Bh Tryz.prog 3 (i:Int) 1 ⟨by omega,by omega⟩
      have e17':((i:Int)+1)=((i+1:Nat):Int):=by omega
      refine WC.loop' ?_
      generalize hW:WC E none (Af.loop Lt) _=WW
      by_cases h:n=x
      · have de : decide (n = x) = true := decide_eq_true h
        have hp':DQ n vs 0=(i:Int):=by rw[hp];exact if_pos h
        rw[hp']at hK
        simp only[Lt,SO,V9,WA,dN,Rx,Wb,dd,ix,ld,de,Qa,Qb,Qc,Qd,Qe,Qf,Qg,Qh,Qi,Qj,Qk,Ql,Qm,Qn,true_and,and_true,Qo,Qp,Qq,Qr,Qs,Qt,Qu,Qv,Qw,Qx,Qy,Qz,Ra,Rb,Rc,Rd,Re,Rf,Rg,Rh,Ri,Rj,Rk,Rm,Rn,Ro,Rp,Rq,Rs,Ya,Yb,Yc,Rt,Ru,Za,Yd,Ye,Rx,Ry,Rz,Wa,Wb,Wc,Wd]
        exact hK
      · have de:decide (n=x)=false:=decide_eq_false h
        simp only[Lt,SO,V9,WA,dO,Rx,Wb,dd,ix,ld,de,e17,e17',Qa,Qb,Qc,Qd,Qe,Qf,Qg,Qh,Qi,Qj,Qk,Ql,Qm,Qn,true_and,and_true,Qo,Qp,Qq,Qr,Qs,Qt,Qu,Qv,Qw,Qx,Qy,Qz,Ra,Rb,Rc,Rd,Re,Rf,Rg,Rh,Ri,Rj,Rk,Rm,Rn,Ro,Rp,Rq,Rs,Ya,Yb,Yc,Rt,Ru,Za,Yd,Ye,Rx,Ry,Rz,Wa,Wb,Wc,Wd]
        rw[← hW]
        exact ih (i+1) _ _ _ hd' hlt (by rw[hp];exact if_neg h)
  exact key vs 0 _ _ _ rfl (oB _) rfl
end
def Ff (v0 v1 v2:AV) (b3 b7 b8:Nat) (x9 x10 x11 fn x13 x14 x15:AV) (mk:Nat):C4:=
 Gj 13 [v0,v1,v2,.ptr (some (b3,0)),.ptr (some (b3+1,0)),.ptr (some (b3+1+1,0)),.ptr (some (b3+1+1+1,0)),.ptr (some (b7,0)),.ptr (some (b8,0)),x9,x10,x11,fn,x13,x14,x15] #[18,19] VH VI mk
structure js(lo:C4)(b8 l k kr b:Nat)(C:Rat)(a:Int→Rat)(done:List (Int×Rat))(O:List Nat)(S:AD):Prop where
 lp:BC S l=some lo
 ll:l<S.next
 o:O=[b8,l]
 ex:∃x a1 n1 c1 b1 m1 d1,S.heap.get b8=some (BQ x (.slice a1 n1 c1) (.slice b1 m1 d1))∧QR b S (.agg [.bool x,.slice a1 n1 c1,.slice b1 m1 d1]) (C+JE a done)∧QH (C+JE a done) (k+done.length * kr)
theorem js.stab{lo:C4}{b8 l k kr b:Nat}{C:Rat}{a:Int→Rat}{done:List (Int×Rat)}{O:List Nat}{S S':AD}(h:js lo b8 l k kr b C a done O S)(hb:b8<l)(o:Ac S.next S S'):js lo b8 l k kr b C a done O S':=by
 obtain⟨h1,h2,h3,x,a1,n1,c1,b1,m1,d1,g,q,e⟩:=h
 exact⟨(DK (o.2 l h2)).trans h1,ns h2 o.1,h3,x,a1,n1,c1,b1,m1,d1,(o.2 b8 (by omega)).trans g,q.old o,e⟩
section
variable{E:CP}
theorem UT       (hE : GoodN E) {v0 v1 v2 x9 x10 x11 fn x13 x14 x15 : AV} {b3 b7 b8 mk l k kv b : Nat} {C : Rat} {vars : List Int} {wals : List Rat} {av ac : Option (Nat × Nat)} {cv cc : Option Nat} {cells : List AV} {sA : AD}
    (g4:sA.heap.get (b3+1)=some (R 27 0 false [.slice av vars.length cv])) (g5:sA.heap.get (b3+1+1)=some (R 28 0 false [.slice ac wals.length cc])) (h5:b3+2<sA.next) (hcv:AZ sA.next sA av (vars.map iv)) (hrat:B2 sA ac wals kv cells) (hvl:vars.length≤1000000000)
    (hbA:b≤sA.next) (hb8:sA.next≤b8) (hbl:b8<l) (hk1:1≤k) (hkv:1≤kv) {n:Int} {q:Rat} {vq:AV} {done:List (Int×Rat)} {O:List Nat} {S:AD} {M:Nat} (hdl:done.length<M) (hM:2 * (k+(M+1) * (k+kv+1))+1≤1000000000)
    (hI:js (Ff v0 v1 v2 b3 b7 b8 x9 x10 x11 fn x13 x14 x15 mk) b8 l k (k+kv+1) b C (DF vars wals) done O S) (hoS:Ac sA.next sA S) (hq:QR 0 S vq q) (hqh:QH q k) {K:AV→AD→Prop}
    (hK:∀S' O',js (Ff v0 v1 v2 b3 b7 b8 x9 x10 x11 fn x13 x14 x15 mk) b8 l k (k+kv+1) b C (DF vars wals) (done++[(n,q)]) O' S'→S.next≤S'.next→(∀j,j<S.next→j ∉ O→S'.heap.get j=S.heap.get j)→(∀j∈O',j∈O∨S.next≤j)→K (.bool true) S'):WR E l [iv n,vq] K S:=by
  obtain⟨hlp,hll,hO,x1,a1,n1,c1,b1,m1,d1,g8,q8,h8⟩:=hI
  obtain⟨xx,aa,nn,kk,bb,mm,ee,rfl⟩:=hq.shape
  have hdM:done.length * (k+kv+1)≤M * (k+kv+1):=oC _ (by omega)
  have HN:(done.length+1) * (k+kv+1)=done.length * (k+kv+1)+(k+kv+1):=oH _ _
  have hM1:(M+1) * (k+kv+1)=M * (k+kv+1)+(k+kv+1):=oH _ _
  have hev:C+JE (DF vars wals) (done++[(n,q)])=C+JE (DF vars wals) done+q * DF vars wals n:=by
    rw[KT]
    show C+(JE (DF vars wals) done+(q * DF vars wals n+0))=_
    rw[Rat.add_zero,Rat.add_assoc]
  have hdl1:(done++[(n,q)]).length=done.length+1:=by simp
  have hz:Cu (C3 E.P 13) (Ff v0 v1 v2 b3 b7 b8 x9 x10 x11 fn x13 x14 x15 mk).var [18,19] [iv n,.agg [.bool xx,.slice aa nn kk,.slice bb mm ee]]=some [v0,v1,v2,.ptr (some (b3,0)),.ptr (some (b3+1,0)),.ptr (some (b3+1+1,0)),.ptr (some (b3+1+1+1,0)),.ptr (some (b7,0)),.ptr (some (b8,0)),x9,x10,x11,fn,iv n,.agg [.bool xx,.slice aa nn kk,.slice bb mm ee],x15]:=by
    rw[hE.P,VM];rfl
  refine WR.round hlp hz (by rw[hE.P];exact iJ) (by rw[hE.P];exact iK) ?_
  refine Dy ?_
  obtain⟨n2,o2,g2⟩:=Bj S ZQ
  have st:=Aj (P:=Tryz.prog) (t:=26) (cs:=[.bool xx,.slice aa nn kk,.slice bb mm ee]) Ar g2 rfl rfl rfl (by simp)
  simp only[VK,bT,bU,BU,Xb,st,Xx,Xz,Qa,Qb,Qc,Qd,Qe,Qf,Qg,Qh,Qi,Qj,Qk,Ql,Qm,Qn,true_and,and_true,Qo,Qp,Qq,Qr,Qs,Qt,Qu,Qv,Qw,Qx,Qy,Qz,Ra,Rb,Rc,Rd,Re,Rf,Rg,Rh,Ri,Rj,Rk,Rm,Rn,Ro,Rp,Rq,Rs,Ya,Yb,Yc,Rt,Ru,Za,Yd,Ye,Rx,Ry,Rz,Wa,Wb,Wc,Wd]
  generalize hs2:setObj (newObj S ZQ) S.next (R 26 0 false [.bool xx,.slice aa nn kk,.slice bb mm ee])=s2 at *
  have os2:Ac S.next S s2:=by rw[← hs2];exact o2.set (nl _) _
  have n3:s2.next=S.next+1:=by rw[← hs2];exact n2
  have g3:s2.heap.get S.next=some (BQ xx (.slice aa nn kk) (.slice bb mm ee)):=by rw[← hs2,Wv]
  refine⟨_,(DK (os2.2 l hll)).trans hlp,rfl,Dy ?_⟩
  generalize hs4:setObj s2 l _=s4
  have n4:s4.next=s2.next:=by rw[← hs4];rfl
  have f4:∀j,j≠l→s4.heap.get j=s2.heap.get j:=fun j hj=>by rw[← hs4,Ww _ hj]
  have l4:BC s4 l=some { Ff v0 v1 v2 b3 b7 b8 x9 x10 x11 fn x13 x14 x15 mk with state:=.busy }:=by rw[← hs4,CQ]
  have hSl:l<S.next:=hll
  have hSn:=hoS.1
  have o4:Ac sA.next sA s4:=⟨by omega,fun j hj=>by rw[f4 j (by omega),os2.2 j (by omega),hoS.2 j hj]⟩
  have gb4:=(o4.2 (b3+1) (by omega)).trans g4
  have gb5:=(o4.2 (b3+1+1) (by omega)).trans g5
  have gb8:s4.heap.get b8=some (BQ x1 (.slice a1 n1 c1) (.slice b1 m1 d1)):=by rw[f4 b8 (by omega),os2.2 b8 (by omega)];exact g8
  have gc:s4.heap.get S.next=some (BQ xx (.slice aa nn kk) (.slice bb mm ee)):=by rw[f4 _ (by omega)];exact g3
  have lv:=AX (P:=Tryz.prog) (t:=27) (o:=0) Nw gb4 rfl
  have lw:=AX (P:=Tryz.prog) (t:=28) (o:=0) Nx gb5 rfl
  have hcv4:=(hcv.old o4 (nl _)).mono o4.1
  have hnl:∀ {j},UL S j→j≠l:=fun hj=>by
    rintro rfl
    obtain⟨r,h1,_⟩:=hj
    have:=Ch hlp
    rw[this]at h1;cases h1
  have hq4:QR 0 s4 (.agg [.bool xx,.slice aa nn kk,.slice bb mm ee]) q:=hq.keepS (by omega) fun j hj hu=>by rw[f4 j (hnl hu),os2.2 j hj]
  have hc4:QR b s4 (.agg [.bool x1,.slice a1 n1 c1,.slice b1 m1 d1]) (C+JE (DF vars wals) done):=q8.keepS (by omega) fun j hj hu=>by rw[f4 j (hnl hu),os2.2 j hj]
  simp only[VL,bV,lv,Qa,Qb,Qc,Qd,Qe,Qf,Qg,Qh,Qi,Qj,Qk,Ql,Qm,Qn,true_and,and_true,Qo,Qp,Qq,Qr,Qs,Qt,Qu,Qv,Qw,Qx,Qy,Qz,Ra,Rb,Rc,Rd,Re,Rf,Rg,Rh,Ri,Rj,Rk,Rm,Rn,Ro,Rp,Rq,Rs,Ya,Yb,Yc,Rt,Ru,Za,Yd,Ye,Rx,Ry,Rz,Wa,Wb,Wc,Wd]
  refine X0 hE hcv4 hvl ?_
  have skip:DF vars wals n=0→∀K2:(I6→List AV→List Nat→AD→Prop),True:=fun _ _=>trivial
  have hend0:DF vars wals n=0→∃r'',BC s4 l=some r''∧K (.bool true) (setObj s4 l (.loop { r'' with state:=.ready,pending:=none })):=fun h0=>by
    refine⟨_,l4,hK _ O ⟨?_,?_,hO,x1,a1,n1,c1,b1,m1,d1,?_,?_,?_⟩ ?_ (fun j hj hjO=>?_) (fun j hj=>.inl hj)⟩
    · rw[CQ];rfl
    · show l<s4.next;omega
    · rw[Ww _ (by omega)];exact gb8
    · rw[hev,h0,Rat.mul_zero,Rat.add_zero]
      exact hc4.keepS (nl _) fun j _ hu=>Ww _ (by
        rintro rfl
        obtain⟨r,h1,_⟩:=hu
        have:=Ch l4
        rw[this]at h1;cases h1)
    · rw[hev,h0,Rat.mul_zero,Rat.add_zero,hdl1]
      exact h8.le (by omega)
    · show S.next≤s4.next;omega
    · have h4:j≠l:=fun h=>hjO (by rw[hO,h];simp)
      rw[Ww _ h4,f4 j h4,os2.2 j hj]
  by_cases hp0:0≤DQ n vars 0
  · have d0:decide (0≤DQ n vars 0)=true:=decide_eq_true hp0
    by_cases hp1:DQ n vars 0<(wals.length:Int)
    · have d1:decide (DQ n vars 0<(wals.length:Int))=true:=decide_eq_true hp1
      obtain⟨i,hi⟩:∃i:Nat,DQ n vars 0=(i:Int):=⟨(DQ n vars 0).toNat,(Int.toNat_of_nonneg hp0).symm⟩
      have hil:i<wals.length:=by omega
      have hvi:wals[i]? = some wals[i]:=nr hil
      have hat:DF vars wals n=wals[i]:=by
        unfold DF
        rw[if_pos ⟨hp0,hp1⟩,hi,Int.toNat_natCast,qH,hvi];rfl
      rw[hat]at hev
      generalize wals[i]=w at hvi hat hev
      have hrat4:=hrat.old o4
      obtain⟨i0,o0,rfl,_,ld⟩:=hrat4.load hil
      have hqw:=hrat4.rat i w hvi
      obtain⟨xw,aw,nw,kw,bw,mw,ew,hwe⟩:=hqw.shape
      generalize (cells.drop (i * 3)).take 3=cw at *
      injection hwe with hwe
      subst hwe
      have ix:=An (cap:=cc) (i:=i0) (o:=o0) Tryz.underlying28 Ar hil
      have l8:=AE (P:=Tryz.prog) (t:=26) A9 Ar gb8 rfl
      have lc:=AE (P:=Tryz.prog) (t:=26) A9 Ar gc rfl
      rw[hi]at d0 d1
      simp only[hi,SG,bW,Wa,Rx,d0,d1,lw,AU Tryz.underlying28,Rt,l8,lc,ix,ld,Qa,Qb,Qc,Qd,Qe,Qf,Qg,Qh,Qi,Qj,Qk,Ql,Qm,Qn,true_and,and_true,Qo,Qp,Qq,Qr,Qs,Qt,Qu,Qv,Qw,Qx,Qy,Qz,Ra,Rb,Rc,Rd,Re,Rf,Rg,Rh,Ri,Rj,Rk,Rm,Rn,Ro,Rp,Rq,Rs,Ya,Yb,Yc,Rt,Ru,Za,Yd,Ye,Rx,Ry,Rz,Wa,Wb,Wc,Wd]
      refine IH hE (hq4.qi hqh) hqw hk1 hkv (by omega) fun s5 v5 o5 r5=>?_
      have h5':=o5.1
      have gb8':=(o5.2 b8 (by omega)).trans gb8
      refine⟨⟨Aa (by simp only[Qa,Qb,Qc,Qd,Qe,Qf,Qg,Qh,Qi,Qj,Qk,Ql,Qm,Qn,true_and,and_true,Qo,Qp,Qq,Qr,Qs,Qt,Qu,Qv,Qw,Qx,Qy,Qz,Ra,Rb,Rc,Rd,Re,Rf,Rg,Rh,Ri,Rj,Rk,Rm,Rn,Ro,Rp,Rq,Rs,Ya,Yb,Yc,Rt,Ru,Za,Yd,Ye,Rx,Ry,Rz,Wa,Wb,Wc,Wd];exact AE A9 Ar gb8' rfl) (BK _ _ _ _ _ _ _),trivial⟩,?_⟩
      simp only[Qa,Qb,Qc,Qd,Qe,Qf,Qg,Qh,Qi,Qj,Qk,Ql,Qm,Qn,true_and,and_true,Qo,Qp,Qq,Qr,Qs,Qt,Qu,Qv,Qw,Qx,Qy,Qz,Ra,Rb,Rc,Rd,Re,Rf,Rg,Rh,Ri,Rj,Rk,Rm,Rn,Ro,Rp,Rq,Rs,Ya,Yb,Yc,Rt,Ru,Za,Yd,Ye,Rx,Ry,Rz,Wa,Wb,Wc,Wd]
      have hqw':=hqw.qh hkv
      refine IG hE ((hc4.old o5).qi h8) (r5.qi (hqh.mul hqw')) (by omega) (by omega) (by omega) fun s6 v6 o6 r6=>?_
      have h6:=o6.1
      have gb8'':=(o6.2 b8 (by omega)).trans gb8'
      obtain⟨x6,a6,n6,c6,b6,m6,d6,rfl⟩:=r6.shape
      have st6:=Aj (P:=Tryz.prog) (t:=26) (cs:=[.bool x6,.slice a6 n6 c6,.slice b6 m6 d6]) Ar gb8'' rfl rfl rfl (by simp)
      generalize hs7:setObj s6 b8 (R 26 0 false [.bool x6,.slice a6 n6 c6,.slice b6 m6 d6])=s7 at st6
      have f7:∀j,j≠b8→s7.heap.get j=s6.heap.get j:=fun j hj=>by rw[← hs7,Ww _ hj]
      have n7:s7.next=s6.next:=by rw[← hs7];rfl
      have l7:BC s7 l=some { Ff v0 v1 v2 b3 b7 b8 x9 x10 x11 fn x13 x14 x15 mk with state:=.busy }:=by
        rw[DK (show s7.heap.get l=s4.heap.get l by rw[f7 l (by omega),o6.2 l (by omega),o5.2 l (by omega)])];exact l4
      simp only[st6,Xx,Xz,Qa,Qb,Qc,Qd,Qe,Qf,Qg,Qh,Qi,Qj,Qk,Ql,Qm,Qn,true_and,and_true,Qo,Qp,Qq,Qr,Qs,Qt,Qu,Qv,Qw,Qx,Qy,Qz,Ra,Rb,Rc,Rd,Re,Rf,Rg,Rh,Ri,Rj,Rk,Rm,Rn,Ro,Rp,Rq,Rs,Ya,Yb,Yc,Rt,Ru,Za,Yd,Ye,Rx,Ry,Rz,Wa,Wb,Wc,Wd]
      have hqn:QH (C+JE (DF vars wals) done+q * w) (k+(done.length+1) * (k+kv+1)):=(h8.add (hqh.mul hqw')).le (by omega)
      refine⟨_,l7,hK _ O ⟨?_,?_,hO,x6,a6,n6,c6,b6,m6,d6,?_,?_,?_⟩ ?_ (fun j hj hjO=>?_) (fun j hj=>.inl hj)⟩
      · rw[CQ];rfl
      · show l<s7.next;omega
      · rw[Ww _ (by omega),← hs7,Wv]
      · rw[hev]
        have:QR s5.next s7 (.agg [.bool x6,.slice a6 n6 c6,.slice b6 m6 d6]) (C+JE (DF vars wals) done+q * w):=by rw[← hs7];exact r6.set (by omega) _
        exact(this.set (by omega) _).mono (by omega)
      · rw[hev,hdl1];exact hqn
      · show S.next≤s7.next;omega
      · have h4 : j ≠ l := fun h => hjO (by rw [hO, h]; simp)
        have h8':j≠b8:=fun h=>hjO (by rw[hO,h];simp)
        rw[Ww _ h4,f7 j h8',o6.2 j (by omega),o5.2 j (by omega),f4 j h4,os2.2 j hj]
    · have d1 : decide (DQ   n vars 0 < (wals.length : Int)) = false := decide_eq_false hp1
      have hat:DF vars wals n=0:=by unfold DF;rw[if_neg (fun h=>hp1 h.2)]
      simp only[SG,Wa,Rx,d0,d1,lw,AU Tryz.underlying28,Rt,Qa,Qb,Qc,Qd,Qe,Qf,Qg,Qh,Qi,Qj,Qk,Ql,Qm,Qn,true_and,and_true,Qo,Qp,Qq,Qr,Qs,Qt,Qu,Qv,Qw,Qx,Qy,Qz,Ra,Rb,Rc,Rd,Re,Rf,Rg,Rh,Ri,Rj,Rk,Rm,Rn,Ro,Rp,Rq,Rs,Ya,Yb,Yc,Rt,Ru,Za,Yd,Ye,Rx,Ry,Rz,Wa,Wb,Wc,Wd]
      exact hend0 hat
  · have d0 : decide (0 ≤ DQ   n vars 0) = false := decide_eq_false hp0
    have hat:DF vars wals n=0:=by unfold DF;rw[if_neg (fun h=>hp0 h.1)]
    simp only[SG,Wa,d0,Rt,Qa,Qb,Qc,Qd,Qe,Qf,Qg,Qh,Qi,Qj,Qk,Ql,Qm,Qn,true_and,and_true,Qo,Qp,Qq,Qr,Qs,Qt,Qu,Qv,Qw,Qx,Qy,Qz,Ra,Rb,Rc,Rd,Re,Rf,Rg,Rh,Ri,Rj,Rk,Rm,Rn,Ro,Rp,Rq,Rs,Ya,Yb,Yc,Rt,Ru,Za,Yd,Ye,Rx,Ry,Rz,Wa,Wb,Wc,Wd]
    exact hend0 hat
end
end
end Go.Proofs.YtjnkfbpadpmakaaGreatDoor.Am
