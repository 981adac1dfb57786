/- Sums of variables: what is put to an entry, walked; sums as they are read; conditions: none. -/
import Derived.Test.YtjnkfbpadpmakaaGreatDoorAmM08
import Derived.Test.YtjnkfbpadpmakaaGreatDoorAmLTab
import Derived.WideKeyArgs
import Derived.ChangeBears2
import Derived.OpenShut
import GoSem.ClaimJoined
import Derived.Test.YtjnkfbpadpmakaaGreatDoorAmM04
set_option linter.unusedVariables false
set_option linter.unusedSimpArgs false
set_option maxRecDepth 16000
namespace Go.Proofs.YtjnkfbpadpmakaaGreatDoor.Am
open Go Go.Proofs
noncomputable section
def Fx(p m:Nat)(s s':AE):Prop:=s.next≤s'.next∧∀j,j<s.next→j≠p→j≠m→s'.heap.get j=s.heap.get j
theorem Fx.refl(p m:Nat)(s:AE):Fx p m s s:=⟨qw _,fun _ _ _ _=>rfl⟩
theorem Fx.trans{p m:Nat}{s s1 s2:AE}(h:Fx p m s s1)(k:Fx p m s1 s2):Fx p m s s2:=⟨rD h.1 k.1,fun j hj h1 h2=>(k.2 j (rA hj h.1) h1 h2).trans (h.2 j hj h1 h2)⟩
theorem Ae.fx{p m:Nat}{s s':AE}(h:Ae s.next s s'):Fx p m s s':=⟨h.1,fun j hj _ _=>h.2 j hj⟩
theorem Fx.old{p m b:Nat}{s s':AE}(h:Fx p m s s')(hp:b≤p)(hm:b≤m)(hb:b≤s.next):Ae b s s':=⟨h.1,fun j hj=>h.2 j (by omega) (by omega) (by omega)⟩
theorem QR.fx{p mi b:Nat}{s s':AE}{v:AV}{q:Rat}(h:QR b s v q){e sz:Nat}{sp:Bool}{cs:List AV}(hp:s.heap.get p=some (R e sz sp cs))(he:e≠76){kt:Nat}{es:List (AV×AV)}(hm:s.heap.get mi=some (.map kt es))(f:Fx p mi s s'):QR b s' v q:=
 h.keepS f.1 fun j hj hu=>f.2 j hj (EL hp he hu) (EK hm hu)
theorem PJ(i:Nat):FJ (.map (some i)) (.map (some i))=true:=by simp[FJ,FN]
section
variable{E:CR}{s:AE}
theorem UP        (hE : GoodN E) {b mi : Nat} {T : List CD}  {k kc ko pc po : Nat} {x : Bool} {a d : Option (Nat × Nat)} {na m : Nat} {ca cd : Option Nat} {n : Int} (hn : i64 n) {c o : Rat} {cc co : List AV} (hM : GF   b s mi T k)
    (hc:QI s (.agg cc) c kc) (ho:QI s (.agg co) o ko) (gc:s.heap.get pc=some (R 26 0 false cc)) (go:s.heap.get po=some (R 26 0 false co)) (hpc:pc<s.next) (hpo:po<s.next) (hk1:1≤k) (hkc:1≤kc) (hko:1≤ko) (hk:2 * (k+(kc+ko))+1≤1000000000)
    {K:AV→AE→Prop} (hK:∀r s' w,s.next≤s'.next→(∀j,j<s.next→j≠mi→s'.heap.get j=s.heap.get j)→(∀j∈Bx w,s.next≤j)→GF b s' mi (DL n (CB n T+c * o) w T) (k+(kc+ko)+1)→K r s'):
    WF E 62 [.agg [.bool x,.slice a na ca,.slice d m cd,.map (some mi)],iv n,.func 73 [] [.ptr (some (pc,0)),.ptr (some (po,0))]] K s:=by
  refine hE.go YW (by decide) rfl ?_
  obtain⟨n1,o1,g1⟩:=Bl s (R 56 0 false [.bool x,.slice a na ca,.slice d m cd,.map (some mi)])
  simp only[pI,X4,X5,Xa,Xh,Xc,Fm,Qa,Qb,Qc,Qd,Qe,Qf,Qg,Qh,Qi,Qj,Qk,Ql,Qm,Qn,true_and,and_true,Qo,Qp,Qq,Qr,Qs,Qt,Qu,Qv,Qw,Qx,Qy,Qz,Ra,Rb,Rc,Rd,Re,Rf,Rg,Rh,Ri,Rj,Rk,Rm,Rn,Ro,Rp,Rq,Rt,Ya,Yb,Yc,Ru,Rw,Zb,Yd,Ye,Ry,Rz,Wa,Wb,Wc,Wd,We]
  generalize newObj s (R 56 0 false [.bool x,.slice a na ca,.slice d m cd,.map (some mi)])=s1 at *
  have hM1:=hM.old o1
  have l1:=AI (P:=Tryz.prog) (t:=54) (o:=0+3) KS g1 rfl
  have lk:=K9 hM1.obj hn
  have hmlt:=hM.lt
  have hmlo:=hM.lo
  have key:∀ (s4:AE) (va:AV) (x2:Bool) (a2 b2:Option (Nat×Nat)) (n2 m2:Nat) (c2 d2:Option Nat) (y4 y5 y6:AV),Ae s1.next s1 s4→s1.next+1≤s4.next→va=.agg [.bool x2,.slice a2 n2 c2,.slice b2 m2 d2]→s4.heap.get s1.next=some (BQ x2 (.slice a2 n2 c2) (.slice b2 m2 d2))→QI s4 va (CB n T) k →
      Qb E Ov (fun v s'=>Po (Db s' []) fun s'=>K (.tuple []) s') [] [.agg [.bool x,.slice a na ca,.slice d m cd,.map (some mi)],iv n,.func 73 [] [.ptr (some (pc,0)),.ptr (some (po,0))],.ptr (some (s.next,0)),.ptr (some (s1.next,0)),y5,y6] s4:=by
    intro s4 va x2 a2 b2 n2 m2 c2 d2 y4 y5 y6 o4 h4 hva g4 hq
    have o14:=o1.trans (o4.mono o1.1)
    have k1:=(o4.2 s.next (by omega)).trans g1
    have l1:=AI (P:=Tryz.prog) (t:=54) (o:=0+3) KS k1 rfl
    have l2:=AG (P:=Tryz.prog) (t:=26) BH Ar g4 rfl
    subst hva
    simp only[Ov,l1,l2,Fm,Qa,Qb,Qc,Qd,Qe,Qf,Qg,Qh,Qi,Qj,Qk,Ql,Qm,Qn,true_and,and_true,Qo,Qp,Qq,Qr,Qs,Qt,Qu,Qv,Qw,Qx,Qy,Qz,Ra,Rb,Rc,Rd,Re,Rf,Rg,Rh,Ri,Rj,Rk,Rm,Rn,Ro,Rp,Rq,Rt,Ya,Yb,Yc,Ru,Rw,Zb,Yd,Ye,Ry,Rz,Wa,Wb,Wc,Wd,We]
    refine aR hE hq (hc.old o14) (ho.old o14) ((o14.2 pc hpc).trans gc) ((o14.2 po hpo).trans go) (by have:=o14.1;omega) (by have:=o14.1;omega) hk1 hkc hko hk fun s5 v5 o5 r5=>?_
    have h5:=o5.1
    have k5:=(o5.2 s.next (by omega)).trans k1
    refine⟨⟨Ak (by simp only[Qa,Qb,Qc,Qd,Qe,Qf,Qg,Qh,Qi,Qj,Qk,Ql,Qm,Qn,true_and,and_true,Qo,Qp,Qq,Qr,Qs,Qt,Qu,Qv,Qw,Qx,Qy,Qz,Ra,Rb,Rc,Rd,Re,Rf,Rg,Rh,Ri,Rj,Rk,Rm,Rn,Ro,Rp,Rq,Rt,Ya,Yb,Yc,Ru,Rw,Zb,Yd,Ye,Ry,Rz,Wa,Wb,Wc,Wd,We];exact AI (o:=0+3) KS k5 rfl) (PJ mi),trivial⟩,?_⟩
    have o15:=o14.trans (o5.mono o14.1)
    have hM5:=hM.old o15
    have up:=QL hM5.obj hn (CB n T+c * o) v5
    simp only[up,Xz,Za,Qa,Qb,Qc,Qd,Qe,Qf,Qg,Qh,Qi,Qj,Qk,Ql,Qm,Qn,true_and,and_true,Qo,Qp,Qq,Qr,Qs,Qt,Qu,Qv,Qw,Qx,Qy,Qz,Ra,Rb,Rc,Rd,Re,Rf,Rg,Rh,Ri,Rj,Rk,Rm,Rn,Ro,Rp,Rq,Rt,Ya,Yb,Yc,Ru,Rw,Zb,Yd,Ye,Ry,Rz,Wa,Wb,Wc,Wd,We]
    have hq5:QH (CB n T+c * o) (k+(kc+ko)+1):=(Tt hM hk1 n).add ((hc.qh hkc).mul (ho.qh hko))
    have hrow:∀j,OX s5 j→j≠mi:=fun j hj=>EK hM5.obj hj
    have r5':QR s4.next (setObj s5 mi (.map 3 (Fl (DL n (CB n T+c * o) v5 T)))) v5 (CB n T+c * o):=r5.keepS (qw _) fun j _ hj=>Wx _ (hrow j hj)
    refine hK _ _ v5 ?_ (fun j hj hne=>?_) (fun j hj=>?_) ⟨Ww _ _ _,hM.lo,hM5.lt,fun t ht=>?_,Mi hM.nd,Pr hM.dj fun t ht=>?_⟩
    · exact o15.1
    · rw[Wx _ hne];exact o15.2 j hj
    · have:=(r5.slots hj).1;have:=o14.1;omega
    · rcases KE      ht with rfl | ht
      · exact⟨r5'.mono (by have:=o14.1;omega),hq5,hn⟩
      · obtain⟨e1,e2,e3⟩:=hM5.ent t ht
        exact⟨e1.keepS (qw _) fun j _ hj=>Wx _ (hrow j hj),e2.le (by omega),e3⟩
    · have e1 := (hM.ent t ht).1
      have hd:UB t.2.2 v5:=e1.dj r5 o14.1
      exact⟨hd,hd.symm⟩
  simp only[l1,lk,Zb,Bb,Xc,Xy,Qa,Qb,Qc,Qd,Qe,Qf,Qg,Qh,Qi,Qj,Qk,Ql,Qm,Qn,true_and,and_true,Qo,Qp,Qq,Qr,Qs,Qt,Qu,Qv,Qw,Qx,Qy,Qz,Ra,Rb,Rc,Rd,Re,Rf,Rg,Rh,Ri,Rj,Rk,Rm,Rn,Ro,Rp,Rq,Rt,Ya,Yb,Yc,Ru,Rw,Zb,Yd,Ye,Ry,Rz,Wa,Wb,Wc,Wd,We]
  obtain⟨n2,o2,g2⟩:=Bl s1 ZQ
  generalize hs2:newObj s1 ZQ=s2 at *
  cases hg:Dp n T with
  | none =>
    have st:=Ai (P:=Tryz.prog) (t:=26) (cs:=[.bool false,.slice none 0 (some 0),.slice none 0 (some 0)]) Ar g2 rfl rfl rfl (by simp)
    generalize hs3:setObj s2 s1.next (R 26 0 false [.bool false,.slice none 0 (some 0),.slice none 0 (some 0)])=s3 at st
    have o3:Ae s1.next s1 s3:=by rw[← hs3];exact o2.set (qw _) _
    have g3:s3.heap.get s1.next=some ZQ:=by rw[← hs3,Ww]
    have n3:s3.next=s1.next+1:=by rw[← hs3];exact n2
    simp only[Ou,X6,Option.isSome,st,We,Bool.not_false,Za,Qa,Qb,Qc,Qd,Qe,Qf,Qg,Qh,Qi,Qj,Qk,Ql,Qm,Qn,true_and,and_true,Qo,Qp,Qq,Qr,Qs,Qt,Qu,Qv,Qw,Qx,Qy,Qz,Ra,Rb,Rc,Rd,Re,Rf,Rg,Rh,Ri,Rj,Rk,Rm,Rn,Ro,Rp,Rq,Rt,Ya,Yb,Yc,Ru,Rw,Zb,Yd,Ye,Ry,Rz,Wa,Wb,Wc,Wd,We]
    refine LG hE fun s4 v4 o4 r4=>?_
    have h4:=o4.1
    obtain⟨x2,a2,n2',c2,b2,m2,d2,rfl⟩:=r4.shape
    have st4:=Ai (P:=Tryz.prog) (t:=26) (cs:=[.bool x2,.slice a2 n2' c2,.slice b2 m2 d2]) Ar ((o4.2 s1.next (by omega)).trans g3) rfl rfl rfl (by simp)
    simp only[st4,Xy,Za,Qa,Qb,Qc,Qd,Qe,Qf,Qg,Qh,Qi,Qj,Qk,Ql,Qm,Qn,true_and,and_true,Qo,Qp,Qq,Qr,Qs,Qt,Qu,Qv,Qw,Qx,Qy,Qz,Ra,Rb,Rc,Rd,Re,Rf,Rg,Rh,Ri,Rj,Rk,Rm,Rn,Ro,Rp,Rq,Rt,Ya,Yb,Yc,Ru,Rw,Zb,Yd,Ye,Ry,Rz,Wa,Wb,Wc,Wd,We]
    have hv0:CB n T=0:=by unfold CB;rw[hg]
    refine key _ _ x2 a2 b2 n2' m2 c2 d2 (iv 0) _ _ ((o3.trans (o4.mono o3.1)).set (qw _) _) (by show s1.next+1≤s4.next;omega) rfl (Ww _ _ _) ?_
    rw[hv0]
    exact((r4.set (by omega) _).qi oe).le hk1
  | some pq =>
    have hmem:=E1 hg
    obtain⟨e1,e2,_⟩:=hM1.ent _ hmem
    obtain⟨x2,a2,n2',c2,b2,m2,d2,hv2⟩:=e1.shape
    simp only at hv2 e1 e2
    have st:=Ai (P:=Tryz.prog) (t:=26) (cs:=[.bool x2,.slice a2 n2' c2,.slice b2 m2 d2]) Ar g2 rfl rfl rfl (by simp)
    rw[← hv2]at st
    generalize hs3:setObj s2 s1.next (R 26 0 false [.bool x2,.slice a2 n2' c2,.slice b2 m2 d2])=s3 at st
    have o3:Ae s1.next s1 s3:=by rw[← hs3];exact o2.set (qw _) _
    have g3:s3.heap.get s1.next=some (BQ x2 (.slice a2 n2' c2) (.slice b2 m2 d2)):=by rw[← hs3,Ww]
    have n3:s3.next=s1.next+1:=by rw[← hs3];exact n2
    simp only[Ou,Option.isSome,st,We,Bool.not_true,Za,Qa,Qb,Qc,Qd,Qe,Qf,Qg,Qh,Qi,Qj,Qk,Ql,Qm,Qn,true_and,and_true,Qo,Qp,Qq,Qr,Qs,Qt,Qu,Qv,Qw,Qx,Qy,Qz,Ra,Rb,Rc,Rd,Re,Rf,Rg,Rh,Ri,Rj,Rk,Rm,Rn,Ro,Rp,Rq,Rt,Ya,Yb,Yc,Ru,Rw,Zb,Yd,Ye,Ry,Rz,Wa,Wb,Wc,Wd,We]
    have hv0:CB n T=pq.1:=by unfold CB;rw[hg]
    refine key _ pq.2 x2 a2 b2 n2' m2 c2 d2 (iv 0) _ _ o3 (by omega) hv2 g3 ?_
    rw[hv0]
    exact(e1.old o3).qi e2
end
def GL(sz:Nat)(s:AE)(a:Option (Nat×Nat))(cap:Option Nat)(n:Nat):Prop:=
 (∃c,cap=some c∧n≤c∧(a=none→c=0))∨(cap=none∧∃i o r,a=some (i,o)∧i<s.next∧s.heap.get i=some (.row r)∧r.sz=sz∧o+n * sz≤r.n)
theorem GL.old{sz:Nat}{s s':AE}{a:Option (Nat×Nat)}{cap:Option Nat}{n:Nat}(h:GL sz s a cap n)(k:Ae s.next s s'):GL sz s' a cap n:=by
 rcases h with h | ⟨h1,i,o,r,h3,h4,h5,h6⟩
 ·exact .inl h
 ·exact .inr ⟨h1,i,o,r,h3,rA h4 k.1,by rw[k.2 i h4];exact h5,h6⟩
theorem GL.less{sz:Nat}{s:AE}{a:Option (Nat×Nat)}{cap:Option Nat}{n k:Nat}(h:GL sz s a cap n)(hk:k≤n):GL sz s a cap k:=by
 rcases h with⟨c,h1,h2,h3⟩ | ⟨h1,i,o,r,h3,h4,h5,h6,h7⟩
 ·exact .inl ⟨c,h1,by omega,h3⟩
 ·exact .inr ⟨h1,i,o,r,h3,h4,h5,h6,rD (Nat.add_le_add_left (rF _ hk) _) h7⟩
theorem Yh{t e sz:Nat}(ht:Tryz.prog.underlying t=some (.slice e))(hs:A7 Tryz.prog e=some sz)(hz:0<sz){s:AE}{a:Option (Nat×Nat)}{cap:Option Nat}{n k:Nat}(hc:GL sz s a cap n)(hk:k≤n):
    BK Tryz.prog t false true false s [.slice a n cap,iv (k:Int)]=some (.slice a k cap):=by
  show Bn Tryz.prog s t (.slice a n cap) none (some (iv (k:Int))) none=_
  rcases hc with⟨c,rfl,h1,h2⟩ | ⟨rfl,i,o,r,rfl,h3,h4,h5,h6⟩
  · have hb:Be (iv (k:Int)) c=some k:=by simp[Be,GC,AL,Cn (show k≤c by omega),D3]
    cases a with
    | none=>simp[Bn,ht,hs,hb]
    | some io=>obtain⟨i,o⟩:=io;cases hb2:Nat.beq c 0<;>simp[Bn,ht,hs,hb,hb2]
  · have hrow : rowAt s i = some r := by unfold rowAt; rw [h4]
    have hkd:k≤(r.n - o) / sz:=by
      rw[Nat.le_div_iff_mul_le hz]
      have:k * sz≤n * sz:=rF _ hk
      omega
    have hb:Be (iv (k:Int)) ((r.n - o) / sz)=some k:=by simp[Be,GC,AL,Cn hkd,D3]
    have hsz:Nat.beq sz r.sz=true:=Fi h5.symm
    have ho:o≤r.n:=by have:0≤n * sz:=rB _;omega
    simp only[Bn,ht,hs,hrow,hsz,AL,hb,Cn ho,ED (show sz≠0 by omega),Option.bind_some,Bool.true_and,Bool.and_true,Bool.not_false,cond_true]
    simp
structure Dw(s:AE)(a:Option (Nat×Nat))(cs:List Rat)(k:Nat)(cells:List AV):Prop where
 len:cells.length=cs.length * 3
 rd:AZ s.next s a cells
 rat:∀ (i:Nat) (q:Rat),cs[i]? = some q→QI s (.agg ((cells.drop (i * 3)).take 3)) q k
theorem Dw.old{s s':AE}{a:Option (Nat×Nat)}{cs:List Rat}{k:Nat}{cells:List AV}(h:Dw s a cs k cells)(o:Ae s.next s s'):Dw s' a cs k cells:=
 ⟨h.len,(h.rd.old o (qw _)).mono o.1,fun i q hi=>(h.rat i q hi).old o⟩
theorem Dw.le{s:AE}{a:Option (Nat×Nat)}{cs:List Rat}{k k':Nat}{cells:List AV}(h:Dw s a cs k cells)(hk:k≤k'):Dw s a cs k' cells:=⟨h.len,h.rd,fun i q hi=>(h.rat i q hi).le hk⟩
theorem Dw.load{s:AE}{a:Option (Nat×Nat)}{cs:List Rat}{k:Nat}{cells:List AV}(h:Dw s a cs k cells){i:Nat}(hi:i<cs.length):
  ∃i0 o,a=some (i0,o)∧i0<s.next∧AA Tryz.prog s 26 (.ptr (some (i0,o+i * 3)))=some (.agg ((cells.drop (i * 3)).take 3)):=by
 have hl:=h.len
 have h3:((cells.drop (i * 3)).take 3).length=3:=by rw[rR,sC];omega
 have hget:∀j,j<3→((cells.drop (i * 3)).take 3)[j]? = cells[i * 3+j]? := fun j hj=>by rw[sS hj,sJ]
 have h0:cells[i * 3]? = some cells[i * 3]:=qy (by omega)
 obtain⟨i0,o,rfl,hlt,_⟩:=h.rd (i * 3) _ h0
 refine⟨i0,o,rfl,hlt,?_⟩
 have:=IU (o:=s.heap.get i0) ((cells.drop (i * 3)).take 3) (o+i * 3) (fun j u hj=>by
  have hj3:j<3:=by
   rcases qz j 3 with h' | h'
   ·exact h'
   ·rw[rI (by omega)]at hj;cases hj
  rw[hget j hj3]at hj
  obtain⟨i',o',e,_,g⟩:=h.rd _ u hj
  injection e with e
  injection e with e1 e2
  subst e1;subst e2
  rw[IR]at g
  rw[re];exact g) (by intro e;rw[e]at h3;cases h3)
 rw[h3]at this
 rw[Wg BH,Ar,Option.bind_some,this]
 rfl
def LI(s:AE)(v:AV)(C:Rat)(vs:List Int)(cs:List Rat)(k:Nat):Prop:=∃x a n c b m d av capv ac capc cells,
 v=.agg [.bool x,.slice a n c,.slice b m d,.slice av vs.length capv,.slice ac cs.length capc]∧QI s (.agg [.bool x,.slice a n c,.slice b m d]) C k∧AZ s.next s av (vs.map iv)∧(∀n∈vs,i64 n)∧Dw s ac cs k cells∧GL 1 s av capv vs.length∧GL 3 s ac capc cs.length
theorem LI.old{s s':AE}{v:AV}{C:Rat}{vs:List Int}{cs:List Rat}{k:Nat}(h:LI s v C vs cs k)(o:Ae s.next s s'):LI s' v C vs cs k:=by
 obtain⟨x,a,n,c,b,m,d,av,capv,ac,capc,cells,h1,h2,h3,h4,h5,h6,h7⟩:=h
 exact⟨x,a,n,c,b,m,d,av,capv,ac,capc,cells,h1,h2.old o,(h3.old o (qw _)).mono o.1,h4,h5.old o,h6.old o,h7.old o⟩
theorem LI.le{s:AE}{v:AV}{C:Rat}{vs:List Int}{cs:List Rat}{k k':Nat}(h:LI s v C vs cs k)(hk:k≤k'):LI s v C vs cs k':=by
 obtain⟨x,a,n,c,b,m,d,av,capv,ac,capc,cells,h1,h2,h3,h4,h5,h6,h7⟩:=h
 exact⟨x,a,n,c,b,m,d,av,capv,ac,capc,cells,h1,h2.le hk,h3,h4,h5.le hk,h6,h7⟩
inductive Ev (o:Rat):List Int→List Rat→List CD→List CD→Prop
 | nil1 (cs:List Rat) (T:List CD):Ev o [] cs T T
 | nil2 (vs:List Int) (T:List CD):Ev o vs [] T T
 | cons {n:Int} {c:Rat} {vs:List Int} {cs:List Rat} {T T':List CD} (w:AV) (h:Ev o vs cs (DL n (CB n T+c * o) w T) T'):Ev o (n::vs) (c::cs) T T'
def Nr(a:Int→Rat):List Int→List Rat→Rat
 | n::vs,c::cs=>c * a n+Nr a vs cs
 | _,_=>0
theorem Ev.ev{o:Rat}{vs:List Int}{cs:List Rat}{T T':List CD}(h:Ev o vs cs T T')(a:Int→Rat):PM a T'=PM a T+Nr a vs cs * o:=by
 induction h with
 | nil1 cs T=>show _=_+0 * o;rw[Rat.zero_mul,Rat.add_zero]
 | nil2 vs T=>cases vs<;>(show _=_+0 * o;rw[Rat.zero_mul,Rat.add_zero])
 | @cons n c vs cs T T' w h ih =>
  rw[ih,Yr]
  show PM a T+c * o * a n+Nr a vs cs * o=PM a T+(c * a n+Nr a vs cs) * o
  rw[Rat.add_mul,Rat.add_assoc,Rat.mul_assoc c o,Rat.mul_comm o (a n),Rat.mul_assoc c (a n)]
theorem Ny(a b:Nat):Cx false (iv (a:Int)) [iv (b:Int)]=some (iv ((min a b:Nat):Int)):=by
 simp only[Cx,Ll,AL,cond_true]
 congr 2
 cases hlt:Lz (b:Int) (a:Int)with
 | true=>rw[Cw]at hlt;have:=of_decide_eq_true hlt;simp only[cond_true,cond_false];omega
 | false=>rw[Cw]at hlt;have:=of_decide_eq_false hlt;simp only[cond_true,cond_false];omega
theorem Lt{P:Program}{s:AE}{i e sz t n off:Nat}{sp:Bool}{cs0 cs:List AV}(hs:A7 P t=some n)(hg:s.heap.get i=some (R e sz sp cs0))(hl:cs.length=n)(hl0:off+n≤cs0.length)(ha:Au cs=true)(hn:cs≠[]):AM P s t (.ptr (some (i,off))) (.agg cs)=some (setObj s i (R e sz sp (DO cs0 off cs))):=by
 rw[Wh,hs]
 show AL (decide (cs.length=n)) (Ch s i off cs)=_
 rw[Ls hg (by omega) ha,decide_eq_true hl]
 cases cs with
 | nil=>exact absurd rfl hn
 | cons c cs=>rfl
abbrev BP(x:Bool)(m d:AV)(mi:Nat):BC:=R 56 0 false [.bool x,m,d,.map (some mi)]
theorem Hl(a:Nat×Nat):D5 (.ptr (some a))=some (.ptr (some a)):=rfl
theorem FT{s:AE}{a:Option (Nat×Nat)}{vs:List Int}(h:AZ s.next s a (vs.map iv)){i:Nat}{n:Int}(hi:vs[i]? = some n):∃i0 o,a=some (i0,o)∧i0<s.next∧AA Tryz.prog s 3 (.ptr (some (i0,o+i * 1)))=some (iv n):=by
 obtain⟨i0,o,rfl,h1,h2⟩:=h i (iv n) (by simp[hi])
 exact⟨i0,o,rfl,h1,CJ pC (by rw[rG];exact h2)⟩
section
variable{E:CR}{s:AE}
theorem UF        (hE : GoodN E) {b p mi q : Nat} {vl vo : AV} {C o : Rat} {vs : List Int} {cs : List Rat} {kl ko k0 : Nat} {x : Bool} {a1 d1 : Option (Nat × Nat)} {n1 m1 : Nat} {c1 e1 : Option Nat} {c' : Rat} {M : Nat} (hM : M = min cs.length vs.length)
    {lc oc:List AV} (hvl:vl=.agg lc) (hvo:vo=.agg oc)
    (hL:∀S,Fx p mi s S→LI S vl C vs cs kl) (hO:∀S,Fx p mi s S→QI S vo o ko) (hb:2 * (k0+(M+1) * (kl+ko+1))+1≤1000000000) (hk0:1≤k0) (hkl:1≤kl) (hko:1≤ko)
    {T0 T':List CD} {Q:Ax→Prop} {av ac:Option (Nat×Nat)} {capv capc:Option Nat} {hlc:lc.drop 3=[.slice av vs.length capv,.slice ac cs.length capc]} (hq1:q+1<s.next)
    (hq:∀ (S:AE) (T':List CD) (y5 y6 y9 y10:AV),Fx p mi s S→S.heap.get p=some (BP x (.slice a1 n1 c1) (.slice d1 m1 e1) mi)→EO b S (.agg [.bool x,.slice a1 n1 c1,.slice d1 m1 e1]) mi c' T' (k0+M * (kl+ko+1))→Ev o vs cs T0 T' →
      Q ⟨.exit 0,[.ptr (some (p,0)),vl,vo,.ptr (some (q,0)),.ptr (some (q+1,0)),y5,y6,.slice ac M capc,iv (M:Int),y9,y10],[],S⟩):
    ∀ (j i:Nat) (S:AE) (T:List CD) (x5 x6 x10:AV),i+j=M→Fx p mi s S→S.heap.get p=some (BP x (.slice a1 n1 c1) (.slice d1 m1 e1) mi)→S.heap.get q=some (R 30 0 false lc)→S.heap.get (q+1)=some (R 26 0 false oc)→q≠p→q+1≠p→p<S.next →
      EO b S (.agg [.bool x,.slice a1 n1 c1,.slice d1 m1 e1]) mi c' T (k0+i * (kl+ko+1))→(∀T',Ev o (vs.drop i) (cs.drop i) T T'→Ev o vs cs T0 T') →
      WC E none (.loop Oo) Q [.ptr (some (p,0)),vl,vo,.ptr (some (q,0)),.ptr (some (q+1,0)),x5,x6,.slice ac M capc,iv (M:Int),iv (i:Int),x10] [] S:=by
  intro j
  induction j with
  | zero =>
    intro i S T x5 x6 x10 hij f g1 g2 g3 hqp hqp1 hpS hP hT
    have e:i=M:=by omega
    subst e
    have dd:decide ((i:Int)<(i:Int))=false:=decide_eq_false (by omega)
    refine WC.loop' ?_
    simp only[Oo,XK,Ry,dd,Qa,Qb,Qc,Qd,Qe,Qf,Qg,Qh,Qi,Qj,Qk,Ql,Qm,Qn,true_and,and_true,Qo,Qp,Qq,Qr,Qs,Qt,Qu,Qv,Qw,Qx,Qy,Qz,Ra,Rb,Rc,Rd,Re,Rf,Rg,Rh,Ri,Rj,Rk,Rm,Rn,Ro,Rp,Rq,Rt,Ya,Yb,Yc,Ru,Rw,Zb,Yd,Ye,Ry,Rz,Wa,Wb,Wc,Wd,We]
    refine hq S T _ _ _ _ f g1 hP (hT T ?_)
    rcases Nat.le_total cs.length vs.length with h | h
    · rw[rl (show cs.length≤i by omega)];exact .nil2 _ _
    · rw[rl (show vs.length≤i by omega)];exact .nil1 _ _
  | succ j ih =>
    intro i S T x5 x6 x10 hij f g1 g2 g3 hqp hqp1 hpS hP hT
    have hiM:i<M:=by omega
    have hic:i<cs.length:=by omega
    have hiv:i<vs.length:=by omega
    have dd:decide ((i:Int)<(M:Int))=true:=decide_eq_true (by omega)
    obtain⟨x9,a9,n9,cc9,b9,m9,d9,av',capv',ac',capc',cells,hv9,hC,hvc,hvi,hrat,_,_⟩:=hL S f
    have hlc2:[AV.slice av vs.length capv,AV.slice ac cs.length capc]=[.slice av' vs.length capv',.slice ac' cs.length capc']:=by
      rw[hvl]at hv9
      injection hv9 with hv9
      rw[← hlc,hv9];rfl
    injection hlc2 with q1 q2
    injection q1 with q1 _ q1'
    injection q2 with q2 _
    injection q2 with q2 _ q2'
    subst q1;subst q1';subst q2;subst q2'
    have hcs:cs[i]? = some cs[i]:=qy hic
    generalize cs[i]=ci at hcs
    have hvs:vs[i]? = some vs[i]:=qy hiv
    generalize vs[i]=vi at hvs
    have hdv:vs.drop i=vi::vs.drop (i+1):=by
      rw[sD hiv]
      rw[qy hiv]at hvs
      rw[Option.some.inj hvs]
    have hdc:cs.drop i=ci::cs.drop (i+1):=by
      rw[sD hic]
      rw[qy hic]at hcs
      rw[Option.some.inj hcs]
    have hqi:=hrat.rat i ci hcs
    obtain⟨i0,o0,rfl,hi0,ld0⟩:=hrat.load hic
    obtain⟨i1,o1',rfl,hi1,ld1⟩:=FT hvc hvs
    have hvin:=hvi vi (rQ hvs)
    have ix0:=Ah (cap:=capc) (i:=i0) (o:=o0) Tryz.underlying28 Ar hiM
    have ix1:=Ah (cap:=capv) (i:=i1) (o:=o1') Tryz.underlying27 Z9 hiv
    obtain⟨xx,aa,nn,kk,bb,mm,ee,hce⟩:=hqi.shape
    generalize hcc:(cells.drop (i * 3)).take 3=cc at *
    injection hce with hce
    subst hce
    obtain⟨n2,o2,g4⟩:=Bl S ZQ
    have hMb:M+1≤(M+1) * (kl+ko+1):=sU _ (by omega)
    have e17:=BU Tryz.prog 3 (i:Int) 1 ⟨by omega,by omega⟩
    have e17':((i:Int)+1)=((i+1:Nat):Int):=by omega
    have st:=Ai (P:=Tryz.prog) (t:=26) (cs:=[.bool xx,.slice aa nn kk,.slice bb mm ee]) Ar g4 rfl rfl rfl (by simp)
    refine WC.loop' ?_
    generalize hW:WC E none (Ad.loop Oo) Q=WW
    simp only[Oo,XK,fe,Ry,dd,ix0,ld0,Bb,Xc,st,Xy,Za,Qa,Qb,Qc,Qd,Qe,Qf,Qg,Qh,Qi,Qj,Qk,Ql,Qm,Qn,true_and,and_true,Qo,Qp,Qq,Qr,Qs,Qt,Qu,Qv,Qw,Qx,Qy,Qz,Ra,Rb,Rc,Rd,Re,Rf,Rg,Rh,Ri,Rj,Rk,Rm,Rn,Ro,Rp,Rq,Rt,Ya,Yb,Yc,Ru,Rw,Zb,Yd,Ye,Ry,Rz,Wa,Wb,Wc,Wd,We]
    generalize hs2:setObj (newObj S ZQ) S.next (R 26 0 false [.bool xx,.slice aa nn kk,.slice bb mm ee])=s2 at *
    have os2:Ae S.next S s2:=by rw[← hs2];exact o2.set (qw _) _
    have n3:s2.next=S.next+1:=by rw[← hs2];exact n2
    have gc:s2.heap.get S.next=some (R 26 0 false [.bool xx,.slice aa nn kk,.slice bb mm ee]):=by rw[← hs2,Ww]
    have f1:=f.1
    have k1:=(os2.2 p hpS).trans g1
    have k2:=(os2.2 q (by omega)).trans g2
    have k3:=(os2.2 (q+1) (by omega)).trans g3
    have lp:=AG (P:=Tryz.prog) (t:=56) H9 GI k1 rfl
    have lcl:lc=[.bool x9,.slice a9 n9 cc9,.slice b9 m9 d9,.slice (some (i1,o1')) vs.length capv,.slice (some (i0,o0)) cs.length capc]:=by
      rw[hvl]at hv9
      injection hv9
    have lv:=AI (P:=Tryz.prog) (t:=27) (o:=0+3) (v:=.slice (some (i1,o1')) vs.length capv) Ix k2 (by rw[lcl];rfl)
    have li:AA Tryz.prog s2 3 (.ptr (some (i1,o1'+i * 1)))=some (iv vi):=by
      obtain⟨i1',o1'',e,_,h3⟩:=FT ((hvc.old os2 (qw _)).mono os2.1) hvs
      injection e with e
      injection e with q1 q2
      subst q1;subst q2
      exact h3
    have fs2:Fx p mi s s2:=f.trans os2.fx
    have hO2:=hO s2 fs2
    rw[hvo]at hO2
    have hP2:=hP.old os2
    have hmul:(i+1) * (kl+ko+1)≤M * (kl+ko+1):=rF _ (by omega)
    have hs1:(i+1) * (kl+ko+1)=i * (kl+ko+1)+(kl+ko+1):=rK _ _
    have hs2':(M+1) * (kl+ko+1)=M * (kl+ko+1)+(kl+ko+1):=rK _ _
    simp only[ff,lp,lv,ix1,li,Hl,ET,tD,sM,Qa,Qb,Qc,Qd,Qe,Qf,Qg,Qh,Qi,Qj,Qk,Ql,Qm,Qn,true_and,and_true,Qo,Qp,Qq,Qr,Qs,Qt,Qu,Qv,Qw,Qx,Qy,Qz,Ra,Rb,Rc,Rd,Re,Rf,Rg,Rh,Ri,Rj,Rk,Rm,Rn,Ro,Rp,Rq,Rt,Ya,Yb,Yc,Ru,Rw,Zb,Yd,Ye,Ry,Rz,Wa,Wb,Wc,Wd,We]
    refine UP hE hvin hP2.map (hqi.old os2) hO2 gc k3 (by omega) (by omega) (by omega) hkl hko (by omega) fun r s3 w h3 f3 hw hM3=>?_
    simp only[fg,e17,e17',Qa,Qb,Qc,Qd,Qe,Qf,Qg,Qh,Qi,Qj,Qk,Ql,Qm,Qn,true_and,and_true,Qo,Qp,Qq,Qr,Qs,Qt,Qu,Qv,Qw,Qx,Qy,Qz,Ra,Rb,Rc,Rd,Re,Rf,Rg,Rh,Ri,Rj,Rk,Rm,Rn,Ro,Rp,Rq,Rt,Ya,Yb,Yc,Ru,Rw,Zb,Yd,Ye,Ry,Rz,Wa,Wb,Wc,Wd,We]
    rw[← hW]
    have hmp:mi≠p:=by rintro rfl;have:=hP.map.obj;rw[g1]at this;cases this
    have hmq:mi≠q:=by rintro rfl;have:=hP.map.obj;rw[g2]at this;cases this
    have hmq1:mi≠q+1:=by intro e;have:=hP.map.obj;rw[e,g3]at this;cases this
    have fx3:Fx p mi s s3:=fs2.trans ⟨h3,fun j hj _ h2=>f3 j hj h2⟩
    have ek:k0+i * (kl+ko+1)+(kl+ko)+1=k0+(i+1) * (kl+ko+1):=by omega
    rw[ek]at hM3
    have hc3:QR b s3 (.agg [.bool x,.slice a1 n1 c1,.slice d1 m1 e1]) c':=hP2.cq.keepS h3 fun j hj hu=>f3 j hj (EK hP2.map.obj hu)
    refine ih (i+1) s3 _ _ _ _ (by omega) fx3 ((f3 p (by omega) hmp.symm).trans k1) ((f3 q (by omega) hmq.symm).trans k2) ((f3 (q+1) (by omega) hmq1.symm).trans k3) hqp hqp1 (by omega) ⟨hc3,hP2.ch.le (by omega),hM3,fun t ht=>?_⟩ fun T' hT'=>hT T' ?_
    · rcases KE      ht with rfl | ht
      · intro j h1 h2
        have:=(hP2.cq.slots h1).2
        have:=hw j h2
        omega
      · exact hP.dj t ht
    · rw[hdv,hdc]
      exact .cons w hT'
end
theorem Cd(x:Bool)(a b av ac:Option (Nat×Nat))(n m nv nc:Nat)(c d cv cc:Option Nat):FJ (.agg [.bool x,.slice a n c,.slice b m d,.slice av nv cv,.slice ac nc cc]) (.agg [.bool x,.slice a n c,.slice b m d,.slice av nv cv,.slice ac nc cc])=true:=by
 have h:=BT
 have hb:=FQ
 show(FJ (.bool x) (.bool x) && (FJ (.slice a n c) (.slice a n c) && (FJ (.slice b m d) (.slice b m d) && (FJ (.slice av nv cv) (.slice av nv cv) && (FJ (.slice ac nc cc) (.slice ac nc cc) && true)))))=true
 rw[hb,h,h,h,h];rfl
section
variable{E:CR}{s:AE}
theorem H8(hE:GoodN E){b p mi:Nat}{vl vo:AV}{C o c:Rat}{vs:List Int}{cs:List Rat}{kl ko k:Nat}{x:Bool}{a1 d1:Option (Nat×Nat)}{n1 m1:Nat}{c1 e1:Option Nat}{T:List CD}
  (gp:s.heap.get p=some (BP x (.slice a1 n1 c1) (.slice d1 m1 e1) mi)) (hpn:p<s.next) (hbn:b≤s.next) (hP:EO b s (.agg [.bool x,.slice a1 n1 c1,.slice d1 m1 e1]) mi c T k)
  (hL:∀S,Fx p mi s S→LI S vl C vs cs kl) (hO:∀S,Fx p mi s S→QI S vo o ko) (hk1:1≤k) (hkl:1≤kl) (hko:1≤ko) (hb:2 * (k+(min cs.length vs.length+2) * (kl+ko+1))+1≤1000000000) {K:AV→AE→Prop}
  (hK:∀r s' x' a' n' c'' d' m' e' T',Fx p mi s s'→s'.heap.get p=some (BP x' (.slice a' n' c'') (.slice d' m' e') mi)→EO b s' (.agg [.bool x',.slice a' n' c'',.slice d' m' e']) mi (c+C * o) T' (k+(min cs.length vs.length+1) * (kl+ko+1))→Ev o vs cs T T'→K r s'):
  WF E 34 [.ptr (some (p,0)),vl,vo] K s:=by
 obtain⟨x9,a9,n9,cc9,b9,m9,d9,av,capv,ac,capc,cells,hv9,hC,hvc,hvi,hrat,hcv,hcc⟩:=hL s (Fx.refl _ _ _)
 have hqo:=hO s (Fx.refl _ _ _)
 obtain⟨x8,a8,n8,c8,b8,m8,d8,hv8⟩:=hqo.shape
 have hqC:=hC.qh hkl
 have hqO:=hqo.qh hko
 generalize hM:min cs.length vs.length=M at *
 have hs2':(M+2) * (kl+ko+1)=M * (kl+ko+1)+(kl+ko+1)+(kl+ko+1):=by rw[show M+2=(M+1)+1 by omega,rK,rK]
 have hs1':(M+1) * (kl+ko+1)=M * (kl+ko+1)+(kl+ko+1):=rK _ _
 refine hE.go kq (by decide) rfl ?_
 obtain⟨n2,o1,g1,g2⟩:=D4 s (R 30 0 false [.bool x9,.slice a9 n9 cc9,.slice b9 m9 d9,.slice av vs.length capv,.slice ac cs.length capc]) (BQ x8 (.slice a8 n8 c8) (.slice b8 m8 d8))
 have hcl:vl.cells=[.bool x9,.slice a9 n9 cc9,.slice b9 m9 d9,.slice av vs.length capv,.slice ac cs.length capc]:=by rw[hv9];rfl
 have hco:vo.cells=[.bool x8,.slice a8 n8 c8,.slice b8 m8 d8]:=by rw[hv8];rfl
 simp only[qM,fa,fb,Xa,hcl,hco,Xc,Ap,Hl,Kr,Hg,Qa,Qb,Qc,Qd,Qe,Qf,Qg,Qh,Qi,Qj,Qk,Ql,Qm,Qn,true_and,and_true,Qo,Qp,Qq,Qr,Qs,Qt,Qu,Qv,Qw,Qx,Qy,Qz,Ra,Rb,Rc,Rd,Re,Rf,Rg,Rh,Ri,Rj,Rk,Rm,Rn,Ro,Rp,Rq,Rt,Ya,Yb,Yc,Ru,Rw,Zb,Yd,Ye,Ry,Rz,Wa,Wb,Wc,Wd,We]
 generalize newObj (newObj s (R 30 0 false [.bool x9,.slice a9 n9 cc9,.slice b9 m9 d9,.slice av vs.length capv,.slice ac cs.length capc])) (BQ x8 (.slice a8 n8 c8) (.slice b8 m8 d8))=s1 at *
 have lp:AA Tryz.prog s1 26 (.ptr (some (p,0+0)))=some (.agg [.bool x,.slice a1 n1 c1,.slice d1 m1 e1]):=Ag (o:=0) (n:=3) BH Ar ((o1.2 p hpn).trans gp) (by simp)
 have ll:AA Tryz.prog s1 26 (.ptr (some (s.next,0+0)))=some (.agg [.bool x9,.slice a9 n9 cc9,.slice b9 m9 d9]):=Ag (o:=0) (n:=3) BH Ar g1 (by simp)
 have lo:=AG (P:=Tryz.prog) (t:=26) BH Ar g2 rfl
 simp only[lp,ll,lo,Qa,Qb,Qc,Qd,Qe,Qf,Qg,Qh,Qi,Qj,Qk,Ql,Qm,Qn,true_and,and_true,Qo,Qp,Qq,Qr,Qs,Qt,Qu,Qv,Qw,Qx,Qy,Qz,Ra,Rb,Rc,Rd,Re,Rf,Rg,Rh,Ri,Rj,Rk,Rm,Rn,Ro,Rp,Rq,Rt,Ya,Yb,Yc,Ru,Rw,Zb,Yd,Ye,Ry,Rz,Wa,Wb,Wc,Wd,We]
 rw[hv8]at hqo
 refine KJ hE (hC.old o1) (hqo.old o1) hkl hko (by omega) fun s2 v2 o2 r2=>?_
 have h2:=o2.1
 have lp2:AA Tryz.prog s2 26 (.ptr (some (p,0+0)))=some (.agg [.bool x,.slice a1 n1 c1,.slice d1 m1 e1]):=Ag (o:=0) (n:=3) BH Ar ((o2.2 p (by omega)).trans ((o1.2 p hpn).trans gp)) (by simp)
 refine⟨⟨Ak (by simp only[Qa,Qb,Qc,Qd,Qe,Qf,Qg,Qh,Qi,Qj,Qk,Ql,Qm,Qn,true_and,and_true,Qo,Qp,Qq,Qr,Qs,Qt,Qu,Qv,Qw,Qx,Qy,Qz,Ra,Rb,Rc,Rd,Re,Rf,Rg,Rh,Ri,Rj,Rk,Rm,Rn,Ro,Rp,Rq,Rt,Ya,Yb,Yc,Ru,Rw,Zb,Yd,Ye,Ry,Rz,Wa,Wb,Wc,Wd,We];exact lp2) (Cr _ _ _ _ _ _ _),trivial⟩,?_⟩
 simp only[Qa,Qb,Qc,Qd,Qe,Qf,Qg,Qh,Qi,Qj,Qk,Ql,Qm,Qn,true_and,and_true,Qo,Qp,Qq,Qr,Qs,Qt,Qu,Qv,Qw,Qx,Qy,Qz,Ra,Rb,Rc,Rd,Re,Rf,Rg,Rh,Ri,Rj,Rk,Rm,Rn,Ro,Rp,Rq,Rt,Ya,Yb,Yc,Ru,Rw,Zb,Yd,Ye,Ry,Rz,Wa,Wb,Wc,Wd,We]
 have o12:=o1.trans (o2.mono o1.1)
 have hP2:=hP.old o12
 have hqm:=hqC.mul hqO
 refine KH hE (hP2.cq.qi hP2.ch) (r2.qi hqm) hk1 (by omega) (by omega) fun s3 v3 o3 r3=>?_
 have h3:=o3.1
 have o13:=o12.trans (o3.mono o12.1)
 have hP3:=hP.old o13
 obtain⟨x3,a3,n3,c3,b3,m3,d3,rfl⟩:=r3.shape
 have gp3:=(o13.2 p hpn).trans gp
 have st:AM Tryz.prog s3 26 (.ptr (some (p,0+0))) (.agg [.bool x3,.slice a3 n3 c3,.slice b3 m3 d3])=some (setObj s3 p (BP x3 (.slice a3 n3 c3) (.slice b3 m3 d3) mi)):=Lt (off:=0) Ar gp3 rfl (by simp) rfl (by simp)
 generalize hs4:setObj s3 p (BP x3 (.slice a3 n3 c3) (.slice b3 m3 d3) mi)=s4 at st
 have n4:s4.next=s3.next:=by rw[← hs4];rfl
 have g4:s4.heap.get p=some (BP x3 (.slice a3 n3 c3) (.slice b3 m3 d3) mi):=by rw[← hs4,Ww]
 have f4:∀j,j≠p→s4.heap.get j=s3.heap.get j:=fun j hj=>by rw[← hs4,Wx _ hj]
 have fx4:Fx p mi s s4:=⟨by have:=o13.1;omega,fun j hj h1 _=>(f4 j h1).trans (o13.2 j hj)⟩
 have k1:s4.heap.get s.next=some (R 30 0 false [.bool x9,.slice a9 n9 cc9,.slice b9 m9 d9,.slice av vs.length capv,.slice ac cs.length capc]):=by rw[f4 _ (by omega),o3.2 _ (by omega),o2.2 _ (by omega)];exact g1
 have k2:s4.heap.get (s.next+1)=some (BQ x8 (.slice a8 n8 c8) (.slice b8 m8 d8)):=by rw[f4 _ (by omega),o3.2 _ (by omega),o2.2 _ (by omega)];exact g2
 have hmp:mi≠p:=by rintro rfl;have:=hP.map.obj;rw[gp]at this;cases this
 have hu4:∀j,j<s3.next→OX s3 j→s4.heap.get j=s3.heap.get j:=fun j _ hj=>f4 j (EL gp3 (by decide) hj)
 have hq4:QH (c+C * o) (k+(kl+ko+1)):=(hP.ch.add hqm).le (by omega)
 have hP4:EO b s4 (.agg [.bool x3,.slice a3 n3 c3,.slice b3 m3 d3]) mi (c+C * o) T (k+(kl+ko+1)):=
  ⟨(r3.keepS (rV n4.symm) hu4).mono (by have:=o12.1;omega),hq4,(hP3.map.keepS (rV n4.symm) (f4 mi hmp) hu4).le (by omega),fun t ht=>((hP2.map.ent t ht).1.dj r3 (qw _)).symm⟩
 have l1:=AI (P:=Tryz.prog) (t:=28) (o:=0+4) GG k1 rfl
 have l2:=AI (P:=Tryz.prog) (t:=27) (o:=0+3) Ix k1 rfl
 have hcc4:GL 3 s4 ac capc cs.length:=by
  obtain⟨_,_,_,_,_,_,_,av',capv',ac',capc',_,hv9',_,_,_,_,_,hcc'⟩:=hL s4 fx4
  rw[hv9]at hv9'
  injection hv9' with e
  injection e with _ e
  injection e with _ e
  injection e with _ e
  injection e with _ e
  injection e with e _
  injection e with e1 _ e2
  subst e1;subst e2
  exact hcc'
 have ct:=Yh (t:=28) Tryz.underlying28 Ar (by decide) hcc4 (show M≤cs.length by omega)
 have mm:=Ny cs.length vs.length
 rw[hM]at mm
 simp only[fc,Hl,Kr,st,l1,l2,ET,DA,AN Tryz.underlying28,AN Tryz.underlying27,mm,ct,Xy,Za,Qa,Qb,Qc,Qd,Qe,Qf,Qg,Qh,Qi,Qj,Qk,Ql,Qm,Qn,true_and,and_true,Qo,Qp,Qq,Qr,Qs,Qt,Qu,Qv,Qw,Qx,Qy,Qz,Ra,Rb,Rc,Rd,Re,Rf,Rg,Rh,Ri,Rj,Rk,Rm,Rn,Ro,Rp,Rq,Rt,Ya,Yb,Yc,Ru,Rw,Zb,Yd,Ye,Ry,Rz,Wa,Wb,Wc,Wd,We]
 refine UF hE (s:=s4) (b:=b) (p:=p) (mi:=mi) (q:=s.next) (C:=C) (o:=o) (vs:=vs) (cs:=cs) (kl:=kl) (ko:=ko) (k0:=k+(kl+ko+1)) (c':=c+C * o) (M:=M) hM.symm hv9 hv8 (fun S f=>hL S (fx4.trans f)) (fun S f=>hO S (fx4.trans f)) ?_ (by omega) hkl hko (T0:=T) (T':=T) (hlc:=rfl) (by omega)
  (fun S T' y5 y6 y9 y10 f gq hPq hT=>?_) M 0 s4 T _ _ _ (by omega) (Fx.refl _ _ _) g4 k1 k2 (by omega) (by omega) (by omega) (by rw[sN,rO];exact hP4) fun T' h=>h
 ·rw[hs1'];omega
 ·simp only[if_true,Qa,Qb,Qc,Qd,Qe,Qf,Qg,Qh,Qi,Qj,Qk,Ql,Qm,Qn,true_and,and_true,Qo,Qp,Qq,Qr,Qs,Qt,Qu,Qv,Qw,Qx,Qy,Qz,Ra,Rb,Rc,Rd,Re,Rf,Rg,Rh,Ri,Rj,Rk,Rm,Rn,Ro,Rp,Rq,Rt,Ya,Yb,Yc,Ru,Rw,Zb,Yd,Ye,Ry,Rz,Wa,Wb,Wc,Wd,We]
  refine hK _ S _ _ _ _ _ _ _ T' (fx4.trans f) gq (hPq.le ?_) hT
  rw[hs1'];omega
theorem Mk(hE:GoodN E){vl:AV}{C:Rat}{vs:List Int}{cs:List Rat}{kl:Nat}(hl:LI s vl C vs cs kl)(hkl:1≤kl)(hb:2 * (1+(min cs.length vs.length+2) * (kl+2))+1≤1000000000){K:AV→AE→Prop}
  (hK:∀s' v mi T,Ae s.next s s'→PV s.next s' v mi C T (1+(min cs.length vs.length+1) * (kl+2))→Ev 1 vs cs [] T→K v s'):WF E 32 [vl] K s:=by
 have hl0:=hl
 obtain⟨x9,a9,n9,cc9,b9,m9,d9,av,capv,ac,capc,cells,hv9,_⟩:=hl0
 have hcl:vl.cells=[.bool x9,.slice a9 n9 cc9,.slice b9 m9 d9,.slice av vs.length capv,.slice ac cs.length capc]:=by rw[hv9];rfl
 refine hE.go km (by decide) rfl ?_
 obtain⟨n2,o1,g1,g2⟩:=D4 s (R 30 0 false [.bool x9,.slice a9 n9 cc9,.slice b9 m9 d9,.slice av vs.length capv,.slice ac cs.length capc]) (R 56 0 false [.bool false,.slice none 0 (some 0),.slice none 0 (some 0),.map none])
 simp only[qK,fP,fQ,Xa,hcl,DQ,Xc,Ap,Qa,Qb,Qc,Qd,Qe,Qf,Qg,Qh,Qi,Qj,Qk,Ql,Qm,Qn,true_and,and_true,Qo,Qp,Qq,Qr,Qs,Qt,Qu,Qv,Qw,Qx,Qy,Qz,Ra,Rb,Rc,Rd,Re,Rf,Rg,Rh,Ri,Rj,Rk,Rm,Rn,Ro,Rp,Rq,Rt,Ya,Yb,Yc,Ru,Rw,Zb,Yd,Ye,Ry,Rz,Wa,Wb,Wc,Wd,We]
 generalize newObj (newObj s (R 30 0 false [.bool x9,.slice a9 n9 cc9,.slice b9 m9 d9,.slice av vs.length capv,.slice ac cs.length capc])) (R 56 0 false [.bool false,.slice none 0 (some 0),.slice none 0 (some 0),.map none])=s1 at *
 refine K4 hE fun s2 v2 mi o2 r2=>?_
 have h2:=o2.1
 obtain⟨x,a,n,ca,d,m,cd,rfl,hP⟩:=r2
 obtain⟨n3,o3,g3⟩:=Bl s2 (R 56 0 false [.bool false,.slice none 0 (some 0),.slice none 0 (some 0),.map none])
 have st:=Ai (P:=Tryz.prog) (t:=56) (cs:=[.bool x,.slice a n ca,.slice d m cd,.map (some mi)]) GI g3 rfl rfl rfl (by simp)
 have o12:=o1.trans (o2.mono o1.1)
 simp only[DQ,Xc,st,Xy,Za,Qa,Qb,Qc,Qd,Qe,Qf,Qg,Qh,Qi,Qj,Qk,Ql,Qm,Qn,true_and,and_true,Qo,Qp,Qq,Qr,Qs,Qt,Qu,Qv,Qw,Qx,Qy,Qz,Ra,Rb,Rc,Rd,Re,Rf,Rg,Rh,Ri,Rj,Rk,Rm,Rn,Ro,Rp,Rq,Rt,Ya,Yb,Yc,Ru,Rw,Zb,Yd,Ye,Ry,Rz,Wa,Wb,Wc,Wd,We]
 generalize hs4:setObj (newObj s2 (R 56 0 false [.bool false,.slice none 0 (some 0),.slice none 0 (some 0),.map none])) s2.next (R 56 0 false [.bool x,.slice a n ca,.slice d m cd,.map (some mi)])=s4
 have o24:Ae s2.next s2 s4:=by rw[← hs4];exact o3.set (qw _) _
 have n4:s4.next=s2.next+1:=by rw[← hs4];exact n3
 have g4:s4.heap.get s2.next=some (BP x (.slice a n ca) (.slice d m cd) mi):=by rw[← hs4,Ww]
 have k1:s4.heap.get s.next=some (R 30 0 false [.bool x9,.slice a9 n9 cc9,.slice b9 m9 d9,.slice av vs.length capv,.slice ac cs.length capc]):=by rw[o24.2 _ (by omega),o2.2 _ (by omega)];exact g1
 have o14:=o12.trans (o24.mono o12.1)
 have l1:=AG (P:=Tryz.prog) (t:=30) B6 Bp k1 rfl
 simp only[fR,l1,Qa,Qb,Qc,Qd,Qe,Qf,Qg,Qh,Qi,Qj,Qk,Ql,Qm,Qn,true_and,and_true,Qo,Qp,Qq,Qr,Qs,Qt,Qu,Qv,Qw,Qx,Qy,Qz,Ra,Rb,Rc,Rd,Re,Rf,Rg,Rh,Ri,Rj,Rk,Rm,Rn,Ro,Rp,Rq,Rt,Ya,Yb,Yc,Ru,Rw,Zb,Yd,Ye,Ry,Rz,Wa,Wb,Wc,Wd,We]
 refine FZ hE (n:=1) (.inr (.inl rfl)) fun s5 v5 o5 r5=>?_
 have h5:=o5.1
 have k5:=(o5.2 s.next (by omega)).trans k1
 refine⟨⟨Ak (by simp only[Qa,Qb,Qc,Qd,Qe,Qf,Qg,Qh,Qi,Qj,Qk,Ql,Qm,Qn,true_and,and_true,Qo,Qp,Qq,Qr,Qs,Qt,Qu,Qv,Qw,Qx,Qy,Qz,Ra,Rb,Rc,Rd,Re,Rf,Rg,Rh,Ri,Rj,Rk,Rm,Rn,Ro,Rp,Rq,Rt,Ya,Yb,Yc,Ru,Rw,Zb,Yd,Ye,Ry,Rz,Wa,Wb,Wc,Wd,We];exact AG B6 Bp k5 rfl) (Cd ..),trivial⟩,?_⟩
 simp only[Qa,Qb,Qc,Qd,Qe,Qf,Qg,Qh,Qi,Qj,Qk,Ql,Qm,Qn,true_and,and_true,Qo,Qp,Qq,Qr,Qs,Qt,Qu,Qv,Qw,Qx,Qy,Qz,Ra,Rb,Rc,Rd,Re,Rf,Rg,Rh,Ri,Rj,Rk,Rm,Rn,Ro,Rp,Rq,Rt,Ya,Yb,Yc,Ru,Rw,Zb,Yd,Ye,Ry,Rz,Wa,Wb,Wc,Wd,We]
 have o15:=o14.trans (o5.mono o14.1)
 have g5:=(o5.2 s2.next (by omega)).trans g4
 have hP5:=hP.old (o24.trans (o5.mono o24.1))
 have hmlo:=hP.map.lo
 have hone:QH ((1:Int):Rat) 1:=⟨by decide,by decide⟩
 have hlx:=hl.old o15
 rw[hv9]at hlx
 refine H8 hE (b:=s.next) (p:=s2.next) (kl:=kl) (ko:=1) (k:=1) g5 (by omega) (by omega) (hP5.mono (by omega)) (fun S f=>by
   have:=hl.old (o15.trans ((f.old (b:=s.next) (by omega) (by omega) (by omega))))
   rw[hv9]at this
   exact this) (fun S f=>(r5.fx g5 (by decide) hP5.map.obj f).qi hone) (by omega) hkl (by omega) hb fun r s6 x' a' n' c'' d' m' e' T' f6 g6 hP6 hT=>?_
 have l6:=AG (P:=Tryz.prog) (t:=56) H9 GI g6 rfl
 have f7:s6.heap.get (s.next+1)=some (R 56 0 false [.bool false,.slice none 0 (some 0),.slice none 0 (some 0),.map none]):=by
  rw[f6.2 _ (by omega) (by omega) (by omega),o5.2 _ (by omega),o24.2 _ (by omega),o2.2 _ (by omega)];exact g2
 have st7:=Ai (P:=Tryz.prog) (t:=56) (cs:=[.bool x',.slice a' n' c'',.slice d' m' e',.map (some mi)]) GI f7 rfl rfl rfl (by simp)
 have ld7:=AG (P:=Tryz.prog) (t:=56) (s:=setObj s6 (s.next+1) (R 56 0 false [.bool x',.slice a' n' c'',.slice d' m' e',.map (some mi)])) (i:=s.next+1) H9 GI (Ww _ _ _) rfl
 simp only[fS,l6,st7,ld7,AO,Xy,Za,Qa,Qb,Qc,Qd,Qe,Qf,Qg,Qh,Qi,Qj,Qk,Ql,Qm,Qn,true_and,and_true,Qo,Qp,Qq,Qr,Qs,Qt,Qu,Qv,Qw,Qx,Qy,Qz,Ra,Rb,Rc,Rd,Re,Rf,Rg,Rh,Ri,Rj,Rk,Rm,Rn,Ro,Rp,Rq,Rt,Ya,Yb,Yc,Ru,Rw,Zb,Yd,Ye,Ry,Rz,Wa,Wb,Wc,Wd,We]
 have e1:(0:Rat)+C * ((1:Int):Rat)=C:=by rw[Rat.zero_add];exact Rat.mul_one C
 rw[e1]at hP6
 have h6:=f6.1
 refine hK _ _ mi T' ⟨?_,fun j hj=>?_⟩ ⟨_,_,_,_,_,_,_,rfl,hP6.set f7 (by decide) _⟩ hT
 ·show s.next≤s6.next;omega
 ·rw[Wx _ (by omega),f6.2 j (by omega) (by omega) (by omega),o15.2 j hj]
end
structure DP(E:CR):Prop extends GoodN E where
 srt:∀ (xs:List AV) (s:AE),E.nat 78 xs s=Fd 121 3 3 s xs
 wk:∀s:AE,E.nat 15 [] s=some (.bool true,s)
def Nd(T:List CD)(ks:List Int):List (Int×Rat):=(ks.map fun n=>(n,CB n T)).filter fun p=>decide (p.2≠0)
def Ba(T:List CD):List (Int×Rat):=Nd T (EJ (BE T))
theorem MN(T:List CD)(ks:List Int)(n:Int):Nd T (ks++[n])=Nd T ks++(if CB n T=0 then []else [(n,CB n T)]):=by
 unfold Nd
 rw[List.map_append,List.filter_append]
 congr 1
 by_cases h:CB n T=0
 ·rw[if_pos h];simp[h]
 ·rw[if_neg h];simp[h]
theorem Ma:∀T:List CD,Jg (Fl T)=some (BE T)
 | []=>rfl
 | t::T=>by
  show(Jg (Fl T)).bind (fun r=>some (t.1::r))=some (t.1::BE T)
  rw[Ma T];rfl
theorem G2(l:List Int):(EJ l).length=l.length:=(DY l).length_eq
theorem UY{l:List Int}{x:Int}:x∈EJ l↔x∈l:=(DY l).mem_iff
theorem Tm(q:Rat):FG q.num≠0↔q≠0:=by
 constructor
 ·rintro h rfl;exact h rfl
 ·intro h h2
  rcases F2 q.num with⟨_,e⟩ | ⟨e,_⟩ | ⟨_,e⟩
  ·rw[e]at h2;exact absurd h2 (by decide)
  ·exact h (Rat.num_eq_zero.1 e)
  ·rw[e]at h2;exact absurd h2 (by decide)
section
variable{E:CR}{s:AE}
theorem QU(hE:GoodN E){x:Bool}{a d:Option (Nat×Nat)}{n m mi:Nat}{ca cd:Option Nat}{K:AV→AE→Prop}
  (hK:∀s',s'.next=s.next+1→Ae s.next s s'→s'.heap.get s.next=some (BP x (.slice a n ca) (.slice d m cd) mi)→K (.func 77 [] [.ptr (some (s.next,0))]) s'):WF E 41 [.agg [.bool x,.slice a n ca,.slice d m cd,.map (some mi)]] K s:=by
 refine hE.go kz (by decide) rfl ?_
 obtain⟨n1,o1,g1⟩:=Bl s (BP x (.slice a n ca) (.slice d m cd) mi)
 simp only[qO,ft,fu,Xa,Xh,Xc,tD,sM,Qa,Qb,Qc,Qd,Qe,Qf,Qg,Qh,Qi,Qj,Qk,Ql,Qm,Qn,true_and,and_true,Qo,Qp,Qq,Qr,Qs,Qt,Qu,Qv,Qw,Qx,Qy,Qz,Ra,Rb,Rc,Rd,Re,Rf,Rg,Rh,Ri,Rj,Rk,Rm,Rn,Ro,Rp,Rq,Rt,Ya,Yb,Yc,Ru,Rw,Zb,Yd,Ye,Ry,Rz,Wa,Wb,Wc,Wd,We]
 exact hK _ n1 o1 g1
theorem NJ      (hE : DP    E) {sA : AE}  {pb l b mi k : Nat} {T : List CD}  (hPA : GF   b sA mi T k) (hk : k ≤ 1000000000) (hTl : T.length ≤ 1000000) (ho : Ae  sA.next sA s) {x : Bool} {a1 d1 : Option (Nat × Nat)} {n1 m1 : Nat} {c1 e1 : Option Nat}
    (gp:s.heap.get pb=some (BP x (.slice a1 n1 c1) (.slice d1 m1 e1) mi)) (hpb:pb<s.next) {O0:List Nat} (hO0:pb ∉ O0) (hOl:∀j∈O0,sA.next≤j) (LI:List (Int×Rat)→List Nat→AE→Prop)
    (hstab:∀done O S S',LI done O S→Ae S.next S S'→LI done O S') (hOlt:∀done O S,LI done O S→∀j∈O,j<S.next)
    (hround:∀ (done:List (Int×Rat)) (n:Int) (q:Rat) (vq:AV) (O:List Nat) (S:AE) (K:AV→AE→Prop),LI done O S→Ae sA.next sA S→q≠0→(n,q,vq)∈T→done.length≤T.length →
      (∀S' O',LI (done++[(n,q)]) O' S'→S.next≤S'.next→(∀j,j<S.next→j ∉ O→S'.heap.get j=S.heap.get j)→(∀j∈O',j∈O∨S.next≤j)→K (.bool true) S')→WR E l [iv n,vq] K S)
    {K:AV→AE→Prop} (h0:LI [] O0 s) (hend:∀v S O,Ae sA.next sA S→s.next≤S.next→(∀j,j<s.next→j ∉ O0→S.heap.get j=s.heap.get j)→LI (Ba T) O S→K v S):WF E 77 [.yield l,.ptr (some (pb,0))] K s:=by
  refine hE.go lY (by decide) rfl ?_
  have l1:=AI (P:=Tryz.prog) (t:=54) (o:=0+3) KS gp rfl
  simp only[ql,im,l1,Fm,Qa,Qb,Qc,Qd,Qe,Qf,Qg,Qh,Qi,Qj,Qk,Ql,Qm,Qn,true_and,and_true,Qo,Qp,Qq,Qr,Qs,Qt,Qu,Qv,Qw,Qx,Qy,Qz,Ra,Rb,Rc,Rd,Re,Rf,Rg,Rh,Ri,Rj,Rk,Rm,Rn,Ro,Rp,Rq,Rt,Ya,Yb,Yc,Ru,Rw,Zb,Yd,Ye,Ry,Rz,Wa,Wb,Wc,Wd,We]
  refine hE.go lZ (by decide) rfl ?_
  obtain⟨n2,o2,g2⟩:=Bl s (R 54 0 false [.map (some mi)])
  simp only[qm,iu,iw,Xa,Xl,Xc,tD,sM,Qa,Qb,Qc,Qd,Qe,Qf,Qg,Qh,Qi,Qj,Qk,Ql,Qm,Qn,true_and,and_true,Qo,Qp,Qq,Qr,Qs,Qt,Qu,Qv,Qw,Qx,Qy,Qz,Ra,Rb,Rc,Rd,Re,Rf,Rg,Rh,Ri,Rj,Rk,Rm,Rn,Ro,Rp,Rq,Rt,Ya,Yb,Yc,Ru,Rw,Zb,Yd,Ye,Ry,Rz,Wa,Wb,Wc,Wd,We]
  generalize newObj s (R 54 0 false [.map (some mi)])=s1 at *
  have o01:Ae sA.next sA s1:=ho.trans (o2.mono ho.1)
  have hP1:=hPA.old o01
  generalize hks:EJ (BE T)=ks
  have hksl:ks.length=T.length:=by rw[← hks,G2];simp[BE]
  have key:∀ (kv:AV) (s2:AE),Ae s1.next s1 s2→(∃a cap,kv=.slice a ks.length cap∧AZ s2.next s2 a (ks.map iv)∧∀i o,a=some (i,o)→s1.next≤i∧i<s2.next) →
      WC E none (.loop JZ) (fun r=>r.exit=.exit 0∧r.marks=[]∧∃O,Ae sA.next sA r.st∧s.next≤r.st.next∧(∀j,j<s.next→j ∉ O0→r.st.heap.get j=s.heap.get j)∧LI (Ba T) O r.st) [.yield l,.ptr (some (pb,0)),BM,BM,kv,iv (ks.length:Int),iv 0,BM,BM] [] s2:=by
    rintro kv s2 o12 ⟨a,cap,rfl,hcell,haid⟩
    have hloop:∀ (m i:Nat) (S:AE) (O:List Nat) (x2 x3 x7 x8:AV),i+m=ks.length→Ae sA.next sA S→s2.next≤S.next→(∀j,j<s2.next→j ∉ O0→S.heap.get j=s2.heap.get j)→(∀j∈O,j∈O0∨s2.next≤j)→LI (Nd T (ks.take i)) O S →
        WC E none (.loop JZ) (fun r=>r.exit=.exit 0∧r.marks=[]∧∃O,Ae sA.next sA r.st∧s.next≤r.st.next∧(∀j,j<s.next→j ∉ O0→r.st.heap.get j=s.heap.get j)∧LI (Ba T) O r.st) [.yield l,.ptr (some (pb,0)),x2,x3,.slice a ks.length cap,iv (ks.length:Int),iv (i:Int),x7,x8] [] S:=by
      intro m
      induction m with
      | zero =>
        intro i S O x2 x3 x7 x8 him hoS hnS hfS hOS hLI
        have e:i=ks.length:=by omega
        subst e
        have dd:decide ((ks.length:Int)<(ks.length:Int))=false:=decide_eq_false (by omega)
        rw[List.take_length]at hLI
        refine WC.loop' ?_
        simp only[JZ,YA,Ry,dd,Qa,Qb,Qc,Qd,Qe,Qf,Qg,Qh,Qi,Qj,Qk,Ql,Qm,Qn,true_and,and_true,Qo,Qp,Qq,Qr,Qs,Qt,Qu,Qv,Qw,Qx,Qy,Qz,Ra,Rb,Rc,Rd,Re,Rf,Rg,Rh,Ri,Rj,Rk,Rm,Rn,Ro,Rp,Rq,Rt,Ya,Yb,Yc,Ru,Rw,Zb,Yd,Ye,Ry,Rz,Wa,Wb,Wc,Wd,We]
        refine⟨O,hoS,by have:=o2.1;have:=o12.1;omega,fun j hj hjO=>?_,by unfold Ba;rw[hks];exact hLI⟩
        rw[hfS j (by have:=o12.1;omega) hjO,o12.2 j (by omega),o2.2 j hj]
      | succ m ih =>
        intro i S O x2 x3 x7 x8 him hoS hnS hfS hOS hLI
        have hi:i<ks.length:=by omega
        have hkn:ks[i]? = some ks[i]:=qy hi
        generalize ks[i]=n at hkn
        have hnk:n∈BE T:=by rw[← UY,hks];exact rQ hkn
        have hgt:∃p,Dp n T=some p:=by
          cases h:Dp n T with
          | none=>exact absurd hnk (MW.1 h)
          | some p=>exact⟨p,rfl⟩
        obtain⟨⟨q,vq⟩,hgq⟩:=hgt
        have hmem:=E1 hgq
        have hvq:CB n T=q:=by unfold CB;rw[hgq]
        have hPS:=hPA.old hoS
        obtain⟨hq1,hq2,hq3⟩:=hPS.ent _ hmem
        simp only at hq1 hq2 hq3
        have dd:decide ((i:Int)<(ks.length:Int))=true:=decide_eq_true (by omega)
        obtain⟨i0,o0,rfl,hi0,hld⟩:=FT hcell hkn
        have hid:=haid i0 o0 rfl
        have hi0O:i0 ∉ O0:=fun h=>by have:=hOlt _ _ _ h0 i0 h;have:=o2.1;omega
        have ix:=Ah (cap:=cap) (i:=i0) (o:=o0) Tryz.underlying27 Z9 hi
        have hld':AA Tryz.prog S 3 (.ptr (some (i0,o0+i * 1)))=some (iv n):=by
          rw[Wf pC]at hld ⊢
          rw[hfS i0 hid.2 hi0O];exact hld
        have gpS:S.heap.get pb=some (BP x (.slice a1 n1 c1) (.slice d1 m1 e1) mi):=by
          rw[hfS pb (by have:=o12.1;omega) hO0,o12.2 pb (by omega),o2.2 pb hpb];exact gp
        have l1:=AI (P:=Tryz.prog) (t:=54) (o:=0+3) KS gpS rfl
        have lk:=Me hPS.obj hq3 hgq
        simp only at lk
        obtain⟨xx,aa,nn,kk,bb,mm,ee,hce⟩:=hq1.shape
        obtain⟨n3,o3,g3⟩:=Bl S ZQ
        have st:=Ai (P:=Tryz.prog) (t:=26) (cs:=[.bool xx,.slice aa nn kk,.slice bb mm ee]) Ar g3 rfl rfl rfl (by simp)
        rw[← hce]at st
        have hTb:ks.length≤1000000:=by omega
        have e17:=BU Tryz.prog 3 (i:Int) 1 ⟨by omega,by omega⟩
        have e17':((i:Int)+1)=((i+1:Nat):Int):=by omega
        refine WC.loop' ?_
        generalize hW:WC E none (Ad.loop JZ) _=WW
        simp only[JZ,YA,ip,iq,Ry,dd,ix,hld',l1,lk,Fm,Bb,Xc,st,Xy,Za,Qa,Qb,Qc,Qd,Qe,Qf,Qg,Qh,Qi,Qj,Qk,Ql,Qm,Qn,true_and,and_true,Qo,Qp,Qq,Qr,Qs,Qt,Qu,Qv,Qw,Qx,Qy,Qz,Ra,Rb,Rc,Rd,Re,Rf,Rg,Rh,Ri,Rj,Rk,Rm,Rn,Ro,Rp,Rq,Rt,Ya,Yb,Yc,Ru,Rw,Zb,Yd,Ye,Ry,Rz,Wa,Wb,Wc,Wd,We]
        generalize hs3:setObj (newObj S ZQ) S.next (R 26 0 false [.bool xx,.slice aa nn kk,.slice bb mm ee])=s3 at *
        have o13:Ae S.next S s3:=by rw[← hs3];exact o3.set (qw _) _
        have n3':s3.next=S.next+1:=by rw[← hs3];exact n3
        have g3':s3.heap.get S.next=some (R 26 0 false [.bool xx,.slice aa nn kk,.slice bb mm ee]):=by rw[← hs3,Ww]
        have l3:=AG (P:=Tryz.prog) (t:=26) BH Ar g3' rfl
        rw[← hce]at l3
        simp only[ir,l3,Qa,Qb,Qc,Qd,Qe,Qf,Qg,Qh,Qi,Qj,Qk,Ql,Qm,Qn,true_and,and_true,Qo,Qp,Qq,Qr,Qs,Qt,Qu,Qv,Qw,Qx,Qy,Qz,Ra,Rb,Rc,Rd,Re,Rf,Rg,Rh,Ri,Rj,Rk,Rm,Rn,Ro,Rp,Rq,Rt,Ya,Yb,Yc,Ru,Rw,Zb,Yd,Ye,Ry,Rz,Wa,Wb,Wc,Wd,We]
        refine Px hE.toGoodN ((hq1.old o13).qi hq2) hk fun s4 o4=>?_
        have h4:=o4.1
        have o34:Ae S.next S s4:=o13.trans (o4.mono o13.1)
        have hLI4:=hstab _ _ _ s4 hLI o34
        have o04:Ae sA.next sA s4:=hoS.trans (o34.mono hoS.1)
        have htk:ks.take (i+1)=ks.take i++[n]:=by rw[List.take_add_one,hkn];rfl
        by_cases hz:q=0
        · have dz:decide (FG q.num≠0)=false:=decide_eq_false (fun h=>(Tm q).1 h hz)
          simp only[Wd,dz,Ru,YB,e17,e17',Qa,Qb,Qc,Qd,Qe,Qf,Qg,Qh,Qi,Qj,Qk,Ql,Qm,Qn,true_and,and_true,Qo,Qp,Qq,Qr,Qs,Qt,Qu,Qv,Qw,Qx,Qy,Qz,Ra,Rb,Rc,Rd,Re,Rf,Rg,Rh,Ri,Rj,Rk,Rm,Rn,Ro,Rp,Rq,Rt,Ya,Yb,Yc,Ru,Rw,Zb,Yd,Ye,Ry,Rz,Wa,Wb,Wc,Wd,We]
          rw[← hW]
          refine ih (i+1) s4 O _ _ _ _ (by omega) o04 (by omega) (fun j hj hjO=>?_) hOS ?_
          · rw[o34.2 j (by omega),hfS j hj hjO]
          · rw[htk,MN,hvq,if_pos hz,sj];exact hLI4
        · have dz : decide (FG   q.num ≠ 0) = true := decide_eq_true ((Tm      q).2 hz)
          have l4:=AG (P:=Tryz.prog) (t:=26) BH Ar ((o4.2 S.next (by omega)).trans g3') rfl
          rw[← hce]at l4
          simp only[Wd,dz,l4,Qa,Qb,Qc,Qd,Qe,Qf,Qg,Qh,Qi,Qj,Qk,Ql,Qm,Qn,true_and,and_true,Qo,Qp,Qq,Qr,Qs,Qt,Qu,Qv,Qw,Qx,Qy,Qz,Ra,Rb,Rc,Rd,Re,Rf,Rg,Rh,Ri,Rj,Rk,Rm,Rn,Ro,Rp,Rq,Rt,Ya,Yb,Yc,Ru,Rw,Zb,Yd,Ye,Ry,Rz,Wa,Wb,Wc,Wd,We]
          refine hround _ n q vq O s4 _ hLI4 o04 hz hmem (by
            unfold Nd
            refine rD (List.length_filter_le _ _) ?_
            rw[sO,rR];omega) fun S' O' hLI' hn' hf' hO'=>?_
          simp only[We,Bool.not_true,Ru,YB,e17,e17',Qa,Qb,Qc,Qd,Qe,Qf,Qg,Qh,Qi,Qj,Qk,Ql,Qm,Qn,true_and,and_true,Qo,Qp,Qq,Qr,Qs,Qt,Qu,Qv,Qw,Qx,Qy,Qz,Ra,Rb,Rc,Rd,Re,Rf,Rg,Rh,Ri,Rj,Rk,Rm,Rn,Ro,Rp,Rq,Rt,Ya,Yb,Yc,Ru,Rw,Zb,Yd,Ye,Ry,Rz,Wa,Wb,Wc,Wd,We]
          rw[← hW]
          refine ih (i+1) S' O' _ _ _ _ (by omega) ⟨by have:=o04.1;omega,fun j hj=>?_⟩ (by omega) (fun j hj hjO=>?_) (fun j hj=>?_) ?_
          · have hjO:j ∉ O:=fun h=>by
              rcases hOS j h with h | h
              · have:=hOl j h;omega
              · have:=o01.1;have:=o12.1;omega
            rw[hf' j (by have:=o04.1;omega) hjO,o04.2 j hj]
          · have hjO':j ∉ O:=fun h=>by
              rcases hOS j h with h | h
              · exact hjO h
              · omega
            rw[hf' j (by omega) hjO',o34.2 j (by omega),hfS j hj hjO]
          · rcases hO' j hj with h | h
            · exact hOS j h
            · exact .inr (by omega)
          · rw[htk,MN,hvq,if_neg hz];exact hLI'
    exact hloop ks.length 0 s2 O0 _ _ _ _ (by omega) (o01.trans (o12.mono o01.1)) (qw _) (fun _ _ _=>rfl) (fun j hj=>.inl hj) (hstab _ _ _ s2 h0 (o2.trans (o12.mono o2.1)))
  have fin:∀ (kv:AV) (s2:AE),WC E none (.loop JZ) (fun r=>r.exit=.exit 0∧r.marks=[]∧∃O,Ae sA.next sA r.st∧s.next≤r.st.next∧(∀j,j<s.next→j ∉ O0→r.st.heap.get j=s.heap.get j)∧LI (Ba T) O r.st) [.yield l,.ptr (some (pb,0)),BM,BM,kv,iv (ks.length:Int),iv 0,BM,BM] [] s2 →
      WC E none (.loop JZ) (Ec 0 (Ends Tryz.prog [] K)) [.yield l,.ptr (some (pb,0)),BM,BM,kv,iv (ks.length:Int),iv 0,BM,BM] [] s2:=fun kv s2 h=>by
    refine h.mono ?_
    rintro⟨e,v,mm,s'⟩ ⟨q1,q0,O,q2,q3,q4,q5⟩
    simp only at q1 q0 q2 q3 q4 q5
    subst q0
    subst q1
    simp only[if_true,Qa,Qb,Qc,Qd,Qe,Qf,Qg,Qh,Qi,Qj,Qk,Ql,Qm,Qn,true_and,and_true,Qo,Qp,Qq,Qr,Qs,Qt,Qu,Qv,Qw,Qx,Qy,Qz,Ra,Rb,Rc,Rd,Re,Rf,Rg,Rh,Ri,Rj,Rk,Rm,Rn,Ro,Rp,Rq,Rt,Ya,Yb,Yc,Ru,Rw,Zb,Yd,Ye,Ry,Rz,Wa,Wb,Wc,Wd,We]
    exact hend _ _ O q2 q3 q4 q5
  have hrow:rowAt s1 s.next=some { elem:=54,sz:=0,n:=1,c:=SM [.map (some mi)],spare:=false,mode:=.own,par:=none,bytes:=true }:=by unfold rowAt;rw[g2];rfl
  have hl1:Cm s1 s.next 0=some (.map (some mi)):=by rw[IR,g2,Wo];rfl
  have hmat:Gg s1 3 mi=some (Fl T):=by unfold Gg;rw[hP1.obj];rfl
  have hsm:Fd 121 3 3 s1 [.func 121 [] [.ptr (some (s.next,0))]]=HB 3 (BE T) s1:=by
    unfold Fd
    simp only[FN,Bool.and_true,hrow,hl1,hmat,Ma,Option.bind_some,Xg]
  cases hkt:BE T with
  | nil =>
    have hk0:ks=[]:=by rw[← hks,hkt];rfl
    have hn:E.nat 78 [.func 121 [] [.ptr (some (s.next,0))]] s1=some (.slice none 0 (some 0),s1):=by rw[hE.srt,hsm,hkt];rfl
    refine WF.nat hn ?_
    simp only[AN Tryz.underlying27,Qa,Qb,Qc,Qd,Qe,Qf,Qg,Qh,Qi,Qj,Qk,Ql,Qm,Qn,true_and,and_true,Qo,Qp,Qq,Qr,Qs,Qt,Qu,Qv,Qw,Qx,Qy,Qz,Ra,Rb,Rc,Rd,Re,Rf,Rg,Rh,Ri,Rj,Rk,Rm,Rn,Ro,Rp,Rq,Rt,Ya,Yb,Yc,Ru,Rw,Zb,Yd,Ye,Ry,Rz,Wa,Wb,Wc,Wd,We]
    have:=fin (.slice none ks.length (some 0)) s1 (key _ s1 (Ae.refl _ _) ⟨none,some 0,rfl,by rw[hk0];exact AZ.nil,fun i o e=>by cases e⟩)
    rw[hk0]at this
    exact this
  | cons k0 tl =>
    have hlen:(k0::tl).length=ks.length:=by rw[← hkt,← hks,G2]
    have hr:Ce 3 1 (AW.fill .leaf 0 ((EJ (k0::tl)).map UZ)) (k0::tl).length none true=R 3 1 true (ks.map iv):=by
      rw[← hkt,hks]
      have e:(BE T).length=(ks.map UZ).length:=by rw[sO,← hks,G2]
      rw[e]
      exact R3 3 1 (ks.map UZ)
    have hn:E.nat 78 [.func 121 [] [.ptr (some (s.next,0))]] s1=some (.slice (some (s1.next,0)) ks.length none,newObj s1 (R 3 1 true (ks.map iv))):=by
      rw[hE.srt,hsm,hkt]
      show AL (Nat.ble (k0::tl).length 1000000) (some (AV.slice (some (s1.next,0)) (k0::tl).length none,newObj s1 (Ce 3 1 (AW.fill .leaf 0 ((EJ (k0::tl)).map UZ)) (k0::tl).length none true)))=_
      rw[hr,hlen,Cn (show ks.length≤1000000 by omega)]
      rfl
    refine WF.nat hn ?_
    simp only[AN Tryz.underlying27,Qa,Qb,Qc,Qd,Qe,Qf,Qg,Qh,Qi,Qj,Qk,Ql,Qm,Qn,true_and,and_true,Qo,Qp,Qq,Qr,Qs,Qt,Qu,Qv,Qw,Qx,Qy,Qz,Ra,Rb,Rc,Rd,Re,Rf,Rg,Rh,Ri,Rj,Rk,Rm,Rn,Ro,Rp,Rq,Rt,Ya,Yb,Yc,Ru,Rw,Zb,Yd,Ye,Ry,Rz,Wa,Wb,Wc,Wd,We]
    obtain⟨n5,o5,g5⟩:=Bl s1 (R 3 1 true (ks.map iv))
    exact fin (.slice (some (s1.next,0)) ks.length none) _ (key _ _ o5 ⟨some (s1.next,0),none,rfl,J7 g5 (by omega),fun i o e=>by
      injection e with e
      injection e with e1 e2
      subst e1;subst e2
      exact⟨qw _,by omega⟩⟩)
end
end
end Go.Proofs.YtjnkfbpadpmakaaGreatDoor.Am
set_option linter.unusedVariables false
namespace Go.Proofs.YtjnkfbpadpmakaaGreatDoor.Am
open Go Go.Proofs
noncomputable section
def IW:OT:=KG [15] j4
theorem SJ:EN Tryz.prog IW:=SI N4 (Hm LM) rfl cL fun r hr=>by
 simp only[j4,List.mem_singleton]at hr
 subst hr
 exact⟨rfl,rfl,Zt⟩
def Pj:OT:=fun f xs s=>match IW f xs s with
 | some p=>some p
 | none=>SH f xs s
theorem ZJ:EN Tryz.prog Pj:=by
 intro ρ s w f xs v s1 xs' hc hi hf ha
 unfold Pj at hc
 cases h:IW f xs s with
 | some p=>rw[h]at hc;injection hc with hc;subst hc;exact SJ ρ s w f xs v s1 xs' h hi hf ha
 | none=>rw[h]at hc;exact Th ρ s w f xs v s1 xs' hc hi hf ha
def jn:CR:=⟨Tryz.prog,Pj⟩
theorem oX:DP jn where
 P:=rfl
 nat:=fun f xs s hf=>by
  have h1:Nat.beq f 78=false:=ED fun e=>hf (by simp[e])
  have h2:Nat.beq f 15=false:=ED fun e=>hf (by simp[e])
  have e1:IW f xs s=none:=by simp[IW,KG,h2]
  have e2:SH f xs s=none:=by simp[SH,h1]
  show Pj f xs s=none
  simp[Pj,e1,e2]
 srt:=fun xs s=>rfl
 wk:=fun s=>rfl
end
end Go.Proofs.YtjnkfbpadpmakaaGreatDoor.Am
set_option linter.unusedVariables false
set_option linter.unusedSimpArgs false
set_option maxRecDepth 16000
namespace Go.Proofs.YtjnkfbpadpmakaaGreatDoor.Am
open Go Go.Proofs
noncomputable section
theorem UM{W:World}{ρ:BD}{s:AE}{f:FuncId}{xs:List AV}{args:Array Value}(hd:FK Tryz.prog W ρ s)(ha:AT ρ xs args.toList)(h:WF jn f xs (fun r _=>r=.bool true) s):
  Calls Tryz.prog f args W fun e W'=>e=.returned (.bool true)∧NG W W':=by
 obtain⟨n,p,h1,h2⟩:=h
 have:=((pg N4 (Hm LM) rfl ZJ n).call ρ s W f xs p.1 p.2 args h1 hd.inv hd.fresh ha).2
 refine callsIn_wide.1 (CallsIn.mono this ?_)
 intro e w' he
 cases e with
 | panicked c=>exact he.elim
 | outgrown=>exact he.elim
 | returned v' =>
  obtain⟨ρ',k1,k2,k3⟩:=he
  rw[h2]at k1
  cases k1
  exact⟨rfl,cF k3 hd.notOwned⟩
theorem reads_again{H:Type}{enc:TypeId×Value→H}{P:Program}{t:TypeId}(hl:laidOutB P=true)(hr:P.readableRec t=true)(hrow:t<P.types.size){W W':World}{v:Value}{d:DataW H}{ps:List MemPlace}{sp:Nat→Bool}
  (h:DataW.Trod enc P W 0 (fun _=>true) true t v d ps) (hk:NG W W') (hlt:∀x∈ps,x.block<W.heap.size) (hs:∀x∈ps,sp x.block=true):DataW.Trod enc P W' 0 sp true t v d ps:=
 WideElems.Trod_stays hl hr hrow h (fun x hx=>by
  have:=hlt x hx
  cases x with
  | cell b o=>exact World.cell?_of_block (w:=W) (hk.heap b this)
  | map b=>exact hk.heap b this) hs
theorem Ib{e st sz by_:Nat}(ht:Tryz.prog.underlying st=some (.slice e))(hs:A7 Tryz.prog e=some sz)(hby:DN Tryz.prog e=some by_)(h0:0<sz)(hx:Bz Tryz.prog st=true)(hz:DH Tryz.prog e sz=true)(hbl:by_≤1000){S:AE}{v:AV}{n r:Nat}{cs add:List AV}{O:List Nat}(hd:E6 e sz S v n cs O){ez:Nat}(hr:S.heap.get r=some (R ez sz false add))(ha:add.length=sz)(hc:Au add=true)(hn:n≤1000000000):
  ∃v' s' O',Aw Tryz.prog S [st,st] [v,.slice (some (r,0)) 1 (some 1)]=some (v',s')∧E6 e sz s' v' (n+1) (cs++add) O'∧s'.next=S.next+1∧(∀j,j<S.next→j ∉ O→s'.heap.get j=S.heap.get j)∧(∀j∈O',j∈O∨S.next≤j):=by
 have hsrc:CT Tryz.prog S e sz (.slice (some (r,0)) 1 (some 1))=some (1,add):=OI ez sz (by rw[hr];rfl) (by omega)
 have hb1:(n+1) * by_≤(1000000000+1) * 1000:=rW (by omega) hbl
 obtain⟨v',s',O',happ,hb',hn',hf,hO,_⟩:=hd.append (xt:=st) (m:=1) ht hs hby h0 hx hz (by omega) hsrc (by omega) hc (by omega) (by omega)
 exact⟨v',s',O',happ,hb',hn',hf,hO⟩
theorem aM:DH Tryz.prog 3 1=true:=by kernel_rfl
theorem T3:Bz Tryz.prog 27=true:=by kernel_rfl
theorem Sk:DH Tryz.prog 26 3=true:=by kernel_rfl
theorem OM:Bz Tryz.prog 28=true:=by kernel_rfl
theorem Zn(n:Int):Af Tryz.prog 27 1 (zipIdx [0] [iv n])=some (R 3 1 false [iv n]):=by kernel_rfl
theorem Lj(x:Bool)(a b:Option (Nat×Nat))(n m:Nat)(c d:Option Nat):Af Tryz.prog 28 1 (zipIdx [0] [.agg [.bool x,.slice a n c,.slice b m d]])=some (R 26 3 false [.bool x,.slice a n c,.slice b m d]):=by kernel_rfl
def HO(D:List CD):List AV:=D.map fun t=>iv t.1
def CM(D:List CD):List AV:=(D.map fun t=>t.2.2.cells).flatten
abbrev BL(x:Bool)(m d vv cv:AV):BC:=R 30 0 false [.bool x,m,d,vv,cv]
def Fu (v0:AV) (pb p:Nat) (x3 x4 fn x6 x7:AV) (mk:Nat):C0:=
 Fv 33 [v0,.ptr (some (pb,0)),.ptr (some (p,0)),x3,x4,fn,x6,x7] #[10,11] XF XG mk
structure OS(lo:C0)(p l:Nat)(T:List CD)(x:Bool)(m d:AV)(done:List (Int×Rat))(O:List Nat)(S:AE):Prop where
 lp:A8 S l=some lo
 ll:l<S.next
 ex:∃vv cv D O1 O2,S.heap.get p=some (BL x m d vv cv)∧E6 3 1 S vv D.length (HO D) O1∧E6 26 3 S cv D.length (CM D) O2∧O=p::l::(O1++O2)∧(∀j∈O1,l<j∧j ∉ O2)∧(∀j∈O2,l<j)∧done=(D.map fun t=>(t.1,t.2.1))∧(∀t∈D,t∈T)
theorem OS.olt{lo:C0}{p l:Nat}{T:List CD}{x:Bool}{m d:AV}{done:List (Int×Rat)}{O:List Nat}{S:AE}(h:OS lo p l T x m d done O S)(hp:p<l):∀j∈O,j<S.next:=by
  obtain⟨_,h2,vv,cv,D,O1,O2,_,b1,b2,rfl,_⟩:=h
  intro j hj
  rcases tN.1 hj with rfl | hj
  · omega
  · rcases tN.1            hj with rfl | hj
    · exact h2
    · rcases List.mem_append.1 hj with hj | hj
      · exact b1.lt j hj
      · exact b2.lt j hj
theorem OS.stab{lo:C0}{p l:Nat}{T:List CD}{x:Bool}{m d:AV}{done:List (Int×Rat)}{O:List Nat}{S S':AE}(h:OS lo p l T x m d done O S)(hp:p<l)(o:Ae S.next S S'):OS lo p l T x m d done O S':=by
 obtain⟨h1,h2,vv,cv,D,O1,O2,g,b1,b2,h3⟩:=h
 exact⟨(Cf (o.2 l h2)).trans h1,rA h2 o.1,vv,cv,D,O1,O2,(o.2 p (by omega)).trans g,b1.frame o.1 fun j hj=>o.2 j (b1.lt j hj),b2.frame o.1 fun j hj=>o.2 j (b2.lt j hj),h3⟩
section
variable{E:CR}
theorem Ud        (hE : GoodN E) {v0 x3 x4 fn x6 x7 : AV} {pb p l mk : Nat} {T : List CD}  {x : Bool} {m d : AV} {done : List (Int × Rat)} {O : List Nat} {S : AE}  (hpl : p < l) (hT : T.length ≤ 1000000) (hdl : done.length ≤ 1000000000)
    (hI:OS (Fu v0 pb p x3 x4 fn x6 x7 mk) p l T x m d done O S) {n:Int} {q:Rat} {vq:AV} {b:Nat} (hmem:(n,q,vq)∈T) (hq:QR b S vq q) {K:AV→AE→Prop}
    (hK:∀S' O',OS (Fu v0 pb p x3 x4 fn x6 x7 mk) p l T x m d (done++[(n,q)]) O' S'→S.next≤S'.next→(∀j,j<S.next→j ∉ O→S'.heap.get j=S.heap.get j)→(∀j∈O',j∈O∨S.next≤j)→K (.bool true) S'):WR E l [iv n,vq] K S:=by
  obtain⟨hlp,hll,vv,cv,D,O1,O2,gp,b1,b2,hO,HI,L7,hdn,hDT⟩:=hI
  obtain⟨xx,aa,nn,kk,bb,mm,ee,rfl⟩:=hq.shape
  have hz:Ct (Cz E.P 33) (Fu v0 pb p x3 x4 fn x6 x7 mk).var [10,11] [iv n,.agg [.bool xx,.slice aa nn kk,.slice bb mm ee]]=some [v0,.ptr (some (pb,0)),.ptr (some (p,0)),x3,x4,fn,iv n,.agg [.bool xx,.slice aa nn kk,.slice bb mm ee]]:=by
    rw[hE.P,XJ];rfl
  refine WR.round hlp hz (by rw[hE.P];exact kL) (by rw[hE.P];exact kM) ?_
  refine DV ?_
  obtain⟨n2,o2,g2⟩:=Bl S ZQ
  have st:=Ai (P:=Tryz.prog) (t:=26) (cs:=[.bool xx,.slice aa nn kk,.slice bb mm ee]) Ar g2 rfl rfl rfl (by simp)
  simp only[XH,fW,fX,Bb,Xc,st,Xy,Za,Qa,Qb,Qc,Qd,Qe,Qf,Qg,Qh,Qi,Qj,Qk,Ql,Qm,Qn,true_and,and_true,Qo,Qp,Qq,Qr,Qs,Qt,Qu,Qv,Qw,Qx,Qy,Qz,Ra,Rb,Rc,Rd,Re,Rf,Rg,Rh,Ri,Rj,Rk,Rm,Rn,Ro,Rp,Rq,Rt,Ya,Yb,Yc,Ru,Rw,Zb,Yd,Ye,Ry,Rz,Wa,Wb,Wc,Wd,We]
  generalize hs2:setObj (newObj S ZQ) S.next (R 26 0 false [.bool xx,.slice aa nn kk,.slice bb mm ee])=s2 at *
  have os2:Ae S.next S s2:=by rw[← hs2];exact o2.set (qw _) _
  have n3:s2.next=S.next+1:=by rw[← hs2];exact n2
  have g3:s2.heap.get S.next=some (BQ xx (.slice aa nn kk) (.slice bb mm ee)):=by rw[← hs2,Ww]
  refine⟨_,(Cf (os2.2 l hll)).trans hlp,rfl,DV ?_⟩
  generalize hs4:setObj s2 l _=s4
  have n4:s4.next=s2.next:=by rw[← hs4];rfl
  have f4:∀j,j≠l→s4.heap.get j=s2.heap.get j:=fun j hj=>by rw[← hs4,Wx _ hj]
  have l4:A8 s4 l=some { Fu v0 pb p x3 x4 fn x6 x7 mk with state:=.busy }:=by rw[← hs4,CK]
  have hpO1:p ∉ O1:=fun h=>by have:=(HI p h).1;omega
  have hpO2:p ∉ O2:=fun h=>by have:=L7 p h;omega
  have hlO1:l ∉ O1:=fun h=>by have:=(HI l h).1;omega
  have hlO2:l ∉ O2:=fun h=>by have:=L7 l h;omega
  have gp4:s4.heap.get p=some (BL x m d vv cv):=by rw[f4 p (by omega),os2.2 p (by omega)];exact gp
  have gc4:s4.heap.get S.next=some (BQ xx (.slice aa nn kk) (.slice bb mm ee)):=by rw[f4 _ (by omega)];exact g3
  have lv:=AI (P:=Tryz.prog) (t:=27) (o:=0+3) (v:=vv) Ix gp4 rfl
  obtain⟨n5,o5,g5⟩:=Bl s4 (R 3 1 false [iv n])
  generalize hs5:newObj s4 (R 3 1 false [iv n])=s5 at *
  have lc:=AI (P:=Tryz.prog) (t:=28) (s:=s5) (i:=p) (o:=0+4) (v:=cv) GG ((o5.2 p (by omega)).trans gp4) rfl
  have lq:=AG (P:=Tryz.prog) (t:=26) (s:=s5) (i:=S.next) BH Ar ((o5.2 _ (by omega)).trans gc4) rfl
  obtain⟨n6,o6,g6⟩:=Bl s5 (R 26 3 false [.bool xx,.slice aa nn kk,.slice bb mm ee])
  generalize hs6:newObj s5 (R 26 3 false [.bool xx,.slice aa nn kk,.slice bb mm ee])=s6 at *
  have f46:∀j,j<s4.next→s6.heap.get j=s4.heap.get j:=fun j hj=>by rw[o6.2 j (by omega),o5.2 j hj]
  have f06:∀j,j<S.next→j≠l→s6.heap.get j=S.heap.get j:=fun j hj hne=>by rw[f46 j (by omega),f4 j hne,os2.2 j hj]
  have b1':E6 3 1 s6 vv D.length (HO D) O1:=b1.frame (by omega) fun j hj=>f06 j (b1.lt j hj) (fun e=>hlO1 (e▸hj))
  have b2':E6 26 3 s6 cv D.length (CM D) O2:=b2.frame (by omega) fun j hj=>f06 j (b2.lt j hj) (fun e=>hlO2 (e▸hj))
  have hDl:D.length≤1000000000:=by rw[hdn]at hdl;simpa using hdl
  have r1:s6.heap.get s4.next=some (R 3 1 false [iv n]):=by rw[o6.2 _ (by omega)];exact g5
  obtain⟨v7,s7,O7,happ7,b7,n7,f7,hO7⟩:=Ib Tryz.underlying27 Z9 px (by decide) T3 aM (by decide) b1' r1 rfl rfl hDl
  have b2'':E6 26 3 s7 cv D.length (CM D) O2:=b2'.frame (by omega) fun j hj=>f7 j (b2'.lt j hj) (fun h=>(HI j h).2 hj)
  have r2:s7.heap.get s5.next=some (R 26 3 false [.bool xx,.slice aa nn kk,.slice bb mm ee]):=by
    rw[f7 _ (by omega) (fun h=>by have:=b1.lt _ h;omega)];exact g6
  obtain⟨v8,s8,O8,happ8,b8,n8,f8,hO8⟩:=Ib Tryz.underlying28 Ar kD (by decide) OM Sk (by decide) b2'' r2 rfl rfl hDl
  have b7':E6 3 1 s8 v7 (D.length+1) (HO D++[iv n]) O7:=b7.frame (by omega) fun j hj=>f8 j (b7.lt j hj) (fun h=>by
    rcases hO7 j hj with h' | h'
    · exact(HI j h').2 h
    · have:=b2'.lt j h;omega)
  have gp7:s7.heap.get p=some (BL x m d vv cv):=by rw[f7 p (by omega) hpO1,f46 p (by omega)];exact gp4
  have gp8:s8.heap.get p=some (BL x m d vv cv):=by rw[f8 p (by omega) hpO2];exact gp7
  have ag1:AA Tryz.prog s7 26 (.ptr (some (S.next,0)))=some (.agg [.bool xx,.slice aa nn kk,.slice bb mm ee]):=AG BH Ar (by rw[f7 _ (by omega) (fun h=>by have:=b1.lt _ h;omega),f46 _ (by omega)];exact gc4) rfl
  have ag2:AA Tryz.prog s7 28 (.ptr (some (p,0+4)))=some cv:=AI (o:=0+4) GG gp7 rfl
  obtain⟨_,_,ecv,_⟩:=b2.slice
  obtain⟨_,_,ev7,_⟩:=b7.slice
  obtain⟨_,_,ev8,_⟩:=b8.slice
  have st9:=Bo (P:=Tryz.prog) (t:=27) (o:=0+3) (v:=v7) ph gp8 (by simp) (by rw[ev7];rfl)
  generalize hs9:setObj s8 p (R 30 0 false ([AV.bool x,m,d,vv,cv].set (0+3) v7))=s9 at st9
  have gp9:s9.heap.get p=some (BL x m d v7 cv):=by rw[← hs9,Ww];rfl
  have f9:∀j,j≠p→s9.heap.get j=s8.heap.get j:=fun j hj=>by rw[← hs9,Wx _ hj]
  have st10:=Bo (P:=Tryz.prog) (t:=28) (o:=0+4) (v:=v8) mp gp9 (by simp) (by rw[ev8];rfl)
  generalize hs10:setObj s9 p (R 30 0 false ([AV.bool x,m,d,v7,cv].set (0+4) v8))=s10 at st10
  have gp10:s10.heap.get p=some (BL x m d v7 v8):=by rw[← hs10,Ww];rfl
  have f10:∀j,j≠p→s10.heap.get j=s9.heap.get j:=fun j hj=>by rw[← hs10,Wx _ hj]
  have n9:s9.next=s8.next:=by rw[← hs9];rfl
  have n10:s10.next=s9.next:=by rw[← hs10];rfl
  have fall:∀j,j<s4.next→j ∉ O1→j ∉ O2→j≠p→s10.heap.get j=s4.heap.get j:=fun j hj h1 h2 h3=>by
    rw[f10 j h3,f9 j h3,f8 j (by omega) h2,f7 j (by omega) h1,f46 j hj]
  have l10:A8 s10 l=some { Fu v0 pb p x3 x4 fn x6 x7 mk with state:=.busy }:=by
    rw[Cf (fall l (by omega) hlO1 hlO2 (by omega))];exact l4
  simp only[XI,fY,lv,Zn,hs5,Xe,lc,lq,Lj,hs6,happ7,ET,DA,Qa,Qb,Qc,Qd,Qe,Qf,Qg,Qh,Qi,Qj,Qk,Ql,Qm,Qn,true_and,and_true,Qo,Qp,Qq,Qr,Qs,Qt,Qu,Qv,Qw,Qx,Qy,Qz,Ra,Rb,Rc,Rd,Re,Rf,Rg,Rh,Ri,Rj,Rk,Rm,Rn,Ro,Rp,Rq,Rt,Ya,Yb,Yc,Ru,Rw,Zb,Yd,Ye,Ry,Rz,Wa,Wb,Wc,Wd,We]
  refine⟨⟨Ak (by simp only[Qa,Qb,Qc,Qd,Qe,Qf,Qg,Qh,Qi,Qj,Qk,Ql,Qm,Qn,true_and,and_true,Qo,Qp,Qq,Qr,Qs,Qt,Qu,Qv,Qw,Qx,Qy,Qz,Ra,Rb,Rc,Rd,Re,Rf,Rg,Rh,Ri,Rj,Rk,Rm,Rn,Ro,Rp,Rq,Rt,Ya,Yb,Yc,Ru,Rw,Zb,Yd,Ye,Ry,Rz,Wa,Wb,Wc,Wd,We];exact ag1) (Cr _ _ _ _ _ _ _),Ak (by simp only[Qa,Qb,Qc,Qd,Qe,Qf,Qg,Qh,Qi,Qj,Qk,Ql,Qm,Qn,true_and,and_true,Qo,Qp,Qq,Qr,Qs,Qt,Qu,Qv,Qw,Qx,Qy,Qz,Ra,Rb,Rc,Rd,Re,Rf,Rg,Rh,Ri,Rj,Rk,Rm,Rn,Ro,Rp,Rq,Rt,Ya,Yb,Yc,Ru,Rw,Zb,Yd,Ye,Ry,Rz,Wa,Wb,Wc,Wd,We];exact ag2) (by simp only[Qa,Qb,Qc,Qd,Qe,Qf,Qg,Qh,Qi,Qj,Qk,Ql,Qm,Qn,true_and,and_true,Qo,Qp,Qq,Qr,Qs,Qt,Qu,Qv,Qw,Qx,Qy,Qz,Ra,Rb,Rc,Rd,Re,Rf,Rg,Rh,Ri,Rj,Rk,Rm,Rn,Ro,Rp,Rq,Rt,Ya,Yb,Yc,Ru,Rw,Zb,Yd,Ye,Ry,Rz,Wa,Wb,Wc,Wd,We];rw[ecv];exact BT _ _ _)⟩,?_⟩
  simp only[happ8,st9,st10,ET,DA,Xy,Za,Qa,Qb,Qc,Qd,Qe,Qf,Qg,Qh,Qi,Qj,Qk,Ql,Qm,Qn,true_and,and_true,Qo,Qp,Qq,Qr,Qs,Qt,Qu,Qv,Qw,Qx,Qy,Qz,Ra,Rb,Rc,Rd,Re,Rf,Rg,Rh,Ri,Rj,Rk,Rm,Rn,Ro,Rp,Rq,Rt,Ya,Yb,Yc,Ru,Rw,Zb,Yd,Ye,Ry,Rz,Wa,Wb,Wc,Wd,We]
  refine⟨_,l10,hK _ (p::l::(O7++O8)) ⟨?_,?_,v7,v8,D++[(n,q,.agg [.bool xx,.slice aa nn kk,.slice bb mm ee])],O7,O8,?_,?_,?_,rfl,fun j hj=>⟨?_,fun h=>?_⟩,fun j hj=>?_,?_,fun t ht=>?_⟩ ?_ (fun j hj hjO=>?_) (fun j hj=>?_)⟩
  · rw[CK];rfl
  · show l<s10.next;omega
  · rw[Wx _ (by omega)];exact gp10
  · have e:HO (D++[(n,q,AV.agg [.bool xx,.slice aa nn kk,.slice bb mm ee])])=HO D++[iv n]:=by simp[HO]
    rw[e,rL]
    refine b7'.frame (by show s8.next≤s10.next;omega) fun j hj=>?_
    have hjl:l<j:=by
      rcases hO7 j hj with h | h
      · exact(HI j h).1
      · omega
    rw[Wx _ (by omega),f10 j (by omega),f9 j (by omega)]
  · have e:CM (D++[(n,q,AV.agg [.bool xx,.slice aa nn kk,.slice bb mm ee])])=CM D++[.bool xx,.slice aa nn kk,.slice bb mm ee]:=by simp[CM,AV.cells]
    rw[e,rL]
    refine b8.frame (by show s8.next≤s10.next;omega) fun j hj=>?_
    have hjl:l<j:=by
      rcases hO8 j hj with h | h
      · exact L7 j h
      · omega
    rw[Wx _ (by omega),f10 j (by omega),f9 j (by omega)]
  · rcases hO7 j hj with h | h
    · exact(HI j h).1
    · omega
  · rcases hO7 j hj with h' | h'
    · rcases hO8 j h with h2 | h2
      · exact(HI j h').2 h2
      · have:=b1.lt j h';omega
    · rcases hO8 j h with h2 | h2
      · have:=b2.lt j h2;omega
      · have:=b7.lt j hj;omega
  · rcases hO8 j hj with h | h
    · exact L7 j h
    · omega
  · rw[hdn];simp
  · rcases List.mem_append.1 ht with ht | ht
    · exact hDT t ht
    · rw[List.mem_singleton.1 ht];exact hmem
  · show S.next≤s10.next;omega
  · have h1 : j ∉ O1 := fun h => hjO (by rw [hO]; simp [h])
    have h2:j ∉ O2:=fun h=>hjO (by rw[hO];simp[h])
    have h3:j≠p:=fun h=>hjO (by rw[hO,h];simp)
    have h4:j≠l:=fun h=>hjO (by rw[hO,h];simp)
    rw[Wx _ h4,fall j (by omega) h1 h2 h3,f4 j h4,os2.2 j hj]
  · rw [hO]
    rcases tN.1 hj with rfl | hj
    · exact .inl (by simp)
    · rcases tN.1            hj with rfl | hj
      · exact .inl (by simp)
      · rcases List.mem_append.1 hj with hj | hj
        · rcases hO7 j hj with h | h
          · exact .inl (by simp[h])
          · exact .inr (by omega)
        · rcases hO8 j hj with h | h
          · exact .inl (by simp[h])
          · exact .inr (by omega)
end
def LR(b:Nat)(s:AE)(v:AV)(C:Rat)(L:List (Int×Rat)):Prop:=∃x a n ca d m cd vv cv D O1 O2,
 v=.agg [.bool x,.slice a n ca,.slice d m cd,vv,cv]∧QR b s (.agg [.bool x,.slice a n ca,.slice d m cd]) C∧L=(D.map fun t=>(t.1,t.2.1)) ∧
 (∀t∈D,QR b s t.2.2 t.2.1∧i64 t.1∧UB (.agg [.bool x,.slice a n ca,.slice d m cd]) t.2.2)∧(D.Pairwise fun t u=>UB t.2.2 u.2.2) ∧
 E6 3 1 s vv D.length (HO D) O1∧E6 26 3 s cv D.length (CM D) O2∧(∀j∈O1,b≤j∧j ∉ O2)∧(∀j∈O2,b≤j) ∧
 ∃l0,(∀j∈O1,l0≤j)∧(∀j∈O2,l0≤j)∧(∀j∈Bx (.agg [.bool x,.slice a n ca,.slice d m cd]),j<l0)∧∀t∈D,∀j∈Bx t.2.2,j<l0
theorem Ti{Rl:CD→CD→Prop}(hs:∀t u,Rl t u→Rl u t):∀ {T:List CD},T.Pairwise Rl→∀t∈T,∀u∈T,t≠u→Rl t u
  | [],_,t,ht,_,_,_=>by cases ht
  | x::T,h,t,ht,u,hu,hne=>by
    obtain⟨h1,h2⟩:=List.pairwise_cons.1 h
    rcases tN.1 ht with e1 | ht'
    · rcases tN.1            hu with e2 | hu'
      · exact absurd (e1.trans e2.symm) hne
      · rw[e1];exact h1 u hu'
    · rcases tN.1            hu with e2 | hu'
      · rw[e2];exact hs _ _ (h1 t ht')
      · exact Ti hs h2 t ht' u hu' hne
theorem PY{l:List Int}(h:l.Nodup):(EJ l).Nodup:=(DY l).nodup_iff.2 h
theorem RL{T:List CD}(h:(BE T).Nodup):((Ba T).map (·.1)).Nodup:=by
 have h1:((EJ (BE T)).map fun n=>(n,CB n T)).map (·.1)=EJ (BE T):=by rw[sk];exact List.map_id _
 have h2:((Ba T).map (·.1)).Sublist (EJ (BE T)):=by
  rw[← h1]
  exact List.Sublist.map _ List.filter_sublist
 exact h2.nodup (PY h)
theorem ZX{T D:List CD}(h:T.Pairwise fun t u=>UB t.2.2 u.2.2)(hD:∀t∈D,t∈T)(hn:(D.map (·.1)).Nodup):D.Pairwise fun t u=>UB t.2.2 u.2.2:=by
 induction D with
 | nil=>exact .nil
 | cons t D ih =>
  obtain⟨h1,h2⟩:=List.nodup_cons.1 (show(t.1::D.map (·.1)).Nodup from hn)
  refine List.pairwise_cons.2 ⟨fun u hu=>?_,ih (fun u hu=>hD u (rP _ hu)) h2⟩
  refine Ti (fun t u h=>h.symm) h t (hD t rH) u (hD u (rP _ hu)) ?_
  rintro rfl
  exact h1 (List.mem_map.2 ⟨t,hu,rfl⟩)
theorem Dm:Ac Tryz.prog 30=some (BL false (.slice none 0 (some 0)) (.slice none 0 (some 0)) (.slice none 0 (some 0)) (.slice none 0 (some 0)),.ptr):=by kernel_rfl
section
variable{E:CR}{s:AE}
theorem I9(hE:DP E){b mi k:Nat}{v:AV}{c:Rat}{T:List CD}(hv:PV b s v mi c T k)(hb:b≤s.next)(hk:k≤1000000000)(hTl:T.length≤1000000){K:AV→AE→Prop}
  (hK:∀s' w,Ae s.next s s'→LR b s' w c (Ba T)→K w s'):WF E 33 [v] K s:=by
 obtain⟨x,a,n,ca,d,m,cd,rfl,hP⟩:=hv
 refine hE.go kp (by decide) rfl ?_
 obtain⟨n1,o1,g1,g2⟩:=D4 s (BP x (.slice a n ca) (.slice d m cd) mi) (BL false (.slice none 0 (some 0)) (.slice none 0 (some 0)) (.slice none 0 (some 0)) (.slice none 0 (some 0)))
 simp only[qL,fT,fU,Xa,Xh,Dm,Xc,Ap,Kr,Hg,Qa,Qb,Qc,Qd,Qe,Qf,Qg,Qh,Qi,Qj,Qk,Ql,Qm,Qn,true_and,and_true,Qo,Qp,Qq,Qr,Qs,Qt,Qu,Qv,Qw,Qx,Qy,Qz,Ra,Rb,Rc,Rd,Re,Rf,Rg,Rh,Ri,Rj,Rk,Rm,Rn,Ro,Rp,Rq,Rt,Ya,Yb,Yc,Ru,Rw,Zb,Yd,Ye,Ry,Rz,Wa,Wb,Wc,Wd,We]
 generalize newObj (newObj s (BP x (.slice a n ca) (.slice d m cd) mi)) (BL false (.slice none 0 (some 0)) (.slice none 0 (some 0)) (.slice none 0 (some 0)) (.slice none 0 (some 0)))=s1 at *
 have l1:AA Tryz.prog s1 26 (.ptr (some (s.next,0+0)))=some (.agg [.bool x,.slice a n ca,.slice d m cd]):=Ag (o:=0) (n:=3) BH Ar g1 (by simp)
 have st:AM Tryz.prog s1 26 (.ptr (some (s.next+1,0+0))) (.agg [.bool x,.slice a n ca,.slice d m cd])=some (setObj s1 (s.next+1) (BL x (.slice a n ca) (.slice d m cd) (.slice none 0 (some 0)) (.slice none 0 (some 0)))):=Lt (off:=0) Ar g2 rfl (by simp) rfl (by simp)
 generalize hs2:setObj s1 (s.next+1) (BL x (.slice a n ca) (.slice d m cd) (.slice none 0 (some 0)) (.slice none 0 (some 0)))=s2 at st
 have n2:s2.next=s1.next:=by rw[← hs2];rfl
 have o2:Ae s.next s s2:=by rw[← hs2];exact o1.set (by omega) _
 have k1:s2.heap.get s.next=some (BP x (.slice a n ca) (.slice d m cd) mi):=by rw[← hs2,Wx _ (by omega)];exact g1
 have k2:s2.heap.get (s.next+1)=some (BL x (.slice a n ca) (.slice d m cd) (.slice none 0 (some 0)) (.slice none 0 (some 0))):=by rw[← hs2,Ww]
 have l2:=AG (P:=Tryz.prog) (t:=56) H9 GI k1 rfl
 simp only[fV,l1,st,l2,Xy,Za,Qa,Qb,Qc,Qd,Qe,Qf,Qg,Qh,Qi,Qj,Qk,Ql,Qm,Qn,true_and,and_true,Qo,Qp,Qq,Qr,Qs,Qt,Qu,Qv,Qw,Qx,Qy,Qz,Ra,Rb,Rc,Rd,Re,Rf,Rg,Rh,Ri,Rj,Rk,Rm,Rn,Ro,Rp,Rq,Rt,Ya,Yb,Yc,Ru,Rw,Zb,Yd,Ye,Ry,Rz,Wa,Wb,Wc,Wd,We]
 refine QU hE.toGoodN fun s3 n3 o3 g3=>?_
 have k3:=(o3.2 (s.next+1) (by omega)).trans k2
 simp only[Qa,Qb,Qc,Qd,Qe,Qf,Qg,Qh,Qi,Qj,Qk,Ql,Qm,Qn,true_and,and_true,Qo,Qp,Qq,Qr,Qs,Qt,Qu,Qv,Qw,Qx,Qy,Qz,Ra,Rb,Rc,Rd,Re,Rf,Rg,Rh,Ri,Rj,Rk,Rm,Rn,Ro,Rp,Rq,Rt,Ya,Yb,Yc,Ru,Rw,Zb,Yd,Ye,Ry,Rz,Wa,Wb,Wc,Wd,We]
 refine WC.range rfl ?_
 show WF E 77 [.yield (s3.next+1),.ptr (some (s2.next,0))] _ (newObj (newObj s3 .mark) (.loop (Fu _ s.next (s.next+1) _ _ _ _ _ s3.next)))
 generalize hlo:Fu _ s.next (s.next+1) _ _ _ _ _ s3.next=lo
 have hm1:(newObj s3 .mark).next=s3.next+1:=rfl
 generalize hs5:newObj (newObj s3 .mark) (.loop lo)=s5
 have n5:s5.next=s3.next+2:=by rw[← hs5];rfl
 have f5:∀j,j<s3.next→s5.heap.get j=s3.heap.get j:=fun j hj=>by rw[← hs5,AP,if_neg (by omega),AP,if_neg (by omega)]
 have hmk5:s5.heap.get s3.next=some .mark:=by rw[← hs5,AP,if_neg (by omega),AP,if_pos rfl]
 have hlp5:A8 s5 (s3.next+1)=some lo:=by
  unfold A8
  rw[← hs5,AP,if_pos hm1.symm]
 have o35:Ae s3.next s3 s5:=⟨by omega,f5⟩
 have o25:Ae s2.next s2 s5:=o3.trans (o35.mono o3.1)
 have o05:Ae s.next s s5:=o2.trans (o25.mono o2.1)
 refine NJ hE (sA:=s) (pb:=s2.next) (l:=s3.next+1) hP.map hk hTl o05 ((f5 _ (by omega)).trans g3) (by omega) (O0:=[s.next+1,s3.next+1]) (by simp;omega) (fun j hj=>by simp at hj;omega)
  (OS lo (s.next+1) (s3.next+1) T x (.slice a n ca) (.slice d m cd)) (fun done O S S' h o=>h.stab (by omega) o) (fun done O S h=>h.olt (by omega)) (fun done n' q vq O S K2 hI hoS hq hmem hdl hK2=>?_)
  ⟨hlp5,by omega,_,_,[],[],[],(f5 _ (by omega)).trans k3,E6.nil _ _ _,E6.nil _ _ _,rfl,fun j hj=>(by cases hj),fun j hj=>(by cases hj),rfl,fun t ht=>by cases ht⟩ fun v S O hoS hnS hfS hI=>?_
 ·subst hlo
  exact Ud hE.toGoodN (by omega) hTl (by omega) hI hmem ((hP.map.old hoS).ent _ hmem).1 hK2
 obtain⟨hlp,hll,vv,cv,D,O1,O2,gp,b1,b2,hO,HI,L7,hdn,hDT⟩:=hI
 refine⟨lo,hlp,by rw[← hlo];rfl,?_⟩
 have hpd:lo.pending=none:=by rw[← hlo];rfl
 rw[hpd]
 generalize hs6:setObj S (s3.next+1) _=s6
 have n6:s6.next=S.next:=by rw[← hs6];rfl
 have f6:∀j,j≠s3.next+1→s6.heap.get j=S.heap.get j:=fun j hj=>by rw[← hs6,Wx _ hj]
 have g6:s6.heap.get (s.next+1)=some (BL x (.slice a n ca) (.slice d m cd) vv cv):=by rw[f6 _ (by omega)];exact gp
 have l6:=AG (P:=Tryz.prog) (t:=30) B6 Bp g6 rfl
 obtain⟨av,capv,evv,_⟩:=b1.slice
 obtain⟨ac,capc,ecv,_⟩:=b2.slice
 have st6:=Ai (P:=Tryz.prog) (t:=30) (cs:=[.bool x,.slice a n ca,.slice d m cd,vv,cv]) Bp g6 rfl rfl (by rw[evv,ecv];rfl) (by simp)
 generalize hs7:setObj s6 (s.next+1) (R 30 0 false [.bool x,.slice a n ca,.slice d m cd,vv,cv])=s7 at st6
 have f7:∀j,j≠s.next+1→s7.heap.get j=s6.heap.get j:=fun j hj=>by rw[← hs7,Wx _ hj]
 have g7:s7.heap.get (s.next+1)=some (BL x (.slice a n ca) (.slice d m cd) vv cv):=by rw[← hs7,Ww]
 have n7:s7.next=s6.next:=by rw[← hs7];rfl
 have hmk7:s7.heap.get s3.next=some .mark:=by rw[f7 _ (by omega),f6 _ (by omega),hfS _ (by omega) (by simp;omega)];exact hmk5
 obtain⟨s8,u1,u2,u3⟩:=EA [s3.next] s7 (by simp) (fun m h=>by rw[List.mem_singleton.1 h];exact hmk7)
 have u3':∀j,j≠s3.next→s8.heap.get j=s7.heap.get j:=fun j hj=>u3 j (by simpa using hj)
 have l8:=AG (P:=Tryz.prog) (t:=30) B6 Bp ((u3' (s.next+1) (by omega)).trans g7) rfl
 simp only[H5,fZ,l6,st6,u1,l8,AO,Xy,Za,Qa,Qb,Qc,Qd,Qe,Qf,Qg,Qh,Qi,Qj,Qk,Ql,Qm,Qn,true_and,and_true,Qo,Qp,Qq,Qr,Qs,Qt,Qu,Qv,Qw,Qx,Qy,Qz,Ra,Rb,Rc,Rd,Re,Rf,Rg,Rh,Ri,Rj,Rk,Rm,Rn,Ro,Rp,Rq,Rt,Ya,Yb,Yc,Ru,Rw,Zb,Yd,Ye,Ry,Rz,Wa,Wb,Wc,Wd,We]
 have hs1:=hoS.1
 have oend:Ae s.next s s8:=⟨by omega,fun j hj=>by rw[u3' j (by omega),f7 j (by omega),f6 j (by omega),hoS.2 j hj]⟩
 have hP8:=hP.old oend
 have hnd:(D.map (·.1)).Nodup:=by
  have:=RL hP.map.nd
  rw[hdn,sk]at this
  exact this
 have hkeep:∀j,s3.next+1<j→s8.heap.get j=S.heap.get j:=fun j hj=>by rw[u3' j (by omega),f7 j (by omega),f6 j (by omega)]
 exact hK s8 _ oend ⟨x,a,n,ca,d,m,cd,vv,cv,D,O1,O2,rfl,hP8.cq,hdn,fun t ht=>⟨(hP8.map.ent t (hDT t ht)).1,(hP8.map.ent t (hDT t ht)).2.2,hP8.dj t (hDT t ht)⟩,ZX hP8.map.dj hDT hnd,b1.frame (by omega) fun j hj=>hkeep j (HI j hj).1,b2.frame (by omega) fun j hj=>hkeep j (L7 j hj),
  fun j hj=>⟨by have:=(HI j hj).1;omega,(HI j hj).2⟩,fun j hj=>by have:=L7 j hj;omega,
  s.next,fun j hj=>by have:=(HI j hj).1;omega,fun j hj=>by have:=L7 j hj;omega,fun j hj=>(hP.cq.slots hj).2,fun t ht j hj=>((hP.map.ent t (hDT t ht)).1.slots hj).2⟩
end
theorem E6.capZ{e sz:Nat}{s:AE}{v:AV}{n:Nat}{cs:List AV}{O:List Nat}(h:E6 e sz s v n cs O):∃a cap,v=.slice a n cap∧AZ s.next s a cs∧GL sz s a cap n:=by
 rcases h with⟨rfl,rfl,rfl,_⟩ | ⟨i,p,rfl,h,_⟩
 ·exact⟨none,some 0,rfl,AZ.nil,.inl ⟨0,rfl,qw _,fun _=>rfl⟩⟩
 ·obtain⟨a,cap,e,hc⟩:=h.cells
  injection e with e1 e2 e3
  subst e1;subst e3
  refine⟨_,_,rfl,hc,.inr ⟨rfl,i,0,?_⟩⟩
  rcases h.ex with⟨e',_⟩ | ⟨_,_,k2,_,r,k4,k5,_,_,k8,_⟩
  ·cases e'
  ·exact⟨r,rfl,k2,k4,k8,by rw[k5.1,h.len];omega⟩
theorem Ep:∀ (D:List CD),(∀t∈D,t.2.2.cells.length=3)→(CM D).length=D.length * 3∧∀ (i:Nat)(t:CD),D[i]? = some t→((CM D).drop (i * 3)).take 3=t.2.2.cells
 | [],_=>⟨rfl,fun i t h=>by cases h⟩
 | u::D,hl=>by
  obtain⟨h1,h2⟩:=Ep D fun t ht=>hl t (rP _ ht)
  have hu:=hl u rH
  have e:CM (u::D)=u.2.2.cells++CM D:=by simp[CM]
  rw[e]
  refine⟨by rw[rL,h1,hu,rn];omega,fun i t hi=>?_⟩
  cases i with
  | zero =>
   cases hi
   rw[sN,sM,tR hu]
  | succ i =>
   rw[show(i+1) * 3=u.2.2.cells.length+i * 3 by rw[hu];omega,List.drop_append,rl (by omega),si,Nat.add_sub_cancel_left]
   exact h2 i t hi
theorem LR.li {b : Nat} {s : AE}  {v : AV} {C : Rat} {L : List (Int × Rat)} {k : Nat} (h : LR b s v C L) (hC : QH C k) (hL : ∀ p ∈ L, QH p.2 k) : LI s v C (L.map (·.1)) (L.map (·.2)) k := by
  obtain⟨x,a,n,ca,d,m,cd,vv,cv,D,O1,O2,rfl,hq,rfl,hD,_,b1,b2,_⟩:=h
  obtain⟨av,capv,rfl,hcv,hzv⟩:=b1.capZ
  obtain⟨ac,capc,rfl,hcc,hzc⟩:=b2.capZ
  have hl3:∀t∈D,t.2.2.cells.length=3:=fun t ht=>by
    obtain⟨_,_,_,_,_,_,_,e⟩:=(hD t ht).1.shape
    rw[e];rfl
  obtain⟨p1,p2⟩:=Ep D hl3
  have e1:((D.map fun t=>(t.1,t.2.1)).map (·.1)).map iv=HO D:=by simp[HO,sk,Function.comp_def]
  refine⟨x,a,n,ca,d,m,cd,av,capv,ac,capc,CM D,by simp,hq.qi hC,by rw[e1];exact hcv,fun z hz=>?_,⟨by simp[p1],hcc,fun i q hi=>?_⟩,by simpa using hzv,by simpa using hzc⟩
  · rw[sk]at hz
    obtain⟨t,ht,rfl⟩:=List.mem_map.1 hz
    exact(hD t ht).2.1
  · rw[sk,sF]at hi
    cases hDi:D[i]? with
    | none=>rw[hDi]at hi;cases hi
    | some t =>
      rw[hDi]at hi
      injection hi with hi
      have htm:=rQ hDi
      rw[p2 i t hDi]
      obtain⟨_,_,_,_,_,_,_,e⟩:=(hD t htm).1.shape
      have:=(hD t htm).1.qi (k:=k) (by
        have:=hL (t.1,t.2.1) (List.mem_map.2 ⟨t,htm,rfl⟩)
        exact this)
      rw[← hi,show AV.agg t.2.2.cells=t.2.2 from by rw[e];rfl]
      exact this
theorem LI.shape{s:AE}{v:AV}{C:Rat}{vs:List Int}{cs:List Rat}{k:Nat}(h:LI s v C vs cs k):∃x a n c b m d av nv capv ac nc capc,v=.agg [.bool x,.slice a n c,.slice b m d,.slice av nv capv,.slice ac nc capc]:=by
 obtain⟨x,a,n,c,b,m,d,av,capv,ac,capc,cells,rfl,_⟩:=h
 exact⟨_,_,_,_,_,_,_,_,_,_,_,_,_,rfl⟩
theorem LR.shape{b:Nat}{s:AE}{v:AV}{C:Rat}{L:List (Int×Rat)}(h:LR b s v C L):∃x a n c b m d av nv capv ac nc capc,v=.agg [.bool x,.slice a n c,.slice b m d,.slice av nv capv,.slice ac nc capc]:=by
 obtain⟨x,a,n,ca,d,m,cd,vv,cv,D,O1,O2,rfl,_,_,_,_,b1,b2,_⟩:=h
 obtain⟨av,capv,rfl,_⟩:=b1.slice
 obtain⟨ac,capc,rfl,_⟩:=b2.slice
 exact⟨_,_,_,_,_,_,_,_,_,_,_,_,_,rfl⟩
theorem LR.set{b i:Nat}{s:AE}{v:AV}{C:Rat}{L:List (Int×Rat)}(h:LR b s v C L)(hi:i<b)(o:BC):LR b (setObj s i o) v C L:=by
 obtain⟨x,a,n,ca,d,m,cd,vv,cv,D,O1,O2,h1,hq,hL,hD,hp,b1,b2,h3,h4,h5⟩:=h
 exact⟨x,a,n,ca,d,m,cd,vv,cv,D,O1,O2,h1,hq.set hi o,hL,fun t ht=>⟨(hD t ht).1.set hi o,(hD t ht).2⟩,hp,b1.frame (qw _) fun j hj=>Wx _ (by have:=(h3 j hj).1;omega),b2.frame (qw _) fun j hj=>Wx _ (by have:=h4 j hj;omega),h3,h4,h5⟩
theorem LR.mono{b b':Nat}{s:AE}{v:AV}{C:Rat}{L:List (Int×Rat)}(h:LR b s v C L)(hb:b'≤b):LR b' s v C L:=by
 obtain⟨x,a,n,ca,d,m,cd,vv,cv,D,O1,O2,h1,hq,hL,hD,hp,b1,b2,h3,h4,h5⟩:=h
 exact⟨x,a,n,ca,d,m,cd,vv,cv,D,O1,O2,h1,hq.mono hb,hL,fun t ht=>⟨(hD t ht).1.mono hb,(hD t ht).2⟩,hp,b1,b2,fun j hj=>⟨rD hb (h3 j hj).1,(h3 j hj).2⟩,fun j hj=>rD hb (h4 j hj),h5⟩
theorem Ev.len{o:Rat}{vs:List Int}{cs:List Rat}{T T':List CD}(h:Ev o vs cs T T'):T'.length≤T.length+min cs.length vs.length:=by
 induction h with
 | nil1 cs T=>omega
 | nil2 vs T=>omega
 | @cons n c vs cs T T' w h ih =>
  have:=Tc (n:=n) (q:=CB n T+c * o) (v:=w) (T:=T)
  simp only[rn]
  omega
abbrev ZL:BC:=BL false (.slice none 0 (some 0)) (.slice none 0 (some 0)) (.slice none 0 (some 0)) (.slice none 0 (some 0))
abbrev ZP:BC:=R 56 0 false [.bool false,.slice none 0 (some 0),.slice none 0 (some 0),.map none]
theorem CF{s2:AE}{p:Nat}{cs0:List AV}(h0:cs0.length=5){x:Bool}{a b av ac:Option (Nat×Nat)}{n m nv nc:Nat}{c d cv cc:Option Nat}(hg:s2.heap.get p=some (R 30 0 false cs0)):
  AM Tryz.prog s2 30 (.ptr (some (p,0))) (.agg [.bool x,.slice a n c,.slice b m d,.slice av nv cv,.slice ac nc cc])=some (setObj s2 p (BL x (.slice a n c) (.slice b m d) (.slice av nv cv) (.slice ac nc cc)))∧AA Tryz.prog (setObj s2 p (BL x (.slice a n c) (.slice b m d) (.slice av nv cv) (.slice ac nc cc))) 30 (.ptr (some (p,0)))=some (.agg [.bool x,.slice a n c,.slice b m d,.slice av nv cv,.slice ac nc cc]):=
 ⟨Ai Bp hg h0 rfl rfl (by simp),AG B6 Bp (Ww _ _ _) rfl⟩
theorem Ey{s2:AE}{p:Nat}{cs0:List AV}(h0:cs0.length=4){x:Bool}{a b:Option (Nat×Nat)}{n m mi:Nat}{c d:Option Nat}(hg:s2.heap.get p=some (R 56 0 false cs0)):
  AM Tryz.prog s2 56 (.ptr (some (p,0))) (.agg [.bool x,.slice a n c,.slice b m d,.map (some mi)])=some (setObj s2 p (BP x (.slice a n c) (.slice b m d) mi)):=Ai GI hg h0 rfl rfl (by simp)
section
variable{E:CR}{s:AE}
theorem Mw(hE:DP E){vl vo:AV}{C o:Rat}{vs:List Int}{cs:List Rat}{kl ko:Nat}(hl:LI s vl C vs cs kl)(ho:QI s vo o ko)(hkl:1≤kl)(hko:1≤ko)(hb:2 * (1+(min cs.length vs.length+2) * (kl+ko+1))+1≤1000000000)(hM6:min cs.length vs.length≤1000000){K:AV→AE→Prop}
  (hK:∀s' w T,Ae s.next s s'→LR s.next s' w (C * o) (Ba T)→Ev o vs cs [] T→QH (C * o) (1+(min cs.length vs.length+1) * (kl+ko+1))→(∀t∈T,QH t.2.1 (1+(min cs.length vs.length+1) * (kl+ko+1)))→(BE T).Nodup→K w s'):WF E 22 [vl,vo] K s:=by
 have hl0:=hl
 have ho0:=ho
 obtain⟨x1,a1,n1,c1,b1,m1,d1,av,nv,cv,ac,nc,cc,el⟩:=hl.shape
 obtain⟨x2,a2,n2,c2,b2,m2,d2,eo⟩:=ho.shape
 subst el;subst eo
 generalize hM:min cs.length vs.length=M at *
 have hMb:M+2≤(M+2) * (kl+ko+1):=sU _ (by omega)
 have hM2:(M+2) * (kl+ko+1)=(M+1) * (kl+ko+1)+(kl+ko+1):=rK _ _
 refine hE.go kZ (by decide) rfl ?_
 obtain⟨n3,o1,g1,g2,g3⟩:=LK s (BL x1 (.slice a1 n1 c1) (.slice b1 m1 d1) (.slice av nv cv) (.slice ac nc cc)) (BQ x2 (.slice a2 n2 c2) (.slice b2 m2 d2)) ZL
 simp only[qD,eX,eY,Xa,Xh,Dm,Xc,Ap,Qa,Qb,Qc,Qd,Qe,Qf,Qg,Qh,Qi,Qj,Qk,Ql,Qm,Qn,true_and,and_true,Qo,Qp,Qq,Qr,Qs,Qt,Qu,Qv,Qw,Qx,Qy,Qz,Ra,Rb,Rc,Rd,Re,Rf,Rg,Rh,Ri,Rj,Rk,Rm,Rn,Ro,Rp,Rq,Rt,Ya,Yb,Yc,Ru,Rw,Zb,Yd,Ye,Ry,Rz,Wa,Wb,Wc,Wd,We]
 generalize newObj (newObj (newObj s (BL x1 (.slice a1 n1 c1) (.slice b1 m1 d1) (.slice av nv cv) (.slice ac nc cc))) (BQ x2 (.slice a2 n2 c2) (.slice b2 m2 d2))) ZL=s1 at *
 refine K4 hE.toGoodN fun s2 v2 mi o2 r2=>?_
 have h2:=o2.1
 obtain⟨x,a,n,ca,d,m,cd,rfl,hP⟩:=r2
 obtain⟨n4,o3,g4⟩:=Bl s2 ZP
 have st:=Ey (cs0:=[.bool false,.slice none 0 (some 0),.slice none 0 (some 0),.map none]) rfl (x:=x) (a:=a) (n:=n) (c:=ca) (b:=d) (m:=m) (d:=cd) (mi:=mi) g4
 simp only[DQ,Xc,st,Xy,Za,Qa,Qb,Qc,Qd,Qe,Qf,Qg,Qh,Qi,Qj,Qk,Ql,Qm,Qn,true_and,and_true,Qo,Qp,Qq,Qr,Qs,Qt,Qu,Qv,Qw,Qx,Qy,Qz,Ra,Rb,Rc,Rd,Re,Rf,Rg,Rh,Ri,Rj,Rk,Rm,Rn,Ro,Rp,Rq,Rt,Ya,Yb,Yc,Ru,Rw,Zb,Yd,Ye,Ry,Rz,Wa,Wb,Wc,Wd,We]
 generalize hs4:setObj (newObj s2 ZP) s2.next (BP x (.slice a n ca) (.slice d m cd) mi)=s4
 have o24:Ae s2.next s2 s4:=by rw[← hs4];exact o3.set (qw _) _
 have n5:s4.next=s2.next+1:=by rw[← hs4];exact n4
 have k4:s4.heap.get s2.next=some (BP x (.slice a n ca) (.slice d m cd) mi):=by rw[← hs4,Ww]
 have o12:=o1.trans (o2.mono o1.1)
 have o14:=o12.trans (o24.mono o12.1)
 have l1:=AG (P:=Tryz.prog) (t:=30) B6 Bp ((o24.2 s.next (by omega)).trans ((o2.2 s.next (by omega)).trans g1)) rfl
 have l2:=AG (P:=Tryz.prog) (t:=26) BH Ar ((o24.2 (s.next+1) (by omega)).trans ((o2.2 (s.next+1) (by omega)).trans g2)) rfl
 simp only[eZ,l1,l2,Qa,Qb,Qc,Qd,Qe,Qf,Qg,Qh,Qi,Qj,Qk,Ql,Qm,Qn,true_and,and_true,Qo,Qp,Qq,Qr,Qs,Qt,Qu,Qv,Qw,Qx,Qy,Qz,Ra,Rb,Rc,Rd,Re,Rf,Rg,Rh,Ri,Rj,Rk,Rm,Rn,Ro,Rp,Rq,Rt,Ya,Yb,Yc,Ru,Rw,Zb,Yd,Ye,Ry,Rz,Wa,Wb,Wc,Wd,We]
 have hP4:=hP.old o24
 have hmlo:=hP.map.lo
 refine H8 hE.toGoodN (b:=s1.next) (p:=s2.next) (kl:=kl) (ko:=ko) (k:=1) k4 (by omega) (by omega) hP4 (fun S f=>hl0.old (o14.trans (f.old (by omega) (by omega) (by omega)))) (fun S f=>ho0.old (o14.trans (f.old (by omega) (by omega) (by omega)))) (by omega) hkl hko (by rw[hM];omega) fun r s6 x' a' n' c'' d' m' e' T' f6 g6 hP6 hT=>?_
 have h6:=f6.1
 have l6:=AG (P:=Tryz.prog) (t:=56) H9 GI g6 rfl
 rw[Rat.zero_add,hM]at hP6
 have hTl:=hT.len
 rw[hM]at hTl
 simp only[sL]at hTl
 simp only[ef,l6,Qa,Qb,Qc,Qd,Qe,Qf,Qg,Qh,Qi,Qj,Qk,Ql,Qm,Qn,true_and,and_true,Qo,Qp,Qq,Qr,Qs,Qt,Qu,Qv,Qw,Qx,Qy,Qz,Ra,Rb,Rc,Rd,Re,Rf,Rg,Rh,Ri,Rj,Rk,Rm,Rn,Ro,Rp,Rq,Rt,Ya,Yb,Yc,Ru,Rw,Zb,Yd,Ye,Ry,Rz,Wa,Wb,Wc,Wd,We]
 refine I9 hE (b:=s1.next) ⟨_,_,_,_,_,_,_,rfl,hP6⟩ (by omega) (by omega) (by omega) fun s7 w o7 r7=>?_
 obtain⟨x7,a7,n7,c7,b7,m7,d7,av7,nv7,cv7,ac7,nc7,cc7,rfl⟩:=r7.shape
 have g7:s7.heap.get (s.next+1+1)=some ZL:=by rw[o7.2 _ (by omega),f6.2 _ (by omega) (by omega) (by omega),o24.2 _ (by omega),o2.2 _ (by omega)];exact g3
 have o17:Ae s.next s s7:=by
  have:=o14.trans (f6.old (b:=s.next) (by omega) (by omega) (by omega))
  exact this.trans (o7.mono this.1)
 obtain⟨st8,ld8⟩:=CF (cs0:=[.bool false,.slice none 0 (some 0),.slice none 0 (some 0),.slice none 0 (some 0),.slice none 0 (some 0)]) rfl (x:=x7) (a:=a7) (n:=n7) (c:=c7) (b:=b7) (m:=m7) (d:=d7) (av:=av7) (nv:=nv7) (cv:=cv7) (ac:=ac7) (nc:=nc7) (cc:=cc7) g7
 simp only[st8,ld8,AO,Xy,Za,Qa,Qb,Qc,Qd,Qe,Qf,Qg,Qh,Qi,Qj,Qk,Ql,Qm,Qn,true_and,and_true,Qo,Qp,Qq,Qr,Qs,Qt,Qu,Qv,Qw,Qx,Qy,Qz,Ra,Rb,Rc,Rd,Re,Rf,Rg,Rh,Ri,Rj,Rk,Rm,Rn,Ro,Rp,Rq,Rt,Ya,Yb,Yc,Ru,Rw,Zb,Yd,Ye,Ry,Rz,Wa,Wb,Wc,Wd,We]
 exact hK _ _ T' (o17.set (by omega) _) ((r7.set (by omega) _).mono (by omega)) hT hP6.ch (fun t ht=>(hP6.map.ent t ht).2.1) hP6.map.nd
theorem Zu(hE:DP E){vl vo:AV}{C o:Rat}{vs:List Int}{cs:List Rat}{kl ko:Nat}(hl:LI s vl C vs cs kl)(ho:QI s vo o ko)(hkl:1≤kl)(hko:1≤ko)(hb:2 * (1+(min cs.length vs.length+2) * (kl+ko+1))+1≤1000000){K:AV→AE→Prop}
  (hK:∀s' w T,Ae s.next s s'→LR s.next s' w (C * o) (Ba T)→Ev o vs cs [] T→QH (C * o) (1+(min cs.length vs.length+1) * (kl+ko+1))→(∀t∈T,QH t.2.1 (1+(min cs.length vs.length+1) * (kl+ko+1)))→(BE T).Nodup→K w s'):WF E 22 [vl,vo] K s:=
 Mw hE hl ho hkl hko (by omega) (by have:min cs.length vs.length+2≤(min cs.length vs.length+2) * (kl+ko+1):=sU _ (by omega);omega) hK
theorem Se(hE:DP E){va vb:AV}{C C2:Rat}{vs vs2:List Int}{cs cs2:List Rat}{ka kb:Nat}(ha:LI s va C vs cs ka)(hb':LI s vb C2 vs2 cs2 kb)(hka:1≤ka)(hkb:1≤kb)(hb:2 * (1+(min cs.length vs.length+2) * (ka+2)+(min cs2.length vs2.length+2) * (kb+2))+1≤1000000){K:AV→AE→Prop}
  (hK:∀s' w T0 T,Ae s.next s s'→LR s.next s' w (C+C2 * ((-1:Int):Rat)) (Ba T)→Ev 1 vs cs [] T0→Ev ((-1:Int):Rat) vs2 cs2 T0 T→QH (C+C2 * ((-1:Int):Rat)) (1+(min cs.length vs.length+1) * (ka+2)+(min cs2.length vs2.length+1) * (kb+2)) →
   (∀t∈T,QH t.2.1 (1+(min cs.length vs.length+1) * (ka+2)+(min cs2.length vs2.length+1) * (kb+2)))→(BE T).Nodup→K w s'):WF E 21 [va,vb] K s:=by
 have ha0:=ha
 have hb0:=hb'
 obtain⟨x1,a1,n1,c1,b1,m1,d1,av,nv,cv,ac,nc,cc,ea⟩:=ha.shape
 obtain⟨x2,a2,n2,c2,b2,m2,d2,av2,nv2,cv2,ac2,nc2,cc2,eb⟩:=hb'.shape
 subst ea;subst eb
 generalize hM:min cs.length vs.length=M at *
 generalize hN:min cs2.length vs2.length=N at *
 have hMb:M+2≤(M+2) * (ka+2):=sU _ (by omega)
 have hM2:(M+2) * (ka+2)=(M+1) * (ka+2)+(ka+2):=rK _ _
 have hNb:N+2≤(N+2) * (kb+2):=sU _ (by omega)
 have hN2:(N+2) * (kb+2)=(N+1) * (kb+2)+(kb+2):=rK _ _
 refine hE.go kY (by decide) rfl ?_
 obtain⟨n3,o1,g1,g2,g3⟩:=LK s (BL x1 (.slice a1 n1 c1) (.slice b1 m1 d1) (.slice av nv cv) (.slice ac nc cc)) (BL x2 (.slice a2 n2 c2) (.slice b2 m2 d2) (.slice av2 nv2 cv2) (.slice ac2 nc2 cc2)) ZL
 simp only[qC,eT,eU,Xa,Xh,Dm,Xc,Ap,Qa,Qb,Qc,Qd,Qe,Qf,Qg,Qh,Qi,Qj,Qk,Ql,Qm,Qn,true_and,and_true,Qo,Qp,Qq,Qr,Qs,Qt,Qu,Qv,Qw,Qx,Qy,Qz,Ra,Rb,Rc,Rd,Re,Rf,Rg,Rh,Ri,Rj,Rk,Rm,Rn,Ro,Rp,Rq,Rt,Ya,Yb,Yc,Ru,Rw,Zb,Yd,Ye,Ry,Rz,Wa,Wb,Wc,Wd,We]
 generalize newObj (newObj (newObj s (BL x1 (.slice a1 n1 c1) (.slice b1 m1 d1) (.slice av nv cv) (.slice ac nc cc))) (BL x2 (.slice a2 n2 c2) (.slice b2 m2 d2) (.slice av2 nv2 cv2) (.slice ac2 nc2 cc2))) ZL=s1 at *
 have l1:=AG (P:=Tryz.prog) (t:=30) B6 Bp g1 rfl
 simp only[l1,Qa,Qb,Qc,Qd,Qe,Qf,Qg,Qh,Qi,Qj,Qk,Ql,Qm,Qn,true_and,and_true,Qo,Qp,Qq,Qr,Qs,Qt,Qu,Qv,Qw,Qx,Qy,Qz,Ra,Rb,Rc,Rd,Re,Rf,Rg,Rh,Ri,Rj,Rk,Rm,Rn,Ro,Rp,Rq,Rt,Ya,Yb,Yc,Ru,Rw,Zb,Yd,Ye,Ry,Rz,Wa,Wb,Wc,Wd,We]
 refine Mk hE.toGoodN (ha0.old o1) hka (by rw[hM];omega) fun s2 v2 mi T0 o2 r2 hT0=>?_
 rw[hM]at r2
 have h2:=o2.1
 obtain⟨x,a,n,ca,d,m,cd,rfl,hP⟩:=r2
 obtain⟨n4,o3,g4⟩:=Bl s2 ZP
 have st:=Ey (cs0:=[.bool false,.slice none 0 (some 0),.slice none 0 (some 0),.map none]) rfl (x:=x) (a:=a) (n:=n) (c:=ca) (b:=d) (m:=m) (d:=cd) (mi:=mi) g4
 simp only[DQ,Xc,st,Xy,Za,Qa,Qb,Qc,Qd,Qe,Qf,Qg,Qh,Qi,Qj,Qk,Ql,Qm,Qn,true_and,and_true,Qo,Qp,Qq,Qr,Qs,Qt,Qu,Qv,Qw,Qx,Qy,Qz,Ra,Rb,Rc,Rd,Re,Rf,Rg,Rh,Ri,Rj,Rk,Rm,Rn,Ro,Rp,Rq,Rt,Ya,Yb,Yc,Ru,Rw,Zb,Yd,Ye,Ry,Rz,Wa,Wb,Wc,Wd,We]
 generalize hs4:setObj (newObj s2 ZP) s2.next (BP x (.slice a n ca) (.slice d m cd) mi)=s4
 have o24:Ae s2.next s2 s4:=by rw[← hs4];exact o3.set (qw _) _
 have n5:s4.next=s2.next+1:=by rw[← hs4];exact n4
 have k4:s4.heap.get s2.next=some (BP x (.slice a n ca) (.slice d m cd) mi):=by rw[← hs4,Ww]
 have o12:=o1.trans (o2.mono o1.1)
 have o14:=o12.trans (o24.mono o12.1)
 have kk2:=(o24.2 (s.next+1) (by omega)).trans ((o2.2 (s.next+1) (by omega)).trans g2)
 have l2:=AG (P:=Tryz.prog) (t:=30) B6 Bp kk2 rfl
 simp only[eV,l2,Qa,Qb,Qc,Qd,Qe,Qf,Qg,Qh,Qi,Qj,Qk,Ql,Qm,Qn,true_and,and_true,Qo,Qp,Qq,Qr,Qs,Qt,Qu,Qv,Qw,Qx,Qy,Qz,Ra,Rb,Rc,Rd,Re,Rf,Rg,Rh,Ri,Rj,Rk,Rm,Rn,Ro,Rp,Rq,Rt,Ya,Yb,Yc,Ru,Rw,Zb,Yd,Ye,Ry,Rz,Wa,Wb,Wc,Wd,We]
 refine FZ hE.toGoodN (n:=-1) (.inr (.inr rfl)) fun s5 v5 o5 r5=>?_
 have h5:=o5.1
 refine⟨⟨Ak (by simp only[Qa,Qb,Qc,Qd,Qe,Qf,Qg,Qh,Qi,Qj,Qk,Ql,Qm,Qn,true_and,and_true,Qo,Qp,Qq,Qr,Qs,Qt,Qu,Qv,Qw,Qx,Qy,Qz,Ra,Rb,Rc,Rd,Re,Rf,Rg,Rh,Ri,Rj,Rk,Rm,Rn,Ro,Rp,Rq,Rt,Ya,Yb,Yc,Ru,Rw,Zb,Yd,Ye,Ry,Rz,Wa,Wb,Wc,Wd,We];exact AG B6 Bp ((o5.2 (s.next+1) (by omega)).trans kk2) rfl) (Cd ..),trivial⟩,?_⟩
 simp only[Qa,Qb,Qc,Qd,Qe,Qf,Qg,Qh,Qi,Qj,Qk,Ql,Qm,Qn,true_and,and_true,Qo,Qp,Qq,Qr,Qs,Qt,Qu,Qv,Qw,Qx,Qy,Qz,Ra,Rb,Rc,Rd,Re,Rf,Rg,Rh,Ri,Rj,Rk,Rm,Rn,Ro,Rp,Rq,Rt,Ya,Yb,Yc,Ru,Rw,Zb,Yd,Ye,Ry,Rz,Wa,Wb,Wc,Wd,We]
 have o15:=o14.trans (o5.mono o14.1)
 have hP5:=hP.old (o24.trans (o5.mono o24.1))
 have hmlo:=hP.map.lo
 have hneg1:QH ((-1:Int):Rat) 1:=⟨by decide,by decide⟩
 have g5:=(o5.2 s2.next (by omega)).trans k4
 refine H8 hE.toGoodN (b:=s1.next) (p:=s2.next) (kl:=kb) (ko:=1) (k:=1+(M+1) * (ka+2)) g5 (by omega) (by omega) hP5 (fun S f=>hb0.old (o15.trans (f.old (by omega) (by omega) (by omega)))) (fun S f=>(r5.fx g5 (by decide) hP5.map.obj f).qi hneg1) (by omega) hkb (by omega) (by rw[hN];show 2 * (1+(M+1) * (ka+2)+(N+2) * (kb+2))+1≤1000000000;omega) fun r s6 x' a' n' c'' d' m' e' T' f6 g6 hP6 hT=>?_
 have h6:=f6.1
 have l6:=AG (P:=Tryz.prog) (t:=56) H9 GI g6 rfl
 rw[hN]at hP6
 replace hP6:=hP6.le (show _≤1+(M+1) * (ka+2)+(N+1) * (kb+2)from qw _)
 have hTl:=hT.len
 have hTl0:=hT0.len
 rw[hM]at hTl0
 rw[hN]at hTl
 simp only[sL]at hTl0
 simp only[eW,l6,Qa,Qb,Qc,Qd,Qe,Qf,Qg,Qh,Qi,Qj,Qk,Ql,Qm,Qn,true_and,and_true,Qo,Qp,Qq,Qr,Qs,Qt,Qu,Qv,Qw,Qx,Qy,Qz,Ra,Rb,Rc,Rd,Re,Rf,Rg,Rh,Ri,Rj,Rk,Rm,Rn,Ro,Rp,Rq,Rt,Ya,Yb,Yc,Ru,Rw,Zb,Yd,Ye,Ry,Rz,Wa,Wb,Wc,Wd,We]
 refine I9 hE (b:=s1.next) ⟨_,_,_,_,_,_,_,rfl,hP6⟩ (by omega) (by omega) (by omega) fun s7 w o7 r7=>?_
 obtain⟨x7,a7,n7,c7,b7,m7,d7,av7,nv7,cv7,ac7,nc7,cc7,rfl⟩:=r7.shape
 have g7:s7.heap.get (s.next+1+1)=some ZL:=by rw[o7.2 _ (by omega),f6.2 _ (by omega) (by omega) (by omega),o5.2 _ (by omega),o24.2 _ (by omega),o2.2 _ (by omega)];exact g3
 have o17:Ae s.next s s7:=by
  have:=o15.trans (f6.old (b:=s.next) (by omega) (by omega) (by omega))
  exact this.trans (o7.mono this.1)
 obtain⟨st8,ld8⟩:=CF (cs0:=[.bool false,.slice none 0 (some 0),.slice none 0 (some 0),.slice none 0 (some 0),.slice none 0 (some 0)]) rfl (x:=x7) (a:=a7) (n:=n7) (c:=c7) (b:=b7) (m:=m7) (d:=d7) (av:=av7) (nv:=nv7) (cv:=cv7) (ac:=ac7) (nc:=nc7) (cc:=cc7) g7
 simp only[st8,ld8,AO,Xy,Za,Qa,Qb,Qc,Qd,Qe,Qf,Qg,Qh,Qi,Qj,Qk,Ql,Qm,Qn,true_and,and_true,Qo,Qp,Qq,Qr,Qs,Qt,Qu,Qv,Qw,Qx,Qy,Qz,Ra,Rb,Rc,Rd,Re,Rf,Rg,Rh,Ri,Rj,Rk,Rm,Rn,Ro,Rp,Rq,Rt,Ya,Yb,Yc,Ru,Rw,Zb,Yd,Ye,Ry,Rz,Wa,Wb,Wc,Wd,We]
 exact hK _ _ T0 T' (o17.set (by omega) _) ((r7.set (by omega) _).mono (by omega)) hT0 hT hP6.ch (fun t ht=>(hP6.map.ent t ht).2.1) hP6.map.nd
end
theorem Yk{n:Int}{T:List CD}(h:(BE T).Nodup):(BE (HH n T)).Nodup:=((Gz n T).map (fun t:CD=>t.1)).nodup h
theorem TR(n:Int)(T:List CD):(HH n T).length≤T.length:=(Gz n T).length_le
def nF(n:Int)(C2:Rat)(vs2:List Int)(cs2:List Rat)(C:Rat)(T:List CD)(C':Rat)(T':List CD):Prop:=
 (Dp n T=none∧C'=C∧T'=T)∨(Dp n T≠none∧C'=C+C2 * CB n T∧Ev (CB n T) vs2 cs2 (HH n T) T')
section
variable{E:CR}{s:AE}
theorem mV     (hE : DP    E) {va vb : AV} {C C2 : Rat} {vs vs2 : List Int} {cs cs2 : List Rat} {ka kb : Nat} {n : Int} (hn : i64 n) (ha : LI s va C vs cs ka) (hb' : LI s vb C2 vs2 cs2 kb) (hka : 1 ≤ ka) (hkb : 1 ≤ kb) {M N k1 k2 : Nat} (hM : min cs.length vs.length = M) (hN : min cs2.length vs2.length = N)
    (hk1:k1=1+(M+1) * (ka+2)) (hk2:k2=k1+(N+1) * (kb+k1+1)) (hb:2 * (k2+(ka+2)+(kb+k1+1))+1≤1000000) {K:AV→AE→Prop}
    (hK:∀s' w T0 C' T,Ae s.next s s'→LR s.next s' w C' (Ba T)→Ev 1 vs cs [] T0→nF n C2 vs2 cs2 C T0 C' T→QH C' k2→(∀t∈T,QH t.2.1 k2)→(BE T).Nodup→(BE T0).Nodup→K w s'):WF E 10 [va,iv n,vb] K s:=by
  have ha0:=ha
  have hb0:=hb'
  obtain⟨x1,a1,n1,c1,b1,m1,d1,av,nv,cv,ac,nc,cc,ea⟩:=ha.shape
  obtain⟨x2,a2,n2,c2,b2,m2,d2,av2,nv2,cv2,ac2,nc2,cc2,eb⟩:=hb'.shape
  subst ea;subst eb
  have hMb:M+1≤(M+1) * (ka+2):=sU _ (by omega)
  have hM2:(M+2) * (ka+2)=(M+1) * (ka+2)+(ka+2):=rK _ _
  have hNb:N+1≤(N+1) * (kb+k1+1):=sU _ (by omega)
  have hN2:(N+2) * (kb+k1+1)=(N+1) * (kb+k1+1)+(kb+k1+1):=rK _ _
  refine hE.go kR (by decide) rfl ?_
  obtain⟨n3,o1,g1,g2,g3⟩:=LK s (BL x1 (.slice a1 n1 c1) (.slice b1 m1 d1) (.slice av nv cv) (.slice ac nc cc)) (BL x2 (.slice a2 n2 c2) (.slice b2 m2 d2) (.slice av2 nv2 cv2) (.slice ac2 nc2 cc2)) ZL
  simp only[kE,dN,dO,Xa,Xh,Dm,Xc,Ap,Qa,Qb,Qc,Qd,Qe,Qf,Qg,Qh,Qi,Qj,Qk,Ql,Qm,Qn,true_and,and_true,Qo,Qp,Qq,Qr,Qs,Qt,Qu,Qv,Qw,Qx,Qy,Qz,Ra,Rb,Rc,Rd,Re,Rf,Rg,Rh,Ri,Rj,Rk,Rm,Rn,Ro,Rp,Rq,Rt,Ya,Yb,Yc,Ru,Rw,Zb,Yd,Ye,Ry,Rz,Wa,Wb,Wc,Wd,We]
  generalize newObj (newObj (newObj s (BL x1 (.slice a1 n1 c1) (.slice b1 m1 d1) (.slice av nv cv) (.slice ac nc cc))) (BL x2 (.slice a2 n2 c2) (.slice b2 m2 d2) (.slice av2 nv2 cv2) (.slice ac2 nc2 cc2))) ZL=s1 at *
  have l1:=AG (P:=Tryz.prog) (t:=30) B6 Bp g1 rfl
  simp only[l1,Qa,Qb,Qc,Qd,Qe,Qf,Qg,Qh,Qi,Qj,Qk,Ql,Qm,Qn,true_and,and_true,Qo,Qp,Qq,Qr,Qs,Qt,Qu,Qv,Qw,Qx,Qy,Qz,Ra,Rb,Rc,Rd,Re,Rf,Rg,Rh,Ri,Rj,Rk,Rm,Rn,Ro,Rp,Rq,Rt,Ya,Yb,Yc,Ru,Rw,Zb,Yd,Ye,Ry,Rz,Wa,Wb,Wc,Wd,We]
  refine Mk hE.toGoodN (ha0.old o1) hka (by rw[hM];omega) fun s2 v2 mi T0 o2 r2 hT0=>?_
  rw[hM,← hk1]at r2
  have h2:=o2.1
  have hTl0:=hT0.len
  rw[hM]at hTl0
  simp only[sL]at hTl0
  obtain⟨x,a,nn,ca,d,m,cd,rfl,hP⟩:=r2
  obtain⟨n4,o3,g4⟩:=Bl s2 ZP
  have st:=Ey (cs0:=[.bool false,.slice none 0 (some 0),.slice none 0 (some 0),.map none]) rfl (x:=x) (a:=a) (n:=nn) (c:=ca) (b:=d) (m:=m) (d:=cd) (mi:=mi) g4
  simp only[DQ,Xc,st,Xy,Za,Qa,Qb,Qc,Qd,Qe,Qf,Qg,Qh,Qi,Qj,Qk,Ql,Qm,Qn,true_and,and_true,Qo,Qp,Qq,Qr,Qs,Qt,Qu,Qv,Qw,Qx,Qy,Qz,Ra,Rb,Rc,Rd,Re,Rf,Rg,Rh,Ri,Rj,Rk,Rm,Rn,Ro,Rp,Rq,Rt,Ya,Yb,Yc,Ru,Rw,Zb,Yd,Ye,Ry,Rz,Wa,Wb,Wc,Wd,We]
  generalize hs4:setObj (newObj s2 ZP) s2.next (BP x (.slice a nn ca) (.slice d m cd) mi)=s4
  have o24:Ae s2.next s2 s4:=by rw[← hs4];exact o3.set (qw _) _
  have n5:s4.next=s2.next+1:=by rw[← hs4];exact n4
  have k4:s4.heap.get s2.next=some (BP x (.slice a nn ca) (.slice d m cd) mi):=by rw[← hs4,Ww]
  have o12:=o1.trans (o2.mono o1.1)
  have o14:=o12.trans (o24.mono o12.1)
  have hP4:=hP.old o24
  have hmlo:=hP.map.lo
  have hmlt:=hP.map.lt
  have kk2:=(o24.2 (s.next+1) (by omega)).trans ((o2.2 (s.next+1) (by omega)).trans g2)
  have kk3:=(o24.2 (s.next+1+1) (by omega)).trans ((o2.2 (s.next+1+1) (by omega)).trans g3)
  have lm:=AI (P:=Tryz.prog) (t:=54) (o:=0+3) KS k4 rfl
  have lk:=K9 hP4.map.obj hn
  obtain⟨n6,o6,g6⟩:=Bl s4 ZQ
  simp only[dP,lm,lk,Zb,Bb,Xc,Fm,Xy,Qa,Qb,Qc,Qd,Qe,Qf,Qg,Qh,Qi,Qj,Qk,Ql,Qm,Qn,true_and,and_true,Qo,Qp,Qq,Qr,Qs,Qt,Qu,Qv,Qw,Qx,Qy,Qz,Ra,Rb,Rc,Rd,Re,Rf,Rg,Rh,Ri,Rj,Rk,Rm,Rn,Ro,Rp,Rq,Rt,Ya,Yb,Yc,Ru,Rw,Zb,Yd,Ye,Ry,Rz,Wa,Wb,Wc,Wd,We]
  have fin:∀ (s6:AE) (x':Bool) (a' d':Option (Nat×Nat)) (n' m':Nat) (c'' e':Option Nat) (C':Rat) (T':List CD),Ae s.next s s6→s1.next≤s6.next→s6.heap.get (s.next+1+1)=some ZL→EO s1.next s6 (.agg [.bool x',.slice a' n' c'',.slice d' m' e']) mi C' T' k2→T'.length≤M+N→nF n C2 vs2 cs2 C T0 C' T'→∀K2:AV→AE→Prop,
      (∀s7 x7 a7 n7 c7 b7 m7 d7 av7 nv7 cv7 ac7 nc7 cc7,AM Tryz.prog s7 30 (.ptr (some (s.next+1+1,0))) (.agg [.bool x7,.slice a7 n7 c7,.slice b7 m7 d7,.slice av7 nv7 cv7,.slice ac7 nc7 cc7])=some (setObj s7 (s.next+1+1) (BL x7 (.slice a7 n7 c7) (.slice b7 m7 d7) (.slice av7 nv7 cv7) (.slice ac7 nc7 cc7))) →
        AA Tryz.prog (setObj s7 (s.next+1+1) (BL x7 (.slice a7 n7 c7) (.slice b7 m7 d7) (.slice av7 nv7 cv7) (.slice ac7 nc7 cc7))) 30 (.ptr (some (s.next+1+1,0)))=some (.agg [.bool x7,.slice a7 n7 c7,.slice b7 m7 d7,.slice av7 nv7 cv7,.slice ac7 nc7 cc7]) →
        K (.agg [.bool x7,.slice a7 n7 c7,.slice b7 m7 d7,.slice av7 nv7 cv7,.slice ac7 nc7 cc7]) (setObj s7 (s.next+1+1) (BL x7 (.slice a7 n7 c7) (.slice b7 m7 d7) (.slice av7 nv7 cv7) (.slice ac7 nc7 cc7))) →
        K2 (.agg [.bool x7,.slice a7 n7 c7,.slice b7 m7 d7,.slice av7 nv7 cv7,.slice ac7 nc7 cc7]) s7) →
      WF E 33 [.agg [.bool x',.slice a' n' c'',.slice d' m' e',.map (some mi)]] K2 s6:=by
    intro s6 x' a' d' n' m' c'' e' C' T' os6 hs6 gz hP6 hTl6 hPut K2 hK2
    refine I9 hE (b:=s1.next) ⟨_,_,_,_,_,_,_,rfl,hP6⟩ (by omega) (by omega) (by omega) fun s7 w o7 r7=>?_
    obtain⟨x7,a7,n7,c7,b7,m7,d7,av7,nv7,cv7,ac7,nc7,cc7,rfl⟩:=r7.shape
    have g7:s7.heap.get (s.next+1+1)=some ZL:=by rw[o7.2 _ (by omega)];exact gz
    obtain⟨st8,ld8⟩:=CF (cs0:=[.bool false,.slice none 0 (some 0),.slice none 0 (some 0),.slice none 0 (some 0),.slice none 0 (some 0)]) rfl (x:=x7) (a:=a7) (n:=n7) (c:=c7) (b:=b7) (m:=m7) (d:=d7) (av:=av7) (nv:=nv7) (cv:=cv7) (ac:=ac7) (nc:=nc7) (cc:=cc7) g7
    exact hK2 _ _ _ _ _ _ _ _ _ _ _ _ _ _ st8 ld8 (hK _ _ T0 C' T' ((os6.trans (o7.mono os6.1)).set (by omega) _) ((r7.set (by omega) _).mono (by omega)) hT0 hPut hP6.ch (fun t ht=>(hP6.map.ent t ht).2.1) hP6.map.nd hP.map.nd)
  cases hg:Dp n T0 with
  | none =>
    have st6:=Ai (P:=Tryz.prog) (t:=26) (cs:=[.bool false,.slice none 0 (some 0),.slice none 0 (some 0)]) Ar g6 rfl rfl rfl (by simp)
    generalize hs7:setObj (newObj s4 ZQ) s4.next (R 26 0 false [.bool false,.slice none 0 (some 0),.slice none 0 (some 0)])=s7 at st6
    have o47:Ae s4.next s4 s7:=by rw[← hs7];exact o6.set (qw _) _
    have l7:=AG (P:=Tryz.prog) (t:=56) H9 GI ((o47.2 s2.next (by omega)).trans k4) rfl
    have h47:=o47.1
    simp only[Option.isSome,VV,dQ,st6,l7,We,Bool.not_false,Za,Qa,Qb,Qc,Qd,Qe,Qf,Qg,Qh,Qi,Qj,Qk,Ql,Qm,Qn,true_and,and_true,Qo,Qp,Qq,Qr,Qs,Qt,Qu,Qv,Qw,Qx,Qy,Qz,Ra,Rb,Rc,Rd,Re,Rf,Rg,Rh,Ri,Rj,Rk,Rm,Rn,Ro,Rp,Rq,Rt,Ya,Yb,Yc,Ru,Rw,Zb,Yd,Ye,Ry,Rz,Wa,Wb,Wc,Wd,We]
    refine fin s7 x a d nn m ca cd C T0 (o14.trans (o47.mono o14.1)) (by omega) ((o47.2 _ (by omega)).trans kk3) ((hP4.old o47).le (by omega)) (by omega) (.inl ⟨hg,rfl,rfl⟩) _ fun s7 x7 a7 n7 c7 b7 m7 d7 av7 nv7 cv7 ac7 nc7 cc7 st8 ld8 hk8=>?_
    simp only[st8,ld8,AO,Xy,Za,Qa,Qb,Qc,Qd,Qe,Qf,Qg,Qh,Qi,Qj,Qk,Ql,Qm,Qn,true_and,and_true,Qo,Qp,Qq,Qr,Qs,Qt,Qu,Qv,Qw,Qx,Qy,Qz,Ra,Rb,Rc,Rd,Re,Rf,Rg,Rh,Ri,Rj,Rk,Rm,Rn,Ro,Rp,Rq,Rt,Ya,Yb,Yc,Ru,Rw,Zb,Yd,Ye,Ry,Rz,Wa,Wb,Wc,Wd,We]
    exact hk8
  | some pq =>
    have hmem:=E1 hg
    obtain⟨e1,e2,_⟩:=hP4.map.ent _ hmem
    simp only at e1 e2
    have hval:CB n T0=pq.1:=by unfold CB;rw[hg]
    obtain⟨xx,aa,nq,kk,bb,mm,ee,hce⟩:=e1.shape
    have st6:=Ai (P:=Tryz.prog) (t:=26) (cs:=[.bool xx,.slice aa nq kk,.slice bb mm ee]) Ar g6 rfl rfl rfl (by simp)
    rw[← hce]at st6
    generalize hs7:setObj (newObj s4 ZQ) s4.next (R 26 0 false [.bool xx,.slice aa nq kk,.slice bb mm ee])=s7 at st6
    have o47:Ae s4.next s4 s7:=by rw[← hs7];exact o6.set (qw _) _
    have h47:=o47.1
    have n7:s7.next=s4.next+1:=by rw[← hs7];exact n6
    have g7:s7.heap.get s4.next=some (BQ xx (.slice aa nq kk) (.slice bb mm ee)):=by rw[← hs7,Ww]
    have k7:=(o47.2 s2.next (by omega)).trans k4
    have hP7:=hP4.old o47
    have lm7:=AI (P:=Tryz.prog) (t:=54) (o:=0+3) KS k7 rfl
    have dl:=Yl hP7.map.obj hn (by rw[hg];simp)
    generalize hs8:setObj s7 mi (.map 3 (Fl (HH n T0)))=s8 at dl
    have n8:s8.next=s7.next:=by rw[← hs8];rfl
    have f8:∀j,j≠mi→s8.heap.get j=s7.heap.get j:=fun j hj=>by rw[← hs8,Wx _ hj]
    have hu8:∀j,j<s7.next→OX s7 j→s8.heap.get j=s7.heap.get j:=fun j _ hj=>f8 j (EK hP7.map.obj hj)
    have ho8:s8.heap.get mi=some (.map 3 (Fl (HH n T0))):=by rw[← hs8,Ww]
    have hP8:EO s1.next s8 (.agg [.bool x,.slice a nn ca,.slice d m cd]) mi C (HH n T0) k1:=
      ⟨hP7.cq.keepS (rV n8.symm) hu8,hP7.ch,⟨ho8,hP7.map.lo,by rw[n8];exact hP7.map.lt,fun t ht=>by
        have ht':=(Gz n T0).subset ht
        obtain⟨q1,q2⟩:=hP7.map.ent t ht'
        exact⟨q1.keepS (rV n8.symm) hu8,q2⟩,Yk hP7.map.nd,hP7.map.dj.sublist (Gz n T0)⟩,fun t ht=>hP7.dj t ((Gz n T0).subset ht)⟩
    have e8:QR s1.next s8 pq.2 pq.1:=(e1.old o47).keepS (rV n8.symm) hu8
    have k8:=(f8 s2.next (by omega)).trans k7
    have l8:=AG (P:=Tryz.prog) (t:=30) B6 Bp ((f8 (s.next+1) (by omega)).trans ((o47.2 _ (by omega)).trans kk2)) rfl
    have l9:=AG (P:=Tryz.prog) (t:=26) BH Ar ((f8 s4.next (by omega)).trans g7) rfl
    rw[← hce]at l9
    have o18:Ae s1.next s1 s8:=by
      have:Ae s1.next s1 s7:=o2.trans ((o24.trans (o47.mono o24.1)).mono o2.1)
      exact⟨by have:=this.1;omega,fun j hj=>by rw[f8 j (by omega),this.2 j hj]⟩
    have os8:=o1.trans (o18.mono o1.1)
    simp only[Option.isSome,VV,dR,dS,st6,lm7,dl,l8,l9,We,Bool.not_true,Fm,Xy,Za,Qa,Qb,Qc,Qd,Qe,Qf,Qg,Qh,Qi,Qj,Qk,Ql,Qm,Qn,true_and,and_true,Qo,Qp,Qq,Qr,Qs,Qt,Qu,Qv,Qw,Qx,Qy,Qz,Ra,Rb,Rc,Rd,Re,Rf,Rg,Rh,Ri,Rj,Rk,Rm,Rn,Ro,Rp,Rq,Rt,Ya,Yb,Yc,Ru,Rw,Zb,Yd,Ye,Ry,Rz,Wa,Wb,Wc,Wd,We]
    refine H8 hE.toGoodN (b:=s1.next) (p:=s2.next) (kl:=kb) (ko:=k1) (k:=k1) k8 (by omega) (by omega) hP8 (fun S f=>hb0.old (os8.trans (f.old (by omega) (by omega) (by omega)))) (fun S f=>(e8.fx k8 (by decide) ho8 f).qi e2) (by omega) hkb (by omega) (by rw[hN];omega) fun r s9 x' a' n' c'' d' m' e' T' f9 g9 hP9 hT=>?_
    have h9:=f9.1
    rw[hN,← hk2]at hP9
    have hTl:=hT.len
    rw[hN]at hTl
    have hdl:=TR n T0
    have l10:=AG (P:=Tryz.prog) (t:=56) H9 GI g9 rfl
    simp only[dT,l10,Qa,Qb,Qc,Qd,Qe,Qf,Qg,Qh,Qi,Qj,Qk,Ql,Qm,Qn,true_and,and_true,Qo,Qp,Qq,Qr,Qs,Qt,Qu,Qv,Qw,Qx,Qy,Qz,Ra,Rb,Rc,Rd,Re,Rf,Rg,Rh,Ri,Rj,Rk,Rm,Rn,Ro,Rp,Rq,Rt,Ya,Yb,Yc,Ru,Rw,Zb,Yd,Ye,Ry,Rz,Wa,Wb,Wc,Wd,We]
    have os9:Ae s.next s s9:=os8.trans (f9.old (by omega) (by omega) (by omega))
    refine fin s9 x' a' d' n' m' c'' e' (C+C2 * pq.1) T' os9 (by omega) (by rw[f9.2 _ (by omega) (by omega) (by omega),f8 _ (by omega),o47.2 _ (by omega)];exact kk3) hP9 (by omega) (.inr ⟨by rw[hg];simp,by rw[hval],by rw[hval];exact hT⟩) _ fun s7 x7 a7 n7 c7 b7 m7 d7 av7 nv7 cv7 ac7 nc7 cc7 st8 ld8 hk8=>?_
    simp only[st8,ld8,AO,Xy,Za,Qa,Qb,Qc,Qd,Qe,Qf,Qg,Qh,Qi,Qj,Qk,Ql,Qm,Qn,true_and,and_true,Qo,Qp,Qq,Qr,Qs,Qt,Qu,Qv,Qw,Qx,Qy,Qz,Ra,Rb,Rc,Rd,Re,Rf,Rg,Rh,Ri,Rj,Rk,Rm,Rn,Ro,Rp,Rq,Rt,Ya,Yb,Yc,Ru,Rw,Zb,Yd,Ye,Ry,Rz,Wa,Wb,Wc,Wd,We]
    exact hk8
end
inductive GK:List (Rat×List Int×List Rat)→Rat→List CD→Rat→List CD→Prop
 | nil (c:Rat) (T:List CD):GK [] c T c T
 | cons {C:Rat} {vs:List Int} {cs:List Rat} {L:List (Rat×List Int×List Rat)} {c c':Rat} {T T1 T':List CD} (h:Ev 1 vs cs T T1) (hs:GK L (c+C) T1 c' T'):GK ((C,vs,cs)::L) c T c' T'
section
variable{E:CR}{s:AE}
theorem UE(hE:DP E){s0:AE}{b p mi ri kl M k0:Nat}{rows:List AV}{L:List (Rat×List Int×List Rat)}(hri:ri<s0.next)(hrow:s0.heap.get ri=some (R 30 5 false rows))(hrl:rows.length=L.length * 5)
    (hel:∀ (i:Nat) (l:Rat×List Int×List Rat),L[i]? = some l→LI s0 (.agg ((rows.drop (i * 5)).take 5)) l.1 l.2.1 l.2.2 kl∧min l.2.2.length l.2.1.length≤M) (hkl:1≤kl) (hk0:1≤k0) (hp:s0.next≤p) (hmi:s0.next≤mi) (hb0:b≤p) (hb:2 * (k0+(L.length+1) * ((M+2) * (kl+2)))+1≤1000000)
    {c0:Rat} {T0:List CD} {Q:Ax→Prop} {y0 y1:AV}
    (hq:∀ (S:AE) (c':Rat) (T':List CD) (x':Bool) (a' d':Option (Nat×Nat)) (n' m':Nat) (cc' e':Option Nat) (y3 y6 y7:AV),Ae s0.next s0 S→p<S.next→S.heap.get p=some (BP x' (.slice a' n' cc') (.slice d' m' e') mi)→EO b S (.agg [.bool x',.slice a' n' cc',.slice d' m' e']) mi c' T' (k0+L.length * ((M+2) * (kl+2)))→GK L c0 T0 c' T'→(∀j,s0.next≤j→j<p→j≠mi→S.heap.get j=S.heap.get j) →
      Q ⟨.exit 0,[y0,y1,.ptr (some (p,0)),y3,.slice (some (ri,0)) L.length (some L.length),iv (L.length:Int),y6,y7],[],S⟩):
    ∀ (r : List (Rat × List Int × List Rat)) (i : Nat) (S : AE)  (c : Rat) (T : List CD)  (x : Bool) (a d : Option (Nat × Nat)) (n m : Nat) (cc e : Option Nat) (x3 x7 : AV), L.drop i = r → i ≤ L.length → Ae  s0.next s0 S → p < S.next → S.heap.get p = some (BP x (.slice a n cc) (.slice d m e) mi) → EO   b S (.agg [.bool x, .slice a n cc, .slice d m e]) mi c T (k0 + i * ((M + 2) * (kl + 2))) → (∀ c' T', GK     r c T c' T' → GK     L c0 T0 c' T') →
      (∀ (z:Nat) (o:BC),s0.next≤z→z<p→z≠mi→S.heap.get z=some o→True) →
      WC E none (.loop On) Q [y0,y1,.ptr (some (p,0)),x3,.slice (some (ri,0)) L.length (some L.length),iv (L.length:Int),iv (i:Int),x7] [] S:=by
  have hMk:(M+1) * (kl+2)+(kl+2)=(M+2) * (kl+2):=(rK _ _).symm
  have hLL:(L.length+1) * ((M+2) * (kl+2))=L.length * ((M+2) * (kl+2))+(M+2) * (kl+2):=rK _ _
  have hLb:L.length+1≤(L.length+1) * ((M+2) * (kl+2)):=sU _ (sW (by omega) (by omega))
  intro r
  induction r with
  | nil =>
    intro i S c T x a d n m cc e x3 x7 hd hi ho hpS g hP hA _
    have e:i=L.length:=by
      have:=congrArg List.length hd
      simp at this
      omega
    subst e
    have dd:decide ((L.length:Int)<(L.length:Int))=false:=decide_eq_false (by omega)
    refine WC.loop' ?_
    simp only[On,XE,Ry,dd,Qa,Qb,Qc,Qd,Qe,Qf,Qg,Qh,Qi,Qj,Qk,Ql,Qm,Qn,true_and,and_true,Qo,Qp,Qq,Qr,Qs,Qt,Qu,Qv,Qw,Qx,Qy,Qz,Ra,Rb,Rc,Rd,Re,Rf,Rg,Rh,Ri,Rj,Rk,Rm,Rn,Ro,Rp,Rq,Rt,Ya,Yb,Yc,Ru,Rw,Zb,Yd,Ye,Ry,Rz,Wa,Wb,Wc,Wd,We]
    exact hq S c T _ _ _ _ _ _ _ _ _ _ ho hpS g hP (hA c T (.nil c T)) (fun _ _ _ _=>rfl)
  | cons l r ih =>
    intro i S c T x a d n m cc e x3 x7 hd hi ho hpS g hP hA _
    obtain⟨C,vs,cs⟩:=l
    have hlt:i<L.length:=by
      rcases qz i L.length with h' | h'
      · exact h'
      · rw[rl h']at hd;cases hd
    have hl:L[i]? = some (C,vs,cs):=by
      have:=congrArg (fun l=>l[0]?) hd
      simpa using this
    have hd':L.drop (i+1)=r:=by
      have:=congrArg (List.drop 1) hd
      simpa[sR]using this
    obtain⟨hLI,hm⟩:=hel i _ hl
    simp only at hLI hm
    have dd:decide ((i:Int)<(L.length:Int))=true:=decide_eq_true (by omega)
    have ix:=Ah (cap:=some L.length) (i:=ri) (o:=0) (n:=5) Tryz.underlying46 Bp hlt
    have hle:(i+1) * 5≤L.length * 5:=rF _ hlt
    have ld:AA Tryz.prog S 30 (.ptr (some (ri,0+i * 5)))=some (.agg ((rows.drop (i * 5)).take 5)):=by
      rw[rE]
      exact Ag (o:=i * 5) (n:=5) B6 Bp ((ho.2 ri hri).trans hrow) (by omega)
    obtain⟨x1,a1,n1,c1,b1,m1,d1,av,nv,cv,ac,nc,cc1,hsh⟩:=hLI.shape
    generalize (rows.drop (i * 5)).take 5=rw5 at *
    injection hsh with hsh
    subst hsh
    obtain⟨n2,o2,g2⟩:=Bl S ZL
    have e17:=BU Tryz.prog 3 (i:Int) 1 ⟨by omega,by omega⟩
    have e17':((i:Int)+1)=((i+1:Nat):Int):=by omega
    obtain⟨st,lb⟩:=CF (cs0:=[.bool false,.slice none 0 (some 0),.slice none 0 (some 0),.slice none 0 (some 0),.slice none 0 (some 0)]) rfl (x:=x1) (a:=a1) (n:=n1) (c:=c1) (b:=b1) (m:=m1) (d:=d1) (av:=av) (nv:=nv) (cv:=cv) (ac:=ac) (nc:=nc) (cc:=cc1) g2
    refine WC.loop' ?_
    generalize hW:WC E none (Ad.loop On) Q=WW
    simp only[On,XE,eP,eQ,Ry,dd,ix,ld,Dm,Xc,st,lb,Xy,Za,Qa,Qb,Qc,Qd,Qe,Qf,Qg,Qh,Qi,Qj,Qk,Ql,Qm,Qn,true_and,and_true,Qo,Qp,Qq,Qr,Qs,Qt,Qu,Qv,Qw,Qx,Qy,Qz,Ra,Rb,Rc,Rd,Re,Rf,Rg,Rh,Ri,Rj,Rk,Rm,Rn,Ro,Rp,Rq,Rt,Ya,Yb,Yc,Ru,Rw,Zb,Yd,Ye,Ry,Rz,Wa,Wb,Wc,Wd,We]
    generalize hs3:setObj (newObj S ZL) S.next (BL x1 (.slice a1 n1 c1) (.slice b1 m1 d1) (.slice av nv cv) (.slice ac nc cc1))=s3
    have o3:Ae S.next S s3:=by rw[← hs3];exact o2.set (qw _) _
    have n3:s3.next=S.next+1:=by rw[← hs3];exact n2
    have g3:s3.heap.get S.next=some (BL x1 (.slice a1 n1 c1) (.slice b1 m1 d1) (.slice av nv cv) (.slice ac nc cc1)):=by rw[← hs3,Ww]
    refine FZ hE.toGoodN (n:=1) (.inr (.inl rfl)) fun s4 v4 o4 r4=>?_
    have h4:=o4.1
    refine⟨⟨Ak (by simp only[Qa,Qb,Qc,Qd,Qe,Qf,Qg,Qh,Qi,Qj,Qk,Ql,Qm,Qn,true_and,and_true,Qo,Qp,Qq,Qr,Qs,Qt,Qu,Qv,Qw,Qx,Qy,Qz,Ra,Rb,Rc,Rd,Re,Rf,Rg,Rh,Ri,Rj,Rk,Rm,Rn,Ro,Rp,Rq,Rt,Ya,Yb,Yc,Ru,Rw,Zb,Yd,Ye,Ry,Rz,Wa,Wb,Wc,Wd,We];exact AG B6 Bp ((o4.2 S.next (by omega)).trans g3) rfl) (Cd ..),trivial⟩,?_⟩
    simp only[Qa,Qb,Qc,Qd,Qe,Qf,Qg,Qh,Qi,Qj,Qk,Ql,Qm,Qn,true_and,and_true,Qo,Qp,Qq,Qr,Qs,Qt,Qu,Qv,Qw,Qx,Qy,Qz,Ra,Rb,Rc,Rd,Re,Rf,Rg,Rh,Ri,Rj,Rk,Rm,Rn,Ro,Rp,Rq,Rt,Ya,Yb,Yc,Ru,Rw,Zb,Yd,Ye,Ry,Rz,Wa,Wb,Wc,Wd,We]
    have o34:Ae S.next S s4:=o3.trans (o4.mono o3.1)
    have o04:=ho.trans (o34.mono ho.1)
    have hP4:=hP.old o34
    have g4:=(o34.2 p hpS).trans g
    have hone:QH ((1:Int):Rat) 1:=⟨by decide,by decide⟩
    have hMm:(min cs.length vs.length+2) * (kl+2)≤(M+2) * (kl+2):=rF _ (by omega)
    have hMm1:(min cs.length vs.length+1) * (kl+2)≤(M+2) * (kl+2):=rF _ (by omega)
    have hiL:(i+1) * ((M+2) * (kl+2))≤L.length * ((M+2) * (kl+2)):=rF _ hlt
    have hi1:(i+1) * ((M+2) * (kl+2))=i * ((M+2) * (kl+2))+(M+2) * (kl+2):=rK _ _
    have hs0:=o04.1
    refine H8 hE.toGoodN (b:=b) (p:=p) (kl:=kl) (ko:=1) (k:=k0+i * ((M+2) * (kl+2))) g4 (by omega) (by omega) hP4 (fun S' f=>hLI.old (o04.trans (f.old (by omega) (by omega) (by omega)))) (fun S' f=>(r4.fx g4 (by decide) hP4.map.obj f).qi hone) (by omega) hkl (by omega) (by show 2 * (k0+i * ((M+2) * (kl+2))+(min cs.length vs.length+2) * (kl+2))+1≤1000000000;omega) fun rr s6 x' a' n' c'' d' m' e' T' f6 g6 hP6 hT=>?_
    simp only[eR,e17,e17',Qa,Qb,Qc,Qd,Qe,Qf,Qg,Qh,Qi,Qj,Qk,Ql,Qm,Qn,true_and,and_true,Qo,Qp,Qq,Qr,Qs,Qt,Qu,Qv,Qw,Qx,Qy,Qz,Ra,Rb,Rc,Rd,Re,Rf,Rg,Rh,Ri,Rj,Rk,Rm,Rn,Ro,Rp,Rq,Rt,Ya,Yb,Yc,Ru,Rw,Zb,Yd,Ye,Ry,Rz,Wa,Wb,Wc,Wd,We]
    rw[← hW]
    have e1:c+C * ((1:Int):Rat)=c+C:=by rw[show((1:Int):Rat)=1 from rfl,Rat.mul_one]
    rw[e1]at hP6
    have h6:=f6.1
    refine ih (i+1) s6 _ T' x' a' d' n' m' c'' e' _ _ hd' hlt (o04.trans (f6.old (by omega) (by omega) (by omega))) (by omega) g6 (hP6.le ?_) (fun c' T'' h=>hA c' T'' (.cons hT h)) (fun _ _ _ _ _ _=>trivial)
    show k0+i * ((M+2) * (kl+2))+(min cs.length vs.length+1) * (kl+2)≤_
    omega
theorem aT      (hE : DP    E) {ri kl M : Nat} {rows : List AV} {L : List (Rat × List Int × List Rat)} (hri : ri < s.next) (hrow : s.heap.get ri = some (R 30 5 false rows)) (hrl : rows.length = L.length * 5)
    (hel:∀ (i:Nat) (l:Rat×List Int×List Rat),L[i]? = some l→LI s (.agg ((rows.drop (i * 5)).take 5)) l.1 l.2.1 l.2.2 kl∧min l.2.2.length l.2.1.length≤M) (hkl:1≤kl) (hb:2 * (1+(L.length+1) * ((M+2) * (kl+2)))+1≤1000000) {K:AV→AE→Prop}
    (hK:∀s' w c T,Ae s.next s s'→LR s.next s' w c (Ba T)→GK L 0 [] c T→QH c (1+L.length * ((M+2) * (kl+2)))→(∀t∈T,QH t.2.1 (1+L.length * ((M+2) * (kl+2))))→(BE T).Nodup→T.length≤1000000→K w s'):WF E 20 [.slice (some (ri,0)) L.length (some L.length)] K s:=by
  have hLL:(L.length+1) * ((M+2) * (kl+2))=L.length * ((M+2) * (kl+2))+(M+2) * (kl+2):=rK _ _
  refine hE.go kX (by decide) rfl ?_
  obtain⟨n1,o1,g1⟩:=Bl s ZL
  simp only[qB,eM,eN,Dm,Xc,Qa,Qb,Qc,Qd,Qe,Qf,Qg,Qh,Qi,Qj,Qk,Ql,Qm,Qn,true_and,and_true,Qo,Qp,Qq,Qr,Qs,Qt,Qu,Qv,Qw,Qx,Qy,Qz,Ra,Rb,Rc,Rd,Re,Rf,Rg,Rh,Ri,Rj,Rk,Rm,Rn,Ro,Rp,Rq,Rt,Ya,Yb,Yc,Ru,Rw,Zb,Yd,Ye,Ry,Rz,Wa,Wb,Wc,Wd,We]
  generalize newObj s ZL=s1 at *
  refine K4 hE.toGoodN fun s2 v2 mi o2 r2=>?_
  have h2:=o2.1
  obtain⟨x,a,n,ca,d,m,cd,rfl,hP⟩:=r2
  obtain⟨n4,o3,g4⟩:=Bl s2 ZP
  have st:=Ey (cs0:=[.bool false,.slice none 0 (some 0),.slice none 0 (some 0),.map none]) rfl (x:=x) (a:=a) (n:=n) (c:=ca) (b:=d) (m:=m) (d:=cd) (mi:=mi) g4
  simp only[eO,DQ,Xc,st,AN Tryz.underlying46,Xy,Za,Qa,Qb,Qc,Qd,Qe,Qf,Qg,Qh,Qi,Qj,Qk,Ql,Qm,Qn,true_and,and_true,Qo,Qp,Qq,Qr,Qs,Qt,Qu,Qv,Qw,Qx,Qy,Qz,Ra,Rb,Rc,Rd,Re,Rf,Rg,Rh,Ri,Rj,Rk,Rm,Rn,Ro,Rp,Rq,Rt,Ya,Yb,Yc,Ru,Rw,Zb,Yd,Ye,Ry,Rz,Wa,Wb,Wc,Wd,We]
  generalize hs4:setObj (newObj s2 ZP) s2.next (BP x (.slice a n ca) (.slice d m cd) mi)=s4
  have o24:Ae s2.next s2 s4:=by rw[← hs4];exact o3.set (qw _) _
  have n5:s4.next=s2.next+1:=by rw[← hs4];exact n4
  have k4:s4.heap.get s2.next=some (BP x (.slice a n ca) (.slice d m cd) mi):=by rw[← hs4,Ww]
  have o12:=o1.trans (o2.mono o1.1)
  have hmlo:=hP.map.lo
  have o14:Ae s1.next s1 s4:=o2.trans (o24.mono h2)
  refine UE hE (s0:=s1) (b:=s1.next) (p:=s2.next) (mi:=mi) (kl:=kl) (M:=M) (k0:=1) (by omega) ((o1.2 ri hri).trans hrow) hrl (fun i l hl=>⟨(hel i l hl).1.old o1,(hel i l hl).2⟩) hkl (by omega) h2 hmlo h2 hb (c0:=0) (T0:=[])
    (fun S c' T' x' a' d' n' m' cc' e' y3 y6 y7 hoS hpS gS hPS hA _=>?_) L 0 s4 0 [] x a d n m ca cd _ _ rfl (rB _) o14 (by omega) k4 (by rw[sN,rO];exact hP.old o24) (fun c' T' h=>h) (fun _ _ _ _ _ _=>trivial)
  have lS:=AG (P:=Tryz.prog) (t:=56) H9 GI gS rfl
  have hTb:T'.length≤L.length * M:=by
    have:∀ {L:List (Rat×List Int×List Rat)} {c c':Rat} {T T':List CD},GK L c T c' T'→(∀l∈L,min l.2.2.length l.2.1.length≤M)→T'.length≤T.length+L.length * M:=by
      intro L c c' T T' h
      induction h with
      | nil c T=>intro _;omega
      | @cons C vs cs L c c' T T1 T' h hs ih =>
        intro hl
        have h1:=h.len
        have h2:=hl _ rH
        have h3:=ih fun l hl'=>hl l (rP _ hl')
        simp only at h2
        rw[rn,rK]
        omega
    have:=this hA (fun l hl=>by
      obtain⟨i,hi⟩:=List.getElem?_of_mem hl
      exact(hel i l hi).2)
    simpa using this
  have hLM:L.length * M≤L.length * ((M+2) * (kl+2)):=rf _ (rD (by omega:M≤M+2) (sU _ (by omega)))
  simp only[eS,lS,if_true,Qa,Qb,Qc,Qd,Qe,Qf,Qg,Qh,Qi,Qj,Qk,Ql,Qm,Qn,true_and,and_true,Qo,Qp,Qq,Qr,Qs,Qt,Qu,Qv,Qw,Qx,Qy,Qz,Ra,Rb,Rc,Rd,Re,Rf,Rg,Rh,Ri,Rj,Rk,Rm,Rn,Ro,Rp,Rq,Rt,Ya,Yb,Yc,Ru,Rw,Zb,Yd,Ye,Ry,Rz,Wa,Wb,Wc,Wd,We]
  refine I9 hE (b:=s1.next) ⟨_,_,_,_,_,_,_,rfl,hPS⟩ hoS.1 (by omega) (by omega) fun s7 w o7 r7=>?_
  obtain⟨x7,a7,n7,c7,b7,m7,d7,av7,nv7,cv7,ac7,nc7,cc7,rfl⟩:=r7.shape
  have g7:s7.heap.get s.next=some ZL:=by rw[o7.2 _ (by have:=hoS.1;omega),hoS.2 _ (by omega)];exact g1
  have o17:Ae s.next s s7:=o1.trans ((hoS.trans (o7.mono hoS.1)).mono o1.1)
  obtain⟨st8,ld8⟩:=CF (cs0:=[.bool false,.slice none 0 (some 0),.slice none 0 (some 0),.slice none 0 (some 0),.slice none 0 (some 0)]) rfl (x:=x7) (a:=a7) (n:=n7) (c:=c7) (b:=b7) (m:=m7) (d:=d7) (av:=av7) (nv:=nv7) (cv:=cv7) (ac:=ac7) (nc:=nc7) (cc:=cc7) g7
  simp only[st8,ld8,AO,Xy,Za,Qa,Qb,Qc,Qd,Qe,Qf,Qg,Qh,Qi,Qj,Qk,Ql,Qm,Qn,true_and,and_true,Qo,Qp,Qq,Qr,Qs,Qt,Qu,Qv,Qw,Qx,Qy,Qz,Ra,Rb,Rc,Rd,Re,Rf,Rg,Rh,Ri,Rj,Rk,Rm,Rn,Ro,Rp,Rq,Rt,Ya,Yb,Yc,Ru,Rw,Zb,Yd,Ye,Ry,Rz,Wa,Wb,Wc,Wd,We]
  exact hK _ _ c' T' (o17.set (qw _) _) ((r7.set (by omega) _).mono (by omega)) hA hPS.ch (fun t ht=>(hPS.map.ent t ht).2.1) hPS.map.nd (by omega)
end
def HJ(n:Int):List Int→Nat→Int
 | [],_=>-1
 | x::l,i=>if n=x then (i:Int)else HJ n l (i+1)
def Jw(vars:List Int)(Qh:List Rat)(n:Int):Rat:=if 0≤HJ n vars 0∧HJ n vars 0<Qh.length then Qh.getD (HJ n vars 0).toNat 0 else 0
def Jy(a:Int→Rat):List (Int×Rat)→Rat
 | []=>0
 | p::L=>p.2 * a p.1+Jy a L
theorem Kp(a:Int→Rat):∀L M:List (Int×Rat),Jy a (L++M)=Jy a L+Jy a M
 | [],M=>(Rat.zero_add _).symm
 | p::L,M=>by show p.2 * a p.1+Jy a (L++M)=p.2 * a p.1+Jy a L+Jy a M;rw[Kp a L M,Rat.add_assoc]
theorem Yq(a:Int→Rat){L M:List (Int×Rat)}(h:L.Perm M):Jy a L=Jy a M:=by
 induction h with
 | nil=>rfl
 | cons p h ih=>show _+_=_+_;rw[ih]
 | swap p q L=>show _+(_+_)=_+(_+_);exact Rat.add_left_comm ..
 | trans h1 h2 ih1 ih2=>exact ih1.trans ih2
theorem Hf(a:Int→Rat):∀L:List (Int×Rat),Jy a (L.filter fun p=>decide (p.2≠0))=Jy a L
 | []=>rfl
 | p::L=>by
  by_cases h:p.2=0
  ·rw[List.filter_cons_of_neg (by simp[h]),Hf a L]
   show _=p.2 * a p.1+Jy a L
   rw[h,Rat.zero_mul,Rat.zero_add]
  ·rw[List.filter_cons_of_pos (by simp[h])]
   show p.2 * a p.1+_=p.2 * a p.1+_
   rw[Hf a L]
theorem PL(a:Int→Rat):∀ {T:List CD},(BE T).Nodup→Jy a ((BE T).map fun n=>(n,CB n T))=PM a T
 | [],_=>rfl
 | t::T,h=>by
  obtain⟨h1,h2⟩:=List.nodup_cons.1 (show(t.1::BE T).Nodup from h)
  have e:(BE T).map (fun n=>(n,CB n (t::T)))=(BE T).map fun n=>(n,CB n T):=by
   refine List.map_congr_left fun n hn=>?_
   rw[JO,if_neg (fun(e:n=t.1)=>h1 (e▸hn))]
  show Jy a ((t.1,CB t.1 (t::T))::(BE T).map fun n=>(n,CB n (t::T)))=_
  rw[e]
  show CB t.1 (t::T) * a t.1+Jy a ((BE T).map fun n=>(n,CB n T))=t.2.1 * a t.1+PM a T
  rw[PL a h2,JO,if_pos rfl]
theorem bk(a:Int→Rat){T:List CD}(h:(BE T).Nodup):Jy a (Ba T)=PM a T:=by
 unfold Ba Nd
 rw[Hf,Yq a ((DY (BE T)).map _),PL a h]
theorem Nf{T:List CD}{k:Nat}(hk:1≤k)(h:∀t∈T,QH t.2.1 k):∀p∈Ba T,QH p.2 k:=fun p hp=>by
 unfold Ba Nd at hp
 obtain⟨h1,_⟩:=List.mem_filter.1 hp
 obtain⟨n,_,rfl⟩:=List.mem_map.1 h1
 show QH (CB n T) k
 unfold CB
 cases hg:Dp n T with
 | none=>exact oe.le hk
 | some q=>exact h _ (E1 hg)
theorem IG(T:List CD):(Ba T).length≤T.length:=by
 unfold Ba Nd
 refine rD (List.length_filter_le _ _) ?_
 rw[sO,G2];simp[BE]
section
variable{E:CR}{s:AE}
theorem Y1       (hE : GoodN E) {a : Option (Nat × Nat)} {cap : Option Nat} {vs : List Int} {n : Int} (hc : AZ      s.next s a (vs.map iv)) (hl : vs.length ≤ 1000000000) {K : AV → AE  → Prop} (hK : K (iv (HJ   n vs 0)) s) : WF E 42 [.slice a vs.length cap, iv n] K s := by
  refine hE.go lD (by decide) rfl ?_
  simp only[qP,fv,fy,AN Tryz.underlying27,Qa,Qb,Qc,Qd,Qe,Qf,Qg,Qh,Qi,Qj,Qk,Ql,Qm,Qn,true_and,and_true,Qo,Qp,Qq,Qr,Qs,Qt,Qu,Qv,Qw,Qx,Qy,Qz,Ra,Rb,Rc,Rd,Re,Rf,Rg,Rh,Ri,Rj,Rk,Rm,Rn,Ro,Rp,Rq,Rt,Ya,Yb,Yc,Ru,Rw,Zb,Yd,Ye,Ry,Rz,Wa,Wb,Wc,Wd,We]
  have key:∀ (r:List Int) (i:Nat) (x3 x6 x7:AV),vs.drop i=r→i≤vs.length→HJ n vs 0=HJ n r i→WC E none (.loop MJ) (Ec 0 (Jz (fun x x_1 x_2=>Qb E XO (fun v s'=>Po (Db s' x_1) fun s'=>Po (Bt Tryz.prog s' v [(CX.var 2,none)]) fun l=>K (Bh l) s') [] x x_2) (Ends Tryz.prog [(CX.var 2,none)] K)))
      [.slice a vs.length cap,iv n,.int .i64 0,x3,iv (vs.length:Int),iv (i:Int),x6,x7] [] s:=by
    intro r
    induction r with
    | nil =>
      intro i x3 x6 x7 hd hi hp
      have e:i=vs.length:=by
        have:=congrArg List.length hd
        simp at this
        omega
      subst e
      have dd:decide ((vs.length:Int)<(vs.length:Int))=false:=decide_eq_false (by omega)
      refine WC.loop' ?_
      simp only[MJ,TD,Ry,dd,if_true,XO,Qa,Qb,Qc,Qd,Qe,Qf,Qg,Qh,Qi,Qj,Qk,Ql,Qm,Qn,true_and,and_true,Qo,Qp,Qq,Qr,Qs,Qt,Qu,Qv,Qw,Qx,Qy,Qz,Ra,Rb,Rc,Rd,Re,Rf,Rg,Rh,Ri,Rj,Rk,Rm,Rn,Ro,Rp,Rq,Rt,Ya,Yb,Yc,Ru,Rw,Zb,Yd,Ye,Ry,Rz,Wa,Wb,Wc,Wd,We]
      rw[hp]at hK
      exact hK
    | cons x r ih =>
      intro i x3 x6 x7 hd hi hp
      have hlt:i<vs.length:=by
        rcases qz i vs.length with h' | h'
        · exact h'
        · rw[rl h']at hd;cases hd
      have hx:vs[i]? = some x:=by
        have:=congrArg (fun l=>l[0]?) hd
        simpa using this
      have hd':vs.drop (i+1)=r:=by
        have:=congrArg (List.drop 1) hd
        simpa[sR]using this
      have dd:decide ((i:Int)<(vs.length:Int))=true:=decide_eq_true (by omega)
      obtain⟨i0,o0,rfl,_,ld⟩:=FT hc hx
      have ix:=Ah (cap:=cap) (i:=i0) (o:=o0) Tryz.underlying27 Z9 hlt
      have e17:=BU Tryz.prog 3 (i:Int) 1 ⟨by omega,by omega⟩
      have e17':((i:Int)+1)=((i+1:Nat):Int):=by omega
      refine WC.loop' ?_
      generalize hW:WC E none (Ad.loop MJ) _=WW
      by_cases h:n=x
      · have de : decide (n = x) = true := decide_eq_true h
        have hp':HJ n vs 0=(i:Int):=by rw[hp];exact if_pos h
        rw[hp']at hK
        simp only[MJ,TD,XM,XN,fz,Ry,Wc,dd,ix,ld,de,Qa,Qb,Qc,Qd,Qe,Qf,Qg,Qh,Qi,Qj,Qk,Ql,Qm,Qn,true_and,and_true,Qo,Qp,Qq,Qr,Qs,Qt,Qu,Qv,Qw,Qx,Qy,Qz,Ra,Rb,Rc,Rd,Re,Rf,Rg,Rh,Ri,Rj,Rk,Rm,Rn,Ro,Rp,Rq,Rt,Ya,Yb,Yc,Ru,Rw,Zb,Yd,Ye,Ry,Rz,Wa,Wb,Wc,Wd,We]
        exact hK
      · have de:decide (n=x)=false:=decide_eq_false h
        simp only[MJ,TD,XM,XN,gC,Ry,Wc,dd,ix,ld,de,e17,e17',Qa,Qb,Qc,Qd,Qe,Qf,Qg,Qh,Qi,Qj,Qk,Ql,Qm,Qn,true_and,and_true,Qo,Qp,Qq,Qr,Qs,Qt,Qu,Qv,Qw,Qx,Qy,Qz,Ra,Rb,Rc,Rd,Re,Rf,Rg,Rh,Ri,Rj,Rk,Rm,Rn,Ro,Rp,Rq,Rt,Ya,Yb,Yc,Ru,Rw,Zb,Yd,Ye,Ry,Rz,Wa,Wb,Wc,Wd,We]
        rw[← hW]
        exact ih (i+1) _ _ _ hd' hlt (by rw[hp];exact if_neg h)
  exact key vs 0 _ _ _ rfl (rB _) rfl
end
def Ft (v0 v1 v2:AV) (b3 b7 b8:Nat) (x9 x10 x11 fn x13 x14 x15:AV) (mk:Nat):C0:=
 Fv 13 [v0,v1,v2,.ptr (some (b3,0)),.ptr (some (b3+1,0)),.ptr (some (b3+1+1,0)),.ptr (some (b3+1+1+1,0)),.ptr (some (b7,0)),.ptr (some (b8,0)),x9,x10,x11,fn,x13,x14,x15] #[18,19] V0 V1 mk
structure mt(lo:C0)(b8 l k kr b:Nat)(C:Rat)(a:Int→Rat)(done:List (Int×Rat))(O:List Nat)(S:AE):Prop where
 lp:A8 S l=some lo
 ll:l<S.next
 o:O=[b8,l]
 ex:∃x a1 n1 c1 b1 m1 d1,S.heap.get b8=some (BQ x (.slice a1 n1 c1) (.slice b1 m1 d1))∧QR b S (.agg [.bool x,.slice a1 n1 c1,.slice b1 m1 d1]) (C+Jy a done)∧QH (C+Jy a done) (k+done.length * kr)
theorem mt.stab{lo:C0}{b8 l k kr b:Nat}{C:Rat}{a:Int→Rat}{done:List (Int×Rat)}{O:List Nat}{S S':AE}(h:mt lo b8 l k kr b C a done O S)(hb:b8<l)(o:Ae S.next S S'):mt lo b8 l k kr b C a done O S':=by
 obtain⟨h1,h2,h3,x,a1,n1,c1,b1,m1,d1,g,q,e⟩:=h
 exact⟨(Cf (o.2 l h2)).trans h1,rA h2 o.1,h3,x,a1,n1,c1,b1,m1,d1,(o.2 b8 (by omega)).trans g,q.old o,e⟩
section
variable{E:CR}
theorem VH       (hE : GoodN E) {v0 v1 v2 x9 x10 x11 fn x13 x14 x15 : AV} {b3 b7 b8 mk l k kv b : Nat} {C : Rat} {vars : List Int} {wals : List Rat} {av ac : Option (Nat × Nat)} {cv cc : Option Nat} {cells : List AV} {sA : AE}
    (g4:sA.heap.get (b3+1)=some (R 27 0 false [.slice av vars.length cv])) (g5:sA.heap.get (b3+1+1)=some (R 28 0 false [.slice ac wals.length cc])) (h5:b3+2<sA.next) (hcv:AZ sA.next sA av (vars.map iv)) (hrat:Dw sA ac wals kv cells) (hvl:vars.length≤1000000000)
    (hbA:b≤sA.next) (hb8:sA.next≤b8) (hbl:b8<l) (hk1:1≤k) (hkv:1≤kv) {n:Int} {q:Rat} {vq:AV} {done:List (Int×Rat)} {O:List Nat} {S:AE} {M:Nat} (hdl:done.length<M) (hM:2 * (k+(M+1) * (k+kv+1))+1≤1000000000)
    (hI:mt (Ft v0 v1 v2 b3 b7 b8 x9 x10 x11 fn x13 x14 x15 mk) b8 l k (k+kv+1) b C (Jw vars wals) done O S) (hoS:Ae sA.next sA S) (hq:QR 0 S vq q) (hqh:QH q k) {K:AV→AE→Prop}
    (hK:∀S' O',mt (Ft v0 v1 v2 b3 b7 b8 x9 x10 x11 fn x13 x14 x15 mk) b8 l k (k+kv+1) b C (Jw vars wals) (done++[(n,q)]) O' S'→S.next≤S'.next→(∀j,j<S.next→j ∉ O→S'.heap.get j=S.heap.get j)→(∀j∈O',j∈O∨S.next≤j)→K (.bool true) S'):WR E l [iv n,vq] K S:=by
  obtain⟨hlp,hll,hO,x1,a1,n1,c1,b1,m1,d1,g8,q8,h8⟩:=hI
  obtain⟨xx,aa,nn,kk,bb,mm,ee,rfl⟩:=hq.shape
  have hdM:done.length * (k+kv+1)≤M * (k+kv+1):=rF _ (by omega)
  have HI:(done.length+1) * (k+kv+1)=done.length * (k+kv+1)+(k+kv+1):=rK _ _
  have hM1:(M+1) * (k+kv+1)=M * (k+kv+1)+(k+kv+1):=rK _ _
  have hev:C+Jy (Jw vars wals) (done++[(n,q)])=C+Jy (Jw vars wals) done+q * Jw vars wals n:=by
    rw[Kp]
    show C+(Jy (Jw vars wals) done+(q * Jw vars wals n+0))=_
    rw[Rat.add_zero,Rat.add_assoc]
  have hdl1:(done++[(n,q)]).length=done.length+1:=by simp
  have hz:Ct (Cz E.P 13) (Ft v0 v1 v2 b3 b7 b8 x9 x10 x11 fn x13 x14 x15 mk).var [18,19] [iv n,.agg [.bool xx,.slice aa nn kk,.slice bb mm ee]]=some [v0,v1,v2,.ptr (some (b3,0)),.ptr (some (b3+1,0)),.ptr (some (b3+1+1,0)),.ptr (some (b3+1+1+1,0)),.ptr (some (b7,0)),.ptr (some (b8,0)),x9,x10,x11,fn,iv n,.agg [.bool xx,.slice aa nn kk,.slice bb mm ee],x15]:=by
    rw[hE.P,V5];rfl
  refine WR.round hlp hz (by rw[hE.P];exact kG) (by rw[hE.P];exact kH) ?_
  refine DV ?_
  obtain⟨n2,o2,g2⟩:=Bl S ZQ
  have st:=Ai (P:=Tryz.prog) (t:=26) (cs:=[.bool xx,.slice aa nn kk,.slice bb mm ee]) Ar g2 rfl rfl rfl (by simp)
  simp only[V3,dc,df,Bb,Xc,st,Xy,Za,Qa,Qb,Qc,Qd,Qe,Qf,Qg,Qh,Qi,Qj,Qk,Ql,Qm,Qn,true_and,and_true,Qo,Qp,Qq,Qr,Qs,Qt,Qu,Qv,Qw,Qx,Qy,Qz,Ra,Rb,Rc,Rd,Re,Rf,Rg,Rh,Ri,Rj,Rk,Rm,Rn,Ro,Rp,Rq,Rt,Ya,Yb,Yc,Ru,Rw,Zb,Yd,Ye,Ry,Rz,Wa,Wb,Wc,Wd,We]
  generalize hs2:setObj (newObj S ZQ) S.next (R 26 0 false [.bool xx,.slice aa nn kk,.slice bb mm ee])=s2 at *
  have os2:Ae S.next S s2:=by rw[← hs2];exact o2.set (qw _) _
  have n3:s2.next=S.next+1:=by rw[← hs2];exact n2
  have g3:s2.heap.get S.next=some (BQ xx (.slice aa nn kk) (.slice bb mm ee)):=by rw[← hs2,Ww]
  refine⟨_,(Cf (os2.2 l hll)).trans hlp,rfl,DV ?_⟩
  generalize hs4:setObj s2 l _=s4
  have n4:s4.next=s2.next:=by rw[← hs4];rfl
  have f4:∀j,j≠l→s4.heap.get j=s2.heap.get j:=fun j hj=>by rw[← hs4,Wx _ hj]
  have l4:A8 s4 l=some { Ft v0 v1 v2 b3 b7 b8 x9 x10 x11 fn x13 x14 x15 mk with state:=.busy }:=by rw[← hs4,CK]
  have hSl:l<S.next:=hll
  have hSn:=hoS.1
  have o4:Ae sA.next sA s4:=⟨by omega,fun j hj=>by rw[f4 j (by omega),os2.2 j (by omega),hoS.2 j hj]⟩
  have gb4:=(o4.2 (b3+1) (by omega)).trans g4
  have gb5:=(o4.2 (b3+1+1) (by omega)).trans g5
  have gb8:s4.heap.get b8=some (BQ x1 (.slice a1 n1 c1) (.slice b1 m1 d1)):=by rw[f4 b8 (by omega),os2.2 b8 (by omega)];exact g8
  have gc:s4.heap.get S.next=some (BQ xx (.slice aa nn kk) (.slice bb mm ee)):=by rw[f4 _ (by omega)];exact g3
  have lv:=AI (P:=Tryz.prog) (t:=27) (o:=0) Ix gb4 rfl
  have lw:=AI (P:=Tryz.prog) (t:=28) (o:=0) GG gb5 rfl
  have hcv4:=(hcv.old o4 (qw _)).mono o4.1
  have hnl:∀ {j},OX S j→j≠l:=fun hj=>by
    rintro rfl
    obtain⟨r,h1,_⟩:=hj
    have:=CV hlp
    rw[this]at h1;cases h1
  have hq4:QR 0 s4 (.agg [.bool xx,.slice aa nn kk,.slice bb mm ee]) q:=hq.keepS (by omega) fun j hj hu=>by rw[f4 j (hnl hu),os2.2 j hj]
  have hc4:QR b s4 (.agg [.bool x1,.slice a1 n1 c1,.slice b1 m1 d1]) (C+Jy (Jw vars wals) done):=q8.keepS (by omega) fun j hj hu=>by rw[f4 j (hnl hu),os2.2 j hj]
  simp only[V4,dh,lv,Qa,Qb,Qc,Qd,Qe,Qf,Qg,Qh,Qi,Qj,Qk,Ql,Qm,Qn,true_and,and_true,Qo,Qp,Qq,Qr,Qs,Qt,Qu,Qv,Qw,Qx,Qy,Qz,Ra,Rb,Rc,Rd,Re,Rf,Rg,Rh,Ri,Rj,Rk,Rm,Rn,Ro,Rp,Rq,Rt,Ya,Yb,Yc,Ru,Rw,Zb,Yd,Ye,Ry,Rz,Wa,Wb,Wc,Wd,We]
  refine Y1 hE hcv4 hvl ?_
  have skip:Jw vars wals n=0→∀K2:(JP→List AV→List Nat→AE→Prop),True:=fun _ _=>trivial
  have hend0:Jw vars wals n=0→∃r'',A8 s4 l=some r''∧K (.bool true) (setObj s4 l (.loop { r'' with state:=.ready,pending:=none })):=fun h0=>by
    refine⟨_,l4,hK _ O ⟨?_,?_,hO,x1,a1,n1,c1,b1,m1,d1,?_,?_,?_⟩ ?_ (fun j hj hjO=>?_) (fun j hj=>.inl hj)⟩
    · rw[CK];rfl
    · show l<s4.next;omega
    · rw[Wx _ (by omega)];exact gb8
    · rw[hev,h0,Rat.mul_zero,Rat.add_zero]
      exact hc4.keepS (qw _) fun j _ hu=>Wx _ (by
        rintro rfl
        obtain⟨r,h1,_⟩:=hu
        have:=CV l4
        rw[this]at h1;cases h1)
    · rw[hev,h0,Rat.mul_zero,Rat.add_zero,hdl1]
      exact h8.le (by omega)
    · show S.next≤s4.next;omega
    · have h4:j≠l:=fun h=>hjO (by rw[hO,h];simp)
      rw[Wx _ h4,f4 j h4,os2.2 j hj]
  by_cases hp0:0≤HJ n vars 0
  · have d0:decide (0≤HJ n vars 0)=true:=decide_eq_true hp0
    by_cases hp1:HJ n vars 0<(wals.length:Int)
    · have d1:decide (HJ n vars 0<(wals.length:Int))=true:=decide_eq_true hp1
      obtain⟨i,hi⟩:∃i:Nat,HJ n vars 0=(i:Int):=⟨(HJ n vars 0).toNat,(Int.toNat_of_nonneg hp0).symm⟩
      have hil:i<wals.length:=by omega
      have hvi:wals[i]? = some wals[i]:=qy hil
      have hat:Jw vars wals n=wals[i]:=by
        unfold Jw
        rw[if_pos ⟨hp0,hp1⟩,hi,Int.toNat_natCast,tK,hvi];rfl
      rw[hat]at hev
      generalize wals[i]=w at hvi hat hev
      have hrat4:=hrat.old o4
      obtain⟨i0,o0,rfl,_,ld⟩:=hrat4.load hil
      have hqw:=hrat4.rat i w hvi
      obtain⟨xw,aw,nw,kw,bw,mw,ew,hwe⟩:=hqw.shape
      generalize (cells.drop (i * 3)).take 3=cw at *
      injection hwe with hwe
      subst hwe
      have ix:=Ah (cap:=cc) (i:=i0) (o:=o0) Tryz.underlying28 Ar hil
      have l8:=AG (P:=Tryz.prog) (t:=26) BH Ar gb8 rfl
      have lc:=AG (P:=Tryz.prog) (t:=26) BH Ar gc rfl
      rw[hi]at d0 d1
      simp only[hi,Sw,di,Wb,Ry,d0,d1,lw,AN Tryz.underlying28,Ru,l8,lc,ix,ld,Qa,Qb,Qc,Qd,Qe,Qf,Qg,Qh,Qi,Qj,Qk,Ql,Qm,Qn,true_and,and_true,Qo,Qp,Qq,Qr,Qs,Qt,Qu,Qv,Qw,Qx,Qy,Qz,Ra,Rb,Rc,Rd,Re,Rf,Rg,Rh,Ri,Rj,Rk,Rm,Rn,Ro,Rp,Rq,Rt,Ya,Yb,Yc,Ru,Rw,Zb,Yd,Ye,Ry,Rz,Wa,Wb,Wc,Wd,We]
      refine KJ hE (hq4.qi hqh) hqw hk1 hkv (by omega) fun s5 v5 o5 r5=>?_
      have h5':=o5.1
      have gb8':=(o5.2 b8 (by omega)).trans gb8
      refine⟨⟨Ak (by simp only[Qa,Qb,Qc,Qd,Qe,Qf,Qg,Qh,Qi,Qj,Qk,Ql,Qm,Qn,true_and,and_true,Qo,Qp,Qq,Qr,Qs,Qt,Qu,Qv,Qw,Qx,Qy,Qz,Ra,Rb,Rc,Rd,Re,Rf,Rg,Rh,Ri,Rj,Rk,Rm,Rn,Ro,Rp,Rq,Rt,Ya,Yb,Yc,Ru,Rw,Zb,Yd,Ye,Ry,Rz,Wa,Wb,Wc,Wd,We];exact AG BH Ar gb8' rfl) (Cr _ _ _ _ _ _ _),trivial⟩,?_⟩
      simp only[Qa,Qb,Qc,Qd,Qe,Qf,Qg,Qh,Qi,Qj,Qk,Ql,Qm,Qn,true_and,and_true,Qo,Qp,Qq,Qr,Qs,Qt,Qu,Qv,Qw,Qx,Qy,Qz,Ra,Rb,Rc,Rd,Re,Rf,Rg,Rh,Ri,Rj,Rk,Rm,Rn,Ro,Rp,Rq,Rt,Ya,Yb,Yc,Ru,Rw,Zb,Yd,Ye,Ry,Rz,Wa,Wb,Wc,Wd,We]
      have hqw':=hqw.qh hkv
      refine KH hE ((hc4.old o5).qi h8) (r5.qi (hqh.mul hqw')) (by omega) (by omega) (by omega) fun s6 v6 o6 r6=>?_
      have h6:=o6.1
      have gb8'':=(o6.2 b8 (by omega)).trans gb8'
      obtain⟨x6,a6,n6,c6,b6,m6,d6,rfl⟩:=r6.shape
      have st6:=Ai (P:=Tryz.prog) (t:=26) (cs:=[.bool x6,.slice a6 n6 c6,.slice b6 m6 d6]) Ar gb8'' rfl rfl rfl (by simp)
      generalize hs7:setObj s6 b8 (R 26 0 false [.bool x6,.slice a6 n6 c6,.slice b6 m6 d6])=s7 at st6
      have f7:∀j,j≠b8→s7.heap.get j=s6.heap.get j:=fun j hj=>by rw[← hs7,Wx _ hj]
      have n7:s7.next=s6.next:=by rw[← hs7];rfl
      have l7:A8 s7 l=some { Ft v0 v1 v2 b3 b7 b8 x9 x10 x11 fn x13 x14 x15 mk with state:=.busy }:=by
        rw[Cf (show s7.heap.get l=s4.heap.get l by rw[f7 l (by omega),o6.2 l (by omega),o5.2 l (by omega)])];exact l4
      simp only[st6,Xy,Za,Qa,Qb,Qc,Qd,Qe,Qf,Qg,Qh,Qi,Qj,Qk,Ql,Qm,Qn,true_and,and_true,Qo,Qp,Qq,Qr,Qs,Qt,Qu,Qv,Qw,Qx,Qy,Qz,Ra,Rb,Rc,Rd,Re,Rf,Rg,Rh,Ri,Rj,Rk,Rm,Rn,Ro,Rp,Rq,Rt,Ya,Yb,Yc,Ru,Rw,Zb,Yd,Ye,Ry,Rz,Wa,Wb,Wc,Wd,We]
      have hqn:QH (C+Jy (Jw vars wals) done+q * w) (k+(done.length+1) * (k+kv+1)):=(h8.add (hqh.mul hqw')).le (by omega)
      refine⟨_,l7,hK _ O ⟨?_,?_,hO,x6,a6,n6,c6,b6,m6,d6,?_,?_,?_⟩ ?_ (fun j hj hjO=>?_) (fun j hj=>.inl hj)⟩
      · rw[CK];rfl
      · show l<s7.next;omega
      · rw[Wx _ (by omega),← hs7,Ww]
      · rw[hev]
        have:QR s5.next s7 (.agg [.bool x6,.slice a6 n6 c6,.slice b6 m6 d6]) (C+Jy (Jw vars wals) done+q * w):=by rw[← hs7];exact r6.set (by omega) _
        exact(this.set (by omega) _).mono (by omega)
      · rw[hev,hdl1];exact hqn
      · show S.next≤s7.next;omega
      · have h4 : j ≠ l := fun h => hjO (by rw [hO, h]; simp)
        have h8':j≠b8:=fun h=>hjO (by rw[hO,h];simp)
        rw[Wx _ h4,f7 j h8',o6.2 j (by omega),o5.2 j (by omega),f4 j h4,os2.2 j hj]
    · have d1 : decide (HJ   n vars 0 < (wals.length : Int)) = false := decide_eq_false hp1
      have hat:Jw vars wals n=0:=by unfold Jw;rw[if_neg (fun h=>hp1 h.2)]
      simp only[Sw,Wb,Ry,d0,d1,lw,AN Tryz.underlying28,Ru,Qa,Qb,Qc,Qd,Qe,Qf,Qg,Qh,Qi,Qj,Qk,Ql,Qm,Qn,true_and,and_true,Qo,Qp,Qq,Qr,Qs,Qt,Qu,Qv,Qw,Qx,Qy,Qz,Ra,Rb,Rc,Rd,Re,Rf,Rg,Rh,Ri,Rj,Rk,Rm,Rn,Ro,Rp,Rq,Rt,Ya,Yb,Yc,Ru,Rw,Zb,Yd,Ye,Ry,Rz,Wa,Wb,Wc,Wd,We]
      exact hend0 hat
  · have d0 : decide (0 ≤ HJ   n vars 0) = false := decide_eq_false hp0
    have hat:Jw vars wals n=0:=by unfold Jw;rw[if_neg (fun h=>hp0 h.1)]
    simp only[Sw,Wb,d0,Ru,Qa,Qb,Qc,Qd,Qe,Qf,Qg,Qh,Qi,Qj,Qk,Ql,Qm,Qn,true_and,and_true,Qo,Qp,Qq,Qr,Qs,Qt,Qu,Qv,Qw,Qx,Qy,Qz,Ra,Rb,Rc,Rd,Re,Rf,Rg,Rh,Ri,Rj,Rk,Rm,Rn,Ro,Rp,Rq,Rt,Ya,Yb,Yc,Ru,Rw,Zb,Yd,Ye,Ry,Rz,Wa,Wb,Wc,Wd,We]
    exact hend0 hat
end
section
variable{E:CR}{s:AE}
theorem nI(hE:DP E){vl:AV}{C:Rat}{vs:List Int}{cs:List Rat}{kl M kv:Nat}(hl:LI s vl C vs cs kl)(hkl:1≤kl)(hM:min cs.length vs.length=M){vars:List Int}{wals:List Rat}{av ac:Option (Nat×Nat)}{cv cc:Option Nat}{cells:List AV}(hcv:AZ s.next s av (vars.map iv))(hrat:Dw s ac wals kv cells)(hvl:vars.length≤1000000000)(hkv:1≤kv)
    {k1:Nat} (hk1:k1=1+(M+1) * (kl+2)) (hb:2 * (k1+(M+2) * (k1+kv+1))+1≤1000000) {K:AV→AE→Prop}
    (hK:∀s' w,Ae s.next s s'→QR s.next s' w (C+Nr (Jw vars wals) vs cs)→QH (C+Nr (Jw vars wals) vs cs) (k1+M * (k1+kv+1))→K w s'):WF E 13 [vl,.slice av vars.length cv,.slice ac wals.length cc] K s:=by
  have hl0:=hl
  obtain⟨x1,a1,n1,c1,b1,m1,d1,xv,nv,xcv,xc,nc,xcc,ea⟩:=hl.shape
  subst ea
  have hM1:(M+2) * (k1+kv+1)=(M+1) * (k1+kv+1)+(k1+kv+1):=rK _ _
  have hM3:(M+1) * (k1+kv+1)=M * (k1+kv+1)+(k1+kv+1):=rK _ _
  have hM2:(M+2) * (kl+2)=(M+1) * (kl+2)+(kl+2):=rK _ _
  have hMb:M≤M * (k1+kv+1):=sU _ (by omega)
  have hMk:kl+2≤(M+1) * (kl+2):=tF _ (by omega)
  refine hE.go kT (by decide) rfl ?_
  obtain⟨n3,o3,g1,g2,g3⟩:=LK s (BL x1 (.slice a1 n1 c1) (.slice b1 m1 d1) (.slice xv nv xcv) (.slice xc nc xcc)) (R 27 0 false [.slice av vars.length cv]) (R 28 0 false [.slice ac wals.length cc])
  obtain⟨n4,o4,g4⟩:=Bl (newObj (newObj (newObj s (BL x1 (.slice a1 n1 c1) (.slice b1 m1 d1) (.slice xv nv xcv) (.slice xc nc xcc))) (R 27 0 false [.slice av vars.length cv])) (R 28 0 false [.slice ac wals.length cc])) ZQ
  simp only[pF,dW,dX,Xa,Xh,Xn,Bb,Xc,Ap,Qa,Qb,Qc,Qd,Qe,Qf,Qg,Qh,Qi,Qj,Qk,Ql,Qm,Qn,true_and,and_true,Qo,Qp,Qq,Qr,Qs,Qt,Qu,Qv,Qw,Qx,Qy,Qz,Ra,Rb,Rc,Rd,Re,Rf,Rg,Rh,Ri,Rj,Rk,Rm,Rn,Ro,Rp,Rq,Rt,Ya,Yb,Yc,Ru,Rw,Zb,Yd,Ye,Ry,Rz,Wa,Wb,Wc,Wd,We]
  generalize hs3:newObj (newObj (newObj s (BL x1 (.slice a1 n1 c1) (.slice b1 m1 d1) (.slice xv nv xcv) (.slice xc nc xcc))) (R 27 0 false [.slice av vars.length cv])) (R 28 0 false [.slice ac wals.length cc])=s3 at *
  generalize hs1:newObj s3 ZQ=s1 at *
  have o1:Ae s.next s s1:=o3.trans (o4.mono o3.1)
  have h1:s1.next=s.next+4:=by omega
  have k1':=(o4.2 s.next (by omega)).trans g1
  have k2':=(o4.2 (s.next+1) (by omega)).trans g2
  have k3':=(o4.2 (s.next+2) (by omega)).trans g3
  rw[n3]at g4
  have l1:=AG (P:=Tryz.prog) (t:=30) B6 Bp k1' rfl
  simp only[l1,Qa,Qb,Qc,Qd,Qe,Qf,Qg,Qh,Qi,Qj,Qk,Ql,Qm,Qn,true_and,and_true,Qo,Qp,Qq,Qr,Qs,Qt,Qu,Qv,Qw,Qx,Qy,Qz,Ra,Rb,Rc,Rd,Re,Rf,Rg,Rh,Ri,Rj,Rk,Rm,Rn,Ro,Rp,Rq,Rt,Ya,Yb,Yc,Ru,Rw,Zb,Yd,Ye,Ry,Rz,Wa,Wb,Wc,Wd,We]
  refine Mk hE.toGoodN (hl0.old o1) hkl (by rw[hM];omega) fun s2 v2 mi T o2 r2 hT=>?_
  rw[hM,← hk1]at r2
  have h2:=o2.1
  have hTl:=hT.len
  rw[hM]at hTl
  simp only[sL]at hTl
  obtain⟨x,a,n,ca,d,m,cd,rfl,hP⟩:=r2
  obtain⟨n5,o5,g5⟩:=Bl s2 ZP
  have st:=Ey (cs0:=[.bool false,.slice none 0 (some 0),.slice none 0 (some 0),.map none]) rfl (x:=x) (a:=a) (n:=n) (c:=ca) (b:=d) (m:=m) (d:=cd) (mi:=mi) g5
  simp only[DQ,Xc,st,Xy,Za,Qa,Qb,Qc,Qd,Qe,Qf,Qg,Qh,Qi,Qj,Qk,Ql,Qm,Qn,true_and,and_true,Qo,Qp,Qq,Qr,Qs,Qt,Qu,Qv,Qw,Qx,Qy,Qz,Ra,Rb,Rc,Rd,Re,Rf,Rg,Rh,Ri,Rj,Rk,Rm,Rn,Ro,Rp,Rq,Rt,Ya,Yb,Yc,Ru,Rw,Zb,Yd,Ye,Ry,Rz,Wa,Wb,Wc,Wd,We]
  generalize hs4:setObj (newObj s2 ZP) s2.next (BP x (.slice a n ca) (.slice d m cd) mi)=s4
  have o24:Ae s2.next s2 s4:=by rw[← hs4];exact o5.set (qw _) _
  have n6:s4.next=s2.next+1:=by rw[← hs4];exact n5
  have q4:s4.heap.get s2.next=some (BP x (.slice a n ca) (.slice d m cd) mi):=by rw[← hs4,Ww]
  have l4:AA Tryz.prog s4 26 (.ptr (some (s2.next,0+0)))=some (.agg [.bool x,.slice a n ca,.slice d m cd]):=Ag (o:=0) (n:=3) BH Ar q4 (by simp)
  obtain⟨n7,o7,g7⟩:=Bl s4 ZQ
  obtain⟨st5,_⟩:=Bj (cs0:=[.bool false,.slice none 0 (some 0),.slice none 0 (some 0)]) rfl (x:=x) (a:=a) (n:=n) (c:=ca) (b:=d) (m:=m) (d:=cd) g7
  simp only[dY,l4,Bb,Xc,st5,Kr,Xy,Za,Qa,Qb,Qc,Qd,Qe,Qf,Qg,Qh,Qi,Qj,Qk,Ql,Qm,Qn,true_and,and_true,Qo,Qp,Qq,Qr,Qs,Qt,Qu,Qv,Qw,Qx,Qy,Qz,Ra,Rb,Rc,Rd,Re,Rf,Rg,Rh,Ri,Rj,Rk,Rm,Rn,Ro,Rp,Rq,Rt,Ya,Yb,Yc,Ru,Rw,Zb,Yd,Ye,Ry,Rz,Wa,Wb,Wc,Wd,We]
  generalize hs5:setObj (newObj s4 ZQ) s4.next (BQ x (.slice a n ca) (.slice d m cd))=s5
  have o45:Ae s4.next s4 s5:=by rw[← hs5];exact o7.set (qw _) _
  have n8:s5.next=s4.next+1:=by rw[← hs5];exact n7
  have q5:s5.heap.get s4.next=some (BQ x (.slice a n ca) (.slice d m cd)):=by rw[← hs5,Ww]
  have o25:Ae s2.next s2 s5:=o24.trans (o45.mono o24.1)
  have p5:=(o45.2 s2.next (by omega)).trans q4
  have l5:=AG (P:=Tryz.prog) (t:=56) H9 GI p5 rfl
  simp only[dZ,l5,Qa,Qb,Qc,Qd,Qe,Qf,Qg,Qh,Qi,Qj,Qk,Ql,Qm,Qn,true_and,and_true,Qo,Qp,Qq,Qr,Qs,Qt,Qu,Qv,Qw,Qx,Qy,Qz,Ra,Rb,Rc,Rd,Re,Rf,Rg,Rh,Ri,Rj,Rk,Rm,Rn,Ro,Rp,Rq,Rt,Ya,Yb,Yc,Ru,Rw,Zb,Yd,Ye,Ry,Rz,Wa,Wb,Wc,Wd,We]
  refine QU hE.toGoodN fun s6 n9 o56 g6=>?_
  simp only[Qa,Qb,Qc,Qd,Qe,Qf,Qg,Qh,Qi,Qj,Qk,Ql,Qm,Qn,true_and,and_true,Qo,Qp,Qq,Qr,Qs,Qt,Qu,Qv,Qw,Qx,Qy,Qz,Ra,Rb,Rc,Rd,Re,Rf,Rg,Rh,Ri,Rj,Rk,Rm,Rn,Ro,Rp,Rq,Rt,Ya,Yb,Yc,Ru,Rw,Zb,Yd,Ye,Ry,Rz,Wa,Wb,Wc,Wd,We]
  refine WC.range rfl ?_
  show WF E 77 [.yield (s6.next+1),.ptr (some (s5.next,0))] _ (newObj (newObj s6 .mark) (.loop (Ft _ _ _ s.next s2.next s4.next _ _ _ _ _ _ _ s6.next)))
  generalize hlo:Ft _ _ _ s.next s2.next s4.next _ _ _ _ _ _ _ s6.next=lo
  have hm1:(newObj s6 .mark).next=s6.next+1:=rfl
  generalize hs7:newObj (newObj s6 .mark) (.loop lo)=s7
  have n10:s7.next=s6.next+2:=by rw[← hs7];rfl
  have f7:∀j,j<s6.next→s7.heap.get j=s6.heap.get j:=fun j hj=>by rw[← hs7,AP,if_neg (by omega),AP,if_neg (by omega)]
  have hmk7:s7.heap.get s6.next=some .mark:=by rw[← hs7,AP,if_neg (by omega),AP,if_pos rfl]
  have hlp7:A8 s7 (s6.next+1)=some lo:=by
    unfold A8
    rw[← hs7,AP,if_pos hm1.symm]
  have o67:Ae s6.next s6 s7:=⟨by omega,f7⟩
  have o57:Ae s5.next s5 s7:=o56.trans (o67.mono o56.1)
  have o27:Ae s2.next s2 s7:=o25.trans (o57.mono o25.1)
  have o12:=o1.trans (o2.mono o1.1)
  have gA4:=(o2.2 (s.next+1) (by omega)).trans k2'
  have gA5:=(o2.2 (s.next+1+1) (by omega)).trans k3'
  have hcv2:=(hcv.old o12 (qw _)).mono o12.1
  have hrat2:=hrat.old o12
  have q7:s7.heap.get s4.next=some (BQ x (.slice a n ca) (.slice d m cd)):=(o57.2 s4.next (by omega)).trans q5
  refine NJ hE (sA:=s2) (pb:=s5.next) (l:=s6.next+1) hP.map (by omega) (by omega) o27 ((f7 _ (by omega)).trans g6) (by omega) (O0:=[s4.next,s6.next+1]) (by simp;omega) (fun j hj=>by simp at hj;omega)
    (mt lo s4.next (s6.next+1) k1 (k1+kv+1) s1.next C (Jw vars wals)) (fun done O S S' h o=>h.stab (by omega) o) (fun done O S h j hj=>by have h1:=h.ll;rw[h.o]at hj;simp at hj;omega) (fun done n' q vq O S K2 hI hoS hq hmem hdl hK2=>?_)
    ⟨hlp7,by omega,rfl,_,_,_,_,_,_,_,q7,?_,?_⟩ fun v S O hoS hnS hfS hI=>?_
  · subst hlo
    obtain⟨e1,e2,_⟩:=(hP.map.old hoS).ent _ hmem
    exact VH hE.toGoodN (M:=M+1) gA4 gA5 (by omega) hcv2 hrat2 hvl h2 (by omega) (by omega) (by omega) hkv (by omega) (by show 2 * (k1+(M+2) * (k1+kv+1))+1≤1000000000;omega) hI hoS (e1.mono (rB _)) e2 hK2
  · show QR s1.next s7 _ (C+0)
    rw[Rat.add_zero];exact hP.cq.old o27
  · show QH (C+0) _
    rw[Rat.add_zero];exact hP.ch.le (by simp)
  obtain⟨hlp,hll,hO,x8,a8,nn8,c8,b8,m8,d8,gp,hcq,hch⟩:=hI
  have hev:C+Jy (Jw vars wals) (Ba T)=C+Nr (Jw vars wals) vs cs:=by
    rw[bk _ hP.map.nd,hT.ev,Rat.mul_one]
    show C+(0+_)=_
    rw[Rat.zero_add]
  rw[hev]at hcq hch
  refine⟨lo,hlp,by rw[← hlo];rfl,?_⟩
  have hpd:lo.pending=none:=by rw[← hlo];rfl
  rw[hpd]
  generalize hs8:setObj S (s6.next+1) _=s8
  have n11:s8.next=S.next:=by rw[← hs8];rfl
  have f8:∀j,j≠s6.next+1→s8.heap.get j=S.heap.get j:=fun j hj=>by rw[← hs8,Wx _ hj]
  have g8:s8.heap.get s4.next=some (BQ x8 (.slice a8 nn8 c8) (.slice b8 m8 d8)):=by rw[f8 _ (by omega)];exact gp
  have l8:=AG (P:=Tryz.prog) (t:=26) BH Ar g8 rfl
  have gz:s8.heap.get (s.next+1+1+1)=some ZQ:=by rw[f8 _ (by omega),hoS.2 _ (by omega),o2.2 _ (by omega)];exact g4
  obtain⟨st9,_⟩:=Bj (cs0:=[.bool false,.slice none 0 (some 0),.slice none 0 (some 0)]) rfl (x:=x8) (a:=a8) (n:=nn8) (c:=c8) (b:=b8) (m:=m8) (d:=d8) gz
  generalize hs9:setObj s8 (s.next+1+1+1) (BQ x8 (.slice a8 nn8 c8) (.slice b8 m8 d8))=s9 at st9
  have f9:∀j,j≠s.next+1+1+1→s9.heap.get j=s8.heap.get j:=fun j hj=>by rw[← hs9,Wx _ hj]
  have g9:s9.heap.get (s.next+1+1+1)=some (BQ x8 (.slice a8 nn8 c8) (.slice b8 m8 d8)):=by rw[← hs9,Ww]
  have n12:s9.next=s8.next:=by rw[← hs9];rfl
  have hSn:=hoS.1
  have hmk9:s9.heap.get s6.next=some .mark:=by rw[f9 _ (by omega),f8 _ (by omega),hfS _ (by omega) (by simp;omega)];exact hmk7
  obtain⟨s10,u1,u2,u3⟩:=EA [s6.next] s9 (by simp) (fun m h=>by rw[List.mem_singleton.1 h];exact hmk9)
  have u3':∀j,j≠s6.next→s10.heap.get j=s9.heap.get j:=fun j hj=>u3 j (by simpa using hj)
  have l10:=AG (P:=Tryz.prog) (t:=26) BH Ar ((u3' (s.next+1+1+1) (by omega)).trans g9) rfl
  simp only[H5,V2,l8,st9,u1,l10,AO,Xy,Za,Qa,Qb,Qc,Qd,Qe,Qf,Qg,Qh,Qi,Qj,Qk,Ql,Qm,Qn,true_and,and_true,Qo,Qp,Qq,Qr,Qs,Qt,Qu,Qv,Qw,Qx,Qy,Qz,Ra,Rb,Rc,Rd,Re,Rf,Rg,Rh,Ri,Rj,Rk,Rm,Rn,Ro,Rp,Rq,Rt,Ya,Yb,Yc,Ru,Rw,Zb,Yd,Ye,Ry,Rz,Wa,Wb,Wc,Wd,We]
  refine hK s10 _ ⟨by omega,fun j hj=>?_⟩ ?_ (hch.le ?_)
  · rw[u3' j (by omega),f9 j (by omega),f8 j (by omega),hoS.2 j (by omega),o12.2 j hj]
  · refine QR.mono (b := s1.next) (hcq.keepS (by omega) fun j hj hu => ?_) (by omega)
    rw[u3' j ?_,f9 j ?_,f8 j ?_]
    · rintro rfl
      obtain⟨r,e1,_⟩:=hu
      have:=CV hlp
      rw[this]at e1;cases e1
    · intro e
      have gz':S.heap.get (s.next+1+1+1)=some ZQ:=by rw[hoS.2 _ (by omega),o2.2 _ (by omega)];exact g4
      exact EL gz' (by decide) hu e
    · rintro rfl
      obtain⟨r,e1,_⟩:=hu
      rw[hfS _ (by omega) (by simp;omega),hmk7]at e1;cases e1
  · have hcl := IG       T
    have:(Ba T).length * (k1+kv+1)≤M * (k1+kv+1):=rF _ (by omega)
    omega
end
end
end Go.Proofs.YtjnkfbpadpmakaaGreatDoor.Am
