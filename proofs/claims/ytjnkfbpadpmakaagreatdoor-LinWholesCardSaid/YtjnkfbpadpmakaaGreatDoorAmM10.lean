/- Sums of variables: what is put to an entry, walked; sums as they are read; conditions: none. -/
import Derived.Test.YtjnkfbpadpmakaaGreatDoorAmM08
import Derived.Test.YtjnkfbpadpmakaaGreatDoorAmLTab
import Derived.WideKeyArgs
import Derived.ChangeBears2
import Derived.OpenShut
import GoSem.ClaimJoined
import Derived.Test.YtjnkfbpadpmakaaGreatDoorAmM04
set_option linter.unusedVariables false
set_option linter.unusedSimpArgs false
set_option maxRecDepth 16000
namespace Go.Proofs.YtjnkfbpadpmakaaGreatDoor.Am
open Go Go.Proofs
noncomputable section
def Fx(p m:Nat)(s s':AE):Prop:=s.next≤s'.next∧∀j,j<s.next→j≠p→j≠m→s'.heap.get j=s.heap.get j
theorem Fx.refl(p m:Nat)(s:AE):Fx p m s s:=⟨xZ _,fun _ _ _ _=>rfl⟩
theorem Fx.trans{p m:Nat}{s s1 s2:AE}(h:Fx p m s s1)(k:Fx p m s1 s2):Fx p m s s2:=⟨xh h.1 k.1,fun j hj h1 h2=>(k.2 j (xi hj h.1) h1 h2).trans (h.2 j hj h1 h2)⟩
theorem Af.fx{p m:Nat}{s s':AE}(h:Af s.next s s'):Fx p m s s':=⟨h.1,fun j hj _ _=>h.2 j hj⟩
theorem Fx.old{p m b:Nat}{s s':AE}(h:Fx p m s s')(hp:b≤p)(hm:b≤m)(hb:b≤s.next):Af b s s':=⟨h.1,fun j hj=>h.2 j (by omega) (by omega) (by omega)⟩
theorem QR.fx{p mi b:Nat}{s s':AE}{v:AV}{q:Rat}(h:QR b s v q){e sz:Nat}{sp:Bool}{cs:List AV}(hp:s.heap.get p=some (R e sz sp cs))(he:e≠76){kt:Nat}{es:List (AV×AV)}(hm:s.heap.get mi=some (.map kt es))(f:Fx p mi s s'):QR b s' v q:=
 h.keepS f.1 fun j hj hu=>f.2 j hj (FV hp he hu) (HI hm hu)
theorem fD(i:Nat):Fl (.map (some i)) (.map (some i))=true:=by simp[Fl]
section
variable{E:CU}{s:AE}
theorem W8        (hE : GoodN E) {b mi : Nat} {T : List Co}  {k kc ko pc po : Nat} {x : Bool} {a d : Option (Nat × Nat)} {na m : Nat} {ca cd : Option Nat} {n : Int} (hn : i64 n) {c o : Rat} {cc co : List AV} (hM : Gv   b s mi T k)
    (hc:QI s (.agg cc) c kc) (ho:QI s (.agg co) o ko) (gc:s.heap.get pc=some (R 26 0 false cc)) (go:s.heap.get po=some (R 26 0 false co)) (hpc:pc<s.next) (hpo:po<s.next) (hk1:1≤k) (hkc:1≤kc) (hko:1≤ko) (hk:2 * (k+(kc+ko))+1≤1000000000)
    {K:AV→AE→Prop} (hK:∀r s' w,s.next≤s'.next→(∀j,j<s.next→j≠mi→s'.heap.get j=s.heap.get j)→(∀j∈Dd w,s.next≤j)→Gv b s' mi (Dv n (Cy n T+c * o) w T) (k+(kc+ko)+1)→K r s'):
    WF E 62 [.agg [.bool x,.slice a na ca,.slice d m cd,.map (some mi)],iv n,.func 73 [] [.ptr (some (pc,0)),.ptr (some (po,0))]] K s:=by
  refine hE.go sT (by decide) rfl ?_
  obtain⟨n1,o1,g1⟩:=CC s (R 56 0 false [.bool x,.slice a na ca,.slice d m cd,.map (some mi)])
  simp only[xC,nr,nz,Xa,Xh,Xc,PJ,Qa,Qb,Qc,Qd,Qf,Qh,Qj,Qk,Ql,Qm,Qo,true_and,Qp,Qq,Qr,Qs,Qt,Qv,Rb,Ri,Rk,Ro,Zb]
  generalize newObj s (R 56 0 false [.bool x,.slice a na ca,.slice d m cd,.map (some mi)])=s1 at *
  have hM1:=hM.old o1
  have l1:=AI (P:=Tryz.prog) (t:=54) (o:=0+3) YJ g1 rfl
  have lk:=fZ hM1.obj hn
  have hmlt:=hM.lt
  have hmlo:=hM.lo
  have key:∀ (s4:AE) (va:AV) (x2:Bool) (a2 b2:Option (Nat×Nat)) (n2 m2:Nat) (c2 d2:Option Nat) (y4 y5 y6:AV),Af s1.next s1 s4→s1.next+1≤s4.next→va=.agg [.bool x2,.slice a2 n2 c2,.slice b2 m2 d2]→s4.heap.get s1.next=some (BQ x2 (.slice a2 n2 c2) (.slice b2 m2 d2))→QI s4 va (Cy n T) k →
      Qb E di (fun v s'=>WE (EV s' []) fun s'=>K (.tuple []) s') [] [.agg [.bool x,.slice a na ca,.slice d m cd,.map (some mi)],iv n,.func 73 [] [.ptr (some (pc,0)),.ptr (some (po,0))],.ptr (some (s.next,0)),.ptr (some (s1.next,0)),y5,y6] s4:=by
    intro s4 va x2 a2 b2 n2 m2 c2 d2 y4 y5 y6 o4 h4 hva g4 hq
    have o14:=o1.trans (o4.mono o1.1)
    have k1:=(o4.2 s.next (by omega)).trans g1
    have l1:=AI (P:=Tryz.prog) (t:=54) (o:=0+3) YJ k1 rfl
    have l2:=AT (P:=Tryz.prog) (t:=26) Bt A9 g4 rfl
    subst hva
    simp only[di,l1,l2,PJ,Qb,Qc,Qd,Qe,Qf,Qh,Qj,Qk,Qm,Qo,true_and,Qr,Qs,Qt,Qv,Rj]
    refine iH hE hq (hc.old o14) (ho.old o14) ((o14.2 pc hpc).trans gc) ((o14.2 po hpo).trans go) (by have:=o14.1;omega) (by have:=o14.1;omega) hk1 hkc hko hk fun s5 v5 o5 r5=>?_
    have h5:=o5.1
    have k5:=(o5.2 s.next (by omega)).trans k1
    refine⟨⟨As (by simp only[Qk,Qr,Qs];exact AI (o:=0+3) YJ k5 rfl) (fD mi),trivial⟩,?_⟩
    have o15:=o14.trans (o5.mono o14.1)
    have hM5:=hM.old o15
    have up:=gt hM5.obj hn (Cy n T+c * o) v5
    simp only[up,Xz,Za,Qm,Qr,Qs]
    have hq5:QH (Cy n T+c * o) (k+(kc+ko)+1):=(kP hM hk1 n).add ((hc.qh hkc).mul (ho.qh hko))
    have hrow:∀j,U8 s5 j→j≠mi:=fun j hj=>HI hM5.obj hj
    have r5':QR s4.next (setObj s5 mi (.map 3 (Hx (Dv n (Cy n T+c * o) v5 T)))) v5 (Cy n T+c * o):=r5.keepS (xZ _) fun j _ hj=>Wx _ (hrow j hj)
    refine hK _ _ v5 ?_ (fun j hj hne=>?_) (fun j hj=>?_) ⟨Ww _ _ _,hM.lo,hM5.lt,fun t ht=>?_,J6 hM.nd,SO hM.dj fun t ht=>?_⟩
    · exact o15.1
    · rw[Wx _ hne];exact o15.2 j hj
    · have:=(r5.slots hj).1;have:=o14.1;omega
    · rcases LH      ht with rfl | ht
      · exact⟨r5'.mono (by have:=o14.1;omega),hq5,hn⟩
      · obtain⟨e1,e2,e3⟩:=hM5.ent t ht
        exact⟨e1.keepS (xZ _) fun j _ hj=>Wx _ (hrow j hj),e2.le (by omega),e3⟩
    · have e1 := (hM.ent t ht).1
      have hd:YH t.2.2 v5:=e1.dj r5 o14.1
      exact⟨hd,hd.symm⟩
  simp only[l1,lk,CE,Xc,Xy,Qm,Yd,Ye]
  obtain⟨n2,o2,g2⟩:=CC s1 ZQ
  generalize hs2:newObj s1 ZQ=s2 at *
  cases hg:Fs n T with
  | none =>
    have st:=Ak (P:=Tryz.prog) (t:=26) (cs:=[.bool false,.slice none 0 (some 0),.slice none 0 (some 0)]) A9 g2 rfl rfl rfl (by simp)
    generalize hs3:setObj s2 s1.next (R 26 0 false [.bool false,.slice none 0 (some 0),.slice none 0 (some 0)])=s3 at st
    have o3:Af s1.next s1 s3:=by rw[← hs3];exact o2.set (xZ _) _
    have g3:s3.heap.get s1.next=some ZQ:=by rw[← hs3,Ww]
    have n3:s3.next=s1.next+1:=by rw[← hs3];exact n2
    simp only[dh,oA,Option.isSome,st,We,Bool.not_false,Za,Qb,Qc,Qd,Qf,Qh,Qj,Qk,Qm,Qo,true_and,Qp,Qq,Qr,Qs,Qt,Qv,Qz,Rj,Yb,We]
    refine SB hE fun s4 v4 o4 r4=>?_
    have h4:=o4.1
    obtain⟨x2,a2,n2',c2,b2,m2,d2,rfl⟩:=r4.shape
    have st4:=Ak (P:=Tryz.prog) (t:=26) (cs:=[.bool x2,.slice a2 n2' c2,.slice b2 m2 d2]) A9 ((o4.2 s1.next (by omega)).trans g3) rfl rfl rfl (by simp)
    simp only[st4,Xy,Qd,Qm,Qo,true_and,Qr,Qs]
    have hv0:Cy n T=0:=by unfold Cy;rw[hg]
    refine key _ _ x2 a2 b2 n2' m2 c2 d2 (iv 0) _ _ ((o3.trans (o4.mono o3.1)).set (xZ _) _) (by show s1.next+1≤s4.next;omega) rfl (Ww _ _ _) ?_
    rw[hv0]
    exact((r4.set (by omega) _).qi tu).le hk1
  | some pq =>
    have hmem:=G6 hg
    obtain⟨e1,e2,_⟩:=hM1.ent _ hmem
    obtain⟨x2,a2,n2',c2,b2,m2,d2,hv2⟩:=e1.shape
    simp only at hv2 e1 e2
    have st:=Ak (P:=Tryz.prog) (t:=26) (cs:=[.bool x2,.slice a2 n2' c2,.slice b2 m2 d2]) A9 g2 rfl rfl rfl (by simp)
    rw[← hv2]at st
    generalize hs3:setObj s2 s1.next (R 26 0 false [.bool x2,.slice a2 n2' c2,.slice b2 m2 d2])=s3 at st
    have o3:Af s1.next s1 s3:=by rw[← hs3];exact o2.set (xZ _) _
    have g3:s3.heap.get s1.next=some (BQ x2 (.slice a2 n2' c2) (.slice b2 m2 d2)):=by rw[← hs3,Ww]
    have n3:s3.next=s1.next+1:=by rw[← hs3];exact n2
    simp only[dh,Option.isSome,st,We,Bool.not_true,Za,Qb,Qc,Qd,Qf,Qh,Qj,Qm,Qo,true_and,Qp,Qq,Qr,Qs,Qt,Qv,Ra,Rj,Ya,We]
    have hv0:Cy n T=pq.1:=by unfold Cy;rw[hg]
    refine key _ pq.2 x2 a2 b2 n2' m2 c2 d2 (iv 0) _ _ o3 (by omega) hv2 g3 ?_
    rw[hv0]
    exact(e1.old o3).qi e2
end
def EC(sz:Nat)(s:AE)(a:Option (Nat×Nat))(cap:Option Nat)(n:Nat):Prop:=
 (∃c,cap=some c∧n≤c∧(a=none→c=0))∨(cap=none∧∃i o r,a=some (i,o)∧i<s.next∧s.heap.get i=some (.row r)∧r.sz=sz∧o+n * sz≤r.n)
theorem EC.old{sz:Nat}{s s':AE}{a:Option (Nat×Nat)}{cap:Option Nat}{n:Nat}(h:EC sz s a cap n)(k:Af s.next s s'):EC sz s' a cap n:=by
 rcases h with h | ⟨h1,i,o,r,h3,h4,h5,h6⟩
 ·exact .inl h
 ·exact .inr ⟨h1,i,o,r,h3,xi h4 k.1,by rw[k.2 i h4];exact h5,h6⟩
theorem EC.less{sz:Nat}{s:AE}{a:Option (Nat×Nat)}{cap:Option Nat}{n k:Nat}(h:EC sz s a cap n)(hk:k≤n):EC sz s a cap k:=by
 rcases h with⟨c,h1,h2,h3⟩ | ⟨h1,i,o,r,h3,h4,h5,h6,h7⟩
 ·exact .inl ⟨c,h1,by omega,h3⟩
 ·exact .inr ⟨h1,i,o,r,h3,h4,h5,h6,xh (Nat.add_le_add_left (yA _ hk) _) h7⟩
theorem Na{t e sz:Nat}(ht:Tryz.prog.underlying t=some (.slice e))(hs:BG Tryz.prog e=some sz)(hz:0<sz){s:AE}{a:Option (Nat×Nat)}{cap:Option Nat}{n k:Nat}(hc:EC sz s a cap n)(hk:k≤n):
    At Tryz.prog t false true false s [.slice a n cap,iv (k:Int)]=some (.slice a k cap):=by
  show Bj Tryz.prog s t (.slice a n cap) none (some (iv (k:Int))) none=_
  rcases hc with⟨c,rfl,h1,h2⟩ | ⟨rfl,i,o,r,rfl,h3,h4,h5,h6⟩
  · have hb:Bi (iv (k:Int)) c=some k:=by simp[Bi,Ft,AP,CQ (show k≤c by omega),Dz]
    cases a with
    | none=>simp[Bj,ht,hs,hb]
    | some io=>obtain⟨i,o⟩:=io;cases hb2:Nat.beq c 0<;>simp[Bj,ht,hs,hb]
  · have hrow : rowAt s i = some r := by unfold rowAt; rw [h4]
    have hkd:k≤(r.n - o) / sz:=by
      rw[Nat.le_div_iff_mul_le hz]
      have:k * sz≤n * sz:=yA _ hk
      omega
    have hb:Bi (iv (k:Int)) ((r.n - o) / sz)=some k:=by simp[Bi,Ft,AP,CQ hkd,Dz]
    have hsz:Nat.beq sz r.sz=true:=Fe h5.symm
    have ho:o≤r.n:=by have:0≤n * sz:=xg _;omega
    simp only[Bj,ht,hs,hrow,hsz,AP,hb,CQ ho,Dl (show sz≠0 by omega),Option.bind_some,Bool.true_and,Bool.and_true,Bool.not_false,cond_true]
    simp
structure Ej(s:AE)(a:Option (Nat×Nat))(cs:List Rat)(k:Nat)(cells:List AV):Prop where
 len:cells.length=cs.length * 3
 rd:AU s.next s a cells
 rat:∀ (i:Nat) (q:Rat),cs[i]? = some q→QI s (.agg ((cells.drop (i * 3)).take 3)) q k
theorem Ej.old{s s':AE}{a:Option (Nat×Nat)}{cs:List Rat}{k:Nat}{cells:List AV}(h:Ej s a cs k cells)(o:Af s.next s s'):Ej s' a cs k cells:=
 ⟨h.len,(h.rd.old o (xZ _)).mono o.1,fun i q hi=>(h.rat i q hi).old o⟩
theorem Ej.load{s:AE}{a:Option (Nat×Nat)}{cs:List Rat}{k:Nat}{cells:List AV}(h:Ej s a cs k cells){i:Nat}(hi:i<cs.length):
  ∃i0 o,a=some (i0,o)∧i0<s.next∧AC Tryz.prog s 26 (.ptr (some (i0,o+i * 3)))=some (.agg ((cells.drop (i * 3)).take 3)):=by
 have hl:=h.len
 have h3:((cells.drop (i * 3)).take 3).length=3:=by rw[xz,yL];omega
 have hget:∀j,j<3→((cells.drop (i * 3)).take 3)[j]? = cells[i * 3+j]? := fun j hj=>by rw[yy hj,yn]
 have h0:cells[i * 3]? = some cells[i * 3]:=xe (by omega)
 obtain⟨i0,o,rfl,hlt,_⟩:=h.rd (i * 3) _ h0
 refine⟨i0,o,rfl,hlt,?_⟩
 have:=JA (o:=s.heap.get i0) ((cells.drop (i * 3)).take 3) (o+i * 3) (fun j u hj=>by
  have hj3:j<3:=by
   rcases xf j 3 with h' | h'
   ·exact h'
   ·rw[xr (by omega)]at hj;cases hj
  rw[hget j hj3]at hj
  obtain⟨i',o',e,_,g⟩:=h.rd _ u hj
  injection e with e
  injection e with e1 e2
  subst e1;subst e2
  rw[E2]at g
  rw[yR];exact g) (by intro e;rw[e]at h3;cases h3)
 rw[h3]at this
 rw[Wg Bt,A9,Option.bind_some,this]
 rfl
def LI(s:AE)(v:AV)(C:Rat)(vs:List Int)(cs:List Rat)(k:Nat):Prop:=∃x a n c b m d av capv ac capc cells,
 v=.agg [.bool x,.slice a n c,.slice b m d,.slice av vs.length capv,.slice ac cs.length capc]∧QI s (.agg [.bool x,.slice a n c,.slice b m d]) C k∧AU s.next s av (vs.map iv)∧(∀n∈vs,i64 n)∧Ej s ac cs k cells∧EC 1 s av capv vs.length∧EC 3 s ac capc cs.length
theorem LI.old{s s':AE}{v:AV}{C:Rat}{vs:List Int}{cs:List Rat}{k:Nat}(h:LI s v C vs cs k)(o:Af s.next s s'):LI s' v C vs cs k:=by
 obtain⟨x,a,n,c,b,m,d,av,capv,ac,capc,cells,h1,h2,h3,h4,h5,h6,h7⟩:=h
 exact⟨x,a,n,c,b,m,d,av,capv,ac,capc,cells,h1,h2.old o,(h3.old o (xZ _)).mono o.1,h4,h5.old o,h6.old o,h7.old o⟩
inductive Gs (o:Rat):List Int→List Rat→List Co→List Co→Prop
 | nil1 (cs:List Rat) (T:List Co):Gs o [] cs T T
 | nil2 (vs:List Int) (T:List Co):Gs o vs [] T T
 | cons {n:Int} {c:Rat} {vs:List Int} {cs:List Rat} {T T':List Co} (w:AV) (h:Gs o vs cs (Dv n (Cy n T+c * o) w T) T'):Gs o (n::vs) (c::cs) T T'
def Cq(a:Int→Rat):List Int→List Rat→Rat
 | n::vs,c::cs=>c * a n+Cq a vs cs
 | _,_=>0
theorem Gs.ev{o:Rat}{vs:List Int}{cs:List Rat}{T T':List Co}(h:Gs o vs cs T T')(a:Int→Rat):RP a T'=RP a T+Cq a vs cs * o:=by
 induction h with
 | nil1 cs T=>show _=_+0 * o;rw[Rat.zero_mul,Rat.add_zero]
 | nil2 vs T=>cases vs<;>(show _=_+0 * o;rw[Rat.zero_mul,Rat.add_zero])
 | @cons n c vs cs T T' w h ih =>
  rw[ih,fG]
  show RP a T+c * o * a n+Cq a vs cs * o=RP a T+(c * a n+Cq a vs cs) * o
  rw[Rat.add_mul,Rat.add_assoc,Rat.mul_assoc c o,Rat.mul_comm o (a n),Rat.mul_assoc c (a n)]
theorem MW(a b:Nat):Ct false (iv (a:Int)) [iv (b:Int)]=some (iv ((min a b:Nat):Int)):=by
 simp only[Ct,Mx,AP,cond_true]
 congr 2
 cases hlt:NE (b:Int) (a:Int)with
 | true=>rw[DD]at hlt;have:=of_decide_eq_true hlt;simp only[cond_true,cond_false];omega
 | false=>rw[DD]at hlt;have:=of_decide_eq_false hlt;simp only[cond_false];omega
theorem M6{P:Program}{s:AE}{i e sz t n off:Nat}{sp:Bool}{cs0 cs:List AV}(hs:BG P t=some n)(hg:s.heap.get i=some (R e sz sp cs0))(hl:cs.length=n)(hl0:off+n≤cs0.length)(ha:An cs=true)(hn:cs≠[]):AS P s t (.ptr (some (i,off))) (.agg cs)=some (setObj s i (R e sz sp (EB cs0 off cs))):=by
 rw[Wh,hs]
 show AP (decide (cs.length=n)) (Cv s i off cs)=_
 rw[M5 hg (by omega) ha,decide_eq_true hl]
 cases cs with
 | nil=>exact absurd rfl hn
 | cons c cs=>rfl
abbrev BP(x:Bool)(m d:AV)(mi:Nat):BD:=R 56 0 false [.bool x,m,d,.map (some mi)]
theorem IV(a:Nat×Nat):EP (.ptr (some a))=some (.ptr (some a)):=rfl
theorem D9{s:AE}{a:Option (Nat×Nat)}{vs:List Int}(h:AU s.next s a (vs.map iv)){i:Nat}{n:Int}(hi:vs[i]? = some n):∃i0 o,a=some (i0,o)∧i0<s.next∧AC Tryz.prog s 3 (.ptr (some (i0,o+i * 1)))=some (iv n):=by
 obtain⟨i0,o,rfl,h1,h2⟩:=h i (iv n) (by simp[hi])
 exact⟨i0,o,rfl,h1,Bd t7 (by rw[xj];exact h2)⟩
section
variable{E:CU}{s:AE}
theorem Wu        (hE : GoodN E) {b p mi q : Nat} {vl vo : AV} {C o : Rat} {vs : List Int} {cs : List Rat} {kl ko k0 : Nat} {x : Bool} {a1 d1 : Option (Nat × Nat)} {n1 m1 : Nat} {c1 e1 : Option Nat} {c' : Rat} {M : Nat} (hM : M = min cs.length vs.length)
    {lc oc:List AV} (hvl:vl=.agg lc) (hvo:vo=.agg oc)
    (hL:∀S,Fx p mi s S→LI S vl C vs cs kl) (hO:∀S,Fx p mi s S→QI S vo o ko) (hb:2 * (k0+(M+1) * (kl+ko+1))+1≤1000000000) (hk0:1≤k0) (hkl:1≤kl) (hko:1≤ko)
    {T0 T':List Co} {Q:Ay→Prop} {av ac:Option (Nat×Nat)} {capv capc:Option Nat} {hlc:lc.drop 3=[.slice av vs.length capv,.slice ac cs.length capc]} (hq1:q+1<s.next)
    (hq:∀ (S:AE) (T':List Co) (y5 y6 y9 y10:AV),Fx p mi s S→S.heap.get p=some (BP x (.slice a1 n1 c1) (.slice d1 m1 e1) mi)→Fb b S (.agg [.bool x,.slice a1 n1 c1,.slice d1 m1 e1]) mi c' T' (k0+M * (kl+ko+1))→Gs o vs cs T0 T' →
      Q ⟨.exit 0,[.ptr (some (p,0)),vl,vo,.ptr (some (q,0)),.ptr (some (q+1,0)),y5,y6,.slice ac M capc,iv (M:Int),y9,y10],[],S⟩):
    ∀ (j i:Nat) (S:AE) (T:List Co) (x5 x6 x10:AV),i+j=M→Fx p mi s S→S.heap.get p=some (BP x (.slice a1 n1 c1) (.slice d1 m1 e1) mi)→S.heap.get q=some (R 30 0 false lc)→S.heap.get (q+1)=some (R 26 0 false oc)→q≠p→q+1≠p→p<S.next →
      Fb b S (.agg [.bool x,.slice a1 n1 c1,.slice d1 m1 e1]) mi c' T (k0+i * (kl+ko+1))→(∀T',Gs o (vs.drop i) (cs.drop i) T T'→Gs o vs cs T0 T') →
      WC E none (.loop Q1) Q [.ptr (some (p,0)),vl,vo,.ptr (some (q,0)),.ptr (some (q+1,0)),x5,x6,.slice ac M capc,iv (M:Int),iv (i:Int),x10] [] S:=by
  intro j
  induction j with
  | zero =>
    intro i S T x5 x6 x10 hij f g1 g2 g3 hqp hqp1 hpS hP hT
    have e:i=M:=by omega
    subst e
    have dd:decide ((i:Int)<(i:Int))=false:=decide_eq_false (by omega)
    refine WC.loop' ?_
    simp only[Q1,cT,Ry,dd,Qa,Qb,Qc,Qd,Qf,Qh,Qj,Qm,Qo,true_and,Qp,Qq,Qr,Qs,Qt,Qv,Ra,Rb,Rd,Re,Ry]
    refine hq S T _ _ _ _ f g1 hP (hT T ?_)
    rcases Nat.le_total cs.length vs.length with h | h
    · rw[yQ (show cs.length≤i by omega)];exact .nil2 _ _
    · rw[yQ (show vs.length≤i by omega)];exact .nil1 _ _
  | succ j ih =>
    intro i S T x5 x6 x10 hij f g1 g2 g3 hqp hqp1 hpS hP hT
    have hiM:i<M:=by omega
    have hic:i<cs.length:=by omega
    have hiv:i<vs.length:=by omega
    have dd:decide ((i:Int)<(M:Int))=true:=decide_eq_true (by omega)
    obtain⟨x9,a9,n9,cc9,b9,m9,d9,av',capv',ac',capc',cells,hv9,hC,hvc,hvi,hrat,_,_⟩:=hL S f
    have hlc2:[AV.slice av vs.length capv,AV.slice ac cs.length capc]=[.slice av' vs.length capv',.slice ac' cs.length capc']:=by
      rw[hvl]at hv9
      injection hv9 with hv9
      rw[← hlc,hv9];rfl
    injection hlc2 with q1 q2
    injection q1 with q1 _ q1'
    injection q2 with q2 _
    injection q2 with q2 _ q2'
    subst q1;subst q1';subst q2;subst q2'
    have hcs:cs[i]? = some cs[i]:=xe hic
    generalize cs[i]=ci at hcs
    have hvs:vs[i]? = some vs[i]:=xe hiv
    generalize vs[i]=vi at hvs
    have hdv:vs.drop i=vi::vs.drop (i+1):=by
      rw[yV hiv]
      rw[xe hiv]at hvs
      rw[Option.some.inj hvs]
    have hdc:cs.drop i=ci::cs.drop (i+1):=by
      rw[yV hic]
      rw[xe hic]at hcs
      rw[Option.some.inj hcs]
    have hqi:=hrat.rat i ci hcs
    obtain⟨i0,o0,rfl,hi0,ld0⟩:=hrat.load hic
    obtain⟨i1,o1',rfl,hi1,ld1⟩:=D9 hvc hvs
    have hvin:=hvi vi (yG hvs)
    have ix0:=Ae (cap:=capc) (i:=i0) (o:=o0) Tryz.underlying28 A9 hiM
    have ix1:=Ae (cap:=capv) (i:=i1) (o:=o1') Tryz.underlying27 OJ hiv
    obtain⟨xx,aa,nn,kk,bb,mm,ee,hce⟩:=hqi.shape
    generalize hcc:(cells.drop (i * 3)).take 3=cc at *
    injection hce with hce
    subst hce
    obtain⟨n2,o2,g4⟩:=CC S ZQ
    have hMb:M+1≤(M+1) * (kl+ko+1):=Nat.le_mul_of_pos_right _ (by omega)
    have e17:=Az Tryz.prog 3 (i:Int) 1 ⟨by omega,by omega⟩
    have e17':((i:Int)+1)=((i+1:Nat):Int):=by omega
    have st:=Ak (P:=Tryz.prog) (t:=26) (cs:=[.bool xx,.slice aa nn kk,.slice bb mm ee]) A9 g4 rfl rfl rfl (by simp)
    refine WC.loop' ?_
    generalize hW:WC E none (Aa.loop Q1) Q=WW
    simp only[Q1,cT,mC,Ry,dd,ix0,ld0,CE,Xc,st,Xy,Za,Qa,Qb,Qc,Qd,Qf,Qh,Qj,Qk,Qm,Qo,true_and,Qp,Qq,Qr,Qs,Qt,Qv,Qz,Rb,Rd,Re,Ry]
    generalize hs2:setObj (newObj S ZQ) S.next (R 26 0 false [.bool xx,.slice aa nn kk,.slice bb mm ee])=s2 at *
    have os2:Af S.next S s2:=by rw[← hs2];exact o2.set (xZ _) _
    have n3:s2.next=S.next+1:=by rw[← hs2];exact n2
    have gc:s2.heap.get S.next=some (R 26 0 false [.bool xx,.slice aa nn kk,.slice bb mm ee]):=by rw[← hs2,Ww]
    have f1:=f.1
    have k1:=(os2.2 p hpS).trans g1
    have k2:=(os2.2 q (by omega)).trans g2
    have k3:=(os2.2 (q+1) (by omega)).trans g3
    have lp:=AT (P:=Tryz.prog) (t:=56) QE Kt k1 rfl
    have lcl:lc=[.bool x9,.slice a9 n9 cc9,.slice b9 m9 d9,.slice (some (i1,o1')) vs.length capv,.slice (some (i0,o0)) cs.length capc]:=by
      rw[hvl]at hv9
      injection hv9
    have lv:=AI (P:=Tryz.prog) (t:=27) (o:=0+3) (v:=.slice (some (i1,o1')) vs.length capv) Fc k2 (by rw[lcl];rfl)
    have li:AC Tryz.prog s2 3 (.ptr (some (i1,o1'+i * 1)))=some (iv vi):=by
      obtain⟨i1',o1'',e,_,h3⟩:=D9 ((hvc.old os2 (xZ _)).mono os2.1) hvs
      injection e with e
      injection e with q1 q2
      subst q1;subst q2
      exact h3
    have fs2:Fx p mi s s2:=f.trans os2.fx
    have hO2:=hO s2 fs2
    rw[hvo]at hO2
    have hP2:=hP.old os2
    have hmul:(i+1) * (kl+ko+1)≤M * (kl+ko+1):=yA _ (by omega)
    have hs1:(i+1) * (kl+ko+1)=i * (kl+ko+1)+(kl+ko+1):=yN _ _
    have hs2':(M+1) * (kl+ko+1)=M * (kl+ko+1)+(kl+ko+1):=yN _ _
    simp only[mD,lp,lv,ix1,li,IV,Cz,zD,yx,Qb,Qc,Qd,Qf,Qh,Qj,Qk,Qm,Qo,true_and,Qr,Qs,Qt,Qv]
    refine W8 hE hvin hP2.map (hqi.old os2) hO2 gc k3 (by omega) (by omega) (by omega) hkl hko (by omega) fun r s3 w h3 f3 hw hM3=>?_
    simp only[mE,e17,e17',Qb,Qc,Qd,Qf,Qh,Qi,Qj,Qk,Qm,Qo,true_and,Qp,Qq,Qr,Qs,Qt,Qv]
    rw[← hW]
    have hmp:mi≠p:=by rintro rfl;have:=hP.map.obj;rw[g1]at this;cases this
    have hmq:mi≠q:=by rintro rfl;have:=hP.map.obj;rw[g2]at this;cases this
    have hmq1:mi≠q+1:=by intro e;have:=hP.map.obj;rw[e,g3]at this;cases this
    have fx3:Fx p mi s s3:=fs2.trans ⟨h3,fun j hj _ h2=>f3 j hj h2⟩
    have ek:k0+i * (kl+ko+1)+(kl+ko)+1=k0+(i+1) * (kl+ko+1):=by omega
    rw[ek]at hM3
    have hc3:QR b s3 (.agg [.bool x,.slice a1 n1 c1,.slice d1 m1 e1]) c':=hP2.cq.keepS h3 fun j hj hu=>f3 j hj (HI hP2.map.obj hu)
    refine ih (i+1) s3 _ _ _ _ (by omega) fx3 ((f3 p (by omega) hmp.symm).trans k1) ((f3 q (by omega) hmq.symm).trans k2) ((f3 (q+1) (by omega) hmq1.symm).trans k3) hqp hqp1 (by omega) ⟨hc3,hP2.ch.le (by omega),hM3,fun t ht=>?_⟩ fun T' hT'=>hT T' ?_
    · rcases LH      ht with rfl | ht
      · intro j h1 h2
        have:=(hP2.cq.slots h1).2
        have:=hw j h2
        omega
      · exact hP.dj t ht
    · rw[hdv,hdc]
      exact .cons w hT'
end
theorem RM(x:Bool)(a b av ac:Option (Nat×Nat))(n m nv nc:Nat)(c d cv cc:Option Nat):Fl (.agg [.bool x,.slice a n c,.slice b m d,.slice av nv cv,.slice ac nc cc]) (.agg [.bool x,.slice a n c,.slice b m d,.slice av nv cv,.slice ac nc cc])=true:=by
 have h:=BJ
 have hb:=Ed
 show(Fl (.bool x) (.bool x) && (Fl (.slice a n c) (.slice a n c) && (Fl (.slice b m d) (.slice b m d) && (Fl (.slice av nv cv) (.slice av nv cv) && (Fl (.slice ac nc cc) (.slice ac nc cc) && true)))))=true
 rw[hb,h,h,h,h];rfl
section
variable{E:CU}{s:AE}
theorem U9(hE:GoodN E){b p mi:Nat}{vl vo:AV}{C o c:Rat}{vs:List Int}{cs:List Rat}{kl ko k:Nat}{x:Bool}{a1 d1:Option (Nat×Nat)}{n1 m1:Nat}{c1 e1:Option Nat}{T:List Co}
  (gp:s.heap.get p=some (BP x (.slice a1 n1 c1) (.slice d1 m1 e1) mi)) (hpn:p<s.next) (hbn:b≤s.next) (hP:Fb b s (.agg [.bool x,.slice a1 n1 c1,.slice d1 m1 e1]) mi c T k)
  (hL:∀S,Fx p mi s S→LI S vl C vs cs kl) (hO:∀S,Fx p mi s S→QI S vo o ko) (hk1:1≤k) (hkl:1≤kl) (hko:1≤ko) (hb:2 * (k+(min cs.length vs.length+2) * (kl+ko+1))+1≤1000000000) {K:AV→AE→Prop}
  (hK:∀r s' x' a' n' c'' d' m' e' T',Fx p mi s s'→s'.heap.get p=some (BP x' (.slice a' n' c'') (.slice d' m' e') mi)→Fb b s' (.agg [.bool x',.slice a' n' c'',.slice d' m' e']) mi (c+C * o) T' (k+(min cs.length vs.length+1) * (kl+ko+1))→Gs o vs cs T T'→K r s'):
  WF E 34 [.ptr (some (p,0)),vl,vo] K s:=by
 obtain⟨x9,a9,n9,cc9,b9,m9,d9,av,capv,ac,capc,cells,hv9,hC,hvc,hvi,hrat,hcv,hcc⟩:=hL s (Fx.refl _ _ _)
 have hqo:=hO s (Fx.refl _ _ _)
 obtain⟨x8,a8,n8,c8,b8,m8,d8,hv8⟩:=hqo.shape
 have hqC:=hC.qh hkl
 have hqO:=hqo.qh hko
 generalize hM:min cs.length vs.length=M at *
 have hs2':(M+2) * (kl+ko+1)=M * (kl+ko+1)+(kl+ko+1)+(kl+ko+1):=by rw[show M+2=(M+1)+1 by omega,yN,yN]
 have hs1':(M+1) * (kl+ko+1)=M * (kl+ko+1)+(kl+ko+1):=yN _ _
 refine hE.go rn (by decide) rfl ?_
 obtain⟨n2,o1,g1,g2⟩:=EO s (R 30 0 false [.bool x9,.slice a9 n9 cc9,.slice b9 m9 d9,.slice av vs.length capv,.slice ac cs.length capc]) (BQ x8 (.slice a8 n8 c8) (.slice b8 m8 d8))
 have hcl:vl.cells=[.bool x9,.slice a9 n9 cc9,.slice b9 m9 d9,.slice av vs.length capv,.slice ac cs.length capc]:=by rw[hv9];rfl
 have hco:vo.cells=[.bool x8,.slice a8 n8 c8,.slice b8 m8 d8]:=by rw[hv8];rfl
 simp only[wZ,l7,mA,Xa,hcl,hco,Xc,Aq,IV,PI,IP,Qa,Qb,Qc,Qd,Qf,Qh,Qj,Qk,Ql,Qm,Qo,true_and,Qp,Qq,Qr,Qs,Qt,Qv,Rb]
 generalize newObj (newObj s (R 30 0 false [.bool x9,.slice a9 n9 cc9,.slice b9 m9 d9,.slice av vs.length capv,.slice ac cs.length capc])) (BQ x8 (.slice a8 n8 c8) (.slice b8 m8 d8))=s1 at *
 have lp:AC Tryz.prog s1 26 (.ptr (some (p,0+0)))=some (.agg [.bool x,.slice a1 n1 c1,.slice d1 m1 e1]):=Av (o:=0) (n:=3) Bt A9 ((o1.2 p hpn).trans gp) (by simp)
 have ll:AC Tryz.prog s1 26 (.ptr (some (s.next,0+0)))=some (.agg [.bool x9,.slice a9 n9 cc9,.slice b9 m9 d9]):=Av (o:=0) (n:=3) Bt A9 g1 (by simp)
 have lo:=AT (P:=Tryz.prog) (t:=26) Bt A9 g2 rfl
 simp only[lp,ll,lo,Qm]
 rw[hv8]at hqo
 refine Pk hE (hC.old o1) (hqo.old o1) hkl hko (by omega) fun s2 v2 o2 r2=>?_
 have h2:=o2.1
 have lp2:AC Tryz.prog s2 26 (.ptr (some (p,0+0)))=some (.agg [.bool x,.slice a1 n1 c1,.slice d1 m1 e1]):=Av (o:=0) (n:=3) Bt A9 ((o2.2 p (by omega)).trans ((o1.2 p hpn).trans gp)) (by simp)
 refine⟨⟨As (by simp only[Qk,Qr,Qs];exact lp2) (Cr _ _ _ _ _ _ _),trivial⟩,?_⟩
 simp only[Qr,Qs]
 have o12:=o1.trans (o2.mono o1.1)
 have hP2:=hP.old o12
 have hqm:=hqC.mul hqO
 refine Pj hE (hP2.cq.qi hP2.ch) (r2.qi hqm) hk1 (by omega) (by omega) fun s3 v3 o3 r3=>?_
 have h3:=o3.1
 have o13:=o12.trans (o3.mono o12.1)
 have hP3:=hP.old o13
 obtain⟨x3,a3,n3,c3,b3,m3,d3,rfl⟩:=r3.shape
 have gp3:=(o13.2 p hpn).trans gp
 have st:AS Tryz.prog s3 26 (.ptr (some (p,0+0))) (.agg [.bool x3,.slice a3 n3 c3,.slice b3 m3 d3])=some (setObj s3 p (BP x3 (.slice a3 n3 c3) (.slice b3 m3 d3) mi)):=M6 (off:=0) A9 gp3 rfl (by simp) rfl (by simp)
 generalize hs4:setObj s3 p (BP x3 (.slice a3 n3 c3) (.slice b3 m3 d3) mi)=s4 at st
 have n4:s4.next=s3.next:=by rw[← hs4];rfl
 have g4:s4.heap.get p=some (BP x3 (.slice a3 n3 c3) (.slice b3 m3 d3) mi):=by rw[← hs4,Ww]
 have f4:∀j,j≠p→s4.heap.get j=s3.heap.get j:=fun j hj=>by rw[← hs4,Wx _ hj]
 have fx4:Fx p mi s s4:=⟨by have:=o13.1;omega,fun j hj h1 _=>(f4 j h1).trans (o13.2 j hj)⟩
 have k1:s4.heap.get s.next=some (R 30 0 false [.bool x9,.slice a9 n9 cc9,.slice b9 m9 d9,.slice av vs.length capv,.slice ac cs.length capc]):=by rw[f4 _ (by omega),o3.2 _ (by omega),o2.2 _ (by omega)];exact g1
 have k2:s4.heap.get (s.next+1)=some (BQ x8 (.slice a8 n8 c8) (.slice b8 m8 d8)):=by rw[f4 _ (by omega),o3.2 _ (by omega),o2.2 _ (by omega)];exact g2
 have hmp:mi≠p:=by rintro rfl;have:=hP.map.obj;rw[gp]at this;cases this
 have hu4:∀j,j<s3.next→U8 s3 j→s4.heap.get j=s3.heap.get j:=fun j _ hj=>f4 j (FV gp3 (by decide) hj)
 have hq4:QH (c+C * o) (k+(kl+ko+1)):=(hP.ch.add hqm).le (by omega)
 have hP4:Fb b s4 (.agg [.bool x3,.slice a3 n3 c3,.slice b3 m3 d3]) mi (c+C * o) T (k+(kl+ko+1)):=
  ⟨(r3.keepS (ya n4.symm) hu4).mono (by have:=o12.1;omega),hq4,(hP3.map.keepS (ya n4.symm) (f4 mi hmp) hu4).le (by omega),fun t ht=>((hP2.map.ent t ht).1.dj r3 (xZ _)).symm⟩
 have l1:=AI (P:=Tryz.prog) (t:=28) (o:=0+4) Eb k1 rfl
 have l2:=AI (P:=Tryz.prog) (t:=27) (o:=0+3) Fc k1 rfl
 have hcc4:EC 3 s4 ac capc cs.length:=by
  obtain⟨_,_,_,_,_,_,_,av',capv',ac',capc',_,hv9',_,_,_,_,_,hcc'⟩:=hL s4 fx4
  rw[hv9]at hv9'
  injection hv9' with e
  injection e with _ e
  injection e with _ e
  injection e with _ e
  injection e with _ e
  injection e with e _
  injection e with e1 _ e2
  subst e1;subst e2
  exact hcc'
 have ct:=Na (t:=28) Tryz.underlying28 A9 (by decide) hcc4 (show M≤cs.length by omega)
 have mm:=MW cs.length vs.length
 rw[hM]at mm
 simp only[mB,IV,PI,st,l1,l2,Cz,C0,AH Tryz.underlying28,AH Tryz.underlying27,mm,ct,Xy,Za,Qb,Qc,Qd,Qf,Qh,Qi,Qj,Qk,Qm,Qo,true_and,Qp,Qq,Qr,Qs,Qt,Qv]
 refine Wu hE (s:=s4) (b:=b) (p:=p) (mi:=mi) (q:=s.next) (C:=C) (o:=o) (vs:=vs) (cs:=cs) (kl:=kl) (ko:=ko) (k0:=k+(kl+ko+1)) (c':=c+C * o) (M:=M) hM.symm hv9 hv8 (fun S f=>hL S (fx4.trans f)) (fun S f=>hO S (fx4.trans f)) ?_ (by omega) hkl hko (T0:=T) (T':=T) (hlc:=rfl) (by omega)
  (fun S T' y5 y6 y9 y10 f gq hPq hT=>?_) M 0 s4 T _ _ _ (by omega) (Fx.refl _ _ _) g4 k1 k2 (by omega) (by omega) (by omega) (by rw[yo,yF];exact hP4) fun T' h=>h
 ·rw[hs1'];omega
 ·simp only[if_true,Qm,Rg,Ri,Rj,Rk,Ro]
  refine hK _ S _ _ _ _ _ _ _ T' (fx4.trans f) gq (hPq.le ?_) hT
  rw[hs1'];omega
theorem qp(hE:GoodN E){vl:AV}{C:Rat}{vs:List Int}{cs:List Rat}{kl:Nat}(hl:LI s vl C vs cs kl)(hkl:1≤kl)(hb:2 * (1+(min cs.length vs.length+2) * (kl+2))+1≤1000000000){K:AV→AE→Prop}
  (hK:∀s' v mi T,Af s.next s s'→PV s.next s' v mi C T (1+(min cs.length vs.length+1) * (kl+2))→Gs 1 vs cs [] T→K v s'):WF E 32 [vl] K s:=by
 have hl0:=hl
 obtain⟨x9,a9,n9,cc9,b9,m9,d9,av,capv,ac,capc,cells,hv9,_⟩:=hl0
 have hcl:vl.cells=[.bool x9,.slice a9 n9 cc9,.slice b9 m9 d9,.slice av vs.length capv,.slice ac cs.length capc]:=by rw[hv9];rfl
 refine hE.go rf (by decide) rfl ?_
 obtain⟨n2,o1,g1,g2⟩:=EO s (R 30 0 false [.bool x9,.slice a9 n9 cc9,.slice b9 m9 d9,.slice av vs.length capv,.slice ac cs.length capc]) (R 56 0 false [.bool false,.slice none 0 (some 0),.slice none 0 (some 0),.map none])
 simp only[wX,lV,lW,Xa,hcl,Iq,Xc,Aq,Qa,Qb,Qc,Qd,Qf,Qh,Qj,Qk,Ql,Qm,Qo,true_and,Qp,Qq,Qr,Qt,Qv,Rb,Rh,Rj]
 generalize newObj (newObj s (R 30 0 false [.bool x9,.slice a9 n9 cc9,.slice b9 m9 d9,.slice av vs.length capv,.slice ac cs.length capc])) (R 56 0 false [.bool false,.slice none 0 (some 0),.slice none 0 (some 0),.map none])=s1 at *
 refine R7 hE fun s2 v2 mi o2 r2=>?_
 have h2:=o2.1
 obtain⟨x,a,n,ca,d,m,cd,rfl,hP⟩:=r2
 obtain⟨n3,o3,g3⟩:=CC s2 (R 56 0 false [.bool false,.slice none 0 (some 0),.slice none 0 (some 0),.map none])
 have st:=Ak (P:=Tryz.prog) (t:=56) (cs:=[.bool x,.slice a n ca,.slice d m cd,.map (some mi)]) Kt g3 rfl rfl rfl (by simp)
 have o12:=o1.trans (o2.mono o1.1)
 simp only[st,Xy,Za,Qd,Qm,Qo,true_and,Qp,Qq,Qr,Qs]
 generalize hs4:setObj (newObj s2 (R 56 0 false [.bool false,.slice none 0 (some 0),.slice none 0 (some 0),.map none])) s2.next (R 56 0 false [.bool x,.slice a n ca,.slice d m cd,.map (some mi)])=s4
 have o24:Af s2.next s2 s4:=by rw[← hs4];exact o3.set (xZ _) _
 have n4:s4.next=s2.next+1:=by rw[← hs4];exact n3
 have g4:s4.heap.get s2.next=some (BP x (.slice a n ca) (.slice d m cd) mi):=by rw[← hs4,Ww]
 have k1:s4.heap.get s.next=some (R 30 0 false [.bool x9,.slice a9 n9 cc9,.slice b9 m9 d9,.slice av vs.length capv,.slice ac cs.length capc]):=by rw[o24.2 _ (by omega),o2.2 _ (by omega)];exact g1
 have o14:=o12.trans (o24.mono o12.1)
 have l1:=AT (P:=Tryz.prog) (t:=30) GJ Fk k1 rfl
 simp only[lX,l1,Qb,Qc,Qd,Qf,Qh,Qi,Qj,Qk,Qm,Qo,true_and,Qr,Qs,Qt,Qv]
 refine JL hE (n:=1) (.inr (.inl rfl)) fun s5 v5 o5 r5=>?_
 have h5:=o5.1
 have k5:=(o5.2 s.next (by omega)).trans k1
 refine⟨⟨As (by simp only[Qj,Qk,Qr,Qs];exact AT GJ Fk k5 rfl) (RM ..),trivial⟩,?_⟩
 simp only[Qr,Qs]
 have o15:=o14.trans (o5.mono o14.1)
 have g5:=(o5.2 s2.next (by omega)).trans g4
 have hP5:=hP.old (o24.trans (o5.mono o24.1))
 have hmlo:=hP.map.lo
 have hone:QH ((1:Int):Rat) 1:=⟨by decide,by decide⟩
 have hlx:=hl.old o15
 rw[hv9]at hlx
 refine U9 hE (b:=s.next) (p:=s2.next) (kl:=kl) (ko:=1) (k:=1) g5 (by omega) (by omega) (hP5.mono (by omega)) (fun S f=>by
   have:=hl.old (o15.trans ((f.old (b:=s.next) (by omega) (by omega) (by omega))))
   rw[hv9]at this
   exact this) (fun S f=>(r5.fx g5 (by decide) hP5.map.obj f).qi hone) (by omega) hkl (by omega) hb fun r s6 x' a' n' c'' d' m' e' T' f6 g6 hP6 hT=>?_
 have l6:=AT (P:=Tryz.prog) (t:=56) QE Kt g6 rfl
 have f7:s6.heap.get (s.next+1)=some (R 56 0 false [.bool false,.slice none 0 (some 0),.slice none 0 (some 0),.map none]):=by
  rw[f6.2 _ (by omega) (by omega) (by omega),o5.2 _ (by omega),o24.2 _ (by omega),o2.2 _ (by omega)];exact g2
 have st7:=Ak (P:=Tryz.prog) (t:=56) (cs:=[.bool x',.slice a' n' c'',.slice d' m' e',.map (some mi)]) Kt f7 rfl rfl rfl (by simp)
 have ld7:=AT (P:=Tryz.prog) (t:=56) (s:=setObj s6 (s.next+1) (R 56 0 false [.bool x',.slice a' n' c'',.slice d' m' e',.map (some mi)])) (i:=s.next+1) QE Kt (Ww _ _ _) rfl
 simp only[lY,l6,st7,ld7,AQ,Xy,Za,Qb,Qc,Qd,Qf,Qh,Qj,Qk,Qm,Qo,true_and,Qr,Qs,Qt,Qv,Rk,Rn,Yc]
 have e1:(0:Rat)+C * ((1:Int):Rat)=C:=by rw[Rat.zero_add];exact Rat.mul_one C
 rw[e1]at hP6
 have h6:=f6.1
 refine hK _ _ mi T' ⟨?_,fun j hj=>?_⟩ ⟨_,_,_,_,_,_,_,rfl,hP6.set f7 (by decide) _⟩ hT
 ·show s.next≤s6.next;omega
 ·rw[Wx _ (by omega),f6.2 j (by omega) (by omega) (by omega),o15.2 j hj]
end
structure KM(E:CU):Prop extends GoodN E where
 srt:∀ (xs:List AV) (s:AE),E.nat 78 xs s=GB 121 3 3 s xs
 wk:∀s:AE,E.nat 15 [] s=some (.bool true,s)
def PD(T:List Co)(ks:List Int):List (Int×Rat):=(ks.map fun n=>(n,Cy n T)).filter fun p=>decide (p.2≠0)
def Bu(T:List Co):List (Int×Rat):=PD T (Di (BM T))
theorem NY(T:List Co)(ks:List Int)(n:Int):PD T (ks++[n])=PD T ks++(if Cy n T=0 then []else [(n,Cy n T)]):=by
 unfold PD
 rw[zj,List.filter_append]
 congr 1
 by_cases h:Cy n T=0
 ·rw[if_pos h];simp[h]
 ·rw[if_neg h];simp[h]
theorem Nr:∀T:List Co,Ka (Hx T)=some (BM T)
 | []=>rfl
 | t::T=>by
  show(Ka (Hx T)).bind (fun r=>some (t.1::r))=some (t.1::BM T)
  rw[Nr T];rfl
theorem Hg(l:List Int):(Di l).length=l.length:=(Ds l).length_eq
theorem XL{l:List Int}{x:Int}:x∈Di l↔x∈l:=(Ds l).mem_iff
theorem LL(q:Rat):ES q.num≠0↔q≠0:=by
 constructor
 ·rintro h rfl;exact h rfl
 ·intro h h2
  rcases Gc q.num with⟨_,e⟩ | ⟨e,_⟩ | ⟨_,e⟩
  ·rw[e]at h2;exact absurd h2 (by decide)
  ·exact h (Rat.num_eq_zero.1 e)
  ·rw[e]at h2;exact absurd h2 (by decide)
section
variable{E:CU}{s:AE}
theorem YP(hE:GoodN E){x:Bool}{a d:Option (Nat×Nat)}{n m mi:Nat}{ca cd:Option Nat}{K:AV→AE→Prop}
  (hK:∀s',s'.next=s.next+1→Af s.next s s'→s'.heap.get s.next=some (BP x (.slice a n ca) (.slice d m cd) mi)→K (.func 77 [] [.ptr (some (s.next,0))]) s'):WF E 41 [.agg [.bool x,.slice a n ca,.slice d m cd,.map (some mi)]] K s:=by
 refine hE.go sD (by decide) rfl ?_
 obtain⟨n1,o1,g1⟩:=CC s (BP x (.slice a n ca) (.slice d m cd) mi)
 simp only[wh,mS,mT,Xa,Xh,Xc,zD,yx,Qa,Qb,Qc,Qd,Qf,Qh,Qi,Qj,Qk,Ql,Qm,Qo,true_and,Qp,Qq,Qr,Qs,Qt,Qv,Rb,Rh,Rj,Rk,Rm,Rn,Yc]
 exact hK _ n1 o1 g1
theorem VC      (hE : KM    E) {sA : AE}  {pb l b mi k : Nat} {T : List Co}  (hPA : Gv   b sA mi T k) (hk : k ≤ 1000000000) (hTl : T.length ≤ 1000000) (ho : Af  sA.next sA s) {x : Bool} {a1 d1 : Option (Nat × Nat)} {n1 m1 : Nat} {c1 e1 : Option Nat}
    (gp:s.heap.get pb=some (BP x (.slice a1 n1 c1) (.slice d1 m1 e1) mi)) (hpb:pb<s.next) {O0:List Nat} (hO0:pb ∉ O0) (hOl:∀j∈O0,sA.next≤j) (LI:List (Int×Rat)→List Nat→AE→Prop)
    (hstab:∀done O S S',LI done O S→Af S.next S S'→LI done O S') (hOlt:∀done O S,LI done O S→∀j∈O,j<S.next)
    (hround:∀ (done:List (Int×Rat)) (n:Int) (q:Rat) (vq:AV) (O:List Nat) (S:AE) (K:AV→AE→Prop),LI done O S→Af sA.next sA S→q≠0→(n,q,vq)∈T→done.length≤T.length →
      (∀S' O',LI (done++[(n,q)]) O' S'→S.next≤S'.next→(∀j,j<S.next→j ∉ O→S'.heap.get j=S.heap.get j)→(∀j∈O',j∈O∨S.next≤j)→K (.bool true) S')→WR E l [iv n,vq] K S)
    {K:AV→AE→Prop} (h0:LI [] O0 s) (hend:∀v S O,Af sA.next sA S→s.next≤S.next→(∀j,j<s.next→j ∉ O0→S.heap.get j=s.heap.get j)→LI (Bu T) O S→K v S):WF E 77 [.yield l,.ptr (some (pb,0))] K s:=by
  refine hE.go sc (by decide) rfl ?_
  have l1:=AI (P:=Tryz.prog) (t:=54) (o:=0+3) YJ gp rfl
  simp only[xL,ol,l1,PJ,Qa,Qb,Qc,Qd,Qf,Qh,Qi,Qj,Qk,Ql,Qm,Qo,true_and,Qr,Qs,Qt,Qv,Rb]
  refine hE.go se (by decide) rfl ?_
  obtain⟨n2,o2,g2⟩:=CC s (R 54 0 false [.map (some mi)])
  simp only[xM,ou,ov,Xa,Xl,Xc,zD,yx,Qa,Qb,Qc,Qd,Qf,Qh,Qi,Qj,Qk,Ql,Qm,Qo,true_and,Qp,Qq,Qr,Qs,Qt,Qv,Rb,Rh,Rj,Rk,Rm,Rn,Yc]
  generalize newObj s (R 54 0 false [.map (some mi)])=s1 at *
  have o01:Af sA.next sA s1:=ho.trans (o2.mono ho.1)
  have hP1:=hPA.old o01
  generalize hks:Di (BM T)=ks
  have hksl:ks.length=T.length:=by rw[← hks,Hg];simp[BM]
  have key:∀ (kv:AV) (s2:AE),Af s1.next s1 s2→(∃a cap,kv=.slice a ks.length cap∧AU s2.next s2 a (ks.map iv)∧∀i o,a=some (i,o)→s1.next≤i∧i<s2.next) →
      WC E none (.loop KR) (fun r=>r.exit=.exit 0∧r.marks=[]∧∃O,Af sA.next sA r.st∧s.next≤r.st.next∧(∀j,j<s.next→j ∉ O0→r.st.heap.get j=s.heap.get j)∧LI (Bu T) O r.st) [.yield l,.ptr (some (pb,0)),BZ,BZ,kv,iv (ks.length:Int),iv 0,BZ,BZ] [] s2:=by
    rintro kv s2 o12 ⟨a,cap,rfl,hcell,haid⟩
    have hloop:∀ (m i:Nat) (S:AE) (O:List Nat) (x2 x3 x7 x8:AV),i+m=ks.length→Af sA.next sA S→s2.next≤S.next→(∀j,j<s2.next→j ∉ O0→S.heap.get j=s2.heap.get j)→(∀j∈O,j∈O0∨s2.next≤j)→LI (PD T (ks.take i)) O S →
        WC E none (.loop KR) (fun r=>r.exit=.exit 0∧r.marks=[]∧∃O,Af sA.next sA r.st∧s.next≤r.st.next∧(∀j,j<s.next→j ∉ O0→r.st.heap.get j=s.heap.get j)∧LI (Bu T) O r.st) [.yield l,.ptr (some (pb,0)),x2,x3,.slice a ks.length cap,iv (ks.length:Int),iv (i:Int),x7,x8] [] S:=by
      intro m
      induction m with
      | zero =>
        intro i S O x2 x3 x7 x8 him hoS hnS hfS hOS hLI
        have e:i=ks.length:=by omega
        subst e
        have dd:decide ((ks.length:Int)<(ks.length:Int))=false:=decide_eq_false (by omega)
        rw[zP]at hLI
        refine WC.loop' ?_
        simp only[KR,du,Ry,dd,Qa,Qb,Qc,Qd,Qf,Qh,Qj,Qm,Qo,true_and,Qp,Qq,Qr,Qs,Qt,Qv,Ra,Rb,Rc,Rd,Re,Rf,Ry]
        refine⟨O,hoS,by have:=o2.1;have:=o12.1;omega,fun j hj hjO=>?_,by unfold Bu;rw[hks];exact hLI⟩
        rw[hfS j (by have:=o12.1;omega) hjO,o12.2 j (by omega),o2.2 j hj]
      | succ m ih =>
        intro i S O x2 x3 x7 x8 him hoS hnS hfS hOS hLI
        have hi:i<ks.length:=by omega
        have hkn:ks[i]? = some ks[i]:=xe hi
        generalize ks[i]=n at hkn
        have hnk:n∈BM T:=by rw[← XL,hks];exact yG hkn
        have hgt:∃p,Fs n T=some p:=by
          cases h:Fs n T with
          | none=>exact absurd hnk (Nn.1 h)
          | some p=>exact⟨p,rfl⟩
        obtain⟨⟨q,vq⟩,hgq⟩:=hgt
        have hmem:=G6 hgq
        have hvq:Cy n T=q:=by unfold Cy;rw[hgq]
        have hPS:=hPA.old hoS
        obtain⟨hq1,hq2,hq3⟩:=hPS.ent _ hmem
        simp only at hq1 hq2 hq3
        have dd:decide ((i:Int)<(ks.length:Int))=true:=decide_eq_true (by omega)
        obtain⟨i0,o0,rfl,hi0,hld⟩:=D9 hcell hkn
        have hid:=haid i0 o0 rfl
        have hi0O:i0 ∉ O0:=fun h=>by have:=hOlt _ _ _ h0 i0 h;have:=o2.1;omega
        have ix:=Ae (cap:=cap) (i:=i0) (o:=o0) Tryz.underlying27 OJ hi
        have hld':AC Tryz.prog S 3 (.ptr (some (i0,o0+i * 1)))=some (iv n):=by
          rw[Wf t7]at hld ⊢
          rw[hfS i0 hid.2 hi0O];exact hld
        have gpS:S.heap.get pb=some (BP x (.slice a1 n1 c1) (.slice d1 m1 e1) mi):=by
          rw[hfS pb (by have:=o12.1;omega) hO0,o12.2 pb (by omega),o2.2 pb hpb];exact gp
        have l1:=AI (P:=Tryz.prog) (t:=54) (o:=0+3) YJ gpS rfl
        have lk:=XS hPS.obj hq3 hgq
        simp only at lk
        obtain⟨xx,aa,nn,kk,bb,mm,ee,hce⟩:=hq1.shape
        obtain⟨n3,o3,g3⟩:=CC S ZQ
        have st:=Ak (P:=Tryz.prog) (t:=26) (cs:=[.bool xx,.slice aa nn kk,.slice bb mm ee]) A9 g3 rfl rfl rfl (by simp)
        rw[← hce]at st
        have hTb:ks.length≤1000000:=by omega
        have e17:=Az Tryz.prog 3 (i:Int) 1 ⟨by omega,by omega⟩
        have e17':((i:Int)+1)=((i+1:Nat):Int):=by omega
        refine WC.loop' ?_
        generalize hW:WC E none (Aa.loop KR) _=WW
        simp only[KR,du,oo,oq,Ry,dd,ix,hld',l1,lk,PJ,CE,Xc,st,Xy,Za,Qa,Qb,Qc,Qd,Qf,Qh,Qj,Qk,Qm,Qo,true_and,Qp,Qq,Qr,Qs,Qt,Qv,Qz,Rb,Rc,Rd,Re,Rf,Ry]
        generalize hs3:setObj (newObj S ZQ) S.next (R 26 0 false [.bool xx,.slice aa nn kk,.slice bb mm ee])=s3 at *
        have o13:Af S.next S s3:=by rw[← hs3];exact o3.set (xZ _) _
        have n3':s3.next=S.next+1:=by rw[← hs3];exact n3
        have g3':s3.heap.get S.next=some (R 26 0 false [.bool xx,.slice aa nn kk,.slice bb mm ee]):=by rw[← hs3,Ww]
        have l3:=AT (P:=Tryz.prog) (t:=26) Bt A9 g3' rfl
        rw[← hce]at l3
        simp only[ot,l3,Qb,Qc,Qd,Qf,Qg,Qh,Qi,Qj,Qk,Qm,Qo,true_and,Qr,Qs,Qt,Qv,Qw,Ru,Rw]
        refine SU hE.toGoodN ((hq1.old o13).qi hq2) hk fun s4 o4=>?_
        have h4:=o4.1
        have o34:Af S.next S s4:=o13.trans (o4.mono o13.1)
        have hLI4:=hstab _ _ _ s4 hLI o34
        have o04:Af sA.next sA s4:=hoS.trans (o34.mono hoS.1)
        have htk:ks.take (i+1)=ks.take i++[n]:=by rw[List.take_add_one,hkn];rfl
        by_cases hz:q=0
        · have dz:decide (ES q.num≠0)=false:=decide_eq_false (fun h=>(LL q).1 h hz)
          simp only[Wd,dz,dv,e17,e17',Qb,Qc,Qd,Qf,Qh,Qi,Qj,Qk,Qm,Qo,true_and,Qp,Qq,Qr,Qs,Qt,Qu,Qv,Qx,Ra,Rs,Wd]
          rw[← hW]
          refine ih (i+1) s4 O _ _ _ _ (by omega) o04 (by omega) (fun j hj hjO=>?_) hOS ?_
          · rw[o34.2 j (by omega),hfS j hj hjO]
          · rw[htk,NY,hvq,if_pos hz,zS];exact hLI4
        · have dz : decide (ES   q.num ≠ 0) = true := decide_eq_true ((LL      q).2 hz)
          have l4:=AT (P:=Tryz.prog) (t:=26) Bt A9 ((o4.2 S.next (by omega)).trans g3') rfl
          rw[← hce]at l4
          simp only[Wd,dz,l4,Qc,Qd,Qe,Qm,Qo,true_and,Qr,Qs,Qt,Qx,Rs,Wd]
          refine hround _ n q vq O s4 _ hLI4 o04 hz hmem (by
            unfold PD
            refine xh (List.length_filter_le _ _) ?_
            rw[yE,xz];omega) fun S' O' hLI' hn' hf' hO'=>?_
          simp only[We,Bool.not_true,dv,e17,e17',Qb,Qc,Qd,Qf,Qh,Qi,Qj,Qk,Qm,Qo,true_and,Qp,Qq,Qr,Qs,Qt,Qv,Qx,Ra,Rs,Ya,We]
          rw[← hW]
          refine ih (i+1) S' O' _ _ _ _ (by omega) ⟨by have:=o04.1;omega,fun j hj=>?_⟩ (by omega) (fun j hj hjO=>?_) (fun j hj=>?_) ?_
          · have hjO:j ∉ O:=fun h=>by
              rcases hOS j h with h | h
              · have:=hOl j h;omega
              · have:=o01.1;have:=o12.1;omega
            rw[hf' j (by have:=o04.1;omega) hjO,o04.2 j hj]
          · have hjO':j ∉ O:=fun h=>by
              rcases hOS j h with h | h
              · exact hjO h
              · omega
            rw[hf' j (by omega) hjO',o34.2 j (by omega),hfS j hj hjO]
          · rcases hO' j hj with h | h
            · exact hOS j h
            · exact .inr (by omega)
          · rw[htk,NY,hvq,if_neg hz];exact hLI'
    exact hloop ks.length 0 s2 O0 _ _ _ _ (by omega) (o01.trans (o12.mono o01.1)) (xZ _) (fun _ _ _=>rfl) (fun j hj=>.inl hj) (hstab _ _ _ s2 h0 (o2.trans (o12.mono o2.1)))
  have fin:∀ (kv:AV) (s2:AE),WC E none (.loop KR) (fun r=>r.exit=.exit 0∧r.marks=[]∧∃O,Af sA.next sA r.st∧s.next≤r.st.next∧(∀j,j<s.next→j ∉ O0→r.st.heap.get j=s.heap.get j)∧LI (Bu T) O r.st) [.yield l,.ptr (some (pb,0)),BZ,BZ,kv,iv (ks.length:Int),iv 0,BZ,BZ] [] s2 →
      WC E none (.loop KR) (Eu 0 (Ends Tryz.prog [] K)) [.yield l,.ptr (some (pb,0)),BZ,BZ,kv,iv (ks.length:Int),iv 0,BZ,BZ] [] s2:=fun kv s2 h=>by
    refine h.mono ?_
    rintro⟨e,v,mm,s'⟩ ⟨q1,q0,O,q2,q3,q4,q5⟩
    simp only at q1 q0 q2 q3 q4 q5
    subst q0
    subst q1
    simp only[if_true,Qm,Rg,Ri,Rj,Rk,Ro]
    exact hend _ _ O q2 q3 q4 q5
  have hrow:rowAt s1 s.next=some { elem:=54,sz:=0,n:=1,c:=Ue [.map (some mi)],spare:=false,mode:=.own,par:=none,bytes:=true }:=by unfold rowAt;rw[g2];rfl
  have hl1:DA s1 s.next 0=some (.map (some mi)):=by rw[E2,g2,Wo];rfl
  have hmat:JC s1 3 mi=some (Hx T):=by unfold JC;rw[hP1.obj];rfl
  have hsm:GB 121 3 3 s1 [.func 121 [] [.ptr (some (s.next,0))]]=Hq 3 (BM T) s1:=by
    unfold GB
    simp only[YS,Bool.and_true,hrow,hl1,hmat,Nr,Option.bind_some,Xg]
  cases hkt:BM T with
  | nil =>
    have hk0:ks=[]:=by rw[← hks,hkt];rfl
    have hn:E.nat 78 [.func 121 [] [.ptr (some (s.next,0))]] s1=some (.slice none 0 (some 0),s1):=by rw[hE.srt,hsm,hkt];rfl
    refine WF.nat hn ?_
    simp only[AH Tryz.underlying27,Qd,Qm,Qo,true_and,Qp,Qq,Qr,Qs]
    have:=fin (.slice none ks.length (some 0)) s1 (key _ s1 (Af.refl _ _) ⟨none,some 0,rfl,by rw[hk0];exact AU.nil,fun i o e=>by cases e⟩)
    rw[hk0]at this
    exact this
  | cons k0 tl =>
    have hlen:(k0::tl).length=ks.length:=by rw[← hkt,← hks,Hg]
    have hr:Cs 3 1 (AZ.fill .leaf 0 ((Di (k0::tl)).map XM)) (k0::tl).length none true=R 3 1 true (ks.map iv):=by
      rw[← hkt,hks]
      have e:(BM T).length=(ks.map XM).length:=by rw[yE,← hks,Hg]
      rw[e]
      exact UH 3 1 (ks.map XM)
    have hn:E.nat 78 [.func 121 [] [.ptr (some (s.next,0))]] s1=some (.slice (some (s1.next,0)) ks.length none,newObj s1 (R 3 1 true (ks.map iv))):=by
      rw[hE.srt,hsm,hkt]
      show AP (Nat.ble (k0::tl).length 1000000) (some (AV.slice (some (s1.next,0)) (k0::tl).length none,newObj s1 (Cs 3 1 (AZ.fill .leaf 0 ((Di (k0::tl)).map XM)) (k0::tl).length none true)))=_
      rw[hr,hlen,CQ (show ks.length≤1000000 by omega)]
      rfl
    refine WF.nat hn ?_
    simp only[AH Tryz.underlying27,Qd,Qm,Qo,true_and,Qp,Qq,Qr,Qs]
    obtain⟨n5,o5,g5⟩:=CC s1 (R 3 1 true (ks.map iv))
    exact fin (.slice (some (s1.next,0)) ks.length none) _ (key _ _ o5 ⟨some (s1.next,0),none,rfl,Hb g5 (by omega),fun i o e=>by
      injection e with e
      injection e with e1 e2
      subst e1;subst e2
      exact⟨xZ _,by omega⟩⟩)
end
end
end Go.Proofs.YtjnkfbpadpmakaaGreatDoor.Am
set_option linter.unusedVariables false
namespace Go.Proofs.YtjnkfbpadpmakaaGreatDoor.Am
open Go Go.Proofs
noncomputable section
def JE:P9:=LK [15] qz
theorem Ub:Ei Tryz.prog JE:=Ua Pi (IW MZ) rfl jr fun r hr=>by
 simp only[qz,A0H]at hr
 subst hr
 exact⟨rfl,rfl,gU⟩
def SH:P9:=fun f xs s=>match JE f xs s with
 | some p=>some p
 | none=>UZ f xs s
theorem fm:Ei Tryz.prog SH:=by
 intro ρ s w f xs v s1 xs' hc hi hf ha
 unfold SH at hc
 cases h:JE f xs s with
 | some p=>rw[h]at hc;injection hc with hc;subst hc;exact Ub ρ s w f xs v s1 xs' h hi hf ha
 | none=>rw[h]at hc;exact WD ρ s w f xs v s1 xs' hc hi hf ha
def qf:CU:=⟨Tryz.prog,SH⟩
theorem vG:KM qf where
 P:=rfl
 nat:=fun f xs s hf=>by
  have h1:Nat.beq f 78=false:=Dl fun e=>hf (by simp[e])
  have h2:Nat.beq f 15=false:=Dl fun e=>hf (by simp[e])
  have e1:JE f xs s=none:=by simp[JE,LK,h2]
  have e2:UZ f xs s=none:=by simp[UZ,h1]
  show SH f xs s=none
  simp[SH,e1,e2]
 srt:=fun xs s=>rfl
 wk:=fun s=>rfl
end
end Go.Proofs.YtjnkfbpadpmakaaGreatDoor.Am
set_option linter.unusedVariables false
set_option linter.unusedSimpArgs false
set_option maxRecDepth 16000
namespace Go.Proofs.YtjnkfbpadpmakaaGreatDoor.Am
open Go Go.Proofs
noncomputable section
theorem W5{W:World}{ρ:BU}{s:AE}{f:FuncId}{xs:List AV}{args:Array Value}(hd:Gl Tryz.prog W ρ s)(ha:AX ρ xs args.toList)(h:WF qf f xs (fun r _=>r=.bool true) s):
  Calls Tryz.prog f args W fun e W'=>e=.returned (.bool true)∧OW W W':=by
 obtain⟨n,p,h1,h2⟩:=h
 have:=((wI Pi (IW MZ) rfl fm n).call ρ s W f xs p.1 p.2 args h1 hd.inv hd.fresh ha).2
 refine callsIn_wide.1 (CallsIn.mono this ?_)
 intro e w' he
 cases e with
 | panicked c=>exact he.elim
 | outgrown=>exact he.elim
 | returned v' =>
  obtain⟨ρ',k1,k2,k3⟩:=he
  rw[h2]at k1
  cases k1
  exact⟨rfl,jj k3 hd.notOwned⟩
theorem reads_again{H:Type}{enc:TypeId×Value→H}{P:Program}{t:TypeId}(hl:laidOutB P=true)(hr:P.readableRec t=true)(hrow:t<P.types.size){W W':World}{v:Value}{d:DataW H}{ps:List MemPlace}{sp:Nat→Bool}
  (h:DataW.Trod enc P W 0 (fun _=>true) true t v d ps) (hk:OW W W') (hlt:∀x∈ps,x.block<W.heap.size) (hs:∀x∈ps,sp x.block=true):DataW.Trod enc P W' 0 sp true t v d ps:=
 WideElems.Trod_stays hl hr hrow h (fun x hx=>by
  have:=hlt x hx
  cases x with
  | cell b o=>exact World.cell?_of_block (w:=W) (hk.heap b this)
  | map b=>exact hk.heap b this) hs
theorem HM{e st sz by_:Nat}(ht:Tryz.prog.underlying st=some (.slice e))(hs:BG Tryz.prog e=some sz)(hby:DL Tryz.prog e=some by_)(h0:0<sz)(hx:Bv Tryz.prog st=true)(hz:DF Tryz.prog e sz=true)(hbl:by_≤1000){S:AE}{v:AV}{n r:Nat}{cs add:List AV}{O:List Nat}(hd:E5 e sz S v n cs O){ez:Nat}(hr:S.heap.get r=some (R ez sz false add))(ha:add.length=sz)(hc:An add=true)(hn:n≤1000000000):
  ∃v' s' O',Ar Tryz.prog S [st,st] [v,.slice (some (r,0)) 1 (some 1)]=some (v',s')∧E5 e sz s' v' (n+1) (cs++add) O'∧s'.next=S.next+1∧(∀j,j<S.next→j ∉ O→s'.heap.get j=S.heap.get j)∧(∀j∈O',j∈O∨S.next≤j):=by
 have hsrc:Ck Tryz.prog S e sz (.slice (some (r,0)) 1 (some 1))=some (1,add):=Pz ez sz (by rw[hr];rfl) (by omega)
 have hb1:(n+1) * by_≤(1000000000+1) * 1000:=yh (by omega) hbl
 obtain⟨v',s',O',happ,hb',hn',hf,hO,_⟩:=hd.append (xt:=st) (m:=1) ht hs hby h0 hx hz (by omega) hsrc (by omega) hc (by omega) (by omega)
 exact⟨v',s',O',happ,hb',hn',hf,hO⟩
theorem iB:DF Tryz.prog 3 1=true:=by kernel_rfl
theorem Wm:Bv Tryz.prog 27=true:=by kernel_rfl
theorem U2:DF Tryz.prog 26 3=true:=by kernel_rfl
theorem P4:Bv Tryz.prog 28=true:=by kernel_rfl
theorem Se(n:Int):Ad Tryz.prog 27 1 (zipIdx [0] [iv n])=some (R 3 1 false [iv n]):=by kernel_rfl
theorem JS(x:Bool)(a b:Option (Nat×Nat))(n m:Nat)(c d:Option Nat):Ad Tryz.prog 28 1 (zipIdx [0] [.agg [.bool x,.slice a n c,.slice b m d]])=some (R 26 3 false [.bool x,.slice a n c,.slice b m d]):=by kernel_rfl
def G9(D:List Co):List AV:=D.map fun t=>iv t.1
def DP(D:List Co):List AV:=(D.map fun t=>t.2.2.cells).flatten
abbrev BL(x:Bool)(m d vv cv:AV):BD:=R 30 0 false [.bool x,m,d,vv,cv]
def GW (v0:AV) (pb p:Nat) (x3 x4 fn x6 x7:AV) (mk:Nat):Df:=
 Hi 33 [v0,.ptr (some (pb,0)),.ptr (some (p,0)),x3,x4,fn,x6,x7] #[10,11] cN cO mk
structure P8(lo:Df)(p l:Nat)(T:List Co)(x:Bool)(m d:AV)(done:List (Int×Rat))(O:List Nat)(S:AE):Prop where
 lp:Bb S l=some lo
 ll:l<S.next
 ex:∃vv cv D O1 O2,S.heap.get p=some (BL x m d vv cv)∧E5 3 1 S vv D.length (G9 D) O1∧E5 26 3 S cv D.length (DP D) O2∧O=p::l::(O1++O2)∧(∀j∈O1,l<j∧j ∉ O2)∧(∀j∈O2,l<j)∧done=(D.map fun t=>(t.1,t.2.1))∧(∀t∈D,t∈T)
theorem P8.olt{lo:Df}{p l:Nat}{T:List Co}{x:Bool}{m d:AV}{done:List (Int×Rat)}{O:List Nat}{S:AE}(h:P8 lo p l T x m d done O S)(hp:p<l):∀j∈O,j<S.next:=by
  obtain⟨_,h2,vv,cv,D,O1,O2,_,b1,b2,rfl,_⟩:=h
  intro j hj
  rcases List.mem_cons.1 hj with rfl | hj
  · omega
  · rcases List.mem_cons.1 hj with rfl | hj
    · exact h2
    · rcases zx.1              hj with hj | hj
      · exact b1.lt j hj
      · exact b2.lt j hj
theorem P8.stab{lo:Df}{p l:Nat}{T:List Co}{x:Bool}{m d:AV}{done:List (Int×Rat)}{O:List Nat}{S S':AE}(h:P8 lo p l T x m d done O S)(hp:p<l)(o:Af S.next S S'):P8 lo p l T x m d done O S':=by
 obtain⟨h1,h2,vv,cv,D,O1,O2,g,b1,b2,h3⟩:=h
 exact⟨(Dy (o.2 l h2)).trans h1,xi h2 o.1,vv,cv,D,O1,O2,(o.2 p (by omega)).trans g,b1.frame o.1 fun j hj=>o.2 j (b1.lt j hj),b2.frame o.1 fun j hj=>o.2 j (b2.lt j hj),h3⟩
section
variable{E:CU}
theorem XQ        (hE : GoodN E) {v0 x3 x4 fn x6 x7 : AV} {pb p l mk : Nat} {T : List Co}  {x : Bool} {m d : AV} {done : List (Int × Rat)} {O : List Nat} {S : AE}  (hpl : p < l) (hT : T.length ≤ 1000000) (hdl : done.length ≤ 1000000000)
    (hI:P8 (GW v0 pb p x3 x4 fn x6 x7 mk) p l T x m d done O S) {n:Int} {q:Rat} {vq:AV} {b:Nat} (hmem:(n,q,vq)∈T) (hq:QR b S vq q) {K:AV→AE→Prop}
    (hK:∀S' O',P8 (GW v0 pb p x3 x4 fn x6 x7 mk) p l T x m d (done++[(n,q)]) O' S'→S.next≤S'.next→(∀j,j<S.next→j ∉ O→S'.heap.get j=S.heap.get j)→(∀j∈O',j∈O∨S.next≤j)→K (.bool true) S'):WR E l [iv n,vq] K S:=by
  obtain⟨hlp,hll,vv,cv,D,O1,O2,gp,b1,b2,hO,H4,LD,hdn,hDT⟩:=hI
  obtain⟨xx,aa,nn,kk,bb,mm,ee,rfl⟩:=hq.shape
  have hz:DY (De E.P 33) (GW v0 pb p x3 x4 fn x6 x7 mk).var [10,11] [iv n,.agg [.bool xx,.slice aa nn kk,.slice bb mm ee]]=some [v0,.ptr (some (pb,0)),.ptr (some (p,0)),x3,x4,fn,iv n,.agg [.bool xx,.slice aa nn kk,.slice bb mm ee]]:=by
    rw[hE.P,cR];rfl
  refine WR.round hlp hz (by rw[hE.P];exact rO) (by rw[hE.P];exact rP) ?_
  refine EY ?_
  obtain⟨n2,o2,g2⟩:=CC S ZQ
  have st:=Ak (P:=Tryz.prog) (t:=26) (cs:=[.bool xx,.slice aa nn kk,.slice bb mm ee]) A9 g2 rfl rfl rfl (by simp)
  simp only[cP,ln,ls,CE,Xc,st,Xy,Za,Qa,Qb,Qc,Qd,Qf,Qh,Qj,Qm,Qo,true_and,Qp,Qq,Qr,Qs,Qt,Qv,Rb]
  generalize hs2:setObj (newObj S ZQ) S.next (R 26 0 false [.bool xx,.slice aa nn kk,.slice bb mm ee])=s2 at *
  have os2:Af S.next S s2:=by rw[← hs2];exact o2.set (xZ _) _
  have n3:s2.next=S.next+1:=by rw[← hs2];exact n2
  have g3:s2.heap.get S.next=some (BQ xx (.slice aa nn kk) (.slice bb mm ee)):=by rw[← hs2,Ww]
  refine⟨_,(Dy (os2.2 l hll)).trans hlp,rfl,EY ?_⟩
  generalize hs4:setObj s2 l _=s4
  have n4:s4.next=s2.next:=by rw[← hs4];rfl
  have f4:∀j,j≠l→s4.heap.get j=s2.heap.get j:=fun j hj=>by rw[← hs4,Wx _ hj]
  have l4:Bb s4 l=some { GW v0 pb p x3 x4 fn x6 x7 mk with state:=.busy }:=by rw[← hs4,DO]
  have hpO1:p ∉ O1:=fun h=>by have:=(H4 p h).1;omega
  have hpO2:p ∉ O2:=fun h=>by have:=LD p h;omega
  have hlO1:l ∉ O1:=fun h=>by have:=(H4 l h).1;omega
  have hlO2:l ∉ O2:=fun h=>by have:=LD l h;omega
  have gp4:s4.heap.get p=some (BL x m d vv cv):=by rw[f4 p (by omega),os2.2 p (by omega)];exact gp
  have gc4:s4.heap.get S.next=some (BQ xx (.slice aa nn kk) (.slice bb mm ee)):=by rw[f4 _ (by omega)];exact g3
  have lv:=AI (P:=Tryz.prog) (t:=27) (o:=0+3) (v:=vv) Fc gp4 rfl
  obtain⟨n5,o5,g5⟩:=CC s4 (R 3 1 false [iv n])
  generalize hs5:newObj s4 (R 3 1 false [iv n])=s5 at *
  have lc:=AI (P:=Tryz.prog) (t:=28) (s:=s5) (i:=p) (o:=0+4) (v:=cv) Eb ((o5.2 p (by omega)).trans gp4) rfl
  have lq:=AT (P:=Tryz.prog) (t:=26) (s:=s5) (i:=S.next) Bt A9 ((o5.2 _ (by omega)).trans gc4) rfl
  obtain⟨n6,o6,g6⟩:=CC s5 (R 26 3 false [.bool xx,.slice aa nn kk,.slice bb mm ee])
  generalize hs6:newObj s5 (R 26 3 false [.bool xx,.slice aa nn kk,.slice bb mm ee])=s6 at *
  have f46:∀j,j<s4.next→s6.heap.get j=s4.heap.get j:=fun j hj=>by rw[o6.2 j (by omega),o5.2 j hj]
  have f06:∀j,j<S.next→j≠l→s6.heap.get j=S.heap.get j:=fun j hj hne=>by rw[f46 j (by omega),f4 j hne,os2.2 j hj]
  have b1':E5 3 1 s6 vv D.length (G9 D) O1:=b1.frame (by omega) fun j hj=>f06 j (b1.lt j hj) (fun e=>hlO1 (e▸hj))
  have b2':E5 26 3 s6 cv D.length (DP D) O2:=b2.frame (by omega) fun j hj=>f06 j (b2.lt j hj) (fun e=>hlO2 (e▸hj))
  have hDl:D.length≤1000000000:=by rw[hdn]at hdl;simpa using hdl
  have r1:s6.heap.get s4.next=some (R 3 1 false [iv n]):=by rw[o6.2 _ (by omega)];exact g5
  obtain⟨v7,s7,O7,happ7,b7,n7,f7,hO7⟩:=HM Tryz.underlying27 OJ ve (by decide) Wm iB (by decide) b1' r1 rfl rfl hDl
  have b2'':E5 26 3 s7 cv D.length (DP D) O2:=b2'.frame (by omega) fun j hj=>f7 j (b2'.lt j hj) (fun h=>(H4 j h).2 hj)
  have r2:s7.heap.get s5.next=some (R 26 3 false [.bool xx,.slice aa nn kk,.slice bb mm ee]):=by
    rw[f7 _ (by omega) (fun h=>by have:=b1.lt _ h;omega)];exact g6
  obtain⟨v8,s8,O8,happ8,b8,n8,f8,hO8⟩:=HM Tryz.underlying28 A9 rG (by decide) P4 U2 (by decide) b2'' r2 rfl rfl hDl
  have b7':E5 3 1 s8 v7 (D.length+1) (G9 D++[iv n]) O7:=b7.frame (by omega) fun j hj=>f8 j (b7.lt j hj) (fun h=>by
    rcases hO7 j hj with h' | h'
    · exact(H4 j h').2 h
    · have:=b2'.lt j h;omega)
  have gp7:s7.heap.get p=some (BL x m d vv cv):=by rw[f7 p (by omega) hpO1,f46 p (by omega)];exact gp4
  have gp8:s8.heap.get p=some (BL x m d vv cv):=by rw[f8 p (by omega) hpO2];exact gp7
  have ag1:AC Tryz.prog s7 26 (.ptr (some (S.next,0)))=some (.agg [.bool xx,.slice aa nn kk,.slice bb mm ee]):=AT Bt A9 (by rw[f7 _ (by omega) (fun h=>by have:=b1.lt _ h;omega),f46 _ (by omega)];exact gc4) rfl
  have ag2:AC Tryz.prog s7 28 (.ptr (some (p,0+4)))=some cv:=AI (o:=0+4) Eb gp7 rfl
  obtain⟨_,_,ecv,_⟩:=b2.slice
  obtain⟨_,_,ev7,_⟩:=b7.slice
  obtain⟨_,_,ev8,_⟩:=b8.slice
  have st9:=Bn (P:=Tryz.prog) (t:=27) (o:=0+3) (v:=v7) vM gp8 (by simp) (by rw[ev7];rfl)
  generalize hs9:setObj s8 p (R 30 0 false ([AV.bool x,m,d,vv,cv].set (0+3) v7))=s9 at st9
  have gp9:s9.heap.get p=some (BL x m d v7 cv):=by rw[← hs9,Ww];rfl
  have f9:∀j,j≠p→s9.heap.get j=s8.heap.get j:=fun j hj=>by rw[← hs9,Wx _ hj]
  have st10:=Bn (P:=Tryz.prog) (t:=28) (o:=0+4) (v:=v8) kI gp9 (by simp) (by rw[ev8];rfl)
  generalize hs10:setObj s9 p (R 30 0 false ([AV.bool x,m,d,v7,cv].set (0+4) v8))=s10 at st10
  have gp10:s10.heap.get p=some (BL x m d v7 v8):=by rw[← hs10,Ww];rfl
  have f10:∀j,j≠p→s10.heap.get j=s9.heap.get j:=fun j hj=>by rw[← hs10,Wx _ hj]
  have n9:s9.next=s8.next:=by rw[← hs9];rfl
  have n10:s10.next=s9.next:=by rw[← hs10];rfl
  have fall:∀j,j<s4.next→j ∉ O1→j ∉ O2→j≠p→s10.heap.get j=s4.heap.get j:=fun j hj h1 h2 h3=>by
    rw[f10 j h3,f9 j h3,f8 j (by omega) h2,f7 j (by omega) h1,f46 j hj]
  have l10:Bb s10 l=some { GW v0 pb p x3 x4 fn x6 x7 mk with state:=.busy }:=by
    rw[Dy (fall l (by omega) hlO1 hlO2 (by omega))];exact l4
  simp only[cQ,lw,lv,Se,hs5,Xe,lc,lq,JS,hs6,happ7,Cz,C0,Qa,Qb,Qc,Qd,Qf,Qh,Qj,Qk,Qm,Qo,true_and,and_true,Qr,Qs,Qt,Qv,Re,Yc]
  refine⟨⟨As (by simp only[Qj,Qk,Qr,Qs];exact ag1) (Cr _ _ _ _ _ _ _),As (by simp only[Qk,Qr,Qs];exact ag2) (by simp only[Qk,Qr,Qs];rw[ecv];exact BJ _ _ _)⟩,?_⟩
  simp only[happ8,st9,st10,Xy,Za,Qm]
  refine⟨_,l10,hK _ (p::l::(O7++O8)) ⟨?_,?_,v7,v8,D++[(n,q,.agg [.bool xx,.slice aa nn kk,.slice bb mm ee])],O7,O8,?_,?_,?_,rfl,fun j hj=>⟨?_,fun h=>?_⟩,fun j hj=>?_,?_,fun t ht=>?_⟩ ?_ (fun j hj hjO=>?_) (fun j hj=>?_)⟩
  · rw[DO];rfl
  · show l<s10.next;omega
  · rw[Wx _ (by omega)];exact gp10
  · have e:G9 (D++[(n,q,AV.agg [.bool xx,.slice aa nn kk,.slice bb mm ee])])=G9 D++[iv n]:=by simp[G9]
    rw[e,xp]
    refine b7'.frame (by show s8.next≤s10.next;omega) fun j hj=>?_
    have hjl:l<j:=by
      rcases hO7 j hj with h | h
      · exact(H4 j h).1
      · omega
    rw[Wx _ (by omega),f10 j (by omega),f9 j (by omega)]
  · have e:DP (D++[(n,q,AV.agg [.bool xx,.slice aa nn kk,.slice bb mm ee])])=DP D++[.bool xx,.slice aa nn kk,.slice bb mm ee]:=by simp[DP,AV.cells]
    rw[e,xp]
    refine b8.frame (by show s8.next≤s10.next;omega) fun j hj=>?_
    have hjl:l<j:=by
      rcases hO8 j hj with h | h
      · exact LD j h
      · omega
    rw[Wx _ (by omega),f10 j (by omega),f9 j (by omega)]
  · rcases hO7 j hj with h | h
    · exact(H4 j h).1
    · omega
  · rcases hO7 j hj with h' | h'
    · rcases hO8 j h with h2 | h2
      · exact(H4 j h').2 h2
      · have:=b1.lt j h';omega
    · rcases hO8 j h with h2 | h2
      · have:=b2.lt j h2;omega
      · have:=b7.lt j hj;omega
  · rcases hO8 j hj with h | h
    · exact LD j h
    · omega
  · rw[hdn];simp
  · rcases zx.1              ht with ht | ht
    · exact hDT t ht
    · rw[A0H.1 ht];exact hmem
  · show S.next≤s10.next;omega
  · have h1 : j ∉ O1 := fun h => hjO (by rw [hO]; simp [h])
    have h2:j ∉ O2:=fun h=>hjO (by rw[hO];simp[h])
    have h3:j≠p:=fun h=>hjO (by rw[hO,h];simp)
    have h4:j≠l:=fun h=>hjO (by rw[hO,h];simp)
    rw[Wx _ h4,fall j (by omega) h1 h2 h3,f4 j h4,os2.2 j hj]
  · rw [hO]
    rcases List.mem_cons.1 hj with rfl | hj
    · exact .inl (by simp)
    · rcases List.mem_cons.1 hj with rfl | hj
      · exact .inl (by simp)
      · rcases zx.1              hj with hj | hj
        · rcases hO7 j hj with h | h
          · exact .inl (by simp[h])
          · exact .inr (by omega)
        · rcases hO8 j hj with h | h
          · exact .inl (by simp[h])
          · exact .inr (by omega)
end
def LR(b:Nat)(s:AE)(v:AV)(C:Rat)(L:List (Int×Rat)):Prop:=∃x a n ca d m cd vv cv D O1 O2,
 v=.agg [.bool x,.slice a n ca,.slice d m cd,vv,cv]∧QR b s (.agg [.bool x,.slice a n ca,.slice d m cd]) C∧L=(D.map fun t=>(t.1,t.2.1)) ∧
 (∀t∈D,QR b s t.2.2 t.2.1∧i64 t.1∧YH (.agg [.bool x,.slice a n ca,.slice d m cd]) t.2.2)∧(D.Pairwise fun t u=>YH t.2.2 u.2.2) ∧
 E5 3 1 s vv D.length (G9 D) O1∧E5 26 3 s cv D.length (DP D) O2∧(∀j∈O1,b≤j∧j ∉ O2)∧(∀j∈O2,b≤j) ∧
 ∃l0,(∀j∈O1,l0≤j)∧(∀j∈O2,l0≤j)∧(∀j∈Dd (.agg [.bool x,.slice a n ca,.slice d m cd]),j<l0)∧∀t∈D,∀j∈Dd t.2.2,j<l0
theorem WG{Rl:Co→Co→Prop}(hs:∀t u,Rl t u→Rl u t):∀ {T:List Co},T.Pairwise Rl→∀t∈T,∀u∈T,t≠u→Rl t u
  | [],_,t,ht,_,_,_=>by cases ht
  | x::T,h,t,ht,u,hu,hne=>by
    obtain⟨h1,h2⟩:=List.pairwise_cons.1 h
    rcases List.mem_cons.1 ht with e1 | ht'
    · rcases List.mem_cons.1 hu with e2 | hu'
      · exact absurd (e1.trans e2.symm) hne
      · rw[e1];exact h1 u hu'
    · rcases List.mem_cons.1 hu with e2 | hu'
      · rw[e2];exact hs _ _ (h1 t ht')
      · exact WG hs h2 t ht' u hu' hne
theorem KY{l:List Int}(h:l.Nodup):(Di l).Nodup:=(Ds l).nodup_iff.2 h
theorem T3{T:List Co}(h:(BM T).Nodup):((Bu T).map (·.1)).Nodup:=by
 have h1:((Di (BM T)).map fun n=>(n,Cy n T)).map (·.1)=Di (BM T):=by rw[yr];exact List.map_id _
 have h2:((Bu T).map (·.1)).Sublist (Di (BM T)):=by
  rw[← h1]
  exact List.Sublist.map _ List.filter_sublist
 exact h2.nodup (KY h)
theorem gB{T D:List Co}(h:T.Pairwise fun t u=>YH t.2.2 u.2.2)(hD:∀t∈D,t∈T)(hn:(D.map (·.1)).Nodup):D.Pairwise fun t u=>YH t.2.2 u.2.2:=by
 induction D with
 | nil=>exact .nil
 | cons t D ih =>
  obtain⟨h1,h2⟩:=List.nodup_cons.1 (show(t.1::D.map (·.1)).Nodup from hn)
  refine List.pairwise_cons.2 ⟨fun u hu=>?_,ih (fun u hu=>hD u (yK _ hu)) h2⟩
  refine WG (fun t u h=>h.symm) h t (hD t yC) u (hD u (yK _ hu)) ?_
  rintro rfl
  exact h1 (List.mem_map.2 ⟨t,hu,rfl⟩)
theorem El:Ag Tryz.prog 30=some (BL false (.slice none 0 (some 0)) (.slice none 0 (some 0)) (.slice none 0 (some 0)) (.slice none 0 (some 0)),.ptr):=by kernel_rfl
section
variable{E:CU}{s:AE}
theorem UQ(hE:KM E){b mi k:Nat}{v:AV}{c:Rat}{T:List Co}(hv:PV b s v mi c T k)(hb:b≤s.next)(hk:k≤1000000000)(hTl:T.length≤1000000){K:AV→AE→Prop}
  (hK:∀s' w,Af s.next s s'→LR b s' w c (Bu T)→K w s'):WF E 33 [v] K s:=by
 obtain⟨x,a,n,ca,d,m,cd,rfl,hP⟩:=hv
 refine hE.go rl (by decide) rfl ?_
 obtain⟨n1,o1,g1,g2⟩:=EO s (BP x (.slice a n ca) (.slice d m cd) mi) (BL false (.slice none 0 (some 0)) (.slice none 0 (some 0)) (.slice none 0 (some 0)) (.slice none 0 (some 0)))
 simp only[wY,lZ,lh,Xa,Xh,El,Xc,Aq,PI,IP,Qa,Qb,Qc,Qd,Qf,Qh,Qj,Qk,Ql,Qm,Qo,true_and,Qp,Qq,Qr,Qs,Qt,Qv,Rb,Rh]
 generalize newObj (newObj s (BP x (.slice a n ca) (.slice d m cd) mi)) (BL false (.slice none 0 (some 0)) (.slice none 0 (some 0)) (.slice none 0 (some 0)) (.slice none 0 (some 0)))=s1 at *
 have l1:AC Tryz.prog s1 26 (.ptr (some (s.next,0+0)))=some (.agg [.bool x,.slice a n ca,.slice d m cd]):=Av (o:=0) (n:=3) Bt A9 g1 (by simp)
 have st:AS Tryz.prog s1 26 (.ptr (some (s.next+1,0+0))) (.agg [.bool x,.slice a n ca,.slice d m cd])=some (setObj s1 (s.next+1) (BL x (.slice a n ca) (.slice d m cd) (.slice none 0 (some 0)) (.slice none 0 (some 0)))):=M6 (off:=0) A9 g2 rfl (by simp) rfl (by simp)
 generalize hs2:setObj s1 (s.next+1) (BL x (.slice a n ca) (.slice d m cd) (.slice none 0 (some 0)) (.slice none 0 (some 0)))=s2 at st
 have n2:s2.next=s1.next:=by rw[← hs2];rfl
 have o2:Af s.next s s2:=by rw[← hs2];exact o1.set (by omega) _
 have k1:s2.heap.get s.next=some (BP x (.slice a n ca) (.slice d m cd) mi):=by rw[← hs2,Wx _ (by omega)];exact g1
 have k2:s2.heap.get (s.next+1)=some (BL x (.slice a n ca) (.slice d m cd) (.slice none 0 (some 0)) (.slice none 0 (some 0))):=by rw[← hs2,Ww]
 have l2:=AT (P:=Tryz.prog) (t:=56) QE Kt k1 rfl
 simp only[lj,l1,st,l2,Xy,Za,Qb,Qc,Qd,Qf,Qh,Qj,Qk,Qm,Qo,true_and,Qr,Qs,Qt,Qv]
 refine YP hE.toGoodN fun s3 n3 o3 g3=>?_
 have k3:=(o3.2 (s.next+1) (by omega)).trans k2
 simp only[Qd,Qo,true_and,Qp,Qq]
 refine WC.range rfl ?_
 show WF E 77 [.yield (s3.next+1),.ptr (some (s2.next,0))] _ (newObj (newObj s3 .mark) (.loop (GW _ s.next (s.next+1) _ _ _ _ _ s3.next)))
 generalize hlo:GW _ s.next (s.next+1) _ _ _ _ _ s3.next=lo
 have hm1:(newObj s3 .mark).next=s3.next+1:=rfl
 generalize hs5:newObj (newObj s3 .mark) (.loop lo)=s5
 have n5:s5.next=s3.next+2:=by rw[← hs5];rfl
 have f5:∀j,j<s3.next→s5.heap.get j=s3.heap.get j:=fun j hj=>by rw[← hs5,AW,if_neg (by omega),AW,if_neg (by omega)]
 have hmk5:s5.heap.get s3.next=some .mark:=by rw[← hs5,AW,if_neg (by omega),AW,if_pos rfl]
 have hlp5:Bb s5 (s3.next+1)=some lo:=by
  unfold Bb
  rw[← hs5,AW,if_pos hm1.symm]
 have o35:Af s3.next s3 s5:=⟨by omega,f5⟩
 have o25:Af s2.next s2 s5:=o3.trans (o35.mono o3.1)
 have o05:Af s.next s s5:=o2.trans (o25.mono o2.1)
 refine VC hE (sA:=s) (pb:=s2.next) (l:=s3.next+1) hP.map hk hTl o05 ((f5 _ (by omega)).trans g3) (by omega) (O0:=[s.next+1,s3.next+1]) (by simp;omega) (fun j hj=>by simp at hj;omega)
  (P8 lo (s.next+1) (s3.next+1) T x (.slice a n ca) (.slice d m cd)) (fun done O S S' h o=>h.stab (by omega) o) (fun done O S h=>h.olt (by omega)) (fun done n' q vq O S K2 hI hoS hq hmem hdl hK2=>?_)
  ⟨hlp5,by omega,_,_,[],[],[],(f5 _ (by omega)).trans k3,E5.nil _ _ _,E5.nil _ _ _,rfl,fun j hj=>(by cases hj),fun j hj=>(by cases hj),rfl,fun t ht=>by cases ht⟩ fun v S O hoS hnS hfS hI=>?_
 ·subst hlo
  exact XQ hE.toGoodN (by omega) hTl (by omega) hI hmem ((hP.map.old hoS).ent _ hmem).1 hK2
 obtain⟨hlp,hll,vv,cv,D,O1,O2,gp,b1,b2,hO,H4,LD,hdn,hDT⟩:=hI
 refine⟨lo,hlp,by rw[← hlo];rfl,?_⟩
 have hpd:lo.pending=none:=by rw[← hlo];rfl
 rw[hpd]
 generalize hs6:setObj S (s3.next+1) _=s6
 have n6:s6.next=S.next:=by rw[← hs6];rfl
 have f6:∀j,j≠s3.next+1→s6.heap.get j=S.heap.get j:=fun j hj=>by rw[← hs6,Wx _ hj]
 have g6:s6.heap.get (s.next+1)=some (BL x (.slice a n ca) (.slice d m cd) vv cv):=by rw[f6 _ (by omega)];exact gp
 have l6:=AT (P:=Tryz.prog) (t:=30) GJ Fk g6 rfl
 obtain⟨av,capv,evv,_⟩:=b1.slice
 obtain⟨ac,capc,ecv,_⟩:=b2.slice
 have st6:=Ak (P:=Tryz.prog) (t:=30) (cs:=[.bool x,.slice a n ca,.slice d m cd,vv,cv]) Fk g6 rfl rfl (by rw[evv,ecv];rfl) (by simp)
 generalize hs7:setObj s6 (s.next+1) (R 30 0 false [.bool x,.slice a n ca,.slice d m cd,vv,cv])=s7 at st6
 have f7:∀j,j≠s.next+1→s7.heap.get j=s6.heap.get j:=fun j hj=>by rw[← hs7,Wx _ hj]
 have g7:s7.heap.get (s.next+1)=some (BL x (.slice a n ca) (.slice d m cd) vv cv):=by rw[← hs7,Ww]
 have n7:s7.next=s6.next:=by rw[← hs7];rfl
 have hmk7:s7.heap.get s3.next=some .mark:=by rw[f7 _ (by omega),f6 _ (by omega),hfS _ (by omega) (by simp;omega)];exact hmk5
 obtain⟨s8,u1,u2,u3⟩:=FF [s3.next] s7 (by simp) (fun m h=>by rw[A0H.1 h];exact hmk7)
 have u3':∀j,j≠s3.next→s8.heap.get j=s7.heap.get j:=fun j hj=>u3 j (by simpa using hj)
 have l8:=AT (P:=Tryz.prog) (t:=30) GJ Fk ((u3' (s.next+1) (by omega)).trans g7) rfl
 simp only[KO,lz,l6,st6,u1,l8,AQ,Xy,Za,Qb,Qc,Qd,Qf,Qh,Qj,Qk,Qm,Qo,true_and,Qr,Qs,Qt,Qv,Rb,Re,Rk,Rn,Yc]
 have hs1:=hoS.1
 have oend:Af s.next s s8:=⟨by omega,fun j hj=>by rw[u3' j (by omega),f7 j (by omega),f6 j (by omega),hoS.2 j hj]⟩
 have hP8:=hP.old oend
 have hnd:(D.map (·.1)).Nodup:=by
  have:=T3 hP.map.nd
  rw[hdn,yr]at this
  exact this
 have hkeep:∀j,s3.next+1<j→s8.heap.get j=S.heap.get j:=fun j hj=>by rw[u3' j (by omega),f7 j (by omega),f6 j (by omega)]
 exact hK s8 _ oend ⟨x,a,n,ca,d,m,cd,vv,cv,D,O1,O2,rfl,hP8.cq,hdn,fun t ht=>⟨(hP8.map.ent t (hDT t ht)).1,(hP8.map.ent t (hDT t ht)).2.2,hP8.dj t (hDT t ht)⟩,gB hP8.map.dj hDT hnd,b1.frame (by omega) fun j hj=>hkeep j (H4 j hj).1,b2.frame (by omega) fun j hj=>hkeep j (LD j hj),
  fun j hj=>⟨by have:=(H4 j hj).1;omega,(H4 j hj).2⟩,fun j hj=>by have:=LD j hj;omega,
  s.next,fun j hj=>by have:=(H4 j hj).1;omega,fun j hj=>by have:=LD j hj;omega,fun j hj=>(hP.cq.slots hj).2,fun t ht j hj=>((hP.map.ent t (hDT t ht)).1.slots hj).2⟩
end
theorem E5.capZ{e sz:Nat}{s:AE}{v:AV}{n:Nat}{cs:List AV}{O:List Nat}(h:E5 e sz s v n cs O):∃a cap,v=.slice a n cap∧AU s.next s a cs∧EC sz s a cap n:=by
 rcases h with⟨rfl,rfl,rfl,_⟩ | ⟨i,p,rfl,h,_⟩
 ·exact⟨none,some 0,rfl,AU.nil,.inl ⟨0,rfl,xZ _,fun _=>rfl⟩⟩
 ·obtain⟨a,cap,e,hc⟩:=h.cells
  injection e with e1 e2 e3
  subst e1;subst e3
  refine⟨_,_,rfl,hc,.inr ⟨rfl,i,0,?_⟩⟩
  rcases h.ex with⟨e',_⟩ | ⟨_,_,k2,_,r,k4,k5,_,_,k8,_⟩
  ·cases e'
  ·exact⟨r,rfl,k2,k4,k8,by rw[k5.1,h.len];omega⟩
theorem F5:∀ (D:List Co),(∀t∈D,t.2.2.cells.length=3)→(DP D).length=D.length * 3∧∀ (i:Nat)(t:Co),D[i]? = some t→((DP D).drop (i * 3)).take 3=t.2.2.cells
 | [],_=>⟨rfl,fun i t h=>by cases h⟩
 | u::D,hl=>by
  obtain⟨h1,h2⟩:=F5 D fun t ht=>hl t (yK _ ht)
  have hu:=hl u yC
  have e:DP (u::D)=u.2.2.cells++DP D:=by simp[DP]
  rw[e]
  refine⟨by rw[xp,h1,hu,yU];omega,fun i t hi=>?_⟩
  cases i with
  | zero =>
   cases hi
   rw[yo,yx,List.take_left' hu]
  | succ i =>
   rw[show(i+1) * 3=u.2.2.cells.length+i * 3 by rw[hu];omega,List.drop_append,yQ (by omega),zq,Nat.add_sub_cancel_left]
   exact h2 i t hi
theorem LR.li {b : Nat} {s : AE}  {v : AV} {C : Rat} {L : List (Int × Rat)} {k : Nat} (h : LR b s v C L) (hC : QH C k) (hL : ∀ p ∈ L, QH p.2 k) : LI s v C (L.map (·.1)) (L.map (·.2)) k := by
  obtain⟨x,a,n,ca,d,m,cd,vv,cv,D,O1,O2,rfl,hq,rfl,hD,_,b1,b2,_⟩:=h
  obtain⟨av,capv,rfl,hcv,hzv⟩:=b1.capZ
  obtain⟨ac,capc,rfl,hcc,hzc⟩:=b2.capZ
  have hl3:∀t∈D,t.2.2.cells.length=3:=fun t ht=>by
    obtain⟨_,_,_,_,_,_,_,e⟩:=(hD t ht).1.shape
    rw[e];rfl
  obtain⟨p1,p2⟩:=F5 D hl3
  have e1:((D.map fun t=>(t.1,t.2.1)).map (·.1)).map iv=G9 D:=by simp[G9,yr,Function.comp_def]
  refine⟨x,a,n,ca,d,m,cd,av,capv,ac,capc,DP D,by simp,hq.qi hC,by rw[e1];exact hcv,fun z hz=>?_,⟨by simp[p1],hcc,fun i q hi=>?_⟩,by simpa using hzv,by simpa using hzc⟩
  · rw[yr]at hz
    obtain⟨t,ht,rfl⟩:=List.mem_map.1 hz
    exact(hD t ht).2.1
  · rw[yr,yY]at hi
    cases hDi:D[i]? with
    | none=>rw[hDi]at hi;cases hi
    | some t =>
      rw[hDi]at hi
      injection hi with hi
      have htm:=yG hDi
      rw[p2 i t hDi]
      obtain⟨_,_,_,_,_,_,_,e⟩:=(hD t htm).1.shape
      have:=(hD t htm).1.qi (k:=k) (by
        have:=hL (t.1,t.2.1) (List.mem_map.2 ⟨t,htm,rfl⟩)
        exact this)
      rw[← hi,show AV.agg t.2.2.cells=t.2.2 from by rw[e];rfl]
      exact this
theorem LI.shape{s:AE}{v:AV}{C:Rat}{vs:List Int}{cs:List Rat}{k:Nat}(h:LI s v C vs cs k):∃x a n c b m d av nv capv ac nc capc,v=.agg [.bool x,.slice a n c,.slice b m d,.slice av nv capv,.slice ac nc capc]:=by
 obtain⟨x,a,n,c,b,m,d,av,capv,ac,capc,cells,rfl,_⟩:=h
 exact⟨_,_,_,_,_,_,_,_,_,_,_,_,_,rfl⟩
theorem LR.shape{b:Nat}{s:AE}{v:AV}{C:Rat}{L:List (Int×Rat)}(h:LR b s v C L):∃x a n c b m d av nv capv ac nc capc,v=.agg [.bool x,.slice a n c,.slice b m d,.slice av nv capv,.slice ac nc capc]:=by
 obtain⟨x,a,n,ca,d,m,cd,vv,cv,D,O1,O2,rfl,_,_,_,_,b1,b2,_⟩:=h
 obtain⟨av,capv,rfl,_⟩:=b1.slice
 obtain⟨ac,capc,rfl,_⟩:=b2.slice
 exact⟨_,_,_,_,_,_,_,_,_,_,_,_,_,rfl⟩
theorem LR.set{b i:Nat}{s:AE}{v:AV}{C:Rat}{L:List (Int×Rat)}(h:LR b s v C L)(hi:i<b)(o:BD):LR b (setObj s i o) v C L:=by
 obtain⟨x,a,n,ca,d,m,cd,vv,cv,D,O1,O2,h1,hq,hL,hD,hp,b1,b2,h3,h4,h5⟩:=h
 exact⟨x,a,n,ca,d,m,cd,vv,cv,D,O1,O2,h1,hq.set hi o,hL,fun t ht=>⟨(hD t ht).1.set hi o,(hD t ht).2⟩,hp,b1.frame (xZ _) fun j hj=>Wx _ (by have:=(h3 j hj).1;omega),b2.frame (xZ _) fun j hj=>Wx _ (by have:=h4 j hj;omega),h3,h4,h5⟩
theorem LR.mono{b b':Nat}{s:AE}{v:AV}{C:Rat}{L:List (Int×Rat)}(h:LR b s v C L)(hb:b'≤b):LR b' s v C L:=by
 obtain⟨x,a,n,ca,d,m,cd,vv,cv,D,O1,O2,h1,hq,hL,hD,hp,b1,b2,h3,h4,h5⟩:=h
 exact⟨x,a,n,ca,d,m,cd,vv,cv,D,O1,O2,h1,hq.mono hb,hL,fun t ht=>⟨(hD t ht).1.mono hb,(hD t ht).2⟩,hp,b1,b2,fun j hj=>⟨xh hb (h3 j hj).1,(h3 j hj).2⟩,fun j hj=>xh hb (h4 j hj),h5⟩
theorem Gs.len{o:Rat}{vs:List Int}{cs:List Rat}{T T':List Co}(h:Gs o vs cs T T'):T'.length≤T.length+min cs.length vs.length:=by
 induction h with
 | nil1 cs T=>omega
 | nil2 vs T=>omega
 | @cons n c vs cs T T' w h ih =>
  have:=V7 (n:=n) (q:=Cy n T+c * o) (v:=w) (T:=T)
  simp only[yU]
  omega
abbrev ZL:BD:=BL false (.slice none 0 (some 0)) (.slice none 0 (some 0)) (.slice none 0 (some 0)) (.slice none 0 (some 0))
abbrev ZP:BD:=R 56 0 false [.bool false,.slice none 0 (some 0),.slice none 0 (some 0),.map none]
theorem CF{s2:AE}{p:Nat}{cs0:List AV}(h0:cs0.length=5){x:Bool}{a b av ac:Option (Nat×Nat)}{n m nv nc:Nat}{c d cv cc:Option Nat}(hg:s2.heap.get p=some (R 30 0 false cs0)):
  AS Tryz.prog s2 30 (.ptr (some (p,0))) (.agg [.bool x,.slice a n c,.slice b m d,.slice av nv cv,.slice ac nc cc])=some (setObj s2 p (BL x (.slice a n c) (.slice b m d) (.slice av nv cv) (.slice ac nc cc)))∧AC Tryz.prog (setObj s2 p (BL x (.slice a n c) (.slice b m d) (.slice av nv cv) (.slice ac nc cc))) 30 (.ptr (some (p,0)))=some (.agg [.bool x,.slice a n c,.slice b m d,.slice av nv cv,.slice ac nc cc]):=
 ⟨Ak Fk hg h0 rfl rfl (by simp),AT GJ Fk (Ww _ _ _) rfl⟩
theorem QT{s2:AE}{p:Nat}{cs0:List AV}(h0:cs0.length=4){x:Bool}{a b:Option (Nat×Nat)}{n m mi:Nat}{c d:Option Nat}(hg:s2.heap.get p=some (R 56 0 false cs0)):
  AS Tryz.prog s2 56 (.ptr (some (p,0))) (.agg [.bool x,.slice a n c,.slice b m d,.map (some mi)])=some (setObj s2 p (BP x (.slice a n c) (.slice b m d) mi)):=Ak Kt hg h0 rfl rfl (by simp)
section
variable{E:CU}{s:AE}
theorem Xx(hE:KM E){vl vo:AV}{C o:Rat}{vs:List Int}{cs:List Rat}{kl ko:Nat}(hl:LI s vl C vs cs kl)(ho:QI s vo o ko)(hkl:1≤kl)(hko:1≤ko)(hb:2 * (1+(min cs.length vs.length+2) * (kl+ko+1))+1≤1000000000)(hM6:min cs.length vs.length≤1000000){K:AV→AE→Prop}
  (hK:∀s' w T,Af s.next s s'→LR s.next s' w (C * o) (Bu T)→Gs o vs cs [] T→QH (C * o) (1+(min cs.length vs.length+1) * (kl+ko+1))→(∀t∈T,QH t.2.1 (1+(min cs.length vs.length+1) * (kl+ko+1)))→(BM T).Nodup→K w s'):WF E 22 [vl,vo] K s:=by
 have hl0:=hl
 have ho0:=ho
 obtain⟨x1,a1,n1,c1,b1,m1,d1,av,nv,cv,ac,nc,cc,el⟩:=hl.shape
 obtain⟨x2,a2,n2,c2,b2,m2,d2,eo⟩:=ho.shape
 subst el;subst eo
 generalize hM:min cs.length vs.length=M at *
 have hMb:M+2≤(M+2) * (kl+ko+1):=Nat.le_mul_of_pos_right _ (by omega)
 have hM2:(M+2) * (kl+ko+1)=(M+1) * (kl+ko+1)+(kl+ko+1):=yN _ _
 refine hE.go rW (by decide) rfl ?_
 obtain⟨n3,o1,g1,g2,g3⟩:=J5 s (BL x1 (.slice a1 n1 c1) (.slice b1 m1 d1) (.slice av nv cv) (.slice ac nc cc)) (BQ x2 (.slice a2 n2 c2) (.slice b2 m2 d2)) ZL
 simp only[wS,lF,lG,Xa,Xh,El,Xc,Aq,Qa,Qb,Qc,Qd,Qf,Qh,Qj,Qk,Ql,Qm,Qo,true_and,Qp,Qq,Qr,Qs,Qt,Qv,Rb,Rh,Rj]
 generalize newObj (newObj (newObj s (BL x1 (.slice a1 n1 c1) (.slice b1 m1 d1) (.slice av nv cv) (.slice ac nc cc))) (BQ x2 (.slice a2 n2 c2) (.slice b2 m2 d2))) ZL=s1 at *
 refine R7 hE.toGoodN fun s2 v2 mi o2 r2=>?_
 have h2:=o2.1
 obtain⟨x,a,n,ca,d,m,cd,rfl,hP⟩:=r2
 obtain⟨n4,o3,g4⟩:=CC s2 ZP
 have st:=QT (cs0:=[.bool false,.slice none 0 (some 0),.slice none 0 (some 0),.map none]) rfl (x:=x) (a:=a) (n:=n) (c:=ca) (b:=d) (m:=m) (d:=cd) (mi:=mi) g4
 simp only[Iq,Xc,st,Xy,Za,Qd,Qm,Qo,true_and,Qp,Qq,Qr,Qs]
 generalize hs4:setObj (newObj s2 ZP) s2.next (BP x (.slice a n ca) (.slice d m cd) mi)=s4
 have o24:Af s2.next s2 s4:=by rw[← hs4];exact o3.set (xZ _) _
 have n5:s4.next=s2.next+1:=by rw[← hs4];exact n4
 have k4:s4.heap.get s2.next=some (BP x (.slice a n ca) (.slice d m cd) mi):=by rw[← hs4,Ww]
 have o12:=o1.trans (o2.mono o1.1)
 have o14:=o12.trans (o24.mono o12.1)
 have l1:=AT (P:=Tryz.prog) (t:=30) GJ Fk ((o24.2 s.next (by omega)).trans ((o2.2 s.next (by omega)).trans g1)) rfl
 have l2:=AT (P:=Tryz.prog) (t:=26) Bt A9 ((o24.2 (s.next+1) (by omega)).trans ((o2.2 (s.next+1) (by omega)).trans g2)) rfl
 simp only[lH,l1,l2,Qb,Qc,Qd,Qf,Qh,Qj,Qk,Qm,Qo,true_and,Qr,Qs,Qt,Qv]
 have hP4:=hP.old o24
 have hmlo:=hP.map.lo
 refine U9 hE.toGoodN (b:=s1.next) (p:=s2.next) (kl:=kl) (ko:=ko) (k:=1) k4 (by omega) (by omega) hP4 (fun S f=>hl0.old (o14.trans (f.old (by omega) (by omega) (by omega)))) (fun S f=>ho0.old (o14.trans (f.old (by omega) (by omega) (by omega)))) (by omega) hkl hko (by rw[hM];omega) fun r s6 x' a' n' c'' d' m' e' T' f6 g6 hP6 hT=>?_
 have h6:=f6.1
 have l6:=AT (P:=Tryz.prog) (t:=56) QE Kt g6 rfl
 rw[Rat.zero_add,hM]at hP6
 have hTl:=hT.len
 rw[hM]at hTl
 simp only[zY]at hTl
 simp only[lI,l6,Qb,Qc,Qd,Qf,Qh,Qj,Qk,Qm,Qo,true_and,Qr,Qs,Qt,Qv]
 refine UQ hE (b:=s1.next) ⟨_,_,_,_,_,_,_,rfl,hP6⟩ (by omega) (by omega) (by omega) fun s7 w o7 r7=>?_
 obtain⟨x7,a7,n7,c7,b7,m7,d7,av7,nv7,cv7,ac7,nc7,cc7,rfl⟩:=r7.shape
 have g7:s7.heap.get (s.next+1+1)=some ZL:=by rw[o7.2 _ (by omega),f6.2 _ (by omega) (by omega) (by omega),o24.2 _ (by omega),o2.2 _ (by omega)];exact g3
 have o17:Af s.next s s7:=by
  have:=o14.trans (f6.old (b:=s.next) (by omega) (by omega) (by omega))
  exact this.trans (o7.mono this.1)
 obtain⟨st8,ld8⟩:=CF (cs0:=[.bool false,.slice none 0 (some 0),.slice none 0 (some 0),.slice none 0 (some 0),.slice none 0 (some 0)]) rfl (x:=x7) (a:=a7) (n:=n7) (c:=c7) (b:=b7) (m:=m7) (d:=d7) (av:=av7) (nv:=nv7) (cv:=cv7) (ac:=ac7) (nc:=nc7) (cc:=cc7) g7
 simp only[st8,ld8,AQ,Xy,Za,Qd,Qj,Qm,Qo,true_and,Qr,Qs,Rk,Rn,Yc]
 exact hK _ _ T' (o17.set (by omega) _) ((r7.set (by omega) _).mono (by omega)) hT hP6.ch (fun t ht=>(hP6.map.ent t ht).2.1) hP6.map.nd
end
def Eg(a:Int→Rat):List (Int×Rat)→Rat
 | []=>0
 | p::L=>p.2 * a p.1+Eg a L
theorem IM(a:Int→Rat):∀L M:List (Int×Rat),Eg a (L++M)=Eg a L+Eg a M
 | [],M=>(Rat.zero_add _).symm
 | p::L,M=>by show p.2 * a p.1+Eg a (L++M)=p.2 * a p.1+Eg a L+Eg a M;rw[IM a L M,Rat.add_assoc]
theorem fF(a:Int→Rat){L M:List (Int×Rat)}(h:L.Perm M):Eg a L=Eg a M:=by
 induction h with
 | nil=>rfl
 | cons p h ih=>show _+_=_+_;rw[ih]
 | swap p q L=>show _+(_+_)=_+(_+_);exact Rat.add_left_comm ..
 | trans h1 h2 ih1 ih2=>exact ih1.trans ih2
theorem IN(a:Int→Rat):∀L:List (Int×Rat),Eg a (L.filter fun p=>decide (p.2≠0))=Eg a L
 | []=>rfl
 | p::L=>by
  by_cases h:p.2=0
  ·rw[List.filter_cons_of_neg (by simp[h]),IN a L]
   show _=p.2 * a p.1+Eg a L
   rw[h,Rat.zero_mul,Rat.zero_add]
  ·rw[List.filter_cons_of_pos (by simp[h])]
   show p.2 * a p.1+_=p.2 * a p.1+_
   rw[IN a L]
theorem RN(a:Int→Rat):∀ {T:List Co},(BM T).Nodup→Eg a ((BM T).map fun n=>(n,Cy n T))=RP a T
 | [],_=>rfl
 | t::T,h=>by
  obtain⟨h1,h2⟩:=List.nodup_cons.1 (show(t.1::BM T).Nodup from h)
  have e:(BM T).map (fun n=>(n,Cy n (t::T)))=(BM T).map fun n=>(n,Cy n T):=by
   refine List.map_congr_left fun n hn=>?_
   rw[KK,if_neg (fun(e:n=t.1)=>h1 (e▸hn))]
  show Eg a ((t.1,Cy t.1 (t::T))::(BM T).map fun n=>(n,Cy n (t::T)))=_
  rw[e]
  show Cy t.1 (t::T) * a t.1+Eg a ((BM T).map fun n=>(n,Cy n T))=t.2.1 * a t.1+RP a T
  rw[RN a h2,KK,if_pos rfl]
theorem K6(a:Int→Rat){T:List Co}(h:(BM T).Nodup):Eg a (Bu T)=RP a T:=by
 unfold Bu PD
 rw[IN,fF a ((Ds (BM T)).map _),RN a h]
theorem HG(a:Int→Rat):∀L:List (Int×Rat),Cq a (L.map (·.1)) (L.map (·.2))=Eg a L
 | []=>rfl
 | p::L=>by show p.2 * a p.1+Cq a (L.map (·.1)) (L.map (·.2))=_;rw[HG a L];rfl
theorem Vj{T:List Co}{k:Nat}(hk:1≤k)(h:∀t∈T,QH t.2.1 k):∀p∈Bu T,QH p.2 k:=fun p hp=>by
 unfold Bu PD at hp
 obtain⟨h1,_⟩:=List.mem_filter.1 hp
 obtain⟨n,_,rfl⟩:=List.mem_map.1 h1
 show QH (Cy n T) k
 unfold Cy
 cases hg:Fs n T with
 | none=>exact tu.le hk
 | some q=>exact h _ (G6 hg)
theorem eS(T:List Co):(Bu T).length≤T.length:=by
 unfold Bu PD
 refine xh (List.length_filter_le _ _) ?_
 rw[yE,Hg];simp[BM]
section
variable{E:CU}{s:AE}
end
end
end Go.Proofs.YtjnkfbpadpmakaaGreatDoor.Am
set_option linter.unusedVariables false
set_option linter.unusedSimpArgs false
set_option maxRecDepth 100000
namespace Go.Proofs.YtjnkfbpadpmakaaGreatDoor.Am
open Go Go.Proofs
noncomputable section
def lQ:List AA:=[
 ⟨none,.mk (fun l=>match l with | [v]=>Bf 26 v | _=>none),[.var 0],(.set 1),[]⟩,
 ⟨none,.mk (fun l=>match l with | []=>Ag Tryz.prog 26 | _=>none),[],(.set 2),[]⟩]
def lR:List AA:=[
 ⟨none,.p1 (fun x=>AB Tryz.prog 26 x 0),[.var 1],.push,[]⟩,
 ⟨none,.p1 (fun x=>AB Tryz.prog 24 x 1),[.loc 0],.push,[]⟩,
 ⟨none,.r1 (fun s a=>AC Tryz.prog s 22 a),[.loc 0],.push,[]⟩,
 ⟨none,.p1 (fun x=>AB Tryz.prog 26 x 0),[.var 1],.push,[]⟩,
 ⟨none,.p1 (fun x=>AB Tryz.prog 24 x 1),[.loc 0],.push,[]⟩,
 ⟨none,.r1 (fun s a=>AC Tryz.prog s 22 a),[.loc 0],.push,[]⟩,
 ⟨none,.r (fun s l=>match l with | [x]=>A6 Tryz.prog s 22 x | _=>none),[.loc 0],.push,[]⟩,
 ⟨none,.p (fun l=>match l with | v::l=>Ct false v l | []=>none),[(.loc 0),(.const (.int .i64 (3)))],.push,[]⟩,
 ⟨none,.r (At Tryz.prog 22 false true false),[.loc 5,.loc 0],.push,[]⟩,
 ⟨none,.p1 (fun x=>AB Tryz.prog 26 x 0),[.var 1],.push,[]⟩,
 ⟨none,.p1 (fun x=>AB Tryz.prog 24 x 1),[.loc 0],.push,[]⟩,
 ⟨none,.e (fun s=>Xy (fun a x=>Za (AS Tryz.prog s 22 a x))),[.loc 0,.loc 2],.push,[]⟩]
def lT:List AA:=[
 ⟨none,.p1 (fun x=>AB Tryz.prog 26 x 1),[.var 1],.push,[]⟩,
 ⟨none,.r1 (fun s a=>AC Tryz.prog s 22 a),[.loc 0],.push,[]⟩,
 ⟨none,.p1 (fun x=>AB Tryz.prog 26 x 1),[.var 1],.push,[]⟩,
 ⟨none,.r1 (fun s a=>AC Tryz.prog s 22 a),[.loc 0],.push,[]⟩,
 ⟨none,.r (fun s l=>match l with | [x]=>A6 Tryz.prog s 22 x | _=>none),[.loc 0],.push,[]⟩,
 ⟨none,.p (fun l=>match l with | v::l=>Ct false v l | []=>none),[(.loc 0),(.const (.int .i64 (3)))],.push,[]⟩,
 ⟨none,.r (At Tryz.prog 22 false true false),[.loc 4,.loc 0],.push,[]⟩,
 ⟨none,.p1 (fun x=>AB Tryz.prog 26 x 1),[.var 1],.push,[]⟩,
 ⟨none,.e (fun s=>Xy (fun a x=>Za (AS Tryz.prog s 22 a x))),[.loc 0,.loc 1],.push,[]⟩]
def lU:List AA:=[
 ⟨none,.r1 (fun s a=>AC Tryz.prog s 26 a),[.var 1],.push,[]⟩,
 ⟨none,.e (fun s=>Xy (fun a x=>Za (AS Tryz.prog s 26 a x))),[.var 2,.loc 0],.push,[]⟩]
def wW:Ah:=⟨1,3,(.seq (.ops lQ) (.seq (.ops lR) (.seq (.ops lT) (.seq (.ops lU) .ret)))),[((.var 2),some 26)]⟩
def uo:List AA:=[
 ⟨none,.mk (fun l=>match l with | [v]=>Bf 30 v | _=>none),[.var 0],(.set 1),[]⟩,
 ⟨none,.mk (fun l=>match l with | []=>Ag Tryz.prog 30 | _=>none),[],(.set 2),[]⟩]
def uq:List AA:=[
 ⟨none,.p1 (fun x=>AB Tryz.prog 30 x 0),[.var 1],.push,[]⟩,
 ⟨none,.r1 (fun s a=>AC Tryz.prog s 26 a),[.loc 0],.push,[]⟩,
 ⟨none,.p1 (fun x=>AB Tryz.prog 30 x 1),[.var 1],.push,[]⟩,
 ⟨none,.r1 (fun s a=>AC Tryz.prog s 27 a),[.loc 0],.push,[]⟩,
 ⟨none,.p1 (fun x=>AB Tryz.prog 30 x 1),[.var 1],.push,[]⟩,
 ⟨none,.r1 (fun s a=>AC Tryz.prog s 27 a),[.loc 0],.push,[]⟩,
 ⟨none,.r (fun s l=>match l with | [x]=>A6 Tryz.prog s 27 x | _=>none),[.loc 0],.push,[]⟩,
 ⟨none,.p (fun l=>match l with | v::l=>Ct false v l | []=>none),[(.loc 0),(.const (.int .i64 (8)))],.push,[]⟩,
 ⟨none,.r (At Tryz.prog 27 false true false),[.loc 4,.loc 0],.push,[]⟩,
 ⟨none,.mk (fun l=>match l with | []=>Ag Tryz.prog 30 | _=>none),[],(.set 3),[]⟩,
 ⟨none,.call 31,[.loc 7],.push,[⟨none,.r (At Tryz.prog 27 false true false),[.loc 6,.loc 2],(.loc 1)⟩,⟨none,.r (fun s l=>match l with | [x]=>A6 Tryz.prog s 27 x | _=>none),[.loc 4],(.loc 3)⟩,⟨none,.r1 (fun s a=>AC Tryz.prog s 27 a),[.loc 5],(.loc 4)⟩,⟨none,.r1 (fun s a=>AC Tryz.prog s 27 a),[.loc 7],(.loc 6)⟩]⟩,
 ⟨none,.p (fun l=>BT Tryz.prog 30 (zipIdx [0,1] l)),[.loc 0,.loc 1],.push,[]⟩,
 ⟨none,.e (fun s=>Xy (fun a x=>Za (AS Tryz.prog s 30 a x))),[.var 3,.loc 0],.push,[]⟩]
def ur:List AA:=[
 ⟨none,.p1 some,[(.const (.int .i64 (0)))],(.set 4),[]⟩]
def rQ:List AA:=[
 ⟨none,.p1 (fun x=>AB Tryz.prog 30 x 2),[.var 1],.push,[]⟩,
 ⟨none,.r1 (fun s a=>AC Tryz.prog s 28 a),[.loc 0],.push,[]⟩,
 ⟨none,.r (fun s l=>match l with | [x]=>A6 Tryz.prog s 28 x | _=>none),[.loc 0],.push,[]⟩,
 ⟨none,.p2 (AL Tryz.prog .lss 3),[.var 4,.loc 0],.push,[]⟩,
 ⟨(some ((.loc 0),true)),.p1 some,[.var 4],.push,[]⟩,
 ⟨(some ((.loc 1),true)),.p2 (AL Tryz.prog .lss 3),[(.loc 0),(.const (.int .i64 (8)))],.push,[]⟩,
 ⟨none,.p Ru,[(.loc 2),(.loc 0),(.const (.bool false))],(.set 5),[]⟩]
def ut:List AA:=[
 ⟨none,.p1 (fun x=>AB Tryz.prog 30 x 2),[.var 3],.push,[]⟩,
 ⟨none,.r1 (fun s a=>AC Tryz.prog s 28 a),[.loc 0],.push,[]⟩,
 ⟨none,.p1 (fun x=>AB Tryz.prog 30 x 2),[.var 1],.push,[]⟩,
 ⟨none,.r1 (fun s a=>AC Tryz.prog s 28 a),[.loc 0],.push,[]⟩,
 ⟨none,.p2 (AM Tryz.prog 28),[.loc 0,.var 4],.push,[]⟩,
 ⟨none,.r1 (fun s a=>AC Tryz.prog s 26 a),[.loc 0],.push,[]⟩,
 ⟨none,.call 31,[.loc 0],.push,[⟨none,.r1 (fun s a=>AC Tryz.prog s 28 a),[.loc 6],(.loc 5)⟩]⟩,
 ⟨none,.mk (fun l=>(Ad Tryz.prog 28 1 (zipIdx [0] l)).bind fun r=>some (r,.slice 1)),[.loc 0],.push,[]⟩,
 ⟨none,.e (fun s l=>Ar Tryz.prog s [28,28] l),[.loc 6,.loc 0],.push,[]⟩,
 ⟨none,.p1 (fun x=>AB Tryz.prog 30 x 2),[.var 3],.push,[]⟩,
 ⟨none,.e (fun s=>Xy (fun a x=>Za (AS Tryz.prog s 28 a x))),[.loc 0,.loc 1],.push,[]⟩]
def uu:List AA:=[
 ⟨none,.p1 some,[.var 4],.push,[]⟩,
 ⟨none,.p2 (AL Tryz.prog .add 3),[(.loc 0),(.const (.int .i64 (1)))],.push,[]⟩,
 ⟨none,.p1 some,[.loc 0],(.set 4),[]⟩]
def dw:Aa:=(.seq (.seq (.ops rQ) (.cond (.var 5)
 .skip
 (.exit 0))) (.seq (.block 1 (.ops ut)) (.ops uu)))
def uv:List AA:=[
 ⟨none,.r1 (fun s a=>AC Tryz.prog s 30 a),[.var 3],.push,[]⟩,
 ⟨none,.e (fun s=>Xy (fun a x=>Za (AS Tryz.prog s 30 a x))),[.var 2,.loc 0],.push,[]⟩]
def c7:Ah:=⟨1,6,(.seq (.ops uo) (.seq (.ops uq) (.seq (.seq (.ops ur) (.block 0 (.loop dw))) (.seq (.ops uv) .ret)))),[((.var 2),some 30)]⟩
theorem re:AO Tryz.prog 31=some wW:=by kernel_rfl
theorem vB:AO Tryz.prog 7=some c7:=by kernel_rfl
end
end Go.Proofs.YtjnkfbpadpmakaaGreatDoor.Am
set_option linter.unusedVariables false
set_option linter.unusedSimpArgs false
set_option maxRecDepth 16000
namespace Go.Proofs.YtjnkfbpadpmakaaGreatDoor.Am
open Go Go.Proofs
noncomputable section
def QA(s:AE)(v:AV):Prop:=∃neg m d lm ld,v=.agg [.bool neg,m,d]∧Bo s m lm∧Bo s d ld∧Be lm∧Be ld
theorem QA.old{s s':AE}{v:AV}(h:QA s v)(o:Af s.next s s'):QA s' v:=by
 obtain⟨neg,m,d,lm,ld,h1,h2,h3,h4⟩:=h
 exact⟨neg,m,d,lm,ld,h1,h2.old o,h3.old o,h4⟩
structure QB(s:AE)(a:Option (Nat×Nat))(n:Nat)(cells:List AV):Prop where
 len:cells.length=n * 3
 rd:AU s.next s a cells
 rat:∀i,i<n→QA s (.agg ((cells.drop (i * 3)).take 3))
theorem QB.load{s:AE}{a:Option (Nat×Nat)}{n:Nat}{cells:List AV}(h:QB s a n cells){i:Nat}(hi:i<n):
  ∃i0 o,a=some (i0,o)∧i0<s.next∧AC Tryz.prog s 26 (.ptr (some (i0,o+i * 3)))=some (.agg ((cells.drop (i * 3)).take 3)):=by
 have hl:=h.len
 have h3:((cells.drop (i * 3)).take 3).length=3:=by rw[xz,yL];omega
 have hget:∀j,j<3→((cells.drop (i * 3)).take 3)[j]? = cells[i * 3+j]? := fun j hj=>by rw[yy hj,yn]
 have h0:cells[i * 3]? = some cells[i * 3]:=xe (by omega)
 obtain⟨i0,o,rfl,hlt,_⟩:=h.rd (i * 3) _ h0
 refine⟨i0,o,rfl,hlt,?_⟩
 have:=JA (o:=s.heap.get i0) ((cells.drop (i * 3)).take 3) (o+i * 3) (fun j u hj=>by
  have hj3:j<3:=by
   rcases xf j 3 with h' | h'
   ·exact h'
   ·rw[xr (by omega)]at hj;cases hj
  rw[hget j hj3]at hj
  obtain⟨i',o',e,_,g⟩:=h.rd _ u hj
  injection e with e
  injection e with e1 e2
  subst e1;subst e2
  rw[E2]at g
  rw[yR];exact g) (by intro e;rw[e]at h3;cases h3)
 rw[h3]at this
 rw[Wg Bt,A9,Option.bind_some,this]
 rfl
section
variable{E:CU}{s:AE}
theorem So(hE:GoodN E){s0:AE}(o0:Af s0.next s0 s){v:AV}(hv:QA s0 v){K:AV→AE→Prop}(hK:∀s' w q,Af s.next s s'→QI s0 w q 3→K w s'):WF E 31 [v] K s:=by
 obtain⟨neg,m,d,lm,ld,rfl,hm,hd,hsm,hsd⟩:=hv
 obtain⟨am,cm,rfl,xm,ym⟩:=hm
 obtain⟨ad,cd,rfl,xd,yd⟩:=hd
 refine hE.go re (by decide) rfl ?_
 have xm0:=xm
 have ym0:=ym
 have xd0:=xd
 have yd0:=yd
 replace xm:=xm.old o0
 replace xd:=xd.old o0
 obtain⟨n1,o1,g1,g2⟩:=EO s (BQ neg (.slice am lm.length cm) (.slice ad ld.length cd)) ZQ
 simp only[wW,lQ,Xa,Xh,CE,Xc,Aq,Qa,Qb,Qc,Qd,Qf,Qh,Qj,Ql,Qm,Qo,true_and,Qp,Qq,Qr,Qt,Qv,Rb,Rh,Rj]
 generalize newObj (newObj s (BQ neg (.slice am lm.length cm) (.slice ad ld.length cd))) ZQ=s1 at *
 have l1:=AI (P:=Tryz.prog) (t:=22) (o:=0+0+1) CA g1 rfl
 have cut1:=RK (t:=22) Tryz.underlying22 Cx (xm.old o1) (show min lm.length 3≤lm.length by omega)
 have mm1:Ct false (iv (lm.length:Int)) [.int .i64 3]=some (iv ((min lm.length 3:Nat):Int)):=MW lm.length 3
 have st1:=Bn (P:=Tryz.prog) (t:=22) (o:=0+0+1) (v:=.slice am (min lm.length 3) cm) P1 g1 (by simp) rfl
 generalize hs2:setObj s1 s.next _=s2 at st1
 have g3:s2.heap.get s.next=some (BQ neg (.slice am (min lm.length 3) cm) (.slice ad ld.length cd)):=by rw[← hs2,Ww];rfl
 have g4:s2.heap.get (s.next+1)=some ZQ:=by rw[← hs2,Wx _ (by omega)];exact g2
 have o2:Af s.next s s2:=by rw[← hs2];exact o1.set (xZ _) _
 have l2:=AI (P:=Tryz.prog) (t:=22) (o:=0+2) CA g3 rfl
 have cut2:=RK (t:=22) Tryz.underlying22 Cx (xd.old o2) (show min ld.length 3≤ld.length by omega)
 have mm2:Ct false (iv (ld.length:Int)) [.int .i64 3]=some (iv ((min ld.length 3:Nat):Int)):=MW ld.length 3
 have st2:=Bn (P:=Tryz.prog) (t:=22) (o:=0+2) (v:=.slice ad (min ld.length 3) cd) P1 g3 (by simp) rfl
 generalize hs3:setObj s2 s.next _=s3 at st2
 have g5:s3.heap.get s.next=some (BQ neg (.slice am (min lm.length 3) cm) (.slice ad (min ld.length 3) cd)):=by rw[← hs3,Ww];rfl
 have g6:s3.heap.get (s.next+1)=some ZQ:=by rw[← hs3,Wx _ (by omega)];exact g4
 have o3:Af s.next s s3:=by rw[← hs3];exact o2.set (xZ _) _
 have l3:=AT (P:=Tryz.prog) (t:=26) Bt A9 g5 rfl
 obtain⟨st4,ld4⟩:=CG (cs0:=[.bool false,.slice none 0 (some 0),.slice none 0 (some 0)]) rfl (x:=neg) (a:=am) (n:=min lm.length 3) (c:=cm) (b:=ad) (m:=min ld.length 3) (d:=cd) g6
 simp only[lR,lT,lU,l1,AH Tryz.underlying22,mm1,cut1,st1,l2,mm2,cut2,st2,l3,st4,ld4,Dr,G5,CR,AQ,Xy,Za,Qb,Qc,Qd,Qf,Qh,Qi,Qj,Qk,Qm,Qo,true_and,Qr,Qs,Qt,Qv,Rk,Rn,Yc]
 generalize hs4:setObj s3 (s.next+1) (BQ neg (.slice am (min lm.length 3) cm) (.slice ad (min ld.length 3) cd))=s4
 have o4:Af s.next s s4:=by rw[← hs4];exact o3.set (by omega) _
 have q1:=Bo.take xm0 ym0 (show min lm.length 3≤lm.length by omega)
 have q2:=Bo.take xd0 yd0 (show min ld.length 3≤ld.length by omega)
 exact hK s4 _ _ o4 ⟨neg,_,_,_,_,rfl,q1,q2,hsm.take _,hsd.take _,by rw[xz];omega,by rw[xz];omega,rfl⟩
end
structure Gm(s0 S:AE)(cv:AV)(D:List Co)(O:List Nat):Prop where
 buf:E5 26 3 S cv D.length (DP D) O
 ent:∀t∈D,QI s0 t.2.2 t.2.1 3
 lo:∀j∈O,s0.next≤j
theorem Gm.nil(s0 S:AE):Gm s0 S (.slice none 0 (some 0)) [] []:=⟨E5.nil _ _ _,fun t h=>by simp at h,fun j h=>by simp at h⟩
theorem Gm.frame{s0 S S':AE}{cv:AV}{D:List Co}{O:List Nat}(h:Gm s0 S cv D O)(hn:S.next≤S'.next)(hf:∀j∈O,S'.heap.get j=S.heap.get j):Gm s0 S' cv D O:=⟨h.buf.frame hn hf,h.ent,h.lo⟩
theorem Gm.old{s0 S S':AE}{cv:AV}{D:List Co}{O:List Nat}(h:Gm s0 S cv D O)(o:Af S.next S S'):Gm s0 S' cv D O:=h.frame o.1 fun j hj=>o.2 j (h.buf.lt j hj)
theorem Gm.rats{s0 S:AE}{cv:AV}{D:List Co}{O:List Nat}(h:Gm s0 S cv D O)(o:Af s0.next s0 S):∃a cap,cv=.slice a (D.map fun t=>t.2.1).length cap∧Ej S a (D.map fun t=>t.2.1) 3 (DP D)∧EC 3 S a cap (D.map fun t=>t.2.1).length:=by
 obtain⟨a,cap,rfl,hcc,hzc⟩:=h.buf.capZ
 have hl3:∀t∈D,t.2.2.cells.length=3:=fun t ht=>by
  obtain⟨_,_,_,_,_,_,_,e⟩:=(h.ent t ht).shape
  rw[e];rfl
 obtain⟨p1,p2⟩:=F5 D hl3
 refine⟨a,cap,by simp,⟨by simp[p1],hcc,fun i q hi=>?_⟩,by simpa using hzc⟩
 rw[yY]at hi
 cases hDi:D[i]? with
 | none=>rw[hDi]at hi;cases hi
 | some t =>
  rw[hDi]at hi
  injection hi with hi
  have htm:=yG hDi
  rw[p2 i t hDi]
  obtain⟨_,_,_,_,_,_,_,e⟩:=(h.ent t htm).shape
  rw[← hi,show AV.agg t.2.2.cells=t.2.2 from by rw[e];rfl]
  exact(h.ent t htm).old o
theorem Gm.push{s0 S:AE}{cv:AV}{D:List Co}{O:List Nat}(h:Gm s0 S cv D O){r:Nat}{x:Bool}{a b:Option (Nat×Nat)}{n m:Nat}{c d:Option Nat}(hr:S.heap.get r=some (R 26 3 false [.bool x,.slice a n c,.slice b m d])){q:Rat}(hq:QI s0 (.agg [.bool x,.slice a n c,.slice b m d]) q 3)(hD:D.length≤1000000000)(ho:s0.next≤S.next):
    ∃cv' S' O',Ar Tryz.prog S [28,28] [cv,.slice (some (r,0)) 1 (some 1)]=some (cv',S')∧Gm s0 S' cv' (D++[(0,q,.agg [.bool x,.slice a n c,.slice b m d])]) O'∧S'.next=S.next+1∧(∀j,j<S.next→j ∉ O→S'.heap.get j=S.heap.get j)∧(∀j∈O',j∈O∨S.next≤j):=by
  obtain⟨v8,s8,O8,happ8,b8,n8,f8,hO8⟩:=HM Tryz.underlying28 A9 rG (by decide) P4 U2 (by decide) h.buf hr rfl rfl hD
  refine⟨v8,s8,O8,happ8,⟨?_,fun t ht=>?_,fun j hj=>?_⟩,n8,f8,hO8⟩
  · have e:DP (D++[((0:Int),q,AV.agg [.bool x,.slice a n c,.slice b m d])])=DP D++[.bool x,.slice a n c,.slice b m d]:=by simp[DP,AV.cells]
    rw[e,xp]
    exact b8
  · rcases zx.1              ht with ht | ht
    · exact h.ent t ht
    · rw[A0H.1 ht];exact hq
  · rcases hO8 j hj with hj | hj
    · exact h.lo j hj
    · omega
section
variable{E:CU}{s:AE}
end
def LA(s:AE)(v:AV):Prop:=∃x a n c b m d av vs capv ac nc capc cells,v=.agg [.bool x,.slice a n c,.slice b m d,.slice av (List.length vs) capv,.slice ac nc capc]∧QA s (.agg [.bool x,.slice a n c,.slice b m d])∧AU s.next s av (vs.map iv)∧(∀n∈vs,i64 n)∧EC 1 s av capv vs.length∧QB s ac nc cells
theorem QP(x:Bool)(a b av:Option (Nat×Nat))(n m nv:Nat)(c d cv:Option Nat):BT Tryz.prog 30 (zipIdx [0,1] [.agg [.bool x,.slice a n c,.slice b m d],.slice av nv cv])=some (.agg [.bool x,.slice a n c,.slice b m d,.slice av nv cv,.slice none 0 (some 0)]):=by kernel_rfl
theorem IL{b:Nat}{s:AE}{a:Option (Nat×Nat)}{cs:List AV}(h:AU b s a cs)(k:Nat):AU b s a (cs.take k):=fun j u hj=>by
 rw[zp]at hj
 split at hj
 ·exact h j u hj
 ·cases hj
section
variable{E:CU}{s:AE}
theorem fL       (hE : GoodN E) {s0 : AE}  {p1 p3 : Nat} {x1 x3 : Bool} {a b av a3 b3 av3 : Option (Nat × Nat)} {n m nv n3 m3 nv3 : Nat} {c d capv c3 d3 capv3 : Option Nat} {ac : Option (Nat × Nat)} {nc : Nat} {cc : Option Nat} {cells : List AV} (hr : QB    s0 ac nc cells) (h1 : s0.next ≤ p1) (h3 : p1 < p3) {y0 y2 : AV} {Q : Ay   → Prop}
    (hq:∀ (S:AE) (cv:AV) (D:List Co) (O:List Nat) (y4 y5:AV),Af s0.next s0 S→(∀j,j<p3→S.heap.get j=s.heap.get j)→p3<S.next→S.heap.get p3=some (BL x3 (.slice a3 n3 c3) (.slice b3 m3 d3) (.slice av3 nv3 capv3) cv)→Gm s0 S cv D O→(∀j∈O,p3<j)→D.length≤8→Q ⟨.exit 0,[y0,.ptr (some (p1,0)),y2,.ptr (some (p3,0)),y4,y5],[],S⟩)
    (g1:s.heap.get p1=some (BL x1 (.slice a n c) (.slice b m d) (.slice av nv capv) (.slice ac nc cc))):
    ∀ (r i:Nat) (S:AE) (cv:AV) (D:List Co) (O:List Nat) (z5:AV),8 - i=r→i≤8→D.length=i→Af s0.next s0 S→(∀j,j<p3→S.heap.get j=s.heap.get j)→p3<S.next→S.heap.get p3=some (BL x3 (.slice a3 n3 c3) (.slice b3 m3 d3) (.slice av3 nv3 capv3) cv)→Gm s0 S cv D O→(∀j∈O,p3<j)→WC E none (.loop dw) Q [y0,.ptr (some (p1,0)),y2,.ptr (some (p3,0)),iv (i:Int),z5] [] S:=by
  intro r
  induction r with
  | zero =>
    intro i S cv D O x4 hi h8 hD ho hf hn3 g3 hF hO
    have e:i=8:=by omega
    subst e
    have l1:=AI (P:=Tryz.prog) (t:=28) (o:=0+4) Eb ((hf p1 h3).trans g1) rfl
    refine WC.loop' ?_
    simp only[dw,rQ,l1,C0,AH Tryz.underlying28,Qa,Qb,Qc,Qd,Qf,Qg,Qh,Qi,Qj,Qk,Qm,Qo,true_and,Qr,Qs,Qt,Qv,Qw,Qx,Rb,Rd,Re,Rs,Ru,Rw,Ry]
    by_cases hn:((8:Nat):Int)<(nc:Int)
    · simp only[decide_eq_true hn,show decide (((8:Nat):Int)<8)=false from rfl,Qc,Qd,Qm,Qo,true_and,Qp,Qq,Qr,Qs,Qt,Qx,Ra,Rs,Ry]
      exact hq S cv D O _ _ ho hf hn3 g3 hF hO (by omega)
    · simp only[decide_eq_false hn,Qd,Qm,Qo,true_and,Qp,Qq,Qr,Qs,Qu,Qx,Ra,Rs]
      exact hq S cv D O _ _ ho hf hn3 g3 hF hO (by omega)
  | succ r ih =>
    intro i S cv D O x4 hi h8 hD ho hf hn3 g3 hF hO
    have l1:=AI (P:=Tryz.prog) (t:=28) (o:=0+4) Eb ((hf p1 h3).trans g1) rfl
    refine WC.loop' ?_
    generalize hW:WC E none (Aa.loop dw) Q=WW
    simp only[dw,rQ,l1,C0,AH Tryz.underlying28,Qa,Qb,Qc,Qd,Qf,Qg,Qh,Qi,Qj,Qk,Qm,Qo,true_and,Qr,Qs,Qt,Qv,Qw,Qx,Rb,Rd,Re,Rs,Ru,Rw,Ry]
    by_cases hn:(i:Int)<(nc:Int)
    · have hlt:i<nc:=by omega
      obtain⟨i0,o,rfl,hi0,ld⟩:=hr.load hlt
      have ix:=Ae (cap:=cc) (i:=i0) (o:=o) (n:=3) Tryz.underlying28 A9 hlt
      have ld':AC Tryz.prog S 26 (.ptr (some (i0,o+i * 3)))=some (.agg ((cells.drop (i * 3)).take 3)):=by
        rw[Wg Bt]at ld ⊢
        rw[ho.2 i0 hi0];exact ld
      have e17:=Az Tryz.prog 3 (i:Int) 1 ⟨by omega,by omega⟩
      have e17':((i:Int)+1)=((i+1:Nat):Int):=by omega
      have l3:=AI (P:=Tryz.prog) (t:=28) (o:=0+4) Eb g3 rfl
      simp only[decide_eq_true hn,decide_eq_true (show(i:Int)<8 by omega),ut,l1,l3,C0,ix,ld',Qb,Qc,Qd,Qf,Qh,Qj,Qk,Qm,Qo,true_and,Qp,Qq,Qr,Qs,Qt,Qv,Qx,Qz,Rs,Ry]
      refine So hE ho (hr.rat i hlt) fun s4 w q o4 hw=>?_
      have hs0:=ho.1
      have hs4:=o4.1
      have l3':=AI (P:=Tryz.prog) (t:=28) (o:=0+4) Eb ((o4.2 p3 hn3).trans g3) rfl
      obtain⟨_,_,ecv,_⟩:=hF.buf.slice
      refine⟨⟨As (by simp only[Qk,Qr,Qs];exact l3') (by simp only[Qk,Qr,Qs];rw[ecv];exact BJ _ _ _),trivial⟩,?_⟩
      obtain⟨xx,aa,nn,kk,bb,mm,ee,rfl⟩:=hw.shape
      obtain⟨n5,o5,g5⟩:=CC s4 (R 26 3 false [.bool xx,.slice aa nn kk,.slice bb mm ee])
      simp only[JS,Xe,Qm,Qr,Qs,Yc]
      generalize newObj s4 (R 26 3 false [.bool xx,.slice aa nn kk,.slice bb mm ee])=s5 at *
      have o45:Af S.next S s5:=o4.trans (o5.mono hs4)
      obtain⟨v6,s6,O6,happ,F6,n6,f6,hO6⟩:=(hF.old o45).push g5 hw (by omega) (by omega)
      have hp3:p3 ∉ O:=fun h=>by have:=hO p3 h;omega
      have g6:s6.heap.get p3=some (BL x3 (.slice a3 n3 c3) (.slice b3 m3 d3) (.slice av3 nv3 capv3) cv):=by rw[f6 p3 (by omega) hp3,o45.2 p3 hn3];exact g3
      obtain⟨_,_,ev6,_⟩:=F6.buf.slice
      have st7:=Bn (P:=Tryz.prog) (t:=28) (o:=0+4) (v:=v6) kI g6 (by simp) (by rw[ev6];rfl)
      simp only[happ,st7,C0,uu,e17,e17',Xy,Za,Qb,Qc,Qd,Qf,Qh,Qi,Qj,Qk,Qm,Qo,true_and,Qp,Qq,Qr,Qs,Qt,Qv]
      generalize hs7:setObj s6 p3 _=s7
      have f7:∀j,j≠p3→s7.heap.get j=s6.heap.get j:=fun j hj=>by rw[← hs7,Wx _ hj]
      have n7:s7.next=s6.next:=by rw[← hs7];rfl
      have g7:s7.heap.get p3=some (BL x3 (.slice a3 n3 c3) (.slice b3 m3 d3) (.slice av3 nv3 capv3) v6):=by rw[← hs7,Ww];rfl
      have hO6':∀j∈O6,p3<j:=fun j hj=>by
        rcases hO6 j hj with h | h
        · exact hO j h
        · omega
      rw[← hW]
      refine ih (i+1) s7 v6 _ O6 _ (by omega) (by omega) (by simp[hD]) ⟨by omega,fun j hj=>?_⟩ (fun j hj=>?_) (by omega) g7 (F6.frame (by omega) fun j hj=>f7 j (by have:=hO6' j hj;omega)) hO6'
      · rw[f7 j (by omega),f6 j (by omega) (fun h=>by have:=hF.lo j h;omega),o45.2 j (by omega),ho.2 j hj]
      · rw[f7 j (by omega),f6 j (by omega) (fun h=>by have:=hO j h;omega),o45.2 j (by omega),hf j hj]
    · simp only[decide_eq_false hn,Qd,Qm,Qo,true_and,Qp,Qq,Qr,Qs,Qu,Qx,Ra,Rs]
      exact hq S cv D O _ _ ho hf hn3 g3 hF hO (by omega)
theorem tF(hE:GoodN E){s0:AE}(o0:Af s0.next s0 s){v:AV}(hv:LA s0 v){K:AV→AE→Prop}
  (hK:∀ (s':AE) (w:AV) (C:Rat) (vs:List Int) (cs:List Rat),Af s.next s s'→(∀s'',s'.next≤s''.next→(∀j,j<s'.next→j<s0.next∨s.next≤j→s''.heap.get j=s'.heap.get j)→LI s'' w C vs cs 3)→vs.length≤8→cs.length≤8→K w s'):WF E 7 [v] K s:=by
 obtain⟨x,a,n,c,b,m,d,av,vs,capv,ac,nc,capc,cells,rfl,hC,hvs0,hi,hcap0,hcs⟩:=hv
 have hcap:=hcap0.old o0
 have hs0:=o0.1
 refine hE.go vB (by decide) rfl ?_
 obtain⟨n1,o1,g1,g2⟩:=EO s (BL x (.slice a n c) (.slice b m d) (.slice av vs.length capv) (.slice ac nc capc)) ZL
 obtain⟨n3,o3,g3⟩:=CC (newObj (newObj s (BL x (.slice a n c) (.slice b m d) (.slice av vs.length capv) (.slice ac nc capc))) ZL) ZL
 simp only[c7,uo,Xa,Xh,El,Xc,Aq,Qa,Qb,Qc,Qd,Qf,Qh,Qj,Ql,Qm,Qo,true_and,Qp,Qq,Qr,Qt,Qv,Rb,Rh]
 generalize hs1:newObj (newObj s (BL x (.slice a n c) (.slice b m d) (.slice av vs.length capv) (.slice ac nc capc))) ZL=s1 at *
 have l1:AC Tryz.prog s1 26 (.ptr (some (s.next,0+0)))=some (.agg [.bool x,.slice a n c,.slice b m d]):=Av (o:=0) (n:=3) Bt A9 g1 (by simp)
 have l2:=AI (P:=Tryz.prog) (t:=27) (o:=0+3) Fc g1 rfl
 have cut2:=Na Tryz.underlying27 OJ (by decide) (hcap.old o1) (show min vs.length 8≤vs.length by omega)
 have mm2:Ct false (iv (vs.length:Int)) [.int .i64 8]=some (iv ((min vs.length 8:Nat):Int)):=MW vs.length 8
 simp only[uq,l1,l2,cut2,mm2,AH Tryz.underlying27,IP,Cz,El,Xc,Qb,Qc,Qd,Qf,Qh,Qi,Qj,Qk,Qm,Qo,true_and,Qp,Qq,Qr,Qs,Qt,Qv]
 generalize hs3:newObj s1 ZL=s3 at *
 have o13:Af s.next s s3:=o1.trans (o3.mono o1.1)
 refine So hE (o0.trans (o13.mono hs0)) hC fun s4 w q o4 hw=>?_
 obtain⟨xx,aa,nn,kk,bb,mm,ee,rfl⟩:=hw.shape
 have k1:=(o4.2 s.next (by omega)).trans ((o3.2 s.next (by omega)).trans g1)
 have l2':=AI (P:=Tryz.prog) (t:=27) (o:=0+3) Fc k1 rfl
 have o14:Af s.next s s4:=o13.trans (o4.mono o13.1)
 have cut2':=Na Tryz.underlying27 OJ (by decide) (hcap.old o14) (show min vs.length 8≤vs.length by omega)
 have g4:s4.heap.get s1.next=some ZL:=(o4.2 s1.next (by omega)).trans g3
 have hs4:=o4.1
 have hs13:=o13.1
 refine⟨⟨?_,?_,?_,?_,trivial⟩,?_⟩
 ·simp only[HW,cut2',BY,BJ,Qh,Qk,Qr,Qs]
 ·simp only[HW,AH Tryz.underlying27,BY,UD,Qh,Qk,Qr,Qs]
 ·exact As (by simp only[Qk,Qr,Qs];exact l2') (by simp only[Qk,Qr,Qs];exact BJ _ _ _)
 ·exact As (by simp only[Qk,Qr,Qs];exact l2') (by simp only[Qk,Qr,Qs];exact BJ _ _ _)
 obtain⟨st5,_⟩:=CF (cs0:=[.bool false,.slice none 0 (some 0),.slice none 0 (some 0),.slice none 0 (some 0),.slice none 0 (some 0)]) rfl (x:=xx) (a:=aa) (n:=nn) (c:=kk) (b:=bb) (m:=mm) (d:=ee) (av:=av) (nv:=min vs.length 8) (cv:=capv) (ac:=none) (nc:=0) (cc:=some 0) g4
 simp only[ur,QP,st5,Xy,Za,Qb,Qc,Qd,Qf,Qh,Qi,Qm,Qo,true_and,Qp,Qq,Qr,Qs,Qt,Qv]
 generalize hs5:setObj s4 s1.next _=s5
 have g5:s5.heap.get s1.next=some (BL xx (.slice aa nn kk) (.slice bb mm ee) (.slice av (min vs.length 8) capv) (.slice none 0 (some 0))):=by rw[← hs5,Ww]
 have f5:∀j,j≠s1.next→s5.heap.get j=s4.heap.get j:=fun j hj=>by rw[← hs5,Wx _ hj]
 have n5:s5.next=s4.next:=by rw[← hs5];rfl
 have o15:Af s.next s s5:=⟨by omega,fun j hj=>by rw[f5 j (by omega),o14.2 j hj]⟩
 refine fL hE (s:=s5) (s0:=s0) (p1:=s.next) (p3:=s1.next) hcs hs0 (by omega) (fun S cv D O y4 y5 hS hf hn3 gS hF hO hD=>?_) ((f5 s.next (by omega)).trans k1) 8 0 s5 _ [] [] _ rfl (by omega) rfl (o0.trans (o15.mono hs0)) (fun _ _=>rfl) (by omega) g5 (Gm.nil _ _) (fun j h=>by simp at h)
 obtain⟨a9,cap9,rfl,hr9,hz9⟩:=hF.rats hS
 have lS:=AT (P:=Tryz.prog) (t:=30) GJ Fk gS rfl
 have gz:S.heap.get (s.next+1)=some ZL:=by
  rw[hf _ (by omega),f5 _ (by omega),o4.2 _ (by omega),o3.2 _ (by omega)]
  exact g2
 obtain⟨st9,ld9⟩:=CF (cs0:=[.bool false,.slice none 0 (some 0),.slice none 0 (some 0),.slice none 0 (some 0),.slice none 0 (some 0)]) rfl (x:=xx) (a:=aa) (n:=nn) (c:=kk) (b:=bb) (m:=mm) (d:=ee) (av:=av) (nv:=min vs.length 8) (cv:=capv) (ac:=a9) (nc:=(D.map fun t=>t.2.1).length) (cc:=cap9) gz
 simp only[uv,if_true,lS,st9,ld9,AQ,Xy,Za,Qb,Qc,Qd,Qf,Qh,Qj,Qk,Qm,Qo,true_and,Qr,Qs,Qt,Qv,Rb,Rd,Rg,Rj,Rk,Rn,Yc]
 generalize hs8:setObj S (s.next+1) _=s8
 have oS:Af s.next s S:=⟨by have:=hn3;omega,fun j hj=>by rw[hf j (by omega)];exact o15.2 j hj⟩
 have o8:Af s.next s s8:=by rw[← hs8];exact oS.set (by omega) _
 have hzO:s.next+1 ∉ O:=fun h=>by have:=hO _ h;omega
 have hF8:Gm s0 s8 (.slice a9 (D.map fun t=>t.2.1).length cap9) D O:=hF.frame (by rw[← hs8];exact xZ _) fun j hj=>by rw[← hs8,Wx _ (by rintro rfl;exact hzO hj)]
 have hlen:(vs.take 8).length=min vs.length 8:=by rw[xz];omega
 refine hK s8 _ q (vs.take 8) (D.map fun t=>t.2.1) o8 (fun s'' hn'' hf''=>?_) (by omega) (by simpa using hD)
 have h08:=o8.1
 have o'':Af s0.next s0 s'':=⟨by omega,fun j hj=>by rw[hf'' j (by omega) (.inl hj),o8.2 j (by omega),o0.2 j hj]⟩
 have hF9:Gm s0 s'' (.slice a9 (D.map fun t=>t.2.1).length cap9) D O:=hF8.frame hn'' fun j hj=>hf'' j (hF8.buf.lt j hj) (.inr (by have:=hO j hj;omega))
 obtain⟨a9',cap9',e9,hr8,hz8⟩:=hF9.rats o''
 injection e9 with e9 _ e9'
 subst e9;subst e9'
 refine⟨xx,aa,nn,kk,bb,mm,ee,av,capv,a9,cap9,DP D,by rw[hlen],hw.old o'',?_,fun z hz=>hi z (List.take_subset _ _ hz),hr8,by rw[hlen];exact(hcap0.less (by omega)).old o'',hz8⟩
 rw[zh]
 exact IL ((hvs0.old o'' (xZ _)).mono o''.1) 8
end
theorem KG{s:AE}{e sz:Nat}{a:Option (Nat×Nat)}{cap:Option Nat}{n:Nat}{cs:List AV}(h:AU s.next s a cs)(hl:cs.length=n * sz)(h0:0<sz):Ck Tryz.prog s e sz (.slice a n cap)=some (n,cs):=by
 rcases yX n with rfl | hn
 ·have:cs=[]:=zN (by omega)
  subst this
  cases a with
  | none=>rfl
  | some io=>obtain⟨i,o⟩:=io;rfl
 ·have hp:0<n * sz:=zA hn h0
  obtain⟨i,o,rfl,_,_⟩:=h 0 cs[0] (xe (by omega))
  have hld:=JA (o:=s.heap.get i) cs o (fun j u hj=>by
   obtain⟨i',o',e,_,h3⟩:=h j u hj
   injection e with e
   injection e with e1 e2
   subst e1;subst e2
   exact h3) (by intro e;rw[e]at hl;simp at hl;omega)
  rw[hl]at hld
  show(NO s i o n sz).bind _=_
  rw[show NO s i o n sz=CI s i o (n * sz)from by unfold NO;rw[Dl (show n≠0 by omega)];rfl,I9,hld]
  rfl
section
variable{E:CU}{s:AE}
end
theorem EL{s s':AE}{t:TypeId}{b:Bool}(ht:EF Tryz.prog t=some b){i o:Nat}{v:AV}(o1:Af s.next s s')(hi:i<s.next)(h:AC Tryz.prog s t (.ptr (some (i,o)))=some v):AC Tryz.prog s' t (.ptr (some (i,o)))=some v:=by
  cases b
  · rw [Wf ht] at h ⊢
    rw[o1.2 i hi];exact h
  · rw [Wg ht] at h ⊢
    rw[o1.2 i hi];exact h
theorem gP:Ad Tryz.prog 27 0 (zipIdx [] [])=some (R 3 1 false []):=by kernel_rfl
theorem jh(l:List Int):An (l.map iv)=true:=by
 induction l with
 | nil=>rfl
 | cons x l ih=>show((iv x).isCell && An (l.map iv))=true;rw[ih];rfl
theorem US{s:AE}{i e sz:Nat}{sp:Bool}{cs:List AV}(hg:s.heap.get i=some (R e sz sp cs)):CI s i 0 cs.length=some cs:=by
 rw[I9,hg,Wp (by omega)]
 simp
theorem CM.row{s:AE}{i e sz n:Nat}{cs:List AV}(hi:i<s.next)(hg:s.heap.get i=some (R e sz false cs))(hl:cs.length=n * sz):CM e s (.slice (some (i,0)) n (some n)) n sz cs []:=
 .inl ⟨some (i,0),rfl,rfl,hl,fun h=>(by cases h),fun i' o' h=>by
  injection h with h
  injection h with h1 h2
  subst h1;subst h2
  exact⟨hi,by rw[← hl];exact US hg⟩⟩
theorem Xq        {s : AE}  {a : Option (Nat × Nat)} {cs : List Rat} {k : Nat} {cells : List AV} (h : Ej     s a cs k cells) : An       cells = true := by
  have hp : ∀ (n : Nat) (l : List AV), l.length = n * 3 → (∀ i, i < n → An       ((l.drop (i * 3)).take 3) = true) → An       l = true := by
    intro n
    induction n with
    | zero=>intro l hl _;rw[zN (by omega:l.length=0)];rfl
    | succ n ih =>
      intro l hl hc
      have e:l=l.take 3++l.drop 3:=(zB 3 l).symm
      have h0:An (l.take 3)=true:=by have:=hc 0 (by omega);simpa using this
      have h1:=ih (l.drop 3) (by rw[yL];omega) fun i hi=>by
        have:=hc (i+1) (by omega)
        rw[zC,show 3+i * 3=(i+1) * 3 by omega]
        exact this
      have happ:∀x y:List AV,An x=true→An y=true→An (x++y)=true:=by
        intro x
        induction x with
        | nil=>intro y _ hy;exact hy
        | cons c x ihx =>
          intro y hx hy
          have hx':(c.isCell && An x)=true:=hx
          rw[Bool.and_eq_true]at hx'
          show(c.isCell && An (x++y))=true
          rw[hx'.1,ihx y hx'.2 hy];rfl
      rw[e];exact happ _ _ h0 h1
  refine hp cs.length cells h.len fun i hi=>?_
  obtain⟨_,_,_,_,_,_,_,e⟩:=(h.rat i cs[i] (xe hi)).shape
  injection e with e
  rw[e];rfl
section
variable{E:CU}{s:AE}
end
theorem LA.shape{s:AE}{v:AV}(h:LA s v):∃x a n c b m d av nv capv ac nc capc,v=.agg [.bool x,.slice a n c,.slice b m d,.slice av nv capv,.slice ac nc capc]:=by
 obtain⟨x,a,n,c,b,m,d,av,vs,capv,ac,nc,capc,cells,h1,h2⟩:=h
 exact⟨_,_,_,_,_,_,_,_,_,_,_,_,_,h1⟩
section
variable{E:CU}{s:AE}
end
theorem eU{P:Program}{W:World}{base:Nat}{u:TypeId}{a:Addr}(h:Cell.okWide P W .any base u (.slice (some a) 0 0)):0<W.heap.size:=by
 unfold Cell.okWide at h
 have h':Cell.ok P W .any base u (.slice (some a) 0 0):=by
  split at h<;>first | exact h | (rename_i e;cases e) | skip
 unfold Cell.ok at h'
 split at h'<;>first | (exact h'.elim) | skip
 all_goals (rename_i e1 e2;first | (cases e2;done) | skip)
 all_goals (first | (injection e2 with q1 q2 q3;injection q1 with q1;subst q1) | skip)
 all_goals
  obtain⟨_,_,_,_,row,cells,hs,_⟩:=h'
  unfold World.shape? at hs
  cases hb:W.heap[a.block]? with
  | none=>rw[hb]at hs;cases hs
  | some o =>
   rcases xf a.block W.heap.size with h' | h'
   ·omega
   ·rw[Array.getElem?_eq_none h']at hb;cases hb
def pU(_:AE)(us:List AV)(x:Nat):Prop:=us=[Aw x]∧x<LB
theorem tU(s s':AE)(us:List AV)(x:Nat)(h:pU s us x)(_:Af s.next s s'):pU s' us x:=h
def pJ(_:AE)(us:List AV)(x:Int):Prop:=us=[iv x]∧i64 x
theorem tS(s s':AE)(us:List AV)(x:Int)(h:pJ s us x)(_:Af s.next s s'):pJ s' us x:=h
def pQ(s:AE)(us:List AV)(_:Unit):Prop:=QA s (.agg us)
theorem tT(s s':AE)(us:List AV)(x:Unit)(h:pQ s us x)(o:Af s.next s s'):pQ s' us x:=QA.old h o
def pL(s:AE)(us:List AV)(_:Unit):Prop:=LA s (.agg us)
theorem ig{s:AE}{a:Option (Nat×Nat)}{cap:Option Nat}{n sz:Nat}(h:kU s a cap n sz):EC sz s a cap n:=by
 rcases h with h | ⟨rfl,rfl,i,r,h3,h4,h5,h6⟩
 ·exact .inl h
 ·exact .inr ⟨rfl,i,0,r,h3,h4,h5,h6,by omega⟩
theorem OE{α:Type}{p:AE→List AV→α→Prop}{s:AE}{us:List AV}{xs:List α}(h:GG p 1 s us xs)(f:α→AV)(hp:∀vs x,p s vs x→vs=[f x]):
  ∃a cap,us=[.slice a xs.length cap]∧EC 1 s a cap xs.length∧AU s.next s a (xs.map f):=by
 obtain⟨a,cap,h1,h2,h3,h4⟩:=h
 refine⟨a,cap,h1,ig h3,fun k u hu=>?_⟩
 rw[yY]at hu
 cases hx:xs[k]? with
 | none=>rw[hx]at hu;cases hu
 | some x =>
  rw[hx]at hu
  injection hu with hu
  subst hu
  obtain⟨i,o,vs,g1,g2,_,g4,g5⟩:=h4 k x hx
  rw[hp _ _ g5]at g4
  have:=g4 0 _ rfl
  simp only[xj,yF]at this
  exact⟨i,o,g1,g2,this⟩
theorem OF{α:Type}{p:AE→List AV→α→Prop}{s:AE}{us:List AV}{xs:List α}{sz:Nat}(h:GG p sz s us xs){x:α}(hx:x∈xs):∃vs,p s vs x:=by
 obtain⟨a,cap,h1,h2,h3,h4⟩:=h
 obtain⟨k,hk⟩:=List.mem_iff_getElem?.1 hx
 obtain⟨i,o,vs,_,_,_,_,g5⟩:=h4 k x hk
 exact⟨vs,g5⟩
theorem R6{s:AE}{us:List AV}{xs:List Nat}(h:GG pU 1 s us xs):∃v,us=[v]∧Bo s v xs∧Be xs:=by
  obtain⟨a,cap,rfl,h1,h2⟩:=OE h Aw fun vs x hx=>hx.1
  refine⟨_,rfl,⟨a,cap,rfl,?_,h2⟩,fun x hx=>?_⟩
  · rcases h1 with h1 | ⟨h1, i, o, r, h3, h4, h5, h6, h7⟩
    · exact .inl h1
    · exact .inr ⟨h1,i,o,r,h3,h4,h5,h6,by omega⟩
  · obtain⟨vs,hv⟩:=OF h hx
    exact hv.2
theorem ints_at{s:AE}{us:List AV}{xs:List Int}(h:GG pJ 1 s us xs):∃a cap,us=[.slice a xs.length cap]∧EC 1 s a cap xs.length∧AU s.next s a (xs.map iv)∧∀n∈xs,i64 n:=by
 obtain⟨a,cap,rfl,h1,h2⟩:=OE h iv fun vs x hx=>hx.1
 exact⟨a,cap,rfl,h1,h2,fun x hx=>by obtain⟨vs,hv⟩:=OF h hx;exact hv.2⟩
theorem j9{s:AE}{us:List AV}{xs:List Unit}(h:GG pQ 3 s us xs):∃a cap cells,us=[.slice a xs.length cap]∧QB s a xs.length cells:=by
 obtain⟨a,cap,h1,h2,h3,h4⟩:=h
 have key:∀k,∃vs:List AV,k<xs.length→vs.length=3∧QA s (.agg vs)∧∃i o,a=some (i,o)∧i<s.next∧∀j u,vs[j]? = some u→DA s i (o+k * 3+j)=some u:=by
  intro k
  by_cases hk:k<xs.length
  ·obtain⟨i,o,vs,g1,g2,g3,g4,g5⟩:=h4 k xs[k] (xe hk)
   exact⟨vs,fun _=>⟨g3,g5,i,o,g1,g2,g4⟩⟩
  ·exact⟨[],fun h=>absurd h hk⟩
 let f:Nat→List AV:=fun k=>Classical.choose (key k)
 have hf:∀k,k<xs.length→(f k).length=3∧QA s (.agg (f k))∧∃i o,a=some (i,o)∧i<s.next∧∀j u,(f k)[j]? = some u→DA s i (o+k * 3+j)=some u:=fun k=>Classical.choose_spec (key k)
 let D:List Co:=(List.range xs.length).map fun k=>((0:Int),(0:Rat),AV.agg (f k))
 have hD:∀t∈D,t.2.2.cells.length=3:=fun t ht=>by
  obtain⟨k,hk,rfl⟩:=List.mem_map.1 ht
  exact(hf k (List.mem_range.1 hk)).1
 obtain⟨p1,p2⟩:=F5 D hD
 have hDk:∀k,k<xs.length→D[k]? = some ((0:Int),(0:Rat),AV.agg (f k)):=fun k hk=>by
  show((List.range xs.length).map _)[k]? = _
  rw[yY,A0F hk];rfl
 have hDl:D.length=xs.length:=by show((List.range xs.length).map _).length=_;simp
 have hpt:∀k,k<xs.length→((DP D).drop (k * 3)).take 3=f k:=fun k hk=>p2 k _ (hDk k hk)
 refine⟨a,cap,DP D,h1,by rw[p1,hDl],fun j u hj=>?_,fun k hk=>by rw[hpt k hk];exact(hf k hk).2.1⟩
 have hjl:j<xs.length * 3:=by
  rcases xf j (DP D).length with h' | h'
  ·rw[p1,hDl]at h';exact h'
  ·rw[xr h']at hj;cases hj
 have hk:j / 3<xs.length:=by omega
 obtain⟨_,_,i,o,e1,e2,e3⟩:=hf (j / 3) hk
 have hg:(f (j / 3))[j % 3]? = some u:=by
  rw[← hpt (j / 3) hk,yy (by omega),yn,show j / 3 * 3+j % 3=j by omega]
  exact hj
 have:=e3 _ _ hg
 rw[show o+j / 3 * 3+j % 3=o+j by omega]at this
 exact⟨i,o,e1,e2,this⟩
section
variable{H:Type}{enc:TypeId×Value→H}{w:World}{held:Bool}
theorem coU:Tryz.prog.cellsOf 76=1:=by kernel_rfl
theorem u9:Tryz.prog.cellsOf 22=1:=by kernel_rfl
theorem coB:Tryz.prog.cellsOf 4=1:=by kernel_rfl
theorem coJ:Tryz.prog.cellsOf 3=1:=by kernel_rfl
theorem wA:Tryz.prog.cellsOf 27=1:=by kernel_rfl
theorem coI:Tryz.prog.cellsOf 24=2:=by kernel_rfl
theorem wB:Tryz.prog.cellsOf 26=3:=by kernel_rfl
theorem wC:Tryz.prog.cellsOf 28=1:=by kernel_rfl
theorem coL:Tryz.prog.cellsOf 30=5:=by kernel_rfl
theorem XG(n:Nat)(cs:List Value)(y:DataW H×List MemPlace)
  (h:DataW.trod enc Tryz.prog w 0 (fun _=>true) held n 76 cs=some y) (ρ:BU) (s:AE) (hd:Gl Tryz.prog w ρ s):KL Tryz.prog w pU cs ρ s:=by
 obtain⟨m,rfl,_,h3⟩:=DataW.trod_int Tryz.underlying76 h
 simp only[Lit.wf,Bool.and_eq_true,decide_eq_true_eq]at h3
 have h1:0≤m:=h3.1
 have h2:m≤4294967295:=h3.2
 obtain⟨k,rfl⟩:∃k:Nat,m=k:=⟨m.toNat,by omega⟩
 exact⟨ρ,s,[.int .u32 k],k,hd,BU.le_refl ρ,Af.refl _ _,.cons (.int .u32 _) .nil,rfl,by show k<4294967296;omega⟩
theorem XE(n:Nat)(cs:List Value)(y:DataW H×List MemPlace)
  (h:DataW.trod enc Tryz.prog w 0 (fun _=>true) held n 3 cs=some y) (ρ:BU) (s:AE) (hd:Gl Tryz.prog w ρ s):KL Tryz.prog w pJ cs ρ s:=by
 obtain⟨m,rfl,_,h3⟩:=DataW.trod_int Tryz.underlying3 h
 refine⟨ρ,s,[.int .i64 m],m,hd,BU.le_refl ρ,Af.refl _ _,.cons (.int .i64 m) .nil,rfl,?_⟩
 simp only[Lit.wf,Bool.and_eq_true,decide_eq_true_eq]at h3
 have h1:-9223372036854775808≤m:=h3.1
 have h2:m≤9223372036854775807:=h3.2
 exact⟨h1,by omega⟩
theorem KT{n:Nat}{cs:List Value}{y:DataW H×List MemPlace}(h:DataW.trod enc Tryz.prog w 0 (fun _=>true) held n 22 cs=some y)(hw:∀a,.slice (some a) 0 0∈cs→0<w.heap.size){ρ:BU}{s:AE}(hd:Gl Tryz.prog w ρ s):KL Tryz.prog w (GG pU 1) cs ρ s:=
 G4 tU Tryz.underlying22 coU (by decide) (fun _ n cs y h _=>XG n cs y h) h (fun a ha=>hw a (by rw[ha];exact A0H.2 rfl)) hd
theorem Nj{n:Nat}{cs:List Value}{y:DataW H×List MemPlace}(h:DataW.trod enc Tryz.prog w 0 (fun _=>true) held n 26 cs=some y)(hw:∀a,.slice (some a) 0 0∈cs→0<w.heap.size){ρ:BU}{s:AE}(hd:Gl Tryz.prog w ρ s):KL Tryz.prog w pQ cs ρ s:=by
 obtain⟨xs,m,_,rfl,h3,h4,h5⟩:=DataW.trod_struct Tryz.underlying26 h
 rw[wB]at h3
 have h4:xs.length=2:=h4
 match cs,h3,hw,h5 with
 | [c0,c1,c2],_,hw,h5 =>
  have e0:DataW.trod enc Tryz.prog w 0 (fun _=>true) held m 24 (([c0,c1,c2].drop 0).take (Tryz.prog.cellsOf 24))=xs[0]? := h5 0 _ rfl
  have e1:DataW.trod enc Tryz.prog w 0 (fun _=>true) held m 22 (([c0,c1,c2].drop 2).take (Tryz.prog.cellsOf 22))=xs[1]? := h5 1 _ rfl
  rw[coI,xe (show 0<xs.length by omega)]at e0
  rw[u9,xe (show 1<xs.length by omega)]at e1
  obtain⟨ys,m',_,_,k3,k4,k5⟩:=DataW.trod_struct Tryz.underlying24 e0
  have k4:ys.length=2:=k4
  have f0:DataW.trod enc Tryz.prog w 0 (fun _=>true) held m' 4 (([c0,c1].drop 0).take (Tryz.prog.cellsOf 4))=ys[0]? := k5 0 _ rfl
  have f1:DataW.trod enc Tryz.prog w 0 (fun _=>true) held m' 22 (([c0,c1].drop 1).take (Tryz.prog.cellsOf 22))=ys[1]? := k5 1 _ rfl
  rw[coB,xe (show 0<ys.length by omega)]at f0
  rw[u9,xe (show 1<ys.length by omega)]at f1
  obtain⟨b,q0,_⟩:=DataW.trod_bool Tryz.underlying4 f0
  injection q0 with q0
  subst q0
  obtain⟨ρ1,s1,us1,l1,g1,g2,g3,g4,g5⟩:=KT (cs:=[c1]) f1 (fun a ha=>hw a (by simp at ha;simp[ha])) hd
  obtain⟨ρ2,s2,us2,l2,t1,t2,t3,t4,t5⟩:=KT (cs:=[c2]) e1 (fun a ha=>hw a (by simp at ha;simp[ha])) g1
  obtain⟨u1,rfl,n1,sm1⟩:=R6 g5
  obtain⟨u2,rfl,n2,sm2⟩:=R6 t5
  refine⟨ρ2,s2,[.bool b,u1,u2],(),t1,BU.le_trans g2 t2,g3.trans (t3.mono g3.1),.cons (.bool b) ?_,b,u1,u2,l1,l2,rfl,n1.old t3,n2,sm1,sm2⟩
  cases g4 with
  | cons q1 _=>exact .cons (q1.mono t2) t4
theorem XF        {n : Nat} {cs : List Value} {y : DataW H × List MemPlace} (h : DataW.trod enc Tryz.prog w 0 (fun _ => true) held n 30 cs = some y) (hw : ∀ a, .slice (some a) 0 0 ∈ cs → 0 < w.heap.size) {ρ : BU}  {s : AE}  (hd : Gl   Tryz.prog w ρ s) : KL    Tryz.prog w pL cs ρ s := by
  obtain⟨xs,m,_,rfl,h3,h4,h5⟩:=DataW.trod_struct Tryz.underlying30 h
  rw[coL]at h3
  have h4:xs.length=3:=h4
  match cs,h3,hw,h5 with
  | [c0,c1,c2,c3,c4],_,hw,h5 =>
    have e0:DataW.trod enc Tryz.prog w 0 (fun _=>true) held m 26 (([c0,c1,c2,c3,c4].drop 0).take (Tryz.prog.cellsOf 26))=xs[0]? := h5 0 _ rfl
    have e1:DataW.trod enc Tryz.prog w 0 (fun _=>true) held m 27 (([c0,c1,c2,c3,c4].drop 3).take (Tryz.prog.cellsOf 27))=xs[1]? := h5 1 _ rfl
    have e2:DataW.trod enc Tryz.prog w 0 (fun _=>true) held m 28 (([c0,c1,c2,c3,c4].drop 4).take (Tryz.prog.cellsOf 28))=xs[2]? := h5 2 _ rfl
    rw[wB,xe (show 0<xs.length by omega)]at e0
    rw[wA,xe (show 1<xs.length by omega)]at e1
    rw[wC,xe (show 2<xs.length by omega)]at e2
    obtain⟨ρ1,s1,us1,x1,g1,g2,g3,g4,g5⟩:=Nj (cs:=[c0,c1,c2]) e0 (fun a ha=>hw a (by simp at ha;rcases ha with ha | ha | ha<;>simp[ha])) hd
    obtain⟨ρ2,s2,us2,l2,t1,t2,t3,t4,t5⟩:=G4 (cs:=[c3]) tS Tryz.underlying27 coJ (by decide) (fun _ n cs y h _=>XE n cs y h) e1 (fun a ha=>hw a (by simp at ha;simp[ha])) g1
    obtain⟨ρ3,s3,us3,l3,r1,r2,r3,r4,r5⟩:=G4 (cs:=[c4]) tT Tryz.underlying28 wB (by decide) (fun hpos n cs y h _ ρ s hd=>Nj h (fun _ _=>hpos) hd) e2 (fun a ha=>hw a (by simp at ha;simp[ha])) t1
    obtain⟨neg,mm,dd,lm,ld,e,q1,q2,q3,q4⟩:=g5
    injection e with e
    subst e
    obtain⟨av,capv,rfl,z1,z2,z3⟩:=ints_at t5
    obtain⟨ac,capc,cells,rfl,hra⟩:=j9 r5
    obtain⟨xa,na,ka,ea⟩:=q1.shape
    obtain⟨xb,nb,kb,eb⟩:=q2.shape
    subst ea;subst eb
    have o23:Af s1.next s1 s3:=t3.trans (r3.mono t3.1)
    refine⟨ρ3,s3,[.bool neg,.slice xa na ka,.slice xb nb kb,.slice av l2.length capv,.slice ac l3.length capc],(),r1,BU.le_trans g2 (BU.le_trans t2 r2),g3.trans (o23.mono g3.1),?_,?_⟩
    · cases g4 with
      | cons w1 w2 =>
      cases w2 with
      | cons w2 w3 =>
      cases w3 with
      | cons w3 w4 =>
      cases t4 with
      | cons w5 _ =>
        have h23:=BU.le_trans t2 r2
        exact .cons (w1.mono h23) (.cons (w2.mono h23) (.cons (w3.mono h23) (.cons (w5.mono r2) r4)))
    · exact⟨neg,xa,na,ka,xb,nb,kb,av,l2,capv,ac,l3.length,capc,cells,rfl,⟨neg,_,_,lm,ld,rfl,q1.old o23,q2.old o23,q3,q4⟩,(z2.old r3 (xZ _)).mono r3.1,z3,z1.old r3,hra⟩
end
section
variable{H:Type}{enc:TypeId×Value→H}{W:World}{base:Nat}
end
end
end Go.Proofs.YtjnkfbpadpmakaaGreatDoor.Am
set_option linter.unusedVariables false
set_option linter.unusedSimpArgs false
set_option maxRecDepth 100000
namespace Go.Proofs.YtjnkfbpadpmakaaGreatDoor.Am
open Go Go.Proofs
noncomputable section
def kZ:List AA:=[
 ⟨none,.mk (fun l=>match l with | [v]=>Bf 30 v | _=>none),[.var 0],(.set 1),[]⟩,
 ⟨none,.mk (fun l=>match l with | []=>Ag Tryz.prog 30 | _=>none),[],(.set 2),[]⟩]
def ke:List AA:=[
 ⟨none,.r1 (fun s a=>AC Tryz.prog s 30 a),[.var 1],.push,[]⟩,
 ⟨none,.call 32,[.loc 0],.push,[]⟩,
 ⟨none,.mk (fun l=>match l with | []=>Ag Tryz.prog 56 | _=>none),[],(.set 3),[]⟩,
 ⟨none,.e (fun s=>Xy (fun a x=>Za (AS Tryz.prog s 56 a x))),[.var 3,.loc 0],.push,[]⟩]
def kf:List AA:=[
 ⟨none,.call 48,[(.const (.int .u64 (1)))],.push,[]⟩,
 ⟨none,.mk (fun l=>match l with | []=>Ag Tryz.prog 22 | _=>none),[],(.set 4),[]⟩,
 ⟨none,.mk (fun l=>match l with | []=>Ag Tryz.prog 22 | _=>none),[],(.set 5),[]⟩,
 ⟨none,.e (fun s=>Xy (fun a x=>Za (AS Tryz.prog s 22 a x))),[(.var 4),(.const (.slice none 0 (some 0)))],.push,[]⟩,
 ⟨none,.e (fun s=>Xy (fun a x=>Za (AS Tryz.prog s 22 a x))),[.var 5,.loc 1],.push,[]⟩]
def kg:List AA:=[
 ⟨none,.r1 (fun s a=>AC Tryz.prog s 56 a),[.var 3],.push,[]⟩,
 ⟨none,.call 41,[.loc 0],(.set 8),[]⟩]
def kh:List AA:=[
 ⟨none,.mk (fun l=>match l with | []=>Ag Tryz.prog 26 | _=>none),[],(.set 6),[]⟩,
 ⟨none,.e (fun s=>Xy (fun a x=>Za (AS Tryz.prog s 26 a x))),[.var 6,.var 10],.push,[]⟩]
def ki:List AA:=[
 ⟨none,.r1 (fun s a=>AC Tryz.prog s 22 a),[.var 4],.push,[]⟩,
 ⟨none,.p1 (fun x=>AB Tryz.prog 26 x 0),[.var 6],.push,[]⟩,
 ⟨none,.p1 (fun x=>AB Tryz.prog 24 x 1),[.loc 0],.push,[]⟩,
 ⟨none,.r1 (fun s a=>AC Tryz.prog s 22 a),[.loc 0],.push,[]⟩,
 ⟨none,.call 49,[.loc 3,.loc 0],.push,[]⟩,
 ⟨none,.e (fun s=>Xy (fun a x=>Za (AS Tryz.prog s 22 a x))),[.var 4,.loc 0],.push,[]⟩]
def kj:List AA:=[
 ⟨none,.p1 (fun x=>AB Tryz.prog 26 x 1),[.var 6],.push,[]⟩,
 ⟨none,.r1 (fun s a=>AC Tryz.prog s 22 a),[.loc 0],.push,[]⟩,
 ⟨none,.p1 (fun x=>AB Tryz.prog 26 x 1),[.var 6],.push,[]⟩,
 ⟨none,.r1 (fun s a=>AC Tryz.prog s 22 a),[.loc 0],.push,[]⟩,
 ⟨none,.r1 (fun s a=>AC Tryz.prog s 22 a),[.var 5],.push,[]⟩,
 ⟨none,.call 49,[.loc 1,.loc 0],.push,[⟨none,.r1 (fun s a=>AC Tryz.prog s 22 a),[.loc 5],(.loc 4)⟩]⟩,
 ⟨none,.call 50,[.loc 4,.loc 0],.push,[]⟩,
 ⟨none,.p1 (fun x=>Zb x 0),[.loc 0],.push,[]⟩,
 ⟨none,.p1 (fun x=>Zb x 1),[.loc 1],.push,[]⟩,
 ⟨none,.p1 (fun x=>Zb x 2),[.loc 2],.push,[]⟩,
 ⟨none,.p1 some,[.loc 2],(.set 7),[]⟩,
 ⟨none,.p1 some,[.loc 1],.push,[]⟩,
 ⟨none,.p1 some,[.loc 1],.push,[]⟩]
def km:List AA:=[
 ⟨none,.r1 (fun s a=>AC Tryz.prog s 22 a),[.var 5],.push,[]⟩,
 ⟨none,.call 51,[.loc 0,.var 7],.push,[]⟩,
 ⟨none,.e (fun s=>Xy (fun a x=>Za (AS Tryz.prog s 22 a x))),[.var 5,.loc 0],.push,[]⟩]
def bO:Aa:=(.ops kh)
def bP:Aa:=(.block 1 (.seq (.ops ki) (.seq (.ops kj) (.ops km))))
def bJ:Code:=(FX 16 0).1
def bK:Code:=(FX 16 0).2
theorem rL:EI Tryz.prog 16 bJ=some bO:=by kernel_rfl
theorem rM:EI Tryz.prog 16 bK=some bP:=by kernel_rfl
theorem bQ:De Tryz.prog 16=[0,1,2,3,4,5,7,8,15,16,17,39]:=by kernel_rfl
def bN:List AA:=[
 ⟨none,.r1 (fun s a=>AC Tryz.prog s 22 a),[.var 4],.push,[]⟩,
 ⟨none,.r (fun s l=>match l with | [x]=>A6 Tryz.prog s 22 x | _=>none),[.loc 0],.push,[]⟩,
 ⟨none,.p2 (AL Tryz.prog .eql 3),[(.loc 0),(.const (.int .i64 (0)))],(.set 11),[]⟩]
def bL:List AA:=[
 ⟨none,.p1 (fun x=>AB Tryz.prog 56 x 0),[.var 3],.push,[]⟩,
 ⟨none,.r1 (fun s a=>AC Tryz.prog s 26 a),[.loc 0],.push,[]⟩,
 ⟨none,.call 53,[.loc 0],.push,[]⟩,
 ⟨none,.call 52,[.loc 0],.push,[]⟩,
 ⟨none,.call 23,[.loc 0],.push,[]⟩,
 ⟨none,.e (fun s=>Xy (fun a x=>Za (AS Tryz.prog s 30 a x))),[.var 2,.loc 0],.push,[]⟩]
def bM:List AA:=[
 ⟨none,.r1 (fun s a=>AC Tryz.prog s 56 a),[.var 3],.push,[]⟩,
 ⟨none,.r1 (fun s a=>AC Tryz.prog s 22 a),[.var 5],.push,[]⟩,
 ⟨none,.p (fun l=>BT Tryz.prog 24 (zipIdx [1] l)),[.loc 0],.push,[]⟩,
 ⟨none,.r1 (fun s a=>AC Tryz.prog s 22 a),[.var 4],.push,[]⟩,
 ⟨none,.p (fun l=>BT Tryz.prog 26 (zipIdx [0,1] l)),[.loc 1,.loc 0],.push,[]⟩,
 ⟨none,.call 33,[.loc 4],.push,[⟨none,.r1 (fun s a=>AC Tryz.prog s 22 a),[.var 4],(.loc 2)⟩,⟨none,.r1 (fun s a=>AC Tryz.prog s 22 a),[.var 5],(.loc 4)⟩]⟩,
 ⟨none,.call 22,[.loc 0,.loc 1],.push,[]⟩,
 ⟨none,.e (fun s=>Xy (fun a x=>Za (AS Tryz.prog s 30 a x))),[.var 2,.loc 0],.push,[]⟩]
def wQ:Ah:=⟨1,12,(.seq (.ops kZ) (.seq (.ops ke) (.seq (.ops kf) (.seq (.seq (.ops kg) (.block 0 (.rangeFunc 16 (.var 8) #[16,17] bJ bK))) (.seq (.seq (.ops bN) (.cond (.var 11)
 (.seq (.ops bL) .ret)
 .skip)) (.seq (.ops bM) .ret)))))),[((.var 2),some 30)]⟩
def mM:List AA:=[
 ⟨none,.p1 some,[(.const (.bool false))],(.set 2),[]⟩]
def mN:List AA:=[
 ⟨none,.r (fun s l=>match l with | [x]=>A6 Tryz.prog s 22 x | _=>none),[.var 0],.push,[]⟩,
 ⟨none,.r (fun s l=>match l with | [x]=>A6 Tryz.prog s 22 x | _=>none),[.var 1],.push,[]⟩,
 ⟨none,.p2 (AL Tryz.prog .neq 3),[.loc 1,.loc 0],(.set 4),[]⟩]
def uj:List AA:=[
 ⟨none,.p1 some,[(.const (.bool false))],(.set 2),[]⟩]
def mO:List AA:=[
 ⟨none,.p1 some,[(.const (.int .i64 (0)))],(.set 3),[]⟩]
def cV:List AA:=[
 ⟨none,.r (fun s l=>match l with | [x]=>A6 Tryz.prog s 22 x | _=>none),[.var 0],.push,[]⟩,
 ⟨none,.p2 (AL Tryz.prog .lss 3),[.var 3,.loc 0],(.set 5),[]⟩]
def mP:List AA:=[
 ⟨none,.p2 (AM Tryz.prog 22),[.var 0,.var 3],.push,[]⟩,
 ⟨none,.r1 (fun s a=>AC Tryz.prog s 76 a),[.loc 0],.push,[]⟩,
 ⟨none,.p2 (AM Tryz.prog 22),[.var 1,.var 3],.push,[]⟩,
 ⟨none,.r1 (fun s a=>AC Tryz.prog s 76 a),[.loc 0],.push,[]⟩,
 ⟨none,.p2 (AL Tryz.prog .neq 76),[.loc 2,.loc 0],(.set 6),[]⟩]
def uk:List AA:=[
 ⟨none,.p1 some,[(.const (.bool false))],(.set 2),[]⟩]
def mQ:List AA:=[
 ⟨none,.p1 some,[.var 3],.push,[]⟩,
 ⟨none,.p2 (AL Tryz.prog .add 3),[(.loc 0),(.const (.int .i64 (1)))],.push,[]⟩,
 ⟨none,.p1 some,[.loc 0],(.set 3),[]⟩]
def Q3:Aa:=(.seq (.seq (.ops cV) (.cond (.var 5)
 .skip
 (.exit 0))) (.seq (.block 1 (.seq (.ops mP) (.cond (.var 6)
 (.seq (.ops uk) .ret)
 .skip))) (.ops mQ)))
def mR:List AA:=[
 ⟨none,.p1 some,[(.const (.bool true))],(.set 2),[]⟩]
def wg:Ah:=⟨2,7,(.seq (.ops mM) (.seq (.seq (.ops mN) (.cond (.var 4)
 (.seq (.ops uj) .ret)
 .skip)) (.seq (.seq (.ops mO) (.block 0 (.loop Q3))) (.seq (.ops mR) .ret)))),[((.var 2),none)]⟩
def kX:List AA:=[
 ⟨none,.mk (fun l=>match l with | [v]=>Bf 26 v | _=>none),[.var 0],(.set 2),[]⟩,
 ⟨none,.mk (fun l=>match l with | [v]=>Bf 26 v | _=>none),[.var 1],(.set 3),[]⟩,
 ⟨none,.p1 some,[(.const (.bool false))],(.set 4),[]⟩]
def kY:List AA:=[
 ⟨none,.p1 (fun x=>AB Tryz.prog 26 x 0),[.var 2],.push,[]⟩,
 ⟨none,.p1 (fun x=>AB Tryz.prog 24 x 0),[.loc 0],.push,[]⟩,
 ⟨none,.r1 (fun s a=>AC Tryz.prog s 4 a),[.loc 0],.push,[]⟩,
 ⟨none,.p1 (fun x=>AB Tryz.prog 26 x 0),[.var 3],.push,[]⟩,
 ⟨none,.p1 (fun x=>AB Tryz.prog 24 x 0),[.loc 0],.push,[]⟩,
 ⟨none,.r1 (fun s a=>AC Tryz.prog s 4 a),[.loc 0],.push,[]⟩,
 ⟨none,.p2 (AL Tryz.prog .eql 4),[.loc 3,.loc 0],.push,[]⟩,
 ⟨(some ((.loc 0),true)),.p1 (fun x=>AB Tryz.prog 26 x 0),[.var 2],.push,[]⟩,
 ⟨(some ((.loc 1),true)),.p1 (fun x=>AB Tryz.prog 24 x 1),[.loc 0],.push,[]⟩,
 ⟨(some ((.loc 2),true)),.r1 (fun s a=>AC Tryz.prog s 22 a),[.loc 0],.push,[]⟩,
 ⟨(some ((.loc 3),true)),.p1 (fun x=>AB Tryz.prog 26 x 0),[.var 3],.push,[]⟩,
 ⟨(some ((.loc 4),true)),.p1 (fun x=>AB Tryz.prog 24 x 1),[.loc 0],.push,[]⟩,
 ⟨(some ((.loc 5),true)),.r1 (fun s a=>AC Tryz.prog s 22 a),[.loc 0],.push,[]⟩,
 ⟨(some ((.loc 6),true)),.call 40,[.loc 3,.loc 0],.push,[]⟩,
 ⟨none,.p Ru,[(.loc 7),(.loc 0),(.const (.bool false))],.push,[]⟩,
 ⟨(some ((.loc 0),true)),.p1 (fun x=>AB Tryz.prog 26 x 1),[.var 2],.push,[]⟩,
 ⟨(some ((.loc 1),true)),.r1 (fun s a=>AC Tryz.prog s 22 a),[.loc 0],.push,[]⟩,
 ⟨(some ((.loc 2),true)),.p1 (fun x=>AB Tryz.prog 26 x 1),[.var 3],.push,[]⟩,
 ⟨(some ((.loc 3),true)),.r1 (fun s a=>AC Tryz.prog s 22 a),[.loc 0],.push,[]⟩,
 ⟨(some ((.loc 4),true)),.call 40,[.loc 2,.loc 0],.push,[]⟩,
 ⟨none,.p Ru,[(.loc 5),(.loc 0),(.const (.bool false))],.push,[]⟩,
 ⟨none,.p1 some,[.loc 0],(.set 4),[]⟩]
def wP:Ah:=⟨2,5,(.seq (.ops kX) (.seq (.ops kY) .ret)),[((.var 4),none)]⟩
def uw:List AA:=[
 ⟨none,.mk (fun l=>match l with | [v]=>Bf 30 v | _=>none),[.var 0],(.set 2),[]⟩,
 ⟨none,.mk (fun l=>match l with | [v]=>Bf 30 v | _=>none),[.var 1],(.set 3),[]⟩,
 ⟨none,.p1 some,[(.const (.bool false))],(.set 4),[]⟩]
def ux:List AA:=[
 ⟨none,.p1 (fun x=>AB Tryz.prog 30 x 0),[.var 2],.push,[]⟩,
 ⟨none,.r1 (fun s a=>AC Tryz.prog s 26 a),[.loc 0],.push,[]⟩,
 ⟨none,.p1 (fun x=>AB Tryz.prog 30 x 0),[.var 3],.push,[]⟩,
 ⟨none,.r1 (fun s a=>AC Tryz.prog s 26 a),[.loc 0],.push,[]⟩,
 ⟨none,.call 12,[.loc 2,.loc 0],.push,[]⟩,
 ⟨none,.p1 (WT Tryz.prog Go.UnOp.not),[.loc 0],.push,[]⟩,
 ⟨(some ((.loc 0),false)),.p1 (fun x=>AB Tryz.prog 30 x 1),[.var 2],.push,[]⟩,
 ⟨(some ((.loc 1),false)),.r1 (fun s a=>AC Tryz.prog s 27 a),[.loc 0],.push,[]⟩,
 ⟨(some ((.loc 2),false)),.r (fun s l=>match l with | [x]=>A6 Tryz.prog s 27 x | _=>none),[.loc 0],.push,[]⟩,
 ⟨(some ((.loc 3),false)),.p1 (fun x=>AB Tryz.prog 30 x 1),[.var 3],.push,[]⟩,
 ⟨(some ((.loc 4),false)),.r1 (fun s a=>AC Tryz.prog s 27 a),[.loc 0],.push,[]⟩,
 ⟨(some ((.loc 5),false)),.r (fun s l=>match l with | [x]=>A6 Tryz.prog s 27 x | _=>none),[.loc 0],.push,[]⟩,
 ⟨(some ((.loc 6),false)),.p2 (AL Tryz.prog .neq 3),[.loc 3,.loc 0],.push,[]⟩,
 ⟨none,.p Ru,[(.loc 7),(.const (.bool true)),(.loc 0)],.push,[]⟩,
 ⟨(some ((.loc 0),false)),.p1 (fun x=>AB Tryz.prog 30 x 2),[.var 2],.push,[]⟩,
 ⟨(some ((.loc 1),false)),.r1 (fun s a=>AC Tryz.prog s 28 a),[.loc 0],.push,[]⟩,
 ⟨(some ((.loc 2),false)),.r (fun s l=>match l with | [x]=>A6 Tryz.prog s 28 x | _=>none),[.loc 0],.push,[]⟩,
 ⟨(some ((.loc 3),false)),.p1 (fun x=>AB Tryz.prog 30 x 2),[.var 3],.push,[]⟩,
 ⟨(some ((.loc 4),false)),.r1 (fun s a=>AC Tryz.prog s 28 a),[.loc 0],.push,[]⟩,
 ⟨(some ((.loc 5),false)),.r (fun s l=>match l with | [x]=>A6 Tryz.prog s 28 x | _=>none),[.loc 0],.push,[]⟩,
 ⟨(some ((.loc 6),false)),.p2 (AL Tryz.prog .neq 3),[.loc 3,.loc 0],.push,[]⟩,
 ⟨none,.p Ru,[(.loc 7),(.const (.bool true)),(.loc 0)],(.set 7),[]⟩]
def vm:List AA:=[
 ⟨none,.p1 some,[(.const (.bool false))],(.set 4),[]⟩]
def uz:List AA:=[
 ⟨none,.p1 some,[(.const (.int .i64 (0)))],(.set 5),[]⟩]
def rR:List AA:=[
 ⟨none,.p1 (fun x=>AB Tryz.prog 30 x 1),[.var 2],.push,[]⟩,
 ⟨none,.r1 (fun s a=>AC Tryz.prog s 27 a),[.loc 0],.push,[]⟩,
 ⟨none,.r (fun s l=>match l with | [x]=>A6 Tryz.prog s 27 x | _=>none),[.loc 0],.push,[]⟩,
 ⟨none,.p2 (AL Tryz.prog .lss 3),[.var 5,.loc 0],(.set 8),[]⟩]
def u4:List AA:=[
 ⟨none,.p1 (fun x=>AB Tryz.prog 30 x 1),[.var 2],.push,[]⟩,
 ⟨none,.r1 (fun s a=>AC Tryz.prog s 27 a),[.loc 0],.push,[]⟩,
 ⟨none,.p2 (AM Tryz.prog 27),[.loc 0,.var 5],.push,[]⟩,
 ⟨none,.r1 (fun s a=>AC Tryz.prog s 3 a),[.loc 0],.push,[]⟩,
 ⟨none,.p1 (fun x=>AB Tryz.prog 30 x 1),[.var 3],.push,[]⟩,
 ⟨none,.r1 (fun s a=>AC Tryz.prog s 27 a),[.loc 0],.push,[]⟩,
 ⟨none,.p2 (AM Tryz.prog 27),[.loc 0,.var 5],.push,[]⟩,
 ⟨none,.r1 (fun s a=>AC Tryz.prog s 3 a),[.loc 0],.push,[]⟩,
 ⟨none,.p2 (AL Tryz.prog .neq 3),[.loc 4,.loc 0],(.set 9),[]⟩]
def vt:List AA:=[
 ⟨none,.p1 some,[(.const (.bool false))],(.set 4),[]⟩]
def u5:List AA:=[
 ⟨none,.p1 some,[.var 5],.push,[]⟩,
 ⟨none,.p2 (AL Tryz.prog .add 3),[(.loc 0),(.const (.int .i64 (1)))],.push,[]⟩,
 ⟨none,.p1 some,[.loc 0],(.set 5),[]⟩]
def eP:Aa:=(.seq (.seq (.ops rR) (.cond (.var 8)
 .skip
 (.exit 0))) (.seq (.block 1 (.seq (.ops u4) (.cond (.var 9)
 (.seq (.ops vt) .ret)
 .skip))) (.ops u5)))
def u7:List AA:=[
 ⟨none,.p1 some,[(.const (.int .i64 (0)))],(.set 6),[]⟩]
def eQ:List AA:=[
 ⟨none,.p1 (fun x=>AB Tryz.prog 30 x 2),[.var 2],.push,[]⟩,
 ⟨none,.r1 (fun s a=>AC Tryz.prog s 28 a),[.loc 0],.push,[]⟩,
 ⟨none,.r (fun s l=>match l with | [x]=>A6 Tryz.prog s 28 x | _=>none),[.loc 0],.push,[]⟩,
 ⟨none,.p2 (AL Tryz.prog .lss 3),[.var 6,.loc 0],(.set 10),[]⟩]
def qZ:List AA:=[
 ⟨none,.p1 (fun x=>AB Tryz.prog 30 x 2),[.var 2],.push,[]⟩,
 ⟨none,.r1 (fun s a=>AC Tryz.prog s 28 a),[.loc 0],.push,[]⟩,
 ⟨none,.p2 (AM Tryz.prog 28),[.loc 0,.var 6],.push,[]⟩,
 ⟨none,.r1 (fun s a=>AC Tryz.prog s 26 a),[.loc 0],.push,[]⟩,
 ⟨none,.p1 (fun x=>AB Tryz.prog 30 x 2),[.var 3],.push,[]⟩,
 ⟨none,.r1 (fun s a=>AC Tryz.prog s 28 a),[.loc 0],.push,[]⟩,
 ⟨none,.p2 (AM Tryz.prog 28),[.loc 0,.var 6],.push,[]⟩,
 ⟨none,.r1 (fun s a=>AC Tryz.prog s 26 a),[.loc 0],.push,[]⟩,
 ⟨none,.call 12,[.loc 4,.loc 0],.push,[]⟩,
 ⟨none,.p1 (WT Tryz.prog Go.UnOp.not),[.loc 0],(.set 11),[]⟩]
def uy:List AA:=[
 ⟨none,.p1 some,[(.const (.bool false))],(.set 4),[]⟩]
def qd:List AA:=[
 ⟨none,.p1 some,[.var 6],.push,[]⟩,
 ⟨none,.p2 (AL Tryz.prog .add 3),[(.loc 0),(.const (.int .i64 (1)))],.push,[]⟩,
 ⟨none,.p1 some,[.loc 0],(.set 6),[]⟩]
def RD:Aa:=(.seq (.seq (.ops eQ) (.cond (.var 10)
 .skip
 (.exit 2))) (.seq (.block 3 (.seq (.ops qZ) (.cond (.var 11)
 (.seq (.ops uy) .ret)
 .skip))) (.ops qd)))
def qe:List AA:=[
 ⟨none,.p1 some,[(.const (.bool true))],(.set 4),[]⟩]
def c9:Ah:=⟨2,12,(.seq (.ops uw) (.seq (.seq (.ops ux) (.cond (.var 7)
 (.seq (.ops vm) .ret)
 .skip)) (.seq (.seq (.ops uz) (.block 0 (.loop eP))) (.seq (.seq (.ops u7) (.block 2 (.loop RD))) (.seq (.ops qe) .ret))))),[((.var 4),none)]⟩
theorem rU:AO Tryz.prog 16=some wQ:=by kernel_rfl
theorem sC:AO Tryz.prog 40=some wg:=by kernel_rfl
theorem rT:AO Tryz.prog 12=some wP:=by kernel_rfl
theorem vC:AO Tryz.prog 9=some c9:=by kernel_rfl
end
end Go.Proofs.YtjnkfbpadpmakaaGreatDoor.Am
