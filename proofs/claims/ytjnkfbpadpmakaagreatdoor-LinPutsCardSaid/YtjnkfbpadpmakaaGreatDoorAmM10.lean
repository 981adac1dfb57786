/- Sums of variables: what is put to an entry, walked; sums as they are read; conditions: none. -/
import Derived.Test.YtjnkfbpadpmakaaGreatDoorAmM08
import Derived.Test.YtjnkfbpadpmakaaGreatDoorAmLTab
import Derived.WideKeyArgs
import Derived.ChangeBears2
import Derived.OpenShut
import GoSem.ClaimJoined
import Derived.Test.YtjnkfbpadpmakaaGreatDoorAmM04
set_option linter.unusedVariables false
set_option linter.unusedSimpArgs false
set_option maxRecDepth 16000
namespace Go.Proofs.YtjnkfbpadpmakaaGreatDoor.Am
open Go Go.Proofs
noncomputable section
def Fx(p m:Nat)(s s':AE):Prop:=s.next≤s'.next∧∀j,j<s.next→j≠p→j≠m→s'.heap.get j=s.heap.get j
theorem Fx.refl(p m:Nat)(s:AE):Fx p m s s:=⟨zU _,fun _ _ _ _=>rfl⟩
theorem Fx.trans{p m:Nat}{s s1 s2:AE}(h:Fx p m s s1)(k:Fx p m s1 s2):Fx p m s s2:=⟨zY h.1 k.1,fun j hj h1 h2=>(k.2 j (zZ hj h.1) h1 h2).trans (h.2 j hj h1 h2)⟩
theorem Aa.fx{p m:Nat}{s s':AE}(h:Aa s.next s s'):Fx p m s s':=⟨h.1,fun j hj _ _=>h.2 j hj⟩
theorem Fx.old{p m b:Nat}{s s':AE}(h:Fx p m s s')(hp:b≤p)(hm:b≤m)(hb:b≤s.next):Aa b s s':=⟨h.1,fun j hj=>h.2 j (by omega) (by omega) (by omega)⟩
theorem QR.fx{p mi b:Nat}{s s':AE}{v:AV}{q:Rat}(h:QR b s v q){e sz:Nat}{sp:Bool}{cs:List AV}(hp:s.heap.get p=some (R e sz sp cs))(he:e≠76){kt:Nat}{es:List (AV×AV)}(hm:s.heap.get mi=some (.map kt es))(f:Fx p mi s s'):QR b s' v q:=
 h.keepS f.1 fun j hj hu=>f.2 j hj (Fj hp he hu) (Fi hm hu)
theorem fJ(i:Nat):Fs (.map (some i)) (.map (some i))=true:=by simp[Fs]
section
variable{E:CR}{s:AE}
theorem XB        (hE : GoodN E) {b mi : Nat} {T : List CW}  {k kc ko pc po : Nat} {x : Bool} {a d : Option (Nat × Nat)} {na m : Nat} {ca cd : Option Nat} {n : Int} (hn : i64 n) {c o : Rat} {cc co : List AV} (hM : HA   b s mi T k)
    (hc:QI s (.agg cc) c kc) (ho:QI s (.agg co) o ko) (gc:s.heap.get pc=some (R 26 0 false cc)) (go:s.heap.get po=some (R 26 0 false co)) (hpc:pc<s.next) (hpo:po<s.next) (hk1:1≤k) (hkc:1≤kc) (hko:1≤ko) (hk:2 * (k+(kc+ko))+1≤1000000000)
    {K:AV→AE→Prop} (hK:∀r s' w,s.next≤s'.next→(∀j,j<s.next→j≠mi→s'.heap.get j=s.heap.get j)→(∀j∈Dg w,s.next≤j)→HA b s' mi (Dx n (Cd n T+c * o) w T) (k+(kc+ko)+1)→K r s'):
    WF E 62 [.agg [.bool x,.slice a na ca,.slice d m cd,.map (some mi)],iv n,.func 73 [] [.ptr (some (pc,0)),.ptr (some (po,0))]] K s:=by
  refine hE.go tz (by decide) rfl ?_
  obtain⟨n1,o1,g1⟩:=Bs s (R 56 0 false [.bool x,.slice a na ca,.slice d m cd,.map (some mi)])
  simp only[yv,pN,pO,Xa,Xh,Xc,J7,Qa,Qb,Qc,Qd,Qf,Qh,Qj,Qk,Ql,Qm,Qo,true_and,Qp,Qq,Qr,Qs,Qt,Qv,Rb,Ri,Rk,Ro,Zb,A1q,A1n,A1m,A1r,A1o,A1p]
  generalize newObj s (R 56 0 false [.bool x,.slice a na ca,.slice d m cd,.map (some mi)])=s1 at *
  have hM1:=hM.old o1
  have l1:=AI (P:=Tryz.prog) (t:=54) (o:=0+3) TF g1 rfl
  have lk:=SC hM1.obj hn
  have hmlt:=hM.lt
  have hmlo:=hM.lo
  have key:∀ (s4:AE) (va:AV) (x2:Bool) (a2 b2:Option (Nat×Nat)) (n2 m2:Nat) (c2 d2:Option Nat) (y4 y5 y6:AV),Aa s1.next s1 s4→s1.next+1≤s4.next→va=.agg [.bool x2,.slice a2 n2 c2,.slice b2 m2 d2]→s4.heap.get s1.next=some (BQ x2 (.slice a2 n2 c2) (.slice b2 m2 d2))→QI s4 va (Cd n T) k →
      Qb E dr (fun v s'=>TA (EJ s' []) fun s'=>K (.tuple []) s') [] [.agg [.bool x,.slice a na ca,.slice d m cd,.map (some mi)],iv n,.func 73 [] [.ptr (some (pc,0)),.ptr (some (po,0))],.ptr (some (s.next,0)),.ptr (some (s1.next,0)),y5,y6] s4:=by
    intro s4 va x2 a2 b2 n2 m2 c2 d2 y4 y5 y6 o4 h4 hva g4 hq
    have o14:=o1.trans (o4.mono o1.1)
    have k1:=(o4.2 s.next (by omega)).trans g1
    have l1:=AI (P:=Tryz.prog) (t:=54) (o:=0+3) TF k1 rfl
    have l2:=AK (P:=Tryz.prog) (t:=26) BZ Aw g4 rfl
    subst hva
    simp only[dr,l1,l2,J7,Qb,Qc,Qd,Qe,Qf,Qh,Qj,Qk,Qm,Qo,true_and,Qr,Qs,Qt,Qv,Rj,A1n,A1m]
    refine iT hE hq (hc.old o14) (ho.old o14) ((o14.2 pc hpc).trans gc) ((o14.2 po hpo).trans go) (by have:=o14.1;omega) (by have:=o14.1;omega) hk1 hkc hko hk fun s5 v5 o5 r5=>?_
    have h5:=o5.1
    have k5:=(o5.2 s.next (by omega)).trans k1
    refine⟨⟨Au (by simp only[Qk,Qr,Qs];exact AI (o:=0+3) TF k5 rfl) (fJ mi),trivial⟩,?_⟩
    have o15:=o14.trans (o5.mono o14.1)
    have hM5:=hM.old o15
    have up:=iI hM5.obj hn (Cd n T+c * o) v5
    simp only[up,Xz,Za,Qm,Qr,Qs]
    have hq5:QH (Cd n T+c * o) (k+(kc+ko)+1):=(kp hM hk1 n).add ((hc.qh hkc).mul (ho.qh hko))
    have hrow:∀j,YG s5 j→j≠mi:=fun j hj=>Fi hM5.obj hj
    have r5':QR s4.next (setObj s5 mi (.map 3 (G1 (Dx n (Cd n T+c * o) v5 T)))) v5 (Cd n T+c * o):=r5.keepS (zU _) fun j _ hj=>Wx _ (hrow j hj)
    refine hK _ _ v5 ?_ (fun j hj hne=>?_) (fun j hj=>?_) ⟨Ww _ _ _,hM.lo,hM5.lt,fun t ht=>?_,KJ hM.nd,SR hM.dj fun t ht=>?_⟩
    · exact o15.1
    · rw[Wx _ hne];exact o15.2 j hj
    · have:=(r5.slots hj).1;have:=o14.1;omega
    · rcases LU      ht with rfl | ht
      · exact⟨r5'.mono (by have:=o14.1;omega),hq5,hn⟩
      · obtain⟨e1,e2,e3⟩:=hM5.ent t ht
        exact⟨e1.keepS (zU _) fun j _ hj=>Wx _ (hrow j hj),e2.le (by omega),e3⟩
    · have e1 := (hM.ent t ht).1
      have hd:YE t.2.2 v5:=e1.dj r5 o14.1
      exact⟨hd,hd.symm⟩
  simp only[l1,lk,Bh,Xc,Xy,Qm,Yd,Ye]
  obtain⟨n2,o2,g2⟩:=Bs s1 ZQ
  generalize hs2:newObj s1 ZQ=s2 at *
  cases hg:E8 n T with
  | none =>
    have st:=Ai (P:=Tryz.prog) (t:=26) (cs:=[.bool false,.slice none 0 (some 0),.slice none 0 (some 0)]) Aw g2 rfl rfl rfl (by simp)
    generalize hs3:setObj s2 s1.next (R 26 0 false [.bool false,.slice none 0 (some 0),.slice none 0 (some 0)])=s3 at st
    have o3:Aa s1.next s1 s3:=by rw[← hs3];exact o2.set (zU _) _
    have g3:s3.heap.get s1.next=some ZQ:=by rw[← hs3,Ww]
    have n3:s3.next=s1.next+1:=by rw[← hs3];exact n2
    simp only[dp,pP,Option.isSome,st,We,Bool.not_false,Za,Qb,Qc,Qd,Qf,Qh,Qj,Qk,Qm,Qo,true_and,Qp,Qq,Qr,Qs,Qt,Qv,Qz,Rj,Yb,We,A1u,A1o]
    refine SE hE fun s4 v4 o4 r4=>?_
    have h4:=o4.1
    obtain⟨x2,a2,n2',c2,b2,m2,d2,rfl⟩:=r4.shape
    have st4:=Ai (P:=Tryz.prog) (t:=26) (cs:=[.bool x2,.slice a2 n2' c2,.slice b2 m2 d2]) Aw ((o4.2 s1.next (by omega)).trans g3) rfl rfl rfl (by simp)
    simp only[st4,Xy,Qd,Qm,Qo,true_and,Qr,Qs]
    have hv0:Cd n T=0:=by unfold Cd;rw[hg]
    refine key _ _ x2 a2 b2 n2' m2 c2 d2 (iv 0) _ _ ((o3.trans (o4.mono o3.1)).set (zU _) _) (by show s1.next+1≤s4.next;omega) rfl (Ww _ _ _) ?_
    rw[hv0]
    exact((r4.set (by omega) _).qi sR).le hk1
  | some pq =>
    have hmem:=F7 hg
    obtain⟨e1,e2,_⟩:=hM1.ent _ hmem
    obtain⟨x2,a2,n2',c2,b2,m2,d2,hv2⟩:=e1.shape
    simp only at hv2 e1 e2
    have st:=Ai (P:=Tryz.prog) (t:=26) (cs:=[.bool x2,.slice a2 n2' c2,.slice b2 m2 d2]) Aw g2 rfl rfl rfl (by simp)
    rw[← hv2]at st
    generalize hs3:setObj s2 s1.next (R 26 0 false [.bool x2,.slice a2 n2' c2,.slice b2 m2 d2])=s3 at st
    have o3:Aa s1.next s1 s3:=by rw[← hs3];exact o2.set (zU _) _
    have g3:s3.heap.get s1.next=some (BQ x2 (.slice a2 n2' c2) (.slice b2 m2 d2)):=by rw[← hs3,Ww]
    have n3:s3.next=s1.next+1:=by rw[← hs3];exact n2
    simp only[dp,Option.isSome,st,We,Bool.not_true,Za,Qb,Qc,Qd,Qf,Qh,Qj,Qm,Qo,true_and,Qp,Qq,Qr,Qs,Qt,Qv,Ra,Rj,Ya,We]
    have hv0:Cd n T=pq.1:=by unfold Cd;rw[hg]
    refine key _ pq.2 x2 a2 b2 n2' m2 c2 d2 (iv 0) _ _ o3 (by omega) hv2 g3 ?_
    rw[hv0]
    exact(e1.old o3).qi e2
end
def EB(sz:Nat)(s:AE)(a:Option (Nat×Nat))(cap:Option Nat)(n:Nat):Prop:=
 (∃c,cap=some c∧n≤c∧(a=none→c=0))∨(cap=none∧∃i o r,a=some (i,o)∧i<s.next∧s.heap.get i=some (.row r)∧r.sz=sz∧o+n * sz≤r.n)
theorem EB.old{sz:Nat}{s s':AE}{a:Option (Nat×Nat)}{cap:Option Nat}{n:Nat}(h:EB sz s a cap n)(k:Aa s.next s s'):EB sz s' a cap n:=by
 rcases h with h | ⟨h1,i,o,r,h3,h4,h5,h6⟩
 ·exact .inl h
 ·exact .inr ⟨h1,i,o,r,h3,zZ h4 k.1,by rw[k.2 i h4];exact h5,h6⟩
theorem EB.less{sz:Nat}{s:AE}{a:Option (Nat×Nat)}{cap:Option Nat}{n k:Nat}(h:EB sz s a cap n)(hk:k≤n):EB sz s a cap k:=by
 rcases h with⟨c,h1,h2,h3⟩ | ⟨h1,i,o,r,h3,h4,h5,h6,h7⟩
 ·exact .inl ⟨c,h1,by omega,h3⟩
 ·exact .inr ⟨h1,i,o,r,h3,h4,h5,h6,zY (Nat.add_le_add_left (zq _ hk) _) h7⟩
theorem Kf{t e sz:Nat}(ht:Tryz.prog.underlying t=some (.slice e))(hs:BJ Tryz.prog e=some sz)(hz:0<sz){s:AE}{a:Option (Nat×Nat)}{cap:Option Nat}{n k:Nat}(hc:EB sz s a cap n)(hk:k≤n):
    At Tryz.prog t false true false s [.slice a n cap,iv (k:Int)]=some (.slice a k cap):=by
  show Bo Tryz.prog s t (.slice a n cap) none (some (iv (k:Int))) none=_
  rcases hc with⟨c,rfl,h1,h2⟩ | ⟨rfl,i,o,r,rfl,h3,h4,h5,h6⟩
  · have hb:Bn (iv (k:Int)) c=some k:=by simp[Bn,F8,AQ,CU (show k≤c by omega),D3]
    cases a with
    | none=>simp[Bo,ht,hs,hb]
    | some io=>obtain⟨i,o⟩:=io;cases hb2:Nat.beq c 0<;>simp[Bo,ht,hs,hb]
  · have hrow : rowAt s i = some r := by unfold rowAt; rw [h4]
    have hkd:k≤(r.n - o) / sz:=by
      rw[Nat.le_div_iff_mul_le hz]
      have:k * sz≤n * sz:=zq _ hk
      omega
    have hb:Bn (iv (k:Int)) ((r.n - o) / sz)=some k:=by simp[Bn,F8,AQ,CU hkd,D3]
    have hsz:Nat.beq sz r.sz=true:=Fq h5.symm
    have ho:o≤r.n:=by have:0≤n * sz:=ze _;omega
    simp only[Bo,ht,hs,hrow,hsz,AQ,hb,CU ho,Dp (show sz≠0 by omega),Option.bind_some,Bool.true_and,Bool.and_true,Bool.not_false,cond_true]
    simp
structure Cp(s:AE)(a:Option (Nat×Nat))(cs:List Rat)(k:Nat)(cells:List AV):Prop where
 len:cells.length=cs.length * 3
 rd:AS s.next s a cells
 rat:∀ (i:Nat) (q:Rat),cs[i]? = some q→QI s (.agg ((cells.drop (i * 3)).take 3)) q k
theorem Cp.old{s s':AE}{a:Option (Nat×Nat)}{cs:List Rat}{k:Nat}{cells:List AV}(h:Cp s a cs k cells)(o:Aa s.next s s'):Cp s' a cs k cells:=
 ⟨h.len,(h.rd.old o (zU _)).mono o.1,fun i q hi=>(h.rat i q hi).old o⟩
theorem Cp.load{s:AE}{a:Option (Nat×Nat)}{cs:List Rat}{k:Nat}{cells:List AV}(h:Cp s a cs k cells){i:Nat}(hi:i<cs.length):
  ∃i0 o,a=some (i0,o)∧i0<s.next∧AB Tryz.prog s 26 (.ptr (some (i0,o+i * 3)))=some (.agg ((cells.drop (i * 3)).take 3)):=by
 have hl:=h.len
 have h3:((cells.drop (i * 3)).take 3).length=3:=by rw[zo,A0C];omega
 have hget:∀j,j<3→((cells.drop (i * 3)).take 3)[j]? = cells[i * 3+j]? := fun j hj=>by rw[A0m hj,A0Z]
 have h0:cells[i * 3]? = some cells[i * 3]:=zW (by omega)
 obtain⟨i0,o,rfl,hlt,_⟩:=h.rd (i * 3) _ h0
 refine⟨i0,o,rfl,hlt,?_⟩
 have:=JM (o:=s.heap.get i0) ((cells.drop (i * 3)).take 3) (o+i * 3) (fun j u hj=>by
  have hj3:j<3:=by
   rcases zX j 3 with h' | h'
   ·exact h'
   ·rw[zj (by omega)]at hj;cases hj
  rw[hget j hj3]at hj
  obtain⟨i',o',e,_,g⟩:=h.rd _ u hj
  injection e with e
  injection e with e1 e2
  subst e1;subst e2
  rw[Fh]at g
  rw[A0H];exact g) (by intro e;rw[e]at h3;cases h3)
 rw[h3]at this
 rw[Wg BZ,Aw,Option.bind_some,this]
 rfl
def LI(s:AE)(v:AV)(C:Rat)(vs:List Int)(cs:List Rat)(k:Nat):Prop:=∃x a n c b m d av capv ac capc cells,
 v=.agg [.bool x,.slice a n c,.slice b m d,.slice av vs.length capv,.slice ac cs.length capc]∧QI s (.agg [.bool x,.slice a n c,.slice b m d]) C k∧AS s.next s av (vs.map iv)∧(∀n∈vs,i64 n)∧Cp s ac cs k cells∧EB 1 s av capv vs.length∧EB 3 s ac capc cs.length
theorem LI.old{s s':AE}{v:AV}{C:Rat}{vs:List Int}{cs:List Rat}{k:Nat}(h:LI s v C vs cs k)(o:Aa s.next s s'):LI s' v C vs cs k:=by
 obtain⟨x,a,n,c,b,m,d,av,capv,ac,capc,cells,h1,h2,h3,h4,h5,h6,h7⟩:=h
 exact⟨x,a,n,c,b,m,d,av,capv,ac,capc,cells,h1,h2.old o,(h3.old o (zU _)).mono o.1,h4,h5.old o,h6.old o,h7.old o⟩
inductive G3 (o:Rat):List Int→List Rat→List CW→List CW→Prop
 | nil1 (cs:List Rat) (T:List CW):G3 o [] cs T T
 | nil2 (vs:List Int) (T:List CW):G3 o vs [] T T
 | cons {n:Int} {c:Rat} {vs:List Int} {cs:List Rat} {T T':List CW} (w:AV) (h:G3 o vs cs (Dx n (Cd n T+c * o) w T) T'):G3 o (n::vs) (c::cs) T T'
def Bf(a:Int→Rat):List Int→List Rat→Rat
 | n::vs,c::cs=>c * a n+Bf a vs cs
 | _,_=>0
theorem G3.ev{o:Rat}{vs:List Int}{cs:List Rat}{T T':List CW}(h:G3 o vs cs T T')(a:Int→Rat):J5 a T'=J5 a T+Bf a vs cs * o:=by
 induction h with
 | nil1 cs T=>show _=_+0 * o;rw[Rat.zero_mul,Rat.add_zero]
 | nil2 vs T=>cases vs<;>(show _=_+0 * o;rw[Rat.zero_mul,Rat.add_zero])
 | @cons n c vs cs T T' w h ih =>
  rw[ih,fN]
  show J5 a T+c * o * a n+Bf a vs cs * o=J5 a T+(c * a n+Bf a vs cs) * o
  rw[Rat.add_mul,Rat.add_assoc,Rat.mul_assoc c o,Rat.mul_comm o (a n),Rat.mul_assoc c (a n)]
theorem KH(a b:Nat):Ch false (iv (a:Int)) [iv (b:Int)]=some (iv ((min a b:Nat):Int)):=by
 simp only[Ch,NB,AQ,cond_true]
 congr 2
 cases hlt:NV (b:Int) (a:Int)with
 | true=>rw[DF]at hlt;have:=of_decide_eq_true hlt;simp only[cond_true,cond_false];omega
 | false=>rw[DF]at hlt;have:=of_decide_eq_false hlt;simp only[cond_false];omega
theorem NM{P:Program}{s:AE}{i e sz t n off:Nat}{sp:Bool}{cs0 cs:List AV}(hs:BJ P t=some n)(hg:s.heap.get i=some (R e sz sp cs0))(hl:cs.length=n)(hl0:off+n≤cs0.length)(ha:Aq cs=true)(hn:cs≠[]):AO P s t (.ptr (some (i,off))) (.agg cs)=some (setObj s i (R e sz sp (EI cs0 off cs))):=by
 rw[Wh,hs]
 show AQ (decide (cs.length=n)) (C3 s i off cs)=_
 rw[NL hg (by omega) ha,decide_eq_true hl]
 cases cs with
 | nil=>exact absurd rfl hn
 | cons c cs=>rfl
abbrev BP(x:Bool)(m d:AV)(mi:Nat):BF:=R 56 0 false [.bool x,m,d,.map (some mi)]
theorem Ih(a:Nat×Nat):EY (.ptr (some a))=some (.ptr (some a)):=rfl
theorem Cm{s:AE}{a:Option (Nat×Nat)}{vs:List Int}(h:AS s.next s a (vs.map iv)){i:Nat}{n:Int}(hi:vs[i]? = some n):∃i0 o,a=some (i0,o)∧i0<s.next∧AB Tryz.prog s 3 (.ptr (some (i0,o+i * 1)))=some (iv n):=by
 obtain⟨i0,o,rfl,h1,h2⟩:=h i (iv n) (by simp[hi])
 exact⟨i0,o,rfl,h1,Bq lH (by rw[zf];exact h2)⟩
section
variable{E:CR}{s:AE}
theorem Wz        (hE : GoodN E) {b p mi q : Nat} {vl vo : AV} {C o : Rat} {vs : List Int} {cs : List Rat} {kl ko k0 : Nat} {x : Bool} {a1 d1 : Option (Nat × Nat)} {n1 m1 : Nat} {c1 e1 : Option Nat} {c' : Rat} {M : Nat} (hM : M = min cs.length vs.length)
    {lc oc:List AV} (hvl:vl=.agg lc) (hvo:vo=.agg oc)
    (hL:∀S,Fx p mi s S→LI S vl C vs cs kl) (hO:∀S,Fx p mi s S→QI S vo o ko) (hb:2 * (k0+(M+1) * (kl+ko+1))+1≤1000000000) (hk0:1≤k0) (hkl:1≤kl) (hko:1≤ko)
    {T0 T':List CW} {Q:Az→Prop} {av ac:Option (Nat×Nat)} {capv capc:Option Nat} {hlc:lc.drop 3=[.slice av vs.length capv,.slice ac cs.length capc]} (hq1:q+1<s.next)
    (hq:∀ (S:AE) (T':List CW) (y5 y6 y9 y10:AV),Fx p mi s S→S.heap.get p=some (BP x (.slice a1 n1 c1) (.slice d1 m1 e1) mi)→FO b S (.agg [.bool x,.slice a1 n1 c1,.slice d1 m1 e1]) mi c' T' (k0+M * (kl+ko+1))→G3 o vs cs T0 T' →
      Q ⟨.exit 0,[.ptr (some (p,0)),vl,vo,.ptr (some (q,0)),.ptr (some (q+1,0)),y5,y6,.slice ac M capc,iv (M:Int),y9,y10],[],S⟩):
    ∀ (j i:Nat) (S:AE) (T:List CW) (x5 x6 x10:AV),i+j=M→Fx p mi s S→S.heap.get p=some (BP x (.slice a1 n1 c1) (.slice d1 m1 e1) mi)→S.heap.get q=some (R 30 0 false lc)→S.heap.get (q+1)=some (R 26 0 false oc)→q≠p→q+1≠p→p<S.next →
      FO b S (.agg [.bool x,.slice a1 n1 c1,.slice d1 m1 e1]) mi c' T (k0+i * (kl+ko+1))→(∀T',G3 o (vs.drop i) (cs.drop i) T T'→G3 o vs cs T0 T') →
      WC E none (.loop Q9) Q [.ptr (some (p,0)),vl,vo,.ptr (some (q,0)),.ptr (some (q+1,0)),x5,x6,.slice ac M capc,iv (M:Int),iv (i:Int),x10] [] S:=by
  intro j
  induction j with
  | zero =>
    intro i S T x5 x6 x10 hij f g1 g2 g3 hqp hqp1 hpS hP hT
    have e:i=M:=by omega
    subst e
    have dd:decide ((i:Int)<(i:Int))=false:=decide_eq_false (by omega)
    refine WC.loop' ?_
    simp only[Q9,cT,Ry,dd,Qa,Qb,Qc,Qd,Qf,Qh,Qj,Qm,Qo,true_and,Qp,Qq,Qr,Qs,Qt,Qv,Ra,Rb,Rd,Re,Ry,A1x]
    refine hq S T _ _ _ _ f g1 hP (hT T ?_)
    rcases Nat.le_total cs.length vs.length with h | h
    · rw[A0D (show cs.length≤i by omega)];exact .nil2 _ _
    · rw[A0D (show vs.length≤i by omega)];exact .nil1 _ _
  | succ j ih =>
    intro i S T x5 x6 x10 hij f g1 g2 g3 hqp hqp1 hpS hP hT
    have hiM:i<M:=by omega
    have hic:i<cs.length:=by omega
    have hiv:i<vs.length:=by omega
    have dd:decide ((i:Int)<(M:Int))=true:=decide_eq_true (by omega)
    obtain⟨x9,a9,n9,cc9,b9,m9,d9,av',capv',ac',capc',cells,hv9,hC,hvc,hvi,hrat,_,_⟩:=hL S f
    have hlc2:[AV.slice av vs.length capv,AV.slice ac cs.length capc]=[.slice av' vs.length capv',.slice ac' cs.length capc']:=by
      rw[hvl]at hv9
      injection hv9 with hv9
      rw[← hlc,hv9];rfl
    injection hlc2 with q1 q2
    injection q1 with q1 _ q1'
    injection q2 with q2 _
    injection q2 with q2 _ q2'
    subst q1;subst q1';subst q2;subst q2'
    have hcs:cs[i]? = some cs[i]:=zW hic
    generalize cs[i]=ci at hcs
    have hvs:vs[i]? = some vs[i]:=zW hiv
    generalize vs[i]=vi at hvs
    have hdv:vs.drop i=vi::vs.drop (i+1):=by
      rw[A0M hiv]
      rw[zW hiv]at hvs
      rw[Option.some.inj hvs]
    have hdc:cs.drop i=ci::cs.drop (i+1):=by
      rw[A0M hic]
      rw[zW hic]at hcs
      rw[Option.some.inj hcs]
    have hqi:=hrat.rat i ci hcs
    obtain⟨i0,o0,rfl,hi0,ld0⟩:=hrat.load hic
    obtain⟨i1,o1',rfl,hi1,ld1⟩:=Cm hvc hvs
    have hvin:=hvi vi (zw hvs)
    have ix0:=AX (cap:=capc) (i:=i0) (o:=o0) Tryz.underlying28 Aw hiM
    have ix1:=AX (cap:=capv) (i:=i1) (o:=o1') Tryz.underlying27 Jm hiv
    obtain⟨xx,aa,nn,kk,bb,mm,ee,hce⟩:=hqi.shape
    generalize hcc:(cells.drop (i * 3)).take 3=cc at *
    injection hce with hce
    subst hce
    obtain⟨n2,o2,g4⟩:=Bs S ZQ
    have hMb:M+1≤(M+1) * (kl+ko+1):=A1i _ (by omega)
    have e17:=Ax Tryz.prog 3 (i:Int) 1 ⟨by omega,by omega⟩
    have e17':((i:Int)+1)=((i+1:Nat):Int):=by omega
    have st:=Ai (P:=Tryz.prog) (t:=26) (cs:=[.bool xx,.slice aa nn kk,.slice bb mm ee]) Aw g4 rfl rfl rfl (by simp)
    refine WC.loop' ?_
    generalize hW:WC E none (Ac.loop Q9) Q=WW
    simp only[Q9,cT,mh,Ry,dd,ix0,ld0,Bh,Xc,st,Xy,Za,Qa,Qb,Qc,Qd,Qf,Qh,Qj,Qk,Qm,Qo,true_and,Qp,Qq,Qr,Qs,Qt,Qv,Qz,Rb,Rd,Re,Ry,A1x,A1v,A1m,A1r,A1p,A1o]
    generalize hs2:setObj (newObj S ZQ) S.next (R 26 0 false [.bool xx,.slice aa nn kk,.slice bb mm ee])=s2 at *
    have os2:Aa S.next S s2:=by rw[← hs2];exact o2.set (zU _) _
    have n3:s2.next=S.next+1:=by rw[← hs2];exact n2
    have gc:s2.heap.get S.next=some (R 26 0 false [.bool xx,.slice aa nn kk,.slice bb mm ee]):=by rw[← hs2,Ww]
    have f1:=f.1
    have k1:=(os2.2 p hpS).trans g1
    have k2:=(os2.2 q (by omega)).trans g2
    have k3:=(os2.2 (q+1) (by omega)).trans g3
    have lp:=AK (P:=Tryz.prog) (t:=56) QL K8 k1 rfl
    have lcl:lc=[.bool x9,.slice a9 n9 cc9,.slice b9 m9 d9,.slice (some (i1,o1')) vs.length capv,.slice (some (i0,o0)) cs.length capc]:=by
      rw[hvl]at hv9
      injection hv9
    have lv:=AI (P:=Tryz.prog) (t:=27) (o:=0+3) (v:=.slice (some (i1,o1')) vs.length capv) D6 k2 (by rw[lcl];rfl)
    have li:AB Tryz.prog s2 3 (.ptr (some (i1,o1'+i * 1)))=some (iv vi):=by
      obtain⟨i1',o1'',e,_,h3⟩:=Cm ((hvc.old os2 (zU _)).mono os2.1) hvs
      injection e with e
      injection e with q1 q2
      subst q1;subst q2
      exact h3
    have fs2:Fx p mi s s2:=f.trans os2.fx
    have hO2:=hO s2 fs2
    rw[hvo]at hO2
    have hP2:=hP.old os2
    have hmul:(i+1) * (kl+ko+1)≤M * (kl+ko+1):=zq _ (by omega)
    have hs1:(i+1) * (kl+ko+1)=i * (kl+ko+1)+(kl+ko+1):=zz _ _
    have hs2':(M+1) * (kl+ko+1)=M * (kl+ko+1)+(kl+ko+1):=zz _ _
    simp only[ml,lp,lv,ix1,li,Ih,CE,A0l,A0d,Qb,Qc,Qd,Qf,Qh,Qj,Qk,Qm,Qo,true_and,Qr,Qs,Qt,Qv,A1m,A1n,A1v,A1u]
    refine XB hE hvin hP2.map (hqi.old os2) hO2 gc k3 (by omega) (by omega) (by omega) hkl hko (by omega) fun r s3 w h3 f3 hw hM3=>?_
    simp only[mn,e17,e17',Qb,Qc,Qd,Qf,Qh,Qi,Qj,Qk,Qm,Qo,true_and,Qp,Qq,Qr,Qs,Qt,Qv,A1p]
    rw[← hW]
    have hmp:mi≠p:=by rintro rfl;have:=hP.map.obj;rw[g1]at this;cases this
    have hmq:mi≠q:=by rintro rfl;have:=hP.map.obj;rw[g2]at this;cases this
    have hmq1:mi≠q+1:=by intro e;have:=hP.map.obj;rw[e,g3]at this;cases this
    have fx3:Fx p mi s s3:=fs2.trans ⟨h3,fun j hj _ h2=>f3 j hj h2⟩
    have ek:k0+i * (kl+ko+1)+(kl+ko)+1=k0+(i+1) * (kl+ko+1):=by omega
    rw[ek]at hM3
    have hc3:QR b s3 (.agg [.bool x,.slice a1 n1 c1,.slice d1 m1 e1]) c':=hP2.cq.keepS h3 fun j hj hu=>f3 j hj (Fi hP2.map.obj hu)
    refine ih (i+1) s3 _ _ _ _ (by omega) fx3 ((f3 p (by omega) hmp.symm).trans k1) ((f3 q (by omega) hmq.symm).trans k2) ((f3 (q+1) (by omega) hmq1.symm).trans k3) hqp hqp1 (by omega) ⟨hc3,hP2.ch.le (by omega),hM3,fun t ht=>?_⟩ fun T' hT'=>hT T' ?_
    · rcases LU      ht with rfl | ht
      · intro j h1 h2
        have:=(hP2.cq.slots h1).2
        have:=hw j h2
        omega
      · exact hP.dj t ht
    · rw[hdv,hdc]
      exact .cons w hT'
end
theorem DR(x:Bool)(a b av ac:Option (Nat×Nat))(n m nv nc:Nat)(c d cv cc:Option Nat):Fs (.agg [.bool x,.slice a n c,.slice b m d,.slice av nv cv,.slice ac nc cc]) (.agg [.bool x,.slice a n c,.slice b m d,.slice av nv cv,.slice ac nc cc])=true:=by
 have h:=A8
 have hb:=El
 show(Fs (.bool x) (.bool x) && (Fs (.slice a n c) (.slice a n c) && (Fs (.slice b m d) (.slice b m d) && (Fs (.slice av nv cv) (.slice av nv cv) && (Fs (.slice ac nc cc) (.slice ac nc cc) && true)))))=true
 rw[hb,h,h,h,h];rfl
section
variable{E:CR}{s:AE}
theorem U5(hE:GoodN E){b p mi:Nat}{vl vo:AV}{C o c:Rat}{vs:List Int}{cs:List Rat}{kl ko k:Nat}{x:Bool}{a1 d1:Option (Nat×Nat)}{n1 m1:Nat}{c1 e1:Option Nat}{T:List CW}
  (gp:s.heap.get p=some (BP x (.slice a1 n1 c1) (.slice d1 m1 e1) mi)) (hpn:p<s.next) (hbn:b≤s.next) (hP:FO b s (.agg [.bool x,.slice a1 n1 c1,.slice d1 m1 e1]) mi c T k)
  (hL:∀S,Fx p mi s S→LI S vl C vs cs kl) (hO:∀S,Fx p mi s S→QI S vo o ko) (hk1:1≤k) (hkl:1≤kl) (hko:1≤ko) (hb:2 * (k+(min cs.length vs.length+2) * (kl+ko+1))+1≤1000000000) {K:AV→AE→Prop}
  (hK:∀r s' x' a' n' c'' d' m' e' T',Fx p mi s s'→s'.heap.get p=some (BP x' (.slice a' n' c'') (.slice d' m' e') mi)→FO b s' (.agg [.bool x',.slice a' n' c'',.slice d' m' e']) mi (c+C * o) T' (k+(min cs.length vs.length+1) * (kl+ko+1))→G3 o vs cs T T'→K r s'):
  WF E 34 [.ptr (some (p,0)),vl,vo] K s:=by
 obtain⟨x9,a9,n9,cc9,b9,m9,d9,av,capv,ac,capc,cells,hv9,hC,hvc,hvi,hrat,hcv,hcc⟩:=hL s (Fx.refl _ _ _)
 have hqo:=hO s (Fx.refl _ _ _)
 obtain⟨x8,a8,n8,c8,b8,m8,d8,hv8⟩:=hqo.shape
 have hqC:=hC.qh hkl
 have hqO:=hqo.qh hko
 generalize hM:min cs.length vs.length=M at *
 have hs2':(M+2) * (kl+ko+1)=M * (kl+ko+1)+(kl+ko+1)+(kl+ko+1):=by rw[show M+2=(M+1)+1 by omega,zz,zz]
 have hs1':(M+1) * (kl+ko+1)=M * (kl+ko+1)+(kl+ko+1):=zz _ _
 refine hE.go tT (by decide) rfl ?_
 obtain⟨n2,o1,g1,g2⟩:=EK s (R 30 0 false [.bool x9,.slice a9 n9 cc9,.slice b9 m9 d9,.slice av vs.length capv,.slice ac cs.length capc]) (BQ x8 (.slice a8 n8 c8) (.slice b8 m8 d8))
 have hcl:vl.cells=[.bool x9,.slice a9 n9 cc9,.slice b9 m9 d9,.slice av vs.length capv,.slice ac cs.length capc]:=by rw[hv9];rfl
 have hco:vo.cells=[.bool x8,.slice a8 n8 c8,.slice b8 m8 d8]:=by rw[hv8];rfl
 simp only[yS,md,me,Xa,hcl,hco,Xc,Ak,Ih,PW,HJ,Qa,Qb,Qc,Qd,Qf,Qh,Qj,Qk,Ql,Qm,Qo,true_and,Qp,Qq,Qr,Qs,Qt,Qv,Rb,A1q,A1n,A1m,A1u,A1o]
 generalize newObj (newObj s (R 30 0 false [.bool x9,.slice a9 n9 cc9,.slice b9 m9 d9,.slice av vs.length capv,.slice ac cs.length capc])) (BQ x8 (.slice a8 n8 c8) (.slice b8 m8 d8))=s1 at *
 have lp:AB Tryz.prog s1 26 (.ptr (some (p,0+0)))=some (.agg [.bool x,.slice a1 n1 c1,.slice d1 m1 e1]):=Al (o:=0) (n:=3) BZ Aw ((o1.2 p hpn).trans gp) (by simp)
 have ll:AB Tryz.prog s1 26 (.ptr (some (s.next,0+0)))=some (.agg [.bool x9,.slice a9 n9 cc9,.slice b9 m9 d9]):=Al (o:=0) (n:=3) BZ Aw g1 (by simp)
 have lo:=AK (P:=Tryz.prog) (t:=26) BZ Aw g2 rfl
 simp only[lp,ll,lo,Qm]
 rw[hv8]at hqo
 refine LZ hE (hC.old o1) (hqo.old o1) hkl hko (by omega) fun s2 v2 o2 r2=>?_
 have h2:=o2.1
 have lp2:AB Tryz.prog s2 26 (.ptr (some (p,0+0)))=some (.agg [.bool x,.slice a1 n1 c1,.slice d1 m1 e1]):=Al (o:=0) (n:=3) BZ Aw ((o2.2 p (by omega)).trans ((o1.2 p hpn).trans gp)) (by simp)
 refine⟨⟨Au (by simp only[Qk,Qr,Qs];exact lp2) (CI _ _ _ _ _ _ _),trivial⟩,?_⟩
 simp only[Qr,Qs]
 have o12:=o1.trans (o2.mono o1.1)
 have hP2:=hP.old o12
 have hqm:=hqC.mul hqO
 refine LY hE (hP2.cq.qi hP2.ch) (r2.qi hqm) hk1 (by omega) (by omega) fun s3 v3 o3 r3=>?_
 have h3:=o3.1
 have o13:=o12.trans (o3.mono o12.1)
 have hP3:=hP.old o13
 obtain⟨x3,a3,n3,c3,b3,m3,d3,rfl⟩:=r3.shape
 have gp3:=(o13.2 p hpn).trans gp
 have st:AO Tryz.prog s3 26 (.ptr (some (p,0+0))) (.agg [.bool x3,.slice a3 n3 c3,.slice b3 m3 d3])=some (setObj s3 p (BP x3 (.slice a3 n3 c3) (.slice b3 m3 d3) mi)):=NM (off:=0) Aw gp3 rfl (by simp) rfl (by simp)
 generalize hs4:setObj s3 p (BP x3 (.slice a3 n3 c3) (.slice b3 m3 d3) mi)=s4 at st
 have n4:s4.next=s3.next:=by rw[← hs4];rfl
 have g4:s4.heap.get p=some (BP x3 (.slice a3 n3 c3) (.slice b3 m3 d3) mi):=by rw[← hs4,Ww]
 have f4:∀j,j≠p→s4.heap.get j=s3.heap.get j:=fun j hj=>by rw[← hs4,Wx _ hj]
 have fx4:Fx p mi s s4:=⟨by have:=o13.1;omega,fun j hj h1 _=>(f4 j h1).trans (o13.2 j hj)⟩
 have k1:s4.heap.get s.next=some (R 30 0 false [.bool x9,.slice a9 n9 cc9,.slice b9 m9 d9,.slice av vs.length capv,.slice ac cs.length capc]):=by rw[f4 _ (by omega),o3.2 _ (by omega),o2.2 _ (by omega)];exact g1
 have k2:s4.heap.get (s.next+1)=some (BQ x8 (.slice a8 n8 c8) (.slice b8 m8 d8)):=by rw[f4 _ (by omega),o3.2 _ (by omega),o2.2 _ (by omega)];exact g2
 have hmp:mi≠p:=by rintro rfl;have:=hP.map.obj;rw[gp]at this;cases this
 have hu4:∀j,j<s3.next→YG s3 j→s4.heap.get j=s3.heap.get j:=fun j _ hj=>f4 j (Fj gp3 (by decide) hj)
 have hq4:QH (c+C * o) (k+(kl+ko+1)):=(hP.ch.add hqm).le (by omega)
 have hP4:FO b s4 (.agg [.bool x3,.slice a3 n3 c3,.slice b3 m3 d3]) mi (c+C * o) T (k+(kl+ko+1)):=
  ⟨(r3.keepS (A0L n4.symm) hu4).mono (by have:=o12.1;omega),hq4,(hP3.map.keepS (A0L n4.symm) (f4 mi hmp) hu4).le (by omega),fun t ht=>((hP2.map.ent t ht).1.dj r3 (zU _)).symm⟩
 have l1:=AI (P:=Tryz.prog) (t:=28) (o:=0+4) EN k1 rfl
 have l2:=AI (P:=Tryz.prog) (t:=27) (o:=0+3) D6 k1 rfl
 have hcc4:EB 3 s4 ac capc cs.length:=by
  obtain⟨_,_,_,_,_,_,_,av',capv',ac',capc',_,hv9',_,_,_,_,_,hcc'⟩:=hL s4 fx4
  rw[hv9]at hv9'
  injection hv9' with e
  injection e with _ e
  injection e with _ e
  injection e with _ e
  injection e with _ e
  injection e with e _
  injection e with e1 _ e2
  subst e1;subst e2
  exact hcc'
 have ct:=Kf (t:=28) Tryz.underlying28 Aw (by decide) hcc4 (show M≤cs.length by omega)
 have mm:=KH cs.length vs.length
 rw[hM]at mm
 simp only[mf,Ih,PW,st,l1,l2,CE,DE,AH Tryz.underlying28,AH Tryz.underlying27,mm,ct,Xy,Za,Qb,Qc,Qd,Qf,Qh,Qi,Qj,Qk,Qm,Qo,true_and,Qp,Qq,Qr,Qs,Qt,Qv,A1n,A1m,A1s,A1p]
 refine Wz hE (s:=s4) (b:=b) (p:=p) (mi:=mi) (q:=s.next) (C:=C) (o:=o) (vs:=vs) (cs:=cs) (kl:=kl) (ko:=ko) (k0:=k+(kl+ko+1)) (c':=c+C * o) (M:=M) hM.symm hv9 hv8 (fun S f=>hL S (fx4.trans f)) (fun S f=>hO S (fx4.trans f)) ?_ (by omega) hkl hko (T0:=T) (T':=T) (hlc:=rfl) (by omega)
  (fun S T' y5 y6 y9 y10 f gq hPq hT=>?_) M 0 s4 T _ _ _ (by omega) (Fx.refl _ _ _) g4 k1 k2 (by omega) (by omega) (by omega) (by rw[A0b,zv];exact hP4) fun T' h=>h
 ·rw[hs1'];omega
 ·simp only[if_true,Qm,Rg,Ri,Rj,Rk,Ro]
  refine hK _ S _ _ _ _ _ _ _ T' (fx4.trans f) gq (hPq.le ?_) hT
  rw[hs1'];omega
theorem sM(hE:GoodN E){vl:AV}{C:Rat}{vs:List Int}{cs:List Rat}{kl:Nat}(hl:LI s vl C vs cs kl)(hkl:1≤kl)(hb:2 * (1+(min cs.length vs.length+2) * (kl+2))+1≤1000000000){K:AV→AE→Prop}
  (hK:∀s' v mi T,Aa s.next s s'→PV s.next s' v mi C T (1+(min cs.length vs.length+1) * (kl+2))→G3 1 vs cs [] T→K v s'):WF E 32 [vl] K s:=by
 have hl0:=hl
 obtain⟨x9,a9,n9,cc9,b9,m9,d9,av,capv,ac,capc,cells,hv9,_⟩:=hl0
 have hcl:vl.cells=[.bool x9,.slice a9 n9 cc9,.slice b9 m9 d9,.slice av vs.length capv,.slice ac cs.length capc]:=by rw[hv9];rfl
 refine hE.go tR (by decide) rfl ?_
 obtain⟨n2,o1,g1,g2⟩:=EK s (R 30 0 false [.bool x9,.slice a9 n9 cc9,.slice b9 m9 d9,.slice av vs.length capv,.slice ac cs.length capc]) (R 56 0 false [.bool false,.slice none 0 (some 0),.slice none 0 (some 0),.map none])
 simp only[yQ,mQ,mR,Xa,hcl,I1,Xc,Ak,Qa,Qb,Qc,Qd,Qf,Qh,Qj,Qk,Ql,Qm,Qo,true_and,Qp,Qq,Qr,Qt,Qv,Rb,Rh,Rj,A1q,A1r,A1u,A1o]
 generalize newObj (newObj s (R 30 0 false [.bool x9,.slice a9 n9 cc9,.slice b9 m9 d9,.slice av vs.length capv,.slice ac cs.length capc])) (R 56 0 false [.bool false,.slice none 0 (some 0),.slice none 0 (some 0),.map none])=s1 at *
 refine fm hE fun s2 v2 mi o2 r2=>?_
 have h2:=o2.1
 obtain⟨x,a,n,ca,d,m,cd,rfl,hP⟩:=r2
 obtain⟨n3,o3,g3⟩:=Bs s2 (R 56 0 false [.bool false,.slice none 0 (some 0),.slice none 0 (some 0),.map none])
 have st:=Ai (P:=Tryz.prog) (t:=56) (cs:=[.bool x,.slice a n ca,.slice d m cd,.map (some mi)]) K8 g3 rfl rfl rfl (by simp)
 have o12:=o1.trans (o2.mono o1.1)
 simp only[st,Xy,Za,Qd,Qm,Qo,true_and,Qp,Qq,Qr,Qs]
 generalize hs4:setObj (newObj s2 (R 56 0 false [.bool false,.slice none 0 (some 0),.slice none 0 (some 0),.map none])) s2.next (R 56 0 false [.bool x,.slice a n ca,.slice d m cd,.map (some mi)])=s4
 have o24:Aa s2.next s2 s4:=by rw[← hs4];exact o3.set (zU _) _
 have n4:s4.next=s2.next+1:=by rw[← hs4];exact n3
 have g4:s4.heap.get s2.next=some (BP x (.slice a n ca) (.slice d m cd) mi):=by rw[← hs4,Ww]
 have k1:s4.heap.get s.next=some (R 30 0 false [.bool x9,.slice a9 n9 cc9,.slice b9 m9 d9,.slice av vs.length capv,.slice ac cs.length capc]):=by rw[o24.2 _ (by omega),o2.2 _ (by omega)];exact g1
 have o14:=o12.trans (o24.mono o12.1)
 have l1:=AK (P:=Tryz.prog) (t:=30) D7 Do k1 rfl
 simp only[mS,l1,Qb,Qc,Qd,Qf,Qh,Qi,Qj,Qk,Qm,Qo,true_and,Qr,Qs,Qt,Qv,A1m,A1u]
 refine Mz hE (n:=1) (.inr (.inl rfl)) fun s5 v5 o5 r5=>?_
 have h5:=o5.1
 have k5:=(o5.2 s.next (by omega)).trans k1
 refine⟨⟨Au (by simp only[Qj,Qk,Qr,Qs];exact AK D7 Do k5 rfl) (DR ..),trivial⟩,?_⟩
 simp only[Qr,Qs]
 have o15:=o14.trans (o5.mono o14.1)
 have g5:=(o5.2 s2.next (by omega)).trans g4
 have hP5:=hP.old (o24.trans (o5.mono o24.1))
 have hmlo:=hP.map.lo
 have hone:QH ((1:Int):Rat) 1:=⟨by decide,by decide⟩
 have hlx:=hl.old o15
 rw[hv9]at hlx
 refine U5 hE (b:=s.next) (p:=s2.next) (kl:=kl) (ko:=1) (k:=1) g5 (by omega) (by omega) (hP5.mono (by omega)) (fun S f=>by
   have:=hl.old (o15.trans ((f.old (b:=s.next) (by omega) (by omega) (by omega))))
   rw[hv9]at this
   exact this) (fun S f=>(r5.fx g5 (by decide) hP5.map.obj f).qi hone) (by omega) hkl (by omega) hb fun r s6 x' a' n' c'' d' m' e' T' f6 g6 hP6 hT=>?_
 have l6:=AK (P:=Tryz.prog) (t:=56) QL K8 g6 rfl
 have f7:s6.heap.get (s.next+1)=some (R 56 0 false [.bool false,.slice none 0 (some 0),.slice none 0 (some 0),.map none]):=by
  rw[f6.2 _ (by omega) (by omega) (by omega),o5.2 _ (by omega),o24.2 _ (by omega),o2.2 _ (by omega)];exact g2
 have st7:=Ai (P:=Tryz.prog) (t:=56) (cs:=[.bool x',.slice a' n' c'',.slice d' m' e',.map (some mi)]) K8 f7 rfl rfl rfl (by simp)
 have ld7:=AK (P:=Tryz.prog) (t:=56) (s:=setObj s6 (s.next+1) (R 56 0 false [.bool x',.slice a' n' c'',.slice d' m' e',.map (some mi)])) (i:=s.next+1) QL K8 (Ww _ _ _) rfl
 simp only[mT,l6,st7,ld7,AM,Xy,Za,Qb,Qc,Qd,Qf,Qh,Qj,Qk,Qm,Qo,true_and,Qr,Qs,Qt,Qv,Rk,Rn,Yc,A1m,A1o]
 have e1:(0:Rat)+C * ((1:Int):Rat)=C:=by rw[Rat.zero_add];exact Rat.mul_one C
 rw[e1]at hP6
 have h6:=f6.1
 refine hK _ _ mi T' ⟨?_,fun j hj=>?_⟩ ⟨_,_,_,_,_,_,_,rfl,hP6.set f7 (by decide) _⟩ hT
 ·show s.next≤s6.next;omega
 ·rw[Wx _ (by omega),f6.2 j (by omega) (by omega) (by omega),o15.2 j hj]
end
structure G7(E:CR):Prop extends GoodN E where
 srt:∀ (xs:List AV) (s:AE),E.nat 78 xs s=GP 121 3 3 s xs
 wk:∀s:AE,E.nat 15 [] s=some (.bool true,s)
def PP(T:List CW)(ks:List Int):List (Int×Rat):=(ks.map fun n=>(n,Cd n T)).filter fun p=>decide (p.2≠0)
def FS(T:List CW):List (Int×Rat):=PP T (Dk (BD T))
theorem Nr(T:List CW)(ks:List Int)(n:Int):PP T (ks++[n])=PP T ks++(if Cd n T=0 then []else [(n,Cd n T)]):=by
 unfold PP
 rw[A0o,List.filter_append]
 congr 1
 by_cases h:Cd n T=0
 ·rw[if_pos h];simp[h]
 ·rw[if_neg h];simp[h]
theorem N6:∀T:List CW,Kn (G1 T)=some (BD T)
 | []=>rfl
 | t::T=>by
  show(Kn (G1 T)).bind (fun r=>some (t.1::r))=some (t.1::BD T)
  rw[N6 T];rfl
theorem Hs(l:List Int):(Dk l).length=l.length:=(Dv l).length_eq
theorem XJ{l:List Int}{x:Int}:x∈Dk l↔x∈l:=(Dv l).mem_iff
theorem La(q:Rat):Hf q.num≠0↔q≠0:=by
 constructor
 ·rintro h rfl;exact h rfl
 ·intro h h2
  rcases NF q.num with⟨_,e⟩ | ⟨e,_⟩ | ⟨_,e⟩
  ·rw[e]at h2;exact absurd h2 (by decide)
  ·exact h (Rat.num_eq_zero.1 e)
  ·rw[e]at h2;exact absurd h2 (by decide)
section
variable{E:CR}{s:AE}
theorem YM(hE:GoodN E){x:Bool}{a d:Option (Nat×Nat)}{n m mi:Nat}{ca cd:Option Nat}{K:AV→AE→Prop}
  (hK:∀s',s'.next=s.next+1→Aa s.next s s'→s'.heap.get s.next=some (BP x (.slice a n ca) (.slice d m cd) mi)→K (.func 77 [] [.ptr (some (s.next,0))]) s'):WF E 41 [.agg [.bool x,.slice a n ca,.slice d m cd,.map (some mi)]] K s:=by
 refine hE.go ta (by decide) rfl ?_
 obtain⟨n1,o1,g1⟩:=Bs s (BP x (.slice a n ca) (.slice d m cd) mi)
 simp only[yZ,nW,nX,Xa,Xh,Xc,A0l,A0d,Qa,Qb,Qc,Qd,Qf,Qh,Qi,Qj,Qk,Ql,Qm,Qo,true_and,Qp,Qq,Qr,Qs,Qt,Qv,Rb,Rh,Rj,Rk,Rm,Rn,Yc,A1q,A1p]
 exact hK _ n1 o1 g1
theorem U8      (hE : G7    E) {sA : AE}  {pb l b mi k : Nat} {T : List CW}  (hPA : HA   b sA mi T k) (hk : k ≤ 1000000000) (hTl : T.length ≤ 1000000) (ho : Aa  sA.next sA s) {x : Bool} {a1 d1 : Option (Nat × Nat)} {n1 m1 : Nat} {c1 e1 : Option Nat}
    (gp:s.heap.get pb=some (BP x (.slice a1 n1 c1) (.slice d1 m1 e1) mi)) (hpb:pb<s.next) {O0:List Nat} (hO0:pb ∉ O0) (hOl:∀j∈O0,sA.next≤j) (LI:List (Int×Rat)→List Nat→AE→Prop)
    (hstab:∀done O S S',LI done O S→Aa S.next S S'→LI done O S') (hOlt:∀done O S,LI done O S→∀j∈O,j<S.next)
    (hround:∀ (done:List (Int×Rat)) (n:Int) (q:Rat) (vq:AV) (O:List Nat) (S:AE) (K:AV→AE→Prop),LI done O S→Aa sA.next sA S→q≠0→(n,q,vq)∈T→done.length≤T.length →
      (∀S' O',LI (done++[(n,q)]) O' S'→S.next≤S'.next→(∀j,j<S.next→j ∉ O→S'.heap.get j=S.heap.get j)→(∀j∈O',j∈O∨S.next≤j)→K (.bool true) S')→WR E l [iv n,vq] K S)
    {K:AV→AE→Prop} (h0:LI [] O0 s) (hend:∀v S O,Aa sA.next sA S→s.next≤S.next→(∀j,j<s.next→j ∉ O0→S.heap.get j=s.heap.get j)→LI (FS T) O S→K v S):WF E 77 [.yield l,.ptr (some (pb,0))] K s:=by
  refine hE.go uH (by decide) rfl ?_
  have l1:=AI (P:=Tryz.prog) (t:=54) (o:=0+3) TF gp rfl
  simp only[zG,qJ,l1,J7,Qa,Qb,Qc,Qd,Qf,Qh,Qi,Qj,Qk,Ql,Qm,Qo,true_and,Qr,Qs,Qt,Qv,Rb,A1n,A1m,A1u,A1p]
  refine hE.go uI (by decide) rfl ?_
  obtain⟨n2,o2,g2⟩:=Bs s (R 54 0 false [.map (some mi)])
  simp only[zH,qN,qO,Xa,Xl,Xc,A0l,A0d,Qa,Qb,Qc,Qd,Qf,Qh,Qi,Qj,Qk,Ql,Qm,Qo,true_and,Qp,Qq,Qr,Qs,Qt,Qv,Rb,Rh,Rj,Rk,Rm,Rn,Yc,A1q,A1p]
  generalize newObj s (R 54 0 false [.map (some mi)])=s1 at *
  have o01:Aa sA.next sA s1:=ho.trans (o2.mono ho.1)
  have hP1:=hPA.old o01
  generalize hks:Dk (BD T)=ks
  have hksl:ks.length=T.length:=by rw[← hks,Hs];simp[BD]
  have key:∀ (kv:AV) (s2:AE),Aa s1.next s1 s2→(∃a cap,kv=.slice a ks.length cap∧AS s2.next s2 a (ks.map iv)∧∀i o,a=some (i,o)→s1.next≤i∧i<s2.next) →
      WC E none (.loop Kd) (fun r=>r.exit=.exit 0∧r.marks=[]∧∃O,Aa sA.next sA r.st∧s.next≤r.st.next∧(∀j,j<s.next→j ∉ O0→r.st.heap.get j=s.heap.get j)∧LI (FS T) O r.st) [.yield l,.ptr (some (pb,0)),Bc,Bc,kv,iv (ks.length:Int),iv 0,Bc,Bc] [] s2:=by
    rintro kv s2 o12 ⟨a,cap,rfl,hcell,haid⟩
    have hloop:∀ (m i:Nat) (S:AE) (O:List Nat) (x2 x3 x7 x8:AV),i+m=ks.length→Aa sA.next sA S→s2.next≤S.next→(∀j,j<s2.next→j ∉ O0→S.heap.get j=s2.heap.get j)→(∀j∈O,j∈O0∨s2.next≤j)→LI (PP T (ks.take i)) O S →
        WC E none (.loop Kd) (fun r=>r.exit=.exit 0∧r.marks=[]∧∃O,Aa sA.next sA r.st∧s.next≤r.st.next∧(∀j,j<s.next→j ∉ O0→r.st.heap.get j=s.heap.get j)∧LI (FS T) O r.st) [.yield l,.ptr (some (pb,0)),x2,x3,.slice a ks.length cap,iv (ks.length:Int),iv (i:Int),x7,x8] [] S:=by
      intro m
      induction m with
      | zero =>
        intro i S O x2 x3 x7 x8 him hoS hnS hfS hOS hLI
        have e:i=ks.length:=by omega
        subst e
        have dd:decide ((ks.length:Int)<(ks.length:Int))=false:=decide_eq_false (by omega)
        rw[A1J]at hLI
        refine WC.loop' ?_
        simp only[Kd,dy,Ry,dd,Qa,Qb,Qc,Qd,Qf,Qh,Qj,Qm,Qo,true_and,Qp,Qq,Qr,Qs,Qt,Qv,Ra,Rb,Rc,Rd,Re,Rf,Ry,A1x]
        refine⟨O,hoS,by have:=o2.1;have:=o12.1;omega,fun j hj hjO=>?_,by unfold FS;rw[hks];exact hLI⟩
        rw[hfS j (by have:=o12.1;omega) hjO,o12.2 j (by omega),o2.2 j hj]
      | succ m ih =>
        intro i S O x2 x3 x7 x8 him hoS hnS hfS hOS hLI
        have hi:i<ks.length:=by omega
        have hkn:ks[i]? = some ks[i]:=zW hi
        generalize ks[i]=n at hkn
        have hnk:n∈BD T:=by rw[← XJ,hks];exact zw hkn
        have hgt:∃p,E8 n T=some p:=by
          cases h:E8 n T with
          | none=>exact absurd hnk (N0.1 h)
          | some p=>exact⟨p,rfl⟩
        obtain⟨⟨q,vq⟩,hgq⟩:=hgt
        have hmem:=F7 hgq
        have hvq:Cd n T=q:=by unfold Cd;rw[hgq]
        have hPS:=hPA.old hoS
        obtain⟨hq1,hq2,hq3⟩:=hPS.ent _ hmem
        simp only at hq1 hq2 hq3
        have dd:decide ((i:Int)<(ks.length:Int))=true:=decide_eq_true (by omega)
        obtain⟨i0,o0,rfl,hi0,hld⟩:=Cm hcell hkn
        have hid:=haid i0 o0 rfl
        have hi0O:i0 ∉ O0:=fun h=>by have:=hOlt _ _ _ h0 i0 h;have:=o2.1;omega
        have ix:=AX (cap:=cap) (i:=i0) (o:=o0) Tryz.underlying27 Jm hi
        have hld':AB Tryz.prog S 3 (.ptr (some (i0,o0+i * 1)))=some (iv n):=by
          rw[Wf lH]at hld ⊢
          rw[hfS i0 hid.2 hi0O];exact hld
        have gpS:S.heap.get pb=some (BP x (.slice a1 n1 c1) (.slice d1 m1 e1) mi):=by
          rw[hfS pb (by have:=o12.1;omega) hO0,o12.2 pb (by omega),o2.2 pb hpb];exact gp
        have l1:=AI (P:=Tryz.prog) (t:=54) (o:=0+3) TF gpS rfl
        have lk:=XR hPS.obj hq3 hgq
        simp only at lk
        obtain⟨xx,aa,nn,kk,bb,mm,ee,hce⟩:=hq1.shape
        obtain⟨n3,o3,g3⟩:=Bs S ZQ
        have st:=Ai (P:=Tryz.prog) (t:=26) (cs:=[.bool xx,.slice aa nn kk,.slice bb mm ee]) Aw g3 rfl rfl rfl (by simp)
        rw[← hce]at st
        have hTb:ks.length≤1000000:=by omega
        have e17:=Ax Tryz.prog 3 (i:Int) 1 ⟨by omega,by omega⟩
        have e17':((i:Int)+1)=((i+1:Nat):Int):=by omega
        refine WC.loop' ?_
        generalize hW:WC E none (Ac.loop Kd) _=WW
        simp only[Kd,dy,qK,qL,Ry,dd,ix,hld',l1,lk,J7,Bh,Xc,st,Xy,Za,Qa,Qb,Qc,Qd,Qf,Qh,Qj,Qk,Qm,Qo,true_and,Qp,Qq,Qr,Qs,Qt,Qv,Qz,Rb,Rc,Rd,Re,Rf,Ry,A1x,A1v,A1m,A1p,A1n,A1r,A1o]
        generalize hs3:setObj (newObj S ZQ) S.next (R 26 0 false [.bool xx,.slice aa nn kk,.slice bb mm ee])=s3 at *
        have o13:Aa S.next S s3:=by rw[← hs3];exact o3.set (zU _) _
        have n3':s3.next=S.next+1:=by rw[← hs3];exact n3
        have g3':s3.heap.get S.next=some (R 26 0 false [.bool xx,.slice aa nn kk,.slice bb mm ee]):=by rw[← hs3,Ww]
        have l3:=AK (P:=Tryz.prog) (t:=26) BZ Aw g3' rfl
        rw[← hce]at l3
        simp only[qM,l3,Qb,Qc,Qd,Qf,Qg,Qh,Qi,Qj,Qk,Qm,Qo,true_and,Qr,Qs,Qt,Qv,Qw,Ru,Rw,A1m,A1u]
        refine gZ hE.toGoodN ((hq1.old o13).qi hq2) hk fun s4 o4=>?_
        have h4:=o4.1
        have o34:Aa S.next S s4:=o13.trans (o4.mono o13.1)
        have hLI4:=hstab _ _ _ s4 hLI o34
        have o04:Aa sA.next sA s4:=hoS.trans (o34.mono hoS.1)
        have htk:ks.take (i+1)=ks.take i++[n]:=by rw[List.take_add_one,hkn];rfl
        by_cases hz:q=0
        · have dz:decide (Hf q.num≠0)=false:=decide_eq_false (fun h=>(La q).1 h hz)
          simp only[Wd,dz,eC,e17,e17',Qb,Qc,Qd,Qf,Qh,Qi,Qj,Qk,Qm,Qo,true_and,Qp,Qq,Qr,Qs,Qt,Qu,Qv,Qx,Ra,Rs,Wd,A1p]
          rw[← hW]
          refine ih (i+1) s4 O _ _ _ _ (by omega) o04 (by omega) (fun j hj hjO=>?_) hOS ?_
          · rw[o34.2 j (by omega),hfS j hj hjO]
          · rw[htk,Nr,hvq,if_pos hz,A1C];exact hLI4
        · have dz : decide (Hf   q.num ≠ 0) = true := decide_eq_true ((La      q).2 hz)
          have l4:=AK (P:=Tryz.prog) (t:=26) BZ Aw ((o4.2 S.next (by omega)).trans g3') rfl
          rw[← hce]at l4
          simp only[Wd,dz,l4,Qc,Qd,Qe,Qm,Qo,true_and,Qr,Qs,Qt,Qx,Rs,Wd]
          refine hround _ n q vq O s4 _ hLI4 o04 hz hmem (by
            unfold PP
            refine zY (List.length_filter_le _ _) ?_
            rw[zi,zo];omega) fun S' O' hLI' hn' hf' hO'=>?_
          simp only[We,Bool.not_true,eC,e17,e17',Qb,Qc,Qd,Qf,Qh,Qi,Qj,Qk,Qm,Qo,true_and,Qp,Qq,Qr,Qs,Qt,Qv,Qx,Ra,Rs,Ya,We,A1p]
          rw[← hW]
          refine ih (i+1) S' O' _ _ _ _ (by omega) ⟨by have:=o04.1;omega,fun j hj=>?_⟩ (by omega) (fun j hj hjO=>?_) (fun j hj=>?_) ?_
          · have hjO:j ∉ O:=fun h=>by
              rcases hOS j h with h | h
              · have:=hOl j h;omega
              · have:=o01.1;have:=o12.1;omega
            rw[hf' j (by have:=o04.1;omega) hjO,o04.2 j hj]
          · have hjO':j ∉ O:=fun h=>by
              rcases hOS j h with h | h
              · exact hjO h
              · omega
            rw[hf' j (by omega) hjO',o34.2 j (by omega),hfS j hj hjO]
          · rcases hO' j hj with h | h
            · exact hOS j h
            · exact .inr (by omega)
          · rw[htk,Nr,hvq,if_neg hz];exact hLI'
    exact hloop ks.length 0 s2 O0 _ _ _ _ (by omega) (o01.trans (o12.mono o01.1)) (zU _) (fun _ _ _=>rfl) (fun j hj=>.inl hj) (hstab _ _ _ s2 h0 (o2.trans (o12.mono o2.1)))
  have fin:∀ (kv:AV) (s2:AE),WC E none (.loop Kd) (fun r=>r.exit=.exit 0∧r.marks=[]∧∃O,Aa sA.next sA r.st∧s.next≤r.st.next∧(∀j,j<s.next→j ∉ O0→r.st.heap.get j=s.heap.get j)∧LI (FS T) O r.st) [.yield l,.ptr (some (pb,0)),Bc,Bc,kv,iv (ks.length:Int),iv 0,Bc,Bc] [] s2 →
      WC E none (.loop Kd) (Ed 0 (Ends Tryz.prog [] K)) [.yield l,.ptr (some (pb,0)),Bc,Bc,kv,iv (ks.length:Int),iv 0,Bc,Bc] [] s2:=fun kv s2 h=>by
    refine h.mono ?_
    rintro⟨e,v,mm,s'⟩ ⟨q1,q0,O,q2,q3,q4,q5⟩
    simp only at q1 q0 q2 q3 q4 q5
    subst q0
    subst q1
    simp only[if_true,Qm,Rg,Ri,Rj,Rk,Ro]
    exact hend _ _ O q2 q3 q4 q5
  have hrow:rowAt s1 s.next=some { elem:=54,sz:=0,n:=1,c:=Ub [.map (some mi)],spare:=false,mode:=.own,par:=none,bytes:=true }:=by unfold rowAt;rw[g2];rfl
  have hl1:DB s1 s.next 0=some (.map (some mi)):=by rw[Fh,g2,Wo];rfl
  have hmat:HT s1 3 mi=some (G1 T):=by unfold HT;rw[hP1.obj];rfl
  have hsm:GP 121 3 3 s1 [.func 121 [] [.ptr (some (s.next,0))]]=H6 3 (BD T) s1:=by
    unfold GP
    simp only[YV,Bool.and_true,hrow,hl1,hmat,N6,Option.bind_some,Xg]
  cases hkt:BD T with
  | nil =>
    have hk0:ks=[]:=by rw[← hks,hkt];rfl
    have hn:E.nat 78 [.func 121 [] [.ptr (some (s.next,0))]] s1=some (.slice none 0 (some 0),s1):=by rw[hE.srt,hsm,hkt];rfl
    refine WF.nat hn ?_
    simp only[AH Tryz.underlying27,Qd,Qm,Qo,true_and,Qp,Qq,Qr,Qs]
    have:=fin (.slice none ks.length (some 0)) s1 (key _ s1 (Aa.refl _ _) ⟨none,some 0,rfl,by rw[hk0];exact AS.nil,fun i o e=>by cases e⟩)
    rw[hk0]at this
    exact this
  | cons k0 tl =>
    have hlen:(k0::tl).length=ks.length:=by rw[← hkt,← hks,Hs]
    have hr:Cy 3 1 (Ab.fill .leaf 0 ((Dk (k0::tl)).map XK)) (k0::tl).length none true=R 3 1 true (ks.map iv):=by
      rw[← hkt,hks]
      have e:(BD T).length=(ks.map XK).length:=by rw[zi,← hks,Hs]
      rw[e]
      exact UF 3 1 (ks.map XK)
    have hn:E.nat 78 [.func 121 [] [.ptr (some (s.next,0))]] s1=some (.slice (some (s1.next,0)) ks.length none,newObj s1 (R 3 1 true (ks.map iv))):=by
      rw[hE.srt,hsm,hkt]
      show AQ (Nat.ble (k0::tl).length 1000000) (some (AV.slice (some (s1.next,0)) (k0::tl).length none,newObj s1 (Cy 3 1 (Ab.fill .leaf 0 ((Dk (k0::tl)).map XK)) (k0::tl).length none true)))=_
      rw[hr,hlen,CU (show ks.length≤1000000 by omega)]
      rfl
    refine WF.nat hn ?_
    simp only[AH Tryz.underlying27,Qd,Qm,Qo,true_and,Qp,Qq,Qr,Qs]
    obtain⟨n5,o5,g5⟩:=Bs s1 (R 3 1 true (ks.map iv))
    exact fin (.slice (some (s1.next,0)) ks.length none) _ (key _ _ o5 ⟨some (s1.next,0),none,rfl,Gc g5 (by omega),fun i o e=>by
      injection e with e
      injection e with e1 e2
      subst e1;subst e2
      exact⟨zU _,by omega⟩⟩)
end
end
end Go.Proofs.YtjnkfbpadpmakaaGreatDoor.Am
set_option linter.unusedVariables false
namespace Go.Proofs.YtjnkfbpadpmakaaGreatDoor.Am
open Go Go.Proofs
noncomputable section
def JO:QJ:=LW [15] sV
theorem UY:Es Tryz.prog JO:=UX Pp (Ii Mj) rfl kC fun r hr=>by
 simp only[sV,A1d]at hr
 subst hr
 exact⟨rfl,rfl,gv⟩
def SK:QJ:=fun f xs s=>match JO f xs s with
 | some p=>some p
 | none=>UW f xs s
theorem gG:Es Tryz.prog SK:=by
 intro ρ s w f xs v s1 xs' hc hi hf ha
 unfold SK at hc
 cases h:JO f xs s with
 | some p=>rw[h]at hc;injection hc with hc;subst hc;exact UY ρ s w f xs v s1 xs' h hi hf ha
 | none=>rw[h]at hc;exact WK ρ s w f xs v s1 xs' hc hi hf ha
def sE:CR:=⟨Tryz.prog,SK⟩
theorem xG:G7 sE where
 P:=rfl
 nat:=fun f xs s hf=>by
  have h1:Nat.beq f 78=false:=Dp fun e=>hf (by simp[e])
  have h2:Nat.beq f 15=false:=Dp fun e=>hf (by simp[e])
  have e1:JO f xs s=none:=by simp[JO,LW,h2]
  have e2:UW f xs s=none:=by simp[UW,h1]
  show SK f xs s=none
  simp[SK,e1,e2]
 srt:=fun xs s=>rfl
 wk:=fun s=>rfl
end
end Go.Proofs.YtjnkfbpadpmakaaGreatDoor.Am
set_option linter.unusedVariables false
set_option linter.unusedSimpArgs false
set_option maxRecDepth 16000
namespace Go.Proofs.YtjnkfbpadpmakaaGreatDoor.Am
open Go Go.Proofs
noncomputable section
theorem W8{W:World}{ρ:BU}{s:AE}{f:FuncId}{xs:List AV}{args:Array Value}(hd:Fz Tryz.prog W ρ s)(ha:AW ρ xs args.toList)(h:WF sE f xs (fun r _=>r=.bool true) s):
  Calls Tryz.prog f args W fun e W'=>e=.returned (.bool true)∧Oh W W':=by
 obtain⟨n,p,h1,h2⟩:=h
 have:=((yC Pp (Ii Mj) rfl gG n).call ρ s W f xs p.1 p.2 args h1 hd.inv hd.fresh ha).2
 refine callsIn_wide.1 (CallsIn.mono this ?_)
 intro e w' he
 cases e with
 | panicked c=>exact he.elim
 | outgrown=>exact he.elim
 | returned v' =>
  obtain⟨ρ',k1,k2,k3⟩:=he
  rw[h2]at k1
  cases k1
  exact⟨rfl,j6 k3 hd.notOwned⟩
theorem reads_again{H:Type}{enc:TypeId×Value→H}{P:Program}{t:TypeId}(hl:laidOutB P=true)(hr:P.readableRec t=true)(hrow:t<P.types.size){W W':World}{v:Value}{d:DataW H}{ps:List MemPlace}{sp:Nat→Bool}
  (h:DataW.Trod enc P W 0 (fun _=>true) true t v d ps) (hk:Oh W W') (hlt:∀x∈ps,x.block<W.heap.size) (hs:∀x∈ps,sp x.block=true):DataW.Trod enc P W' 0 sp true t v d ps:=
 WideElems.Trod_stays hl hr hrow h (fun x hx=>by
  have:=hlt x hx
  cases x with
  | cell b o=>exact World.cell?_of_block (w:=W) (hk.heap b this)
  | map b=>exact hk.heap b this) hs
theorem U9{t e:TypeId}(ht:Tryz.prog.underlying t=some (.slice e)){W:World}{base:Nat}{v:Value}(h:Value.okWide Tryz.prog W .any base t v){ρ:BU}{a:AV}(hr:AW ρ [a] v.cells.toList):Ae ρ a v:=by
 have hv:v.cells.toList=[v]:=by
  cases v with
  | agg cs=>simp[Value.okWide,ht,Cell.okWide,Cell.ok]at h
  | _=>rfl
 rw[hv]at hr
 cases hr with
 | cons h _=>exact h
theorem Sn{t e:TypeId}(ht:Tryz.prog.underlying t=some (.slice e)){W:World}{base:Nat}{v:Value}(h:Value.okWide Tryz.prog W .any base t v)(a:Addr)(ha:v.cells.toList=[.slice (some a) 0 0]):0<W.heap.size:=by
 have hv:v=.slice (some a) 0 0:=by
  cases v with
  | agg cs =>
   simp[Value.okWide,ht,Cell.okWide,Cell.ok]at h
  | _ =>
   simp[Value.cells]at ha
   try (obtain⟨e1,e2,e3⟩:=ha;rw[e1,e2,e3])
 subst hv
 simp only[Value.okWide,ht,Cell.okWide,Cell.ok]at h
 obtain⟨_,_,_,_,row,cells,hs,_⟩:=h
 unfold World.shape? at hs
 cases hb:W.heap[a.block]? with
 | none=>rw[hb]at hs;cases hs
 | some o =>
  rcases zX a.block W.heap.size with h' | h'
  ·omega
  ·rw[Array.getElem?_eq_none h']at hb;cases hb
theorem HZ{e st sz by_:Nat}(ht:Tryz.prog.underlying st=some (.slice e))(hs:BJ Tryz.prog e=some sz)(hby:DP Tryz.prog e=some by_)(h0:0<sz)(hx:B0 Tryz.prog st=true)(hz:DH Tryz.prog e sz=true)(hbl:by_≤1000){S:AE}{v:AV}{n r:Nat}{cs add:List AV}{O:List Nat}(hd:FD e sz S v n cs O){ez:Nat}(hr:S.heap.get r=some (R ez sz false add))(ha:add.length=sz)(hc:Aq add=true)(hn:n≤1000000000):
  ∃v' s' O',Aj Tryz.prog S [st,st] [v,.slice (some (r,0)) 1 (some 1)]=some (v',s')∧FD e sz s' v' (n+1) (cs++add) O'∧s'.next=S.next+1∧(∀j,j<S.next→j ∉ O→s'.heap.get j=S.heap.get j)∧(∀j∈O',j∈O∨S.next≤j):=by
 have hsrc:Co Tryz.prog S e sz (.slice (some (r,0)) 1 (some 1))=some (1,add):=P5 ez sz (by rw[hr];rfl) (by omega)
 have hb1:(n+1) * by_≤(1000000000+1) * 1000:=A0W (by omega) hbl
 obtain⟨v',s',O',happ,hb',hn',hf,hO,_⟩:=hd.append (xt:=st) (m:=1) ht hs hby h0 hx hz (by omega) hsrc (by omega) hc (by omega) (by omega)
 exact⟨v',s',O',happ,hb',hn',hf,hO⟩
theorem Ux:DH Tryz.prog 3 1=true:=by kernel_rfl
theorem P9:B0 Tryz.prog 27=true:=by kernel_rfl
theorem Uy:DH Tryz.prog 26 3=true:=by kernel_rfl
theorem QB:B0 Tryz.prog 28=true:=by kernel_rfl
theorem M8(n:Int):Ad Tryz.prog 27 1 (zipIdx [0] [iv n])=some (R 3 1 false [iv n]):=by kernel_rfl
theorem GL(x:Bool)(a b:Option (Nat×Nat))(n m:Nat)(c d:Option Nat):Ad Tryz.prog 28 1 (zipIdx [0] [.agg [.bool x,.slice a n c,.slice b m d]])=some (R 26 3 false [.bool x,.slice a n c,.slice b m d]):=by kernel_rfl
def JG(D:List CW):List AV:=D.map fun t=>iv t.1
def Dc(D:List CW):List AV:=(D.map fun t=>t.2.2.cells).flatten
abbrev BL(x:Bool)(m d vv cv:AV):BF:=R 30 0 false [.bool x,m,d,vv,cv]
def Gl (v0:AV) (pb p:Nat) (x3 x4 fn x6 x7:AV) (mk:Nat):Di:=
 Hu 33 [v0,.ptr (some (pb,0)),.ptr (some (p,0)),x3,x4,fn,x6,x7] #[10,11] cN cO mk
structure QG(lo:Di)(p l:Nat)(T:List CW)(x:Bool)(m d:AV)(done:List (Int×Rat))(O:List Nat)(S:AE):Prop where
 lp:Ba S l=some lo
 ll:l<S.next
 ex:∃vv cv D O1 O2,S.heap.get p=some (BL x m d vv cv)∧FD 3 1 S vv D.length (JG D) O1∧FD 26 3 S cv D.length (Dc D) O2∧O=p::l::(O1++O2)∧(∀j∈O1,l<j∧j ∉ O2)∧(∀j∈O2,l<j)∧done=(D.map fun t=>(t.1,t.2.1))∧(∀t∈D,t∈T)
theorem QG.olt{lo:Di}{p l:Nat}{T:List CW}{x:Bool}{m d:AV}{done:List (Int×Rat)}{O:List Nat}{S:AE}(h:QG lo p l T x m d done O S)(hp:p<l):∀j∈O,j<S.next:=by
  obtain⟨_,h2,vv,cv,D,O1,O2,_,b1,b2,rfl,_⟩:=h
  intro j hj
  rcases List.mem_cons.1 hj with rfl | hj
  · omega
  · rcases List.mem_cons.1 hj with rfl | hj
    · exact h2
    · rcases A1V.1             hj with hj | hj
      · exact b1.lt j hj
      · exact b2.lt j hj
theorem QG.stab{lo:Di}{p l:Nat}{T:List CW}{x:Bool}{m d:AV}{done:List (Int×Rat)}{O:List Nat}{S S':AE}(h:QG lo p l T x m d done O S)(hp:p<l)(o:Aa S.next S S'):QG lo p l T x m d done O S':=by
 obtain⟨h1,h2,vv,cv,D,O1,O2,g,b1,b2,h3⟩:=h
 exact⟨(D2 (o.2 l h2)).trans h1,zZ h2 o.1,vv,cv,D,O1,O2,(o.2 p (by omega)).trans g,b1.frame o.1 fun j hj=>o.2 j (b1.lt j hj),b2.frame o.1 fun j hj=>o.2 j (b2.lt j hj),h3⟩
section
variable{E:CR}
theorem XP        (hE : GoodN E) {v0 x3 x4 fn x6 x7 : AV} {pb p l mk : Nat} {T : List CW}  {x : Bool} {m d : AV} {done : List (Int × Rat)} {O : List Nat} {S : AE}  (hpl : p < l) (hT : T.length ≤ 1000000) (hdl : done.length ≤ 1000000000)
    (hI:QG (Gl v0 pb p x3 x4 fn x6 x7 mk) p l T x m d done O S) {n:Int} {q:Rat} {vq:AV} {b:Nat} (hmem:(n,q,vq)∈T) (hq:QR b S vq q) {K:AV→AE→Prop}
    (hK:∀S' O',QG (Gl v0 pb p x3 x4 fn x6 x7 mk) p l T x m d (done++[(n,q)]) O' S'→S.next≤S'.next→(∀j,j<S.next→j ∉ O→S'.heap.get j=S.heap.get j)→(∀j∈O',j∈O∨S.next≤j)→K (.bool true) S'):WR E l [iv n,vq] K S:=by
  obtain⟨hlp,hll,vv,cv,D,O1,O2,gp,b1,b2,hO,IJ,Kh,hdn,hDT⟩:=hI
  obtain⟨xx,aa,nn,kk,bb,mm,ee,rfl⟩:=hq.shape
  have hz:Db (Dh E.P 33) (Gl v0 pb p x3 x4 fn x6 x7 mk).var [10,11] [iv n,.agg [.bool xx,.slice aa nn kk,.slice bb mm ee]]=some [v0,.ptr (some (pb,0)),.ptr (some (p,0)),x3,x4,fn,iv n,.agg [.bool xx,.slice aa nn kk,.slice bb mm ee]]:=by
    rw[hE.P,cR];rfl
  refine WR.round hlp hz (by rw[hE.P];exact tA) (by rw[hE.P];exact tB) ?_
  refine Eg ?_
  obtain⟨n2,o2,g2⟩:=Bs S ZQ
  have st:=Ai (P:=Tryz.prog) (t:=26) (cs:=[.bool xx,.slice aa nn kk,.slice bb mm ee]) Aw g2 rfl rfl rfl (by simp)
  simp only[cP,mX,mY,Bh,Xc,st,Xy,Za,Qa,Qb,Qc,Qd,Qf,Qh,Qj,Qm,Qo,true_and,Qp,Qq,Qr,Qs,Qt,Qv,Rb,A1p,A1r,A1o]
  generalize hs2:setObj (newObj S ZQ) S.next (R 26 0 false [.bool xx,.slice aa nn kk,.slice bb mm ee])=s2 at *
  have os2:Aa S.next S s2:=by rw[← hs2];exact o2.set (zU _) _
  have n3:s2.next=S.next+1:=by rw[← hs2];exact n2
  have g3:s2.heap.get S.next=some (BQ xx (.slice aa nn kk) (.slice bb mm ee)):=by rw[← hs2,Ww]
  refine⟨_,(D2 (os2.2 l hll)).trans hlp,rfl,Eg ?_⟩
  generalize hs4:setObj s2 l _=s4
  have n4:s4.next=s2.next:=by rw[← hs4];rfl
  have f4:∀j,j≠l→s4.heap.get j=s2.heap.get j:=fun j hj=>by rw[← hs4,Wx _ hj]
  have l4:Ba s4 l=some { Gl v0 pb p x3 x4 fn x6 x7 mk with state:=.busy }:=by rw[← hs4,C6]
  have hpO1:p ∉ O1:=fun h=>by have:=(IJ p h).1;omega
  have hpO2:p ∉ O2:=fun h=>by have:=Kh p h;omega
  have hlO1:l ∉ O1:=fun h=>by have:=(IJ l h).1;omega
  have hlO2:l ∉ O2:=fun h=>by have:=Kh l h;omega
  have gp4:s4.heap.get p=some (BL x m d vv cv):=by rw[f4 p (by omega),os2.2 p (by omega)];exact gp
  have gc4:s4.heap.get S.next=some (BQ xx (.slice aa nn kk) (.slice bb mm ee)):=by rw[f4 _ (by omega)];exact g3
  have lv:=AI (P:=Tryz.prog) (t:=27) (o:=0+3) (v:=vv) D6 gp4 rfl
  obtain⟨n5,o5,g5⟩:=Bs s4 (R 3 1 false [iv n])
  generalize hs5:newObj s4 (R 3 1 false [iv n])=s5 at *
  have lc:=AI (P:=Tryz.prog) (t:=28) (s:=s5) (i:=p) (o:=0+4) (v:=cv) EN ((o5.2 p (by omega)).trans gp4) rfl
  have lq:=AK (P:=Tryz.prog) (t:=26) (s:=s5) (i:=S.next) BZ Aw ((o5.2 _ (by omega)).trans gc4) rfl
  obtain⟨n6,o6,g6⟩:=Bs s5 (R 26 3 false [.bool xx,.slice aa nn kk,.slice bb mm ee])
  generalize hs6:newObj s5 (R 26 3 false [.bool xx,.slice aa nn kk,.slice bb mm ee])=s6 at *
  have f46:∀j,j<s4.next→s6.heap.get j=s4.heap.get j:=fun j hj=>by rw[o6.2 j (by omega),o5.2 j hj]
  have f06:∀j,j<S.next→j≠l→s6.heap.get j=S.heap.get j:=fun j hj hne=>by rw[f46 j (by omega),f4 j hne,os2.2 j hj]
  have b1':FD 3 1 s6 vv D.length (JG D) O1:=b1.frame (by omega) fun j hj=>f06 j (b1.lt j hj) (fun e=>hlO1 (e▸hj))
  have b2':FD 26 3 s6 cv D.length (Dc D) O2:=b2.frame (by omega) fun j hj=>f06 j (b2.lt j hj) (fun e=>hlO2 (e▸hj))
  have hDl:D.length≤1000000000:=by rw[hdn]at hdl;simpa using hdl
  have r1:s6.heap.get s4.next=some (R 3 1 false [iv n]):=by rw[o6.2 _ (by omega)];exact g5
  obtain⟨v7,s7,O7,happ7,b7,n7,f7,hO7⟩:=HZ Tryz.underlying27 Jm xQ (by decide) P9 Ux (by decide) b1' r1 rfl rfl hDl
  have b2'':FD 26 3 s7 cv D.length (Dc D) O2:=b2'.frame (by omega) fun j hj=>f7 j (b2'.lt j hj) (fun h=>(IJ j h).2 hj)
  have r2:s7.heap.get s5.next=some (R 26 3 false [.bool xx,.slice aa nn kk,.slice bb mm ee]):=by
    rw[f7 _ (by omega) (fun h=>by have:=b1.lt _ h;omega)];exact g6
  obtain⟨v8,s8,O8,happ8,b8,n8,f8,hO8⟩:=HZ Tryz.underlying28 Aw si (by decide) QB Uy (by decide) b2'' r2 rfl rfl hDl
  have b7':FD 3 1 s8 v7 (D.length+1) (JG D++[iv n]) O7:=b7.frame (by omega) fun j hj=>f8 j (b7.lt j hj) (fun h=>by
    rcases hO7 j hj with h' | h'
    · exact(IJ j h').2 h
    · have:=b2'.lt j h;omega)
  have gp7:s7.heap.get p=some (BL x m d vv cv):=by rw[f7 p (by omega) hpO1,f46 p (by omega)];exact gp4
  have gp8:s8.heap.get p=some (BL x m d vv cv):=by rw[f8 p (by omega) hpO2];exact gp7
  have ag1:AB Tryz.prog s7 26 (.ptr (some (S.next,0)))=some (.agg [.bool xx,.slice aa nn kk,.slice bb mm ee]):=AK BZ Aw (by rw[f7 _ (by omega) (fun h=>by have:=b1.lt _ h;omega),f46 _ (by omega)];exact gc4) rfl
  have ag2:AB Tryz.prog s7 28 (.ptr (some (p,0+4)))=some cv:=AI (o:=0+4) EN gp7 rfl
  obtain⟨_,_,ecv,_⟩:=b2.slice
  obtain⟨_,_,ev7,_⟩:=b7.slice
  obtain⟨_,_,ev8,_⟩:=b8.slice
  have st9:=CN (P:=Tryz.prog) (t:=27) (o:=0+3) (v:=v7) xK gp8 (by simp) (by rw[ev7];rfl)
  generalize hs9:setObj s8 p (R 30 0 false ([AV.bool x,m,d,vv,cv].set (0+3) v7))=s9 at st9
  have gp9:s9.heap.get p=some (BL x m d v7 cv):=by rw[← hs9,Ww];rfl
  have f9:∀j,j≠p→s9.heap.get j=s8.heap.get j:=fun j hj=>by rw[← hs9,Wx _ hj]
  have st10:=CN (P:=Tryz.prog) (t:=28) (o:=0+4) (v:=v8) ke gp9 (by simp) (by rw[ev8];rfl)
  generalize hs10:setObj s9 p (R 30 0 false ([AV.bool x,m,d,v7,cv].set (0+4) v8))=s10 at st10
  have gp10:s10.heap.get p=some (BL x m d v7 v8):=by rw[← hs10,Ww];rfl
  have f10:∀j,j≠p→s10.heap.get j=s9.heap.get j:=fun j hj=>by rw[← hs10,Wx _ hj]
  have n9:s9.next=s8.next:=by rw[← hs9];rfl
  have n10:s10.next=s9.next:=by rw[← hs10];rfl
  have fall:∀j,j<s4.next→j ∉ O1→j ∉ O2→j≠p→s10.heap.get j=s4.heap.get j:=fun j hj h1 h2 h3=>by
    rw[f10 j h3,f9 j h3,f8 j (by omega) h2,f7 j (by omega) h1,f46 j hj]
  have l10:Ba s10 l=some { Gl v0 pb p x3 x4 fn x6 x7 mk with state:=.busy }:=by
    rw[D2 (fall l (by omega) hlO1 hlO2 (by omega))];exact l4
  simp only[cQ,mZ,lv,M8,hs5,Xe,lc,lq,GL,hs6,happ7,CE,DE,Qa,Qb,Qc,Qd,Qf,Qh,Qj,Qk,Qm,Qo,true_and,and_true,Qr,Qs,Qt,Qv,Re,Yc,A1n,A1m,A1o]
  refine⟨⟨Au (by simp only[Qj,Qk,Qr,Qs];exact ag1) (CI _ _ _ _ _ _ _),Au (by simp only[Qk,Qr,Qs];exact ag2) (by simp only[Qk,Qr,Qs];rw[ecv];exact A8 _ _ _)⟩,?_⟩
  simp only[happ8,st9,st10,Xy,Za,Qm]
  refine⟨_,l10,hK _ (p::l::(O7++O8)) ⟨?_,?_,v7,v8,D++[(n,q,.agg [.bool xx,.slice aa nn kk,.slice bb mm ee])],O7,O8,?_,?_,?_,rfl,fun j hj=>⟨?_,fun h=>?_⟩,fun j hj=>?_,?_,fun t ht=>?_⟩ ?_ (fun j hj hjO=>?_) (fun j hj=>?_)⟩
  · rw[C6];rfl
  · show l<s10.next;omega
  · rw[Wx _ (by omega)];exact gp10
  · have e:JG (D++[(n,q,AV.agg [.bool xx,.slice aa nn kk,.slice bb mm ee])])=JG D++[iv n]:=by simp[JG]
    rw[e,zg]
    refine b7'.frame (by show s8.next≤s10.next;omega) fun j hj=>?_
    have hjl:l<j:=by
      rcases hO7 j hj with h | h
      · exact(IJ j h).1
      · omega
    rw[Wx _ (by omega),f10 j (by omega),f9 j (by omega)]
  · have e:Dc (D++[(n,q,AV.agg [.bool xx,.slice aa nn kk,.slice bb mm ee])])=Dc D++[.bool xx,.slice aa nn kk,.slice bb mm ee]:=by simp[Dc,AV.cells]
    rw[e,zg]
    refine b8.frame (by show s8.next≤s10.next;omega) fun j hj=>?_
    have hjl:l<j:=by
      rcases hO8 j hj with h | h
      · exact Kh j h
      · omega
    rw[Wx _ (by omega),f10 j (by omega),f9 j (by omega)]
  · rcases hO7 j hj with h | h
    · exact(IJ j h).1
    · omega
  · rcases hO7 j hj with h' | h'
    · rcases hO8 j h with h2 | h2
      · exact(IJ j h').2 h2
      · have:=b1.lt j h';omega
    · rcases hO8 j h with h2 | h2
      · have:=b2.lt j h2;omega
      · have:=b7.lt j hj;omega
  · rcases hO8 j hj with h | h
    · exact Kh j h
    · omega
  · rw[hdn];simp
  · rcases A1V.1             ht with ht | ht
    · exact hDT t ht
    · rw[A1d.1 ht];exact hmem
  · show S.next≤s10.next;omega
  · have h1 : j ∉ O1 := fun h => hjO (by rw [hO]; simp [h])
    have h2:j ∉ O2:=fun h=>hjO (by rw[hO];simp[h])
    have h3:j≠p:=fun h=>hjO (by rw[hO,h];simp)
    have h4:j≠l:=fun h=>hjO (by rw[hO,h];simp)
    rw[Wx _ h4,fall j (by omega) h1 h2 h3,f4 j h4,os2.2 j hj]
  · rw [hO]
    rcases List.mem_cons.1 hj with rfl | hj
    · exact .inl (by simp)
    · rcases List.mem_cons.1 hj with rfl | hj
      · exact .inl (by simp)
      · rcases A1V.1             hj with hj | hj
        · rcases hO7 j hj with h | h
          · exact .inl (by simp[h])
          · exact .inr (by omega)
        · rcases hO8 j hj with h | h
          · exact .inl (by simp[h])
          · exact .inr (by omega)
end
def LR(b:Nat)(s:AE)(v:AV)(C:Rat)(L:List (Int×Rat)):Prop:=∃x a n ca d m cd vv cv D O1 O2,
 v=.agg [.bool x,.slice a n ca,.slice d m cd,vv,cv]∧QR b s (.agg [.bool x,.slice a n ca,.slice d m cd]) C∧L=(D.map fun t=>(t.1,t.2.1)) ∧
 (∀t∈D,QR b s t.2.2 t.2.1∧i64 t.1∧YE (.agg [.bool x,.slice a n ca,.slice d m cd]) t.2.2)∧(D.Pairwise fun t u=>YE t.2.2 u.2.2) ∧
 FD 3 1 s vv D.length (JG D) O1∧FD 26 3 s cv D.length (Dc D) O2∧(∀j∈O1,b≤j∧j ∉ O2)∧(∀j∈O2,b≤j) ∧
 ∃l0,(∀j∈O1,l0≤j)∧(∀j∈O2,l0≤j)∧(∀j∈Dg (.agg [.bool x,.slice a n ca,.slice d m cd]),j<l0)∧∀t∈D,∀j∈Dg t.2.2,j<l0
theorem WM{Rl:CW→CW→Prop}(hs:∀t u,Rl t u→Rl u t):∀ {T:List CW},T.Pairwise Rl→∀t∈T,∀u∈T,t≠u→Rl t u
  | [],_,t,ht,_,_,_=>by cases ht
  | x::T,h,t,ht,u,hu,hne=>by
    obtain⟨h1,h2⟩:=List.pairwise_cons.1 h
    rcases List.mem_cons.1 ht with e1 | ht'
    · rcases List.mem_cons.1 hu with e2 | hu'
      · exact absurd (e1.trans e2.symm) hne
      · rw[e1];exact h1 u hu'
    · rcases List.mem_cons.1 hu with e2 | hu'
      · rw[e2];exact hs _ _ (h1 t ht')
      · exact WM hs h2 t ht' u hu' hne
theorem Kl{l:List Int}(h:l.Nodup):(Dk l).Nodup:=(Dv l).nodup_iff.2 h
theorem Tz{T:List CW}(h:(BD T).Nodup):((FS T).map (·.1)).Nodup:=by
 have h1:((Dk (BD T)).map fun n=>(n,Cd n T)).map (·.1)=Dk (BD T):=by rw[A0q];exact List.map_id _
 have h2:((FS T).map (·.1)).Sublist (Dk (BD T)):=by
  rw[← h1]
  exact List.Sublist.map _ List.filter_sublist
 exact h2.nodup (Kl h)
theorem gR{T D:List CW}(h:T.Pairwise fun t u=>YE t.2.2 u.2.2)(hD:∀t∈D,t∈T)(hn:(D.map (·.1)).Nodup):D.Pairwise fun t u=>YE t.2.2 u.2.2:=by
 induction D with
 | nil=>exact .nil
 | cons t D ih =>
  obtain⟨h1,h2⟩:=List.nodup_cons.1 (show(t.1::D.map (·.1)).Nodup from hn)
  refine List.pairwise_cons.2 ⟨fun u hu=>?_,ih (fun u hu=>hD u (A0B _ hu)) h2⟩
  refine WM (fun t u h=>h.symm) h t (hD t zs) u (hD u (A0B _ hu)) ?_
  rintro rfl
  exact h1 (List.mem_map.2 ⟨t,hu,rfl⟩)
theorem ED:Ag Tryz.prog 30=some (BL false (.slice none 0 (some 0)) (.slice none 0 (some 0)) (.slice none 0 (some 0)) (.slice none 0 (some 0)),.ptr):=by kernel_rfl
section
variable{E:CR}{s:AE}
theorem ud(hE:G7 E){b mi k:Nat}{v:AV}{c:Rat}{T:List CW}(hv:PV b s v mi c T k)(hb:b≤s.next)(hk:k≤1000000000)(hTl:T.length≤1000000){K:AV→AE→Prop}
  (hK:∀s' w,Aa s.next s s'→LR b s' w c (FS T)→K w s'):WF E 33 [v] K s:=by
 obtain⟨x,a,n,ca,d,m,cd,rfl,hP⟩:=hv
 refine hE.go tS (by decide) rfl ?_
 obtain⟨n1,o1,g1,g2⟩:=EK s (BP x (.slice a n ca) (.slice d m cd) mi) (BL false (.slice none 0 (some 0)) (.slice none 0 (some 0)) (.slice none 0 (some 0)) (.slice none 0 (some 0)))
 simp only[yR,mU,mV,Xa,Xh,ED,Xc,Ak,PW,HJ,Qa,Qb,Qc,Qd,Qf,Qh,Qj,Qk,Ql,Qm,Qo,true_and,Qp,Qq,Qr,Qs,Qt,Qv,Rb,Rh,A1q,A1r,A1n,A1m,A1o]
 generalize newObj (newObj s (BP x (.slice a n ca) (.slice d m cd) mi)) (BL false (.slice none 0 (some 0)) (.slice none 0 (some 0)) (.slice none 0 (some 0)) (.slice none 0 (some 0)))=s1 at *
 have l1:AB Tryz.prog s1 26 (.ptr (some (s.next,0+0)))=some (.agg [.bool x,.slice a n ca,.slice d m cd]):=Al (o:=0) (n:=3) BZ Aw g1 (by simp)
 have st:AO Tryz.prog s1 26 (.ptr (some (s.next+1,0+0))) (.agg [.bool x,.slice a n ca,.slice d m cd])=some (setObj s1 (s.next+1) (BL x (.slice a n ca) (.slice d m cd) (.slice none 0 (some 0)) (.slice none 0 (some 0)))):=NM (off:=0) Aw g2 rfl (by simp) rfl (by simp)
 generalize hs2:setObj s1 (s.next+1) (BL x (.slice a n ca) (.slice d m cd) (.slice none 0 (some 0)) (.slice none 0 (some 0)))=s2 at st
 have n2:s2.next=s1.next:=by rw[← hs2];rfl
 have o2:Aa s.next s s2:=by rw[← hs2];exact o1.set (by omega) _
 have k1:s2.heap.get s.next=some (BP x (.slice a n ca) (.slice d m cd) mi):=by rw[← hs2,Wx _ (by omega)];exact g1
 have k2:s2.heap.get (s.next+1)=some (BL x (.slice a n ca) (.slice d m cd) (.slice none 0 (some 0)) (.slice none 0 (some 0))):=by rw[← hs2,Ww]
 have l2:=AK (P:=Tryz.prog) (t:=56) QL K8 k1 rfl
 simp only[mW,l1,st,l2,Xy,Za,Qb,Qc,Qd,Qf,Qh,Qj,Qk,Qm,Qo,true_and,Qr,Qs,Qt,Qv,A1m]
 refine YM hE.toGoodN fun s3 n3 o3 g3=>?_
 have k3:=(o3.2 (s.next+1) (by omega)).trans k2
 simp only[Qd,Qo,true_and,Qp,Qq]
 refine WC.range rfl ?_
 show WF E 77 [.yield (s3.next+1),.ptr (some (s2.next,0))] _ (newObj (newObj s3 .mark) (.loop (Gl _ s.next (s.next+1) _ _ _ _ _ s3.next)))
 generalize hlo:Gl _ s.next (s.next+1) _ _ _ _ _ s3.next=lo
 have hm1:(newObj s3 .mark).next=s3.next+1:=rfl
 generalize hs5:newObj (newObj s3 .mark) (.loop lo)=s5
 have n5:s5.next=s3.next+2:=by rw[← hs5];rfl
 have f5:∀j,j<s3.next→s5.heap.get j=s3.heap.get j:=fun j hj=>by rw[← hs5,AU,if_neg (by omega),AU,if_neg (by omega)]
 have hmk5:s5.heap.get s3.next=some .mark:=by rw[← hs5,AU,if_neg (by omega),AU,if_pos rfl]
 have hlp5:Ba s5 (s3.next+1)=some lo:=by
  unfold Ba
  rw[← hs5,AU,if_pos hm1.symm]
 have o35:Aa s3.next s3 s5:=⟨by omega,f5⟩
 have o25:Aa s2.next s2 s5:=o3.trans (o35.mono o3.1)
 have o05:Aa s.next s s5:=o2.trans (o25.mono o2.1)
 refine U8 hE (sA:=s) (pb:=s2.next) (l:=s3.next+1) hP.map hk hTl o05 ((f5 _ (by omega)).trans g3) (by omega) (O0:=[s.next+1,s3.next+1]) (by simp;omega) (fun j hj=>by simp at hj;omega)
  (QG lo (s.next+1) (s3.next+1) T x (.slice a n ca) (.slice d m cd)) (fun done O S S' h o=>h.stab (by omega) o) (fun done O S h=>h.olt (by omega)) (fun done n' q vq O S K2 hI hoS hq hmem hdl hK2=>?_)
  ⟨hlp5,by omega,_,_,[],[],[],(f5 _ (by omega)).trans k3,FD.nil _ _ _,FD.nil _ _ _,rfl,fun j hj=>(by cases hj),fun j hj=>(by cases hj),rfl,fun t ht=>by cases ht⟩ fun v S O hoS hnS hfS hI=>?_
 ·subst hlo
  exact XP hE.toGoodN (by omega) hTl (by omega) hI hmem ((hP.map.old hoS).ent _ hmem).1 hK2
 obtain⟨hlp,hll,vv,cv,D,O1,O2,gp,b1,b2,hO,IJ,Kh,hdn,hDT⟩:=hI
 refine⟨lo,hlp,by rw[← hlo];rfl,?_⟩
 have hpd:lo.pending=none:=by rw[← hlo];rfl
 rw[hpd]
 generalize hs6:setObj S (s3.next+1) _=s6
 have n6:s6.next=S.next:=by rw[← hs6];rfl
 have f6:∀j,j≠s3.next+1→s6.heap.get j=S.heap.get j:=fun j hj=>by rw[← hs6,Wx _ hj]
 have g6:s6.heap.get (s.next+1)=some (BL x (.slice a n ca) (.slice d m cd) vv cv):=by rw[f6 _ (by omega)];exact gp
 have l6:=AK (P:=Tryz.prog) (t:=30) D7 Do g6 rfl
 obtain⟨av,capv,evv,_⟩:=b1.slice
 obtain⟨ac,capc,ecv,_⟩:=b2.slice
 have st6:=Ai (P:=Tryz.prog) (t:=30) (cs:=[.bool x,.slice a n ca,.slice d m cd,vv,cv]) Do g6 rfl rfl (by rw[evv,ecv];rfl) (by simp)
 generalize hs7:setObj s6 (s.next+1) (R 30 0 false [.bool x,.slice a n ca,.slice d m cd,vv,cv])=s7 at st6
 have f7:∀j,j≠s.next+1→s7.heap.get j=s6.heap.get j:=fun j hj=>by rw[← hs7,Wx _ hj]
 have g7:s7.heap.get (s.next+1)=some (BL x (.slice a n ca) (.slice d m cd) vv cv):=by rw[← hs7,Ww]
 have n7:s7.next=s6.next:=by rw[← hs7];rfl
 have hmk7:s7.heap.get s3.next=some .mark:=by rw[f7 _ (by omega),f6 _ (by omega),hfS _ (by omega) (by simp;omega)];exact hmk5
 obtain⟨s8,u1,u2,u3⟩:=GQ [s3.next] s7 (by simp) (fun m h=>by rw[A1d.1 h];exact hmk7)
 have u3':∀j,j≠s3.next→s8.heap.get j=s7.heap.get j:=fun j hj=>u3 j (by simpa using hj)
 have l8:=AK (P:=Tryz.prog) (t:=30) D7 Do ((u3' (s.next+1) (by omega)).trans g7) rfl
 simp only[Lf,mc,l6,st6,u1,l8,AM,Xy,Za,Qb,Qc,Qd,Qf,Qh,Qj,Qk,Qm,Qo,true_and,Qr,Qs,Qt,Qv,Rb,Re,Rk,Rn,Yc,A1m,A1o]
 have hs1:=hoS.1
 have oend:Aa s.next s s8:=⟨by omega,fun j hj=>by rw[u3' j (by omega),f7 j (by omega),f6 j (by omega),hoS.2 j hj]⟩
 have hP8:=hP.old oend
 have hnd:(D.map (·.1)).Nodup:=by
  have:=Tz hP.map.nd
  rw[hdn,A0q]at this
  exact this
 have hkeep:∀j,s3.next+1<j→s8.heap.get j=S.heap.get j:=fun j hj=>by rw[u3' j (by omega),f7 j (by omega),f6 j (by omega)]
 exact hK s8 _ oend ⟨x,a,n,ca,d,m,cd,vv,cv,D,O1,O2,rfl,hP8.cq,hdn,fun t ht=>⟨(hP8.map.ent t (hDT t ht)).1,(hP8.map.ent t (hDT t ht)).2.2,hP8.dj t (hDT t ht)⟩,gR hP8.map.dj hDT hnd,b1.frame (by omega) fun j hj=>hkeep j (IJ j hj).1,b2.frame (by omega) fun j hj=>hkeep j (Kh j hj),
  fun j hj=>⟨by have:=(IJ j hj).1;omega,(IJ j hj).2⟩,fun j hj=>by have:=Kh j hj;omega,
  s.next,fun j hj=>by have:=(IJ j hj).1;omega,fun j hj=>by have:=Kh j hj;omega,fun j hj=>(hP.cq.slots hj).2,fun t ht j hj=>((hP.map.ent t (hDT t ht)).1.slots hj).2⟩
end
theorem FD.capZ{e sz:Nat}{s:AE}{v:AV}{n:Nat}{cs:List AV}{O:List Nat}(h:FD e sz s v n cs O):∃a cap,v=.slice a n cap∧AS s.next s a cs∧EB sz s a cap n:=by
 rcases h with⟨rfl,rfl,rfl,_⟩ | ⟨i,p,rfl,h,_⟩
 ·exact⟨none,some 0,rfl,AS.nil,.inl ⟨0,rfl,zU _,fun _=>rfl⟩⟩
 ·obtain⟨a,cap,e,hc⟩:=h.cells
  injection e with e1 e2 e3
  subst e1;subst e3
  refine⟨_,_,rfl,hc,.inr ⟨rfl,i,0,?_⟩⟩
  rcases h.ex with⟨e',_⟩ | ⟨_,_,k2,_,r,k4,k5,_,_,k8,_⟩
  ·cases e'
  ·exact⟨r,rfl,k2,k4,k8,by rw[k5.1,h.len];omega⟩
theorem Hy:∀ (D:List CW),(∀t∈D,t.2.2.cells.length=3)→(Dc D).length=D.length * 3∧∀ (i:Nat)(t:CW),D[i]? = some t→((Dc D).drop (i * 3)).take 3=t.2.2.cells
 | [],_=>⟨rfl,fun i t h=>by cases h⟩
 | u::D,hl=>by
  obtain⟨h1,h2⟩:=Hy D fun t ht=>hl t (A0B _ ht)
  have hu:=hl u zs
  have e:Dc (u::D)=u.2.2.cells++Dc D:=by simp[Dc]
  rw[e]
  refine⟨by rw[zg,h1,hu,A0G];omega,fun i t hi=>?_⟩
  cases i with
  | zero =>
   cases hi
   rw[A0b,A0d,List.take_left' hu]
  | succ i =>
   rw[show(i+1) * 3=u.2.2.cells.length+i * 3 by rw[hu];omega,List.drop_append,A0D (by omega),A0y,Nat.add_sub_cancel_left]
   exact h2 i t hi
theorem LI.shape{s:AE}{v:AV}{C:Rat}{vs:List Int}{cs:List Rat}{k:Nat}(h:LI s v C vs cs k):∃x a n c b m d av nv capv ac nc capc,v=.agg [.bool x,.slice a n c,.slice b m d,.slice av nv capv,.slice ac nc capc]:=by
 obtain⟨x,a,n,c,b,m,d,av,capv,ac,capc,cells,rfl,_⟩:=h
 exact⟨_,_,_,_,_,_,_,_,_,_,_,_,_,rfl⟩
theorem LR.shape{b:Nat}{s:AE}{v:AV}{C:Rat}{L:List (Int×Rat)}(h:LR b s v C L):∃x a n c b m d av nv capv ac nc capc,v=.agg [.bool x,.slice a n c,.slice b m d,.slice av nv capv,.slice ac nc capc]:=by
 obtain⟨x,a,n,ca,d,m,cd,vv,cv,D,O1,O2,rfl,_,_,_,_,b1,b2,_⟩:=h
 obtain⟨av,capv,rfl,_⟩:=b1.slice
 obtain⟨ac,capc,rfl,_⟩:=b2.slice
 exact⟨_,_,_,_,_,_,_,_,_,_,_,_,_,rfl⟩
theorem LR.set{b i:Nat}{s:AE}{v:AV}{C:Rat}{L:List (Int×Rat)}(h:LR b s v C L)(hi:i<b)(o:BF):LR b (setObj s i o) v C L:=by
 obtain⟨x,a,n,ca,d,m,cd,vv,cv,D,O1,O2,h1,hq,hL,hD,hp,b1,b2,h3,h4,h5⟩:=h
 exact⟨x,a,n,ca,d,m,cd,vv,cv,D,O1,O2,h1,hq.set hi o,hL,fun t ht=>⟨(hD t ht).1.set hi o,(hD t ht).2⟩,hp,b1.frame (zU _) fun j hj=>Wx _ (by have:=(h3 j hj).1;omega),b2.frame (zU _) fun j hj=>Wx _ (by have:=h4 j hj;omega),h3,h4,h5⟩
theorem LR.mono{b b':Nat}{s:AE}{v:AV}{C:Rat}{L:List (Int×Rat)}(h:LR b s v C L)(hb:b'≤b):LR b' s v C L:=by
 obtain⟨x,a,n,ca,d,m,cd,vv,cv,D,O1,O2,h1,hq,hL,hD,hp,b1,b2,h3,h4,h5⟩:=h
 exact⟨x,a,n,ca,d,m,cd,vv,cv,D,O1,O2,h1,hq.mono hb,hL,fun t ht=>⟨(hD t ht).1.mono hb,(hD t ht).2⟩,hp,b1,b2,fun j hj=>⟨zY hb (h3 j hj).1,(h3 j hj).2⟩,fun j hj=>zY hb (h4 j hj),h5⟩
theorem G3.len{o:Rat}{vs:List Int}{cs:List Rat}{T T':List CW}(h:G3 o vs cs T T'):T'.length≤T.length+min cs.length vs.length:=by
 induction h with
 | nil1 cs T=>omega
 | nil2 vs T=>omega
 | @cons n c vs cs T T' w h ih =>
  have:=WB (n:=n) (q:=Cd n T+c * o) (v:=w) (T:=T)
  simp only[A0G]
  omega
abbrev ZL:BF:=BL false (.slice none 0 (some 0)) (.slice none 0 (some 0)) (.slice none 0 (some 0)) (.slice none 0 (some 0))
abbrev ZP:BF:=R 56 0 false [.bool false,.slice none 0 (some 0),.slice none 0 (some 0),.map none]
theorem Bz{s2:AE}{p:Nat}{cs0:List AV}(h0:cs0.length=5){x:Bool}{a b av ac:Option (Nat×Nat)}{n m nv nc:Nat}{c d cv cc:Option Nat}(hg:s2.heap.get p=some (R 30 0 false cs0)):
  AO Tryz.prog s2 30 (.ptr (some (p,0))) (.agg [.bool x,.slice a n c,.slice b m d,.slice av nv cv,.slice ac nc cc])=some (setObj s2 p (BL x (.slice a n c) (.slice b m d) (.slice av nv cv) (.slice ac nc cc)))∧AB Tryz.prog (setObj s2 p (BL x (.slice a n c) (.slice b m d) (.slice av nv cv) (.slice ac nc cc))) 30 (.ptr (some (p,0)))=some (.agg [.bool x,.slice a n c,.slice b m d,.slice av nv cv,.slice ac nc cc]):=
 ⟨Ai Do hg h0 rfl rfl (by simp),AK D7 Do (Ww _ _ _) rfl⟩
theorem Q2{s2:AE}{p:Nat}{cs0:List AV}(h0:cs0.length=4){x:Bool}{a b:Option (Nat×Nat)}{n m mi:Nat}{c d:Option Nat}(hg:s2.heap.get p=some (R 56 0 false cs0)):
  AO Tryz.prog s2 56 (.ptr (some (p,0))) (.agg [.bool x,.slice a n c,.slice b m d,.map (some mi)])=some (setObj s2 p (BP x (.slice a n c) (.slice b m d) mi)):=Ai K8 hg h0 rfl rfl (by simp)
theorem fB{n:Int}{T:List CW}(h:(BD T).Nodup):(BD (FT n T)).Nodup:=((Ho n T).map (fun t:CW=>t.1)).nodup h
theorem jq(n:Int)(T:List CW):(FT n T).length≤T.length:=(Ho n T).length_le
def iS(n:Int)(C2:Rat)(vs2:List Int)(cs2:List Rat)(C:Rat)(T:List CW)(C':Rat)(T':List CW):Prop:=
 (E8 n T=none∧C'=C∧T'=T)∨(E8 n T≠none∧C'=C+C2 * Cd n T∧G3 (Cd n T) vs2 cs2 (FT n T) T')
section
variable{E:CR}{s:AE}
theorem uo     (hE : G7    E) {va vb : AV} {C C2 : Rat} {vs vs2 : List Int} {cs cs2 : List Rat} {ka kb : Nat} {n : Int} (hn : i64 n) (ha : LI s va C vs cs ka) (hb' : LI s vb C2 vs2 cs2 kb) (hka : 1 ≤ ka) (hkb : 1 ≤ kb) {M N k1 k2 : Nat} (hM : min cs.length vs.length = M) (hN : min cs2.length vs2.length = N)
    (hk1:k1=1+(M+1) * (ka+2)) (hk2:k2=k1+(N+1) * (kb+k1+1)) (hb:2 * (k2+(ka+2)+(kb+k1+1))+1≤1000000) {K:AV→AE→Prop}
    (hK:∀s' w T0 C' T,Aa s.next s s'→LR s.next s' w C' (FS T)→G3 1 vs cs [] T0→iS n C2 vs2 cs2 C T0 C' T→QH C' k2→(∀t∈T,QH t.2.1 k2)→(BD T).Nodup→(BD T0).Nodup→K w s'):WF E 10 [va,iv n,vb] K s:=by
  have ha0:=ha
  have hb0:=hb'
  obtain⟨x1,a1,n1,c1,b1,m1,d1,av,nv,cv,ac,nc,cc,ea⟩:=ha.shape
  obtain⟨x2,a2,n2,c2,b2,m2,d2,av2,nv2,cv2,ac2,nc2,cc2,eb⟩:=hb'.shape
  subst ea;subst eb
  have hMb:M+1≤(M+1) * (ka+2):=A1i _ (by omega)
  have hM2:(M+2) * (ka+2)=(M+1) * (ka+2)+(ka+2):=zz _ _
  have hNb:N+1≤(N+1) * (kb+k1+1):=A1i _ (by omega)
  have hN2:(N+2) * (kb+k1+1)=(N+1) * (kb+k1+1)+(kb+k1+1):=zz _ _
  refine hE.go tJ (by decide) rfl ?_
  obtain⟨n3,o1,g1,g2,g3⟩:=HV s (BL x1 (.slice a1 n1 c1) (.slice b1 m1 d1) (.slice av nv cv) (.slice ac nc cc)) (BL x2 (.slice a2 n2 c2) (.slice b2 m2 d2) (.slice av2 nv2 cv2) (.slice ac2 nc2 cc2)) ZL
  simp only[yI,lI,lJ,Xa,Xh,ED,Xc,Ak,Qa,Qb,Qc,Qd,Qf,Qh,Qj,Qk,Ql,Qm,Qo,true_and,Qp,Qq,Qr,Qs,Qt,Qv,Rb,Rc,Rh,A1q,A1r,A1m,A1u,A1o]
  generalize newObj (newObj (newObj s (BL x1 (.slice a1 n1 c1) (.slice b1 m1 d1) (.slice av nv cv) (.slice ac nc cc))) (BL x2 (.slice a2 n2 c2) (.slice b2 m2 d2) (.slice av2 nv2 cv2) (.slice ac2 nc2 cc2))) ZL=s1 at *
  have l1:=AK (P:=Tryz.prog) (t:=30) D7 Do g1 rfl
  simp only[l1,Qm]
  refine sM hE.toGoodN (ha0.old o1) hka (by rw[hM];omega) fun s2 v2 mi T0 o2 r2 hT0=>?_
  rw[hM,← hk1]at r2
  have h2:=o2.1
  have hTl0:=hT0.len
  rw[hM]at hTl0
  simp only[A1R]at hTl0
  obtain⟨x,a,nn,ca,d,m,cd,rfl,hP⟩:=r2
  obtain⟨n4,o3,g4⟩:=Bs s2 ZP
  have st:=Q2 (cs0:=[.bool false,.slice none 0 (some 0),.slice none 0 (some 0),.map none]) rfl (x:=x) (a:=a) (n:=nn) (c:=ca) (b:=d) (m:=m) (d:=cd) (mi:=mi) g4
  simp only[I1,Xc,st,Xy,Za,Qd,Qm,Qo,true_and,Qp,Qq,Qr,Qs]
  generalize hs4:setObj (newObj s2 ZP) s2.next (BP x (.slice a nn ca) (.slice d m cd) mi)=s4
  have o24:Aa s2.next s2 s4:=by rw[← hs4];exact o3.set (zU _) _
  have n5:s4.next=s2.next+1:=by rw[← hs4];exact n4
  have k4:s4.heap.get s2.next=some (BP x (.slice a nn ca) (.slice d m cd) mi):=by rw[← hs4,Ww]
  have o12:=o1.trans (o2.mono o1.1)
  have o14:=o12.trans (o24.mono o12.1)
  have hP4:=hP.old o24
  have hmlo:=hP.map.lo
  have hmlt:=hP.map.lt
  have kk2:=(o24.2 (s.next+1) (by omega)).trans ((o2.2 (s.next+1) (by omega)).trans g2)
  have kk3:=(o24.2 (s.next+1+1) (by omega)).trans ((o2.2 (s.next+1+1) (by omega)).trans g3)
  have lm:=AI (P:=Tryz.prog) (t:=54) (o:=0+3) TF k4 rfl
  have lk:=SC hP4.map.obj hn
  obtain⟨n6,o6,g6⟩:=Bs s4 ZQ
  simp only[lK,lm,lk,Zb,Bh,Xc,J7,Xy,Qb,Qc,Qd,Qf,Qh,Qj,Qk,Qm,Qo,true_and,Qp,Qq,Qr,Qs,Qt,Qv,Zb,Yd,Ye,A1n,A1m,A1r,A1o,A1p]
  have fin:∀ (s6:AE) (x':Bool) (a' d':Option (Nat×Nat)) (n' m':Nat) (c'' e':Option Nat) (C':Rat) (T':List CW),Aa s.next s s6→s1.next≤s6.next→s6.heap.get (s.next+1+1)=some ZL→FO s1.next s6 (.agg [.bool x',.slice a' n' c'',.slice d' m' e']) mi C' T' k2→T'.length≤M+N→iS n C2 vs2 cs2 C T0 C' T'→∀K2:AV→AE→Prop,
      (∀s7 x7 a7 n7 c7 b7 m7 d7 av7 nv7 cv7 ac7 nc7 cc7,AO Tryz.prog s7 30 (.ptr (some (s.next+1+1,0))) (.agg [.bool x7,.slice a7 n7 c7,.slice b7 m7 d7,.slice av7 nv7 cv7,.slice ac7 nc7 cc7])=some (setObj s7 (s.next+1+1) (BL x7 (.slice a7 n7 c7) (.slice b7 m7 d7) (.slice av7 nv7 cv7) (.slice ac7 nc7 cc7))) →
        AB Tryz.prog (setObj s7 (s.next+1+1) (BL x7 (.slice a7 n7 c7) (.slice b7 m7 d7) (.slice av7 nv7 cv7) (.slice ac7 nc7 cc7))) 30 (.ptr (some (s.next+1+1,0)))=some (.agg [.bool x7,.slice a7 n7 c7,.slice b7 m7 d7,.slice av7 nv7 cv7,.slice ac7 nc7 cc7]) →
        K (.agg [.bool x7,.slice a7 n7 c7,.slice b7 m7 d7,.slice av7 nv7 cv7,.slice ac7 nc7 cc7]) (setObj s7 (s.next+1+1) (BL x7 (.slice a7 n7 c7) (.slice b7 m7 d7) (.slice av7 nv7 cv7) (.slice ac7 nc7 cc7))) →
        K2 (.agg [.bool x7,.slice a7 n7 c7,.slice b7 m7 d7,.slice av7 nv7 cv7,.slice ac7 nc7 cc7]) s7) →
      WF E 33 [.agg [.bool x',.slice a' n' c'',.slice d' m' e',.map (some mi)]] K2 s6:=by
    intro s6 x' a' d' n' m' c'' e' C' T' os6 hs6 gz hP6 hTl6 hPut K2 hK2
    refine ud hE (b:=s1.next) ⟨_,_,_,_,_,_,_,rfl,hP6⟩ (by omega) (by omega) (by omega) fun s7 w o7 r7=>?_
    obtain⟨x7,a7,n7,c7,b7,m7,d7,av7,nv7,cv7,ac7,nc7,cc7,rfl⟩:=r7.shape
    have g7:s7.heap.get (s.next+1+1)=some ZL:=by rw[o7.2 _ (by omega)];exact gz
    obtain⟨st8,ld8⟩:=Bz (cs0:=[.bool false,.slice none 0 (some 0),.slice none 0 (some 0),.slice none 0 (some 0),.slice none 0 (some 0)]) rfl (x:=x7) (a:=a7) (n:=n7) (c:=c7) (b:=b7) (m:=m7) (d:=d7) (av:=av7) (nv:=nv7) (cv:=cv7) (ac:=ac7) (nc:=nc7) (cc:=cc7) g7
    exact hK2 _ _ _ _ _ _ _ _ _ _ _ _ _ _ st8 ld8 (hK _ _ T0 C' T' ((os6.trans (o7.mono os6.1)).set (by omega) _) ((r7.set (by omega) _).mono (by omega)) hT0 hPut hP6.ch (fun t ht=>(hP6.map.ent t ht).2.1) hP6.map.nd hP.map.nd)
  cases hg:E8 n T0 with
  | none =>
    have st6:=Ai (P:=Tryz.prog) (t:=26) (cs:=[.bool false,.slice none 0 (some 0),.slice none 0 (some 0)]) Aw g6 rfl rfl rfl (by simp)
    generalize hs7:setObj (newObj s4 ZQ) s4.next (R 26 0 false [.bool false,.slice none 0 (some 0),.slice none 0 (some 0)])=s7 at st6
    have o47:Aa s4.next s4 s7:=by rw[← hs7];exact o6.set (zU _) _
    have l7:=AK (P:=Tryz.prog) (t:=56) QL K8 ((o47.2 s2.next (by omega)).trans k4) rfl
    have h47:=o47.1
    simp only[Option.isSome,ZJ,lL,st6,l7,We,Bool.not_false,Za,Qb,Qc,Qd,Qf,Qh,Qj,Qk,Qm,Qo,true_and,Qp,Qq,Qr,Qs,Qt,Qv,Qz,Rj,Yb,We,A1m,A1u,A1o]
    refine fin s7 x a d nn m ca cd C T0 (o14.trans (o47.mono o14.1)) (by omega) ((o47.2 _ (by omega)).trans kk3) ((hP4.old o47).le (by omega)) (by omega) (.inl ⟨hg,rfl,rfl⟩) _ fun s7 x7 a7 n7 c7 b7 m7 d7 av7 nv7 cv7 ac7 nc7 cc7 st8 ld8 hk8=>?_
    simp only[st8,ld8,AM,Xy,Qd,Qj,Qm,Qo,true_and,Qr,Qs,Rk,Rn,Yc]
    exact hk8
  | some pq =>
    have hmem:=F7 hg
    obtain⟨e1,e2,_⟩:=hP4.map.ent _ hmem
    simp only at e1 e2
    have hval:Cd n T0=pq.1:=by unfold Cd;rw[hg]
    obtain⟨xx,aa,nq,kk,bb,mm,ee,hce⟩:=e1.shape
    have st6:=Ai (P:=Tryz.prog) (t:=26) (cs:=[.bool xx,.slice aa nq kk,.slice bb mm ee]) Aw g6 rfl rfl rfl (by simp)
    rw[← hce]at st6
    generalize hs7:setObj (newObj s4 ZQ) s4.next (R 26 0 false [.bool xx,.slice aa nq kk,.slice bb mm ee])=s7 at st6
    have o47:Aa s4.next s4 s7:=by rw[← hs7];exact o6.set (zU _) _
    have h47:=o47.1
    have n7:s7.next=s4.next+1:=by rw[← hs7];exact n6
    have g7:s7.heap.get s4.next=some (BQ xx (.slice aa nq kk) (.slice bb mm ee)):=by rw[← hs7,Ww]
    have k7:=(o47.2 s2.next (by omega)).trans k4
    have hP7:=hP4.old o47
    have lm7:=AI (P:=Tryz.prog) (t:=54) (o:=0+3) TF k7 rfl
    have dl:=fC hP7.map.obj hn (by rw[hg];simp)
    generalize hs8:setObj s7 mi (.map 3 (G1 (FT n T0)))=s8 at dl
    have n8:s8.next=s7.next:=by rw[← hs8];rfl
    have f8:∀j,j≠mi→s8.heap.get j=s7.heap.get j:=fun j hj=>by rw[← hs8,Wx _ hj]
    have hu8:∀j,j<s7.next→YG s7 j→s8.heap.get j=s7.heap.get j:=fun j _ hj=>f8 j (Fi hP7.map.obj hj)
    have ho8:s8.heap.get mi=some (.map 3 (G1 (FT n T0))):=by rw[← hs8,Ww]
    have hP8:FO s1.next s8 (.agg [.bool x,.slice a nn ca,.slice d m cd]) mi C (FT n T0) k1:=
      ⟨hP7.cq.keepS (A0L n8.symm) hu8,hP7.ch,⟨ho8,hP7.map.lo,by rw[n8];exact hP7.map.lt,fun t ht=>by
        have ht':=(Ho n T0).subset ht
        obtain⟨q1,q2⟩:=hP7.map.ent t ht'
        exact⟨q1.keepS (A0L n8.symm) hu8,q2⟩,fB hP7.map.nd,hP7.map.dj.sublist (Ho n T0)⟩,fun t ht=>hP7.dj t ((Ho n T0).subset ht)⟩
    have e8:QR s1.next s8 pq.2 pq.1:=(e1.old o47).keepS (A0L n8.symm) hu8
    have k8:=(f8 s2.next (by omega)).trans k7
    have l8:=AK (P:=Tryz.prog) (t:=30) D7 Do ((f8 (s.next+1) (by omega)).trans ((o47.2 _ (by omega)).trans kk2)) rfl
    have l9:=AK (P:=Tryz.prog) (t:=26) BZ Aw ((f8 s4.next (by omega)).trans g7) rfl
    rw[← hce]at l9
    have o18:Aa s1.next s1 s8:=by
      have:Aa s1.next s1 s7:=o2.trans ((o24.trans (o47.mono o24.1)).mono o2.1)
      exact⟨by have:=this.1;omega,fun j hj=>by rw[f8 j (by omega),this.2 j hj]⟩
    have os8:=o1.trans (o18.mono o1.1)
    simp only[Option.isSome,ZJ,lM,lN,st6,lm7,dl,l8,l9,We,Bool.not_true,J7,Xy,Za,Qb,Qc,Qd,Qf,Qh,Qj,Qk,Qm,Qo,true_and,Qp,Qq,Qr,Qs,Qt,Qv,Ra,Rj,Ya,We,A1n,A1m,A1u]
    refine U5 hE.toGoodN (b:=s1.next) (p:=s2.next) (kl:=kb) (ko:=k1) (k:=k1) k8 (by omega) (by omega) hP8 (fun S f=>hb0.old (os8.trans (f.old (by omega) (by omega) (by omega)))) (fun S f=>(e8.fx k8 (by decide) ho8 f).qi e2) (by omega) hkb (by omega) (by rw[hN];omega) fun r s9 x' a' n' c'' d' m' e' T' f9 g9 hP9 hT=>?_
    have h9:=f9.1
    rw[hN,← hk2]at hP9
    have hTl:=hT.len
    rw[hN]at hTl
    have hdl:=jq n T0
    have l10:=AK (P:=Tryz.prog) (t:=56) QL K8 g9 rfl
    simp only[lO,l10,Qb,Qc,Qd,Qf,Qh,Qj,Qk,Qm,Qo,true_and,Qr,Qs,Qt,Qv,A1m,A1u,A1o]
    have os9:Aa s.next s s9:=os8.trans (f9.old (by omega) (by omega) (by omega))
    refine fin s9 x' a' d' n' m' c'' e' (C+C2 * pq.1) T' os9 (by omega) (by rw[f9.2 _ (by omega) (by omega) (by omega),f8 _ (by omega),o47.2 _ (by omega)];exact kk3) hP9 (by omega) (.inr ⟨by rw[hg];simp,by rw[hval],by rw[hval];exact hT⟩) _ fun s7 x7 a7 n7 c7 b7 m7 d7 av7 nv7 cv7 ac7 nc7 cc7 st8 ld8 hk8=>?_
    simp only[st8,ld8,AM,Xy,Za,Qd,Qj,Qm,Qo,true_and,Qr,Qs,Rk,Rn,Yc]
    exact hk8
theorem QZ(x:Bool)(a b av ac:Option (Nat×Nat))(n m nv nc:Nat)(c d cv cc:Option Nat):Be Tryz.prog 30 (zipIdx [0,1,2] [.agg [.bool x,.slice a n c,.slice b m d],.slice av nv cv,.slice ac nc cc])=some (.agg [.bool x,.slice a n c,.slice b m d,.slice av nv cv,.slice ac nc cc]):=by kernel_rfl
end
def D9(n:Int):List Int→Nat→Int
 | [],_=>-1
 | x::l,i=>if n=x then (i:Int)else D9 n l (i+1)
def E3(vars:List Int)(Qh:List Rat)(n:Int):Rat:=if 0≤D9 n vars 0∧D9 n vars 0<Qh.length then Qh.getD (D9 n vars 0).toNat 0 else 0
def Ds(a:Int→Rat):List (Int×Rat)→Rat
 | []=>0
 | p::L=>p.2 * a p.1+Ds a L
theorem ET(a:Int→Rat):∀L M:List (Int×Rat),Ds a (L++M)=Ds a L+Ds a M
 | [],M=>(Rat.zero_add _).symm
 | p::L,M=>by show p.2 * a p.1+Ds a (L++M)=p.2 * a p.1+Ds a L+Ds a M;rw[ET a L M,Rat.add_assoc]
theorem fL(a:Int→Rat){L M:List (Int×Rat)}(h:L.Perm M):Ds a L=Ds a M:=by
 induction h with
 | nil=>rfl
 | cons p h ih=>show _+_=_+_;rw[ih]
 | swap p q L=>show _+(_+_)=_+(_+_);exact Rat.add_left_comm ..
 | trans h1 h2 ih1 ih2=>exact ih1.trans ih2
theorem Ic(a:Int→Rat):∀L:List (Int×Rat),Ds a (L.filter fun p=>decide (p.2≠0))=Ds a L
 | []=>rfl
 | p::L=>by
  by_cases h:p.2=0
  ·rw[List.filter_cons_of_neg (by simp[h]),Ic a L]
   show _=p.2 * a p.1+Ds a L
   rw[h,Rat.zero_mul,Rat.zero_add]
  ·rw[List.filter_cons_of_pos (by simp[h])]
   show p.2 * a p.1+_=p.2 * a p.1+_
   rw[Ic a L]
theorem RU(a:Int→Rat):∀ {T:List CW},(BD T).Nodup→Ds a ((BD T).map fun n=>(n,Cd n T))=J5 a T
 | [],_=>rfl
 | t::T,h=>by
  obtain⟨h1,h2⟩:=List.nodup_cons.1 (show(t.1::BD T).Nodup from h)
  have e:(BD T).map (fun n=>(n,Cd n (t::T)))=(BD T).map fun n=>(n,Cd n T):=by
   refine List.map_congr_left fun n hn=>?_
   rw[IC,if_neg (fun(e:n=t.1)=>h1 (e▸hn))]
  show Ds a ((t.1,Cd t.1 (t::T))::(BD T).map fun n=>(n,Cd n (t::T)))=_
  rw[e]
  show Cd t.1 (t::T) * a t.1+Ds a ((BD T).map fun n=>(n,Cd n T))=t.2.1 * a t.1+J5 a T
  rw[RU a h2,IC,if_pos rfl]
theorem JE(a:Int→Rat){T:List CW}(h:(BD T).Nodup):Ds a (FS T)=J5 a T:=by
 unfold FS PP
 rw[Ic,fL a ((Dv (BD T)).map _),RU a h]
theorem FW(a:Int→Rat):∀L:List (Int×Rat),Bf a (L.map (·.1)) (L.map (·.2))=Ds a L
 | []=>rfl
 | p::L=>by show p.2 * a p.1+Bf a (L.map (·.1)) (L.map (·.2))=_;rw[FW a L];rfl
theorem iz{T:List CW}{k:Nat}(hk:1≤k)(h:∀t∈T,QH t.2.1 k):∀p∈FS T,QH p.2 k:=fun p hp=>by
 unfold FS PP at hp
 obtain⟨h1,_⟩:=List.mem_filter.1 hp
 obtain⟨n,_,rfl⟩:=List.mem_map.1 h1
 show QH (Cd n T) k
 unfold Cd
 cases hg:E8 n T with
 | none=>exact sR.le hk
 | some q=>exact h _ (F7 hg)
theorem eX(T:List CW):(FS T).length≤T.length:=by
 unfold FS PP
 refine zY (List.length_filter_le _ _) ?_
 rw[zi,Hs];simp[BD]
section
variable{E:CR}{s:AE}
theorem fb       (hE : GoodN E) {a : Option (Nat × Nat)} {cap : Option Nat} {vs : List Int} {n : Int} (hc : AS      s.next s a (vs.map iv)) (hl : vs.length ≤ 1000000000) {K : AV → AE  → Prop} (hK : K (iv (D9   n vs 0)) s) : WF E 42 [.slice a vs.length cap, iv n] K s := by
  refine hE.go tb (by decide) rfl ?_
  simp only[ya,nY,nZ,AH Tryz.underlying27,Qa,Qb,Qc,Qd,Qf,Qh,Qi,Qj,Ql,Qm,Qo,true_and,Qp,Qq,Qr,Qt,Qv,Rb,Rh,Rk,Rm,Rn,Yc,A1p]
  have key:∀ (r:List Int) (i:Nat) (x3 x6 x7:AV),vs.drop i=r→i≤vs.length→D9 n vs 0=D9 n r i→WC E none (.loop Nn) (Ed 0 (IG (fun x x_1 x_2=>Qb E cg (fun v s'=>TA (EJ s' x_1) fun s'=>TA (CB Tryz.prog s' v [(CX.var 2,none)]) fun l=>K (Bu l) s') [] x x_2) (Ends Tryz.prog [(CX.var 2,none)] K)))
      [.slice a vs.length cap,iv n,.int .i64 0,x3,iv (vs.length:Int),iv (i:Int),x6,x7] [] s:=by
    intro r
    induction r with
    | nil =>
      intro i x3 x6 x7 hd hi hp
      have e:i=vs.length:=by
        have:=congrArg List.length hd
        simp at this
        omega
      subst e
      have dd:decide ((vs.length:Int)<(vs.length:Int))=false:=decide_eq_false (by omega)
      refine WC.loop' ?_
      simp only[Nn,Vf,Ry,dd,if_true,cg,Qa,Qb,Qc,Qd,Qf,Qh,Qi,Qj,Qm,Qo,true_and,Qp,Qq,Qr,Qs,Qt,Qv,Ra,Rb,Rc,Rd,Re,Rf,Rg,Rh,Rj,Rk,Rm,Rn,Yc,Ry,A1x,A1p]
      rw[hp]at hK
      exact hK
    | cons x r ih =>
      intro i x3 x6 x7 hd hi hp
      have hlt:i<vs.length:=by
        rcases zX i vs.length with h' | h'
        · exact h'
        · rw[A0D h']at hd;cases hd
      have hx:vs[i]? = some x:=by
        have:=congrArg (fun l=>l[0]?) hd
        simpa using this
      have hd':vs.drop (i+1)=r:=by
        have:=congrArg (List.drop 1) hd
        simpa[A0h]using this
      have dd:decide ((i:Int)<(vs.length:Int))=true:=decide_eq_true (by omega)
      obtain⟨i0,o0,rfl,_,ld⟩:=Cm hc hx
      have ix:=AX (cap:=cap) (i:=i0) (o:=o0) Tryz.underlying27 Jm hlt
      have e17:=Ax Tryz.prog 3 (i:Int) 1 ⟨by omega,by omega⟩
      have e17':((i:Int)+1)=((i+1:Nat):Int):=by omega
      refine WC.loop' ?_
      generalize hW:WC E none (Ac.loop Nn) _=WW
      by_cases h:n=x
      · have de : decide (n = x) = true := decide_eq_true h
        have hp':D9 n vs 0=(i:Int):=by rw[hp];exact if_pos h
        rw[hp']at hK
        simp only[Nn,Vf,cY,cZ,ne,Ry,Wc,dd,ix,ld,de,Qa,Qb,Qc,Qd,Qf,Qh,Qj,Qk,Qm,Qo,true_and,Qp,Qq,Qr,Qs,Qt,Qv,Qz,Rb,Rc,Rd,Re,Rf,Rg,Rh,Rj,Rk,Rm,Rn,Yc,Ry,Wc,A1x,A1p,A1v,A1m]
        exact hK
      · have de:decide (n=x)=false:=decide_eq_false h
        simp only[Nn,Vf,cY,cZ,nf,Ry,Wc,dd,ix,ld,de,e17,e17',Qa,Qb,Qc,Qd,Qf,Qh,Qi,Qj,Qk,Qm,Qo,true_and,Qp,Qq,Qr,Qs,Qt,Qv,Qz,Ra,Rb,Rc,Rd,Re,Rf,Rg,Rh,Rk,Rm,Rn,Yc,Ry,Wc,A1x,A1p,A1v,A1m]
        rw[← hW]
        exact ih (i+1) _ _ _ hd' hlt (by rw[hp];exact if_neg h)
  exact key vs 0 _ _ _ rfl (ze _) rfl
end
def Gk (v0 v1 v2:AV) (b3 b7 b8:Nat) (x9 x10 x11 fn x13 x14 x15:AV) (mk:Nat):Di:=
 Hu 13 [v0,v1,v2,.ptr (some (b3,0)),.ptr (some (b3+1,0)),.ptr (some (b3+1+1,0)),.ptr (some (b3+1+1+1,0)),.ptr (some (b7,0)),.ptr (some (b8,0)),x9,x10,x11,fn,x13,x14,x15] #[18,19] aT aU mk
structure u9(lo:Di)(b8 l k kr b:Nat)(C:Rat)(a:Int→Rat)(done:List (Int×Rat))(O:List Nat)(S:AE):Prop where
 lp:Ba S l=some lo
 ll:l<S.next
 o:O=[b8,l]
 ex:∃x a1 n1 c1 b1 m1 d1,S.heap.get b8=some (BQ x (.slice a1 n1 c1) (.slice b1 m1 d1))∧QR b S (.agg [.bool x,.slice a1 n1 c1,.slice b1 m1 d1]) (C+Ds a done)∧QH (C+Ds a done) (k+done.length * kr)
theorem u9.stab{lo:Di}{b8 l k kr b:Nat}{C:Rat}{a:Int→Rat}{done:List (Int×Rat)}{O:List Nat}{S S':AE}(h:u9 lo b8 l k kr b C a done O S)(hb:b8<l)(o:Aa S.next S S'):u9 lo b8 l k kr b C a done O S':=by
 obtain⟨h1,h2,h3,x,a1,n1,c1,b1,m1,d1,g,q,e⟩:=h
 exact⟨(D2 (o.2 l h2)).trans h1,zZ h2 o.1,h3,x,a1,n1,c1,b1,m1,d1,(o.2 b8 (by omega)).trans g,q.old o,e⟩
section
variable{E:CR}
theorem YU       (hE : GoodN E) {v0 v1 v2 x9 x10 x11 fn x13 x14 x15 : AV} {b3 b7 b8 mk l k kv b : Nat} {C : Rat} {vars : List Int} {wals : List Rat} {av ac : Option (Nat × Nat)} {cv cc : Option Nat} {cells : List AV} {sA : AE}
    (g4:sA.heap.get (b3+1)=some (R 27 0 false [.slice av vars.length cv])) (g5:sA.heap.get (b3+1+1)=some (R 28 0 false [.slice ac wals.length cc])) (h5:b3+2<sA.next) (hcv:AS sA.next sA av (vars.map iv)) (hrat:Cp sA ac wals kv cells) (hvl:vars.length≤1000000000)
    (hbA:b≤sA.next) (hb8:sA.next≤b8) (hbl:b8<l) (hk1:1≤k) (hkv:1≤kv) {n:Int} {q:Rat} {vq:AV} {done:List (Int×Rat)} {O:List Nat} {S:AE} {M:Nat} (hdl:done.length<M) (hM:2 * (k+(M+1) * (k+kv+1))+1≤1000000000)
    (hI:u9 (Gk v0 v1 v2 b3 b7 b8 x9 x10 x11 fn x13 x14 x15 mk) b8 l k (k+kv+1) b C (E3 vars wals) done O S) (hoS:Aa sA.next sA S) (hq:QR 0 S vq q) (hqh:QH q k) {K:AV→AE→Prop}
    (hK:∀S' O',u9 (Gk v0 v1 v2 b3 b7 b8 x9 x10 x11 fn x13 x14 x15 mk) b8 l k (k+kv+1) b C (E3 vars wals) (done++[(n,q)]) O' S'→S.next≤S'.next→(∀j,j<S.next→j ∉ O→S'.heap.get j=S.heap.get j)→(∀j∈O',j∈O∨S.next≤j)→K (.bool true) S'):WR E l [iv n,vq] K S:=by
  obtain⟨hlp,hll,hO,x1,a1,n1,c1,b1,m1,d1,g8,q8,h8⟩:=hI
  obtain⟨xx,aa,nn,kk,bb,mm,ee,rfl⟩:=hq.shape
  have hdM:done.length * (k+kv+1)≤M * (k+kv+1):=zq _ (by omega)
  have IJ:(done.length+1) * (k+kv+1)=done.length * (k+kv+1)+(k+kv+1):=zz _ _
  have hM1:(M+1) * (k+kv+1)=M * (k+kv+1)+(k+kv+1):=zz _ _
  have hev:C+Ds (E3 vars wals) (done++[(n,q)])=C+Ds (E3 vars wals) done+q * E3 vars wals n:=by
    rw[ET]
    show C+(Ds (E3 vars wals) done+(q * E3 vars wals n+0))=_
    rw[Rat.add_zero,Rat.add_assoc]
  have hdl1:(done++[(n,q)]).length=done.length+1:=by simp
  have hz:Db (Dh E.P 13) (Gk v0 v1 v2 b3 b7 b8 x9 x10 x11 fn x13 x14 x15 mk).var [18,19] [iv n,.agg [.bool xx,.slice aa nn kk,.slice bb mm ee]]=some [v0,v1,v2,.ptr (some (b3,0)),.ptr (some (b3+1,0)),.ptr (some (b3+1+1,0)),.ptr (some (b3+1+1+1,0)),.ptr (some (b7,0)),.ptr (some (b8,0)),x9,x10,x11,fn,iv n,.agg [.bool xx,.slice aa nn kk,.slice bb mm ee],x15]:=by
    rw[hE.P,aY];rfl
  refine WR.round hlp hz (by rw[hE.P];exact so) (by rw[hE.P];exact sq) ?_
  refine Eg ?_
  obtain⟨n2,o2,g2⟩:=Bs S ZQ
  have st:=Ai (P:=Tryz.prog) (t:=26) (cs:=[.bool xx,.slice aa nn kk,.slice bb mm ee]) Aw g2 rfl rfl rfl (by simp)
  simp only[aW,lh,lj,Bh,Xc,st,Xy,Za,Qa,Qb,Qc,Qd,Qf,Qh,Qj,Qm,Qo,true_and,Qp,Qq,Qr,Qs,Qt,Qv,Rb,A1p,A1r,A1o]
  generalize hs2:setObj (newObj S ZQ) S.next (R 26 0 false [.bool xx,.slice aa nn kk,.slice bb mm ee])=s2 at *
  have os2:Aa S.next S s2:=by rw[← hs2];exact o2.set (zU _) _
  have n3:s2.next=S.next+1:=by rw[← hs2];exact n2
  have g3:s2.heap.get S.next=some (BQ xx (.slice aa nn kk) (.slice bb mm ee)):=by rw[← hs2,Ww]
  refine⟨_,(D2 (os2.2 l hll)).trans hlp,rfl,Eg ?_⟩
  generalize hs4:setObj s2 l _=s4
  have n4:s4.next=s2.next:=by rw[← hs4];rfl
  have f4:∀j,j≠l→s4.heap.get j=s2.heap.get j:=fun j hj=>by rw[← hs4,Wx _ hj]
  have l4:Ba s4 l=some { Gk v0 v1 v2 b3 b7 b8 x9 x10 x11 fn x13 x14 x15 mk with state:=.busy }:=by rw[← hs4,C6]
  have hSl:l<S.next:=hll
  have hSn:=hoS.1
  have o4:Aa sA.next sA s4:=⟨by omega,fun j hj=>by rw[f4 j (by omega),os2.2 j (by omega),hoS.2 j hj]⟩
  have gb4:=(o4.2 (b3+1) (by omega)).trans g4
  have gb5:=(o4.2 (b3+1+1) (by omega)).trans g5
  have gb8:s4.heap.get b8=some (BQ x1 (.slice a1 n1 c1) (.slice b1 m1 d1)):=by rw[f4 b8 (by omega),os2.2 b8 (by omega)];exact g8
  have gc:s4.heap.get S.next=some (BQ xx (.slice aa nn kk) (.slice bb mm ee)):=by rw[f4 _ (by omega)];exact g3
  have lv:=AI (P:=Tryz.prog) (t:=27) (o:=0) D6 gb4 rfl
  have lw:=AI (P:=Tryz.prog) (t:=28) (o:=0) EN gb5 rfl
  have hcv4:=(hcv.old o4 (zU _)).mono o4.1
  have hnl:∀ {j},YG S j→j≠l:=fun hj=>by
    rintro rfl
    obtain⟨r,h1,_⟩:=hj
    have:=DT hlp
    rw[this]at h1;cases h1
  have hq4:QR 0 s4 (.agg [.bool xx,.slice aa nn kk,.slice bb mm ee]) q:=hq.keepS (by omega) fun j hj hu=>by rw[f4 j (hnl hu),os2.2 j hj]
  have hc4:QR b s4 (.agg [.bool x1,.slice a1 n1 c1,.slice b1 m1 d1]) (C+Ds (E3 vars wals) done):=q8.keepS (by omega) fun j hj hu=>by rw[f4 j (hnl hu),os2.2 j hj]
  simp only[aX,ln,lv,Qa,Qb,Qc,Qd,Qf,Qh,Qj,Qk,Qm,Qo,true_and,Qr,Qs,Qt,Qv,Rb,Re,A1m,A1u,A1p]
  refine fb hE hcv4 hvl ?_
  have skip:E3 vars wals n=0→∀K2:(KY→List AV→List Nat→AE→Prop),True:=fun _ _=>trivial
  have hend0:E3 vars wals n=0→∃r'',Ba s4 l=some r''∧K (.bool true) (setObj s4 l (.loop { r'' with state:=.ready,pending:=none })):=fun h0=>by
    refine⟨_,l4,hK _ O ⟨?_,?_,hO,x1,a1,n1,c1,b1,m1,d1,?_,?_,?_⟩ ?_ (fun j hj hjO=>?_) (fun j hj=>.inl hj)⟩
    · rw[C6];rfl
    · show l<s4.next;omega
    · rw[Wx _ (by omega)];exact gb8
    · rw[hev,h0,Rat.mul_zero,Rat.add_zero]
      exact hc4.keepS (zU _) fun j _ hu=>Wx _ (by
        rintro rfl
        obtain⟨r,h1,_⟩:=hu
        have:=DT l4
        rw[this]at h1;cases h1)
    · rw[hev,h0,Rat.mul_zero,Rat.add_zero,hdl1]
      exact h8.le (by omega)
    · show S.next≤s4.next;omega
    · have h4:j≠l:=fun h=>hjO (by rw[hO,h];simp)
      rw[Wx _ h4,f4 j h4,os2.2 j hj]
  by_cases hp0:0≤D9 n vars 0
  · have d0:decide (0≤D9 n vars 0)=true:=decide_eq_true hp0
    by_cases hp1:D9 n vars 0<(wals.length:Int)
    · have d1:decide (D9 n vars 0<(wals.length:Int))=true:=decide_eq_true hp1
      obtain⟨i,hi⟩:∃i:Nat,D9 n vars 0=(i:Int):=⟨(D9 n vars 0).toNat,(Int.toNat_of_nonneg hp0).symm⟩
      have hil:i<wals.length:=by omega
      have hvi:wals[i]? = some wals[i]:=zW hil
      have hat:E3 vars wals n=wals[i]:=by
        unfold E3
        rw[if_pos ⟨hp0,hp1⟩,hi,Int.toNat_natCast,A0k,hvi];rfl
      rw[hat]at hev
      generalize wals[i]=w at hvi hat hev
      have hrat4:=hrat.old o4
      obtain⟨i0,o0,rfl,_,ld⟩:=hrat4.load hil
      have hqw:=hrat4.rat i w hvi
      obtain⟨xw,aw,nw,kw,bw,mw,ew,hwe⟩:=hqw.shape
      generalize (cells.drop (i * 3)).take 3=cw at *
      injection hwe with hwe
      subst hwe
      have ix:=AX (cap:=cc) (i:=i0) (o:=o0) Tryz.underlying28 Aw hil
      have l8:=AK (P:=Tryz.prog) (t:=26) BZ Aw gb8 rfl
      have lc:=AK (P:=Tryz.prog) (t:=26) BZ Aw gc rfl
      rw[hi]at d0 d1
      simp only[hi,VU,ls,Wb,Ry,d0,d1,lw,AH Tryz.underlying28,Ru,l8,lc,ix,ld,Qb,Qc,Qd,Qf,Qg,Qh,Qi,Qj,Qk,Qm,Qo,true_and,Qp,Qq,Qr,Qs,Qt,Qv,Qw,Qx,Qz,Rs,Ru,Rw,Ry,Wb,A1m,A1v,A1u,A1o]
      refine LZ hE (hq4.qi hqh) hqw hk1 hkv (by omega) fun s5 v5 o5 r5=>?_
      have h5':=o5.1
      have gb8':=(o5.2 b8 (by omega)).trans gb8
      refine⟨⟨Au (by simp only[Qj,Qk,Qr,Qs];exact AK BZ Aw gb8' rfl) (CI _ _ _ _ _ _ _),trivial⟩,?_⟩
      simp only[Qr,Qs]
      have hqw':=hqw.qh hkv
      refine LY hE ((hc4.old o5).qi h8) (r5.qi (hqh.mul hqw')) (by omega) (by omega) (by omega) fun s6 v6 o6 r6=>?_
      have h6:=o6.1
      have gb8'':=(o6.2 b8 (by omega)).trans gb8'
      obtain⟨x6,a6,n6,c6,b6,m6,d6,rfl⟩:=r6.shape
      have st6:=Ai (P:=Tryz.prog) (t:=26) (cs:=[.bool x6,.slice a6 n6 c6,.slice b6 m6 d6]) Aw gb8'' rfl rfl rfl (by simp)
      generalize hs7:setObj s6 b8 (R 26 0 false [.bool x6,.slice a6 n6 c6,.slice b6 m6 d6])=s7 at st6
      have f7:∀j,j≠b8→s7.heap.get j=s6.heap.get j:=fun j hj=>by rw[← hs7,Wx _ hj]
      have n7:s7.next=s6.next:=by rw[← hs7];rfl
      have l7:Ba s7 l=some { Gk v0 v1 v2 b3 b7 b8 x9 x10 x11 fn x13 x14 x15 mk with state:=.busy }:=by
        rw[D2 (show s7.heap.get l=s4.heap.get l by rw[f7 l (by omega),o6.2 l (by omega),o5.2 l (by omega)])];exact l4
      simp only[st6,Xy,Za,Qd,Qm,Qo,true_and,Qr,Qs]
      have hqn:QH (C+Ds (E3 vars wals) done+q * w) (k+(done.length+1) * (k+kv+1)):=(h8.add (hqh.mul hqw')).le (by omega)
      refine⟨_,l7,hK _ O ⟨?_,?_,hO,x6,a6,n6,c6,b6,m6,d6,?_,?_,?_⟩ ?_ (fun j hj hjO=>?_) (fun j hj=>.inl hj)⟩
      · rw[C6];rfl
      · show l<s7.next;omega
      · rw[Wx _ (by omega),← hs7,Ww]
      · rw[hev]
        have:QR s5.next s7 (.agg [.bool x6,.slice a6 n6 c6,.slice b6 m6 d6]) (C+Ds (E3 vars wals) done+q * w):=by rw[← hs7];exact r6.set (by omega) _
        exact(this.set (by omega) _).mono (by omega)
      · rw[hev,hdl1];exact hqn
      · show S.next≤s7.next;omega
      · have h4 : j ≠ l := fun h => hjO (by rw [hO, h]; simp)
        have h8':j≠b8:=fun h=>hjO (by rw[hO,h];simp)
        rw[Wx _ h4,f7 j h8',o6.2 j (by omega),o5.2 j (by omega),f4 j h4,os2.2 j hj]
    · have d1 : decide (D9   n vars 0 < (wals.length : Int)) = false := decide_eq_false hp1
      have hat:E3 vars wals n=0:=by unfold E3;rw[if_neg (fun h=>hp1 h.2)]
      simp only[VU,Wb,Ry,d0,d1,lw,AH Tryz.underlying28,Ru,Qb,Qc,Qd,Qf,Qg,Qh,Qi,Qj,Qk,Qm,Qo,true_and,Qp,Qq,Qr,Qs,Qt,Qv,Qw,Qx,Ra,Rs,Ru,Rw,Ry,Wb]
      exact hend0 hat
  · have d0 : decide (0 ≤ D9   n vars 0) = false := decide_eq_false hp0
    have hat:E3 vars wals n=0:=by unfold E3;rw[if_neg (fun h=>hp0 h.1)]
    simp only[VU,Wb,d0,Ru,Qb,Qc,Qd,Qf,Qg,Qh,Qi,Qj,Qk,Qm,Qo,true_and,Qp,Qq,Qr,Qs,Qt,Qu,Qv,Qw,Qx,Ra,Rs,Ru,Rw,Wb]
    exact hend0 hat
end
section
variable{E:CR}{s:AE}
theorem vI(hE:G7 E){vl:AV}{C:Rat}{vs:List Int}{cs:List Rat}{kl M kv:Nat}(hl:LI s vl C vs cs kl)(hkl:1≤kl)(hM:min cs.length vs.length=M){vars:List Int}{wals:List Rat}{av ac:Option (Nat×Nat)}{cv cc:Option Nat}{cells:List AV}(hcv:AS s.next s av (vars.map iv))(hrat:Cp s ac wals kv cells)(hvl:vars.length≤1000000000)(hkv:1≤kv)
    {k1:Nat} (hk1:k1=1+(M+1) * (kl+2)) (hb:2 * (k1+(M+2) * (k1+kv+1))+1≤1000000) {K:AV→AE→Prop}
    (hK:∀s' w,Aa s.next s s'→QR s.next s' w (C+Bf (E3 vars wals) vs cs)→QH (C+Bf (E3 vars wals) vs cs) (k1+M * (k1+kv+1))→K w s'):WF E 13 [vl,.slice av vars.length cv,.slice ac wals.length cc] K s:=by
  have hl0:=hl
  obtain⟨x1,a1,n1,c1,b1,m1,d1,xv,nv,xcv,xc,nc,xcc,ea⟩:=hl.shape
  subst ea
  have hM1:(M+2) * (k1+kv+1)=(M+1) * (k1+kv+1)+(k1+kv+1):=zz _ _
  have hM3:(M+1) * (k1+kv+1)=M * (k1+kv+1)+(k1+kv+1):=zz _ _
  have hM2:(M+2) * (kl+2)=(M+1) * (kl+2)+(kl+2):=zz _ _
  have hMb:M≤M * (k1+kv+1):=A1i _ (by omega)
  have hMk:kl+2≤(M+1) * (kl+2):=A0i _ (by omega)
  refine hE.go tM (by decide) rfl ?_
  obtain⟨n3,o3,g1,g2,g3⟩:=HV s (BL x1 (.slice a1 n1 c1) (.slice b1 m1 d1) (.slice xv nv xcv) (.slice xc nc xcc)) (R 27 0 false [.slice av vars.length cv]) (R 28 0 false [.slice ac wals.length cc])
  obtain⟨n4,o4,g4⟩:=Bs (newObj (newObj (newObj s (BL x1 (.slice a1 n1 c1) (.slice b1 m1 d1) (.slice xv nv xcv) (.slice xc nc xcc))) (R 27 0 false [.slice av vars.length cv])) (R 28 0 false [.slice ac wals.length cc])) ZQ
  simp only[yL,lW,lX,Xa,Xh,Xn,Bh,Xc,Ak,Qa,Qb,Qc,Qd,Qf,Qh,Qj,Qk,Ql,Qm,Qo,true_and,Qp,Qq,Qr,Qs,Qt,Qv,Rb,Rh,A1q,A1r,A1m,A1u,A1o]
  generalize hs3:newObj (newObj (newObj s (BL x1 (.slice a1 n1 c1) (.slice b1 m1 d1) (.slice xv nv xcv) (.slice xc nc xcc))) (R 27 0 false [.slice av vars.length cv])) (R 28 0 false [.slice ac wals.length cc])=s3 at *
  generalize hs1:newObj s3 ZQ=s1 at *
  have o1:Aa s.next s s1:=o3.trans (o4.mono o3.1)
  have h1:s1.next=s.next+4:=by omega
  have k1':=(o4.2 s.next (by omega)).trans g1
  have k2':=(o4.2 (s.next+1) (by omega)).trans g2
  have k3':=(o4.2 (s.next+2) (by omega)).trans g3
  rw[n3]at g4
  have l1:=AK (P:=Tryz.prog) (t:=30) D7 Do k1' rfl
  simp only[l1,Qm]
  refine sM hE.toGoodN (hl0.old o1) hkl (by rw[hM];omega) fun s2 v2 mi T o2 r2 hT=>?_
  rw[hM,← hk1]at r2
  have h2:=o2.1
  have hTl:=hT.len
  rw[hM]at hTl
  simp only[A1R]at hTl
  obtain⟨x,a,n,ca,d,m,cd,rfl,hP⟩:=r2
  obtain⟨n5,o5,g5⟩:=Bs s2 ZP
  have st:=Q2 (cs0:=[.bool false,.slice none 0 (some 0),.slice none 0 (some 0),.map none]) rfl (x:=x) (a:=a) (n:=n) (c:=ca) (b:=d) (m:=m) (d:=cd) (mi:=mi) g5
  simp only[I1,Xc,st,Xy,Za,Qd,Qm,Qo,true_and,Qp,Qq,Qr,Qs]
  generalize hs4:setObj (newObj s2 ZP) s2.next (BP x (.slice a n ca) (.slice d m cd) mi)=s4
  have o24:Aa s2.next s2 s4:=by rw[← hs4];exact o5.set (zU _) _
  have n6:s4.next=s2.next+1:=by rw[← hs4];exact n5
  have q4:s4.heap.get s2.next=some (BP x (.slice a n ca) (.slice d m cd) mi):=by rw[← hs4,Ww]
  have l4:AB Tryz.prog s4 26 (.ptr (some (s2.next,0+0)))=some (.agg [.bool x,.slice a n ca,.slice d m cd]):=Al (o:=0) (n:=3) BZ Aw q4 (by simp)
  obtain⟨n7,o7,g7⟩:=Bs s4 ZQ
  obtain⟨st5,_⟩:=BM (cs0:=[.bool false,.slice none 0 (some 0),.slice none 0 (some 0)]) rfl (x:=x) (a:=a) (n:=n) (c:=ca) (b:=d) (m:=m) (d:=cd) g7
  simp only[lY,l4,Bh,Xc,st5,PW,Xy,Za,Qb,Qc,Qd,Qf,Qh,Qj,Qk,Qm,Qo,true_and,Qp,Qq,Qr,Qs,Qt,Qv,A1n,A1m,A1r,A1o]
  generalize hs5:setObj (newObj s4 ZQ) s4.next (BQ x (.slice a n ca) (.slice d m cd))=s5
  have o45:Aa s4.next s4 s5:=by rw[← hs5];exact o7.set (zU _) _
  have n8:s5.next=s4.next+1:=by rw[← hs5];exact n7
  have q5:s5.heap.get s4.next=some (BQ x (.slice a n ca) (.slice d m cd)):=by rw[← hs5,Ww]
  have o25:Aa s2.next s2 s5:=o24.trans (o45.mono o24.1)
  have p5:=(o45.2 s2.next (by omega)).trans q4
  have l5:=AK (P:=Tryz.prog) (t:=56) QL K8 p5 rfl
  simp only[lZ,l5,Qb,Qc,Qd,Qf,Qh,Qj,Qk,Qm,Qo,true_and,Qr,Qs,Qt,Qv,A1m]
  refine YM hE.toGoodN fun s6 n9 o56 g6=>?_
  simp only[Qd,Qo,true_and,Qp,Qq]
  refine WC.range rfl ?_
  show WF E 77 [.yield (s6.next+1),.ptr (some (s5.next,0))] _ (newObj (newObj s6 .mark) (.loop (Gk _ _ _ s.next s2.next s4.next _ _ _ _ _ _ _ s6.next)))
  generalize hlo:Gk _ _ _ s.next s2.next s4.next _ _ _ _ _ _ _ s6.next=lo
  have hm1:(newObj s6 .mark).next=s6.next+1:=rfl
  generalize hs7:newObj (newObj s6 .mark) (.loop lo)=s7
  have n10:s7.next=s6.next+2:=by rw[← hs7];rfl
  have f7:∀j,j<s6.next→s7.heap.get j=s6.heap.get j:=fun j hj=>by rw[← hs7,AU,if_neg (by omega),AU,if_neg (by omega)]
  have hmk7:s7.heap.get s6.next=some .mark:=by rw[← hs7,AU,if_neg (by omega),AU,if_pos rfl]
  have hlp7:Ba s7 (s6.next+1)=some lo:=by
    unfold Ba
    rw[← hs7,AU,if_pos hm1.symm]
  have o67:Aa s6.next s6 s7:=⟨by omega,f7⟩
  have o57:Aa s5.next s5 s7:=o56.trans (o67.mono o56.1)
  have o27:Aa s2.next s2 s7:=o25.trans (o57.mono o25.1)
  have o12:=o1.trans (o2.mono o1.1)
  have gA4:=(o2.2 (s.next+1) (by omega)).trans k2'
  have gA5:=(o2.2 (s.next+1+1) (by omega)).trans k3'
  have hcv2:=(hcv.old o12 (zU _)).mono o12.1
  have hrat2:=hrat.old o12
  have q7:s7.heap.get s4.next=some (BQ x (.slice a n ca) (.slice d m cd)):=(o57.2 s4.next (by omega)).trans q5
  refine U8 hE (sA:=s2) (pb:=s5.next) (l:=s6.next+1) hP.map (by omega) (by omega) o27 ((f7 _ (by omega)).trans g6) (by omega) (O0:=[s4.next,s6.next+1]) (by simp;omega) (fun j hj=>by simp at hj;omega)
    (u9 lo s4.next (s6.next+1) k1 (k1+kv+1) s1.next C (E3 vars wals)) (fun done O S S' h o=>h.stab (by omega) o) (fun done O S h j hj=>by have h1:=h.ll;rw[h.o]at hj;simp at hj;omega) (fun done n' q vq O S K2 hI hoS hq hmem hdl hK2=>?_)
    ⟨hlp7,by omega,rfl,_,_,_,_,_,_,_,q7,?_,?_⟩ fun v S O hoS hnS hfS hI=>?_
  · subst hlo
    obtain⟨e1,e2,_⟩:=(hP.map.old hoS).ent _ hmem
    exact YU hE.toGoodN (M:=M+1) gA4 gA5 (by omega) hcv2 hrat2 hvl h2 (by omega) (by omega) (by omega) hkv (by omega) (by show 2 * (k1+(M+2) * (k1+kv+1))+1≤1000000000;omega) hI hoS (e1.mono (ze _)) e2 hK2
  · show QR s1.next s7 _ (C+0)
    rw[Rat.add_zero];exact hP.cq.old o27
  · show QH (C+0) _
    rw[Rat.add_zero];exact hP.ch.le (by simp)
  obtain⟨hlp,hll,hO,x8,a8,nn8,c8,b8,m8,d8,gp,hcq,hch⟩:=hI
  have hev:C+Ds (E3 vars wals) (FS T)=C+Bf (E3 vars wals) vs cs:=by
    rw[JE _ hP.map.nd,hT.ev,Rat.mul_one]
    show C+(0+_)=_
    rw[Rat.zero_add]
  rw[hev]at hcq hch
  refine⟨lo,hlp,by rw[← hlo];rfl,?_⟩
  have hpd:lo.pending=none:=by rw[← hlo];rfl
  rw[hpd]
  generalize hs8:setObj S (s6.next+1) _=s8
  have n11:s8.next=S.next:=by rw[← hs8];rfl
  have f8:∀j,j≠s6.next+1→s8.heap.get j=S.heap.get j:=fun j hj=>by rw[← hs8,Wx _ hj]
  have g8:s8.heap.get s4.next=some (BQ x8 (.slice a8 nn8 c8) (.slice b8 m8 d8)):=by rw[f8 _ (by omega)];exact gp
  have l8:=AK (P:=Tryz.prog) (t:=26) BZ Aw g8 rfl
  have gz:s8.heap.get (s.next+1+1+1)=some ZQ:=by rw[f8 _ (by omega),hoS.2 _ (by omega),o2.2 _ (by omega)];exact g4
  obtain⟨st9,_⟩:=BM (cs0:=[.bool false,.slice none 0 (some 0),.slice none 0 (some 0)]) rfl (x:=x8) (a:=a8) (n:=nn8) (c:=c8) (b:=b8) (m:=m8) (d:=d8) gz
  generalize hs9:setObj s8 (s.next+1+1+1) (BQ x8 (.slice a8 nn8 c8) (.slice b8 m8 d8))=s9 at st9
  have f9:∀j,j≠s.next+1+1+1→s9.heap.get j=s8.heap.get j:=fun j hj=>by rw[← hs9,Wx _ hj]
  have g9:s9.heap.get (s.next+1+1+1)=some (BQ x8 (.slice a8 nn8 c8) (.slice b8 m8 d8)):=by rw[← hs9,Ww]
  have n12:s9.next=s8.next:=by rw[← hs9];rfl
  have hSn:=hoS.1
  have hmk9:s9.heap.get s6.next=some .mark:=by rw[f9 _ (by omega),f8 _ (by omega),hfS _ (by omega) (by simp;omega)];exact hmk7
  obtain⟨s10,u1,u2,u3⟩:=GQ [s6.next] s9 (by simp) (fun m h=>by rw[A1d.1 h];exact hmk9)
  have u3':∀j,j≠s6.next→s10.heap.get j=s9.heap.get j:=fun j hj=>u3 j (by simpa using hj)
  have l10:=AK (P:=Tryz.prog) (t:=26) BZ Aw ((u3' (s.next+1+1+1) (by omega)).trans g9) rfl
  simp only[Lf,aV,l8,st9,u1,l10,AM,Xy,Za,Qb,Qc,Qd,Qf,Qh,Qj,Qk,Qm,Qo,true_and,Qr,Qs,Qt,Qv,Rb,Re,Rk,Rn,Yc,A1m,A1o]
  refine hK s10 _ ⟨by omega,fun j hj=>?_⟩ ?_ (hch.le ?_)
  · rw[u3' j (by omega),f9 j (by omega),f8 j (by omega),hoS.2 j (by omega),o12.2 j hj]
  · refine QR.mono (b := s1.next) (hcq.keepS (by omega) fun j hj hu => ?_) (by omega)
    rw[u3' j ?_,f9 j ?_,f8 j ?_]
    · rintro rfl
      obtain⟨r,e1,_⟩:=hu
      have:=DT hlp
      rw[this]at e1;cases e1
    · intro e
      have gz':S.heap.get (s.next+1+1+1)=some ZQ:=by rw[hoS.2 _ (by omega),o2.2 _ (by omega)];exact g4
      exact Fj gz' (by decide) hu e
    · rintro rfl
      obtain⟨r,e1,_⟩:=hu
      rw[hfS _ (by omega) (by simp;omega),hmk7]at e1;cases e1
  · have hcl := eX       T
    have:(FS T).length * (k1+kv+1)≤M * (k1+kv+1):=zq _ (by omega)
    omega
end
end
end Go.Proofs.YtjnkfbpadpmakaaGreatDoor.Am
set_option linter.unusedVariables false
set_option linter.unusedSimpArgs false
set_option maxRecDepth 100000
namespace Go.Proofs.YtjnkfbpadpmakaaGreatDoor.Am
open Go Go.Proofs
noncomputable section
def mM:List AA:=[
 A1q 26 (.var 0) 1,
 A1r 26 2]
def mN:List AA:=[
 A1n 26 0 (.var 1),
 A1n 24 1 (.loc 0),
 A1m 22 (.loc 0),
 A1n 26 0 (.var 1),
 A1n 24 1 (.loc 0),
 A1m 22 (.loc 0),
 A1s 22 (.loc 0),
 ⟨none,.p (fun l=>match l with | v::l=>Ch false v l | []=>none),[(.loc 0),(.const (.int .i64 (3)))],.push,[]⟩,
 ⟨none,.r (At Tryz.prog 22 false true false),[.loc 5,.loc 0],.push,[]⟩,
 A1n 26 0 (.var 1),
 A1n 24 1 (.loc 0),
 A1o 22 (.loc 0) (.loc 2)]
def mO:List AA:=[
 A1n 26 1 (.var 1),
 A1m 22 (.loc 0),
 A1n 26 1 (.var 1),
 A1m 22 (.loc 0),
 A1s 22 (.loc 0),
 ⟨none,.p (fun l=>match l with | v::l=>Ch false v l | []=>none),[(.loc 0),(.const (.int .i64 (3)))],.push,[]⟩,
 ⟨none,.r (At Tryz.prog 22 false true false),[.loc 4,.loc 0],.push,[]⟩,
 A1n 26 1 (.var 1),
 A1o 22 (.loc 0) (.loc 1)]
def mP:List AA:=[
 A1m 26 (.var 1),
 A1o 26 (.var 2) (.loc 0)]
def yP:Ah:=⟨1,3,(.seq (.ops mM) (.seq (.ops mN) (.seq (.ops mO) (.seq (.ops mP) .ret)))),[((.var 2),some 26)]⟩
def wU:List AA:=[
 A1q 30 (.var 0) 1,
 A1r 30 2]
def wV:List AA:=[
 A1n 30 0 (.var 1),
 A1m 26 (.loc 0),
 A1n 30 1 (.var 1),
 A1m 27 (.loc 0),
 A1n 30 1 (.var 1),
 A1m 27 (.loc 0),
 A1s 27 (.loc 0),
 ⟨none,.p (fun l=>match l with | v::l=>Ch false v l | []=>none),[(.loc 0),(.const (.int .i64 (8)))],.push,[]⟩,
 ⟨none,.r (At Tryz.prog 27 false true false),[.loc 4,.loc 0],.push,[]⟩,
 A1r 30 3,
 ⟨none,.call 31,[.loc 7],.push,[⟨none,.r (At Tryz.prog 27 false true false),[.loc 6,.loc 2],(.loc 1)⟩,⟨none,.r (fun s l=>match l with | [x]=>Ay Tryz.prog s 27 x | _=>none),[.loc 4],(.loc 3)⟩,⟨none,.r1 (fun s a=>AB Tryz.prog s 27 a),[.loc 5],(.loc 4)⟩,⟨none,.r1 (fun s a=>AB Tryz.prog s 27 a),[.loc 7],(.loc 6)⟩]⟩,
 ⟨none,.p (fun l=>Be Tryz.prog 30 (zipIdx [0,1] l)),[.loc 0,.loc 1],.push,[]⟩,
 A1o 30 (.var 3) (.loc 0)]
def wW:List AA:=[
 A1p (.const (.int .i64 (0))) 4]
def tE:List AA:=[
 A1n 30 2 (.var 1),
 A1m 28 (.loc 0),
 A1s 28 (.loc 0),
 A1w .lss 3 (.var 4) (.loc 0),
 ⟨(some ((.loc 0),true)),.p1 some,[.var 4],.push,[]⟩,
 ⟨(some ((.loc 1),true)),.p2 (AN Tryz.prog .lss 3),[(.loc 0),(.const (.int .i64 (8)))],.push,[]⟩,
 ⟨none,.p Ru,[(.loc 2),(.loc 0),(.const (.bool false))],(.set 5),[]⟩]
def wX:List AA:=[
 A1n 30 2 (.var 3),
 A1m 28 (.loc 0),
 A1n 30 2 (.var 1),
 A1m 28 (.loc 0),
 A1v 28 (.loc 0) (.var 4),
 A1m 26 (.loc 0),
 ⟨none,.call 31,[.loc 0],.push,[⟨none,.r1 (fun s a=>AB Tryz.prog s 28 a),[.loc 6],(.loc 5)⟩]⟩,
 ⟨none,.mk (fun l=>(Ad Tryz.prog 28 1 (zipIdx [0] l)).bind fun r=>some (r,.slice 1)),[.loc 0],.push,[]⟩,
 ⟨none,.e (fun s l=>Aj Tryz.prog s [28,28] l),[.loc 6,.loc 0],.push,[]⟩,
 A1n 30 2 (.var 3),
 A1o 28 (.loc 0) (.loc 1)]
def wY:List AA:=[
 A1t (.var 4),
 ⟨none,.p2 (AN Tryz.prog .add 3),[(.loc 0),(.const (.int .i64 (1)))],.push,[]⟩,
 A1p (.loc 0) 4]
def eE:Ac:=(.seq (.seq (.ops tE) (.cond (.var 5)
 .skip
 (.exit 0))) (.seq (.block 1 (.ops wX)) (.ops wY)))
def wZ:List AA:=[
 A1m 30 (.var 3),
 A1o 30 (.var 2) (.loc 0)]
def c7:Ah:=⟨1,6,(.seq (.ops wU) (.seq (.ops wV) (.seq (.seq (.ops wW) (.block 0 (.loop eE))) (.seq (.ops wZ) .ret)))),[((.var 2),some 30)]⟩
def we:List AA:=[
 A1p (.const (.slice none 0 (some 0))) 1]
def wg:List AA:=[
 A1p (.const (.slice none 0 (some 0))) 2]
def wh:List AA:=[
 A1p (.const (.int .i64 (0))) 3]
def tF:List AA:=[
 A1s 28 (.var 0),
 A1w .lss 3 (.var 3) (.loc 0),
 ⟨(some ((.loc 0),true)),.p1 some,[.var 3],.push,[]⟩,
 ⟨(some ((.loc 1),true)),.p2 (AN Tryz.prog .lss 3),[(.loc 0),(.const (.int .i64 (8)))],.push,[]⟩,
 ⟨none,.p Ru,[(.loc 2),(.loc 0),(.const (.bool false))],(.set 4),[]⟩]
def wj:List AA:=[
 A1t (.var 2),
 A1v 28 (.var 0) (.var 3),
 A1m 26 (.loc 0),
 A1u 31 [.loc 0],
 ⟨none,.mk (fun l=>(Ad Tryz.prog 28 1 (zipIdx [0] l)).bind fun r=>some (r,.slice 1)),[.loc 0],.push,[]⟩,
 ⟨none,.e (fun s l=>Aj Tryz.prog s [28,28] l),[.loc 4,.loc 0],.push,[]⟩,
 A1p (.loc 0) 2]
def wo:List AA:=[
 A1t (.var 3),
 ⟨none,.p2 (AN Tryz.prog .add 3),[(.loc 0),(.const (.int .i64 (1)))],.push,[]⟩,
 A1p (.loc 0) 3]
def eH:Ac:=(.seq (.seq (.ops tF) (.cond (.var 4)
 .skip
 (.exit 0))) (.seq (.block 1 (.ops wj)) (.ops wo)))
def wp:List AA:=[
 A1p (.var 2) 1]
def c8:Ah:=⟨1,5,(.seq (.ops we) (.seq (.ops wg) (.seq (.seq (.ops wh) (.block 0 (.loop eH))) (.seq (.ops wp) .ret)))),[((.var 1),none)]⟩
theorem tQ:AL Tryz.prog 31=some yP:=by kernel_rfl
theorem xB:AL Tryz.prog 7=some c7:=by kernel_rfl
theorem xC:AL Tryz.prog 8=some c8:=by kernel_rfl
end
end Go.Proofs.YtjnkfbpadpmakaaGreatDoor.Am
set_option linter.unusedVariables false
set_option linter.unusedSimpArgs false
set_option maxRecDepth 16000
namespace Go.Proofs.YtjnkfbpadpmakaaGreatDoor.Am
open Go Go.Proofs
noncomputable section
def QA(s:AE)(v:AV):Prop:=∃neg m d lm ld,v=.agg [.bool neg,m,d]∧By s m lm∧By s d ld∧Bi lm∧Bi ld
theorem QA.old{s s':AE}{v:AV}(h:QA s v)(o:Aa s.next s s'):QA s' v:=by
 obtain⟨neg,m,d,lm,ld,h1,h2,h3,h4⟩:=h
 exact⟨neg,m,d,lm,ld,h1,h2.old o,h3.old o,h4⟩
structure Gy(s:AE)(a:Option (Nat×Nat))(n:Nat)(cells:List AV):Prop where
 len:cells.length=n * 3
 rd:AS s.next s a cells
 rat:∀i,i<n→QA s (.agg ((cells.drop (i * 3)).take 3))
theorem Gy.old{s s':AE}{a:Option (Nat×Nat)}{n:Nat}{cells:List AV}(h:Gy s a n cells)(o:Aa s.next s s'):Gy s' a n cells:=
 ⟨h.len,(h.rd.old o (zU _)).mono o.1,fun i hi=>(h.rat i hi).old o⟩
theorem Gy.load{s:AE}{a:Option (Nat×Nat)}{n:Nat}{cells:List AV}(h:Gy s a n cells){i:Nat}(hi:i<n):
  ∃i0 o,a=some (i0,o)∧i0<s.next∧AB Tryz.prog s 26 (.ptr (some (i0,o+i * 3)))=some (.agg ((cells.drop (i * 3)).take 3)):=by
 have hl:=h.len
 have h3:((cells.drop (i * 3)).take 3).length=3:=by rw[zo,A0C];omega
 have hget:∀j,j<3→((cells.drop (i * 3)).take 3)[j]? = cells[i * 3+j]? := fun j hj=>by rw[A0m hj,A0Z]
 have h0:cells[i * 3]? = some cells[i * 3]:=zW (by omega)
 obtain⟨i0,o,rfl,hlt,_⟩:=h.rd (i * 3) _ h0
 refine⟨i0,o,rfl,hlt,?_⟩
 have:=JM (o:=s.heap.get i0) ((cells.drop (i * 3)).take 3) (o+i * 3) (fun j u hj=>by
  have hj3:j<3:=by
   rcases zX j 3 with h' | h'
   ·exact h'
   ·rw[zj (by omega)]at hj;cases hj
  rw[hget j hj3]at hj
  obtain⟨i',o',e,_,g⟩:=h.rd _ u hj
  injection e with e
  injection e with e1 e2
  subst e1;subst e2
  rw[Fh]at g
  rw[A0H];exact g) (by intro e;rw[e]at h3;cases h3)
 rw[h3]at this
 rw[Wg BZ,Aw,Option.bind_some,this]
 rfl
section
variable{E:CR}{s:AE}
theorem NI(hE:GoodN E){s0:AE}(o0:Aa s0.next s0 s){v:AV}(hv:QA s0 v){K:AV→AE→Prop}(hK:∀s' w q,Aa s.next s s'→QI s0 w q 3→K w s'):WF E 31 [v] K s:=by
 obtain⟨neg,m,d,lm,ld,rfl,hm,hd,hsm,hsd⟩:=hv
 obtain⟨am,cm,rfl,xm,ym⟩:=hm
 obtain⟨ad,cd,rfl,xd,yd⟩:=hd
 refine hE.go tQ (by decide) rfl ?_
 have xm0:=xm
 have ym0:=ym
 have xd0:=xd
 have yd0:=yd
 replace xm:=xm.old o0
 replace xd:=xd.old o0
 obtain⟨n1,o1,g1,g2⟩:=EK s (BQ neg (.slice am lm.length cm) (.slice ad ld.length cd)) ZQ
 simp only[yP,mM,Xa,Xh,Bh,Xc,Ak,Qa,Qb,Qc,Qd,Qf,Qh,Qj,Ql,Qm,Qo,true_and,Qp,Qq,Qr,Qt,Qv,Rb,Rh,Rj,A1q,A1r]
 generalize newObj (newObj s (BQ neg (.slice am lm.length cm) (.slice ad ld.length cd))) ZQ=s1 at *
 have l1:=AI (P:=Tryz.prog) (t:=22) (o:=0+0+1) Cq g1 rfl
 have cut1:=RR (t:=22) Tryz.underlying22 C5 (xm.old o1) (show min lm.length 3≤lm.length by omega)
 have mm1:Ch false (iv (lm.length:Int)) [.int .i64 3]=some (iv ((min lm.length 3:Nat):Int)):=KH lm.length 3
 have st1:=CN (P:=Tryz.prog) (t:=22) (o:=0+0+1) (v:=.slice am (min lm.length 3) cm) iB g1 (by simp) rfl
 generalize hs2:setObj s1 s.next _=s2 at st1
 have g3:s2.heap.get s.next=some (BQ neg (.slice am (min lm.length 3) cm) (.slice ad ld.length cd)):=by rw[← hs2,Ww];rfl
 have g4:s2.heap.get (s.next+1)=some ZQ:=by rw[← hs2,Wx _ (by omega)];exact g2
 have o2:Aa s.next s s2:=by rw[← hs2];exact o1.set (zU _) _
 have l2:=AI (P:=Tryz.prog) (t:=22) (o:=0+2) Cq g3 rfl
 have cut2:=RR (t:=22) Tryz.underlying22 C5 (xd.old o2) (show min ld.length 3≤ld.length by omega)
 have mm2:Ch false (iv (ld.length:Int)) [.int .i64 3]=some (iv ((min ld.length 3:Nat):Int)):=KH ld.length 3
 have st2:=CN (P:=Tryz.prog) (t:=22) (o:=0+2) (v:=.slice ad (min ld.length 3) cd) iB g3 (by simp) rfl
 generalize hs3:setObj s2 s.next _=s3 at st2
 have g5:s3.heap.get s.next=some (BQ neg (.slice am (min lm.length 3) cm) (.slice ad (min ld.length 3) cd)):=by rw[← hs3,Ww];rfl
 have g6:s3.heap.get (s.next+1)=some ZQ:=by rw[← hs3,Wx _ (by omega)];exact g4
 have o3:Aa s.next s s3:=by rw[← hs3];exact o2.set (zU _) _
 have l3:=AK (P:=Tryz.prog) (t:=26) BZ Aw g5 rfl
 obtain⟨st4,ld4⟩:=BM (cs0:=[.bool false,.slice none 0 (some 0),.slice none 0 (some 0)]) rfl (x:=neg) (a:=am) (n:=min lm.length 3) (c:=cm) (b:=ad) (m:=min ld.length 3) (d:=cd) g6
 simp only[mN,mO,mP,l1,AH Tryz.underlying22,mm1,cut1,st1,l2,mm2,cut2,st2,l3,st4,ld4,EE,J6,CZ,AM,Xy,Za,Qb,Qc,Qd,Qf,Qh,Qi,Qj,Qk,Qm,Qo,true_and,Qr,Qs,Qt,Qv,Rk,Rn,Yc,A1n,A1m,A1s,A1o]
 generalize hs4:setObj s3 (s.next+1) (BQ neg (.slice am (min lm.length 3) cm) (.slice ad (min ld.length 3) cd))=s4
 have o4:Aa s.next s s4:=by rw[← hs4];exact o3.set (by omega) _
 have q1:=By.take xm0 ym0 (show min lm.length 3≤lm.length by omega)
 have q2:=By.take xd0 yd0 (show min ld.length 3≤ld.length by omega)
 exact hK s4 _ _ o4 ⟨neg,_,_,_,_,rfl,q1,q2,hsm.take _,hsd.take _,by rw[zo];omega,by rw[zo];omega,rfl⟩
end
structure Fo(s0 S:AE)(cv:AV)(D:List CW)(O:List Nat):Prop where
 buf:FD 26 3 S cv D.length (Dc D) O
 ent:∀t∈D,QI s0 t.2.2 t.2.1 3
 lo:∀j∈O,s0.next≤j
theorem Fo.nil(s0 S:AE):Fo s0 S (.slice none 0 (some 0)) [] []:=⟨FD.nil _ _ _,fun t h=>by simp at h,fun j h=>by simp at h⟩
theorem Fo.frame{s0 S S':AE}{cv:AV}{D:List CW}{O:List Nat}(h:Fo s0 S cv D O)(hn:S.next≤S'.next)(hf:∀j∈O,S'.heap.get j=S.heap.get j):Fo s0 S' cv D O:=⟨h.buf.frame hn hf,h.ent,h.lo⟩
theorem Fo.old{s0 S S':AE}{cv:AV}{D:List CW}{O:List Nat}(h:Fo s0 S cv D O)(o:Aa S.next S S'):Fo s0 S' cv D O:=h.frame o.1 fun j hj=>o.2 j (h.buf.lt j hj)
theorem Fo.rats{s0 S:AE}{cv:AV}{D:List CW}{O:List Nat}(h:Fo s0 S cv D O)(o:Aa s0.next s0 S):∃a cap,cv=.slice a (D.map fun t=>t.2.1).length cap∧Cp S a (D.map fun t=>t.2.1) 3 (Dc D)∧EB 3 S a cap (D.map fun t=>t.2.1).length:=by
 obtain⟨a,cap,rfl,hcc,hzc⟩:=h.buf.capZ
 have hl3:∀t∈D,t.2.2.cells.length=3:=fun t ht=>by
  obtain⟨_,_,_,_,_,_,_,e⟩:=(h.ent t ht).shape
  rw[e];rfl
 obtain⟨p1,p2⟩:=Hy D hl3
 refine⟨a,cap,by simp,⟨by simp[p1],hcc,fun i q hi=>?_⟩,by simpa using hzc⟩
 rw[A0N]at hi
 cases hDi:D[i]? with
 | none=>rw[hDi]at hi;cases hi
 | some t =>
  rw[hDi]at hi
  injection hi with hi
  have htm:=zw hDi
  rw[p2 i t hDi]
  obtain⟨_,_,_,_,_,_,_,e⟩:=(h.ent t htm).shape
  rw[← hi,show AV.agg t.2.2.cells=t.2.2 from by rw[e];rfl]
  exact(h.ent t htm).old o
theorem Fo.push{s0 S:AE}{cv:AV}{D:List CW}{O:List Nat}(h:Fo s0 S cv D O){r:Nat}{x:Bool}{a b:Option (Nat×Nat)}{n m:Nat}{c d:Option Nat}(hr:S.heap.get r=some (R 26 3 false [.bool x,.slice a n c,.slice b m d])){q:Rat}(hq:QI s0 (.agg [.bool x,.slice a n c,.slice b m d]) q 3)(hD:D.length≤1000000000)(ho:s0.next≤S.next):
    ∃cv' S' O',Aj Tryz.prog S [28,28] [cv,.slice (some (r,0)) 1 (some 1)]=some (cv',S')∧Fo s0 S' cv' (D++[(0,q,.agg [.bool x,.slice a n c,.slice b m d])]) O'∧S'.next=S.next+1∧(∀j,j<S.next→j ∉ O→S'.heap.get j=S.heap.get j)∧(∀j∈O',j∈O∨S.next≤j):=by
  obtain⟨v8,s8,O8,happ8,b8,n8,f8,hO8⟩:=HZ Tryz.underlying28 Aw si (by decide) QB Uy (by decide) h.buf hr rfl rfl hD
  refine⟨v8,s8,O8,happ8,⟨?_,fun t ht=>?_,fun j hj=>?_⟩,n8,f8,hO8⟩
  · have e:Dc (D++[((0:Int),q,AV.agg [.bool x,.slice a n c,.slice b m d])])=Dc D++[.bool x,.slice a n c,.slice b m d]:=by simp[Dc,AV.cells]
    rw[e,zg]
    exact b8
  · rcases A1V.1             ht with ht | ht
    · exact h.ent t ht
    · rw[A1d.1 ht];exact hq
  · rcases hO8 j hj with hj | hj
    · exact h.lo j hj
    · omega
section
variable{E:CR}{s:AE}
theorem X8        (hE : GoodN E) {s0 : AE}  {ac : Option (Nat × Nat)} {n : Nat} {cc : Option Nat} {cells : List AV} (hr : Gy    s0 ac n cells) {x1 : AV} {Q : Az   → Prop}
    (hq:∀ (S:AE) (cv:AV) (D:List CW) (O:List Nat) (y3 y4:AV),Aa s0.next s0 S→Fo s0 S cv D O→D.length≤8→Q ⟨.exit 0,[.slice ac n cc,x1,cv,y3,y4],[],S⟩):
    ∀ (r i:Nat) (S:AE) (cv:AV) (D:List CW) (O:List Nat) (x4:AV),8 - i=r→i≤8→D.length=i→Aa s0.next s0 S→Fo s0 S cv D O→WC E none (.loop eH) Q [.slice ac n cc,x1,cv,iv (i:Int),x4] [] S:=by
  intro r
  induction r with
  | zero =>
    intro i S cv D O x4 hi h8 hD ho hF
    have e:i=8:=by omega
    subst e
    refine WC.loop' ?_
    simp only[eH,tF,AH Tryz.underlying28,Qa,Qb,Qc,Qd,Qf,Qg,Qh,Qi,Qj,Qk,Qm,Qo,true_and,Qr,Qs,Qt,Qv,Qw,Qx,Rb,Rd,Re,Rs,Ru,Rw,Ry,A1s,A1w]
    by_cases hn:((8:Nat):Int)<(n:Int)
    · simp only[decide_eq_true hn,show decide (((8:Nat):Int)<8)=false from rfl,Qc,Qd,Qm,Qo,true_and,Qp,Qq,Qr,Qs,Qt,Qx,Ra,Rs,Ry]
      exact hq S cv D O _ _ ho hF (by omega)
    · simp only[decide_eq_false hn,Qd,Qm,Qo,true_and,Qp,Qq,Qr,Qs,Qu,Qx,Ra,Rs]
      exact hq S cv D O _ _ ho hF (by omega)
  | succ r ih =>
    intro i S cv D O x4 hi h8 hD ho hF
    refine WC.loop' ?_
    generalize hW:WC E none (Ac.loop eH) Q=WW
    simp only[eH,tF,AH Tryz.underlying28,Qa,Qb,Qc,Qd,Qf,Qg,Qh,Qi,Qj,Qk,Qm,Qo,true_and,Qr,Qs,Qt,Qv,Qw,Qx,Rb,Rd,Re,Rs,Ru,Rw,Ry,A1s,A1w]
    by_cases hn:(i:Int)<(n:Int)
    · have hlt : i < n := by omega
      have ix:=AX (cap:=cc) (i:=0) (o:=0) (n:=3) Tryz.underlying28 Aw hlt
      obtain⟨i0,o,rfl,hi0,ld⟩:=hr.load hlt
      have ix:=AX (cap:=cc) (i:=i0) (o:=o) (n:=3) Tryz.underlying28 Aw hlt
      have ld':AB Tryz.prog S 26 (.ptr (some (i0,o+i * 3)))=some (.agg ((cells.drop (i * 3)).take 3)):=by
        rw[Wg BZ]at ld ⊢
        rw[ho.2 i0 hi0];exact ld
      have e17:=Ax Tryz.prog 3 (i:Int) 1 ⟨by omega,by omega⟩
      have e17':((i:Int)+1)=((i+1:Nat):Int):=by omega
      simp only[decide_eq_true hn,decide_eq_true (show(i:Int)<8 by omega),wj,ix,ld',Qb,Qc,Qd,Qf,Qh,Qj,Qk,Qm,Qo,true_and,Qp,Qq,Qr,Qs,Qt,Qv,Qx,Qz,Rs,Ry,A1t,A1v,A1m,A1u,A1p]
      refine NI hE ho (hr.rat i hlt) fun s4 w q o4 hw=>?_
      obtain⟨xx,aa,nn,kk,bb,mm,ee,rfl⟩:=hw.shape
      obtain⟨n5,o5,g5⟩:=Bs s4 (R 26 3 false [.bool xx,.slice aa nn kk,.slice bb mm ee])
      have hs0:=ho.1
      have hs4:=o4.1
      simp only[GL,Xe,Qd,Qm,Qo,true_and,Qp,Qq,Qr,Qs,Yc]
      generalize newObj s4 (R 26 3 false [.bool xx,.slice aa nn kk,.slice bb mm ee])=s5 at *
      have o45:Aa S.next S s5:=o4.trans (o5.mono hs4)
      obtain⟨v6,s6,O6,happ,F6,n6,f6,hO6⟩:=(hF.old o45).push g5 hw (by omega) (by omega)
      simp only[happ,wo,e17,e17',Qb,Qc,Qd,Qf,Qh,Qi,Qj,Qk,Qm,Qo,true_and,Qp,Qq,Qr,Qs,Qt,Qv,A1t,A1p]
      rw[← hW]
      refine ih (i+1) s6 v6 _ O6 _ (by omega) (by omega) (by simp[hD]) ⟨by omega,fun j hj=>?_⟩ F6
      rw[f6 j (by omega) (fun h=>by have:=hF.lo j h;omega),o45.2 j (by omega),ho.2 j hj]
    · simp only[decide_eq_false hn,Qd,Qm,Qo,true_and,Qp,Qq,Qr,Qs,Qu,Qx,Ra,Rs]
      exact hq S cv D O _ _ ho hF (by omega)
theorem kq(hE:GoodN E){s0:AE}(o0:Aa s0.next s0 s){ac:Option (Nat×Nat)}{n:Nat}{cc:Option Nat}{cells:List AV}(hr:Gy s0 ac n cells){K:AV→AE→Prop}
  (hK:∀ (s':AE) (a:Option (Nat×Nat)) (cap:Option Nat) (wals:List Rat) (cells':List AV),Aa s.next s s'→Cp s' a wals 3 cells'→EB 3 s' a cap wals.length→wals.length≤8→K (.slice a wals.length cap) s'):WF E 8 [.slice ac n cc] K s:=by
 refine hE.go xC (by decide) rfl ?_
 simp only[c8,we,wg,wh,Qa,Qb,Qc,Qd,Qf,Qh,Qi,Qj,Ql,Qm,Qo,true_and,Qp,Qq,Qt,Qv,Rb,Rh,Rk,Rm,Rn,Yc,A1p]
 have hr':Gy s ac n cells:=hr.old o0
 refine X8 hE hr' (fun S cv D O y3 y4 hS hF hD=>?_) 8 0 s (.slice none 0 (some 0)) [] [] _ rfl (by omega) rfl (Aa.refl _ _) (Fo.nil _ _)
 obtain⟨a,cap,rfl,h1,h2⟩:=hF.rats hS
 simp only[wp,if_true,Qb,Qc,Qd,Qf,Qh,Qj,Qm,Qo,true_and,Qp,Qq,Qr,Qs,Qt,Qv,Rb,Rd,Rg,Rj,A1p]
 exact hK S a cap _ _ hS h1 h2 (by simpa using hD)
end
def LA(s:AE)(v:AV):Prop:=∃x a n c b m d av vs capv ac nc capc cells,v=.agg [.bool x,.slice a n c,.slice b m d,.slice av (List.length vs) capv,.slice ac nc capc]∧QA s (.agg [.bool x,.slice a n c,.slice b m d])∧AS s.next s av (vs.map iv)∧(∀n∈vs,i64 n)∧EB 1 s av capv vs.length∧Gy s ac nc cells
theorem LA.old{s s':AE}{v:AV}(h:LA s v)(o:Aa s.next s s'):LA s' v:=by
 obtain⟨x,a,n,c,b,m,d,av,vs,capv,ac,nc,capc,cells,h1,h2,h3,h4,h5,h6⟩:=h
 exact⟨x,a,n,c,b,m,d,av,vs,capv,ac,nc,capc,cells,h1,h2.old o,(h3.old o (zU _)).mono o.1,h4,h5.old o,h6.old o⟩
theorem QY(x:Bool)(a b av:Option (Nat×Nat))(n m nv:Nat)(c d cv:Option Nat):Be Tryz.prog 30 (zipIdx [0,1] [.agg [.bool x,.slice a n c,.slice b m d],.slice av nv cv])=some (.agg [.bool x,.slice a n c,.slice b m d,.slice av nv cv,.slice none 0 (some 0)]):=by kernel_rfl
theorem Gd{b:Nat}{s:AE}{a:Option (Nat×Nat)}{cs:List AV}(h:AS b s a cs)(k:Nat):AS b s a (cs.take k):=fun j u hj=>by
 rw[A1P]at hj
 split at hj
 ·exact h j u hj
 ·cases hj
section
variable{E:CR}{s:AE}
theorem fS       (hE : GoodN E) {s0 : AE}  {p1 p3 : Nat} {x1 x3 : Bool} {a b av a3 b3 av3 : Option (Nat × Nat)} {n m nv n3 m3 nv3 : Nat} {c d capv c3 d3 capv3 : Option Nat} {ac : Option (Nat × Nat)} {nc : Nat} {cc : Option Nat} {cells : List AV} (hr : Gy    s0 ac nc cells) (h1 : s0.next ≤ p1) (h3 : p1 < p3) {y0 y2 : AV} {Q : Az   → Prop}
    (hq:∀ (S:AE) (cv:AV) (D:List CW) (O:List Nat) (y4 y5:AV),Aa s0.next s0 S→(∀j,j<p3→S.heap.get j=s.heap.get j)→p3<S.next→S.heap.get p3=some (BL x3 (.slice a3 n3 c3) (.slice b3 m3 d3) (.slice av3 nv3 capv3) cv)→Fo s0 S cv D O→(∀j∈O,p3<j)→D.length≤8→Q ⟨.exit 0,[y0,.ptr (some (p1,0)),y2,.ptr (some (p3,0)),y4,y5],[],S⟩)
    (g1:s.heap.get p1=some (BL x1 (.slice a n c) (.slice b m d) (.slice av nv capv) (.slice ac nc cc))):
    ∀ (r i:Nat) (S:AE) (cv:AV) (D:List CW) (O:List Nat) (z5:AV),8 - i=r→i≤8→D.length=i→Aa s0.next s0 S→(∀j,j<p3→S.heap.get j=s.heap.get j)→p3<S.next→S.heap.get p3=some (BL x3 (.slice a3 n3 c3) (.slice b3 m3 d3) (.slice av3 nv3 capv3) cv)→Fo s0 S cv D O→(∀j∈O,p3<j)→WC E none (.loop eE) Q [y0,.ptr (some (p1,0)),y2,.ptr (some (p3,0)),iv (i:Int),z5] [] S:=by
  intro r
  induction r with
  | zero =>
    intro i S cv D O x4 hi h8 hD ho hf hn3 g3 hF hO
    have e:i=8:=by omega
    subst e
    have l1:=AI (P:=Tryz.prog) (t:=28) (o:=0+4) EN ((hf p1 h3).trans g1) rfl
    refine WC.loop' ?_
    simp only[eE,tE,l1,DE,AH Tryz.underlying28,Qa,Qb,Qc,Qd,Qf,Qg,Qh,Qi,Qj,Qk,Qm,Qo,true_and,Qr,Qs,Qt,Qv,Qw,Qx,Rb,Rd,Re,Rs,Ru,Rw,Ry,A1n,A1m,A1s,A1w]
    by_cases hn:((8:Nat):Int)<(nc:Int)
    · simp only[decide_eq_true hn,show decide (((8:Nat):Int)<8)=false from rfl,Qc,Qd,Qm,Qo,true_and,Qp,Qq,Qr,Qs,Qt,Qx,Ra,Rs,Ry]
      exact hq S cv D O _ _ ho hf hn3 g3 hF hO (by omega)
    · simp only[decide_eq_false hn,Qd,Qm,Qo,true_and,Qp,Qq,Qr,Qs,Qu,Qx,Ra,Rs]
      exact hq S cv D O _ _ ho hf hn3 g3 hF hO (by omega)
  | succ r ih =>
    intro i S cv D O x4 hi h8 hD ho hf hn3 g3 hF hO
    have l1:=AI (P:=Tryz.prog) (t:=28) (o:=0+4) EN ((hf p1 h3).trans g1) rfl
    refine WC.loop' ?_
    generalize hW:WC E none (Ac.loop eE) Q=WW
    simp only[eE,tE,l1,DE,AH Tryz.underlying28,Qa,Qb,Qc,Qd,Qf,Qg,Qh,Qi,Qj,Qk,Qm,Qo,true_and,Qr,Qs,Qt,Qv,Qw,Qx,Rb,Rd,Re,Rs,Ru,Rw,Ry,A1n,A1m,A1s,A1w]
    by_cases hn:(i:Int)<(nc:Int)
    · have hlt:i<nc:=by omega
      obtain⟨i0,o,rfl,hi0,ld⟩:=hr.load hlt
      have ix:=AX (cap:=cc) (i:=i0) (o:=o) (n:=3) Tryz.underlying28 Aw hlt
      have ld':AB Tryz.prog S 26 (.ptr (some (i0,o+i * 3)))=some (.agg ((cells.drop (i * 3)).take 3)):=by
        rw[Wg BZ]at ld ⊢
        rw[ho.2 i0 hi0];exact ld
      have e17:=Ax Tryz.prog 3 (i:Int) 1 ⟨by omega,by omega⟩
      have e17':((i:Int)+1)=((i+1:Nat):Int):=by omega
      have l3:=AI (P:=Tryz.prog) (t:=28) (o:=0+4) EN g3 rfl
      simp only[decide_eq_true hn,decide_eq_true (show(i:Int)<8 by omega),wX,l1,l3,DE,ix,ld',Qb,Qc,Qd,Qf,Qh,Qj,Qk,Qm,Qo,true_and,Qp,Qq,Qr,Qs,Qt,Qv,Qx,Qz,Rs,Ry,A1n,A1m,A1v,A1o]
      refine NI hE ho (hr.rat i hlt) fun s4 w q o4 hw=>?_
      have hs0:=ho.1
      have hs4:=o4.1
      have l3':=AI (P:=Tryz.prog) (t:=28) (o:=0+4) EN ((o4.2 p3 hn3).trans g3) rfl
      obtain⟨_,_,ecv,_⟩:=hF.buf.slice
      refine⟨⟨Au (by simp only[Qk,Qr,Qs];exact l3') (by simp only[Qk,Qr,Qs];rw[ecv];exact A8 _ _ _),trivial⟩,?_⟩
      obtain⟨xx,aa,nn,kk,bb,mm,ee,rfl⟩:=hw.shape
      obtain⟨n5,o5,g5⟩:=Bs s4 (R 26 3 false [.bool xx,.slice aa nn kk,.slice bb mm ee])
      simp only[GL,Xe,Qm,Qr,Qs,Yc]
      generalize newObj s4 (R 26 3 false [.bool xx,.slice aa nn kk,.slice bb mm ee])=s5 at *
      have o45:Aa S.next S s5:=o4.trans (o5.mono hs4)
      obtain⟨v6,s6,O6,happ,F6,n6,f6,hO6⟩:=(hF.old o45).push g5 hw (by omega) (by omega)
      have hp3:p3 ∉ O:=fun h=>by have:=hO p3 h;omega
      have g6:s6.heap.get p3=some (BL x3 (.slice a3 n3 c3) (.slice b3 m3 d3) (.slice av3 nv3 capv3) cv):=by rw[f6 p3 (by omega) hp3,o45.2 p3 hn3];exact g3
      obtain⟨_,_,ev6,_⟩:=F6.buf.slice
      have st7:=CN (P:=Tryz.prog) (t:=28) (o:=0+4) (v:=v6) ke g6 (by simp) (by rw[ev6];rfl)
      simp only[happ,st7,DE,wY,e17,e17',Xy,Za,Qb,Qc,Qd,Qf,Qh,Qi,Qj,Qk,Qm,Qo,true_and,Qp,Qq,Qr,Qs,Qt,Qv,A1t,A1p]
      generalize hs7:setObj s6 p3 _=s7
      have f7:∀j,j≠p3→s7.heap.get j=s6.heap.get j:=fun j hj=>by rw[← hs7,Wx _ hj]
      have n7:s7.next=s6.next:=by rw[← hs7];rfl
      have g7:s7.heap.get p3=some (BL x3 (.slice a3 n3 c3) (.slice b3 m3 d3) (.slice av3 nv3 capv3) v6):=by rw[← hs7,Ww];rfl
      have hO6':∀j∈O6,p3<j:=fun j hj=>by
        rcases hO6 j hj with h | h
        · exact hO j h
        · omega
      rw[← hW]
      refine ih (i+1) s7 v6 _ O6 _ (by omega) (by omega) (by simp[hD]) ⟨by omega,fun j hj=>?_⟩ (fun j hj=>?_) (by omega) g7 (F6.frame (by omega) fun j hj=>f7 j (by have:=hO6' j hj;omega)) hO6'
      · rw[f7 j (by omega),f6 j (by omega) (fun h=>by have:=hF.lo j h;omega),o45.2 j (by omega),ho.2 j hj]
      · rw[f7 j (by omega),f6 j (by omega) (fun h=>by have:=hO j h;omega),o45.2 j (by omega),hf j hj]
    · simp only[decide_eq_false hn,Qd,Qm,Qo,true_and,Qp,Qq,Qr,Qs,Qu,Qx,Ra,Rs]
      exact hq S cv D O _ _ ho hf hn3 g3 hF hO (by omega)
theorem fT(hE:GoodN E){s0:AE}(o0:Aa s0.next s0 s){v:AV}(hv:LA s0 v){K:AV→AE→Prop}
  (hK:∀ (s':AE) (w:AV) (C:Rat) (vs:List Int) (cs:List Rat),Aa s.next s s'→(∀s'',s'.next≤s''.next→(∀j,j<s'.next→j<s0.next∨s.next≤j→s''.heap.get j=s'.heap.get j)→LI s'' w C vs cs 3)→vs.length≤8→cs.length≤8→K w s'):WF E 7 [v] K s:=by
 obtain⟨x,a,n,c,b,m,d,av,vs,capv,ac,nc,capc,cells,rfl,hC,hvs0,hi,hcap0,hcs⟩:=hv
 have hcap:=hcap0.old o0
 have hs0:=o0.1
 refine hE.go xB (by decide) rfl ?_
 obtain⟨n1,o1,g1,g2⟩:=EK s (BL x (.slice a n c) (.slice b m d) (.slice av vs.length capv) (.slice ac nc capc)) ZL
 obtain⟨n3,o3,g3⟩:=Bs (newObj (newObj s (BL x (.slice a n c) (.slice b m d) (.slice av vs.length capv) (.slice ac nc capc))) ZL) ZL
 simp only[c7,wU,Xa,Xh,ED,Xc,Ak,Qa,Qb,Qc,Qd,Qf,Qh,Qj,Ql,Qm,Qo,true_and,Qp,Qq,Qr,Qt,Qv,Rb,Rh,A1q,A1r]
 generalize hs1:newObj (newObj s (BL x (.slice a n c) (.slice b m d) (.slice av vs.length capv) (.slice ac nc capc))) ZL=s1 at *
 have l1:AB Tryz.prog s1 26 (.ptr (some (s.next,0+0)))=some (.agg [.bool x,.slice a n c,.slice b m d]):=Al (o:=0) (n:=3) BZ Aw g1 (by simp)
 have l2:=AI (P:=Tryz.prog) (t:=27) (o:=0+3) D6 g1 rfl
 have cut2:=Kf Tryz.underlying27 Jm (by decide) (hcap.old o1) (show min vs.length 8≤vs.length by omega)
 have mm2:Ch false (iv (vs.length:Int)) [.int .i64 8]=some (iv ((min vs.length 8:Nat):Int)):=KH vs.length 8
 simp only[wV,l1,l2,cut2,mm2,AH Tryz.underlying27,HJ,CE,ED,Xc,Qb,Qc,Qd,Qf,Qh,Qi,Qj,Qk,Qm,Qo,true_and,Qp,Qq,Qr,Qs,Qt,Qv,A1n,A1m,A1s,A1r,A1o]
 generalize hs3:newObj s1 ZL=s3 at *
 have o13:Aa s.next s s3:=o1.trans (o3.mono o1.1)
 refine NI hE (o0.trans (o13.mono hs0)) hC fun s4 w q o4 hw=>?_
 obtain⟨xx,aa,nn,kk,bb,mm,ee,rfl⟩:=hw.shape
 have k1:=(o4.2 s.next (by omega)).trans ((o3.2 s.next (by omega)).trans g1)
 have l2':=AI (P:=Tryz.prog) (t:=27) (o:=0+3) D6 k1 rfl
 have o14:Aa s.next s s4:=o13.trans (o4.mono o13.1)
 have cut2':=Kf Tryz.underlying27 Jm (by decide) (hcap.old o14) (show min vs.length 8≤vs.length by omega)
 have g4:s4.heap.get s1.next=some ZL:=(o4.2 s1.next (by omega)).trans g3
 have hs4:=o4.1
 have hs13:=o13.1
 refine⟨⟨?_,?_,?_,?_,trivial⟩,?_⟩
 ·simp only[Ff,cut2',Ao,A8,Qh,Qk,Qr,Qs]
 ·simp only[Ff,AH Tryz.underlying27,Ao,MF,Qh,Qk,Qr,Qs]
 ·exact Au (by simp only[Qk,Qr,Qs];exact l2') (by simp only[Qk,Qr,Qs];exact A8 _ _ _)
 ·exact Au (by simp only[Qk,Qr,Qs];exact l2') (by simp only[Qk,Qr,Qs];exact A8 _ _ _)
 obtain⟨st5,_⟩:=Bz (cs0:=[.bool false,.slice none 0 (some 0),.slice none 0 (some 0),.slice none 0 (some 0),.slice none 0 (some 0)]) rfl (x:=xx) (a:=aa) (n:=nn) (c:=kk) (b:=bb) (m:=mm) (d:=ee) (av:=av) (nv:=min vs.length 8) (cv:=capv) (ac:=none) (nc:=0) (cc:=some 0) g4
 simp only[wW,QY,st5,Xy,Za,Qb,Qc,Qd,Qf,Qh,Qi,Qm,Qo,true_and,Qp,Qq,Qr,Qs,Qt,Qv,A1p]
 generalize hs5:setObj s4 s1.next _=s5
 have g5:s5.heap.get s1.next=some (BL xx (.slice aa nn kk) (.slice bb mm ee) (.slice av (min vs.length 8) capv) (.slice none 0 (some 0))):=by rw[← hs5,Ww]
 have f5:∀j,j≠s1.next→s5.heap.get j=s4.heap.get j:=fun j hj=>by rw[← hs5,Wx _ hj]
 have n5:s5.next=s4.next:=by rw[← hs5];rfl
 have o15:Aa s.next s s5:=⟨by omega,fun j hj=>by rw[f5 j (by omega),o14.2 j hj]⟩
 refine fS hE (s:=s5) (s0:=s0) (p1:=s.next) (p3:=s1.next) hcs hs0 (by omega) (fun S cv D O y4 y5 hS hf hn3 gS hF hO hD=>?_) ((f5 s.next (by omega)).trans k1) 8 0 s5 _ [] [] _ rfl (by omega) rfl (o0.trans (o15.mono hs0)) (fun _ _=>rfl) (by omega) g5 (Fo.nil _ _) (fun j h=>by simp at h)
 obtain⟨a9,cap9,rfl,hr9,hz9⟩:=hF.rats hS
 have lS:=AK (P:=Tryz.prog) (t:=30) D7 Do gS rfl
 have gz:S.heap.get (s.next+1)=some ZL:=by
  rw[hf _ (by omega),f5 _ (by omega),o4.2 _ (by omega),o3.2 _ (by omega)]
  exact g2
 obtain⟨st9,ld9⟩:=Bz (cs0:=[.bool false,.slice none 0 (some 0),.slice none 0 (some 0),.slice none 0 (some 0),.slice none 0 (some 0)]) rfl (x:=xx) (a:=aa) (n:=nn) (c:=kk) (b:=bb) (m:=mm) (d:=ee) (av:=av) (nv:=min vs.length 8) (cv:=capv) (ac:=a9) (nc:=(D.map fun t=>t.2.1).length) (cc:=cap9) gz
 simp only[wZ,if_true,lS,st9,ld9,AM,Xy,Za,Qb,Qc,Qd,Qf,Qh,Qj,Qk,Qm,Qo,true_and,Qr,Qs,Qt,Qv,Rb,Rd,Rg,Rj,Rk,Rn,Yc,A1m,A1o]
 generalize hs8:setObj S (s.next+1) _=s8
 have oS:Aa s.next s S:=⟨by have:=hn3;omega,fun j hj=>by rw[hf j (by omega)];exact o15.2 j hj⟩
 have o8:Aa s.next s s8:=by rw[← hs8];exact oS.set (by omega) _
 have hzO:s.next+1 ∉ O:=fun h=>by have:=hO _ h;omega
 have hF8:Fo s0 s8 (.slice a9 (D.map fun t=>t.2.1).length cap9) D O:=hF.frame (by rw[← hs8];exact zU _) fun j hj=>by rw[← hs8,Wx _ (by rintro rfl;exact hzO hj)]
 have hlen:(vs.take 8).length=min vs.length 8:=by rw[zo];omega
 refine hK s8 _ q (vs.take 8) (D.map fun t=>t.2.1) o8 (fun s'' hn'' hf''=>?_) (by omega) (by simpa using hD)
 have h08:=o8.1
 have o'':Aa s0.next s0 s'':=⟨by omega,fun j hj=>by rw[hf'' j (by omega) (.inl hj),o8.2 j (by omega),o0.2 j hj]⟩
 have hF9:Fo s0 s'' (.slice a9 (D.map fun t=>t.2.1).length cap9) D O:=hF8.frame hn'' fun j hj=>hf'' j (hF8.buf.lt j hj) (.inr (by have:=hO j hj;omega))
 obtain⟨a9',cap9',e9,hr8,hz8⟩:=hF9.rats o''
 injection e9 with e9 _ e9'
 subst e9;subst e9'
 refine⟨xx,aa,nn,kk,bb,mm,ee,av,capv,a9,cap9,Dc D,by rw[hlen],hw.old o'',?_,fun z hz=>hi z (List.take_subset _ _ hz),hr8,by rw[hlen];exact(hcap0.less (by omega)).old o'',hz8⟩
 rw[A0z]
 exact Gd ((hvs0.old o'' (zU _)).mono o''.1) 8
end
theorem WL{n:Int}:∀ {T:List CW},(BD T).Nodup→n ∉ BD (FT n T)
 | [],_=>fun h=>by cases h
 | t::T,h=>by
  obtain⟨h1,h2⟩:=List.nodup_cons.1 (show(t.1::BD T).Nodup from h)
  show n ∉ BD (if n=t.1 then T else t::FT n T)
  by_cases e:n=t.1
  ·rw[if_pos e,e];exact h1
  ·rw[if_neg e]
   show n ∉ t.1::BD (FT n T)
   intro h'
   rcases List.mem_cons.1 h' with h' | h'
   ·exact e h'
   ·exact WL h2 h'
theorem OI(n:Int):∀ (l:List Int)(i:Nat),(D9 n l i=-1∧D9 n l (i+1)=-1)∨(D9 n l (i+1)=D9 n l i+1∧0≤D9 n l i)
 | [],i=>.inl ⟨rfl,rfl⟩
 | x::l,i=>by
  unfold D9
  by_cases h:n=x
  ·rw[if_pos h,if_pos h];exact .inr ⟨rfl,by omega⟩
  ·rw[if_neg h,if_neg h]
   exact OI n l (i+1)
theorem YQ(n:Int)(vars:List Int)(q:Rat)(wals:List Rat):E3 (n::vars) (q::wals) n=q:=by
 have e:D9 n (n::vars) 0=0:=by unfold D9;rw[if_pos rfl];rfl
 unfold E3
 rw[e,if_pos ⟨Int.le_refl _,by simp⟩]
 rfl
theorem YT{n m:Int}(h:m≠n)(vars:List Int)(q:Rat)(wals:List Rat):E3 (n::vars) (q::wals) m=E3 vars wals m:=by
  have e:D9 m (n::vars) 0=D9 m vars 1:=by
    show(if m=n then ((0:Nat):Int)else D9 m vars (0+1))=_
    rw[if_neg h]
  unfold E3
  rw[e]
  rcases OI m vars 0 with⟨h1,h2⟩ | ⟨h1,h2⟩
  · rw[h1,h2,if_neg (by omega),if_neg (by omega)]
  · rw[h1,A0G]
    by_cases h3:D9 m vars 0<(wals.length:Int)
    · rw [if_pos ⟨by omega, by omega⟩, if_pos ⟨h2, h3⟩]
      rw[show(D9 m vars 0+1).toNat=(D9 m vars 0).toNat+1 by omega,List.getD_cons_succ]
    · rw[if_neg (by omega),if_neg (by omega)]
end
end Go.Proofs.YtjnkfbpadpmakaaGreatDoor.Am
