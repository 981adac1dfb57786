/- States that are told by the objects that came to be: reads, writes and new objects by rewriting; conditions: none. -/
import Derived.Test.YtjnkfbpadpmakaaGreatDoorAmM04
import Derived.Test.YtjnkfbpadpmakaaGreatDoorAmM01
import Derived.Test.YtjnkfbpadpmakaaGreatDoorProg
set_option linter.unusedVariables false
set_option linter.unusedSimpArgs false
namespace Go.Proofs.YtjnkfbpadpmakaaGreatDoor.Am
open Go
noncomputable section
section
variable{α:Type}
theorem AZ.setF_succ(v:Option α)(f:Nat)(t:AZ α)(k:Nat):AZ.setF v (f+1) t (k+1)=if k % 2=0 then .node t.val (AZ.setF v f t.left (k / 2)) t.right else .node t.val t.left (AZ.setF v f t.right (k / 2)):=by
 by_cases h:k % 2=0
 ·have hb:Nat.beq (k % 2) 0=true:=by rw[h];rfl
  simp only[AZ.setF,hb,cond_true,AZ.nodeL_eq,AZ.nodeR_eq]
  rw[if_pos h]
 ·have hb:Nat.beq (k % 2) 0=false:=AZ.beq_no h
  simp only[AZ.setF,hb,cond_false,AZ.nodeL_eq,AZ.nodeR_eq]
  rw[if_neg h]
theorem AZ.setF_fuel   (v : Option α) : ∀ (f g : Nat) (t : AZ   α) (k : Nat), k < f → k < g → AZ.setF   v f t k = AZ.setF   v g t k := by
  intro f
  induction f with
  | zero=>intro g t k h;omega
  | succ f ih =>
    intro g t k h1 h2
    cases g with
    | zero=>omega
    | succ g =>
      cases k with
      | zero=>rfl
      | succ k =>
        rw[AZ.setF_succ,AZ.setF_succ,ih g t.left (k / 2) (by omega) (by omega),ih g t.right (k / 2) (by omega) (by omega)]
theorem AZ.setF_same(v w:Option α):∀ (f:Nat)(t:AZ α)(k:Nat),k<f→AZ.setF w f (AZ.setF v f t k) k=AZ.setF w f t k:=by
 intro f
 induction f with
 | zero=>intro t k h;omega
 | succ f ih =>
  intro t k h
  cases k with
  | zero=>rfl
  | succ k =>
   rw[AZ.setF_succ,AZ.setF_succ,AZ.setF_succ]
   by_cases hk:k % 2=0
   ·simp only[hk,if_true,AZ.val,AZ.left,AZ.right];rw[ih _ _ (by omega)]
   ·simp only[hk,if_false,AZ.val,AZ.left,AZ.right];rw[ih _ _ (by omega)]
theorem AZ.setF_comm   (v w : Option α) : ∀ (f : Nat) (t : AZ   α) (k j : Nat), k < f → j < f → k ≠ j → AZ.setF   w f (AZ.setF   v f t k) j = AZ.setF   v f (AZ.setF   w f t j) k := by
  intro f
  induction f with
  | zero=>intro t k j h;omega
  | succ f ih =>
    intro t k j h1 h2 hne
    cases k with
    | zero =>
      cases j with
      | zero=>omega
      | succ j =>
        rw[AZ.setF_succ,AZ.setF_succ]
        by_cases hj:j % 2=0
        · simp only[hj,if_true,AZ.setF,AZ.val,AZ.left,AZ.right]
        · simp only[hj,if_false,AZ.setF,AZ.val,AZ.left,AZ.right]
    | succ k =>
      cases j with
      | zero =>
        rw[AZ.setF_succ,AZ.setF_succ]
        by_cases hk:k % 2=0
        · simp only[hk,if_true,AZ.setF,AZ.val,AZ.left,AZ.right]
        · simp only[hk,if_false,AZ.setF,AZ.val,AZ.left,AZ.right]
      | succ j =>
        simp only[AZ.setF_succ]
        by_cases hk:k % 2=0<;>by_cases hj:j % 2=0
        · simp only[hk,hj,if_true,AZ.val,AZ.left,AZ.right];rw[ih _ _ _ (by omega) (by omega) (by omega)]
        · simp only[hk,hj,if_true,if_false,AZ.val,AZ.left,AZ.right]
        · simp only[hk,hj,if_true,if_false,AZ.val,AZ.left,AZ.right]
        · simp only[hk,hj,if_false,AZ.val,AZ.left,AZ.right];rw[ih _ _ _ (by omega) (by omega) (by omega)]
theorem AZ.set_same(t:AZ α)(k:Nat)(v w:α):(t.set k v).set k w=t.set k w:=AZ.setF_same _ _ _ _ _ (by omega)
theorem AZ.set_comm(t:AZ α){k j:Nat}(h:k≠j)(v w:α):(t.set k v).set j w=(t.set j w).set k v:=by
 unfold AZ.set AZ.put
 rw[AZ.setF_fuel _ (k+1) (k+j+1) t k (by omega) (by omega),AZ.setF_fuel _ (j+1) (k+j+1) _ j (by omega) (by omega),AZ.setF_fuel _ (j+1) (k+j+1) t j (by omega) (by omega),AZ.setF_fuel _ (k+1) (k+j+1) _ k (by omega) (by omega)]
 exact AZ.setF_comm _ _ _ _ _ _ (by omega) (by omega) h
theorem AZ.fill_set_below(l:List α):∀ (t:AZ α)(k j:Nat)(v:α),j<k→(t.fill k l).set j v=(t.set j v).fill k l:=by
 induction l with
 | nil=>intro t k j v _;rfl
 | cons a l ih =>
  intro t k j v h
  simp only[AZ.fill]
  rw[ih _ _ _ _ (by omega),AZ.set_comm t (by omega)]
theorem AZ.fill_set(l:List α):∀ (t:AZ α)(k i:Nat)(v:α),i<l.length→(t.fill k l).set (k+i) v=t.fill k (l.set i v):=by
  induction l with
  | nil=>intro t k i v h;simp at h
  | cons a l ih =>
    intro t k i v h
    cases i with
    | zero =>
      simp only[AZ.fill,yF,zF]
      rw[AZ.fill_set_below _ _ _ _ _ (by omega),AZ.set_same]
    | succ i =>
      simp only[AZ.fill,List.set_cons_succ]
      rw[show k+(i+1)=k+1+i from by omega]
      exact ih _ _ _ _ (by simpa using h)
end
def Ue(l:List AV):AZ AV:=AZ.fill .leaf 0 l
theorem Ph(l:List AV)(k:Nat):(Ue l).get k=l[k]? := by
 unfold Ue
 rw[AZ.get_fill]
 by_cases h:k<l.length
 ·rw[if_pos ⟨xg _,by omega⟩];rfl
 ·rw[if_neg (by omega),xr (by omega)];rfl
def EB(cs:List AV)(off:Nat)(vs:List AV):List AV:=match vs with
 | []=>cs
 | v::vs=>EB (cs.set off v) (off+1) vs
theorem IC:∀ (vs cs:List AV)(off:Nat),(EB cs off vs).length=cs.length
 | [],_,_=>rfl
 | v::vs,cs,off=>by unfold EB;rw[IC];simp
theorem SL:∀ (vs cs:List AV)(off:Nat),off+vs.length≤cs.length→(Ue cs).fill off vs=Ue (EB cs off vs)
 | [],_,_,_=>rfl
 | v::vs,cs,off,h=>by
  simp only[AZ.fill,EB]
  have e:(Ue cs).set off v=Ue (cs.set off v):=by
   unfold Ue
   have:=AZ.fill_set cs .leaf 0 off v (by simp at h;omega)
   rwa[xu]at this
  rw[e]
  exact SL vs _ _ (by simp at h ⊢;omega)
theorem M3         : ∀ (vs cs : List AV) (off k : Nat), off + vs.length ≤ cs.length → (EB     cs off vs)[k]? = if off ≤ k ∧ k < off + vs.length then vs[k - off]? else cs[k]?
  | [],cs,off,k,_=>by simp[EB];omega
  | v::vs,cs,off,k,h=>by
    simp only[yU]at h
    simp only[EB]
    rw[M3 vs _ _ _ (by simp;omega)]
    by_cases h1:off+1≤k∧k<off+1+vs.length
    · rw[if_pos h1,if_pos (by simp;omega),show k - off=(k - (off+1))+1 from by omega];rfl
    · rw[if_neg h1]
      by_cases h2:k=off
      · subst h2
        rw[if_pos (by simp),A0J (by omega)]
        simp
      · rw[if_neg (by simp;omega),zR (Ne.symm h2)]
def R(e sz:Nat)(sp:Bool)(cs:List AV):BD:=.row { elem:=e,sz,n:=cs.length,c:=Ue cs,spare:=sp,mode:=.own,par:=none,bytes:=true }
theorem UH(e sz:Nat)(cs:List AV):Cs e sz (AZ.fill .leaf 0 cs) cs.length none true=R e sz true cs:=rfl
theorem Ww(s:AE)(i:Nat)(o:BD):(setObj s i o).heap.get i=some o:=by
 show(s.heap.set i o).get i=_
 rw[AZ.get_set,if_pos rfl]
theorem Wx{s:AE}{i j:Nat}(o:BD)(h:j≠i):(setObj s i o).heap.get j=s.heap.get j:=by
 show(s.heap.set i o).get j=_
 rw[AZ.get_set,if_neg h]
def gO:Option BD→Option D2
 | some (.row r)=>some r
 | _=>none
def Nv(o:Option BD)(off:Nat):Option AV:=(gO o).bind fun r=>AP (Nat.blt off r.n) (r.c.get off)
def ML(o:Option BD)(off n:Nat):Option (List AV):=(gO o).bind fun r=>AP (Nat.ble (off+n) r.n) (r.c.take off n)
def mapO(kt:TypeId):Option BD→Option (List (AV×AV))
 | some (.map kt' es)=>AP (Nat.beq kt' kt) (some es)
 | _=>none
theorem kC(s:AE)(i:Nat):rowAt s i=gO (s.heap.get i):=rfl
theorem E2(s:AE)(i off:Nat):DA s i off=Nv (s.heap.get i) off:=rfl
theorem I9(s:AE)(i off n:Nat):CI s i off n=ML (s.heap.get i) off n:=rfl
theorem Wo(e sz:Nat)(sp:Bool)(cs:List AV)(off:Nat):Nv (some (R e sz sp cs)) off=cs[off]? := by
 show AP (Nat.blt off cs.length) ((Ue cs).get off)=_
 rw[Ph]
 by_cases h:off<cs.length
 ·have:Nat.blt off cs.length=true:=by rw[yI];exact h
  rw[this];rfl
 ·have:Nat.blt off cs.length=false:=by
   cases hb:Nat.blt off cs.length with
   | false=>rfl
   | true=>rw[yI]at hb;exact absurd hb h
  rw[this,xr (by omega)];rfl
theorem Sv:∀ (n:Nat)(cs:List AV)(off:Nat),off+n≤cs.length→(Ue cs).take off n=some ((cs.drop off).take n)
 | 0,cs,off,_=>by simp[AZ.take]
 | n+1,cs,off,h=>by
  have hg:cs[off]? = some cs[off]:=xe (by omega)
  simp only[AZ.take,Ph,hg,Sv n cs (off+1) (by omega)]
  rw[show cs.drop off=cs[off]::cs.drop (off+1)from(yV (by omega))]
  rfl
theorem Wp{e sz:Nat}{sp:Bool}{cs:List AV}{off n:Nat}(h:off+n≤cs.length):ML (some (R e sz sp cs)) off n=some ((cs.drop off).take n):=by
 show AP (Nat.ble (off+n) cs.length) ((Ue cs).take off n)=_
 have:Nat.ble (off+n) cs.length=true:=by rw[xo];exact h
 rw[this,Sv n cs off h];rfl
theorem M5{s:AE}{i off e sz:Nat}{sp:Bool}{cs vs:List AV}(hg:s.heap.get i=some (R e sz sp cs))(h:off+vs.length≤cs.length)(ha:An vs=true):
  Cv s i off vs=some (match vs with | []=>s | _::_=>setObj s i (R e sz sp (EB cs off vs))):=by
 cases vs with
 | nil=>rfl
 | cons v vs =>
  have hb:Nat.ble (off+(v::vs).length) cs.length=true:=by rw[xo];exact h
  show(rowAt s i).bind _=_
  rw[kC,hg]
  show AP (D8 .own && Nat.ble (off+(v::vs).length) cs.length && An (v::vs)) _=_
  rw[hb,ha]
  show some (setObj s i _)=some (setObj s i _)
  rw[show R e sz sp (EB cs off (v::vs))=BD.row { elem:=e,sz,n:=(EB cs off (v::vs)).length,c:=Ue (EB cs off (v::vs)),spare:=sp,mode:=.own,par:=none,bytes:=true }from rfl,IC,← SL _ _ _ h]
def CM(e:TypeId)(s:AE)(v:AV)(n sz:Nat)(cs:List AV)(O:List Nat):Prop:=
 (∃a,v=.slice a n (some n)∧O=[]∧cs.length=n * sz∧(a=none→n=0)∧∀i o,a=some (i,o)→i<s.next∧CI s i o (n * sz)=some cs) ∨
 (∃i p,v=.slice (some (i,0)) n none∧Gt e 0 s.next s v n sz cs i p∧O=i::p.toList)
theorem CM.nil{e:TypeId}(s:AE)(sz:Nat):CM e s (.slice none 0 (some 0)) 0 sz [] []:=.inl ⟨none,rfl,rfl,by simp,fun _=>rfl,fun i o h=>by cases h⟩
theorem CM.len{e:TypeId}{s:AE}{v:AV}{n sz:Nat}{cs:List AV}{O:List Nat}(h:CM e s v n sz cs O):cs.length=n * sz:=by
 rcases h with⟨a,h1,h2,h3,h4⟩ | ⟨i,p,h1,h2,h3⟩
 ·exact h3
 ·exact h2.len
theorem fY{s s':AE}{i o n:Nat}(h:s'.heap.get i=s.heap.get i):CI s' i o n=CI s i o n:=by unfold CI rowAt;rw[h]
theorem CM.lt   {e : TypeId} {s : AE}  {v : AV} {n sz : Nat} {cs : List AV} {O : List Nat} (h : CM   e s v n sz cs O) : ∀ j ∈ O, j < s.next := by
  rcases h with⟨a,h1,h2,h3,h4⟩ | ⟨i,p,h1,h2,h3⟩
  · subst h2;intro j hj;cases hj
  · subst h3
    intro j hj
    rcases h2.ex with⟨e,_⟩ | ⟨_,_,k2,k3,_⟩
    · rw[h1]at e;cases e
    · rcases List.mem_cons.1 hj with rfl | hj
      · exact k2
      · cases p with
        | none=>cases hj
        | some q =>
          have:j=q:=by simpa using hj
          rw[this]
          exact(k3 q rfl).2.1
def By:AV→Option Nat
 | .slice (some (i,_)) _ _=>some i
 | _=>none
theorem CM.frame{e:TypeId}{s s':AE}{v:AV}{n sz:Nat}{cs:List AV}{O:List Nat}(h:CM e s v n sz cs O)(hn:s.next≤s'.next)(hf:∀j,By v=some j→s'.heap.get j=s.heap.get j):CM e s' v n sz cs O:=by
 rcases h with⟨a,rfl,h2,h3,h4,h5⟩ | ⟨i,p,rfl,h2,h3⟩
 ·refine .inl ⟨a,rfl,h2,h3,h4,fun i o e=>?_⟩
  obtain⟨k1,k2⟩:=h5 i o e
  subst e
  exact⟨by omega,by rw[fY (hf i rfl)];exact k2⟩
 ·exact .inr ⟨i,p,rfl,(h2.mono hn).frame fun _ _=>hf i rfl,h3⟩
theorem CM.cells   {e : TypeId} {s : AE}  {v : AV} {n sz : Nat} {cs : List AV} {O : List Nat} (h : CM   e s v n sz cs O) : ∃ a cap, v = .slice a n cap ∧ AU      s.next s a cs := by
  rcases h with⟨a,rfl,h2,h3,h4,h5⟩ | ⟨i,p,rfl,h2,h3⟩
  · refine⟨a,_,rfl,fun k u hk=>?_⟩
    have hlt:k<cs.length:=by
      rcases xf k cs.length with h | h
      · exact h
      · rw[xr h]at hk;cases hk
    cases a with
    | none=>rw[h4 rfl]at h3;simp at h3;subst h3;simp at hlt
    | some io =>
      obtain⟨i,o⟩:=io
      obtain⟨k1,k2⟩:=h5 i o rfl
      refine⟨i,o,rfl,k1,?_⟩
      unfold CI at k2
      simp only[xY]at k2
      obtain⟨r,g1,g2⟩:=k2
      have g3:Nat.ble (o+n * sz) r.n=true∧r.c.take o (n * sz)=some cs:=by
        cases hb:Nat.ble (o+n * sz) r.n with
        | true=>rw[hb]at g2;exact⟨rfl,g2⟩
        | false=>rw[hb]at g2;cases g2
      have g4:o+n * sz≤r.n:=by simpa[xo]using g3.1
      have g5:=AZ.take_get g3.2 k (by omega)
      rw[hk]at g5
      have g6:s.heap.get i=some (.row r):=by
        unfold rowAt at g1
        split at g1
        · injection g1 with g1;subst g1;assumption
        · cases g1
      exact Fz g6 (by omega) g5
  · obtain⟨a,cap,e,hc⟩:=h2.cells
    exact⟨a,cap,e,hc⟩
theorem CM.append   {P : Program} {st xt e : TypeId} {sz by_ : Nat} (ht : P.underlying st = some (.slice e)) (hs : BG    P e = some sz) (hb : DL     P e = some by_) (h0 : 0 < sz) (hx : Bv           P xt = true) (hz : DF     P e sz = true) {s : AE}  {v : AV} {n : Nat} {cs : List AV} {O : List Nat} (h : CM   e s v n sz cs O)
    {ax:Option (Nat×Nat)} {m:Nat} {cx:Option Nat} {add:List AV} (hsrc:Ck P s e sz (.slice ax m cx)=some (m,add)) (ha:add.length=m * sz) (hc:An add=true) (h1:(n+m) * by_≤1099511627776) (h2:n+m≤1099511627776):
    ∃v' s' O',Ar P s [st,xt] [v,.slice ax m cx]=some (v',s')∧CM e s' v' (n+m) sz (cs++add) O'∧s.next≤s'.next∧s'.next≤s.next+1∧(∀j,j<s.next→j ∉ O→s'.heap.get j=s.heap.get j)∧(∀j∈O',j∈O∨s.next≤j)∧(∀j,By v'=some j→By v=some j∨s.next≤j):=by
  have hlen:=h.len
  rcases yX m with rfl | hm
  ·
    have hadd:add=[]:=by simp at ha;exact ha
    subst hadd
    rw[zS,yF]
    rcases h with⟨a,rfl,rfl,h3,h4,h5⟩ | ⟨i,p,rfl,h6,h7⟩
    · refine ⟨.slice a n (some n), s, [], ?_, .inl ⟨a, rfl, rfl, h3, h4, h5⟩, xZ          _, yp          _, fun _ _ _ => rfl, fun j hj => (by cases hj), fun j hj => .inl hj⟩
      rw[EG ht hs hb h0 hx hsrc hc h1 h2]
      cases a with
      | none=>rw[h4 rfl];rfl
      | some io =>
        obtain⟨i,o⟩:=io
        simp only[appTo,Gw,yF,CQ (xZ n),cond_true,Cv,Option.bind_some]
    · refine ⟨.slice (some (i, 0)) n none, s, O, ?_, .inr ⟨i, p, rfl, h6, h7⟩, xZ          _, yp          _, fun _ _ _ => rfl, fun j hj => .inl hj, fun j hj => .inl hj⟩
      rw[EG ht hs hb h0 hx hsrc hc h1 h2]
      rcases h6.ex with⟨e',_⟩ | ⟨_,k1,k2,k3,r,k4,k5,k6,k7,k8,k9⟩
      · cases e'
      · have hrow : rowAt s i = some r := by simp [rowAt, k4]
        have hrn:r.n=n * sz:=by rw[k5.1,h6.len]
        simp only[appTo,hrow,Option.bind_some,Kw,k8,Fe rfl,AP,cond_true,yF,xu]
        rw[show Nat.ble (n * sz) r.n=true from CQ (by omega)]
        simp only[cond_true,Cv,Option.bind_some]
  · rcases h with ⟨a, rfl, rfl, h3, h4, h5⟩ | ⟨i, p, rfl, h6, h7⟩
    ·
      refine⟨.slice (some (s.next,0)) (n+m) none,newObj s (Cs e sz (AZ.fill .leaf 0 (cs++add)) (cs++add).length none true),[s.next],?_,?_,yp _,xZ _,fun j hj _=>by rw[AW,if_neg (by omega)],fun j hj=>by simp at hj;right;omega,fun j hj=>by simp[By]at hj;right;omega⟩
      · rw[EG ht hs hb h0 hx hsrc hc h1 h2]
        cases a with
        | none =>
          have hn0:=h4 rfl
          subst hn0
          have:cs=[]:=by simp at h3;exact h3
          subst this
          simp only[appTo,Dl (show m≠0 by omega),cond_false,C8,AP,hz,cond_true,zq,xu]
        | some io =>
          obtain⟨i,o⟩:=io
          obtain⟨k1,k2⟩:=h5 i o rfl
          simp only[appTo,Gw,Oh (show n<n+m by omega),cond_false,k2,Option.bind_some,C8,AP,hz,cond_true]
      · refine .inr ⟨s.next,none,rfl,⟨by rw[xp,h3,ha,yH],.inr ⟨rfl,xg _,yg _,fun q hq=>(by cases hq),_,by rw[AW,if_pos rfl];rfl,⟨rfl,?_⟩,rfl,rfl,rfl,rfl,rfl⟩⟩,rfl⟩
        intro k u hk
        have hlt:k<(cs++add).length:=by
          rcases xf k (cs++add).length with h' | h'
          · exact h'
          · rw[xr h']at hk;cases hk
        show(AZ.fill .leaf 0 (cs++add)).get k=some u
        rw[AZ.get_fill,if_pos ⟨xg _,by omega⟩]
        simpa using hk
    · obtain⟨a,cap,v',s',e1,e2,i',p',g1,g2,g3,g4,g5,g6,_⟩:=h6.appTo (xZ _) (xg _) hz h0 ha hm
      injection e1 with e1 e3 e4
      subst e1;subst e4
      have hv':v'=.slice (some (i',0)) (n+m) none:=by
        rcases g1.ex with⟨_,e⟩ | ⟨e,_⟩
        · omega
        · exact e
      refine⟨v',s',i'::p'.toList,?_,.inr ⟨i',p',hv',g1,rfl⟩,g2.1,by omega,?_,?_,?_⟩
      · rw[EG ht hs hb h0 hx hsrc hc h1 h2]
        exact e2
      · intro j hj hO
        subst h7
        refine g2.2 j hj (fun e=>hO (by simp[e])) (fun e=>hO (by simp[e]))
      · intro j hj
        subst h7
        rcases List.mem_cons.1 hj with rfl | hj
        · right;omega
        · rcases g5 with rfl | rfl
          · cases hj
          · simp at hj;left;simp[hj]
      · intro j hj
        rw[hv']at hj
        simp[By]at hj
        right;omega
theorem Pz{P:Program}{e:TypeId}{s:AE}{i:Nat}{cs:List AV}{n:Nat}{cap:Option Nat}{sz:Nat}(ty:TypeId)(z:Nat)(hg:s.heap.get i=some (F2 ty z cs))(hl:cs.length=n * sz):Ck P s e sz (.slice (some (i,0)) n cap)=some (n,cs):=by
 obtain⟨r,h1,h2,_⟩:=RX ty z cs
 rw[h1]at hg
 have:=Kb hg h2 0 cs (by omega) (fun j u hj=>by simpa using hj)
 rw[hl]at this
 simp[Ck,X1 this]
section
variable{P:Program}{s:AE}{os:List BD}{b k i o off n t e sz:Nat}{sp:Bool}{cs vs:List AV}
theorem Xh(cs:List AV):(AV.agg cs).cells=cs:=rfl
theorem Xl(m:Option Nat):(AV.map m).cells=[.map m]:=rfl
theorem Xo(f:FuncId)(a c:List AV):(AV.func f a c).cells=[.func f a c]:=rfl
theorem Xg{α:Type}(x:Option α):AP true x=x:=rfl
theorem iL(a b:Nat):Nat.beq a b=decide (a=b):=by
 rw[Bool.eq_iff_iff,decide_eq_true_eq,zJ]
theorem Wf(h:EF P t=some false):AC P s t (.ptr (some (i,o)))=Nv (s.heap.get i) o:=by
 unfold AC
 rw[h];rfl
theorem Wg(h:EF P t=some true):AC P s t (.ptr (some (i,o)))=(BG P t).bind fun n=>(ML (s.heap.get i) o n).bind fun l=>some (.agg l):=by
 unfold AC
 rw[h];rfl
theorem Wh(v:AV):AS P s t (.ptr (some (i,o))) v=(BG P t).bind fun n=>AP (decide (v.cells.length=n)) (Cv s i o v.cells):=by
 unfold AS
 simp only[iL]
theorem Xa(e:TypeId)(v:AV):Bf e v=some (R e 0 false v.cells,.ptr):=rfl
theorem Xc(i:Nat):Made.ptr.val i=.ptr (some (i,0)):=rfl
theorem Xd(i:Nat):Made.map.val i=.map (some i):=rfl
theorem Xe(i n:Nat):(Made.slice n).val i=.slice (some (i,0)) n (some n):=rfl
end
abbrev Aj(n:Nat):AV:=.int .u64 (n:Int)
abbrev Aw(n:Nat):AV:=.int .u32 (n:Int)
theorem NC{n:Nat}(h:n<18446744073709551616):DT .u64 (n:Int)=(n:Int):=S8 (by simp only[CB,xo];omega)
theorem Fw(n:Int):IntKind.wrap .u64 n=n % 18446744073709551616:=by
 simp[IntKind.wrap,IntKind.signed,IntKind.bits]
theorem Fv(n:Int):IntKind.wrap .u32 n=n % 4294967296:=by
 simp[IntKind.wrap,IntKind.signed,IntKind.bits]
theorem YE(n:Int):DT .u64 n=n % 18446744073709551616:=by
 unfold DT
 cases h:CB .u64 n with
 | true =>
  cases n with
  | ofNat m =>
   simp only[CB,xo]at h
   simp only[cond_true]
   rw[show Int.ofNat m=(m:Int)from rfl]
   omega
  | negSucc m=>cases h
 | false=>exact Fw n
theorem YD(n:Int):DT .u32 n=n % 4294967296:=by
 unfold DT
 cases h:CB .u32 n with
 | true =>
  cases n with
  | ofNat m =>
   simp only[CB,xo]at h
   simp only[cond_true]
   rw[show Int.ofNat m=(m:Int)from rfl]
   omega
  | negSucc m=>cases h
 | false=>exact Fv n
section
variable(P:Program)(t:TypeId){a b:Nat}
theorem IE(h:a+b<18446744073709551616):AL P .add t (Aj a) (Aj b)=some (Aj (a+b)):=by
 show some (AV.int .u64 (DT .u64 ((a:Int)+(b:Int))))=_
 rw[← Int.natCast_add,NC h]
theorem Sx(h:a * b<18446744073709551616):AL P .mul t (Aj a) (Aj b)=some (Aj (a * b)):=by
 show some (AV.int .u64 (DT .u64 ((a:Int) * (b:Int))))=_
 rw[← zz,NC h]
theorem OP(hb:b≤18446744073709551616):AL P .sub t (Aj a) (Aj b)=some (Aj ((a+18446744073709551616 - b) % 18446744073709551616)):=by
 show some (AV.int .u64 (DT .u64 ((a:Int) - (b:Int))))=_
 rw[YE]
 congr 2
 omega
theorem vN(k:IntKind):AL P .lss t (.int k (a:Int)) (.int k (b:Int))=some (.bool (decide (a<b))):=by
 have:∀k,B7 k k=true:=fun k=>by cases k<;>rfl
 show AP (B7 k k) (some (AV.bool (NE (a:Int) (b:Int))))=_
 rw[this,DD]
 simp[AP]
theorem ON(k:IntKind):AL P .gtr t (.int k (a:Int)) (.int k (b:Int))=some (.bool (decide (b<a))):=by
 have:∀k,B7 k k=true:=fun k=>by cases k<;>rfl
 show AP (B7 k k) (some (AV.bool (NE (b:Int) (a:Int))))=_
 rw[this,DD]
 simp[AP]
theorem gn(k:IntKind):AL P .eql t (.int k (a:Int)) (.int k (b:Int))=some (.bool (decide (a=b))):=by
 have:∀k,B7 k k=true:=fun k=>by cases k<;>rfl
 show AP (B7 k k) (some (AV.bool (NF (a:Int) (b:Int))))=_
 rw[this,Em]
 simp only[AP,cond_true]
 congr 2
 by_cases h:a=b
 ·subst h;simp
 ·have:(a:Int)≠b:=by omega
  simp[h,this]
theorem q7(ha:a<18446744073709551616)(hb:b≠0):AL P .quo t (Aj a) (Aj b)=some (Aj (a / b)):=by
 show(DI P (Op.intDiv .quo .u64 (a:Int) (b:Int))).bind ofValue=_
 have hb':¬ ((b:Int)=0):=by omega
 unfold Op.intDiv
 rw[if_neg hb']
 show some (AV.int .u64 (IntKind.wrap .u64 ((a:Int).tdiv (b:Int))))=_
 rw[Fw,show(a:Int).tdiv (b:Int)=((a / b:Nat):Int)from rfl]
 congr 2
 have:a / b≤a:=yj a b
 generalize a / b=q at this
 omega
theorem q8(hb:b≠0):AL P .rem t (Aj a) (Aj b)=some (Aj (a % b)):=by
 show(DI P (Op.intDiv .rem .u64 (a:Int) (b:Int))).bind ofValue=_
 have hb':¬ ((b:Int)=0):=by omega
 unfold Op.intDiv
 rw[if_neg hb']
 show some (AV.int .u64 ((a:Int).tmod (b:Int)))=_
 rfl
theorem JZ{k:IntKind}{n:Nat}(hn:n≤64):AL P .shr t (Aj a) (.int k (n:Int))=some (Aj (a / 2 ^ n)):=by
 show(DI P (Op.shift .shr .u64 (a:Int) k (n:Int))).bind ofValue=_
 unfold Op.shift
 rw[if_neg (by omega)]
 show some (AV.int .u64 ((a:Int).fdiv (2 ^ min (n:Int).toNat 64)))=_
 rw[show min (n:Int).toNat 64=n by omega]
 congr 2
 rw[show((2:Int) ^ n)=((2 ^ n:Nat):Int) by push_cast;rfl]
 exact(Int.ofNat_fdiv a (2 ^ n)).symm
theorem OO{k:IntKind}{n:Nat}(hn:n≤64)(h:a * 2 ^ n<18446744073709551616):AL P .shl t (Aj a) (.int k (n:Int))=some (Aj (a * 2 ^ n)):=by
 show(DI P (Op.shift .shl .u64 (a:Int) k (n:Int))).bind ofValue=_
 unfold Op.shift
 rw[if_neg (by omega)]
 show some (AV.int .u64 (IntKind.wrap .u64 ((a:Int) * 2 ^ min (n:Int).toNat 64)))=_
 rw[show min (n:Int).toNat 64=n by omega,Fw]
 congr 2
 rw[show(a:Int) * 2 ^ n=((a * 2 ^ n:Nat):Int) by push_cast;rfl]
 omega
theorem Kn(h:a<18446744073709551616):AL P .and t (Aj a) (.int .u64 4294967295)=some (Aj (a % 4294967296)):=by
 show(DI P (Op.intBits .and .u64 (a:Int) 4294967295)).bind ofValue=_
 show some (AV.int .u64 (IntKind.wrap .u64 ((BitVec.ofInt 64 (a:Int) &&& BitVec.ofInt 64 4294967295).toNat:Int)))=_
 rw[Fw]
 congr 2
 have:(BitVec.ofInt 64 (a:Int) &&& BitVec.ofInt 64 4294967295).toNat=a % 4294967296:=by
  rw[BitVec.ofInt_natCast,show BitVec.ofInt 64 4294967295=BitVec.ofNat 64 4294967295 from(by decide),BitVec.toNat_and,BitVec.toNat_ofNat,BitVec.toNat_ofNat]
  rw[yS (show a<2 ^ 64 by omega),show 4294967295 % 2 ^ 64=2 ^ 32 - 1 by decide,Nat.and_two_pow_sub_one_eq_mod]
 rw[this]
 omega
theorem kO(h:a * 4294967296+b<18446744073709551616)(hb:b<4294967296):AL P .or t (Aj (a * 4294967296)) (Aj b)=some (Aj (a * 4294967296+b)):=by
 show(DI P (Op.intBits .or .u64 ((a * 4294967296:Nat):Int) (b:Int))).bind ofValue=_
 show some (AV.int .u64 (IntKind.wrap .u64 ((BitVec.ofInt 64 ((a * 4294967296:Nat):Int) ||| BitVec.ofInt 64 (b:Int)).toNat:Int)))=_
 rw[Fw]
 congr 2
 have:(BitVec.ofInt 64 ((a * 4294967296:Nat):Int) ||| BitVec.ofInt 64 (b:Int)).toNat=a * 4294967296+b:=by
  rw[BitVec.ofInt_natCast,BitVec.ofInt_natCast,BitVec.toNat_or,BitVec.toNat_ofNat,BitVec.toNat_ofNat]
  have e64:(2:Nat) ^ 64=18446744073709551616:=by decide
  have e32:(2:Nat) ^ 32=4294967296:=by decide
  have h1:a * 4294967296<18446744073709551616:=yM (Nat.le_add_right _ _) h
  have h2:b<18446744073709551616:=zr hb (by decide)
  rw[e64,yS h1,yS h2]
  have h3:b<2 ^ 32:=by rw[e32];exact hb
  have:=Nat.two_pow_add_eq_or_of_lt h3 a
  rw[e32,xy]at this
  exact this.symm
 rw[this]
 have h5:((a * 4294967296+b:Nat):Int)<18446744073709551616:=Int.ofNat_lt.2 h
 exact Int.emod_eq_of_lt (Int.natCast_nonneg _) h5
end
def E5(e:TypeId)(sz:Nat)(s:AE)(v:AV)(n:Nat)(cs:List AV)(O:List Nat):Prop:=
 (v=.slice none 0 (some 0)∧n=0∧cs=[]∧O=[])∨∃i p,v=.slice (some (i,0)) n none∧Gt e 0 s.next s v n sz cs i p∧O=i::p.toList
section
variable{e sz n:Nat}{s s':AE}{v:AV}{cs:List AV}{O:List Nat}
theorem E5.nil(e sz:Nat)(s:AE):E5 e sz s (.slice none 0 (some 0)) 0 [] []:=.inl ⟨rfl,rfl,rfl,rfl⟩
theorem E5.len(h:E5 e sz s v n cs O):cs.length=n * sz:=by
 rcases h with⟨_,rfl,rfl,_⟩ | ⟨i,p,_,h,_⟩
 ·simp
 ·exact h.len
theorem E5.lt  (h : E5  e sz s v n cs O) : ∀ j ∈ O, j < s.next := by
  rcases h with⟨_,_,_,rfl⟩ | ⟨i,p,hv,h,rfl⟩
  · intro j hj;cases hj
  · rcases h.ex with ⟨h1, _⟩ | ⟨_, _, h2, h3, _⟩
    · rw[hv]at h1;cases h1
    · intro j hj
      rcases List.mem_cons.1 hj with rfl | hj
      · exact h2
      · cases p with
        | none=>cases hj
        | some q=>simp at hj;subst hj;exact(h3 _ rfl).2.1
theorem E5.slotO(h:E5 e sz s v n cs O){j:Nat}(hj:By v=some j):j∈O:=by
 rcases h with⟨rfl,_⟩ | ⟨i,p,rfl,_,rfl⟩
 ·cases hj
 ·injection hj with hj;subst hj;simp
theorem E5.frame(h:E5 e sz s v n cs O)(hn:s.next≤s'.next)(hf:∀j∈O,s'.heap.get j=s.heap.get j):E5 e sz s' v n cs O:=by
 rcases h with h | ⟨i,p,hv,h,rfl⟩
 ·exact .inl h
 ·exact .inr ⟨i,p,hv,(h.mono hn).frame fun _ _=>hf i (by simp),rfl⟩
theorem E5.slice(h:E5 e sz s v n cs O):∃a cap,v=.slice a n cap∧AU s.next s a cs:=by
 rcases h with⟨rfl,rfl,rfl,_⟩ | ⟨i,p,_,h,_⟩
 ·exact⟨none,some 0,rfl,AU.nil⟩
 ·exact h.cells
theorem E5.append  {P : Program} {st xt by_ : Nat} (ht : P.underlying st = some (.slice e)) (hs : BG    P e = some sz) (hb : DL     P e = some by_) (h0 : 0 < sz) (hx : Bv           P xt = true) (hz : DF     P e sz = true) (h : E5  e sz s v n cs O)
    {ax:Option (Nat×Nat)} {m:Nat} {cx:Option Nat} {add:List AV} (hm:0<m) (hsrc:Ck P s e sz (.slice ax m cx)=some (m,add)) (ha:add.length=m * sz) (hc:An add=true) (h1:(n+m) * by_≤1099511627776) (h2:n+m≤1099511627776):
    ∃v' s' O',Ar P s [st,xt] [v,.slice ax m cx]=some (v',s')∧E5 e sz s' v' (n+m) (cs++add) O'∧s'.next=s.next+1∧(∀j,j<s.next→j ∉ O→s'.heap.get j=s.heap.get j)∧(∀j∈O',j∈O∨s.next≤j)∧By v'=some s.next:=by
  have key:∀ (i:Nat) (p:Option Nat),Gt e 0 s.next s v n sz cs i p→(∀j,j<s.next→j ∉ O→j≠i∧p≠some j)→(∀j,j=i∨p=some j→j∈O∨s.next≤j) →
      ∃v' s' O',Ar P s [st,xt] [v,.slice ax m cx]=some (v',s')∧E5 e sz s' v' (n+m) (cs++add) O'∧s'.next=s.next+1∧(∀j,j<s.next→j ∉ O→s'.heap.get j=s.heap.get j)∧(∀j∈O',j∈O∨s.next≤j)∧By v'=some s.next:=by
    intro i p hg hi hO
    obtain⟨a,cap,v',s',rfl,happ,i',p',hg',hap,_,rfl,hp',hn',_⟩:=hg.appTo (P:=P) (xZ _) (xg _) hz h0 ha hm
    have hv':v'=.slice (some (s.next,0)) (n+m) none:=by
      rcases hg'.ex with⟨_,h0'⟩ | ⟨h1',_⟩
      · omega
      · exact h1'
    refine⟨v',s',s.next::p'.toList,by rw[EG ht hs hb h0 hx hsrc hc h1 h2];exact happ,.inr ⟨s.next,p',hv',hg',rfl⟩,hn',fun j hj hjO=>?_,fun j hj=>?_,by rw[hv'];rfl⟩
    · exact hap.2 j hj (hi j hj hjO).1 (hi j hj hjO).2
    · rcases List.mem_cons.1 hj with rfl | hj
      · exact .inr (xZ _)
      · rcases hp' with rfl | rfl
        · cases hj
        · simp at hj;subst hj;exact hO _ (.inl rfl)
  rcases h with⟨rfl,rfl,rfl,rfl⟩ | ⟨i,p,rfl,hg,rfl⟩
  · exact key s.next none (Gt.zero _ _ _ _ _ _ _) (fun j hj _=>⟨by omega,by simp⟩) (fun j hj=>by rcases hj with rfl | hj;exact .inr (xZ _);cases hj)
  · refine key i p hg (fun j hj hjO => ⟨fun e => hjO (by simp [e]), fun e => hjO (by simp [e])⟩) (fun j hj => ?_)
    rcases hj with rfl | rfl<;>simp
end
section
variable{P:Program}{s:AE}{i e sz o t:Nat}{sp:Bool}{cs:List AV}{v:AV}
theorem Bn(hs:BG P t=some 1)(hg:s.heap.get i=some (R e sz sp cs))(ho:o<cs.length)(hv:v.isCell=true):
  AS P s t (.ptr (some (i,o))) v=some (setObj s i (R e sz sp (cs.set o v))):=by
 have hc:v.cells=[v]:=by cases v<;>first | rfl | cases hv
 have hl:An [v]=true:=by simp[An,hv]
 rw[Wh,hs,hc]
 have:=M5 (off:=o) (vs:=[v]) hg (by show o+1≤cs.length;omega) hl
 show AP (decide (1=1)) (Cv s i o [v])=_
 rw[this]
 rfl
theorem AI(ht:EF P t=some false)(hg:s.heap.get i=some (R e sz sp cs))(hk:cs[o]? = some v):AC P s t (.ptr (some (i,o)))=some v:=by
 rw[Wf ht,hg,Wo,hk]
theorem Hb(hg:s.heap.get i=some (R e sz sp cs)){b:Nat}(hi:i<b):AU b s (some (i,0)) cs:=fun k u hu=>⟨i,0,rfl,hi,by rw[E2,hg,Wo,xu];exact hu⟩
end
def us(l:List Nat):List AV:=l.map Aw
theorem DS(l:List Nat):(us l).length=l.length:=by simp[us]
theorem DE{l:List Nat}{k x:Nat}(h:l[k]? = some x):(us l)[k]? = some (Aw x):=by simp[us,h]
theorem OQ(a b:List Nat):us (a++b)=us a++us b:=by simp[us]
theorem Im(l:List Nat)(k x:Nat):(us l).set k (Aw x)=us (l.set k x):=by simp[us,List.map_set]
theorem WU(l:List Nat)(k:Nat):us (l.take k)=(us l).take k:=by simp[us,zh]
theorem JA{o:Option BD}:∀ (l:List AV)(off:Nat),(∀j u,l[j]? = some u→Nv o (off+j)=some u)→l≠[]→ML o off l.length=some l:=by
 intro l off h h0
 obtain⟨r,hr⟩:∃r,gO o=some r:=by
  cases l with
  | nil=>exact absurd rfl h0
  | cons a l =>
   have:=h 0 a rfl
   unfold Nv at this
   cases hr:gO o with
   | none=>rw[hr]at this;cases this
   | some r=>exact⟨r,rfl⟩
 have hg:∀j u,l[j]? = some u→off+j<r.n∧r.c.get (off+j)=some u:=fun j u hj=>by
  have:=h j u hj
  unfold Nv at this
  rw[hr,Option.bind_some]at this
  obtain⟨g1,g2⟩:=AD this
  exact⟨by simpa[yI]using g1,g2⟩
 have ht:∀ (m:List AV) (k:Nat),(∀j u,m[j]? = some u→r.c.get (k+j)=some u)→r.c.take k m.length=some m:=by
  intro m
  induction m with
  | nil=>intro k _;simp[AZ.take]
  | cons a m ih =>
   intro k hk
   have h1:=hk 0 a rfl
   rw[yF]at h1
   simp only[yU,AZ.take,h1,ih (k+1) fun j u hj=>by rw[show k+1+j=k+(j+1)from by omega];exact hk (j+1) u hj]
 unfold ML
 rw[hr,Option.bind_some,ht l off fun j u hj=>(hg j u hj).2]
 have hl:off+l.length≤r.n:=by
  cases hz:l.getLast? with
  | none=>exact absurd (List.getLast?_eq_none_iff.1 hz) h0
  | some u =>
   have hlen:0<l.length:=List.length_pos_iff.2 h0
   have:=(hg (l.length - 1) l[l.length - 1] (xe (by omega))).1
   omega
 have:Nat.ble (off+l.length) r.n=true:=by rw[xo];exact hl
 rw[this];rfl
def Cf(s:AE)(i:Nat)(cs:List AV)(p:Option Nat):Prop:=∃r,s.heap.get i=some (.row r)∧LQ r cs∧D8 r.mode=true∧r.sz=1∧(r.par=none∨r.par=p)
theorem Cf.keep{s s':AE}{i:Nat}{cs:List AV}{p:Option Nat}(h:Cf s i cs p)(k:s'.heap.get i=s.heap.get i):Cf s' i cs p:=by
 obtain⟨r,h1,h2⟩:=h
 exact⟨r,k.trans h1,h2⟩
theorem Cf.of_R{s:AE}{i e:Nat}{sp:Bool}{cs:List AV}(h:s.heap.get i=some (R e 1 sp cs)):Cf s i cs none:=
 ⟨{ elem:=e,sz:=1,n:=cs.length,c:=Ue cs,spare:=sp,mode:=.own,par:=none,bytes:=true },h,⟨rfl,fun k u hk=>by
  show(Ue cs).get k=_
  rw[Ph];exact hk⟩,rfl,rfl,.inl rfl⟩
theorem HH{P:Program}{s:AE}{i o t:Nat}{cs:List AV}{p:Option Nat}{v:AV}(ht:EF P t=some false)(h:Cf s i cs p)(hk:cs[o]? = some v):AC P s t (.ptr (some (i,o)))=some v:=by
 obtain⟨r,h1,h2,_⟩:=h
 have ho:o<cs.length:=by
  rcases xf o cs.length with h' | h'
  ·exact h'
  ·rw[xr h']at hk;cases hk
 exact Bd ht (Fz h1 (by rw[h2.1];exact ho) (h2.2 o v hk))
theorem Hc{s:AE}{i:Nat}{cs:List AV}{p:Option Nat}(h:Cf s i cs p){b:Nat}(hi:i<b):AU b s (some (i,0)) cs:=fun k u hu=>by
 obtain⟨r,h1,h2,_⟩:=h
 have ho:k<cs.length:=by
  rcases xf k cs.length with h' | h'
  ·exact h'
  ·rw[xr h']at hu;cases hu
 exact⟨i,0,rfl,hi,Fz h1 (by rw[h2.1];omega) (by rw[xu];exact h2.2 k u hu)⟩
theorem EU        {P : Program} {s : AE}  {i o t : Nat} {cs : List AV} {p : Option Nat} {v : AV} (hs : BG    P t = some 1) (h : Cf   s i cs p) (ho : o < cs.length) (hv : v.isCell = true) :
    ∃s',AS P s t (.ptr (some (i,o))) v=some s'∧Cf s' i (cs.set o v) p∧s'.next=s.next∧∀j,j≠i→some j≠p→s'.heap.get j=s.heap.get j:=by
  obtain⟨r,h1,h2,h3,h4,h5⟩:=h
  have hc:v.cells=[v]:=by cases v<;>first | rfl | cases hv
  have hrow:rowAt s i=some r:=by unfold rowAt;rw[h1]
  have hb:Nat.ble (o+1) r.n=true:=CQ (by rw[h2.1];omega)
  have hal:An [v]=true:=by simp[An,hv]
  have est:AS P s t (.ptr (some (i,o))) v=some (setObj (BS s i r) i (.row { r with c:=r.c.fill o [v],par:=none })):=by
    rw[Wh,hs,hc]
    show AP (decide (1=1)) (Cv s i o [v])=_
    show(rowAt s i).bind _=_
    rw[hrow]
    show AP (D8 r.mode && Nat.ble (o+1) r.n && An [v]) _=_
    rw[h3,hb,hal]
    rfl
  have hun:(BS s i r).next=s.next∧∀j,some j≠p→(BS s i r).heap.get j=s.heap.get j:=by
    unfold BS
    rcases h5 with h5 | h5
    · rw[h5];exact⟨rfl,fun j _=>rfl⟩
    · rw[h5]
      cases p with
      | none=>exact⟨rfl,fun j _=>rfl⟩
      | some q =>
        simp only
        cases hbq:Nat.beq q i with
        | true=>exact⟨rfl,fun j _=>rfl⟩
        | false =>
          refine⟨rfl,fun j hj=>?_⟩
          show(Cc s q).heap.get j=_
          rw[G8,if_neg]
          intro e
          exact hj (by rw[e])
  refine⟨_,est,⟨{ r with c:=r.c.fill o [v],par:=none },Ww _ _ _,⟨by show r.n=_;rw[h2.1,yz],fun k u hu=>?_⟩,h3,h4,.inl rfl⟩,hun.1,fun j hj hjp=>(Wx _ hj).trans (hun.2 j hjp)⟩
  show(r.c.fill o [v]).get k=some u
  rw[AZ.get_fill]
  by_cases hk:k=o
  · subst hk
    rw[A0J ho]at hu
    rw[if_pos ⟨xZ _,by simp⟩,zi]
    exact hu
  · rw [zR                   (Ne.symm hk)] at hu
    rw[if_neg (by simp;omega)]
    exact h2.2 k u hu
structure Eo(s s':AE)(i:Nat)(p:Option Nat):Prop where
 next:s'.next=s.next
 get:∀j,j≠i→some j≠p→s'.heap.get j=s.heap.get j
theorem Eo.refl(s:AE)(i:Nat)(p:Option Nat):Eo s s i p:=⟨rfl,fun _ _ _=>rfl⟩
theorem Eo.step{s s' s2:AE}{i:Nat}{p:Option Nat}(h:Eo s s' i p)(h1:s2.next=s'.next)(h2:∀j,j≠i→some j≠p→s2.heap.get j=s'.heap.get j):Eo s s2 i p:=⟨h1.trans h.next,fun j hj hp=>(h2 j hj hp).trans (h.get j hj hp)⟩
end
end Go.Proofs.YtjnkfbpadpmakaaGreatDoor.Am
set_option linter.unusedVariables false
set_option linter.unusedSimpArgs false
set_option maxRecDepth 100000
namespace Go.Proofs.YtjnkfbpadpmakaaGreatDoor.Am
open Go Go.Proofs
noncomputable section
theorem OJ:BG Tryz.prog 3=some 1:=by kernel_rfl
theorem ve:DL Tryz.prog 3=some 8:=by kernel_rfl
theorem t7:EF Tryz.prog 3=some false:=by kernel_rfl
theorem zr3:EE Tryz.prog 3=some (.int .i64 (0)):=by kernel_rfl
theorem TB:BG Tryz.prog 4=some 1:=by kernel_rfl
theorem vf:DL Tryz.prog 4=some 1:=by kernel_rfl
theorem Gp:EF Tryz.prog 4=some false:=by kernel_rfl
theorem zr4:EE Tryz.prog 4=some (.bool false):=by kernel_rfl
theorem P1:BG Tryz.prog 22=some 1:=by kernel_rfl
theorem CA:EF Tryz.prog 22=some false:=by kernel_rfl
theorem Cx:BG Tryz.prog 76=some 1:=by kernel_rfl
theorem W4:DL Tryz.prog 76=some 4:=by kernel_rfl
theorem Gq:EF Tryz.prog 76=some false:=by kernel_rfl
theorem wM:EE Tryz.prog 76=some (.int .u32 (0)):=by kernel_rfl
theorem gi:BG Tryz.prog 69=some 1:=by kernel_rfl
theorem YK:EF Tryz.prog 69=some false:=by kernel_rfl
def eC:List AA:=[
 ⟨none,.p1 some,[(.const (.slice none 0 (some 0)))],(.set 1),[]⟩]
def eE:List AA:=[
 ⟨none,.r (fun s l=>match l with | [x]=>A6 Tryz.prog s 22 x | _=>none),[.var 0],.push,[]⟩,
 ⟨none,.p1 some,[.loc 0],(.set 2),[]⟩]
def Vg:List AA:=[
 ⟨none,.p2 (AL Tryz.prog .gtr 3),[(.var 2),(.const (.int .i64 (0)))],.push,[]⟩,
 ⟨(some ((.loc 0),true)),.p1 some,[.var 0],.push,[]⟩,
 ⟨(some ((.loc 1),true)),.p1 some,[.var 2],.push,[]⟩,
 ⟨(some ((.loc 2),true)),.p2 (AL Tryz.prog .sub 3),[(.loc 0),(.const (.int .i64 (1)))],.push,[]⟩,
 ⟨(some ((.loc 3),true)),.p2 (AM Tryz.prog 22),[.loc 2,.loc 0],.push,[]⟩,
 ⟨(some ((.loc 4),true)),.r1 (fun s a=>AC Tryz.prog s 76 a),[.loc 0],.push,[]⟩,
 ⟨(some ((.loc 5),true)),.p2 (AL Tryz.prog .eql 76),[(.loc 0),(.const (.int .u32 (0)))],.push,[]⟩,
 ⟨none,.p Ru,[(.loc 6),(.loc 0),(.const (.bool false))],(.set 3),[]⟩]
def pY:List AA:=[
 ⟨none,.p1 some,[.var 2],.push,[]⟩,
 ⟨none,.p2 (AL Tryz.prog .sub 3),[(.loc 0),(.const (.int .i64 (1)))],.push,[]⟩,
 ⟨none,.p1 some,[.loc 0],(.set 2),[]⟩]
def NV:Aa:=(.seq (.seq (.ops Vg) (.cond (.var 3)
 .skip
 (.exit 0))) (.block 1 (.ops pY)))
def eF:List AA:=[
 ⟨none,.r (At Tryz.prog 22 false true false),[.var 0,.var 2],.push,[]⟩,
 ⟨none,.call 136,[.loc 0],.push,[]⟩,
 ⟨none,.p1 some,[.loc 0],(.set 1),[]⟩]
def vk:Ah:=⟨1,4,(.seq (.ops eC) (.seq (.ops eE) (.seq (.block 0 (.loop NV)) (.seq (.ops eF) .ret)))),[((.var 1),none)]⟩
def Oq:List AA:=[
 ⟨none,.p1 some,[(.const (.slice none 0 (some 0)))],(.set 1),[]⟩]
def Ot:List AA:=[
 ⟨none,.p2 (AL Tryz.prog .eql 22),[(.var 0),(.const (.slice none 0 (some 0)))],(.set 2),[]⟩]
def TY:List AA:=[
 ⟨none,.p1 some,[(.const (.slice none 0 (some 0)))],(.set 1),[]⟩]
def Zy:List AA:=[
 ⟨none,.mk (fun l=>(Ad Tryz.prog 22 0 (zipIdx [] l)).bind fun r=>some (r,.slice 0)),[],.push,[]⟩,
 ⟨none,.e (fun s l=>Ar Tryz.prog s [22,22] l),[.loc 0,.var 0],.push,[]⟩,
 ⟨none,.p1 some,[.loc 0],(.set 1),[]⟩]
def iX:Ah:=⟨1,3,(.seq (.ops Oq) (.seq (.seq (.ops Ot) (.cond (.var 2)
 (.seq (.ops TY) .ret)
 .skip)) (.seq (.ops Zy) .ret))),[((.var 1),none)]⟩
def ml:List AA:=[
 ⟨none,.p1 some,[(.const (.slice none 0 (some 0)))],(.set 1),[]⟩]
def mn:List AA:=[
 ⟨none,.p2 (AL Tryz.prog .and 69),[(.var 0),(.const (.int .u64 (4294967295)))],.push,[]⟩,
 ⟨none,.r1 (fun s x=>Ax Tryz.prog s 69 76 x),[.loc 0],.push,[]⟩,
 ⟨none,.p2 (AL Tryz.prog .shr 69),[(.var 0),(.const (.int .u64 (32)))],.push,[]⟩,
 ⟨none,.r1 (fun s x=>Ax Tryz.prog s 69 76 x),[.loc 0],.push,[]⟩,
 ⟨none,.mk (fun l=>(Ad Tryz.prog 22 2 (zipIdx [0,1] l)).bind fun r=>some (r,.slice 2)),[.loc 2,.loc 0],.push,[]⟩,
 ⟨none,.call 92,[.loc 0],.push,[]⟩,
 ⟨none,.p1 some,[.loc 0],(.set 1),[]⟩]
def wp:Ah:=⟨1,2,(.seq (.ops ml) (.seq (.ops mn) .ret)),[((.var 1),none)]⟩
def pZ:List AA:=[
 ⟨none,.p1 some,[(.const (.int .i64 (0)))],(.set 2),[]⟩]
def pe:List AA:=[
 ⟨none,.p1 some,[.var 0],.push,[]⟩,
 ⟨none,.call 92,[.loc 0],.push,[]⟩,
 ⟨none,.p1 some,[.var 1],.push,[]⟩,
 ⟨none,.call 92,[.loc 0],.push,[]⟩,
 ⟨none,.p1 some,[.loc 2],(.set 0),[]⟩,
 ⟨none,.p1 some,[.loc 0],(.set 1),[]⟩]
def Vh:List AA:=[
 ⟨none,.r (fun s l=>match l with | [x]=>A6 Tryz.prog s 22 x | _=>none),[.var 0],.push,[]⟩,
 ⟨none,.r (fun s l=>match l with | [x]=>A6 Tryz.prog s 22 x | _=>none),[.var 1],.push,[]⟩,
 ⟨none,.p2 (AL Tryz.prog .lss 3),[.loc 1,.loc 0],.push,[]⟩,
 ⟨none,.p1 some,[.loc 0],(.set 4),[]⟩]
def pg:List AA:=[
 ⟨none,.p1 some,[(.const (.int .i64 (-1)))],(.set 2),[]⟩]
def eJ:List AA:=[
 ⟨none,.r (fun s l=>match l with | [x]=>A6 Tryz.prog s 22 x | _=>none),[.var 0],.push,[]⟩,
 ⟨none,.r (fun s l=>match l with | [x]=>A6 Tryz.prog s 22 x | _=>none),[.var 1],.push,[]⟩,
 ⟨none,.p2 (AL Tryz.prog .gtr 3),[.loc 1,.loc 0],.push,[]⟩,
 ⟨none,.p1 some,[.loc 0],(.set 5),[]⟩]
def ph:List AA:=[
 ⟨none,.p1 some,[(.const (.int .i64 (1)))],(.set 2),[]⟩]
def pj:List AA:=[
 ⟨none,.r (fun s l=>match l with | [x]=>A6 Tryz.prog s 22 x | _=>none),[.var 0],.push,[]⟩,
 ⟨none,.p2 (AL Tryz.prog .sub 3),[(.loc 0),(.const (.int .i64 (1)))],.push,[]⟩,
 ⟨none,.p1 some,[.loc 0],(.set 3),[]⟩]
def Q6:List AA:=[
 ⟨none,.p2 (AL Tryz.prog .geq 3),[(.var 3),(.const (.int .i64 (0)))],(.set 6),[]⟩]
def Vi:List AA:=[
 ⟨none,.p2 (AM Tryz.prog 22),[.var 0,.var 3],.push,[]⟩,
 ⟨none,.r1 (fun s a=>AC Tryz.prog s 76 a),[.loc 0],.push,[]⟩,
 ⟨none,.p2 (AM Tryz.prog 22),[.var 1,.var 3],.push,[]⟩,
 ⟨none,.r1 (fun s a=>AC Tryz.prog s 76 a),[.loc 0],.push,[]⟩,
 ⟨none,.p2 (AL Tryz.prog .lss 76),[.loc 2,.loc 0],.push,[]⟩,
 ⟨none,.p1 some,[.loc 0],(.set 7),[]⟩]
def pm:List AA:=[
 ⟨none,.p1 some,[(.const (.int .i64 (-1)))],(.set 2),[]⟩]
def Tz:List AA:=[
 ⟨none,.p2 (AM Tryz.prog 22),[.var 0,.var 3],.push,[]⟩,
 ⟨none,.r1 (fun s a=>AC Tryz.prog s 76 a),[.loc 0],.push,[]⟩,
 ⟨none,.p2 (AM Tryz.prog 22),[.var 1,.var 3],.push,[]⟩,
 ⟨none,.r1 (fun s a=>AC Tryz.prog s 76 a),[.loc 0],.push,[]⟩,
 ⟨none,.p2 (AL Tryz.prog .gtr 76),[.loc 2,.loc 0],.push,[]⟩,
 ⟨none,.p1 some,[.loc 0],(.set 8),[]⟩]
def eG:List AA:=[
 ⟨none,.p1 some,[(.const (.int .i64 (1)))],(.set 2),[]⟩]
def eH:List AA:=[
 ⟨none,.p1 some,[.var 3],.push,[]⟩,
 ⟨none,.p2 (AL Tryz.prog .sub 3),[(.loc 0),(.const (.int .i64 (1)))],.push,[]⟩,
 ⟨none,.p1 some,[.loc 0],(.set 3),[]⟩]
def IK:Aa:=(.seq (.seq (.ops Q6) (.cond (.var 6)
 .skip
 (.exit 1))) (.seq (.block 2 (.block 3 (.seq (.ops Vi) (.cond (.var 7)
 (.seq (.ops pm) .ret)
 (.seq (.ops Tz) (.cond (.var 8)
 (.seq (.ops eG) .ret)
 .skip)))))) (.ops eH)))
def eI:List AA:=[
 ⟨none,.p1 some,[(.const (.int .i64 (0)))],(.set 2),[]⟩]
def xR:Ah:=⟨2,9,(.seq (.ops pZ) (.seq (.ops pe) (.seq (.block 0 (.seq (.ops Vh) (.cond (.var 4)
 (.seq (.ops pg) .ret)
 (.seq (.ops eJ) (.cond (.var 5)
 (.seq (.ops ph) .ret)
 .skip))))) (.seq (.seq (.ops pj) (.block 1 (.loop IK))) (.seq (.ops eI) .ret))))),[((.var 2),none)]⟩
def Zz:List AA:=[
 ⟨none,.p1 some,[(.const (.slice none 0 (some 0)))],(.set 3),[]⟩]
def Z0:List AA:=[
 ⟨none,.p1 some,[(.const (.slice none 0 (some 0)))],(.set 4),[]⟩]
def Z1:List AA:=[
 ⟨none,.p1 some,[.var 0],(.set 6),[]⟩,
 ⟨none,.r (fun s l=>match l with | [x]=>A6 Tryz.prog s 22 x | _=>none),[.var 6],(.set 7),[]⟩,
 ⟨none,.p1 some,[(.const (.int .i64 (0)))],(.set 8),[]⟩]
def TZ:List AA:=[
 ⟨none,.p2 (AL Tryz.prog .lss 3),[.var 8,.var 7],(.set 9),[]⟩]
def Z2:List AA:=[
 ⟨none,.p2 (AM Tryz.prog 22),[.var 6,.var 8],.push,[]⟩,
 ⟨none,.r1 (fun s a=>AC Tryz.prog s 76 a),[.loc 0],.push,[]⟩,
 ⟨none,.p1 some,[.loc 0],(.set 5),[]⟩]
def Z3:List AA:=[
 ⟨none,.p1 some,[.var 2],.push,[]⟩,
 ⟨none,.r1 (fun s x=>Ax Tryz.prog s 76 69 x),[.var 5],.push,[]⟩,
 ⟨none,.p2 (AL Tryz.prog .mul 69),[.var 1,.loc 0],.push,[]⟩,
 ⟨none,.p2 (AL Tryz.prog .add 69),[.loc 2,.loc 0],.push,[]⟩,
 ⟨none,.p1 some,[.loc 0],(.set 2),[]⟩]
def Z4:List AA:=[
 ⟨none,.p1 some,[.var 4],.push,[]⟩,
 ⟨none,.p2 (AL Tryz.prog .and 69),[(.var 2),(.const (.int .u64 (4294967295)))],.push,[]⟩,
 ⟨none,.r1 (fun s x=>Ax Tryz.prog s 69 76 x),[.loc 0],.push,[]⟩,
 ⟨none,.mk (fun l=>(Ad Tryz.prog 22 1 (zipIdx [0] l)).bind fun r=>some (r,.slice 1)),[.loc 0],.push,[]⟩,
 ⟨none,.e (fun s l=>Ar Tryz.prog s [22,22] l),[.loc 3,.loc 0],.push,[]⟩,
 ⟨none,.p1 some,[.loc 0],(.set 4),[]⟩]
def Z5:List AA:=[
 ⟨none,.p1 some,[.var 2],.push,[]⟩,
 ⟨none,.p2 (AL Tryz.prog .shr 69),[(.loc 0),(.const (.int .u64 (32)))],.push,[]⟩,
 ⟨none,.p1 some,[.loc 0],(.set 2),[]⟩]
def Z6:List AA:=[
 ⟨none,.p2 (AL Tryz.prog .add 3),[(.var 8),(.const (.int .i64 (1)))],.push,[]⟩,
 ⟨none,.p1 some,[.loc 0],(.set 8),[]⟩]
def Lg:Aa:=(.seq (.ops TZ) (.seq (.cond (.var 9)
 .skip
 (.exit 0)) (.seq (.block 1 (.seq (.ops Z2) (.seq (.ops Z3) (.seq (.ops Z4) (.ops Z5))))) (.ops Z6))))
def VT:List AA:=[
 ⟨none,.r1 (fun s x=>Ax Tryz.prog s 69 76 x),[.var 2],.push,[]⟩,
 ⟨none,.mk (fun l=>(Ad Tryz.prog 22 1 (zipIdx [0] l)).bind fun r=>some (r,.slice 1)),[.loc 0],.push,[]⟩,
 ⟨none,.e (fun s l=>Ar Tryz.prog s [22,22] l),[.var 4,.loc 0],.push,[]⟩,
 ⟨none,.p1 some,[.loc 0],(.set 3),[]⟩]
def uX:Ah:=⟨3,10,(.seq (.ops Zz) (.seq (.ops Z0) (.seq (.seq (.ops Z1) (.block 0 (.loop Lg))) (.seq (.ops VT) .ret)))),[((.var 3),none)]⟩
def p8:List AA:=[
 ⟨none,.p1 some,[(.const (.slice none 0 (some 0)))],(.set 2),[]⟩]
def qA:List AA:=[
 ⟨none,.p2 (AL Tryz.prog .shl 69),[(.const (.int .u64 (1))),(.var 1)],.push,[]⟩,
 ⟨none,.call 137,[(.var 0),(.loc 0),(.const (.int .u64 (0)))],.push,[]⟩,
 ⟨none,.p1 some,[.loc 0],(.set 2),[]⟩]
def xT:Ah:=⟨2,3,(.seq (.ops p8) (.seq (.ops qA) .ret)),[((.var 2),none)]⟩
def pn:List AA:=[
 ⟨none,.p1 some,[(.const (.slice none 0 (some 0)))],(.set 2),[]⟩,
 ⟨none,.p1 some,[(.const (.int .u64 (0)))],(.set 3),[]⟩]
def pr:List AA:=[
 ⟨none,.r (fun s l=>match l with | [x]=>A6 Tryz.prog s 22 x | _=>none),[.var 0],.push,[]⟩,
 ⟨none,.mk (Xy (BV Tryz.prog 22)),[.loc 0,.loc 0],.push,[]⟩,
 ⟨none,.p1 some,[.loc 0],(.set 2),[]⟩]
def px:List AA:=[
 ⟨none,.r (fun s l=>match l with | [x]=>A6 Tryz.prog s 22 x | _=>none),[.var 0],.push,[]⟩,
 ⟨none,.p2 (AL Tryz.prog .sub 3),[(.loc 0),(.const (.int .i64 (1)))],.push,[]⟩,
 ⟨none,.p1 some,[.loc 0],(.set 4),[]⟩]
def eK:List AA:=[
 ⟨none,.p2 (AL Tryz.prog .geq 3),[(.var 4),(.const (.int .i64 (0)))],(.set 5),[]⟩]
def py:List AA:=[
 ⟨none,.p1 some,[.var 3],.push,[]⟩,
 ⟨none,.p2 (AL Tryz.prog .shl 69),[(.loc 0),(.const (.int .u64 (32)))],.push,[]⟩,
 ⟨none,.p2 (AM Tryz.prog 22),[.var 0,.var 4],.push,[]⟩,
 ⟨none,.r1 (fun s a=>AC Tryz.prog s 76 a),[.loc 0],.push,[]⟩,
 ⟨none,.r1 (fun s x=>Ax Tryz.prog s 76 69 x),[.loc 0],.push,[]⟩,
 ⟨none,.p2 (AL Tryz.prog .or 69),[.loc 3,.loc 0],.push,[]⟩,
 ⟨none,.p1 some,[.loc 0],(.set 3),[]⟩]
def pz:List AA:=[
 ⟨none,.p2 (AL Tryz.prog .quo 69),[.var 3,.var 1],.push,[]⟩,
 ⟨none,.r1 (fun s x=>Ax Tryz.prog s 69 76 x),[.loc 0],.push,[]⟩,
 ⟨none,.p2 (AM Tryz.prog 22),[.var 2,.var 4],.push,[]⟩,
 ⟨none,.e (fun s=>Xy (fun a x=>Za (AS Tryz.prog s 76 a x))),[.loc 0,.loc 1],.push,[]⟩]
def p4:List AA:=[
 ⟨none,.p1 some,[.var 3],.push,[]⟩,
 ⟨none,.p2 (AL Tryz.prog .rem 69),[.loc 0,.var 1],.push,[]⟩,
 ⟨none,.p1 some,[.loc 0],(.set 3),[]⟩]
def p6:List AA:=[
 ⟨none,.p1 some,[.var 4],.push,[]⟩,
 ⟨none,.p2 (AL Tryz.prog .sub 3),[(.loc 0),(.const (.int .i64 (1)))],.push,[]⟩,
 ⟨none,.p1 some,[.loc 0],(.set 4),[]⟩]
def Q7:Aa:=(.seq (.seq (.ops eK) (.cond (.var 5)
 .skip
 (.exit 0))) (.seq (.block 1 (.seq (.ops py) (.seq (.ops pz) (.ops p4)))) (.ops p6)))
def p7:List AA:=[
 ⟨none,.p1 some,[.var 2],.push,[]⟩,
 ⟨none,.call 92,[.loc 0],.push,[]⟩,
 ⟨none,.p1 some,[.var 3],.push,[]⟩,
 ⟨none,.p1 some,[.loc 1],(.set 2),[]⟩,
 ⟨none,.p1 some,[.loc 0],(.set 3),[]⟩]
def xS:Ah:=⟨2,6,(.seq (.ops pn) (.seq (.ops pr) (.seq (.seq (.ops px) (.block 0 (.loop Q7))) (.seq (.ops p7) .ret)))),[((.var 2),none),((.var 3),none)]⟩
def qB:List AA:=[
 ⟨none,.p1 some,[(.const (.int .u64 (0)))],(.set 2),[]⟩]
def qD:List AA:=[
 ⟨none,.r (fun s l=>match l with | [x]=>A6 Tryz.prog s 22 x | _=>none),[.var 1],.push,[]⟩,
 ⟨none,.p1 some,[.loc 0],(.set 3),[]⟩]
def qE:List AA:=[
 ⟨none,.p2 (AM Tryz.prog 22),[.var 0,.var 3],.push,[]⟩,
 ⟨none,.r1 (fun s a=>AC Tryz.prog s 76 a),[.loc 0],.push,[]⟩,
 ⟨none,.r1 (fun s x=>Ax Tryz.prog s 76 69 x),[.loc 0],.push,[]⟩,
 ⟨none,.p2 (AL Tryz.prog .shl 69),[(.loc 0),(.const (.int .u64 (32)))],.push,[]⟩,
 ⟨none,.p2 (AL Tryz.prog .sub 3),[(.var 3),(.const (.int .i64 (1)))],.push,[]⟩,
 ⟨none,.p2 (AM Tryz.prog 22),[.var 0,.loc 0],.push,[]⟩,
 ⟨none,.r1 (fun s a=>AC Tryz.prog s 76 a),[.loc 0],.push,[]⟩,
 ⟨none,.r1 (fun s x=>Ax Tryz.prog s 76 69 x),[.loc 0],.push,[]⟩,
 ⟨none,.p2 (AL Tryz.prog .or 69),[.loc 4,.loc 0],.push,[]⟩,
 ⟨none,.p1 some,[.loc 0],(.set 4),[]⟩]
def qF:List AA:=[
 ⟨none,.p2 (AL Tryz.prog .sub 3),[(.var 3),(.const (.int .i64 (1)))],.push,[]⟩,
 ⟨none,.p2 (AM Tryz.prog 22),[.var 1,.loc 0],.push,[]⟩,
 ⟨none,.r1 (fun s a=>AC Tryz.prog s 76 a),[.loc 0],.push,[]⟩,
 ⟨none,.r1 (fun s x=>Ax Tryz.prog s 76 69 x),[.loc 0],.push,[]⟩,
 ⟨none,.p2 (AL Tryz.prog .quo 69),[.var 4,.loc 0],.push,[]⟩,
 ⟨none,.p2 (AL Tryz.prog .sub 3),[(.var 3),(.const (.int .i64 (1)))],.push,[]⟩,
 ⟨none,.p2 (AM Tryz.prog 22),[.var 1,.loc 0],.push,[]⟩,
 ⟨none,.r1 (fun s a=>AC Tryz.prog s 76 a),[.loc 0],.push,[]⟩,
 ⟨none,.r1 (fun s x=>Ax Tryz.prog s 76 69 x),[.loc 0],.push,[]⟩,
 ⟨none,.p2 (AL Tryz.prog .rem 69),[.var 4,.loc 0],.push,[]⟩,
 ⟨none,.p1 some,[.loc 5],(.set 5),[]⟩,
 ⟨none,.p1 some,[.loc 0],(.set 6),[]⟩]
def NX:List AA:=[
 ⟨none,.p2 (AL Tryz.prog .gtr 69),[(.var 5),(.const (.int .u64 (4294967295)))],.push,[]⟩,
 ⟨(some ((.loc 0),false)),.p1 some,[.var 5],.push,[]⟩,
 ⟨(some ((.loc 1),false)),.p1 some,[.var 1],.push,[]⟩,
 ⟨(some ((.loc 2),false)),.p1 some,[.var 3],.push,[]⟩,
 ⟨(some ((.loc 3),false)),.p2 (AL Tryz.prog .sub 3),[(.loc 0),(.const (.int .i64 (2)))],.push,[]⟩,
 ⟨(some ((.loc 4),false)),.p2 (AM Tryz.prog 22),[.loc 2,.loc 0],.push,[]⟩,
 ⟨(some ((.loc 5),false)),.r1 (fun s a=>AC Tryz.prog s 76 a),[.loc 0],.push,[]⟩,
 ⟨(some ((.loc 6),false)),.r1 (fun s x=>Ax Tryz.prog s 76 69 x),[.loc 0],.push,[]⟩,
 ⟨(some ((.loc 7),false)),.p2 (AL Tryz.prog .mul 69),[.loc 6,.loc 0],.push,[]⟩,
 ⟨(some ((.loc 8),false)),.p1 some,[.var 6],.push,[]⟩,
 ⟨(some ((.loc 9),false)),.p2 (AL Tryz.prog .shl 69),[(.loc 0),(.const (.int .u64 (32)))],.push,[]⟩,
 ⟨(some ((.loc 10),false)),.p1 some,[.var 0],.push,[]⟩,
 ⟨(some ((.loc 11),false)),.p1 some,[.var 3],.push,[]⟩,
 ⟨(some ((.loc 12),false)),.p2 (AL Tryz.prog .sub 3),[(.loc 0),(.const (.int .i64 (2)))],.push,[]⟩,
 ⟨(some ((.loc 13),false)),.p2 (AM Tryz.prog 22),[.loc 2,.loc 0],.push,[]⟩,
 ⟨(some ((.loc 14),false)),.r1 (fun s a=>AC Tryz.prog s 76 a),[.loc 0],.push,[]⟩,
 ⟨(some ((.loc 15),false)),.r1 (fun s x=>Ax Tryz.prog s 76 69 x),[.loc 0],.push,[]⟩,
 ⟨(some ((.loc 16),false)),.p2 (AL Tryz.prog .or 69),[.loc 6,.loc 0],.push,[]⟩,
 ⟨(some ((.loc 17),false)),.p2 (AL Tryz.prog .gtr 69),[.loc 9,.loc 0],.push,[]⟩,
 ⟨none,.p Ru,[(.loc 18),(.const (.bool true)),(.loc 0)],(.set 7),[]⟩]
def Q8:List AA:=[
 ⟨none,.p1 some,[.var 5],.push,[]⟩,
 ⟨none,.p2 (AL Tryz.prog .sub 69),[(.loc 0),(.const (.int .u64 (1)))],.push,[]⟩,
 ⟨none,.p1 some,[.loc 0],(.set 5),[]⟩]
def Q9:List AA:=[
 ⟨none,.p1 some,[.var 6],.push,[]⟩,
 ⟨none,.p2 (AL Tryz.prog .sub 3),[(.var 3),(.const (.int .i64 (1)))],.push,[]⟩,
 ⟨none,.p2 (AM Tryz.prog 22),[.var 1,.loc 0],.push,[]⟩,
 ⟨none,.r1 (fun s a=>AC Tryz.prog s 76 a),[.loc 0],.push,[]⟩,
 ⟨none,.r1 (fun s x=>Ax Tryz.prog s 76 69 x),[.loc 0],.push,[]⟩,
 ⟨none,.p2 (AL Tryz.prog .add 69),[.loc 4,.loc 0],.push,[]⟩,
 ⟨none,.p1 some,[.loc 0],(.set 6),[]⟩]
def RA:List AA:=[
 ⟨none,.p2 (AL Tryz.prog .gtr 69),[(.var 6),(.const (.int .u64 (4294967295)))],(.set 8),[]⟩]
def Lp:Aa:=(.seq (.seq (.ops NX) (.cond (.var 7)
 .skip
 (.exit 0))) (.block 1 (.seq (.ops Q8) (.seq (.ops Q9) (.seq (.ops RA) (.cond (.var 8)
 (.exit 0)
 .skip))))))
def qG:List AA:=[
 ⟨none,.p1 some,[.var 5],(.set 2),[]⟩]
def xU:Ah:=⟨2,9,(.seq (.ops qB) (.seq (.ops qD) (.seq (.ops qE) (.seq (.ops qF) (.seq (.block 0 (.loop Lp)) (.seq (.ops qG) .ret)))))),[((.var 2),none)]⟩
def qH:List AA:=[
 ⟨none,.p1 some,[(.const (.bool false))],(.set 3),[]⟩]
def qI:List AA:=[
 ⟨none,.p1 some,[(.const (.int .u64 (0)))],(.set 4),[]⟩,
 ⟨none,.p1 some,[(.const (.int .u64 (0)))],(.set 5),[]⟩]
def qJ:List AA:=[
 ⟨none,.call 136,[.var 1],.push,[]⟩,
 ⟨none,.mk (fun l=>(Ad Tryz.prog 22 1 (zipIdx [0] l)).bind fun r=>some (r,.slice 1)),[(.const (.int .u32 (0)))],.push,[]⟩,
 ⟨none,.e (fun s l=>Ar Tryz.prog s [22,22] l),[.loc 1,.loc 0],(.set 9),[]⟩,
 ⟨none,.r (fun s l=>match l with | [x]=>A6 Tryz.prog s 22 x | _=>none),[.var 9],(.set 10),[]⟩,
 ⟨none,.p1 some,[(.const (.int .i64 (0)))],(.set 11),[]⟩]
def eN:List AA:=[
 ⟨none,.p2 (AL Tryz.prog .lss 3),[.var 11,.var 10],(.set 12),[]⟩]
def qK:List AA:=[
 ⟨none,.p2 (AM Tryz.prog 22),[.var 9,.var 11],.push,[]⟩,
 ⟨none,.r1 (fun s a=>AC Tryz.prog s 76 a),[.loc 0],.push,[]⟩,
 ⟨none,.p1 some,[.var 11],(.set 6),[]⟩,
 ⟨none,.p1 some,[.loc 0],(.set 7),[]⟩]
def qL:List AA:=[
 ⟨none,.p1 some,[.var 4],.push,[]⟩,
 ⟨none,.r1 (fun s x=>Ax Tryz.prog s 76 69 x),[.var 7],.push,[]⟩,
 ⟨none,.p2 (AL Tryz.prog .mul 69),[.var 2,.loc 0],.push,[]⟩,
 ⟨none,.p2 (AL Tryz.prog .add 69),[.loc 2,.loc 0],.push,[]⟩,
 ⟨none,.p1 some,[.loc 0],(.set 4),[]⟩]
def qM:List AA:=[
 ⟨none,.p2 (AM Tryz.prog 22),[.var 0,.var 6],.push,[]⟩,
 ⟨none,.r1 (fun s a=>AC Tryz.prog s 76 a),[.loc 0],.push,[]⟩,
 ⟨none,.r1 (fun s x=>Ax Tryz.prog s 76 69 x),[.loc 0],.push,[]⟩,
 ⟨none,.p2 (AL Tryz.prog .and 69),[(.var 4),(.const (.int .u64 (4294967295)))],.push,[]⟩,
 ⟨none,.p2 (AL Tryz.prog .sub 69),[.loc 1,.loc 0],.push,[]⟩,
 ⟨none,.p2 (AL Tryz.prog .sub 69),[.loc 0,.var 5],.push,[]⟩,
 ⟨none,.p1 some,[.loc 0],(.set 8),[]⟩]
def qN:List AA:=[
 ⟨none,.p2 (AL Tryz.prog .and 69),[(.var 8),(.const (.int .u64 (4294967295)))],.push,[]⟩,
 ⟨none,.r1 (fun s x=>Ax Tryz.prog s 69 76 x),[.loc 0],.push,[]⟩,
 ⟨none,.p2 (AM Tryz.prog 22),[.var 0,.var 6],.push,[]⟩,
 ⟨none,.e (fun s=>Xy (fun a x=>Za (AS Tryz.prog s 76 a x))),[.loc 0,.loc 1],.push,[]⟩]
def qO:List AA:=[
 ⟨none,.p1 some,[.var 4],.push,[]⟩,
 ⟨none,.p2 (AL Tryz.prog .shr 69),[(.loc 0),(.const (.int .u64 (32)))],.push,[]⟩,
 ⟨none,.p1 some,[.loc 0],(.set 4),[]⟩]
def qP:List AA:=[
 ⟨none,.p2 (AL Tryz.prog .shr 69),[(.var 8),(.const (.int .u64 (63)))],.push,[]⟩,
 ⟨none,.p1 some,[.loc 0],(.set 5),[]⟩]
def eL:List AA:=[
 ⟨none,.p2 (AL Tryz.prog .add 3),[(.var 11),(.const (.int .i64 (1)))],.push,[]⟩,
 ⟨none,.p1 some,[.loc 0],(.set 11),[]⟩]
def Lq:Aa:=(.seq (.ops eN) (.seq (.cond (.var 12)
 .skip
 (.exit 0)) (.seq (.block 1 (.seq (.ops qK) (.seq (.ops qL) (.seq (.ops qM) (.seq (.ops qN) (.seq (.ops qO) (.ops qP))))))) (.ops eL))))
def eM:List AA:=[
 ⟨none,.p2 (AL Tryz.prog .gtr 69),[(.var 5),(.const (.int .u64 (0)))],.push,[]⟩,
 ⟨none,.p1 some,[.loc 0],(.set 3),[]⟩]
def xV:Ah:=⟨3,13,(.seq (.ops qH) (.seq (.ops qI) (.seq (.seq (.ops qJ) (.block 0 (.loop Lq))) (.seq (.ops eM) .ret)))),[((.var 3),none)]⟩
def qQ:List AA:=[
 ⟨none,.p1 some,[(.const (.int .u64 (0)))],(.set 2),[]⟩]
def qR:List AA:=[
 ⟨none,.call 136,[.var 1],.push,[]⟩,
 ⟨none,.mk (fun l=>(Ad Tryz.prog 22 1 (zipIdx [0] l)).bind fun r=>some (r,.slice 1)),[(.const (.int .u32 (0)))],.push,[]⟩,
 ⟨none,.e (fun s l=>Ar Tryz.prog s [22,22] l),[.loc 1,.loc 0],(.set 5),[]⟩,
 ⟨none,.r (fun s l=>match l with | [x]=>A6 Tryz.prog s 22 x | _=>none),[.var 5],(.set 6),[]⟩,
 ⟨none,.p1 some,[(.const (.int .i64 (0)))],(.set 7),[]⟩]
def eO:List AA:=[
 ⟨none,.p2 (AL Tryz.prog .lss 3),[.var 7,.var 6],(.set 8),[]⟩]
def qS:List AA:=[
 ⟨none,.p2 (AM Tryz.prog 22),[.var 5,.var 7],.push,[]⟩,
 ⟨none,.r1 (fun s a=>AC Tryz.prog s 76 a),[.loc 0],.push,[]⟩,
 ⟨none,.p1 some,[.var 7],(.set 3),[]⟩,
 ⟨none,.p1 some,[.loc 0],(.set 4),[]⟩]
def qT:List AA:=[
 ⟨none,.p1 some,[.var 2],.push,[]⟩,
 ⟨none,.p2 (AM Tryz.prog 22),[.var 0,.var 3],.push,[]⟩,
 ⟨none,.r1 (fun s a=>AC Tryz.prog s 76 a),[.loc 0],.push,[]⟩,
 ⟨none,.r1 (fun s x=>Ax Tryz.prog s 76 69 x),[.loc 0],.push,[]⟩,
 ⟨none,.r1 (fun s x=>Ax Tryz.prog s 76 69 x),[.var 4],.push,[]⟩,
 ⟨none,.p2 (AL Tryz.prog .add 69),[.loc 1,.loc 0],.push,[]⟩,
 ⟨none,.p2 (AL Tryz.prog .add 69),[.loc 5,.loc 0],.push,[]⟩,
 ⟨none,.p1 some,[.loc 0],(.set 2),[]⟩]
def qU:List AA:=[
 ⟨none,.p2 (AL Tryz.prog .and 69),[(.var 2),(.const (.int .u64 (4294967295)))],.push,[]⟩,
 ⟨none,.r1 (fun s x=>Ax Tryz.prog s 69 76 x),[.loc 0],.push,[]⟩,
 ⟨none,.p2 (AM Tryz.prog 22),[.var 0,.var 3],.push,[]⟩,
 ⟨none,.e (fun s=>Xy (fun a x=>Za (AS Tryz.prog s 76 a x))),[.loc 0,.loc 1],.push,[]⟩]
def qV:List AA:=[
 ⟨none,.p1 some,[.var 2],.push,[]⟩,
 ⟨none,.p2 (AL Tryz.prog .shr 69),[(.loc 0),(.const (.int .u64 (32)))],.push,[]⟩,
 ⟨none,.p1 some,[.loc 0],(.set 2),[]⟩]
def qW:List AA:=[
 ⟨none,.p2 (AL Tryz.prog .add 3),[(.var 7),(.const (.int .i64 (1)))],.push,[]⟩,
 ⟨none,.p1 some,[.loc 0],(.set 7),[]⟩]
def RC:Aa:=(.seq (.ops eO) (.seq (.cond (.var 8)
 .skip
 (.exit 0)) (.seq (.block 1 (.seq (.ops qS) (.seq (.ops qT) (.seq (.ops qU) (.ops qV))))) (.ops qW))))
def xW:Ah:=⟨2,9,(.seq (.ops qQ) (.seq (.ops qR) (.block 0 (.loop RC)))),[]⟩
def mt:List AA:=[
 ⟨none,.p1 some,[(.const (.slice none 0 (some 0)))],(.set 2),[]⟩,
 ⟨none,.p1 some,[(.const (.slice none 0 (some 0)))],(.set 3),[]⟩,
 ⟨none,.p1 some,[(.const (.int .i64 (0)))],(.set 4),[]⟩]
def mu:List AA:=[
 ⟨none,.p1 some,[.var 0],.push,[]⟩,
 ⟨none,.call 92,[.loc 0],.push,[]⟩,
 ⟨none,.p1 some,[.var 1],.push,[]⟩,
 ⟨none,.call 92,[.loc 0],.push,[]⟩,
 ⟨none,.p1 some,[.loc 2],(.set 0),[]⟩,
 ⟨none,.p1 some,[.loc 0],(.set 1),[]⟩]
def dJ:List AA:=[
 ⟨none,.r (fun s l=>match l with | [x]=>A6 Tryz.prog s 22 x | _=>none),[.var 1],.push,[]⟩,
 ⟨none,.p2 (AL Tryz.prog .eql 3),[(.loc 0),(.const (.int .i64 (0)))],.push,[]⟩,
 ⟨none,.p1 some,[.loc 0],(.set 13),[]⟩]
def mw:List AA:=[
 ⟨none,.p1 some,[(.const (.slice none 0 (some 0)))],(.set 2),[]⟩,
 ⟨none,.p1 some,[(.const (.slice none 0 (some 0)))],(.set 3),[]⟩,
 ⟨none,.p1 some,[(.const (.int .i64 (3)))],(.set 4),[]⟩]
def my:List AA:=[
 ⟨none,.call 93,[.var 0,.var 1],.push,[]⟩,
 ⟨none,.p2 (AL Tryz.prog .lss 3),[(.loc 0),(.const (.int .i64 (0)))],.push,[]⟩,
 ⟨none,.p1 some,[.loc 0],(.set 14),[]⟩]
def mz:List AA:=[
 ⟨none,.p1 some,[(.const (.slice none 0 (some 0)))],(.set 2),[]⟩,
 ⟨none,.p1 some,[.var 0],(.set 3),[]⟩,
 ⟨none,.p1 some,[(.const (.int .i64 (0)))],(.set 4),[]⟩]
def dO:List AA:=[
 ⟨none,.r (fun s l=>match l with | [x]=>A6 Tryz.prog s 22 x | _=>none),[.var 1],.push,[]⟩,
 ⟨none,.p2 (AL Tryz.prog .eql 3),[(.loc 0),(.const (.int .i64 (1)))],.push,[]⟩,
 ⟨none,.p1 some,[.loc 0],(.set 15),[]⟩]
def nA:List AA:=[
 ⟨none,.p2 (AM Tryz.prog 22),[(.var 1),(.const (.int .i64 (0)))],.push,[]⟩,
 ⟨none,.r1 (fun s a=>AC Tryz.prog s 76 a),[.loc 0],.push,[]⟩,
 ⟨none,.r1 (fun s x=>Ax Tryz.prog s 76 69 x),[.loc 0],.push,[]⟩,
 ⟨none,.call 94,[.var 0,.loc 0],.push,[]⟩,
 ⟨none,.p1 (fun x=>Zb x 0),[.loc 0],.push,[]⟩,
 ⟨none,.p1 (fun x=>Zb x 1),[.loc 1],.push,[]⟩,
 ⟨none,.p1 some,[.loc 1],(.set 5),[]⟩,
 ⟨none,.p1 some,[.loc 0],(.set 6),[]⟩]
def nB:List AA:=[
 ⟨none,.call 48,[.var 6],.push,[]⟩,
 ⟨none,.p1 some,[.var 5],(.set 2),[]⟩,
 ⟨none,.p1 some,[.loc 0],(.set 3),[]⟩,
 ⟨none,.p1 some,[(.const (.int .i64 (0)))],(.set 4),[]⟩]
def nC:List AA:=[
 ⟨none,.p1 some,[(.const (.int .u64 (0)))],(.set 7),[]⟩]
def Tv:List AA:=[
 ⟨none,.r (fun s l=>match l with | [x]=>A6 Tryz.prog s 22 x | _=>none),[.var 1],.push,[]⟩,
 ⟨none,.p2 (AL Tryz.prog .sub 3),[(.loc 0),(.const (.int .i64 (1)))],.push,[]⟩,
 ⟨none,.p2 (AM Tryz.prog 22),[.var 1,.loc 0],.push,[]⟩,
 ⟨none,.r1 (fun s a=>AC Tryz.prog s 76 a),[.loc 0],.push,[]⟩,
 ⟨none,.p2 (AL Tryz.prog .shl 76),[.loc 0,.var 7],.push,[]⟩,
 ⟨none,.p2 (AL Tryz.prog .shr 76),[(.loc 0),(.const (.int .u64 (31)))],.push,[]⟩,
 ⟨none,.p2 (AL Tryz.prog .eql 76),[(.loc 0),(.const (.int .u32 (0)))],(.set 16),[]⟩]
def dC:List AA:=[
 ⟨none,.p1 some,[.var 7],.push,[]⟩,
 ⟨none,.p2 (AL Tryz.prog .add 113),[(.loc 0),(.const (.int .u64 (1)))],.push,[]⟩,
 ⟨none,.p1 some,[.loc 0],(.set 7),[]⟩]
def Lm:Aa:=(.seq (.seq (.ops Tv) (.cond (.var 16)
 .skip
 (.exit 1))) (.block 2 (.ops dC)))
def dD:List AA:=[
 ⟨none,.r (fun s l=>match l with | [x]=>A6 Tryz.prog s 22 x | _=>none),[.var 1],.push,[]⟩,
 ⟨none,.call 95,[.var 0,.var 7],.push,[⟨none,.r (fun s l=>match l with | [x]=>A6 Tryz.prog s 22 x | _=>none),[.var 1],(.loc 1)⟩]⟩,
 ⟨none,.call 95,[.var 1,.var 7],.push,[⟨none,.r (fun s l=>match l with | [x]=>A6 Tryz.prog s 22 x | _=>none),[.var 1],(.loc 2)⟩]⟩,
 ⟨none,.r (At Tryz.prog 22 false true false),[.loc 0,.loc 2],.push,[]⟩,
 ⟨none,.p1 some,[.loc 2],(.set 8),[]⟩,
 ⟨none,.p1 some,[.loc 0],(.set 9),[]⟩]
def dE:List AA:=[
 ⟨none,.r (fun s l=>match l with | [x]=>A6 Tryz.prog s 22 x | _=>none),[.var 8],.push,[]⟩,
 ⟨none,.r (fun s l=>match l with | [x]=>A6 Tryz.prog s 22 x | _=>none),[.var 9],.push,[]⟩,
 ⟨none,.p2 (AL Tryz.prog .sub 3),[.loc 1,.loc 0],.push,[]⟩,
 ⟨none,.mk (Xy (BV Tryz.prog 22)),[.loc 0,.loc 0],.push,[]⟩,
 ⟨none,.p1 some,[.loc 0],(.set 2),[]⟩]
def dF:List AA:=[
 ⟨none,.r (fun s l=>match l with | [x]=>A6 Tryz.prog s 22 x | _=>none),[.var 2],.push,[]⟩,
 ⟨none,.p2 (AL Tryz.prog .sub 3),[(.loc 0),(.const (.int .i64 (1)))],.push,[]⟩,
 ⟨none,.p1 some,[.loc 0],(.set 10),[]⟩]
def Tw:List AA:=[
 ⟨none,.p2 (AL Tryz.prog .geq 3),[(.var 10),(.const (.int .i64 (0)))],(.set 17),[]⟩]
def dG:List AA:=[
 ⟨none,.r (fun s l=>match l with | [x]=>A6 Tryz.prog s 22 x | _=>none),[.var 9],.push,[]⟩,
 ⟨none,.p2 (AL Tryz.prog .add 3),[.var 10,.loc 0],.push,[]⟩,
 ⟨none,.p2 (AL Tryz.prog .add 3),[(.loc 0),(.const (.int .i64 (1)))],.push,[]⟩,
 ⟨none,.r (At Tryz.prog 22 true true false),[.var 8,.var 10,.loc 0],.push,[]⟩,
 ⟨none,.p1 some,[.loc 0],(.set 11),[]⟩]
def dH:List AA:=[
 ⟨none,.call 96,[.var 11,.var 9],.push,[]⟩,
 ⟨none,.p1 some,[.loc 0],(.set 12),[]⟩]
def dI:List AA:=[
 ⟨none,.call 97,[.var 11,.var 9,.var 12],(.set 18),[]⟩]
def dK:List AA:=[
 ⟨none,.call 98,[.var 11,.var 9],.push,[]⟩]
def dL:List AA:=[
 ⟨none,.p1 some,[.var 12],.push,[]⟩,
 ⟨none,.p2 (AL Tryz.prog .sub 69),[(.loc 0),(.const (.int .u64 (1)))],.push,[]⟩,
 ⟨none,.p1 some,[.loc 0],(.set 12),[]⟩]
def Tx:List AA:=[
 ⟨none,.r1 (fun s x=>Ax Tryz.prog s 69 76 x),[.var 12],.push,[]⟩,
 ⟨none,.p2 (AM Tryz.prog 22),[.var 2,.var 10],.push,[]⟩,
 ⟨none,.e (fun s=>Xy (fun a x=>Za (AS Tryz.prog s 76 a x))),[.loc 0,.loc 1],.push,[]⟩]
def Ty:List AA:=[
 ⟨none,.p1 some,[.var 10],.push,[]⟩,
 ⟨none,.p2 (AL Tryz.prog .sub 3),[(.loc 0),(.const (.int .i64 (1)))],.push,[]⟩,
 ⟨none,.p1 some,[.loc 0],(.set 10),[]⟩]
def Jq:Aa:=(.seq (.seq (.ops Tw) (.cond (.var 17)
 .skip
 (.exit 3))) (.seq (.block 4 (.seq (.ops dG) (.seq (.ops dH) (.seq (.seq (.ops dI) (.cond (.var 18)
 (.seq (.ops dK) (.ops dL))
 .skip)) (.ops Tx))))) (.ops Ty)))
def dM:List AA:=[
 ⟨none,.p2 (AL Tryz.prog .shl 69),[(.const (.int .u64 (1))),(.var 7)],.push,[]⟩,
 ⟨none,.call 94,[.var 8,.loc 0],.push,[]⟩,
 ⟨none,.p1 (fun x=>Zb x 0),[.loc 0],.push,[]⟩,
 ⟨none,.p1 (fun x=>Zb x 1),[.loc 1],.push,[]⟩,
 ⟨none,.p1 some,[.loc 1],(.set 3),[]⟩]
def dN:List AA:=[
 ⟨none,.p1 some,[.var 2],.push,[]⟩,
 ⟨none,.call 92,[.loc 0],.push,[]⟩,
 ⟨none,.p1 some,[.var 3],.push,[]⟩,
 ⟨none,.p1 some,[.loc 1],(.set 2),[]⟩,
 ⟨none,.p1 some,[.loc 0],(.set 3),[]⟩,
 ⟨none,.p1 some,[(.const (.int .i64 (0)))],(.set 4),[]⟩]
def ws:Ah:=⟨2,19,(.seq (.ops mt) (.seq (.ops mu) (.seq (.block 0 (.seq (.ops dJ) (.cond (.var 13)
 (.seq (.ops mw) .ret)
 (.seq (.ops my) (.cond (.var 14)
 (.seq (.ops mz) .ret)
 (.seq (.ops dO) (.cond (.var 15)
 (.seq (.ops nA) (.seq (.ops nB) .ret))
 .skip))))))) (.seq (.ops nC) (.seq (.block 1 (.loop Lm)) (.seq (.ops dD) (.seq (.ops dE) (.seq (.seq (.ops dF) (.block 3 (.loop Jq))) (.seq (.ops dM) (.seq (.ops dN) .ret)))))))))),[((.var 2),none),((.var 3),none),((.var 4),none)]⟩
def mo:List AA:=[
 ⟨none,.p1 some,[(.const (.slice none 0 (some 0)))],(.set 2),[]⟩]
def mp:List AA:=[
 ⟨none,.p1 some,[.var 0],.push,[]⟩,
 ⟨none,.call 92,[.loc 0],.push,[]⟩,
 ⟨none,.p1 some,[.var 1],.push,[]⟩,
 ⟨none,.call 92,[.loc 0],.push,[]⟩,
 ⟨none,.p1 some,[.loc 2],(.set 0),[]⟩,
 ⟨none,.p1 some,[.loc 0],(.set 1),[]⟩]
def dB:List AA:=[
 ⟨none,.r (fun s l=>match l with | [x]=>A6 Tryz.prog s 22 x | _=>none),[.var 1],.push,[]⟩,
 ⟨none,.p2 (AL Tryz.prog .gtr 3),[(.loc 0),(.const (.int .i64 (0)))],(.set 4),[]⟩]
def mq:List AA:=[
 ⟨none,.call 50,[.var 0,.var 1],.push,[]⟩,
 ⟨none,.p1 (fun x=>Zb x 0),[.loc 0],.push,[]⟩,
 ⟨none,.p1 (fun x=>Zb x 1),[.loc 1],.push,[]⟩,
 ⟨none,.p1 (fun x=>Zb x 2),[.loc 2],.push,[]⟩,
 ⟨none,.p1 some,[.loc 2],.push,[]⟩,
 ⟨none,.p1 some,[.loc 2],(.set 3),[]⟩,
 ⟨none,.p1 some,[.loc 1],.push,[]⟩]
def mr:List AA:=[
 ⟨none,.p1 some,[.var 1],.push,[]⟩,
 ⟨none,.p1 some,[.loc 0],(.set 0),[]⟩,
 ⟨none,.p1 some,[.var 3],(.set 1),[]⟩]
def Q4:Aa:=(.seq (.seq (.ops dB) (.cond (.var 4)
 .skip
 (.exit 0))) (.block 1 (.seq (.ops mq) (.ops mr))))
def ms:List AA:=[
 ⟨none,.p1 some,[.var 0],(.set 2),[]⟩]
def wq:Ah:=⟨2,5,(.seq (.ops mo) (.seq (.ops mp) (.seq (.block 0 (.loop Q4)) (.seq (.ops ms) .ret)))),[((.var 2),none)]⟩
def nD:List AA:=[
 ⟨none,.p1 some,[(.const (.slice none 0 (some 0)))],(.set 2),[]⟩]
def nE:List AA:=[
 ⟨none,.r (fun s l=>match l with | [x]=>A6 Tryz.prog s 22 x | _=>none),[.var 0],.push,[]⟩,
 ⟨none,.r (fun s l=>match l with | [x]=>A6 Tryz.prog s 22 x | _=>none),[.var 1],.push,[]⟩,
 ⟨none,.p2 (AL Tryz.prog .add 3),[.loc 1,.loc 0],.push,[]⟩,
 ⟨none,.mk (Xy (BV Tryz.prog 22)),[.loc 0,.loc 0],.push,[]⟩,
 ⟨none,.p1 some,[.loc 0],(.set 3),[]⟩]
def nF:List AA:=[
 ⟨none,.p1 some,[.var 0],(.set 9),[]⟩,
 ⟨none,.r (fun s l=>match l with | [x]=>A6 Tryz.prog s 22 x | _=>none),[.var 9],(.set 10),[]⟩,
 ⟨none,.p1 some,[(.const (.int .i64 (0)))],(.set 11),[]⟩]
def dV:List AA:=[
 ⟨none,.p2 (AL Tryz.prog .lss 3),[.var 11,.var 10],(.set 12),[]⟩]
def nG:List AA:=[
 ⟨none,.p2 (AM Tryz.prog 22),[.var 9,.var 11],.push,[]⟩,
 ⟨none,.r1 (fun s a=>AC Tryz.prog s 76 a),[.loc 0],.push,[]⟩,
 ⟨none,.p1 some,[.var 11],(.set 4),[]⟩,
 ⟨none,.p1 some,[.loc 0],(.set 5),[]⟩]
def nH:List AA:=[
 ⟨none,.p1 some,[(.const (.int .u64 (0)))],(.set 6),[]⟩]
def nI:List AA:=[
 ⟨none,.p1 some,[.var 1],(.set 13),[]⟩,
 ⟨none,.r (fun s l=>match l with | [x]=>A6 Tryz.prog s 22 x | _=>none),[.var 13],(.set 14),[]⟩,
 ⟨none,.p1 some,[(.const (.int .i64 (0)))],(.set 15),[]⟩]
def dW:List AA:=[
 ⟨none,.p2 (AL Tryz.prog .lss 3),[.var 15,.var 14],(.set 16),[]⟩]
def nJ:List AA:=[
 ⟨none,.p2 (AM Tryz.prog 22),[.var 13,.var 15],.push,[]⟩,
 ⟨none,.r1 (fun s a=>AC Tryz.prog s 76 a),[.loc 0],.push,[]⟩,
 ⟨none,.p1 some,[.var 15],(.set 7),[]⟩,
 ⟨none,.p1 some,[.loc 0],(.set 8),[]⟩]
def nK:List AA:=[
 ⟨none,.p1 some,[.var 6],.push,[]⟩,
 ⟨none,.r1 (fun s x=>Ax Tryz.prog s 76 69 x),[.var 5],.push,[]⟩,
 ⟨none,.r1 (fun s x=>Ax Tryz.prog s 76 69 x),[.var 8],.push,[]⟩,
 ⟨none,.p2 (AL Tryz.prog .mul 69),[.loc 1,.loc 0],.push,[]⟩,
 ⟨none,.p2 (AL Tryz.prog .add 3),[.var 4,.var 7],.push,[]⟩,
 ⟨none,.p2 (AM Tryz.prog 22),[.var 3,.loc 0],.push,[]⟩,
 ⟨none,.r1 (fun s a=>AC Tryz.prog s 76 a),[.loc 0],.push,[]⟩,
 ⟨none,.r1 (fun s x=>Ax Tryz.prog s 76 69 x),[.loc 0],.push,[]⟩,
 ⟨none,.p2 (AL Tryz.prog .add 69),[.loc 4,.loc 0],.push,[]⟩,
 ⟨none,.p2 (AL Tryz.prog .add 69),[.loc 8,.loc 0],.push,[]⟩,
 ⟨none,.p1 some,[.loc 0],(.set 6),[]⟩]
def dP:List AA:=[
 ⟨none,.p2 (AL Tryz.prog .add 3),[.var 4,.var 7],.push,[]⟩,
 ⟨none,.p2 (AL Tryz.prog .and 69),[(.var 6),(.const (.int .u64 (4294967295)))],.push,[]⟩,
 ⟨none,.r1 (fun s x=>Ax Tryz.prog s 69 76 x),[.loc 0],.push,[]⟩,
 ⟨none,.p2 (AM Tryz.prog 22),[.var 3,.loc 2],.push,[]⟩,
 ⟨none,.e (fun s=>Xy (fun a x=>Za (AS Tryz.prog s 76 a x))),[.loc 0,.loc 1],.push,[]⟩]
def dQ:List AA:=[
 ⟨none,.p1 some,[.var 6],.push,[]⟩,
 ⟨none,.p2 (AL Tryz.prog .shr 69),[(.loc 0),(.const (.int .u64 (32)))],.push,[]⟩,
 ⟨none,.p1 some,[.loc 0],(.set 6),[]⟩]
def dR:List AA:=[
 ⟨none,.p2 (AL Tryz.prog .add 3),[(.var 15),(.const (.int .i64 (1)))],.push,[]⟩,
 ⟨none,.p1 some,[.loc 0],(.set 15),[]⟩]
def Ln:Aa:=(.seq (.ops dW) (.seq (.cond (.var 16)
 .skip
 (.exit 2)) (.seq (.block 3 (.seq (.ops nJ) (.seq (.ops nK) (.seq (.ops dP) (.ops dQ))))) (.ops dR))))
def dS:List AA:=[
 ⟨none,.r (fun s l=>match l with | [x]=>A6 Tryz.prog s 22 x | _=>none),[.var 1],.push,[]⟩,
 ⟨none,.p2 (AL Tryz.prog .add 3),[.var 4,.loc 0],.push,[]⟩,
 ⟨none,.r1 (fun s x=>Ax Tryz.prog s 69 76 x),[.var 6],.push,[]⟩,
 ⟨none,.p2 (AM Tryz.prog 22),[.var 3,.loc 1],.push,[]⟩,
 ⟨none,.e (fun s=>Xy (fun a x=>Za (AS Tryz.prog s 76 a x))),[.loc 0,.loc 1],.push,[]⟩]
def dT:List AA:=[
 ⟨none,.p2 (AL Tryz.prog .add 3),[(.var 11),(.const (.int .i64 (1)))],.push,[]⟩,
 ⟨none,.p1 some,[.loc 0],(.set 11),[]⟩]
def Lo:Aa:=(.seq (.ops dV) (.seq (.cond (.var 12)
 .skip
 (.exit 0)) (.seq (.block 1 (.seq (.ops nG) (.seq (.ops nH) (.seq (.seq (.ops nI) (.block 2 (.loop Ln))) (.ops dS))))) (.ops dT))))
def dU:List AA:=[
 ⟨none,.call 92,[.var 3],.push,[]⟩,
 ⟨none,.p1 some,[.loc 0],(.set 2),[]⟩]
def wt:Ah:=⟨2,17,(.seq (.ops nD) (.seq (.ops nE) (.seq (.seq (.ops nF) (.block 0 (.loop Lo))) (.seq (.ops dU) .ret)))),[((.var 2),none)]⟩
theorem eX:AO Tryz.prog 92=some vk:=by kernel_rfl
theorem Vp:AO Tryz.prog 136=some iX:=by kernel_rfl
theorem sH:AO Tryz.prog 48=some wp:=by kernel_rfl
theorem sn:AO Tryz.prog 93=some xR:=by kernel_rfl
theorem jK:AO Tryz.prog 137=some uX:=by kernel_rfl
theorem sq:AO Tryz.prog 95=some xT:=by kernel_rfl
theorem so:AO Tryz.prog 94=some xS:=by kernel_rfl
theorem su:AO Tryz.prog 96=some xU:=by kernel_rfl
theorem sw:AO Tryz.prog 97=some xV:=by kernel_rfl
theorem tA:AO Tryz.prog 98=some xW:=by kernel_rfl
theorem sJ:AO Tryz.prog 50=some ws:=by kernel_rfl
theorem sI:AO Tryz.prog 49=some wq:=by kernel_rfl
theorem sK:AO Tryz.prog 51=some wt:=by kernel_rfl
end
end Go.Proofs.YtjnkfbpadpmakaaGreatDoor.Am
set_option linter.unusedVariables false
namespace Go.Proofs.YtjnkfbpadpmakaaGreatDoor.Am
noncomputable section
def LB:Nat:=4294967296
theorem BO:0<LB:=by decide
def AG:List Nat→Nat
 | []=>0
 | x::l=>x+LB * AG l
def Be(l:List Nat):Prop:=∀x∈l,x<LB
def AJ(n:Nat):List Nat:=if h:n=0 then []else n % LB::AJ (n / LB)
termination_by n
decreasing_by exact zT (by omega) (by decide)
theorem A8:AJ 0=[]:=by rw[AJ];rfl
theorem EK{n:Nat}(h:n≠0):AJ n=n % LB::AJ (n / LB):=by rw[AJ,dif_neg h]
theorem Br{n:Nat}(h:n≠0):AJ n≠[]:=by rw[EK h];exact fun e=>by cases e
theorem AR(n:Nat):AG (AJ n)=n:=by
 induction n using Nat.strongRecOn with
 | _ n ih =>
  by_cases h:n=0
  ·rw[h,A8];rfl
  ·rw[EK h]
   show n % LB+LB * AG (AJ (n / LB))=n
   rw[ih (n / LB) (zT (by omega) (by decide))]
   exact zs n LB
theorem AK(n:Nat):Be (AJ n):=by
 induction n using Nat.strongRecOn with
 | _ n ih =>
  by_cases h:n=0
  ·rw[h,A8];intro x hx;cases hx
  ·rw[EK h]
   intro x hx
   rcases List.mem_cons.1 hx with e | e
   ·rw[e];exact yP _ BO
   ·exact ih (n / LB) (zT (by omega) (by decide)) x e
def DH:List Nat→List Nat
 | []=>[]
 | x::l=>if x=0∧DH l=[]then []else x::DH l
theorem Be.tail{x:Nat}{l:List Nat}(h:Be (x::l)):Be l:=fun y hy=>h y (yK _ hy)
theorem B0      : ∀ {l : List Nat}, Be  l → DH    l = AJ    (AG   l)
  | [],_=>by rw[DH,AG,A8]
  | x::l,h=>by
    have ih:=B0 h.tail
    have hx:=h x yC
    unfold DH
    show(if x=0∧DH l=[]then []else x::DH l)=AJ (x+LB * AG l)
    by_cases hz:x+LB * AG l=0
    · have h1 : x = 0 := by omega
      have h2:AG l=0:=by
        have:LB * AG l=0:=by omega
        rcases Nat.mul_eq_zero.1 this with q | q
        · exact absurd q (by decide)
        · exact q
      rw[if_pos ⟨h1,by rw[ih,h2,A8]⟩,hz,A8]
    · rw[EK hz]
      have hm:(x+LB * AG l) % LB=x:=by rw[Nat.add_mul_mod_self_left,yS hx]
      have hd:(x+LB * AG l) / LB=AG l:=by rw[Nat.add_mul_div_left _ _ BO,zE hx,xu]
      rw[hm,hd]
      rw[if_neg,ih]
      rintro⟨q1,q2⟩
      rw[ih]at q2
      by_cases hv:AG l=0
      · rw[q1,hv]at hz;exact hz rfl
      · exact Br hv q2
theorem Bk:∀ (a b:List Nat),AG (a++b)=AG a+LB ^ a.length * AG b
 | [],b=>by simp[AG]
 | x::a,b=>by
  show x+LB * AG (a++b)=x+LB * AG a+LB ^ (a.length+1) * AG b
  rw[Bk a b,yB,yJ,← xw,xy LB (LB ^ a.length)]
  omega
theorem CN:∀ {l:List Nat},Be l→AG l<LB ^ l.length
 | [],_=>by simp[AG]
 | x::l,h=>by
  have ih:=CN h.tail
  have hx:=h x yC
  show x+LB * AG l<LB ^ (l.length+1)
  rw[yJ,xy (LB ^ l.length) LB]
  have:LB * (AG l+1)≤LB * LB ^ l.length:=yZ LB ih
  rw[yB]at this
  omega
theorem XP{a b:Nat}(h:AJ a=AJ b):a=b:=by rw[← AR a,h,AR]
def Kr:List Nat→Nat→Nat→List Nat
 | [],_,c=>[c]
 | y::a,x,c=>(c+x * y) % LB::Kr a x ((c+x * y) / LB)
theorem K0:∀ (a:List Nat)(x c:Nat),AG (Kr a x c)=AG a * x+c
 | [],x,c=>by simp[Kr,AG]
 | y::a,x,c=>by
  have h1:=K0 a x ((c+x * y) / LB)
  have h2:=zs (c+x * y) LB
  show(c+x * y) % LB+LB * AG (Kr a x ((c+x * y) / LB))=(y+LB * AG a) * x+c
  rw[h1,yB,yH,xy y x,xw]
  omega
def CJ(a b:List Nat):List (Nat×Nat):=(List.range (max a.length b.length)).map fun i=>(a.getD i 0,b.getD i 0)
theorem Hv(k:Nat):AG (List.replicate k 0)=0:=by
 induction k with
 | zero=>rfl
 | succ k ih =>
  rw[List.replicate_succ]
  show 0+LB * AG (List.replicate k 0)=0
  rw[ih];rfl
theorem gA{a:List Nat}{n:Nat}(h:a.length≤n):(List.range n).map (fun i=>a.getD i 0)=a++List.replicate (n - a.length) 0:=by
 refine List.ext_getElem (by simp;omega) fun i h1 h2=>?_
 simp only[List.getElem_map,List.getElem_range]
 by_cases hi:i<a.length
 ·rw[List.getElem_append_left hi,zG,xe hi];rfl
 ·rw[List.getElem_append_right (by omega),List.getElem_replicate,zG,xr (by omega)];rfl
theorem WY(a:List Nat)(k:Nat):AG (a++List.replicate k 0)=AG a:=by rw[Bk,Hv];omega
theorem WX(a b:List Nat):AG ((CJ a b).map Prod.fst)=AG a:=by
 unfold CJ
 rw[yr]
 have:=gA (a:=a) (n:=max a.length b.length) (by omega)
 show AG ((List.range _).map fun i=>a.getD i 0)=_
 rw[this,WY]
theorem WZ(a b:List Nat):AG ((CJ a b).map Prod.snd)=AG b:=by
 unfold CJ
 rw[yr]
 have:=gA (a:=b) (n:=max a.length b.length) (by omega)
 show AG ((List.range _).map fun i=>b.getD i 0)=_
 rw[this,WY]
def Ea:List (Nat×Nat)→Nat→List Nat×Nat
 | [],c=>([],c)
 | p::P,c=>((p.1+p.2+c) % LB::(Ea P ((p.1+p.2+c) / LB)).1,(Ea P ((p.1+p.2+c) / LB)).2)
theorem LW:∀ (P:List (Nat×Nat))(c:Nat),AG (Ea P c).1+LB ^ P.length * (Ea P c).2=AG (P.map Prod.fst)+AG (P.map Prod.snd)+c
 | [],c=>by simp[Ea,AG]
 | p::P,c=>by
  have h1:=LW P ((p.1+p.2+c) / LB)
  have h2:=zs (p.1+p.2+c) LB
  show(p.1+p.2+c) % LB+LB * AG (Ea P ((p.1+p.2+c) / LB)).1+LB ^ (P.length+1) * (Ea P ((p.1+p.2+c) / LB)).2=p.1+LB * AG (P.map Prod.fst)+(p.2+LB * AG (P.map Prod.snd))+c
  have h3:LB ^ (P.length+1) * (Ea P ((p.1+p.2+c) / LB)).2=LB * (LB ^ P.length * (Ea P ((p.1+p.2+c) / LB)).2):=by rw[yJ,xy (LB ^ P.length) LB,xw]
  rw[h3]
  have h4:=congrArg (LB * ·) h1
  simp only[yB]at h4
  omega
theorem Ip:∀ (P:List (Nat×Nat))(c:Nat),(Ea P c).1.length=P.length
 | [],_=>rfl
 | p::P,c=>by show(Ea P _).1.length+1=P.length+1;rw[Ip P]
theorem GI:∀ (P:List (Nat×Nat))(c:Nat),Be (Ea P c).1
 | [],_=>fun x hx=>by cases hx
 | p::P,c=>fun x hx=>by
  rcases List.mem_cons.1 hx with e | e
  ·rw[e];exact yP _ BO
  ·exact GI P _ x e
def Fj:List (Nat×Nat)→Nat→List Nat×Nat
 | [],c=>([],c)
 | p::P,c=>((p.1+LB - p.2 - c) % LB::(Fj P (if p.1<p.2+c then 1 else 0)).1,(Fj P (if p.1<p.2+c then 1 else 0)).2)
theorem Ss:∀ (P:List (Nat×Nat))(c:Nat),(∀p∈P,p.1<LB∧p.2<LB)→c≤1→AG (P.map Prod.fst)+LB ^ P.length * (Fj P c).2=AG (Fj P c).1+AG (P.map Prod.snd)+c
 | [],c,_,_=>by simp[Fj,AG]
 | p::P,c,h,hc=>by
  obtain⟨hp1,hp2⟩:=h p yC
  have hB:LB=4294967296:=rfl
  generalize hd:(if p.1<p.2+c then 1 else 0)=d
  have H4:d≤1:=by rw[← hd];split<;>omega
  have h1:=Ss P d (fun q hq=>h q (yK _ hq)) H4
  have h2:(p.1+LB - p.2 - c) % LB+p.2+c=p.1+LB * d:=by
   rw[← hd]
   rw[hB]at hp1 hp2 ⊢
   split<;>omega
  show p.1+LB * AG (P.map Prod.fst)+LB ^ (P.length+1) * (Fj P (if p.1<p.2+c then 1 else 0)).2=(p.1+LB - p.2 - c) % LB+LB * AG (Fj P (if p.1<p.2+c then 1 else 0)).1+(p.2+LB * AG (P.map Prod.snd))+c
  rw[hd]
  have h3:LB ^ (P.length+1) * (Fj P d).2=LB * (LB ^ P.length * (Fj P d).2):=by rw[yJ,xy (LB ^ P.length) LB,xw]
  rw[h3]
  have h4:=congrArg (LB * ·) h1
  simp only[yB]at h4
  omega
theorem XJ{U V T v1 v2 q g left top u2:Nat}{P:Nat}(hU:U<(top * LB+u2+1) * P)(hV:(v1 * LB+v2) * P≤V)(hq:q * V≤U)(hg:g * v1+left=top)(hgt:left * LB+u2<g * v2):q<g:=by
 rcases xf q g with h | h
 ·exact h
 ·exfalso
  have h1:g * V≤U:=xh (yA V h) hq
  have h2:g * ((v1 * LB+v2) * P)≤U:=xh (yZ g hV) h1
  have h3:g * (v1 * LB+v2)=g * v1 * LB+g * v2:=by rw[yB,xw]
  have h4:top * LB=g * v1 * LB+left * LB:=by rw[← hg,yH]
  have h5:top * LB+u2+1≤g * (v1 * LB+v2):=by omega
  have h6:(top * LB+u2+1) * P≤g * (v1 * LB+v2) * P:=yA P h5
  rw[← xw]at h2
  omega
theorem UI{U V v1 v2 q g left top u2:Nat}{P:Nat}(hP:0<P)(hU:(top * LB+u2) * P≤U)(hV:V<(v1 * LB+v2+1) * P)(hq:U<(q+1) * V)(hg:g * v1+left=top)(hle:g * v2≤left * LB+u2)(hgB:g<LB)(hv1:1≤v1):g≤q+1:=by
 rcases xf (q+1) g with h | h
 ·exfalso
  have h0:q+1≤g - 1:=by omega
  have h1:U<(g - 1) * ((v1 * LB+v2+1) * P):=by
   have a1:(q+1) * V≤(g - 1) * V:=yA V h0
   have a2:(g - 1) * V≤(g - 1) * ((v1 * LB+v2+1) * P):=yZ _ (Nat.le_of_lt hV)
   omega
  rw[← xw]at h1
  have h2:(top * LB+u2) * P<(g - 1) * (v1 * LB+v2+1) * P:=yM hU h1
  have h3:top * LB+u2<(g - 1) * (v1 * LB+v2+1):=zU h2
  have h4:top * LB=g * v1 * LB+left * LB:=by rw[← hg,yH]
  have h5:g * (v1 * LB+v2)=g * v1 * LB+g * v2:=by rw[yB,xw]
  have h6:(g - 1) * (v1 * LB+v2+1)=(g - 1) * (v1 * LB+v2)+(g - 1):=by rw[yB,xj]
  have h7:g * (v1 * LB+v2)=(g - 1) * (v1 * LB+v2)+(v1 * LB+v2):=by
   obtain⟨k,rfl⟩:∃k,g=k+1:=⟨g - 1,by omega⟩
   rw[zH,yN]
  have h8:LB≤v1 * LB:=zM LB hv1
  omega
 ·exact h
def CY(q:Nat):List (Nat×Nat)→Nat→Nat→List Nat×Nat×Nat
 | [],c,br=>([],c,br)
 | p::P,c,br =>
  let r:=CY q P ((c+q * p.2) / LB) (if p.1<(c+q * p.2) % LB+br then 1 else 0)
  ((p.1+LB - (c+q * p.2) % LB - br) % LB::r.1,r.2.1,r.2.2)
theorem OK(q:Nat):∀ (P:List (Nat×Nat))(c br:Nat),(∀p∈P,p.1<LB)→br≤1 →
  AG (P.map Prod.fst)+LB ^ P.length * ((CY q P c br).2.1+(CY q P c br).2.2)=AG (CY q P c br).1+q * AG (P.map Prod.snd)+c+br
 | [],c,br,_,_=>by simp[CY,AG]
 | p::P,c,br,h,hb=>by
  have hp:=h p yC
  have hB:LB=4294967296:=rfl
  generalize hc1:c+q * p.2=c1
  have hm:c1 % LB<LB:=yP _ BO
  have hdm:=zs c1 LB
  generalize hd:(if p.1<c1 % LB+br then 1 else 0)=d
  have H4:d≤1:=by rw[← hd];split<;>omega
  have ih:=OK q P (c1 / LB) d (fun q hq=>h q (yK _ hq)) H4
  have h2:(p.1+LB - c1 % LB - br) % LB+c1 % LB+br=p.1+LB * d:=by
   rw[← hd]
   generalize c1 % LB=m at hm
   rw[hB]at hp hm ⊢
   split<;>omega
  show p.1+LB * AG (P.map Prod.fst)+LB ^ (P.length+1) * ((CY q P ((c+q * p.2) / LB) (if p.1<(c+q * p.2) % LB+br then 1 else 0)).2.1+(CY q P ((c+q * p.2) / LB) (if p.1<(c+q * p.2) % LB+br then 1 else 0)).2.2)=(p.1+LB - (c+q * p.2) % LB - br) % LB+LB * AG (CY q P ((c+q * p.2) / LB) (if p.1<(c+q * p.2) % LB+br then 1 else 0)).1+q * (p.2+LB * AG (P.map Prod.snd))+c+br
  rw[hc1,hd]
  have h3:∀z,LB ^ (P.length+1) * z=LB * (LB ^ P.length * z):=fun z=>by rw[yJ,xy (LB ^ P.length) LB,xw]
  rw[h3]
  have h4:=congrArg (LB * ·) ih
  simp only[yB]at h4 ⊢
  have h5:q * (LB * AG (P.map Prod.snd))=LB * (q * AG (P.map Prod.snd)):=by rw[A0A]
  rw[h5]
  omega
def F3(x:Nat):List (Nat×Nat)→Nat→List Nat×Nat
 | [],c=>([],c)
 | p::P,c=>((c+(x * p.1+p.2)) % LB::(F3 x P ((c+(x * p.1+p.2)) / LB)).1,(F3 x P ((c+(x * p.1+p.2)) / LB)).2)
theorem SF(x:Nat):∀ (P:List (Nat×Nat))(c:Nat),AG (F3 x P c).1+LB ^ P.length * (F3 x P c).2=x * AG (P.map Prod.fst)+AG (P.map Prod.snd)+c
 | [],c=>by simp[F3,AG]
 | p::P,c=>by
  have ih:=SF x P ((c+(x * p.1+p.2)) / LB)
  have hdm:=zs (c+(x * p.1+p.2)) LB
  show(c+(x * p.1+p.2)) % LB+LB * AG (F3 x P ((c+(x * p.1+p.2)) / LB)).1+LB ^ (P.length+1) * (F3 x P ((c+(x * p.1+p.2)) / LB)).2=x * (p.1+LB * AG (P.map Prod.fst))+(p.2+LB * AG (P.map Prod.snd))+c
  have h3:∀z,LB ^ (P.length+1) * z=LB * (LB ^ P.length * z):=fun z=>by rw[yJ,xy (LB ^ P.length) LB,xw]
  rw[h3]
  have h4:=congrArg (LB * ·) ih
  simp only[yB]at h4 ⊢
  have h5:x * (LB * AG (P.map Prod.fst))=LB * (x * AG (P.map Prod.fst)):=by rw[A0A]
  rw[h5]
  omega
theorem MX(x:Nat):∀ (P:List (Nat×Nat))(c:Nat),(F3 x P c).1.length=P.length
 | [],_=>rfl
 | p::P,c=>by show(F3 x P _).1.length+1=P.length+1;rw[MX x P]
theorem IU{x:Nat}(hx:x<LB):∀ {P:List (Nat×Nat)}{c:Nat},(∀p∈P,p.1<LB∧p.2<LB)→c<LB→(F3 x P c).2<LB∧Be (F3 x P c).1
 | [],c,_,hc=>⟨hc,fun y hy=>by cases hy⟩
 | p::P,c,h,hc=>by
  obtain⟨h1,h2⟩:=h p yC
  have hd:(c+(x * p.1+p.2)) / LB<LB:=by
   rw[yu BO]
   have:x * p.1≤(LB - 1) * (LB - 1):=yh (by omega) (by omega)
   have hB:LB=4294967296:=rfl
   rw[hB]at this hc h2 ⊢
   omega
  obtain⟨i1,i2⟩:=IU (P:=P) (c:=(c+(x * p.1+p.2)) / LB) hx (fun r hr=>h r (yK _ hr)) hd
  refine⟨i1,fun y hy=>?_⟩
  rcases List.mem_cons.1 hy with e | e
  ·rw[e];exact yP _ BO
  ·exact i2 y e
def Bc(x:Nat):List Nat→List Nat×Nat
 | []=>([],0)
 | y::l=>(((Bc x l).2 * LB+y) / x::(Bc x l).1,((Bc x l).2 * LB+y) % x)
theorem ET{x:Nat}(hx:0<x):∀l:List Nat,AG l=x * AG (Bc x l).1+(Bc x l).2∧(Bc x l).2<x∧(Bc x l).1.length=l.length
 | []=>⟨by simp[Bc,AG],hx,rfl⟩
 | y::l=>by
  obtain⟨i1,i2,i3⟩:=ET hx l
  have hdm:=zs ((Bc x l).2 * LB+y) x
  refine⟨?_,yP _ hx,by show(Bc x l).1.length+1=l.length+1;rw[i3]⟩
  show y+LB * AG l=x * (((Bc x l).2 * LB+y) / x+LB * AG (Bc x l).1)+((Bc x l).2 * LB+y) % x
  rw[i1]
  simp only[yB]
  have h5:x * (LB * AG (Bc x l).1)=LB * (x * AG (Bc x l).1):=by rw[A0A]
  have h6:LB * (Bc x l).2=(Bc x l).2 * LB:=xy _ _
  rw[h5,h6]
  omega
theorem Gd{x:Nat}(hx:0<x):∀ {l:List Nat},Be l→Be (Bc x l).1
 | [],_=>fun y hy=>by cases hy
 | y::l,h=>by
  obtain⟨i1,i2,i3⟩:=ET hx l
  have hy:=h y yC
  intro z hz
  rcases List.mem_cons.1 hz with e | e
  ·rw[e,yu hx]
   have:((Bc x l).2+1) * LB≤x * LB:=yA LB i2
   rw[yN]at this
   rw[xy LB x]
   omega
  ·exact Gd hx h.tail z e
theorem X7{U V g D N br:Nat}(hV:0<V)(h1:U / V≤g)(h2:g≤U / V+1)(hD:D<N)(hbr:br≤1)(he:U+N * br=D+g * V):
  (br=0→g=U / V∧D=U % V)∧(br=1→g=U / V+1∧D+V=N+U % V):=by
 have hdm:=Nat.div_add_mod U V
 have hlt:=yP U hV
 have hc:V * (U / V)=U / V * V:=xy _ _
 generalize hq:U / V=q at *
 generalize U % V=r at *
 refine⟨fun h0=>?_,fun h0=>?_⟩
 ·subst h0
  rcases xf q g with h | h
  ·exfalso
   have:g=q+1:=by omega
   rw[this,yN]at he
   omega
  ·have:g=q:=by omega
   refine⟨this,?_⟩
   rw[this]at he
   omega
 ·subst h0
  rcases xf q g with h | h
  ·have:g=q+1:=by omega
   refine⟨this,?_⟩
   rw[this,yN]at he
   omega
  ·exfalso
   have:g=q:=by omega
   rw[this]at he
   omega
theorem UA{V Q R u:Nat}{W:Nat}(hV:0<V)(hR:R<V)(hW:W=Q * V+R):(W * LB+u) / V=Q * LB+(R * LB+u) / V∧(W * LB+u) % V=(R * LB+u) % V:=by
 have e:W * LB+u=(R * LB+u)+V * (Q * LB):=by
  rw[hW,yH,xw,A0A]
  omega
 rw[e]
 constructor
 ·rw[Nat.add_mul_div_left _ _ hV];omega
 ·rw[Nat.add_mul_mod_self_left]
end
end Go.Proofs.YtjnkfbpadpmakaaGreatDoor.Am
set_option linter.unusedVariables false
set_option linter.unusedSimpArgs false
namespace Go.Proofs.YtjnkfbpadpmakaaGreatDoor.Am
noncomputable section
theorem Be.append{a b:List Nat}(ha:Be a)(hb:Be b):Be (a++b):=fun x hx=>(zx.1 hx).elim (ha x) (hb x)
theorem JB(lo:List Nat)(x y:Nat):AG (lo++[x,y])=AG lo+LB ^ lo.length * (y * LB+x):=by
 rw[Bk]
 show _+_ * (x+LB * (y+LB * 0))=_
 rw[yO,yF,xy LB y,zI x]
theorem MS(lo:List Nat)(x y z:Nat):AG (lo++[x,y,z])=AG lo+LB ^ lo.length * ((z * LB+y) * LB+x):=by
 rw[Bk]
 show _+_ * (x+LB * (y+LB * (z+LB * 0)))=_
 have:x+LB * (y+LB * (z+LB * 0))=(z * LB+y) * LB+x:=by
  rw[yO,yF,xy LB z,zI y,xy LB,zI x]
 rw[this]
structure Gn(plo vlo:List Nat)(u2 u1 u0 v2 v1:Nat)(g left:Nat):Prop where
 len:plo.length=vlo.length
 sp:Be plo
 sv:Be vlo
 b2:u2<LB
 b1:u1<LB
 c2:v2<LB
 c1:v1<LB
 big:LB≤2 * v1
 lt:AG (plo++[u2,u1,u0])<AG (vlo++[v2,v1]) * LB
 sum:g * v1+left=u0 * LB+u1
 low:AG (plo++[u2,u1,u0]) / AG (vlo++[v2,v1])≤g
section
variable{plo vlo:List Nat}{u2 u1 u0 v2 v1 g left:Nat}
theorem Gn.v_pos(h:Gn plo vlo u2 u1 u0 v2 v1 g left):0<AG (vlo++[v2,v1]):=by
 rw[JB]
 have h1:=h.big
 have:LB=4294967296:=rfl
 have h2:0<v1 * LB+v2:=by have:=zA (show 0<v1 by omega) BO;omega
 have:=zA (yt BO (n:=vlo.length)) h2
 omega
theorem Gn.bounds(h:Gn plo vlo u2 u1 u0 v2 v1 g left):
  AG (plo++[u2,u1,u0])<((u0 * LB+u1) * LB+u2+1) * LB ^ vlo.length∧((u0 * LB+u1) * LB+u2) * LB ^ vlo.length≤AG (plo++[u2,u1,u0]) ∧
  AG (vlo++[v2,v1])<(v1 * LB+v2+1) * LB ^ vlo.length∧(v1 * LB+v2) * LB ^ vlo.length≤AG (vlo++[v2,v1]):=by
 have h1:=CN h.sp
 have h2:=CN h.sv
 rw[h.len]at h1
 rw[MS,JB,h.len]
 generalize LB ^ vlo.length=P at *
 generalize (u0 * LB+u1) * LB+u2=X
 generalize v1 * LB+v2=Y
 have e1:(X+1) * P=P * X+P:=by rw[yN,xy]
 have e2:(Y+1) * P=P * Y+P:=by rw[yN,xy]
 have e3:X * P=P * X:=xy _ _
 have e4:Y * P=P * Y:=xy _ _
 omega
theorem Gn.start(len:plo.length=vlo.length)(sp:Be plo)(sv:Be vlo)(b2:u2<LB)(b1:u1<LB)(c2:v2<LB)(c1:v1<LB)(big:LB≤2 * v1)
  (lt:AG (plo++[u2,u1,u0])<AG (vlo++[v2,v1]) * LB):Gn plo vlo u2 u1 u0 v2 v1 ((u0 * LB+u1) / v1) ((u0 * LB+u1) % v1):=by
 have hB:LB=4294967296:=rfl
 have hv1:0<v1:=by omega
 have hs:(u0 * LB+u1) / v1 * v1+(u0 * LB+u1) % v1=u0 * LB+u1:=by rw[xy];exact Nat.div_add_mod _ _
 have h0:Gn plo vlo u2 u1 u0 v2 v1 (AG (plo++[u2,u1,u0]) / AG (vlo++[v2,v1])) (u0 * LB+u1 - AG (plo++[u2,u1,u0]) / AG (vlo++[v2,v1]) * v1)∨True:=.inr trivial
 refine⟨len,sp,sv,b2,b1,c2,c1,big,lt,hs,?_⟩
 have hP:0<LB ^ vlo.length:=yt BO
 have h1:=CN sp
 rw[len]at h1
 have hV:v1 * LB * LB ^ vlo.length≤AG (vlo++[v2,v1]):=by
  rw[JB,xy (v1 * LB),yB]
  omega
 rw[Nat.le_div_iff_mul_le hv1]
 generalize hq:AG (plo++[u2,u1,u0]) / AG (vlo++[v2,v1])=q
 have hqV:q * AG (vlo++[v2,v1])≤AG (plo++[u2,u1,u0]):=by rw[← hq];exact Nat.div_mul_le_self _ _
 have h2:q * (v1 * LB * LB ^ vlo.length)≤AG (plo++[u2,u1,u0]):=xh (yZ q hV) hqV
 have h3:AG (plo++[u2,u1,u0])<((u0 * LB+u1) * LB+LB) * LB ^ vlo.length:=by
  rw[MS,len]
  have h4:(u0 * LB+u1) * LB+u2+1≤(u0 * LB+u1) * LB+LB:=by omega
  have h5:=yA (LB ^ vlo.length) h4
  rw[yN,xy _ (LB ^ vlo.length)]at h5
  omega
 have h6:q * v1 * LB * LB ^ vlo.length<((u0 * LB+u1) * LB+LB) * LB ^ vlo.length:=by
  have e:q * (v1 * LB * LB ^ vlo.length)=q * v1 * LB * LB ^ vlo.length:=by rw[xw,xw,xw]
  omega
 have h7:q * v1 * LB<(u0 * LB+u1) * LB+LB:=zU h6
 have h8:q * v1 * LB<(u0 * LB+u1+1) * LB:=by rw[yN];exact h7
 have:=zU h8
 omega
theorem Gn.dec(h:Gn plo vlo u2 u1 u0 v2 v1 g left)(hc:LB≤g∨left * LB+u2<g * v2):1≤g∧Gn plo vlo u2 u1 u0 v2 v1 (g - 1) (left+v1):=by
 obtain⟨b1,b2,b3,b4⟩:=h.bounds
 have hlt:AG (plo++[u2,u1,u0]) / AG (vlo++[v2,v1])<g:=by
  rcases hc with hc | hc
  ·exact xi ((yu h.v_pos).2 (by rw[xy];exact h.lt)) hc
  ·exact XJ (T:=0) b1 b4 (Nat.div_mul_le_self _ _) h.sum hc
 have hle:AG (plo++[u2,u1,u0]) / AG (vlo++[v2,v1])≤g - 1:=Nat.le_sub_one_of_lt hlt
 have hg1:1≤g:=yM (xg _) hlt
 refine⟨hg1,⟨h.len,h.sp,h.sv,h.b2,h.b1,h.c2,h.c1,h.big,h.lt,?_,hle⟩⟩
 clear hle hlt b1 b2 b3 b4
 obtain⟨k,rfl⟩:∃k,g=k+1:=⟨g - 1,by omega⟩
 have:=h.sum
 rw[yN]at this
 rw[zH]
 omega
theorem Gn.done(h:Gn plo vlo u2 u1 u0 v2 v1 g left)(hg:g<LB)(hc:g * v2≤left * LB+u2):g≤AG (plo++[u2,u1,u0]) / AG (vlo++[v2,v1])+1:=by
 obtain⟨b1,b2,b3,b4⟩:=h.bounds
 have hq:AG (plo++[u2,u1,u0])<(AG (plo++[u2,u1,u0]) / AG (vlo++[v2,v1])+1) * AG (vlo++[v2,v1]):=by
  have:=Nat.div_add_mod (AG (plo++[u2,u1,u0])) (AG (vlo++[v2,v1]))
  have h2:=yP (AG (plo++[u2,u1,u0])) h.v_pos
  rw[yN,xy]
  omega
 have hv1:1≤v1:=by have:=h.big;have:LB=4294967296:=rfl;omega
 exact UI (yt BO) b2 b3 hq h.sum hc hg hv1
theorem Gn.top(h:Gn plo vlo u2 u1 u0 v2 v1 g left):u0≤v1:=by
 obtain⟨b1,b2,b3,b4⟩:=h.bounds
 have hP:0<LB ^ vlo.length:=yt BO
 have h1:((u0 * LB+u1) * LB+u2) * LB ^ vlo.length<(v1 * LB+v2+1) * LB ^ vlo.length * LB:=by
  have:=h.lt
  have h2:AG (vlo++[v2,v1]) * LB≤(v1 * LB+v2+1) * LB ^ vlo.length * LB:=yA LB (Nat.le_of_lt b3)
  omega
 have h3:(v1 * LB+v2+1) * LB ^ vlo.length * LB=(v1 * LB+v2+1) * LB * LB ^ vlo.length:=by rw[xw,xy (LB ^ _),← xw]
 rw[h3]at h1
 have h4:=zU h1
 have h5:(v1 * LB+v2+1) * LB≤(v1+1) * LB * LB:=yA LB (by rw[yN];have:=h.c2;omega)
 have h6:u0 * LB * LB≤(u0 * LB+u1) * LB:=yA LB (by omega)
 have h7:u0 * LB * LB<(v1+1) * LB * LB:=by omega
 have h8:=zU (zU h7)
 omega
end
theorem JY{q:Nat}(hq:q<LB){x:Nat}:∀ {P:List (Nat×Nat)}{c br:Nat},(∀p∈P,p.2<LB)→c<LB→(CY q (P++[(x,0)]) c br).2.1=0
 | [],c,br,_,hc=>by
  show(c+q * 0) / LB=0
  rw[yO,yF,zE hc]
 | p::P,c,br,h,hc=>by
  have hp:=h p yC
  have hd:(c+q * p.2) / LB<LB:=by
   rw[yu BO]
   have:q * p.2≤(LB - 1) * (LB - 1):=yh (by omega) (by omega)
   have hB:LB=4294967296:=rfl
   rw[hB]at this hc ⊢
   omega
  exact JY (P:=P) (c:=(c+q * p.2) / LB) hq (fun r hr=>h r (yK _ hr)) hd
theorem HT(q:Nat):∀ (P:List (Nat×Nat))(c br:Nat),Be (CY q P c br).1
 | [],_,_=>fun x hx=>by cases hx
 | p::P,c,br=>fun x hx=>by
  rcases List.mem_cons.1 hx with e | e
  ·rw[e];exact yP _ BO
  ·exact HT q P _ _ x e
theorem KH(q:Nat):∀ (P:List (Nat×Nat))(c br:Nat),(CY q P c br).1.length=P.length
 | [],_,_=>rfl
 | p::P,c,br=>by show(CY q P _ _).1.length+1=P.length+1;rw[KH q P]
theorem Su(q:Nat):∀ (P:List (Nat×Nat))(c br:Nat),br≤1→(CY q P c br).2.2≤1
 | [],_,_,h=>h
 | p::P,c,br,h=>Su q P _ _ (by split<;>omega)
theorem P6{a b:List Nat}(h:a.length=b.length):(a.zip b).map Prod.fst=a:=by
 rw[List.map_fst_zip];omega
theorem P7{a b:List Nat}(h:a.length=b.length):(a.zip b).map Prod.snd=b:=by
 rw[List.map_snd_zip];omega
theorem Nw(v:List Nat):AG (v++[0])=AG v:=by
 rw[Bk]
 show _+_ * (0+LB * 0)=_
 simp
theorem eq       {p v : List Nat} (hl : p.length = v.length + 1) (hp : Be  p) (hv : Be  v) (hV : 0 < AG   v) {g : Nat} (h1 : AG   p / AG   v ≤ g) (h2 : g ≤ AG   p / AG   v + 1) (hg : g < LB) :
    ((CY g (p.zip (v++[0])) 0 0).2.2=0→g=AG p / AG v∧AG (CY g (p.zip (v++[0])) 0 0).1=AG p % AG v) ∧
    ((CY g (p.zip (v++[0])) 0 0).2.2≠0→g=AG p / AG v+1∧AG (Ea ((CY g (p.zip (v++[0])) 0 0).1.zip (v++[0])) 0).1=AG p % AG v):=by
  have hlz:p.length=(v++[0]).length:=by rw[xp];exact hl
  have hsm:∀q∈p.zip (v++[0]),q.1<LB∧q.2<LB:=fun q hq=>by
    have hz:=List.of_mem_zip (a:=q.1) (b:=q.2) hq
    refine⟨hp _ hz.1,?_⟩
    rcases zx.1 hz.2 with h | h
    · exact hv _ h
    · rw[A0H.1 h];exact BO
  have hc:(CY g (p.zip (v++[0])) 0 0).2.1=0:=by
    obtain⟨pl,x,rfl⟩:∃pl x,p=pl++[x]:=by
      rcases List.eq_nil_or_concat p with h | ⟨pl,x,h⟩
      · rw[h]at hl;simp at hl
      · exact⟨pl,x,by rw[h];simp⟩
    have hpl:pl.length=v.length:=by rw[xp]at hl;simpa using hl
    rw[List.zip_append hpl]
    exact JY hg (fun q hq=>hv _ (List.of_mem_zip (a:=q.1) (b:=q.2) hq).2) BO
  have hval:=OK g (p.zip (v++[0])) 0 0 (fun q hq=>(hsm q hq).1) (xg _)
  have hbr:=Su g (p.zip (v++[0])) 0 0 (xg _)
  have hlen:(p.zip (v++[0])).length=v.length+1:=by rw[zV,← hlz,zt,hl]
  have hDl:=KH g (p.zip (v++[0])) 0 0
  have hDs:=HT g (p.zip (v++[0])) 0 0
  rw[P6 hlz,P7 hlz,Nw,hc,hlen]at hval
  generalize CY g (p.zip (v++[0])) 0 0=T at *
  obtain⟨D,c,br⟩:=T
  simp only at *
  rw[hlen]at hDl
  have hD:=CN hDs
  rw[hDl]at hD
  have hVl:=CN hv
  have hPow:LB ^ v.length≤LB ^ (v.length+1):=yT BO (yp _)
  have key:=X7 (U:=AG p) (V:=AG v) (g:=g) (D:=AG D) (N:=LB ^ (v.length+1)) (br:=br) hV h1 h2 hD hbr (by
    generalize g * AG v=z at *
    generalize LB ^ (v.length+1)=N at *
    rw[xu]at hval
    omega)
  refine⟨fun h=>key.1 h,fun h=>?_⟩
  have hb1:br=1:=by omega
  obtain⟨k1,k2⟩:=key.2 hb1
  refine⟨k1,?_⟩
  have hlz2:D.length=(v++[0]).length:=by rw[xp,hDl];rfl
  have ha:=LW (D.zip (v++[0])) 0
  rw[P6 hlz2,P7 hlz2,Nw,zV,← hlz2,zt,hDl]at ha
  have hs:=CN (GI (D.zip (v++[0])) 0)
  rw[Ip,zV,← hlz2,zt,hDl]at hs
  have hr:=yP (AG p) hV
  generalize AG (Ea (D.zip (v++[0])) 0).1=O at *
  generalize (Ea (D.zip (v++[0])) 0).2=c2 at *
  generalize hN:LB ^ (v.length+1)=N at *
  have hc2:c2=1:=by
    rcases xf c2 1 with h | h
    · have:c2=0:=by omega
      rw[this,yO]at ha
      omega
    · rcases xf           1 c2 with h' | h'
      · have:=yZ N h'
        omega
      · omega
  rw[hc2,xj]at ha
  omega
structure TC(u0 v cu qs:List Nat)(i:Nat):Prop where
 len:cu.length=u0.length
 low:cu.take i=u0.take i
 sm:Be cu
 rem:AG (cu.drop i)=AG (u0.drop i) % AG v
 qsm:Be qs
 quo:AG (qs.drop i)=AG (u0.drop i) / AG v
theorem F0{l:List Nat}{i x:Nat}(h:l[i]? = some x):AG (l.drop i)=x+LB * AG (l.drop (i+1)):=by
 have hi:i<l.length:=by
  rcases xf i l.length with h' | h'
  ·exact h'
  ·rw[xr h']at h;cases h
 rw[yV hi]
 have:l[i]=x:=by rw[xe hi]at h;exact Option.some.inj h
 rw[this];rfl
theorem Be.drop{l:List Nat}(h:Be l)(i:Nat):Be (l.drop i):=fun x hx=>h x (A0B hx)
theorem Be.take{l:List Nat}(h:Be l)(i:Nat):Be (l.take i):=fun x hx=>h x (A0K hx)
theorem TC.part{u0 v cu qs:List Nat}{i:Nat}(h:TC u0 v cu qs (i+1))(hv:Be v)(hV:0<AG v)(hi:i+v.length+1≤cu.length):
  AG ((cu.drop i).take (v.length+1))=AG (cu.drop i)∧AG (cu.drop i)<AG v * LB∧AG (cu.drop (i+v.length+1))=0:=by
 have hx:cu[i]? = some cu[i]:=xe (by omega)
 generalize cu[i]=x at hx
 have hxs:=h.sm x (yG hx)
 have e1:=F0 hx
 have hr:=yP (AG (u0.drop (i+1))) hV
 rw[← h.rem]at hr
 have hVl:=CN hv
 have hsplit:cu.drop (i+1)=(cu.drop (i+1)).take v.length++cu.drop (i+v.length+1):=by
  have:=(zB v.length (cu.drop (i+1))).symm
  rw[zC]at this
  rw[show i+v.length+1=i+1+v.length by omega]
  exact this
 have hval:=congrArg AG hsplit
 rw[Bk]at hval
 have htl:((cu.drop (i+1)).take v.length).length=v.length:=by rw[xz,yL];omega
 rw[htl]at hval
 have hz:AG (cu.drop (i+v.length+1))=0:=by
  rcases yX (AG (cu.drop (i+v.length+1)))with h0 | h0
  ·exact h0
  ·exfalso
   have:=yZ (LB ^ v.length) h0
   omega
 refine⟨?_,?_,hz⟩
 ·rw[e1]
  have hd:cu.drop i=x::cu.drop (i+1):=by
   rw[yV (show i<cu.length by omega)]
   have:cu[i]=x:=by rw[xe (by omega)]at hx;exact Option.some.inj hx
   rw[this]
  rw[hd,A0L]
  show x+LB * _=_
  rw[hval,hz]
  simp
 ·rw[e1]
  have:LB * (AG (cu.drop (i+1))+1)≤LB * AG v:=yZ LB hr
  rw[xy (AG v)]
  rw[yB]at this
  omega
theorem TC.step{u0 v cu qs:List Nat}{i:Nat}(h:TC u0 v cu qs (i+1))(hv:Be v)(hV:0<AG v)(hi:i+v.length+1≤cu.length)(hq:i<qs.length){D:List Nat}(hD:D.length=v.length+1)(hDs:Be D)
  (hDv:AG D=AG ((cu.drop i).take (v.length+1)) % AG v) {x:Nat} (hx:x=AG ((cu.drop i).take (v.length+1)) / AG v):TC u0 v (cu.take i++D++cu.drop (i+v.length+1)) (qs.set i x) i:=by
 obtain⟨p1,p2,p3⟩:=h.part hv hV hi
 rw[p1]at hDv hx
 have hu:cu[i]? = some cu[i]:=xe (by omega)
 generalize cu[i]=y at hu
 have hys:=h.sm y (yG hu)
 have hu0:u0[i]? = some y:=by
  have:=congrArg (fun l=>l[i]?) h.low
  simp only[yy (show i<i+1 by omega)]at this
  rw[← this];exact hu
 have e1:=F0 hu
 have e2:=F0 hu0
 have hR:=yP (AG (u0.drop (i+1))) hV
 have hW:AG (u0.drop (i+1))=AG (u0.drop (i+1)) / AG v * AG v+AG (u0.drop (i+1)) % AG v:=by
  have:=Nat.div_add_mod (AG (u0.drop (i+1))) (AG v)
  rw[xy]at this
  exact this.symm
 have hds:=UA (V:=AG v) (Q:=AG (u0.drop (i+1)) / AG v) (R:=AG (u0.drop (i+1)) % AG v) (u:=y) hV hR hW
 rw[← h.rem]at hds
 have e3:AG (u0.drop (i+1)) * LB+y=AG (u0.drop i):=by rw[e2,xy];omega
 have e4:AG (cu.drop (i+1)) * LB+y=AG (cu.drop i):=by rw[e1,xy];omega
 rw[e3,e4]at hds
 have htl:(cu.take i).length=i:=by rw[xz];omega
 have hxs:x<LB:=by
  rw[hx,yu hV,xy]
  exact p2
 refine⟨?_,?_,?_,?_,?_,?_⟩
 ·simp only[xp,xz,yL,hD]
  have:=h.len
  omega
 ·rw[yW,List.take_left' htl]
  have:=congrArg (List.take i) h.low
  rw[List.take_take,List.take_take,yv (yp i)]at this
  exact this
 ·exact((h.sm.take i).append hDs).append (h.sm.drop _)
 ·rw[yW,zy htl,Bk,p3,yO,yF,hDv]
  exact hds.2.symm
 ·intro z hz
  rcases List.mem_or_eq_of_mem_set hz with h' | h'
  ·exact h.qsm z h'
  ·rw[h'];exact hxs
 ·have hqi:(qs.set i x)[i]? = some x:=by rw[A0J hq]
  rw[F0 hqi]
  have:(qs.set i x).drop (i+1)=qs.drop (i+1):=by
   rw[List.drop_set]
   simp
  rw[this,h.quo,hx,hds.1,xy LB]
  omega
theorem Is(x:Nat):∀ (l:List Nat)(c:Nat),(Kr l x c).length=l.length+1
 | [],_=>rfl
 | y::l,c=>by show(Kr l x _).length+1=_;rw[Is x l];rfl
theorem Fp{x:Nat}(hx:x<LB):∀ {l:List Nat}{c:Nat},Be l→c<LB→Be (Kr l x c)
  | [],c,_,hc=>fun z hz=>by rw[A0H.1 hz];exact hc
  | y::l,c,hl,hc=>fun z hz=>by
    have hy:=hl y yC
    rcases List.mem_cons.1 hz with e | e
    · rw[e];exact yP _ BO
    · refine Fp        hx hl.tail ?_ z e
      rw[yu BO]
      have:x * y≤(LB - 1) * (LB - 1):=yh (by omega) (by omega)
      have hB:LB=4294967296:=rfl
      rw[hB]at this hc ⊢
      omega
theorem FY{l:List Nat}{n:Nat}(h:l.length=n+1):∃lo t,l=lo++[t]∧lo.length=n:=by
 refine⟨l.take n,l[n]'(by omega),?_,by rw[xz];omega⟩
 have h1:=(zB n l).symm
 rw[yV (by omega),yQ (by omega)]at h1
 exact h1
theorem Ce(lo:List Nat)(t:Nat):AG (lo++[t])=AG lo+LB ^ lo.length * t:=by
 rw[Bk]
 show _+_ * (t+LB * 0)=_
 simp
theorem tO{lo:List Nat}{bt n:Nat}(hs:Be (lo++[bt]))(hn:n≤31)(h1:2147483648≤bt * 2 ^ n)(h2:bt * 2 ^ n<4294967296):
  AG ((Kr (lo++[bt]) (2 ^ n) 0).take (lo.length+1))=AG (lo++[bt]) * 2 ^ n∧∃vlo v1,(Kr (lo++[bt]) (2 ^ n) 0).take (lo.length+1)=vlo++[v1]∧vlo.length=lo.length∧2147483648≤v1:=by
 have hLB:LB=4294967296:=rfl
 have e32:(2:Nat) ^ 32=4294967296:=by decide
 have h2n:0<2 ^ n:=yt (by decide)
 have hn32:2 ^ n<LB:=by
  rw[hLB,← e32]
  exact Nat.pow_lt_pow_right (by decide) (by omega)
 have hbt:(bt+1) * 2 ^ n≤4294967296:=by
  have e:(4294967296:Nat)=2 ^ (32 - n) * 2 ^ n:=by rw[← zO,show 32 - n+n=32 by omega]
  rw[e]at h2 ⊢
  exact yA _ (zU h2)
 have hval:=K0 (lo++[bt]) (2 ^ n) 0
 have hlen:=Is (2 ^ n) (lo++[bt]) 0
 have hsm:=Fp hn32 hs (show 0<LB from BO)
 have hll:(lo++[bt]).length=lo.length+1:=by simp
 rw[hll]at hlen
 generalize Kr (lo++[bt]) (2 ^ n) 0=W at *
 obtain⟨V,t,rfl,hV⟩:=FY hlen
 have hlo:Be lo:=fun x hx=>hs x (zW _ hx)
 have hvl:=CN hlo
 have hsV:Be V:=fun x hx=>hsm x (zW _ hx)
 rw[Ce,hV]at hval
 have hup:AG (lo++[bt]) * 2 ^ n<LB ^ (lo.length+1):=by
  rw[Ce]
  have g1:AG lo+LB ^ lo.length * bt<LB ^ lo.length * (bt+1):=by rw[yB,xj];omega
  have g2:(AG lo+LB ^ lo.length * bt) * 2 ^ n<LB ^ lo.length * (bt+1) * 2 ^ n:=A0G g1 h2n
  have g3:LB ^ lo.length * (bt+1) * 2 ^ n≤LB ^ (lo.length+1):=by
   rw[yJ,xw]
   exact yZ _ (by rw[hLB];exact hbt)
  omega
 have ht:t=0:=by
  rcases yX t with h | h
  ·exact h
  ·exfalso
   have:=yZ (LB ^ (lo.length+1)) h
   omega
 have htk:(V++[t]).take (lo.length+1)=V:=by rw[← hV];simp
 rw[htk]
 rw[ht,yO,yF,yF]at hval
 refine⟨hval,?_⟩
 obtain⟨vlo,v1,rfl,hvlo⟩:=FY hV
 refine⟨vlo,v1,rfl,hvlo,?_⟩
 have hvs:Be vlo:=fun x hx=>hsV x (zW _ hx)
 have hvv:=CN hvs
 rw[Ce,hvlo,Ce]at hval
 rw[hvlo]at hvv
 have g4:LB ^ lo.length * 2147483648≤(AG lo+LB ^ lo.length * bt) * 2 ^ n:=by
  rw[yH,xw]
  exact xh (yZ _ h1) (Nat.le_add_left _ _)
 rcases xf v1 2147483648 with h | h
 ·exfalso
  have:=yZ (LB ^ lo.length) (show v1+1≤2147483648 from h)
  rw[yB,xj]at this
  omega
 ·exact h
theorem tN{la vlo:List Nat}{v1 n:Nat}(hs:Be la)(hn:n≤31)(hv1:2147483648≤v1)(hlen:vlo.length+1≤la.length):
  AG ((Kr la (2 ^ n) 0).drop (la.length - vlo.length))<AG (vlo++[v1]):=by
 have hLB:LB=4294967296:=rfl
 have e31:(2:Nat) ^ 31=2147483648:=by decide
 have h2n:2 ^ n≤2147483648:=by rw[← e31];exact yT (by decide) hn
 have hval:=K0 la (2 ^ n) 0
 have hl:=Is (2 ^ n) la 0
 have hsm:=Fp (show 2 ^ n<LB by rw[hLB];omega) hs (show 0<LB from BO)
 generalize Kr la (2 ^ n) 0=W at *
 obtain⟨U,t,rfl,hU⟩:=FY hl
 rw[Ce,hU,yF]at hval
 have hA:=CN hs
 have ht:t<2 ^ n:=by
  rcases xf t (2 ^ n)with h | h
  ·exact h
  ·exfalso
   have g1:=yZ (LB ^ la.length) h
   have g2:AG la * 2 ^ n<LB ^ la.length * 2 ^ n:=A0G hA (yt (by decide))
   omega
 have hd:(U++[t]).drop (la.length - vlo.length)=U.drop (la.length - vlo.length)++[t]:=by
  rw[A0I (by omega)]
 rw[hd,Ce,Ce]
 have hsU:Be U:=fun x hx=>hsm x (zW _ hx)
 have h3:=CN (hsU.drop (la.length - vlo.length))
 have hdl:(U.drop (la.length - vlo.length)).length=vlo.length:=by rw[yL];omega
 rw[hdl]at h3 ⊢
 have g1:LB ^ vlo.length * (t+1)≤LB ^ vlo.length * v1:=yZ _ (by omega)
 rw[yB,xj]at g1
 omega
theorem HV:∀ (l w:List Nat),(l.take w.length).zip w=l.zip w
 | [],w=>by simp
 | _::_,[]=>by simp
 | x::l,y::w=>by
  rw[yU,A0L,zX,zX,HV l w]
theorem iA{d w:List Nat}(h:d.length=w.length)(x:List Nat):(d++x).zip w=d.zip w:=by
 have:=HV (d++x) w
 rw[← h,List.take_left]at this
 exact this.symm
end
end Go.Proofs.YtjnkfbpadpmakaaGreatDoor.Am
set_option linter.unusedVariables false
set_option linter.unusedSimpArgs false
set_option maxRecDepth 12000
namespace Go.Proofs.YtjnkfbpadpmakaaGreatDoor.Am
open Go Go.Proofs
noncomputable section
structure GoodN(E:CU):Prop where
 P:E.P=Tryz.prog
 nat:∀ (f:FuncId) (xs:List AV) (s:AE),f ∉ [78,15]→E.nat f xs s=none
theorem GoodN.go{E:CU}(hE:GoodN E){f:FuncId}{xs:List AV}{cf:Ah}{K:AV→AE→Prop}{s:AE}(hf:AO Tryz.prog f=some cf)(hne:f ∉ [78,15])(ha:xs.length=cf.na)(h:Qa E none cf.body (Ends Tryz.prog cf.results K) (Ql xs cf.nv) [] s):WF E f xs K s:=
 WF.body' (hE.nat f xs s hne) (by rw[hE.P];exact hf) ha (by rw[hE.P];exact h)
def OU(s:AE)(a:Option (Nat×Nat))(cap:Option Nat)(n:Nat):Prop:=
 (∃c,cap=some c∧n≤c∧(a=none→c=0))∨(cap=none∧∃i o r,a=some (i,o)∧i<s.next∧s.heap.get i=some (.row r)∧r.sz=1∧o+n≤r.n)
theorem OU.old{s s':AE}{a:Option (Nat×Nat)}{cap:Option Nat}{n:Nat}(h:OU s a cap n)(k:Af s.next s s'):OU s' a cap n:=by
 rcases h with h | ⟨h1,i,o,r,h3,h4,h5,h6⟩
 ·exact .inl h
 ·exact .inr ⟨h1,i,o,r,h3,xi h4 k.1,by rw[k.2 i h4];exact h5,h6⟩
theorem OU.less{s:AE}{a:Option (Nat×Nat)}{cap:Option Nat}{n k:Nat}(h:OU s a cap n)(hk:k≤n):OU s a cap k:=by
 rcases h with⟨c,h1,h2,h3⟩ | ⟨h1,i,o,r,h3,h4,h5,h6,h7⟩
 ·exact .inl ⟨c,h1,by omega,h3⟩
 ·exact .inr ⟨h1,i,o,r,h3,h4,h5,h6,by omega⟩
theorem RK{t e:TypeId}(ht:Tryz.prog.underlying t=some (.slice e))(hs:BG Tryz.prog e=some 1){s:AE}{a:Option (Nat×Nat)}{cap:Option Nat}{n k:Nat}(hc:OU s a cap n)(hk:k≤n):
    At Tryz.prog t false true false s [.slice a n cap,iv (k:Int)]=some (.slice a k cap):=by
  show Bj Tryz.prog s t (.slice a n cap) none (some (iv (k:Int))) none=_
  rcases hc with⟨c,rfl,h1,h2⟩ | ⟨rfl,i,o,r,rfl,h3,h4,h5,h6⟩
  · have hb:Bi (iv (k:Int)) c=some k:=by simp[Bi,Ft,AP,CQ (show k≤c by omega),Dz]
    cases a with
    | none=>simp[Bj,ht,hs,hb]
    | some io=>obtain⟨i,o⟩:=io;cases hb2:Nat.beq c 0<;>simp[Bj,ht,hs,hb]
  · have hrow : rowAt s i = some r := by unfold rowAt; rw [h4]
    have hb:Bi (iv (k:Int)) ((r.n - o) / 1)=some k:=by simp[Bi,Ft,AP,CQ (show k≤r.n - o by omega),Dz]
    have hsz:Nat.beq 1 r.sz=true:=Fe h5.symm
    simp only[Bj,ht,hs,hrow,hsz,AP,hb,CQ (show o≤r.n by omega),show Nat.beq 1 0=false from rfl,Option.bind_some,Bool.true_and,Bool.and_true,Bool.not_false,cond_true]
    simp
def Bo(s:AE)(v:AV)(l:List Nat):Prop:=∃a cap,v=.slice a l.length cap∧OU s a cap l.length∧AU s.next s a (us l)
theorem Bo.old{s s':AE}{v:AV}{l:List Nat}(h:Bo s v l)(k:Af s.next s s'):Bo s' v l:=by
 obtain⟨a,cap,h1,h2,h3⟩:=h
 exact⟨a,cap,h1,h2.old k,(h3.old k (xZ _)).mono k.1⟩
theorem Bo.at{s:AE}{a:Option (Nat×Nat)}{l:List Nat}(h:AU s.next s a (us l)){k x:Nat}(hk:l[k]? = some x):∃i o,a=some (i,o)∧i<s.next∧DA s i (o+k)=some (Aw x):=h k _ (DE hk)
theorem Bo.take{s:AE}{a:Option (Nat×Nat)}{cap:Option Nat}{l:List Nat}(h2:OU s a cap l.length)(h3:AU s.next s a (us l)){k:Nat}(hk:k≤l.length):Bo s (.slice a k cap) (l.take k):=by
 have hl:(l.take k).length=k:=by rw[xz];omega
 refine⟨a,cap,by rw[hl],by rw[hl];exact h2.less hk,fun j u hu=>?_⟩
 rw[WU,zp]at hu
 split at hu
 ·exact h3 j u hu
 ·cases hu
def vW(s:AE)(v:AV)(l:List Nat):Prop:=∃i,v=.slice (some (i,0)) l.length none∧i<s.next∧Cf s i (us l) none
def NR(b:Nat)(s:AE)(v:AV)(l:List Nat):Prop:=∃O,CM 76 s v l.length 1 (us l) O∧(∀j∈O,b≤j)∧(∀j,By v=some j→b≤j)∧(l≠[]→vW s v l)
theorem CM.n32{s:AE}{v:AV}{l O:List Nat}(h1:CM 76 s v l.length 1 (us l) O):Bo s v l:=by
 obtain⟨a,cap,rfl,hc⟩:=h1.cells
 refine⟨a,cap,rfl,?_,hc⟩
 rcases h1 with⟨a',e,_,_,h4,_⟩ | ⟨i,p,e,h2,_⟩
 ·injection e with e1 e2 e3
  subst e1;subst e3
  exact .inl ⟨_,rfl,xZ _,h4⟩
 ·injection e with e1 e2 e3
  subst e1;subst e3
  rcases h2.ex with⟨e',_⟩ | ⟨_,_,k2,_,r,k4,k5,_,_,k8,_⟩
  ·cases e'
  ·exact .inr ⟨rfl,i,0,r,rfl,k2,k4,k8,by rw[k5.1,DS];omega⟩
theorem NR.n32{b:Nat}{s:AE}{v:AV}{l:List Nat}(h:NR b s v l):Bo s v l:=by
 obtain⟨O,h1,_,_⟩:=h
 exact h1.n32
theorem NR.mono{b b':Nat}{s:AE}{v:AV}{l:List Nat}(h:NR b s v l)(k:b'≤b):NR b' s v l:=by
 obtain⟨O,h1,h2,h3,h4⟩:=h
 exact⟨O,h1,fun j hj=>xh k (h2 j hj),fun j hj=>xh k (h3 j hj),h4⟩
theorem NR.nil(b:Nat)(s:AE):NR b s (.slice none 0 (some 0)) []:=⟨[],CM.nil s 1,fun j hj=>(by cases hj),fun j hj=>(by cases hj),fun h=>absurd rfl h⟩
theorem NR.old{b:Nat}{s s':AE}{v:AV}{l:List Nat}(h:NR b s v l)(k:Af s.next s s'):NR b s' v l:=by
 obtain⟨O,h1,h2,h3,h4⟩:=h
 refine⟨O,h1.frame k.1 (fun j hj=>?_),h2,h3,fun hne=>by obtain⟨i,q1,q2,q3⟩:=h4 hne;exact⟨i,q1,xi q2 k.1,q3.keep (k.2 i q2)⟩⟩
 refine k.2 j ?_
 rcases h1 with⟨a,rfl,_,_,_,h5⟩ | ⟨i,p,rfl,h6,_⟩
 ·cases a with
  | none=>cases hj
  | some io=>obtain⟨i,o⟩:=io;injection hj with hj;subst hj;exact(h5 i o rfl).1
 ·injection hj with hj
  subst hj
  rcases h6.ex with⟨e',_⟩ | ⟨_,_,k2,_⟩
  ·cases e'
  ·exact k2
theorem TA:Bv Tryz.prog 22=true:=by kernel_rfl
theorem ND:DF Tryz.prog 76 1=true:=by kernel_rfl
theorem kD:Ad Tryz.prog 22 0 (zipIdx [] [])=some (R 76 1 false []):=by kernel_rfl
theorem GZ(x:Int):Ad Tryz.prog 22 1 (zipIdx [0] [.int .u32 x])=some (R 76 1 false [.int .u32 x]):=by kernel_rfl
theorem Pv(x y:Int):Ad Tryz.prog 22 2 (zipIdx [0,1] [.int .u32 x,.int .u32 y])=some (R 76 1 false [.int .u32 x,.int .u32 y]):=by kernel_rfl
theorem gv(l:List Nat):An (us l)=true:=by
 induction l with
 | nil=>rfl
 | cons x l ih=>show((Aw x).isCell && An (us l))=true;rw[ih];rfl
theorem gX{s:AE}{a:Option (Nat×Nat)}{cap:Option Nat}{l:List Nat}(h:AU s.next s a (us l)):Ck Tryz.prog s 76 1 (.slice a l.length cap)=some (l.length,us l):=by
 cases l with
 | nil =>
  cases a with
  | none=>rfl
  | some io=>obtain⟨i,o⟩:=io;rfl
 | cons x l =>
  obtain⟨i,o,rfl,_,_⟩:=h 0 _ rfl
  have hld:=JA (o:=s.heap.get i) (us (x::l)) o (fun j u hj=>by
   obtain⟨i',o',e,_,h3⟩:=h j u hj
   injection e with e
   injection e with e1 e2
   subst e1;subst e2
   exact h3) (by simp[us])
  rw[DS]at hld
  show(NO s i o (x::l).length 1).bind _=_
  rw[show NO s i o (x::l).length 1=CI s i o ((x::l).length * 1)from by unfold NO;rw[Dl (show(x::l).length≠0 by simp)];rfl,xj,I9,hld]
  rfl
theorem QG{s:AE}{i o:Nat}(hz:CI s i o 0=some []){ax:Option (Nat×Nat)}{m:Nat}{cx:Option Nat}{add:List AV}(hsrc:Ck Tryz.prog s 76 1 (.slice ax m cx)=some (m,add))(ha:add.length=m)(hc:An add=true)(hm:0<m)(hml:m≤100000000000):
  Ar Tryz.prog s [22,22] [.slice (some (i,o)) 0 (some 0),.slice ax m cx]=some (.slice (some (s.next,0)) m none,newObj s (R 76 1 true add)):=by
 rw[EG Tryz.underlying22 Cx W4 (by omega) TA hsrc hc (by omega) (by omega)]
 simp only[appTo,Gw,xu,Oh hm,cond_false,yo,hz,Option.bind_some,C8,AP,ND,cond_true,zq]
 rfl
section
variable{E:CU}{s:AE}
theorem Ly(hE:GoodN E){v:AV}{l:List Nat}(hv:Bo s v l)(hl:l.length≤100000000000){K:AV→AE→Prop}(hK:∀s' v',Af s.next s s'→NR s.next s' v' l→K v' s'):WF E 136 [v] K s:=by
  obtain⟨a,cap,rfl,hcap,hc⟩:=hv
  refine hE.go Vp (by decide) rfl ?_
  by_cases hnil:a=none
  · subst hnil
    have hl0:l=[]:=by
      cases l with
      | nil=>rfl
      | cons x l=>obtain⟨_,_,e,_⟩:=hc 0 _ rfl;cases e
    subst hl0
    have e1:AL Tryz.prog .eql 22 (.slice none 0 cap) (.slice none 0 (some 0))=some (.bool true):=by kernel_rfl
    simp only[iX,Oq,Ot,TY,zY,e1,Qa,Qb,Qc,Qd,Qf,Qh,Qi,Qj,Ql,Qm,Qo,true_and,Qp,Qq,Qr,Qs,Qt,Qv,Qz,Rb,Rc,Rh,Rj,Rk,Rm,Rn,Yc]
    exact hK s _ (Af.refl _ _) (NR.nil _ _)
  · obtain⟨⟨i,o⟩,rfl⟩:∃io,a=some io:=by cases a with | none=>exact absurd rfl hnil | some io=>exact⟨io,rfl⟩
    have e1:∀n,AL Tryz.prog .eql 22 (.slice (some (i,o)) n cap) (.slice none 0 (some 0))=some (.bool false):=fun n=>by kernel_rfl
    have ho:=Af.new s (R 76 1 false [])
    have hd:CM 76 (newObj s (R 76 1 false [])) (.slice (some (s.next,0)) 0 (some 0)) 0 1 [] []:=.inl ⟨some (s.next,0),rfl,rfl,rfl,fun e=>(by cases e),fun i o e=>by
      injection e with e
      injection e with e1 e2
      subst e1;subst e2
      exact⟨yg _,by rw[I9,AW,if_pos rfl];rfl⟩⟩
    have hc2:AU (newObj s (R 76 1 false [])).next (newObj s (R 76 1 false [])) (some (i,o)) (us l):=(hc.old ho (xZ _)).mono ho.1
    obtain⟨v',s',O',happ,hd',hn1,hn2,hf,hO,hsl⟩:=hd.append (xt:=22) Tryz.underlying22 Cx W4 (by omega) TA ND (gX (cap:=cap) hc2) (by rw[DS];omega) (gv l) (by omega) (by omega)
    simp only[iX,Oq,Ot,Zy,e1,kD,Xe,happ,Qa,Qb,Qc,Qd,Qf,Qh,Qi,Qj,Qk,Ql,Qm,Qo,true_and,Qp,Qq,Qr,Qs,Qt,Qv,Ra,Rb,Rc,Rh,Rj,Rk,Rm,Rn,Yc]
    have hsn:(newObj s (R 76 1 false [])).next=s.next+1:=rfl
    refine hK s' v' ⟨by omega,fun j hj=>by rw[hf j (by omega) (by simp),AW,if_neg (by omega)]⟩ ⟨O',by simpa using hd',fun j hj=>?_,fun j hj=>?_,fun hne=>?_⟩
    · rcases hO j hj with h | h
      · cases h
      · omega
    · rcases hsl j hj with h | h
      · injection h with h;omega
      · omega
    · have hlp : 0 < l.length := List.length_pos_iff.2 hne
      have h2:=QG (i:=s.next) (o:=0) (s:=newObj s (R 76 1 false [])) (by rw[I9,AW,if_pos rfl];rfl) (gX (cap:=cap) hc2) (DS l) (gv l) hlp (by omega)
      rw[h2]at happ
      injection happ with happ
      injection happ with e5 e6
      rw[← e5,← e6]
      exact⟨_,rfl,yg _,Cf.of_R (by rw[AW,if_pos rfl])⟩
theorem M9(l:List Nat)(x:Nat):DH (l++[x])=if x=0 then DH l else l++[x]:=by
 induction l with
 | nil=>by_cases h:x=0<;>simp[DH,h]
 | cons y l ih =>
  show(if y=0∧DH (l++[x])=[]then []else y::DH (l++[x]))=_
  rw[ih]
  by_cases h:x=0
  ·simp only[h,if_true];rfl
  ·simp[h]
theorem OL{a:Option (Nat×Nat)}{cap:Option Nat}{l:List Nat}(hc:AU s.next s a (us l))(hl:l.length≤100000000000){Q:Ay→Prop}(x1:AV)
  (hq:∀ (k:Nat) (y3:AV),k≤l.length→DH l=l.take k→Q ⟨.exit 0,[.slice a l.length cap,x1,iv (k:Int),y3],[],s⟩):
  ∀ (k:Nat) (x3:AV),k≤l.length→DH l=DH (l.take k)→WC E none (.loop NV) Q [.slice a l.length cap,x1,iv (k:Int),x3] [] s:=by
 intro k
 induction k with
 | zero =>
  intro x3 hk ht
  have d0:decide ((0:Int)<((0:Nat):Int))=false:=rfl
  refine WC.loop' ?_
  simp only[NV,Vg,Rz,d0,Qa,Qb,Qc,Qd,Qf,Qg,Qh,Qi,Qj,Qk,Qm,Qo,true_and,Qp,Qq,Qr,Qs,Qt,Qu,Qv,Qw,Qx,Ra,Rb,Rd,Re,Rs,Ru,Rw,Rz]
  exact hq 0 _ hk (by rw[ht];rfl)
 | succ k ih =>
  intro x3 hk ht
  have hx:l[k]? = some l[k]:=xe (by omega)
  generalize l[k]=x at hx
  obtain⟨i,o,rfl,_,hload⟩:=Bo.at hc hx
  have htk:l.take (k+1)=l.take k++[x]:=by rw[List.take_add_one,hx];rfl
  have d0:decide ((0:Int)<((k+1:Nat):Int))=true:=decide_eq_true (by omega)
  have e1:=CP Tryz.prog 3 ((k+1:Nat):Int) 1 ⟨by omega,by omega⟩
  have e2:((k+1:Nat):Int) - 1=(k:Int):=by omega
  have e3:=Ae (cap:=cap) (i:=i) (o:=o) Tryz.underlying22 Cx (show k<l.length by omega)
  have e4:AC Tryz.prog s 76 (.ptr (some (i,o+k * 1)))=some (Aw x):=Bd Gq (by rw[xj];exact hload)
  have e5:AL Tryz.prog .eql 76 (Aw x) (.int .u32 0)=some (.bool (decide (x=0))):=gn Tryz.prog 76 (b:=0) .u32
  refine WC.loop' ?_
  generalize hW:WC E none (Aa.loop NV) Q=WW
  by_cases h0:x=0
  ·have d1:decide (x=0)=true:=decide_eq_true h0
   simp only[NV,Vg,pY,Rz,d0,e1,e2,e3,e4,e5,d1,Qa,Qb,Qc,Qd,Qf,Qg,Qh,Qi,Qj,Qk,Qm,Qo,true_and,Qp,Qq,Qr,Qs,Qt,Qv,Qw,Qx,Qz,Rb,Rd,Re,Rs,Ru,Rw,Rz]
   rw[← hW]
   exact ih _ (by omega) (by rw[ht,htk,M9,if_pos h0])
  ·have d1:decide (x=0)=false:=decide_eq_false h0
   simp only[NV,Vg,Rz,d0,e1,e2,e3,e4,e5,d1,Qa,Qb,Qc,Qd,Qf,Qg,Qh,Qi,Qj,Qk,Qm,Qo,true_and,Qp,Qq,Qr,Qs,Qt,Qv,Qw,Qx,Ra,Rb,Rd,Re,Rs,Ru,Rw,Rz]
   exact hq (k+1) _ hk (by rw[ht,htk,M9,if_neg h0])
theorem FE(l:List Nat):(DH l).length≤l.length:=by
 induction l with
 | nil=>exact xZ _
 | cons x l ih=>unfold DH;split<;>simp<;>omega
theorem C6(hE:GoodN E){v:AV}{l:List Nat}(hv:Bo s v l)(hl:l.length≤100000000000){K:AV→AE→Prop}(hK:∀s' v',Af s.next s s'→NR s.next s' v' (DH l)→K v' s'):WF E 92 [v] K s:=by
 obtain⟨a,cap,rfl,hcap,hc⟩:=hv
 refine hE.go eX (by decide) rfl ?_
 simp only[vk,eC,eE,AH Tryz.underlying22,Qa,Qb,Qc,Qd,Qf,Qh,Qi,Qj,Qk,Ql,Qm,Qo,true_and,Qp,Qq,Qr,Qt,Qv,Rb,Rh,Rk,Rm,Rn,Yc]
 refine OL hc hl _ (fun k y3 hk ht=>?_) l.length _ (xZ _) (by rw[zP])
 have e1:=RK Tryz.underlying22 Cx hcap hk
 simp only[eF,e1,if_true,Qb,Qc,Qd,Qf,Qh,Qj,Qk,Qm,Qo,true_and,Qr,Qs,Qt,Qv,Rb,Rd,Rg,Rj]
 refine Ly hE (Bo.take hcap hc hk) (by rw[xz];omega) fun s' v' h1 h2=>?_
 simp only[Qd,Qo,true_and,Qp,Qq,Qr,Qs]
 rw[← ht]at h2
 exact hK s' v' h1 h2
theorem XA(hE:GoodN E){K:AV→AE→Prop}(hK:K (.slice none 0 (some 0)) s):WF E 136 [.slice none 0 (some 0)] K s:=by
 refine hE.go Vp (by decide) rfl ?_
 have e1:AL Tryz.prog .eql 22 (.slice none 0 (some 0)) (.slice none 0 (some 0))=some (.bool true):=by kernel_rfl
 simp only[iX,Oq,Ot,TY,e1,Qa,Qb,Qc,Qd,Qf,Qh,Qi,Qj,Ql,Qm,Qo,true_and,Qp,Qq,Qr,Qs,Qt,Qv,Qz,Rb,Rc,Rh,Rj,Rk,Rm,Rn,Yc]
 exact hK
theorem gk(hE:GoodN E){K:AV→AE→Prop}(hK:K (.slice none 0 (some 0)) s):WF E 92 [.slice none 0 (some 0)] K s:=by
 refine hE.go eX (by decide) rfl ?_
 have hn:=(NR.nil 0 s).n32
 obtain⟨a,cap,e,hcap,hc⟩:=hn
 injection e with e1 e2 e3
 subst e1;subst e3
 simp only[vk,eC,eE,AH Tryz.underlying22,Qa,Qb,Qc,Qd,Qf,Qh,Qi,Qj,Qk,Ql,Qm,Qo,true_and,Qp,Qq,Qr,Qt,Qv,Rb,Rh,Rk,Rm,Rn,Yc]
 refine OL (l:=[]) hc (by simp) _ (fun k y3 hk ht=>?_) 0 _ (xZ _) rfl
 have hk0:k=0:=by simpa using hk
 subst hk0
 have e1:=RK Tryz.underlying22 Cx hcap (xZ 0)
 simp only[zY]at e1
 simp only[eF,zY,e1,if_true,Qb,Qc,Qd,Qf,Qh,Qj,Qk,Qm,Qo,true_and,Qr,Qs,Qt,Qv,Rb,Rd,Rg,Rj]
 refine XA hE ?_
 simp only[Qd,Qo,true_and,Qp,Qq,Qr,Qs]
 exact hK
end
theorem CL{s:AE}{n:Nat}:Ax Tryz.prog s 69 76 (Aj n)=some (Aw (n % 4294967296)):=by
 have:Ax Tryz.prog s 69 76 (Aj n)=some (.int .u32 (DT .u32 (n:Int))):=by
  simp[Ax,Tryz.underlying69,Tryz.underlying76]
 rw[this,YD]
 rfl
theorem Bz{s:AE}{n:Nat}(h:n<4294967296):Ax Tryz.prog s 76 69 (Aw n)=some (Aj n):=by
 have:Ax Tryz.prog s 76 69 (Aw n)=some (.int .u64 (DT .u64 (n:Int))):=by
  simp[Ax,Tryz.underlying69,Tryz.underlying76]
 rw[this,NC (by omega)]
theorem JJ      {s : AE}  {v : AV} {l : List Nat} {O : List Nat} (hd : CM   76 s v l.length 1 (us l) O) (x : Nat) (hl : l.length ≤ 100000000000) :
    ∃v' s' O',Ar Tryz.prog (newObj s (R 76 1 false [Aw x])) [22,22] [v,.slice (some (s.next,0)) 1 (some 1)]=some (v',s')∧CM 76 s' v' (l++[x]).length 1 (us (l++[x])) O'∧s.next≤s'.next ∧
      (∀j,j<s.next→j ∉ O→s'.heap.get j=s.heap.get j)∧(∀j∈O',j∈O∨s.next≤j)∧(∀j,By v'=some j→By v=some j∨s.next≤j):=by
  have hsn:(newObj s (R 76 1 false [Aw x])).next=s.next+1:=rfl
  have LD:CM 76 (newObj s (R 76 1 false [Aw x])) v l.length 1 (us l) O:=hd.frame (by omega) (fun j hj=>by
    rw[AW,if_neg]
    intro e
    subst e
    rcases hd with⟨a,rfl,_,_,_,h5⟩ | ⟨i,p,rfl,h6,_⟩
    · cases a with
      | none=>cases hj
      | some io =>
        obtain⟨i,o⟩:=io
        injection hj with hj
        have:=(h5 i o rfl).1
        omega
    · injection hj with hj
      rcases h6.ex with⟨e',_⟩ | ⟨_,_,k2,_⟩
      · cases e'
      · omega)
  have hsrc:Ck Tryz.prog (newObj s (R 76 1 false [Aw x])) 76 1 (.slice (some (s.next,0)) 1 (some 1))=some (1,[Aw x]):=Pz 76 1 (by rw[AW,if_pos rfl];rfl) rfl
  obtain⟨v',s',O',happ,hd',hn1,hn2,hf,hO,hsl⟩:=LD.append (xt:=22) Tryz.underlying22 Cx W4 (by omega) TA ND hsrc rfl rfl (by omega) (by omega)
  refine⟨v',s',O',happ,?_,by omega,fun j hj hjO=>by rw[hf j (by omega) hjO,AW,if_neg (by omega)],fun j hj=>(hO j hj).imp id (fun h=>by omega),fun j hj=>(hsl j hj).imp id (fun h=>by omega)⟩
  rw[OQ,xp]
  exact hd'
theorem E5.dest{s:AE}{v:AV}{n:Nat}{cs:List AV}{O:List Nat}(h:E5 76 1 s v n cs O):CM 76 s v n 1 cs O:=by
 rcases h with⟨rfl,rfl,rfl,rfl⟩ | ⟨i,p,h1,h2,h3⟩
 ·exact CM.nil s 1
 ·exact .inr ⟨i,p,h1,h2,h3⟩
def NW(b:Nat)(s:AE)(v:AV)(l:List Nat):Prop:=∃O,E5 76 1 s v l.length (us l) O∧∀j∈O,b≤j
theorem NW.n32'{b:Nat}{s:AE}{v:AV}{l:List Nat}(h:NW b s v l):Bo s v l:=by
 obtain⟨O,h1,h2⟩:=h
 exact h1.dest.n32
theorem NW.own{b:Nat}{s:AE}{v:AV}{l:List Nat}(h:NW b s v l)(h0:l≠[]):∃i p,v=.slice (some (i,0)) l.length none∧b≤i∧i<s.next∧Cf s i (us l) p∧∀q,p=some q→b≤q∧q<s.next∧q≠i:=by
  obtain⟨O,h1,h2⟩:=h
  rcases h1 with⟨_,h3,_⟩ | ⟨i,p,rfl,h3,rfl⟩
  · exact absurd (zN h3) h0
  · rcases h3.ex with ⟨e, _⟩ | ⟨_, _, k2, k3, r, k4, k5, _, k7, k8, k9, _⟩
    · cases e
    · refine⟨i,p,rfl,h2 i (by simp),k2,⟨r,k4,k5,by rw[k7];rfl,k8,.inr k9⟩,fun q hq=>?_⟩
      obtain⟨_,q2,q3⟩:=k3 q hq
      exact⟨h2 q (by simp[hq]),q2,q3⟩
theorem ST{s:AE}{v:AV}{l:List Nat}{O:List Nat}(hd:E5 76 1 s v l.length (us l) O)(x:Nat)(hl:l.length≤100000000000):
  ∃v' s' O',Ar Tryz.prog (newObj s (R 76 1 false [Aw x])) [22,22] [v,.slice (some (s.next,0)) 1 (some 1)]=some (v',s')∧E5 76 1 s' v' (l++[x]).length (us (l++[x])) O'∧s.next≤s'.next ∧
   (∀j,j<s.next→j ∉ O→s'.heap.get j=s.heap.get j)∧(∀j∈O',j∈O∨s.next≤j)∧(∀j,By v'=some j→By v=some j∨s.next≤j):=by
 have hsn:(newObj s (R 76 1 false [Aw x])).next=s.next+1:=rfl
 have LD:=hd.frame (s':=newObj s (R 76 1 false [Aw x])) (by omega) (fun j hj=>by rw[AW,if_neg (by have:=hd.lt j hj;omega)])
 have hsrc:Ck Tryz.prog (newObj s (R 76 1 false [Aw x])) 76 1 (.slice (some (s.next,0)) 1 (some 1))=some (1,[Aw x]):=Pz 76 1 (by rw[AW,if_pos rfl];rfl) rfl
 obtain⟨v',s',O',happ,hb',hn',hf,hO,hsl⟩:=LD.append (xt:=22) (m:=1) Tryz.underlying22 Cx W4 (by omega) TA ND (by omega) hsrc rfl rfl (by omega) (by omega)
 refine⟨v',s',O',happ,?_,by omega,fun j hj hjO=>by rw[hf j (by omega) hjO,AW,if_neg (by omega)],fun j hj=>(hO j hj).imp id (fun h=>by omega),fun j hj=>?_⟩
 ·rw[OQ,xp]
  exact hb'
 ·rw[hsl]at hj
  injection hj with hj
  exact .inr (by omega)
section
variable{E:CU}{s:AE}
theorem XU(n:Nat):AG [n % 4294967296,n / 4294967296]=n:=by
 show n % 4294967296+LB * (n / 4294967296+LB * 0)=n
 rw[show LB=4294967296 from rfl]
 omega
theorem PN(hE:GoodN E){n:Nat}(hn:n<18446744073709551616){K:AV→AE→Prop}(hK:∀s' v',Af s.next s s'→NR s.next s' v' (AJ n)→K v' s'):WF E 48 [Aj n] K s:=by
 refine hE.go sH (by decide) rfl ?_
 have e1:=Kn Tryz.prog 69 hn
 have e2:=JZ Tryz.prog 69 (a:=n) (k:=.u64) (n:=32) (by decide)
 have e2:AL Tryz.prog .shr 69 (Aj n) (.int .u64 32)=some (Aj (n / 4294967296)):=e2
 have e3:n % 4294967296 % 4294967296=n % 4294967296:=zZ _ _
 have e4:n / 4294967296 % 4294967296=n / 4294967296:=yS (by omega)
 have hrow:Bo (newObj s (R 76 1 false [Aw (n % 4294967296),Aw (n / 4294967296)])) (.slice (some (s.next,0)) 2 (some 2)) [n % 4294967296,n / 4294967296]:=by
  refine⟨some (s.next,0),some 2,rfl,.inl ⟨2,rfl,xZ _,fun e=>by cases e⟩,?_⟩
  exact Hb (e:=76) (sz:=1) (sp:=false) (by rw[AW,if_pos rfl];rfl) (yg _)
 simp only[wp,ml,mn,e1,e2,CL,e3,e4,Pv,Xe,Qa,Qb,Qc,Qd,Qf,Qh,Qi,Qj,Qk,Ql,Qm,Qo,true_and,Qp,Qq,Qr,Qs,Qt,Qv,Rb,Rh,Rj,Rk,Rm,Rn,Yc]
 refine C6 hE hrow (by simp) fun s' v' h1 h2=>?_
 have hs:Be [n % 4294967296,n / 4294967296]:=fun x hx=>by
  have hB:LB=4294967296:=rfl
  simp only[List.mem_cons,List.not_mem_nil,or_false]at hx
  rcases hx with rfl | rfl
  ·exact yP _ (by decide)
  ·omega
 rw[B0 hs,XU]at h2
 simp only[Qd,Qo,true_and,Qp,Qq,Qr,Qs]
 exact hK s' v' ((Af.new s _).trans (h1.mono (yp _))) (h2.mono (yp _))
theorem iW{x:Nat}(hx:x<4294967296){a:Option (Nat×Nat)}{cap:Option Nat}{l:List Nat}{b:Nat}(hc:AU b s a (us l))(hb:b≤s.next)(hl:l.length≤10000000000)(hs:Be l){T:List Nat}{Q:Ay→Prop}(x0 x3:AV)
  (hq:∀ (s':AE) (c:Nat) (v4:AV) (d O:List Nat) (y5 y8 y9:AV),Af s.next s s'→c<4294967296→d++[c]=T→E5 76 1 s' v4 d.length (us d) O→(∀j∈O,s.next≤j)→(∀j,By v4=some j→s.next≤j) →
   Q ⟨.exit 0,[x0,Aj x,Aj c,x3,v4,y5,.slice a l.length cap,iv (l.length:Int),y8,y9],[],s'⟩):
  ∀ (r:List Nat) (k:Nat) (s':AE) (c:Nat) (v4:AV) (d O:List Nat) (x5 x9:AV),l.drop k=r→k≤l.length→d.length=k→Af s.next s s'→c<4294967296→d++Kr r x c=T→E5 76 1 s' v4 d.length (us d) O→(∀j∈O,s.next≤j)→(∀j,By v4=some j→s.next≤j) →
   WC E none (.loop Lg) Q [x0,Aj x,Aj c,x3,v4,x5,.slice a l.length cap,iv (l.length:Int),iv (k:Int),x9] [] s':=by
 intro r
 induction r with
 | nil =>
  intro k s' c v4 d O x5 x9 hd hk hdl ho hc' hT hD hO hsl
  have hkl:k=l.length:=by
   have:=congrArg List.length hd
   simp at this
   omega
  subst hkl
  refine WC.loop' ?_
  simp only[Lg,TZ,Ry,Int.lt_irrefl,decide_false,Qa,Qb,Qc,Qd,Qf,Qh,Qj,Qm,Qo,true_and,Qp,Qq,Qr,Qs,Qt,Qv,Ra,Rb,Rd,Re,Ry]
  exact hq s' c v4 d O _ _ _ ho hc' hT hD hO hsl
 | cons y r ih =>
  intro k s' c v4 d O x5 x9 hd hk hdl ho hc' hT hD hO hsl
  have hlt:k<l.length:=by
   rcases xf k l.length with h' | h'
   ·exact h'
   ·rw[yQ h']at hd;cases hd
  have hy:l[k]? = some y:=by
   have:=congrArg (fun l=>l[0]?) hd
   simpa using this
  have hd':l.drop (k+1)=r:=by
   have:=congrArg (List.drop 1) hd
   simpa[zC]using this
  have hys:y<4294967296:=hs y (yG hy)
  obtain⟨i,o,rfl,hi,hload⟩:=hc k _ (DE hy)
  have hkk:decide ((k:Int)<(l.length:Int))=true:=decide_eq_true (by omega)
  have e1:=Ae (cap:=cap) (i:=i) (o:=o) Tryz.underlying22 Cx hlt
  have e2:AC Tryz.prog s' 76 (.ptr (some (i,o+k * 1)))=some (Aw y):=Bd Gq (by rw[xj,B6 (ho.2 i (by omega))];exact hload)
  have hxy:x * y≤4294967295 * 4294967295:=yh (by omega) (by omega)
  have e3:=Sx Tryz.prog 69 (a:=x) (b:=y) (by omega)
  have e4:=IE Tryz.prog 69 (a:=c) (b:=x * y) (by omega)
  have e5:=Kn Tryz.prog 69 (a:=c+x * y) (by omega)
  have e6:(c+x * y) % 4294967296 % 4294967296=(c+x * y) % 4294967296:=zZ _ _
  have e7:AL Tryz.prog .shr 69 (Aj (c+x * y)) (.int .u64 32)=some (Aj ((c+x * y) / 4294967296)):=JZ Tryz.prog 69 (k:=.u64) (n:=32) (by decide)
  have e8:=Az Tryz.prog 3 (k:Int) 1 ⟨by omega,by omega⟩
  have e8':((k:Int)+1)=((k+1:Nat):Int):=by omega
  obtain⟨v',s2,O',happ,hD',hn',hf',hO',hsl'⟩:=ST hD ((c+x * y) % 4294967296) (by omega)
  refine WC.loop' ?_
  generalize hW:WC E none (Aa.loop Lg) Q=WW
  simp only[Lg,TZ,Z2,Z3,Z4,Z5,Z6,Ry,hkk,e1,e2,Bz hys,e3,e4,e5,CL,e6,GZ,Xe,happ,e7,e8,e8',Qa,Qb,Qc,Qd,Qf,Qh,Qi,Qj,Qk,Qm,Qo,true_and,Qp,Qq,Qr,Qs,Qt,Qv,Qz,Rb,Rd,Re,Yc,Ry]
  rw[← hW]
  refine ih (k+1) s2 ((c+x * y) / 4294967296) v' (d++[(c+x * y) % 4294967296]) O' _ _ hd' hlt (by rw[xp,hdl];rfl) ⟨by have:=ho.1;omega,fun j hj=>by rw[hf' j (by have:=ho.1;omega) (fun hjO=>by have:=hO j hjO;omega)];exact ho.2 j hj⟩ (by omega) ?_ hD' (fun j hj=>(hO' j hj).elim (hO j) (fun h=>by have:=ho.1;omega)) (fun j hj=>(hsl' j hj).elim (hsl j) (fun h=>by have:=ho.1;omega))
  rw[← hT,yW]
  rfl
theorem uA(hE:GoodN E){v:AV}{l:List Nat}(hv:Bo s v l)(hl:l.length≤10000000000)(hs:Be l){x c:Nat}(hx:x<4294967296)(hc:c<4294967296){K:AV→AE→Prop}(hK:∀s' v',Af s.next s s'→NW s.next s' v' (Kr l x c)→K v' s'):
  WF E 137 [v,Aj x,Aj c] K s:=by
 obtain⟨a,cap,rfl,hcap,hcc⟩:=hv
 refine hE.go jK (by decide) rfl ?_
 simp only[uX,Zz,Z0,Z1,AH Tryz.underlying22,Qa,Qb,Qc,Qd,Qf,Qh,Qi,Qj,Ql,Qm,Qo,true_and,Qp,Qq,Qr,Qs,Qt,Qv,Rb,Rh,Rk,Rm,Rn,Yc]
 refine iW hx hcc (xZ _) hl hs (T:=Kr l x c) _ _ (fun s' c' v4 d O y5 y8 y9 ho hc' hT hD hO hsl=>?_) l 0 s c _ [] [] _ _ rfl (xg _) rfl (Af.refl _ _) hc rfl (E5.nil _ _ s) (fun j hj=>(by cases hj)) (fun j hj=>(by cases hj))
 have hdl:d.length=l.length:=by
  have:=congrArg List.length hT
  have h2:∀ (l:List Nat) (c:Nat),(Kr l x c).length=l.length+1:=by
   intro l
   induction l with
   | nil=>intro c;rfl
   | cons y l ih=>intro c;show(Kr l x _).length+1=_;rw[ih];rfl
  rw[xp,h2]at this
  simpa using this
 obtain⟨v',s2,O',happ,hD',hn',hf',hO',hsl'⟩:=ST hD c' (by omega)
 have e6:c' % 4294967296=c':=yS hc'
 simp only[VT,CL,e6,GZ,Xe,happ,if_true,Qb,Qc,Qd,Qf,Qh,Qj,Qk,Qm,Qo,true_and,Qp,Qq,Qr,Qs,Qt,Qv,Rb,Rd,Rg,Rj,Yc]
 rw[hT]at hD'
 refine hK s2 v' ⟨by have:=ho.1;omega,fun j hj=>by rw[hf' j (by have:=ho.1;omega) (fun hjO=>by have:=hO j hjO;omega)];exact ho.2 j hj⟩ ⟨O',hD',fun j hj=>(hO' j hj).elim (hO j) (fun h=>by have:=ho.1;omega)⟩
theorem rA(hE:GoodN E){v:AV}{l:List Nat}(hv:Bo s v l)(hl:l.length≤10000000000)(hs:Be l){n:Nat}(hn:n<32){K:AV→AE→Prop}(hK:∀s' v',Af s.next s s'→NW s.next s' v' (Kr l (2 ^ n) 0)→K v' s'):WF E 95 [v,Aj n] K s:=by
 have h2:2 ^ n≤2 ^ 31:=yT (by decide) (by omega)
 have e31:(2:Nat) ^ 31=2147483648:=by decide
 rw[e31]at h2
 have e1:AL Tryz.prog .shl 69 (.int .u64 1) (Aj n)=some (Aj (2 ^ n)):=by
  have:=OO Tryz.prog 69 (a:=1) (k:=.u64) (n:=n) (by omega) (by rw[ye];omega)
  rw[ye]at this
  exact this
 refine hE.go sq (by decide) rfl ?_
 simp only[xT,p8,qA,e1,Qa,Qb,Qc,Qd,Qf,Qh,Qi,Qj,Qk,Ql,Qm,Qo,true_and,Qp,Qq,Qr,Qs,Qt,Qv,Rb,Rh,Rj,Rk,Rm,Rn,Yc]
 refine uA hE hv hl hs (show 2 ^ n<4294967296 by omega) (show 0<4294967296 by decide) fun s' v' h1 h2=>?_
 simp only[Qd,Qo,true_and,Qp,Qq,Qr,Qs]
 exact hK s' v' h1 h2
end
end
end Go.Proofs.YtjnkfbpadpmakaaGreatDoor.Am
