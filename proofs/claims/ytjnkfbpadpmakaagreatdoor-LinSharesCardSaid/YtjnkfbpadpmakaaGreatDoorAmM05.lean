/- States that are told by the objects that came to be: reads, writes and new objects by rewriting; conditions: none. -/
import Derived.Test.YtjnkfbpadpmakaaGreatDoorAmM04
import Derived.Test.YtjnkfbpadpmakaaGreatDoorAmM01
import Derived.Test.YtjnkfbpadpmakaaGreatDoorProg
set_option linter.unusedVariables false
set_option linter.unusedSimpArgs false
namespace Go.Proofs.YtjnkfbpadpmakaaGreatDoor.Am
open Go
noncomputable section
section
variable{α:Type}
theorem AW.setF_succ(v:Option α)(f:Nat)(t:AW α)(k:Nat):AW.setF v (f+1) t (k+1)=if k % 2=0 then .node t.val (AW.setF v f t.left (k / 2)) t.right else .node t.val t.left (AW.setF v f t.right (k / 2)):=by
 by_cases h:k % 2=0
 ·have hb:Nat.beq (k % 2) 0=true:=by rw[h];rfl
  simp only[AW.setF,hb,cond_true,AW.nodeL_eq,AW.nodeR_eq]
  rw[if_pos h]
 ·have hb:Nat.beq (k % 2) 0=false:=AW.beq_no h
  simp only[AW.setF,hb,cond_false,AW.nodeL_eq,AW.nodeR_eq]
  rw[if_neg h]
theorem AW.setF_fuel   (v : Option α) : ∀ (f g : Nat) (t : AW   α) (k : Nat), k < f → k < g → AW.setF   v f t k = AW.setF   v g t k := by
  intro f
  induction f with
  | zero=>intro g t k h;omega
  | succ f ih =>
    intro g t k h1 h2
    cases g with
    | zero=>omega
    | succ g =>
      cases k with
      | zero=>rfl
      | succ k =>
        rw[AW.setF_succ,AW.setF_succ,ih g t.left (k / 2) (by omega) (by omega),ih g t.right (k / 2) (by omega) (by omega)]
theorem AW.setF_same(v w:Option α):∀ (f:Nat)(t:AW α)(k:Nat),k<f→AW.setF w f (AW.setF v f t k) k=AW.setF w f t k:=by
 intro f
 induction f with
 | zero=>intro t k h;omega
 | succ f ih =>
  intro t k h
  cases k with
  | zero=>rfl
  | succ k =>
   rw[AW.setF_succ,AW.setF_succ,AW.setF_succ]
   by_cases hk:k % 2=0
   ·simp only[hk,if_true,AW.val,AW.left,AW.right];rw[ih _ _ (by omega)]
   ·simp only[hk,if_false,AW.val,AW.left,AW.right];rw[ih _ _ (by omega)]
theorem AW.setF_comm   (v w : Option α) : ∀ (f : Nat) (t : AW   α) (k j : Nat), k < f → j < f → k ≠ j → AW.setF   w f (AW.setF   v f t k) j = AW.setF   v f (AW.setF   w f t j) k := by
  intro f
  induction f with
  | zero=>intro t k j h;omega
  | succ f ih =>
    intro t k j h1 h2 hne
    cases k with
    | zero =>
      cases j with
      | zero=>omega
      | succ j =>
        rw[AW.setF_succ,AW.setF_succ]
        by_cases hj:j % 2=0
        · simp only[hj,if_true,AW.setF,AW.val,AW.left,AW.right]
        · simp only[hj,if_false,AW.setF,AW.val,AW.left,AW.right]
    | succ k =>
      cases j with
      | zero =>
        rw[AW.setF_succ,AW.setF_succ]
        by_cases hk:k % 2=0
        · simp only[hk,if_true,AW.setF,AW.val,AW.left,AW.right]
        · simp only[hk,if_false,AW.setF,AW.val,AW.left,AW.right]
      | succ j =>
        simp only[AW.setF_succ]
        by_cases hk:k % 2=0<;>by_cases hj:j % 2=0
        · simp only[hk,hj,if_true,AW.val,AW.left,AW.right];rw[ih _ _ _ (by omega) (by omega) (by omega)]
        · simp only[hk,hj,if_true,if_false,AW.val,AW.left,AW.right]
        · simp only[hk,hj,if_true,if_false,AW.val,AW.left,AW.right]
        · simp only[hk,hj,if_false,AW.val,AW.left,AW.right];rw[ih _ _ _ (by omega) (by omega) (by omega)]
theorem AW.set_same(t:AW α)(k:Nat)(v w:α):(t.set k v).set k w=t.set k w:=AW.setF_same _ _ _ _ _ (by omega)
theorem AW.set_comm(t:AW α){k j:Nat}(h:k≠j)(v w:α):(t.set k v).set j w=(t.set j w).set k v:=by
 unfold AW.set AW.put
 rw[AW.setF_fuel _ (k+1) (k+j+1) t k (by omega) (by omega),AW.setF_fuel _ (j+1) (k+j+1) _ j (by omega) (by omega),AW.setF_fuel _ (j+1) (k+j+1) t j (by omega) (by omega),AW.setF_fuel _ (k+1) (k+j+1) _ k (by omega) (by omega)]
 exact AW.setF_comm _ _ _ _ _ _ (by omega) (by omega) h
theorem AW.fill_set_below(l:List α):∀ (t:AW α)(k j:Nat)(v:α),j<k→(t.fill k l).set j v=(t.set j v).fill k l:=by
 induction l with
 | nil=>intro t k j v _;rfl
 | cons a l ih =>
  intro t k j v h
  simp only[AW.fill]
  rw[ih _ _ _ _ (by omega),AW.set_comm t (by omega)]
theorem AW.fill_set(l:List α):∀ (t:AW α)(k i:Nat)(v:α),i<l.length→(t.fill k l).set (k+i) v=t.fill k (l.set i v):=by
  induction l with
  | nil=>intro t k i v h;simp at h
  | cons a l ih =>
    intro t k i v h
    cases i with
    | zero =>
      simp only[AW.fill,rO,sX]
      rw[AW.fill_set_below _ _ _ _ _ (by omega),AW.set_same]
    | succ i =>
      simp only[AW.fill,List.set_cons_succ]
      rw[show k+(i+1)=k+1+i from by omega]
      exact ih _ _ _ _ (by simpa using h)
end
def SM(l:List AV):AW AV:=AW.fill .leaf 0 l
theorem N3(l:List AV)(k:Nat):(SM l).get k=l[k]? := by
 unfold SM
 rw[AW.get_fill]
 by_cases h:k<l.length
 ·rw[if_pos ⟨rB _,by omega⟩];rfl
 ·rw[if_neg (by omega),rI (by omega)];rfl
def DO(cs:List AV)(off:Nat)(vs:List AV):List AV:=match vs with
 | []=>cs
 | v::vs=>DO (cs.set off v) (off+1) vs
theorem EF:∀ (vs cs:List AV)(off:Nat),(DO cs off vs).length=cs.length
 | [],_,_=>rfl
 | v::vs,cs,off=>by unfold DO;rw[EF];simp
theorem Pn:∀ (vs cs:List AV)(off:Nat),off+vs.length≤cs.length→(SM cs).fill off vs=SM (DO cs off vs)
 | [],_,_,_=>rfl
 | v::vs,cs,off,h=>by
  simp only[AW.fill,DO]
  have e:(SM cs).set off v=SM (cs.set off v):=by
   unfold SM
   have:=AW.fill_set cs .leaf 0 off v (by simp at h;omega)
   rwa[rE]at this
  rw[e]
  exact Pn vs _ _ (by simp at h ⊢;omega)
theorem F4         : ∀ (vs cs : List AV) (off k : Nat), off + vs.length ≤ cs.length → (DO     cs off vs)[k]? = if off ≤ k ∧ k < off + vs.length then vs[k - off]? else cs[k]?
  | [],cs,off,k,_=>by simp[DO];omega
  | v::vs,cs,off,k,h=>by
    simp only[rn]at h
    simp only[DO]
    rw[F4 vs _ _ _ (by simp;omega)]
    by_cases h1:off+1≤k∧k<off+1+vs.length
    · rw[if_pos h1,if_pos (by simp;omega),show k - off=(k - (off+1))+1 from by omega];rfl
    · rw[if_neg h1]
      by_cases h2:k=off
      · subst h2
        rw[if_pos (by simp),List.getElem?_set_self (by omega)]
        simp
      · rw[if_neg (by simp;omega),tT (Ne.symm h2)]
def R(e sz:Nat)(sp:Bool)(cs:List AV):BC:=.row { elem:=e,sz,n:=cs.length,c:=SM cs,spare:=sp,mode:=.own,par:=none,bytes:=true }
theorem R3(e sz:Nat)(cs:List AV):Ce e sz (AW.fill .leaf 0 cs) cs.length none true=R e sz true cs:=rfl
theorem Ww(s:AE)(i:Nat)(o:BC):(setObj s i o).heap.get i=some o:=by
 show(s.heap.set i o).get i=_
 rw[AW.get_set,if_pos rfl]
theorem Wx{s:AE}{i j:Nat}(o:BC)(h:j≠i):(setObj s i o).heap.get j=s.heap.get j:=by
 show(s.heap.set i o).get j=_
 rw[AW.get_set,if_neg h]
def Zl:Option BC→Option Dh
 | some (.row r)=>some r
 | _=>none
def Md(o:Option BC)(off:Nat):Option AV:=(Zl o).bind fun r=>AL (Nat.blt off r.n) (r.c.get off)
def K7(o:Option BC)(off n:Nat):Option (List AV):=(Zl o).bind fun r=>AL (Nat.ble (off+n) r.n) (r.c.take off n)
def mapO(kt:TypeId):Option BC→Option (List (AV×AV))
 | some (.map kt' es)=>AL (Nat.beq kt' kt) (some es)
 | _=>none
theorem cW(s:AE)(i:Nat):rowAt s i=Zl (s.heap.get i):=rfl
theorem IR(s:AE)(i off:Nat):Cm s i off=Md (s.heap.get i) off:=rfl
theorem IS(s:AE)(i off n:Nat):B9 s i off n=K7 (s.heap.get i) off n:=rfl
theorem Wo(e sz:Nat)(sp:Bool)(cs:List AV)(off:Nat):Md (some (R e sz sp cs)) off=cs[off]? := by
 show AL (Nat.blt off cs.length) ((SM cs).get off)=_
 rw[N3]
 by_cases h:off<cs.length
 ·have:Nat.blt off cs.length=true:=by rw[rN];exact h
  rw[this];rfl
 ·have:Nat.blt off cs.length=false:=by
   cases hb:Nat.blt off cs.length with
   | false=>rfl
   | true=>rw[rN]at hb;exact absurd hb h
  rw[this,rI (by omega)];rfl
theorem QJ:∀ (n:Nat)(cs:List AV)(off:Nat),off+n≤cs.length→(SM cs).take off n=some ((cs.drop off).take n)
 | 0,cs,off,_=>by simp[AW.take]
 | n+1,cs,off,h=>by
  have hg:cs[off]? = some cs[off]:=qy (by omega)
  simp only[AW.take,N3,hg,QJ n cs (off+1) (by omega)]
  rw[show cs.drop off=cs[off]::cs.drop (off+1)from(sD (by omega))]
  rfl
theorem Wp{e sz:Nat}{sp:Bool}{cs:List AV}{off n:Nat}(h:off+n≤cs.length):K7 (some (R e sz sp cs)) off n=some ((cs.drop off).take n):=by
 show AL (Nat.ble (off+n) cs.length) ((SM cs).take off n)=_
 have:Nat.ble (off+n) cs.length=true:=by rw[rC];exact h
 rw[this,QJ n cs off h];rfl
theorem Ls{s:AE}{i off e sz:Nat}{sp:Bool}{cs vs:List AV}(hg:s.heap.get i=some (R e sz sp cs))(h:off+vs.length≤cs.length)(ha:Au vs=true):
  Ch s i off vs=some (match vs with | []=>s | _::_=>setObj s i (R e sz sp (DO cs off vs))):=by
 cases vs with
 | nil=>rfl
 | cons v vs =>
  have hb:Nat.ble (off+(v::vs).length) cs.length=true:=by rw[rC];exact h
  show(rowAt s i).bind _=_
  rw[cW,hg]
  show AL (Dd .own && Nat.ble (off+(v::vs).length) cs.length && Au (v::vs)) _=_
  rw[hb,ha]
  show some (setObj s i _)=some (setObj s i _)
  rw[show R e sz sp (DO cs off (v::vs))=BC.row { elem:=e,sz,n:=(DO cs off (v::vs)).length,c:=SM (DO cs off (v::vs)),spare:=sp,mode:=.own,par:=none,bytes:=true }from rfl,EF,← Pn _ _ _ h]
def CO(e:TypeId)(s:AE)(v:AV)(n sz:Nat)(cs:List AV)(O:List Nat):Prop:=
 (∃a,v=.slice a n (some n)∧O=[]∧cs.length=n * sz∧(a=none→n=0)∧∀i o,a=some (i,o)→i<s.next∧B9 s i o (n * sz)=some cs) ∨
 (∃i p,v=.slice (some (i,0)) n none∧GM e 0 s.next s v n sz cs i p∧O=i::p.toList)
theorem CO.nil{e:TypeId}(s:AE)(sz:Nat):CO e s (.slice none 0 (some 0)) 0 sz [] []:=.inl ⟨none,rfl,rfl,by simp,fun _=>rfl,fun i o h=>by cases h⟩
theorem CO.len{e:TypeId}{s:AE}{v:AV}{n sz:Nat}{cs:List AV}{O:List Nat}(h:CO e s v n sz cs O):cs.length=n * sz:=by
 rcases h with⟨a,h1,h2,h3,h4⟩ | ⟨i,p,h1,h2,h3⟩
 ·exact h3
 ·exact h2.len
theorem ZB{s s':AE}{i o n:Nat}(h:s'.heap.get i=s.heap.get i):B9 s' i o n=B9 s i o n:=by unfold B9 rowAt;rw[h]
def CH:AV→Option Nat
 | .slice (some (i,_)) _ _=>some i
 | _=>none
theorem CO.frame{e:TypeId}{s s':AE}{v:AV}{n sz:Nat}{cs:List AV}{O:List Nat}(h:CO e s v n sz cs O)(hn:s.next≤s'.next)(hf:∀j,CH v=some j→s'.heap.get j=s.heap.get j):CO e s' v n sz cs O:=by
 rcases h with⟨a,rfl,h2,h3,h4,h5⟩ | ⟨i,p,rfl,h2,h3⟩
 ·refine .inl ⟨a,rfl,h2,h3,h4,fun i o e=>?_⟩
  obtain⟨k1,k2⟩:=h5 i o e
  subst e
  exact⟨by omega,by rw[ZB (hf i rfl)];exact k2⟩
 ·exact .inr ⟨i,p,rfl,(h2.mono hn).frame fun _ _=>hf i rfl,h3⟩
theorem CO.cells   {e : TypeId} {s : AE}  {v : AV} {n sz : Nat} {cs : List AV} {O : List Nat} (h : CO   e s v n sz cs O) : ∃ a cap, v = .slice a n cap ∧ AZ      s.next s a cs := by
  rcases h with⟨a,rfl,h2,h3,h4,h5⟩ | ⟨i,p,rfl,h2,h3⟩
  · refine⟨a,_,rfl,fun k u hk=>?_⟩
    have hlt:k<cs.length:=by
      rcases qz k cs.length with h | h
      · exact h
      · rw[rI h]at hk;cases hk
    cases a with
    | none=>rw[h4 rfl]at h3;simp at h3;subst h3;simp at hlt
    | some io =>
      obtain⟨i,o⟩:=io
      obtain⟨k1,k2⟩:=h5 i o rfl
      refine⟨i,o,rfl,k1,?_⟩
      unfold B9 at k2
      simp only[qv]at k2
      obtain⟨r,g1,g2⟩:=k2
      have g3:Nat.ble (o+n * sz) r.n=true∧r.c.take o (n * sz)=some cs:=by
        cases hb:Nat.ble (o+n * sz) r.n with
        | true=>rw[hb]at g2;exact⟨rfl,g2⟩
        | false=>rw[hb]at g2;cases g2
      have g4:o+n * sz≤r.n:=by simpa[rC]using g3.1
      have g5:=AW.take_get g3.2 k (by omega)
      rw[hk]at g5
      have g6:s.heap.get i=some (.row r):=by
        unfold rowAt at g1
        split at g1
        · injection g1 with g1;subst g1;assumption
        · cases g1
      exact FS g6 (by omega) g5
  · obtain⟨a,cap,e,hc⟩:=h2.cells
    exact⟨a,cap,e,hc⟩
theorem CO.append   {P : Program} {st xt e : TypeId} {sz by_ : Nat} (ht : P.underlying st = some (.slice e)) (hs : A7    P e = some sz) (hb : DN     P e = some by_) (h0 : 0 < sz) (hx : Bz           P xt = true) (hz : DH     P e sz = true) {s : AE}  {v : AV} {n : Nat} {cs : List AV} {O : List Nat} (h : CO   e s v n sz cs O)
    {ax:Option (Nat×Nat)} {m:Nat} {cx:Option Nat} {add:List AV} (hsrc:CT P s e sz (.slice ax m cx)=some (m,add)) (ha:add.length=m * sz) (hc:Au add=true) (h1:(n+m) * by_≤1099511627776) (h2:n+m≤1099511627776):
    ∃v' s' O',Aw P s [st,xt] [v,.slice ax m cx]=some (v',s')∧CO e s' v' (n+m) sz (cs++add) O'∧s.next≤s'.next∧s'.next≤s.next+1∧(∀j,j<s.next→j ∉ O→s'.heap.get j=s.heap.get j)∧(∀j∈O',j∈O∨s.next≤j)∧(∀j,CH v'=some j→CH v=some j∨s.next≤j):=by
  have hlen:=h.len
  rcases sE m with rfl | hm
  ·
    have hadd:add=[]:=by simp at ha;exact ha
    subst hadd
    rw[sj,rO]
    rcases h with⟨a,rfl,rfl,h3,h4,h5⟩ | ⟨i,p,rfl,h6,h7⟩
    · refine ⟨.slice a n (some n), s, [], ?_, .inl ⟨a, rfl, rfl, h3, h4, h5⟩, qw          _, sG          _, fun _ _ _ => rfl, fun j hj => (by cases hj), fun j hj => .inl hj⟩
      rw[Dy ht hs hb h0 hx hsrc hc h1 h2]
      cases a with
      | none=>rw[h4 rfl];rfl
      | some io =>
        obtain⟨i,o⟩:=io
        simp only[appTo,GO,rO,Cn (qw n),cond_true,Ch,Option.bind_some]
    · refine ⟨.slice (some (i, 0)) n none, s, O, ?_, .inr ⟨i, p, rfl, h6, h7⟩, qw          _, sG          _, fun _ _ _ => rfl, fun j hj => .inl hj, fun j hj => .inl hj⟩
      rw[Dy ht hs hb h0 hx hsrc hc h1 h2]
      rcases h6.ex with⟨e',_⟩ | ⟨_,k1,k2,k3,r,k4,k5,k6,k7,k8,k9⟩
      · cases e'
      · have hrow : rowAt s i = some r := by simp [rowAt, k4]
        have hrn:r.n=n * sz:=by rw[k5.1,h6.len]
        simp only[appTo,hrow,Option.bind_some,J3,k8,Fi rfl,AL,cond_true,rO,rE]
        rw[show Nat.ble (n * sz) r.n=true from Cn (by omega)]
        simp only[cond_true,Ch,Option.bind_some]
  · rcases h with ⟨a, rfl, rfl, h3, h4, h5⟩ | ⟨i, p, rfl, h6, h7⟩
    ·
      refine⟨.slice (some (s.next,0)) (n+m) none,newObj s (Ce e sz (AW.fill .leaf 0 (cs++add)) (cs++add).length none true),[s.next],?_,?_,sG _,qw _,fun j hj _=>by rw[AP,if_neg (by omega)],fun j hj=>by simp at hj;right;omega,fun j hj=>by simp[CH]at hj;right;omega⟩
      · rw[Dy ht hs hb h0 hx hsrc hc h1 h2]
        cases a with
        | none =>
          have hn0:=h4 rfl
          subst hn0
          have:cs=[]:=by simp at h3;exact h3
          subst this
          simp only[appTo,ED (show m≠0 by omega),cond_false,Cq,AL,hz,cond_true,si,rE]
        | some io =>
          obtain⟨i,o⟩:=io
          obtain⟨k1,k2⟩:=h5 i o rfl
          simp only[appTo,GO,NS (show n<n+m by omega),cond_false,k2,Option.bind_some,Cq,AL,hz,cond_true]
      · refine .inr ⟨s.next,none,rfl,⟨by rw[rL,h3,ha,rS],.inr ⟨rfl,rB _,sB _,fun q hq=>(by cases hq),_,by rw[AP,if_pos rfl];rfl,⟨rfl,?_⟩,rfl,rfl,rfl,rfl,rfl⟩⟩,rfl⟩
        intro k u hk
        have hlt:k<(cs++add).length:=by
          rcases qz k (cs++add).length with h' | h'
          · exact h'
          · rw[rI h']at hk;cases hk
        show(AW.fill .leaf 0 (cs++add)).get k=some u
        rw[AW.get_fill,if_pos ⟨rB _,by omega⟩]
        simpa using hk
    · obtain⟨a,cap,v',s',e1,e2,i',p',g1,g2,g3,g4,g5,g6,_⟩:=h6.appTo (qw _) (rB _) hz h0 ha hm
      injection e1 with e1 e3 e4
      subst e1;subst e4
      have hv':v'=.slice (some (i',0)) (n+m) none:=by
        rcases g1.ex with⟨_,e⟩ | ⟨e,_⟩
        · omega
        · exact e
      refine⟨v',s',i'::p'.toList,?_,.inr ⟨i',p',hv',g1,rfl⟩,g2.1,by omega,?_,?_,?_⟩
      · rw[Dy ht hs hb h0 hx hsrc hc h1 h2]
        exact e2
      · intro j hj hO
        subst h7
        refine g2.2 j hj (fun e=>hO (by simp[e])) (fun e=>hO (by simp[e]))
      · intro j hj
        subst h7
        rcases tN.1 hj with rfl | hj
        · right;omega
        · rcases g5 with rfl | rfl
          · cases hj
          · simp at hj;left;simp[hj]
      · intro j hj
        rw[hv']at hj
        simp[CH]at hj
        right;omega
theorem OI{P:Program}{e:TypeId}{s:AE}{i:Nat}{cs:List AV}{n:Nat}{cap:Option Nat}{sz:Nat}(ty:TypeId)(z:Nat)(hg:s.heap.get i=some (Gi ty z cs))(hl:cs.length=n * sz):CT P s e sz (.slice (some (i,0)) n cap)=some (n,cs):=by
 obtain⟨r,h1,h2,_⟩:=PU ty z cs
 rw[h1]at hg
 have:=Jh hg h2 0 cs (by omega) (fun j u hj=>by simpa using hj)
 rw[hl]at this
 simp[CT,Uu this]
section
variable{P:Program}{s:AE}{os:List BC}{b k i o off n t e sz:Nat}{sp:Bool}{cs vs:List AV}
theorem Xh(cs:List AV):(AV.agg cs).cells=cs:=rfl
theorem Xl(m:Option Nat):(AV.map m).cells=[.map m]:=rfl
theorem Xn(a:Option (Nat×Nat))(n:Nat)(c:Option Nat):(AV.slice a n c).cells=[.slice a n c]:=rfl
theorem Xo(f:FuncId)(a c:List AV):(AV.func f a c).cells=[.func f a c]:=rfl
theorem Xg{α:Type}(x:Option α):AL true x=x:=rfl
theorem ae(a b:Nat):Nat.beq a b=decide (a=b):=by
 rw[Bool.eq_iff_iff,decide_eq_true_eq,sZ]
theorem Wf(h:Dx P t=some false):AA P s t (.ptr (some (i,o)))=Md (s.heap.get i) o:=by
 unfold AA
 rw[h];rfl
theorem Wg(h:Dx P t=some true):AA P s t (.ptr (some (i,o)))=(A7 P t).bind fun n=>(K7 (s.heap.get i) o n).bind fun l=>some (.agg l):=by
 unfold AA
 rw[h];rfl
theorem Wh(v:AV):AM P s t (.ptr (some (i,o))) v=(A7 P t).bind fun n=>AL (decide (v.cells.length=n)) (Ch s i o v.cells):=by
 unfold AM
 simp only[ae]
theorem Xa(e:TypeId)(v:AV):Bf e v=some (R e 0 false v.cells,.ptr):=rfl
theorem Xc(i:Nat):Made.ptr.val i=.ptr (some (i,0)):=rfl
theorem Xd(i:Nat):Made.map.val i=.map (some i):=rfl
theorem Xe(i n:Nat):(Made.slice n).val i=.slice (some (i,0)) n (some n):=rfl
end
abbrev Aj(n:Nat):AV:=.int .u64 (n:Int)
abbrev BV(n:Nat):AV:=.int .u32 (n:Int)
theorem Ly{n:Nat}(h:n<18446744073709551616):DG .u64 (n:Int)=(n:Int):=QO (by simp only[By,rC];omega)
theorem FR(n:Int):IntKind.wrap .u64 n=n % 18446744073709551616:=by
 simp[IntKind.wrap,IntKind.signed,IntKind.bits]
theorem Mc(n:Int):IntKind.wrap .u32 n=n % 4294967296:=by
 simp[IntKind.wrap,IntKind.signed,IntKind.bits]
theorem U6(n:Int):DG .u64 n=n % 18446744073709551616:=by
 unfold DG
 cases h:By .u64 n with
 | true =>
  cases n with
  | ofNat m =>
   simp only[By,rC]at h
   simp only[cond_true]
   rw[show Int.ofNat m=(m:Int)from rfl]
   omega
  | negSucc m=>cases h
 | false=>exact FR n
theorem NB(n:Int):DG .u32 n=n % 4294967296:=by
 unfold DG
 cases h:By .u32 n with
 | true =>
  cases n with
  | ofNat m =>
   simp only[By,rC]at h
   simp only[cond_true]
   rw[show Int.ofNat m=(m:Int)from rfl]
   omega
  | negSucc m=>cases h
 | false=>exact Mc n
section
variable(P:Program)(t:TypeId){a b:Nat}
theorem HX(h:a+b<18446744073709551616):AS P .add t (Aj a) (Aj b)=some (Aj (a+b)):=by
 show some (AV.int .u64 (DG .u64 ((a:Int)+(b:Int))))=_
 rw[← Int.natCast_add,Ly h]
theorem QK(h:a * b<18446744073709551616):AS P .mul t (Aj a) (Aj b)=some (Aj (a * b)):=by
 show some (AV.int .u64 (DG .u64 ((a:Int) * (b:Int))))=_
 rw[← Int.natCast_mul,Ly h]
theorem M7(hb:b≤18446744073709551616):AS P .sub t (Aj a) (Aj b)=some (Aj ((a+18446744073709551616 - b) % 18446744073709551616)):=by
 show some (AV.int .u64 (DG .u64 ((a:Int) - (b:Int))))=_
 rw[U6]
 congr 2
 omega
theorem oh(k:IntKind):AS P .lss t (.int k (a:Int)) (.int k (b:Int))=some (.bool (decide (a<b))):=by
 have:∀k,Bu k k=true:=fun k=>by cases k<;>rfl
 show AL (Bu k k) (some (AV.bool (Lz (a:Int) (b:Int))))=_
 rw[this,Cw]
 simp[AL]
theorem M5(k:IntKind):AS P .gtr t (.int k (a:Int)) (.int k (b:Int))=some (.bool (decide (b<a))):=by
 have:∀k,Bu k k=true:=fun k=>by cases k<;>rfl
 show AL (Bu k k) (some (AV.bool (Lz (b:Int) (a:Int))))=_
 rw[this,Cw]
 simp[AL]
theorem j5(k:IntKind):AS P .eql t (.int k (a:Int)) (.int k (b:Int))=some (.bool (decide (a=b))):=by
 have:∀k,Bu k k=true:=fun k=>by cases k<;>rfl
 show AL (Bu k k) (some (AV.bool (L4 (a:Int) (b:Int))))=_
 rw[this,ER]
 simp only[AL,cond_true]
 congr 2
 by_cases h:a=b
 ·subst h;simp
 ·have:(a:Int)≠b:=by omega
  simp[h,this]
theorem j6(ha:a<18446744073709551616)(hb:b≠0):AS P .quo t (Aj a) (Aj b)=some (Aj (a / b)):=by
 show(Dt P (Op.intDiv .quo .u64 (a:Int) (b:Int))).bind ofValue=_
 have hb':¬ ((b:Int)=0):=by omega
 unfold Op.intDiv
 rw[if_neg hb']
 show some (AV.int .u64 (IntKind.wrap .u64 ((a:Int).tdiv (b:Int))))=_
 rw[FR,show(a:Int).tdiv (b:Int)=((a / b:Nat):Int)from rfl]
 congr 2
 have:a / b≤a:=sY a b
 generalize a / b=q at this
 omega
theorem j7(hb:b≠0):AS P .rem t (Aj a) (Aj b)=some (Aj (a % b)):=by
 show(Dt P (Op.intDiv .rem .u64 (a:Int) (b:Int))).bind ofValue=_
 have hb':¬ ((b:Int)=0):=by omega
 unfold Op.intDiv
 rw[if_neg hb']
 show some (AV.int .u64 ((a:Int).tmod (b:Int)))=_
 rfl
theorem Ip{k:IntKind}{n:Nat}(hn:n≤64):AS P .shr t (Aj a) (.int k (n:Int))=some (Aj (a / 2 ^ n)):=by
 show(Dt P (Op.shift .shr .u64 (a:Int) k (n:Int))).bind ofValue=_
 unfold Op.shift
 rw[if_neg (by omega)]
 show some (AV.int .u64 ((a:Int).fdiv (2 ^ min (n:Int).toNat 64)))=_
 rw[show min (n:Int).toNat 64=n by omega]
 congr 2
 rw[show((2:Int) ^ n)=((2 ^ n:Nat):Int) by push_cast;rfl]
 exact(Int.ofNat_fdiv a (2 ^ n)).symm
theorem M6{k:IntKind}{n:Nat}(hn:n≤64)(h:a * 2 ^ n<18446744073709551616):AS P .shl t (Aj a) (.int k (n:Int))=some (Aj (a * 2 ^ n)):=by
 show(Dt P (Op.shift .shl .u64 (a:Int) k (n:Int))).bind ofValue=_
 unfold Op.shift
 rw[if_neg (by omega)]
 show some (AV.int .u64 (IntKind.wrap .u64 ((a:Int) * 2 ^ min (n:Int).toNat 64)))=_
 rw[show min (n:Int).toNat 64=n by omega,FR]
 congr 2
 rw[show(a:Int) * 2 ^ n=((a * 2 ^ n:Nat):Int) by push_cast;rfl]
 omega
theorem Js(h:a<18446744073709551616):AS P .and t (Aj a) (.int .u64 4294967295)=some (Aj (a % 4294967296)):=by
 show(Dt P (Op.intBits .and .u64 (a:Int) 4294967295)).bind ofValue=_
 show some (AV.int .u64 (IntKind.wrap .u64 ((BitVec.ofInt 64 (a:Int) &&& BitVec.ofInt 64 4294967295).toNat:Int)))=_
 rw[FR]
 congr 2
 have:(BitVec.ofInt 64 (a:Int) &&& BitVec.ofInt 64 4294967295).toNat=a % 4294967296:=by
  rw[BitVec.ofInt_natCast,show BitVec.ofInt 64 4294967295=BitVec.ofNat 64 4294967295 from(by decide),BitVec.toNat_and,BitVec.toNat_ofNat,BitVec.toNat_ofNat]
  rw[rv (show a<2 ^ 64 by omega),show 4294967295 % 2 ^ 64=2 ^ 32 - 1 by decide,Nat.and_two_pow_sub_one_eq_mod]
 rw[this]
 omega
theorem dC(h:a * 4294967296+b<18446744073709551616)(hb:b<4294967296):AS P .or t (Aj (a * 4294967296)) (Aj b)=some (Aj (a * 4294967296+b)):=by
 show(Dt P (Op.intBits .or .u64 ((a * 4294967296:Nat):Int) (b:Int))).bind ofValue=_
 show some (AV.int .u64 (IntKind.wrap .u64 ((BitVec.ofInt 64 ((a * 4294967296:Nat):Int) ||| BitVec.ofInt 64 (b:Int)).toNat:Int)))=_
 rw[FR]
 congr 2
 have:(BitVec.ofInt 64 ((a * 4294967296:Nat):Int) ||| BitVec.ofInt 64 (b:Int)).toNat=a * 4294967296+b:=by
  rw[BitVec.ofInt_natCast,BitVec.ofInt_natCast,BitVec.toNat_or,BitVec.toNat_ofNat,BitVec.toNat_ofNat]
  have e64:(2:Nat) ^ 64=18446744073709551616:=by decide
  have e32:(2:Nat) ^ 32=4294967296:=by decide
  have h1:a * 4294967296<18446744073709551616:=rX (Nat.le_add_right _ _) h
  have h2:b<18446744073709551616:=Nat.lt_trans hb (by decide)
  rw[e64,rv h1,rv h2]
  have h3:b<2 ^ 32:=by rw[e32];exact hb
  have:=Nat.two_pow_add_eq_or_of_lt h3 a
  rw[e32,rM]at this
  exact this.symm
 rw[this]
 have h5:((a * 4294967296+b:Nat):Int)<18446744073709551616:=Int.ofNat_lt.2 h
 exact Int.emod_eq_of_lt (Int.natCast_nonneg _) h5
end
def E6(e:TypeId)(sz:Nat)(s:AE)(v:AV)(n:Nat)(cs:List AV)(O:List Nat):Prop:=
 (v=.slice none 0 (some 0)∧n=0∧cs=[]∧O=[])∨∃i p,v=.slice (some (i,0)) n none∧GM e 0 s.next s v n sz cs i p∧O=i::p.toList
section
variable{e sz n:Nat}{s s':AE}{v:AV}{cs:List AV}{O:List Nat}
theorem E6.nil(e sz:Nat)(s:AE):E6 e sz s (.slice none 0 (some 0)) 0 [] []:=.inl ⟨rfl,rfl,rfl,rfl⟩
theorem E6.len(h:E6 e sz s v n cs O):cs.length=n * sz:=by
 rcases h with⟨_,rfl,rfl,_⟩ | ⟨i,p,_,h,_⟩
 ·simp
 ·exact h.len
theorem E6.lt  (h : E6  e sz s v n cs O) : ∀ j ∈ O, j < s.next := by
  rcases h with⟨_,_,_,rfl⟩ | ⟨i,p,hv,h,rfl⟩
  · intro j hj;cases hj
  · rcases h.ex with ⟨h1, _⟩ | ⟨_, _, h2, h3, _⟩
    · rw[hv]at h1;cases h1
    · intro j hj
      rcases tN.1 hj with rfl | hj
      · exact h2
      · cases p with
        | none=>cases hj
        | some q=>simp at hj;subst hj;exact(h3 _ rfl).2.1
theorem E6.frame(h:E6 e sz s v n cs O)(hn:s.next≤s'.next)(hf:∀j∈O,s'.heap.get j=s.heap.get j):E6 e sz s' v n cs O:=by
 rcases h with h | ⟨i,p,hv,h,rfl⟩
 ·exact .inl h
 ·exact .inr ⟨i,p,hv,(h.mono hn).frame fun _ _=>hf i (by simp),rfl⟩
theorem E6.slice(h:E6 e sz s v n cs O):∃a cap,v=.slice a n cap∧AZ s.next s a cs:=by
 rcases h with⟨rfl,rfl,rfl,_⟩ | ⟨i,p,_,h,_⟩
 ·exact⟨none,some 0,rfl,AZ.nil⟩
 ·exact h.cells
theorem E6.append  {P : Program} {st xt by_ : Nat} (ht : P.underlying st = some (.slice e)) (hs : A7    P e = some sz) (hb : DN     P e = some by_) (h0 : 0 < sz) (hx : Bz           P xt = true) (hz : DH     P e sz = true) (h : E6  e sz s v n cs O)
    {ax:Option (Nat×Nat)} {m:Nat} {cx:Option Nat} {add:List AV} (hm:0<m) (hsrc:CT P s e sz (.slice ax m cx)=some (m,add)) (ha:add.length=m * sz) (hc:Au add=true) (h1:(n+m) * by_≤1099511627776) (h2:n+m≤1099511627776):
    ∃v' s' O',Aw P s [st,xt] [v,.slice ax m cx]=some (v',s')∧E6 e sz s' v' (n+m) (cs++add) O'∧s'.next=s.next+1∧(∀j,j<s.next→j ∉ O→s'.heap.get j=s.heap.get j)∧(∀j∈O',j∈O∨s.next≤j)∧CH v'=some s.next:=by
  have key:∀ (i:Nat) (p:Option Nat),GM e 0 s.next s v n sz cs i p→(∀j,j<s.next→j ∉ O→j≠i∧p≠some j)→(∀j,j=i∨p=some j→j∈O∨s.next≤j) →
      ∃v' s' O',Aw P s [st,xt] [v,.slice ax m cx]=some (v',s')∧E6 e sz s' v' (n+m) (cs++add) O'∧s'.next=s.next+1∧(∀j,j<s.next→j ∉ O→s'.heap.get j=s.heap.get j)∧(∀j∈O',j∈O∨s.next≤j)∧CH v'=some s.next:=by
    intro i p hg hi hO
    obtain⟨a,cap,v',s',rfl,happ,i',p',hg',hap,_,rfl,hp',hn',_⟩:=hg.appTo (P:=P) (qw _) (rB _) hz h0 ha hm
    have hv':v'=.slice (some (s.next,0)) (n+m) none:=by
      rcases hg'.ex with⟨_,h0'⟩ | ⟨h1',_⟩
      · omega
      · exact h1'
    refine⟨v',s',s.next::p'.toList,by rw[Dy ht hs hb h0 hx hsrc hc h1 h2];exact happ,.inr ⟨s.next,p',hv',hg',rfl⟩,hn',fun j hj hjO=>?_,fun j hj=>?_,by rw[hv'];rfl⟩
    · exact hap.2 j hj (hi j hj hjO).1 (hi j hj hjO).2
    · rcases tN.1            hj with rfl | hj
      · exact .inr (qw _)
      · rcases hp' with rfl | rfl
        · cases hj
        · simp at hj;subst hj;exact hO _ (.inl rfl)
  rcases h with⟨rfl,rfl,rfl,rfl⟩ | ⟨i,p,rfl,hg,rfl⟩
  · exact key s.next none (GM.zero _ _ _ _ _ _ _) (fun j hj _=>⟨by omega,by simp⟩) (fun j hj=>by rcases hj with rfl | hj;exact .inr (qw _);cases hj)
  · refine key i p hg (fun j hj hjO => ⟨fun e => hjO (by simp [e]), fun e => hjO (by simp [e])⟩) (fun j hj => ?_)
    rcases hj with rfl | rfl<;>simp
end
section
variable{P:Program}{s:AE}{i e sz o t:Nat}{sp:Bool}{cs:List AV}{v:AV}
theorem Bo(hs:A7 P t=some 1)(hg:s.heap.get i=some (R e sz sp cs))(ho:o<cs.length)(hv:v.isCell=true):
  AM P s t (.ptr (some (i,o))) v=some (setObj s i (R e sz sp (cs.set o v))):=by
 have hc:v.cells=[v]:=by cases v<;>first | rfl | cases hv
 have hl:Au [v]=true:=by simp[Au,hv]
 rw[Wh,hs,hc]
 have:=Ls (off:=o) (vs:=[v]) hg (by show o+1≤cs.length;omega) hl
 show AL (decide (1=1)) (Ch s i o [v])=_
 rw[this]
 rfl
theorem AI(ht:Dx P t=some false)(hg:s.heap.get i=some (R e sz sp cs))(hk:cs[o]? = some v):AA P s t (.ptr (some (i,o)))=some v:=by
 rw[Wf ht,hg,Wo,hk]
theorem J7(hg:s.heap.get i=some (R e sz sp cs)){b:Nat}(hi:i<b):AZ b s (some (i,0)) cs:=fun k u hu=>⟨i,0,rfl,hi,by rw[IR,hg,Wo,rE];exact hu⟩
end
def us(l:List Nat):List AV:=l.map BV
theorem CY(l:List Nat):(us l).length=l.length:=by simp[us]
theorem Cy{l:List Nat}{k x:Nat}(h:l[k]? = some x):(us l)[k]? = some (BV x):=by simp[us,h]
theorem M8(a b:List Nat):us (a++b)=us a++us b:=by simp[us]
theorem Gu(l:List Nat)(k x:Nat):(us l).set k (BV x)=us (l.set k x):=by simp[us,List.map_set]
theorem Tr(l:List Nat)(k:Nat):us (l.take k)=(us l).take k:=by simp[us,List.map_take]
theorem IU{o:Option BC}:∀ (l:List AV)(off:Nat),(∀j u,l[j]? = some u→Md o (off+j)=some u)→l≠[]→K7 o off l.length=some l:=by
 intro l off h h0
 obtain⟨r,hr⟩:∃r,Zl o=some r:=by
  cases l with
  | nil=>exact absurd rfl h0
  | cons a l =>
   have:=h 0 a rfl
   unfold Md at this
   cases hr:Zl o with
   | none=>rw[hr]at this;cases this
   | some r=>exact⟨r,rfl⟩
 have hg:∀j u,l[j]? = some u→off+j<r.n∧r.c.get (off+j)=some u:=fun j u hj=>by
  have:=h j u hj
  unfold Md at this
  rw[hr,Option.bind_some]at this
  obtain⟨g1,g2⟩:=AD this
  exact⟨by simpa[rN]using g1,g2⟩
 have ht:∀ (m:List AV) (k:Nat),(∀j u,m[j]? = some u→r.c.get (k+j)=some u)→r.c.take k m.length=some m:=by
  intro m
  induction m with
  | nil=>intro k _;simp[AW.take]
  | cons a m ih =>
   intro k hk
   have h1:=hk 0 a rfl
   rw[rO]at h1
   simp only[rn,AW.take,h1,ih (k+1) fun j u hj=>by rw[show k+1+j=k+(j+1)from by omega];exact hk (j+1) u hj]
 unfold K7
 rw[hr,Option.bind_some,ht l off fun j u hj=>(hg j u hj).2]
 have hl:off+l.length≤r.n:=by
  cases hz:l.getLast? with
  | none=>exact absurd (List.getLast?_eq_none_iff.1 hz) h0
  | some u =>
   have hlen:0<l.length:=List.length_pos_iff.2 h0
   have:=(hg (l.length - 1) l[l.length - 1] (qy (by omega))).1
   omega
 have:Nat.ble (off+l.length) r.n=true:=by rw[rC];exact hl
 rw[this];rfl
def Cu(s:AE)(i:Nat)(cs:List AV)(p:Option Nat):Prop:=∃r,s.heap.get i=some (.row r)∧JR r cs∧Dd r.mode=true∧r.sz=1∧(r.par=none∨r.par=p)
theorem Cu.keep{s s':AE}{i:Nat}{cs:List AV}{p:Option Nat}(h:Cu s i cs p)(k:s'.heap.get i=s.heap.get i):Cu s' i cs p:=by
 obtain⟨r,h1,h2⟩:=h
 exact⟨r,k.trans h1,h2⟩
theorem Cu.of_R{s:AE}{i e:Nat}{sp:Bool}{cs:List AV}(h:s.heap.get i=some (R e 1 sp cs)):Cu s i cs none:=
 ⟨{ elem:=e,sz:=1,n:=cs.length,c:=SM cs,spare:=sp,mode:=.own,par:=none,bytes:=true },h,⟨rfl,fun k u hk=>by
  show(SM cs).get k=_
  rw[N3];exact hk⟩,rfl,rfl,.inl rfl⟩
theorem FU{P:Program}{s:AE}{i o t:Nat}{cs:List AV}{p:Option Nat}{v:AV}(ht:Dx P t=some false)(h:Cu s i cs p)(hk:cs[o]? = some v):AA P s t (.ptr (some (i,o)))=some v:=by
 obtain⟨r,h1,h2,_⟩:=h
 have ho:o<cs.length:=by
  rcases qz o cs.length with h' | h'
  ·exact h'
  ·rw[rI h']at hk;cases hk
 exact CJ ht (FS h1 (by rw[h2.1];exact ho) (h2.2 o v hk))
theorem I1{s:AE}{i:Nat}{cs:List AV}{p:Option Nat}(h:Cu s i cs p){b:Nat}(hi:i<b):AZ b s (some (i,0)) cs:=fun k u hu=>by
 obtain⟨r,h1,h2,_⟩:=h
 have ho:k<cs.length:=by
  rcases qz k cs.length with h' | h'
  ·exact h'
  ·rw[rI h']at hu;cases hu
 exact⟨i,0,rfl,hi,FS h1 (by rw[h2.1];omega) (by rw[rE];exact h2.2 k u hu)⟩
theorem Df        {P : Program} {s : AE}  {i o t : Nat} {cs : List AV} {p : Option Nat} {v : AV} (hs : A7    P t = some 1) (h : Cu   s i cs p) (ho : o < cs.length) (hv : v.isCell = true) :
    ∃s',AM P s t (.ptr (some (i,o))) v=some s'∧Cu s' i (cs.set o v) p∧s'.next=s.next∧∀j,j≠i→some j≠p→s'.heap.get j=s.heap.get j:=by
  obtain⟨r,h1,h2,h3,h4,h5⟩:=h
  have hc:v.cells=[v]:=by cases v<;>first | rfl | cases hv
  have hrow:rowAt s i=some r:=by unfold rowAt;rw[h1]
  have hb:Nat.ble (o+1) r.n=true:=Cn (by rw[h2.1];omega)
  have hal:Au [v]=true:=by simp[Au,hv]
  have est:AM P s t (.ptr (some (i,o))) v=some (setObj (BF s i r) i (.row { r with c:=r.c.fill o [v],par:=none })):=by
    rw[Wh,hs,hc]
    show AL (decide (1=1)) (Ch s i o [v])=_
    show(rowAt s i).bind _=_
    rw[hrow]
    show AL (Dd r.mode && Nat.ble (o+1) r.n && Au [v]) _=_
    rw[h3,hb,hal]
    rfl
  have hun:(BF s i r).next=s.next∧∀j,some j≠p→(BF s i r).heap.get j=s.heap.get j:=by
    unfold BF
    rcases h5 with h5 | h5
    · rw[h5];exact⟨rfl,fun j _=>rfl⟩
    · rw[h5]
      cases p with
      | none=>exact⟨rfl,fun j _=>rfl⟩
      | some q =>
        simp only
        cases hbq:Nat.beq q i with
        | true=>exact⟨rfl,fun j _=>rfl⟩
        | false =>
          refine⟨rfl,fun j hj=>?_⟩
          show(CQ s q).heap.get j=_
          rw[GY,if_neg]
          intro e
          exact hj (by rw[e])
  refine⟨_,est,⟨{ r with c:=r.c.fill o [v],par:=none },Ww _ _ _,⟨by show r.n=_;rw[h2.1,sf],fun k u hu=>?_⟩,h3,h4,.inl rfl⟩,hun.1,fun j hj hjp=>(Wx _ hj).trans (hun.2 j hjp)⟩
  show(r.c.fill o [v]).get k=some u
  rw[AW.get_fill]
  by_cases hk:k=o
  · subst hk
    rw[List.getElem?_set_self ho]at hu
    rw[if_pos ⟨qw _,by simp⟩,Nat.sub_self]
    exact hu
  · rw [tT                   (Ne.symm hk)] at hu
    rw[if_neg (by simp;omega)]
    exact h2.2 k u hu
structure EV(s s':AE)(i:Nat)(p:Option Nat):Prop where
 next:s'.next=s.next
 get:∀j,j≠i→some j≠p→s'.heap.get j=s.heap.get j
theorem EV.refl(s:AE)(i:Nat)(p:Option Nat):EV s s i p:=⟨rfl,fun _ _ _=>rfl⟩
theorem EV.step{s s' s2:AE}{i:Nat}{p:Option Nat}(h:EV s s' i p)(h1:s2.next=s'.next)(h2:∀j,j≠i→some j≠p→s2.heap.get j=s'.heap.get j):EV s s2 i p:=⟨h1.trans h.next,fun j hj hp=>(h2 j hj hp).trans (h.get j hj hp)⟩
end
end Go.Proofs.YtjnkfbpadpmakaaGreatDoor.Am
set_option linter.unusedVariables false
set_option linter.unusedSimpArgs false
set_option maxRecDepth 100000
namespace Go.Proofs.YtjnkfbpadpmakaaGreatDoor.Am
open Go Go.Proofs
noncomputable section
theorem Z9:A7 Tryz.prog 3=some 1:=by kernel_rfl
theorem px:DN Tryz.prog 3=some 8:=by kernel_rfl
theorem pC:Dx Tryz.prog 3=some false:=by kernel_rfl
theorem MI:Dx Tryz.prog 4=some false:=by kernel_rfl
theorem OK:A7 Tryz.prog 22=some 1:=by kernel_rfl
theorem CG:Dx Tryz.prog 22=some false:=by kernel_rfl
theorem Ci:A7 Tryz.prog 76=some 1:=by kernel_rfl
theorem UL:DN Tryz.prog 76=some 4:=by kernel_rfl
theorem GH:Dx Tryz.prog 76=some false:=by kernel_rfl
theorem pn:Eb Tryz.prog 76=some (.int .u32 (0)):=by kernel_rfl
theorem aC:A7 Tryz.prog 69=some 1:=by kernel_rfl
theorem VA:Dx Tryz.prog 69=some false:=by kernel_rfl
def YD:List AB:=[
 ⟨none,.p1 some,[(.const (.slice none 0 (some 0)))],(.set 1),[]⟩]
def YE:List AB:=[
 ⟨none,.r (fun s l=>match l with | [x]=>BN Tryz.prog s 22 x | _=>none),[.var 0],.push,[]⟩,
 ⟨none,.p1 some,[.loc 0],(.set 2),[]⟩]
def TG:List AB:=[
 ⟨none,.p2 (AS Tryz.prog .gtr 3),[(.var 2),(.const (.int .i64 (0)))],.push,[]⟩,
 ⟨(some ((.loc 0),true)),.p1 some,[.var 0],.push,[]⟩,
 ⟨(some ((.loc 1),true)),.p1 some,[.var 2],.push,[]⟩,
 ⟨(some ((.loc 2),true)),.p2 (AS Tryz.prog .sub 3),[(.loc 0),(.const (.int .i64 (1)))],.push,[]⟩,
 ⟨(some ((.loc 3),true)),.p2 (AK Tryz.prog 22),[.loc 2,.loc 0],.push,[]⟩,
 ⟨(some ((.loc 4),true)),.r1 (fun s a=>AA Tryz.prog s 76 a),[.loc 0],.push,[]⟩,
 ⟨(some ((.loc 5),true)),.p2 (AS Tryz.prog .eql 76),[(.loc 0),(.const (.int .u32 (0)))],.push,[]⟩,
 ⟨none,.p Ru,[(.loc 6),(.loc 0),(.const (.bool false))],(.set 3),[]⟩]
def iy:List AB:=[
 ⟨none,.p1 some,[.var 2],.push,[]⟩,
 ⟨none,.p2 (AS Tryz.prog .sub 3),[(.loc 0),(.const (.int .i64 (1)))],.push,[]⟩,
 ⟨none,.p1 some,[.loc 0],(.set 2),[]⟩]
def ML:Ad:=(.seq (.seq (.ops TG) (.cond (.var 3)
 .skip
 (.exit 0))) (.block 1 (.ops iy)))
def YF:List AB:=[
 ⟨none,.r (BK Tryz.prog 22 false true false),[.var 0,.var 2],.push,[]⟩,
 ⟨none,.call 136,[.loc 0],.push,[]⟩,
 ⟨none,.p1 some,[.loc 0],(.set 1),[]⟩]
def pK:Aq:=⟨1,4,(.seq (.ops YD) (.seq (.ops YE) (.seq (.block 0 (.loop ML)) (.seq (.ops YF) .ret)))),[((.var 1),none)]⟩
def NV:List AB:=[
 ⟨none,.p1 some,[(.const (.slice none 0 (some 0)))],(.set 1),[]⟩]
def NX:List AB:=[
 ⟨none,.p2 (AS Tryz.prog .eql 22),[(.var 0),(.const (.slice none 0 (some 0)))],(.set 2),[]⟩]
def Q5:List AB:=[
 ⟨none,.p1 some,[(.const (.slice none 0 (some 0)))],(.set 1),[]⟩]
def Vr:List AB:=[
 ⟨none,.mk (fun l=>(Af Tryz.prog 22 0 (zipIdx [] l)).bind fun r=>some (r,.slice 0)),[],.push,[]⟩,
 ⟨none,.e (fun s l=>Aw Tryz.prog s [22,22] l),[.loc 0,.var 0],.push,[]⟩,
 ⟨none,.p1 some,[.loc 0],(.set 1),[]⟩]
def ar:Aq:=⟨1,3,(.seq (.ops NV) (.seq (.seq (.ops NX) (.cond (.var 2)
 (.seq (.ops Q5) .ret)
 .skip)) (.seq (.ops Vr) .ret))),[((.var 1),none)]⟩
def gD:List AB:=[
 ⟨none,.p1 some,[(.const (.slice none 0 (some 0)))],(.set 1),[]⟩]
def gE:List AB:=[
 ⟨none,.p2 (AS Tryz.prog .and 69),[(.var 0),(.const (.int .u64 (4294967295)))],.push,[]⟩,
 ⟨none,.r1 (fun s x=>At Tryz.prog s 69 76 x),[.loc 0],.push,[]⟩,
 ⟨none,.p2 (AS Tryz.prog .shr 69),[(.var 0),(.const (.int .u64 (32)))],.push,[]⟩,
 ⟨none,.r1 (fun s x=>At Tryz.prog s 69 76 x),[.loc 0],.push,[]⟩,
 ⟨none,.mk (fun l=>(Af Tryz.prog 22 2 (zipIdx [0,1] l)).bind fun r=>some (r,.slice 2)),[.loc 2,.loc 0],.push,[]⟩,
 ⟨none,.call 92,[.loc 0],.push,[]⟩,
 ⟨none,.p1 some,[.loc 0],(.set 1),[]⟩]
def qQ:Aq:=⟨1,2,(.seq (.ops gD) (.seq (.ops gE) .ret)),[((.var 1),none)]⟩
def iz:List AB:=[
 ⟨none,.p1 some,[(.const (.int .i64 (0)))],(.set 2),[]⟩]
def i5:List AB:=[
 ⟨none,.p1 some,[.var 0],.push,[]⟩,
 ⟨none,.call 92,[.loc 0],.push,[]⟩,
 ⟨none,.p1 some,[.var 1],.push,[]⟩,
 ⟨none,.call 92,[.loc 0],.push,[]⟩,
 ⟨none,.p1 some,[.loc 2],(.set 0),[]⟩,
 ⟨none,.p1 some,[.loc 0],(.set 1),[]⟩]
def TH:List AB:=[
 ⟨none,.r (fun s l=>match l with | [x]=>BN Tryz.prog s 22 x | _=>none),[.var 0],.push,[]⟩,
 ⟨none,.r (fun s l=>match l with | [x]=>BN Tryz.prog s 22 x | _=>none),[.var 1],.push,[]⟩,
 ⟨none,.p2 (AS Tryz.prog .lss 3),[.loc 1,.loc 0],.push,[]⟩,
 ⟨none,.p1 some,[.loc 0],(.set 4),[]⟩]
def i6:List AB:=[
 ⟨none,.p1 some,[(.const (.int .i64 (-1)))],(.set 2),[]⟩]
def YJ:List AB:=[
 ⟨none,.r (fun s l=>match l with | [x]=>BN Tryz.prog s 22 x | _=>none),[.var 0],.push,[]⟩,
 ⟨none,.r (fun s l=>match l with | [x]=>BN Tryz.prog s 22 x | _=>none),[.var 1],.push,[]⟩,
 ⟨none,.p2 (AS Tryz.prog .gtr 3),[.loc 1,.loc 0],.push,[]⟩,
 ⟨none,.p1 some,[.loc 0],(.set 5),[]⟩]
def i7:List AB:=[
 ⟨none,.p1 some,[(.const (.int .i64 (1)))],(.set 2),[]⟩]
def i9:List AB:=[
 ⟨none,.r (fun s l=>match l with | [x]=>BN Tryz.prog s 22 x | _=>none),[.var 0],.push,[]⟩,
 ⟨none,.p2 (AS Tryz.prog .sub 3),[(.loc 0),(.const (.int .i64 (1)))],.push,[]⟩,
 ⟨none,.p1 some,[.loc 0],(.set 3),[]⟩]
def Ow:List AB:=[
 ⟨none,.p2 (AS Tryz.prog .geq 3),[(.var 3),(.const (.int .i64 (0)))],(.set 6),[]⟩]
def TI:List AB:=[
 ⟨none,.p2 (AK Tryz.prog 22),[.var 0,.var 3],.push,[]⟩,
 ⟨none,.r1 (fun s a=>AA Tryz.prog s 76 a),[.loc 0],.push,[]⟩,
 ⟨none,.p2 (AK Tryz.prog 22),[.var 1,.var 3],.push,[]⟩,
 ⟨none,.r1 (fun s a=>AA Tryz.prog s 76 a),[.loc 0],.push,[]⟩,
 ⟨none,.p2 (AS Tryz.prog .lss 76),[.loc 2,.loc 0],.push,[]⟩,
 ⟨none,.p1 some,[.loc 0],(.set 7),[]⟩]
def jA:List AB:=[
 ⟨none,.p1 some,[(.const (.int .i64 (-1)))],(.set 2),[]⟩]
def RK:List AB:=[
 ⟨none,.p2 (AK Tryz.prog 22),[.var 0,.var 3],.push,[]⟩,
 ⟨none,.r1 (fun s a=>AA Tryz.prog s 76 a),[.loc 0],.push,[]⟩,
 ⟨none,.p2 (AK Tryz.prog 22),[.var 1,.var 3],.push,[]⟩,
 ⟨none,.r1 (fun s a=>AA Tryz.prog s 76 a),[.loc 0],.push,[]⟩,
 ⟨none,.p2 (AS Tryz.prog .gtr 76),[.loc 2,.loc 0],.push,[]⟩,
 ⟨none,.p1 some,[.loc 0],(.set 8),[]⟩]
def YG:List AB:=[
 ⟨none,.p1 some,[(.const (.int .i64 (1)))],(.set 2),[]⟩]
def YH:List AB:=[
 ⟨none,.p1 some,[.var 3],.push,[]⟩,
 ⟨none,.p2 (AS Tryz.prog .sub 3),[(.loc 0),(.const (.int .i64 (1)))],.push,[]⟩,
 ⟨none,.p1 some,[.loc 0],(.set 3),[]⟩]
def He:Ad:=(.seq (.seq (.ops Ow) (.cond (.var 6)
 .skip
 (.exit 1))) (.seq (.block 2 (.block 3 (.seq (.ops TI) (.cond (.var 7)
 (.seq (.ops jA) .ret)
 (.seq (.ops RK) (.cond (.var 8)
 (.seq (.ops YG) .ret)
 .skip)))))) (.ops YH)))
def YI:List AB:=[
 ⟨none,.p1 some,[(.const (.int .i64 (0)))],(.set 2),[]⟩]
def qn:Aq:=⟨2,9,(.seq (.ops iz) (.seq (.ops i5) (.seq (.block 0 (.seq (.ops TH) (.cond (.var 4)
 (.seq (.ops i6) .ret)
 (.seq (.ops YJ) (.cond (.var 5)
 (.seq (.ops i7) .ret)
 .skip))))) (.seq (.seq (.ops i9) (.block 1 (.loop He))) (.seq (.ops YI) .ret))))),[((.var 2),none)]⟩
def Vs:List AB:=[
 ⟨none,.p1 some,[(.const (.slice none 0 (some 0)))],(.set 3),[]⟩]
def Vt:List AB:=[
 ⟨none,.p1 some,[(.const (.slice none 0 (some 0)))],(.set 4),[]⟩]
def Vu:List AB:=[
 ⟨none,.p1 some,[.var 0],(.set 6),[]⟩,
 ⟨none,.r (fun s l=>match l with | [x]=>BN Tryz.prog s 22 x | _=>none),[.var 6],(.set 7),[]⟩,
 ⟨none,.p1 some,[(.const (.int .i64 (0)))],(.set 8),[]⟩]
def Q6:List AB:=[
 ⟨none,.p2 (AS Tryz.prog .lss 3),[.var 8,.var 7],(.set 9),[]⟩]
def Vv:List AB:=[
 ⟨none,.p2 (AK Tryz.prog 22),[.var 6,.var 8],.push,[]⟩,
 ⟨none,.r1 (fun s a=>AA Tryz.prog s 76 a),[.loc 0],.push,[]⟩,
 ⟨none,.p1 some,[.loc 0],(.set 5),[]⟩]
def Vw:List AB:=[
 ⟨none,.p1 some,[.var 2],.push,[]⟩,
 ⟨none,.r1 (fun s x=>At Tryz.prog s 76 69 x),[.var 5],.push,[]⟩,
 ⟨none,.p2 (AS Tryz.prog .mul 69),[.var 1,.loc 0],.push,[]⟩,
 ⟨none,.p2 (AS Tryz.prog .add 69),[.loc 2,.loc 0],.push,[]⟩,
 ⟨none,.p1 some,[.loc 0],(.set 2),[]⟩]
def Vx:List AB:=[
 ⟨none,.p1 some,[.var 4],.push,[]⟩,
 ⟨none,.p2 (AS Tryz.prog .and 69),[(.var 2),(.const (.int .u64 (4294967295)))],.push,[]⟩,
 ⟨none,.r1 (fun s x=>At Tryz.prog s 69 76 x),[.loc 0],.push,[]⟩,
 ⟨none,.mk (fun l=>(Af Tryz.prog 22 1 (zipIdx [0] l)).bind fun r=>some (r,.slice 1)),[.loc 0],.push,[]⟩,
 ⟨none,.e (fun s l=>Aw Tryz.prog s [22,22] l),[.loc 3,.loc 0],.push,[]⟩,
 ⟨none,.p1 some,[.loc 0],(.set 4),[]⟩]
def Vy:List AB:=[
 ⟨none,.p1 some,[.var 2],.push,[]⟩,
 ⟨none,.p2 (AS Tryz.prog .shr 69),[(.loc 0),(.const (.int .u64 (32)))],.push,[]⟩,
 ⟨none,.p1 some,[.loc 0],(.set 2),[]⟩]
def Vz:List AB:=[
 ⟨none,.p2 (AS Tryz.prog .add 3),[(.var 8),(.const (.int .i64 (1)))],.push,[]⟩,
 ⟨none,.p1 some,[.loc 0],(.set 8),[]⟩]
def Ka:Ad:=(.seq (.ops Q6) (.seq (.cond (.var 9)
 .skip
 (.exit 0)) (.seq (.block 1 (.seq (.ops Vv) (.seq (.ops Vw) (.seq (.ops Vx) (.ops Vy))))) (.ops Vz))))
def Sv:List AB:=[
 ⟨none,.r1 (fun s x=>At Tryz.prog s 69 76 x),[.var 2],.push,[]⟩,
 ⟨none,.mk (fun l=>(Af Tryz.prog 22 1 (zipIdx [0] l)).bind fun r=>some (r,.slice 1)),[.loc 0],.push,[]⟩,
 ⟨none,.e (fun s l=>Aw Tryz.prog s [22,22] l),[.var 4,.loc 0],.push,[]⟩,
 ⟨none,.p1 some,[.loc 0],(.set 3),[]⟩]
def nX:Aq:=⟨3,10,(.seq (.ops Vs) (.seq (.ops Vt) (.seq (.seq (.ops Vu) (.block 0 (.loop Ka))) (.seq (.ops Sv) .ret)))),[((.var 3),none)]⟩
def jJ:List AB:=[
 ⟨none,.p1 some,[(.const (.slice none 0 (some 0)))],(.set 2),[]⟩]
def jK:List AB:=[
 ⟨none,.p2 (AS Tryz.prog .shl 69),[(.const (.int .u64 (1))),(.var 1)],.push,[]⟩,
 ⟨none,.call 137,[(.var 0),(.loc 0),(.const (.int .u64 (0)))],.push,[]⟩,
 ⟨none,.p1 some,[.loc 0],(.set 2),[]⟩]
def qp:Aq:=⟨2,3,(.seq (.ops jJ) (.seq (.ops jK) .ret)),[((.var 2),none)]⟩
def jB:List AB:=[
 ⟨none,.p1 some,[(.const (.slice none 0 (some 0)))],(.set 2),[]⟩,
 ⟨none,.p1 some,[(.const (.int .u64 (0)))],(.set 3),[]⟩]
def jC:List AB:=[
 ⟨none,.r (fun s l=>match l with | [x]=>BN Tryz.prog s 22 x | _=>none),[.var 0],.push,[]⟩,
 ⟨none,.mk (Xy (CW Tryz.prog 22)),[.loc 0,.loc 0],.push,[]⟩,
 ⟨none,.p1 some,[.loc 0],(.set 2),[]⟩]
def jD:List AB:=[
 ⟨none,.r (fun s l=>match l with | [x]=>BN Tryz.prog s 22 x | _=>none),[.var 0],.push,[]⟩,
 ⟨none,.p2 (AS Tryz.prog .sub 3),[(.loc 0),(.const (.int .i64 (1)))],.push,[]⟩,
 ⟨none,.p1 some,[.loc 0],(.set 4),[]⟩]
def YK:List AB:=[
 ⟨none,.p2 (AS Tryz.prog .geq 3),[(.var 4),(.const (.int .i64 (0)))],(.set 5),[]⟩]
def jE:List AB:=[
 ⟨none,.p1 some,[.var 3],.push,[]⟩,
 ⟨none,.p2 (AS Tryz.prog .shl 69),[(.loc 0),(.const (.int .u64 (32)))],.push,[]⟩,
 ⟨none,.p2 (AK Tryz.prog 22),[.var 0,.var 4],.push,[]⟩,
 ⟨none,.r1 (fun s a=>AA Tryz.prog s 76 a),[.loc 0],.push,[]⟩,
 ⟨none,.r1 (fun s x=>At Tryz.prog s 76 69 x),[.loc 0],.push,[]⟩,
 ⟨none,.p2 (AS Tryz.prog .or 69),[.loc 3,.loc 0],.push,[]⟩,
 ⟨none,.p1 some,[.loc 0],(.set 3),[]⟩]
def jF:List AB:=[
 ⟨none,.p2 (AS Tryz.prog .quo 69),[.var 3,.var 1],.push,[]⟩,
 ⟨none,.r1 (fun s x=>At Tryz.prog s 69 76 x),[.loc 0],.push,[]⟩,
 ⟨none,.p2 (AK Tryz.prog 22),[.var 2,.var 4],.push,[]⟩,
 ⟨none,.e (fun s=>Xy (fun a x=>Za (AM Tryz.prog s 76 a x))),[.loc 0,.loc 1],.push,[]⟩]
def jG:List AB:=[
 ⟨none,.p1 some,[.var 3],.push,[]⟩,
 ⟨none,.p2 (AS Tryz.prog .rem 69),[.loc 0,.var 1],.push,[]⟩,
 ⟨none,.p1 some,[.loc 0],(.set 3),[]⟩]
def jH:List AB:=[
 ⟨none,.p1 some,[.var 4],.push,[]⟩,
 ⟨none,.p2 (AS Tryz.prog .sub 3),[(.loc 0),(.const (.int .i64 (1)))],.push,[]⟩,
 ⟨none,.p1 some,[.loc 0],(.set 4),[]⟩]
def Ox:Ad:=(.seq (.seq (.ops YK) (.cond (.var 5)
 .skip
 (.exit 0))) (.seq (.block 1 (.seq (.ops jE) (.seq (.ops jF) (.ops jG)))) (.ops jH)))
def jI:List AB:=[
 ⟨none,.p1 some,[.var 2],.push,[]⟩,
 ⟨none,.call 92,[.loc 0],.push,[]⟩,
 ⟨none,.p1 some,[.var 3],.push,[]⟩,
 ⟨none,.p1 some,[.loc 1],(.set 2),[]⟩,
 ⟨none,.p1 some,[.loc 0],(.set 3),[]⟩]
def qo:Aq:=⟨2,6,(.seq (.ops jB) (.seq (.ops jC) (.seq (.seq (.ops jD) (.block 0 (.loop Ox))) (.seq (.ops jI) .ret)))),[((.var 2),none),((.var 3),none)]⟩
def jL:List AB:=[
 ⟨none,.p1 some,[(.const (.int .u64 (0)))],(.set 2),[]⟩]
def jM:List AB:=[
 ⟨none,.r (fun s l=>match l with | [x]=>BN Tryz.prog s 22 x | _=>none),[.var 1],.push,[]⟩,
 ⟨none,.p1 some,[.loc 0],(.set 3),[]⟩]
def jN:List AB:=[
 ⟨none,.p2 (AK Tryz.prog 22),[.var 0,.var 3],.push,[]⟩,
 ⟨none,.r1 (fun s a=>AA Tryz.prog s 76 a),[.loc 0],.push,[]⟩,
 ⟨none,.r1 (fun s x=>At Tryz.prog s 76 69 x),[.loc 0],.push,[]⟩,
 ⟨none,.p2 (AS Tryz.prog .shl 69),[(.loc 0),(.const (.int .u64 (32)))],.push,[]⟩,
 ⟨none,.p2 (AS Tryz.prog .sub 3),[(.var 3),(.const (.int .i64 (1)))],.push,[]⟩,
 ⟨none,.p2 (AK Tryz.prog 22),[.var 0,.loc 0],.push,[]⟩,
 ⟨none,.r1 (fun s a=>AA Tryz.prog s 76 a),[.loc 0],.push,[]⟩,
 ⟨none,.r1 (fun s x=>At Tryz.prog s 76 69 x),[.loc 0],.push,[]⟩,
 ⟨none,.p2 (AS Tryz.prog .or 69),[.loc 4,.loc 0],.push,[]⟩,
 ⟨none,.p1 some,[.loc 0],(.set 4),[]⟩]
def jO:List AB:=[
 ⟨none,.p2 (AS Tryz.prog .sub 3),[(.var 3),(.const (.int .i64 (1)))],.push,[]⟩,
 ⟨none,.p2 (AK Tryz.prog 22),[.var 1,.loc 0],.push,[]⟩,
 ⟨none,.r1 (fun s a=>AA Tryz.prog s 76 a),[.loc 0],.push,[]⟩,
 ⟨none,.r1 (fun s x=>At Tryz.prog s 76 69 x),[.loc 0],.push,[]⟩,
 ⟨none,.p2 (AS Tryz.prog .quo 69),[.var 4,.loc 0],.push,[]⟩,
 ⟨none,.p2 (AS Tryz.prog .sub 3),[(.var 3),(.const (.int .i64 (1)))],.push,[]⟩,
 ⟨none,.p2 (AK Tryz.prog 22),[.var 1,.loc 0],.push,[]⟩,
 ⟨none,.r1 (fun s a=>AA Tryz.prog s 76 a),[.loc 0],.push,[]⟩,
 ⟨none,.r1 (fun s x=>At Tryz.prog s 76 69 x),[.loc 0],.push,[]⟩,
 ⟨none,.p2 (AS Tryz.prog .rem 69),[.var 4,.loc 0],.push,[]⟩,
 ⟨none,.p1 some,[.loc 5],(.set 5),[]⟩,
 ⟨none,.p1 some,[.loc 0],(.set 6),[]⟩]
def MM:List AB:=[
 ⟨none,.p2 (AS Tryz.prog .gtr 69),[(.var 5),(.const (.int .u64 (4294967295)))],.push,[]⟩,
 ⟨(some ((.loc 0),false)),.p1 some,[.var 5],.push,[]⟩,
 ⟨(some ((.loc 1),false)),.p1 some,[.var 1],.push,[]⟩,
 ⟨(some ((.loc 2),false)),.p1 some,[.var 3],.push,[]⟩,
 ⟨(some ((.loc 3),false)),.p2 (AS Tryz.prog .sub 3),[(.loc 0),(.const (.int .i64 (2)))],.push,[]⟩,
 ⟨(some ((.loc 4),false)),.p2 (AK Tryz.prog 22),[.loc 2,.loc 0],.push,[]⟩,
 ⟨(some ((.loc 5),false)),.r1 (fun s a=>AA Tryz.prog s 76 a),[.loc 0],.push,[]⟩,
 ⟨(some ((.loc 6),false)),.r1 (fun s x=>At Tryz.prog s 76 69 x),[.loc 0],.push,[]⟩,
 ⟨(some ((.loc 7),false)),.p2 (AS Tryz.prog .mul 69),[.loc 6,.loc 0],.push,[]⟩,
 ⟨(some ((.loc 8),false)),.p1 some,[.var 6],.push,[]⟩,
 ⟨(some ((.loc 9),false)),.p2 (AS Tryz.prog .shl 69),[(.loc 0),(.const (.int .u64 (32)))],.push,[]⟩,
 ⟨(some ((.loc 10),false)),.p1 some,[.var 0],.push,[]⟩,
 ⟨(some ((.loc 11),false)),.p1 some,[.var 3],.push,[]⟩,
 ⟨(some ((.loc 12),false)),.p2 (AS Tryz.prog .sub 3),[(.loc 0),(.const (.int .i64 (2)))],.push,[]⟩,
 ⟨(some ((.loc 13),false)),.p2 (AK Tryz.prog 22),[.loc 2,.loc 0],.push,[]⟩,
 ⟨(some ((.loc 14),false)),.r1 (fun s a=>AA Tryz.prog s 76 a),[.loc 0],.push,[]⟩,
 ⟨(some ((.loc 15),false)),.r1 (fun s x=>At Tryz.prog s 76 69 x),[.loc 0],.push,[]⟩,
 ⟨(some ((.loc 16),false)),.p2 (AS Tryz.prog .or 69),[.loc 6,.loc 0],.push,[]⟩,
 ⟨(some ((.loc 17),false)),.p2 (AS Tryz.prog .gtr 69),[.loc 9,.loc 0],.push,[]⟩,
 ⟨none,.p Ru,[(.loc 18),(.const (.bool true)),(.loc 0)],(.set 7),[]⟩]
def Oy:List AB:=[
 ⟨none,.p1 some,[.var 5],.push,[]⟩,
 ⟨none,.p2 (AS Tryz.prog .sub 69),[(.loc 0),(.const (.int .u64 (1)))],.push,[]⟩,
 ⟨none,.p1 some,[.loc 0],(.set 5),[]⟩]
def Oz:List AB:=[
 ⟨none,.p1 some,[.var 6],.push,[]⟩,
 ⟨none,.p2 (AS Tryz.prog .sub 3),[(.var 3),(.const (.int .i64 (1)))],.push,[]⟩,
 ⟨none,.p2 (AK Tryz.prog 22),[.var 1,.loc 0],.push,[]⟩,
 ⟨none,.r1 (fun s a=>AA Tryz.prog s 76 a),[.loc 0],.push,[]⟩,
 ⟨none,.r1 (fun s x=>At Tryz.prog s 76 69 x),[.loc 0],.push,[]⟩,
 ⟨none,.p2 (AS Tryz.prog .add 69),[.loc 4,.loc 0],.push,[]⟩,
 ⟨none,.p1 some,[.loc 0],(.set 6),[]⟩]
def O3:List AB:=[
 ⟨none,.p2 (AS Tryz.prog .gtr 69),[(.var 6),(.const (.int .u64 (4294967295)))],(.set 8),[]⟩]
def Kf:Ad:=(.seq (.seq (.ops MM) (.cond (.var 7)
 .skip
 (.exit 0))) (.block 1 (.seq (.ops Oy) (.seq (.ops Oz) (.seq (.ops O3) (.cond (.var 8)
 (.exit 0)
 .skip))))))
def jP:List AB:=[
 ⟨none,.p1 some,[.var 5],(.set 2),[]⟩]
def qq:Aq:=⟨2,9,(.seq (.ops jL) (.seq (.ops jM) (.seq (.ops jN) (.seq (.ops jO) (.seq (.block 0 (.loop Kf)) (.seq (.ops jP) .ret)))))),[((.var 2),none)]⟩
def jQ:List AB:=[
 ⟨none,.p1 some,[(.const (.bool false))],(.set 3),[]⟩]
def jR:List AB:=[
 ⟨none,.p1 some,[(.const (.int .u64 (0)))],(.set 4),[]⟩,
 ⟨none,.p1 some,[(.const (.int .u64 (0)))],(.set 5),[]⟩]
def jS:List AB:=[
 ⟨none,.call 136,[.var 1],.push,[]⟩,
 ⟨none,.mk (fun l=>(Af Tryz.prog 22 1 (zipIdx [0] l)).bind fun r=>some (r,.slice 1)),[(.const (.int .u32 (0)))],.push,[]⟩,
 ⟨none,.e (fun s l=>Aw Tryz.prog s [22,22] l),[.loc 1,.loc 0],(.set 9),[]⟩,
 ⟨none,.r (fun s l=>match l with | [x]=>BN Tryz.prog s 22 x | _=>none),[.var 9],(.set 10),[]⟩,
 ⟨none,.p1 some,[(.const (.int .i64 (0)))],(.set 11),[]⟩]
def YN:List AB:=[
 ⟨none,.p2 (AS Tryz.prog .lss 3),[.var 11,.var 10],(.set 12),[]⟩]
def jT:List AB:=[
 ⟨none,.p2 (AK Tryz.prog 22),[.var 9,.var 11],.push,[]⟩,
 ⟨none,.r1 (fun s a=>AA Tryz.prog s 76 a),[.loc 0],.push,[]⟩,
 ⟨none,.p1 some,[.var 11],(.set 6),[]⟩,
 ⟨none,.p1 some,[.loc 0],(.set 7),[]⟩]
def jU:List AB:=[
 ⟨none,.p1 some,[.var 4],.push,[]⟩,
 ⟨none,.r1 (fun s x=>At Tryz.prog s 76 69 x),[.var 7],.push,[]⟩,
 ⟨none,.p2 (AS Tryz.prog .mul 69),[.var 2,.loc 0],.push,[]⟩,
 ⟨none,.p2 (AS Tryz.prog .add 69),[.loc 2,.loc 0],.push,[]⟩,
 ⟨none,.p1 some,[.loc 0],(.set 4),[]⟩]
def jV:List AB:=[
 ⟨none,.p2 (AK Tryz.prog 22),[.var 0,.var 6],.push,[]⟩,
 ⟨none,.r1 (fun s a=>AA Tryz.prog s 76 a),[.loc 0],.push,[]⟩,
 ⟨none,.r1 (fun s x=>At Tryz.prog s 76 69 x),[.loc 0],.push,[]⟩,
 ⟨none,.p2 (AS Tryz.prog .and 69),[(.var 4),(.const (.int .u64 (4294967295)))],.push,[]⟩,
 ⟨none,.p2 (AS Tryz.prog .sub 69),[.loc 1,.loc 0],.push,[]⟩,
 ⟨none,.p2 (AS Tryz.prog .sub 69),[.loc 0,.var 5],.push,[]⟩,
 ⟨none,.p1 some,[.loc 0],(.set 8),[]⟩]
def jW:List AB:=[
 ⟨none,.p2 (AS Tryz.prog .and 69),[(.var 8),(.const (.int .u64 (4294967295)))],.push,[]⟩,
 ⟨none,.r1 (fun s x=>At Tryz.prog s 69 76 x),[.loc 0],.push,[]⟩,
 ⟨none,.p2 (AK Tryz.prog 22),[.var 0,.var 6],.push,[]⟩,
 ⟨none,.e (fun s=>Xy (fun a x=>Za (AM Tryz.prog s 76 a x))),[.loc 0,.loc 1],.push,[]⟩]
def jX:List AB:=[
 ⟨none,.p1 some,[.var 4],.push,[]⟩,
 ⟨none,.p2 (AS Tryz.prog .shr 69),[(.loc 0),(.const (.int .u64 (32)))],.push,[]⟩,
 ⟨none,.p1 some,[.loc 0],(.set 4),[]⟩]
def jY:List AB:=[
 ⟨none,.p2 (AS Tryz.prog .shr 69),[(.var 8),(.const (.int .u64 (63)))],.push,[]⟩,
 ⟨none,.p1 some,[.loc 0],(.set 5),[]⟩]
def YL:List AB:=[
 ⟨none,.p2 (AS Tryz.prog .add 3),[(.var 11),(.const (.int .i64 (1)))],.push,[]⟩,
 ⟨none,.p1 some,[.loc 0],(.set 11),[]⟩]
def Kg:Ad:=(.seq (.ops YN) (.seq (.cond (.var 12)
 .skip
 (.exit 0)) (.seq (.block 1 (.seq (.ops jT) (.seq (.ops jU) (.seq (.ops jV) (.seq (.ops jW) (.seq (.ops jX) (.ops jY))))))) (.ops YL))))
def YM:List AB:=[
 ⟨none,.p2 (AS Tryz.prog .gtr 69),[(.var 5),(.const (.int .u64 (0)))],.push,[]⟩,
 ⟨none,.p1 some,[.loc 0],(.set 3),[]⟩]
def qr:Aq:=⟨3,13,(.seq (.ops jQ) (.seq (.ops jR) (.seq (.seq (.ops jS) (.block 0 (.loop Kg))) (.seq (.ops YM) .ret)))),[((.var 3),none)]⟩
def jZ:List AB:=[
 ⟨none,.p1 some,[(.const (.int .u64 (0)))],(.set 2),[]⟩]
def ja:List AB:=[
 ⟨none,.call 136,[.var 1],.push,[]⟩,
 ⟨none,.mk (fun l=>(Af Tryz.prog 22 1 (zipIdx [0] l)).bind fun r=>some (r,.slice 1)),[(.const (.int .u32 (0)))],.push,[]⟩,
 ⟨none,.e (fun s l=>Aw Tryz.prog s [22,22] l),[.loc 1,.loc 0],(.set 5),[]⟩,
 ⟨none,.r (fun s l=>match l with | [x]=>BN Tryz.prog s 22 x | _=>none),[.var 5],(.set 6),[]⟩,
 ⟨none,.p1 some,[(.const (.int .i64 (0)))],(.set 7),[]⟩]
def YO:List AB:=[
 ⟨none,.p2 (AS Tryz.prog .lss 3),[.var 7,.var 6],(.set 8),[]⟩]
def jb:List AB:=[
 ⟨none,.p2 (AK Tryz.prog 22),[.var 5,.var 7],.push,[]⟩,
 ⟨none,.r1 (fun s a=>AA Tryz.prog s 76 a),[.loc 0],.push,[]⟩,
 ⟨none,.p1 some,[.var 7],(.set 3),[]⟩,
 ⟨none,.p1 some,[.loc 0],(.set 4),[]⟩]
def jc:List AB:=[
 ⟨none,.p1 some,[.var 2],.push,[]⟩,
 ⟨none,.p2 (AK Tryz.prog 22),[.var 0,.var 3],.push,[]⟩,
 ⟨none,.r1 (fun s a=>AA Tryz.prog s 76 a),[.loc 0],.push,[]⟩,
 ⟨none,.r1 (fun s x=>At Tryz.prog s 76 69 x),[.loc 0],.push,[]⟩,
 ⟨none,.r1 (fun s x=>At Tryz.prog s 76 69 x),[.var 4],.push,[]⟩,
 ⟨none,.p2 (AS Tryz.prog .add 69),[.loc 1,.loc 0],.push,[]⟩,
 ⟨none,.p2 (AS Tryz.prog .add 69),[.loc 5,.loc 0],.push,[]⟩,
 ⟨none,.p1 some,[.loc 0],(.set 2),[]⟩]
def jd:List AB:=[
 ⟨none,.p2 (AS Tryz.prog .and 69),[(.var 2),(.const (.int .u64 (4294967295)))],.push,[]⟩,
 ⟨none,.r1 (fun s x=>At Tryz.prog s 69 76 x),[.loc 0],.push,[]⟩,
 ⟨none,.p2 (AK Tryz.prog 22),[.var 0,.var 3],.push,[]⟩,
 ⟨none,.e (fun s=>Xy (fun a x=>Za (AM Tryz.prog s 76 a x))),[.loc 0,.loc 1],.push,[]⟩]
def je:List AB:=[
 ⟨none,.p1 some,[.var 2],.push,[]⟩,
 ⟨none,.p2 (AS Tryz.prog .shr 69),[(.loc 0),(.const (.int .u64 (32)))],.push,[]⟩,
 ⟨none,.p1 some,[.loc 0],(.set 2),[]⟩]
def jf:List AB:=[
 ⟨none,.p2 (AS Tryz.prog .add 3),[(.var 7),(.const (.int .i64 (1)))],.push,[]⟩,
 ⟨none,.p1 some,[.loc 0],(.set 7),[]⟩]
def O9:Ad:=(.seq (.ops YO) (.seq (.cond (.var 8)
 .skip
 (.exit 0)) (.seq (.block 1 (.seq (.ops jb) (.seq (.ops jc) (.seq (.ops jd) (.ops je))))) (.ops jf))))
def qt:Aq:=⟨2,9,(.seq (.ops jZ) (.seq (.ops ja) (.block 0 (.loop O9)))),[]⟩
def gK:List AB:=[
 ⟨none,.p1 some,[(.const (.slice none 0 (some 0)))],(.set 2),[]⟩,
 ⟨none,.p1 some,[(.const (.slice none 0 (some 0)))],(.set 3),[]⟩,
 ⟨none,.p1 some,[(.const (.int .i64 (0)))],(.set 4),[]⟩]
def gL:List AB:=[
 ⟨none,.p1 some,[.var 0],.push,[]⟩,
 ⟨none,.call 92,[.loc 0],.push,[]⟩,
 ⟨none,.p1 some,[.var 1],.push,[]⟩,
 ⟨none,.call 92,[.loc 0],.push,[]⟩,
 ⟨none,.p1 some,[.loc 2],(.set 0),[]⟩,
 ⟨none,.p1 some,[.loc 0],(.set 1),[]⟩]
def XX:List AB:=[
 ⟨none,.r (fun s l=>match l with | [x]=>BN Tryz.prog s 22 x | _=>none),[.var 1],.push,[]⟩,
 ⟨none,.p2 (AS Tryz.prog .eql 3),[(.loc 0),(.const (.int .i64 (0)))],.push,[]⟩,
 ⟨none,.p1 some,[.loc 0],(.set 13),[]⟩]
def gM:List AB:=[
 ⟨none,.p1 some,[(.const (.slice none 0 (some 0)))],(.set 2),[]⟩,
 ⟨none,.p1 some,[(.const (.slice none 0 (some 0)))],(.set 3),[]⟩,
 ⟨none,.p1 some,[(.const (.int .i64 (3)))],(.set 4),[]⟩]
def gN:List AB:=[
 ⟨none,.call 93,[.var 0,.var 1],.push,[]⟩,
 ⟨none,.p2 (AS Tryz.prog .lss 3),[(.loc 0),(.const (.int .i64 (0)))],.push,[]⟩,
 ⟨none,.p1 some,[.loc 0],(.set 14),[]⟩]
def gP:List AB:=[
 ⟨none,.p1 some,[(.const (.slice none 0 (some 0)))],(.set 2),[]⟩,
 ⟨none,.p1 some,[.var 0],(.set 3),[]⟩,
 ⟨none,.p1 some,[(.const (.int .i64 (0)))],(.set 4),[]⟩]
def Xi:List AB:=[
 ⟨none,.r (fun s l=>match l with | [x]=>BN Tryz.prog s 22 x | _=>none),[.var 1],.push,[]⟩,
 ⟨none,.p2 (AS Tryz.prog .eql 3),[(.loc 0),(.const (.int .i64 (1)))],.push,[]⟩,
 ⟨none,.p1 some,[.loc 0],(.set 15),[]⟩]
def gQ:List AB:=[
 ⟨none,.p2 (AK Tryz.prog 22),[(.var 1),(.const (.int .i64 (0)))],.push,[]⟩,
 ⟨none,.r1 (fun s a=>AA Tryz.prog s 76 a),[.loc 0],.push,[]⟩,
 ⟨none,.r1 (fun s x=>At Tryz.prog s 76 69 x),[.loc 0],.push,[]⟩,
 ⟨none,.call 94,[.var 0,.loc 0],.push,[]⟩,
 ⟨none,.p1 (fun x=>Zb x 0),[.loc 0],.push,[]⟩,
 ⟨none,.p1 (fun x=>Zb x 1),[.loc 1],.push,[]⟩,
 ⟨none,.p1 some,[.loc 1],(.set 5),[]⟩,
 ⟨none,.p1 some,[.loc 0],(.set 6),[]⟩]
def gR:List AB:=[
 ⟨none,.call 48,[.var 6],.push,[]⟩,
 ⟨none,.p1 some,[.var 5],(.set 2),[]⟩,
 ⟨none,.p1 some,[.loc 0],(.set 3),[]⟩,
 ⟨none,.p1 some,[(.const (.int .i64 (0)))],(.set 4),[]⟩]
def gT:List AB:=[
 ⟨none,.p1 some,[(.const (.int .u64 (0)))],(.set 7),[]⟩]
def RG:List AB:=[
 ⟨none,.r (fun s l=>match l with | [x]=>BN Tryz.prog s 22 x | _=>none),[.var 1],.push,[]⟩,
 ⟨none,.p2 (AS Tryz.prog .sub 3),[(.loc 0),(.const (.int .i64 (1)))],.push,[]⟩,
 ⟨none,.p2 (AK Tryz.prog 22),[.var 1,.loc 0],.push,[]⟩,
 ⟨none,.r1 (fun s a=>AA Tryz.prog s 76 a),[.loc 0],.push,[]⟩,
 ⟨none,.p2 (AS Tryz.prog .shl 76),[.loc 0,.var 7],.push,[]⟩,
 ⟨none,.p2 (AS Tryz.prog .shr 76),[(.loc 0),(.const (.int .u64 (31)))],.push,[]⟩,
 ⟨none,.p2 (AS Tryz.prog .eql 76),[(.loc 0),(.const (.int .u32 (0)))],(.set 16),[]⟩]
def XQ:List AB:=[
 ⟨none,.p1 some,[.var 7],.push,[]⟩,
 ⟨none,.p2 (AS Tryz.prog .add 113),[(.loc 0),(.const (.int .u64 (1)))],.push,[]⟩,
 ⟨none,.p1 some,[.loc 0],(.set 7),[]⟩]
def Kc:Ad:=(.seq (.seq (.ops RG) (.cond (.var 16)
 .skip
 (.exit 1))) (.block 2 (.ops XQ)))
def XR:List AB:=[
 ⟨none,.r (fun s l=>match l with | [x]=>BN Tryz.prog s 22 x | _=>none),[.var 1],.push,[]⟩,
 ⟨none,.call 95,[.var 0,.var 7],.push,[⟨none,.r (fun s l=>match l with | [x]=>BN Tryz.prog s 22 x | _=>none),[.var 1],(.loc 1)⟩]⟩,
 ⟨none,.call 95,[.var 1,.var 7],.push,[⟨none,.r (fun s l=>match l with | [x]=>BN Tryz.prog s 22 x | _=>none),[.var 1],(.loc 2)⟩]⟩,
 ⟨none,.r (BK Tryz.prog 22 false true false),[.loc 0,.loc 2],.push,[]⟩,
 ⟨none,.p1 some,[.loc 2],(.set 8),[]⟩,
 ⟨none,.p1 some,[.loc 0],(.set 9),[]⟩]
def XS:List AB:=[
 ⟨none,.r (fun s l=>match l with | [x]=>BN Tryz.prog s 22 x | _=>none),[.var 8],.push,[]⟩,
 ⟨none,.r (fun s l=>match l with | [x]=>BN Tryz.prog s 22 x | _=>none),[.var 9],.push,[]⟩,
 ⟨none,.p2 (AS Tryz.prog .sub 3),[.loc 1,.loc 0],.push,[]⟩,
 ⟨none,.mk (Xy (CW Tryz.prog 22)),[.loc 0,.loc 0],.push,[]⟩,
 ⟨none,.p1 some,[.loc 0],(.set 2),[]⟩]
def XT:List AB:=[
 ⟨none,.r (fun s l=>match l with | [x]=>BN Tryz.prog s 22 x | _=>none),[.var 2],.push,[]⟩,
 ⟨none,.p2 (AS Tryz.prog .sub 3),[(.loc 0),(.const (.int .i64 (1)))],.push,[]⟩,
 ⟨none,.p1 some,[.loc 0],(.set 10),[]⟩]
def RH:List AB:=[
 ⟨none,.p2 (AS Tryz.prog .geq 3),[(.var 10),(.const (.int .i64 (0)))],(.set 17),[]⟩]
def XU:List AB:=[
 ⟨none,.r (fun s l=>match l with | [x]=>BN Tryz.prog s 22 x | _=>none),[.var 9],.push,[]⟩,
 ⟨none,.p2 (AS Tryz.prog .add 3),[.var 10,.loc 0],.push,[]⟩,
 ⟨none,.p2 (AS Tryz.prog .add 3),[(.loc 0),(.const (.int .i64 (1)))],.push,[]⟩,
 ⟨none,.r (BK Tryz.prog 22 true true false),[.var 8,.var 10,.loc 0],.push,[]⟩,
 ⟨none,.p1 some,[.loc 0],(.set 11),[]⟩]
def XV:List AB:=[
 ⟨none,.call 96,[.var 11,.var 9],.push,[]⟩,
 ⟨none,.p1 some,[.loc 0],(.set 12),[]⟩]
def XW:List AB:=[
 ⟨none,.call 97,[.var 11,.var 9,.var 12],(.set 18),[]⟩]
def XY:List AB:=[
 ⟨none,.call 98,[.var 11,.var 9],.push,[]⟩]
def XZ:List AB:=[
 ⟨none,.p1 some,[.var 12],.push,[]⟩,
 ⟨none,.p2 (AS Tryz.prog .sub 69),[(.loc 0),(.const (.int .u64 (1)))],.push,[]⟩,
 ⟨none,.p1 some,[.loc 0],(.set 12),[]⟩]
def RI:List AB:=[
 ⟨none,.r1 (fun s x=>At Tryz.prog s 69 76 x),[.var 12],.push,[]⟩,
 ⟨none,.p2 (AK Tryz.prog 22),[.var 2,.var 10],.push,[]⟩,
 ⟨none,.e (fun s=>Xy (fun a x=>Za (AM Tryz.prog s 76 a x))),[.loc 0,.loc 1],.push,[]⟩]
def RJ:List AB:=[
 ⟨none,.p1 some,[.var 10],.push,[]⟩,
 ⟨none,.p2 (AS Tryz.prog .sub 3),[(.loc 0),(.const (.int .i64 (1)))],.push,[]⟩,
 ⟨none,.p1 some,[.loc 0],(.set 10),[]⟩]
def Iz:Ad:=(.seq (.seq (.ops RH) (.cond (.var 17)
 .skip
 (.exit 3))) (.seq (.block 4 (.seq (.ops XU) (.seq (.ops XV) (.seq (.seq (.ops XW) (.cond (.var 18)
 (.seq (.ops XY) (.ops XZ))
 .skip)) (.ops RI))))) (.ops RJ)))
def Xb:List AB:=[
 ⟨none,.p2 (AS Tryz.prog .shl 69),[(.const (.int .u64 (1))),(.var 7)],.push,[]⟩,
 ⟨none,.call 94,[.var 8,.loc 0],.push,[]⟩,
 ⟨none,.p1 (fun x=>Zb x 0),[.loc 0],.push,[]⟩,
 ⟨none,.p1 (fun x=>Zb x 1),[.loc 1],.push,[]⟩,
 ⟨none,.p1 some,[.loc 1],(.set 3),[]⟩]
def Xf:List AB:=[
 ⟨none,.p1 some,[.var 2],.push,[]⟩,
 ⟨none,.call 92,[.loc 0],.push,[]⟩,
 ⟨none,.p1 some,[.var 3],.push,[]⟩,
 ⟨none,.p1 some,[.loc 1],(.set 2),[]⟩,
 ⟨none,.p1 some,[.loc 0],(.set 3),[]⟩,
 ⟨none,.p1 some,[(.const (.int .i64 (0)))],(.set 4),[]⟩]
def qS:Aq:=⟨2,19,(.seq (.ops gK) (.seq (.ops gL) (.seq (.block 0 (.seq (.ops XX) (.cond (.var 13)
 (.seq (.ops gM) .ret)
 (.seq (.ops gN) (.cond (.var 14)
 (.seq (.ops gP) .ret)
 (.seq (.ops Xi) (.cond (.var 15)
 (.seq (.ops gQ) (.seq (.ops gR) .ret))
 .skip))))))) (.seq (.ops gT) (.seq (.block 1 (.loop Kc)) (.seq (.ops XR) (.seq (.ops XS) (.seq (.seq (.ops XT) (.block 3 (.loop Iz))) (.seq (.ops Xb) (.seq (.ops Xf) .ret)))))))))),[((.var 2),none),((.var 3),none),((.var 4),none)]⟩
def gF:List AB:=[
 ⟨none,.p1 some,[(.const (.slice none 0 (some 0)))],(.set 2),[]⟩]
def gG:List AB:=[
 ⟨none,.p1 some,[.var 0],.push,[]⟩,
 ⟨none,.call 92,[.loc 0],.push,[]⟩,
 ⟨none,.p1 some,[.var 1],.push,[]⟩,
 ⟨none,.call 92,[.loc 0],.push,[]⟩,
 ⟨none,.p1 some,[.loc 2],(.set 0),[]⟩,
 ⟨none,.p1 some,[.loc 0],(.set 1),[]⟩]
def XP:List AB:=[
 ⟨none,.r (fun s l=>match l with | [x]=>BN Tryz.prog s 22 x | _=>none),[.var 1],.push,[]⟩,
 ⟨none,.p2 (AS Tryz.prog .gtr 3),[(.loc 0),(.const (.int .i64 (0)))],(.set 4),[]⟩]
def gH:List AB:=[
 ⟨none,.call 50,[.var 0,.var 1],.push,[]⟩,
 ⟨none,.p1 (fun x=>Zb x 0),[.loc 0],.push,[]⟩,
 ⟨none,.p1 (fun x=>Zb x 1),[.loc 1],.push,[]⟩,
 ⟨none,.p1 (fun x=>Zb x 2),[.loc 2],.push,[]⟩,
 ⟨none,.p1 some,[.loc 2],.push,[]⟩,
 ⟨none,.p1 some,[.loc 2],(.set 3),[]⟩,
 ⟨none,.p1 some,[.loc 1],.push,[]⟩]
def gI:List AB:=[
 ⟨none,.p1 some,[.var 1],.push,[]⟩,
 ⟨none,.p1 some,[.loc 0],(.set 0),[]⟩,
 ⟨none,.p1 some,[.var 3],(.set 1),[]⟩]
def Ot:Ad:=(.seq (.seq (.ops XP) (.cond (.var 4)
 .skip
 (.exit 0))) (.block 1 (.seq (.ops gH) (.ops gI))))
def gJ:List AB:=[
 ⟨none,.p1 some,[.var 0],(.set 2),[]⟩]
def qR:Aq:=⟨2,5,(.seq (.ops gF) (.seq (.ops gG) (.seq (.block 0 (.loop Ot)) (.seq (.ops gJ) .ret)))),[((.var 2),none)]⟩
def gU:List AB:=[
 ⟨none,.p1 some,[(.const (.slice none 0 (some 0)))],(.set 2),[]⟩]
def gV:List AB:=[
 ⟨none,.r (fun s l=>match l with | [x]=>BN Tryz.prog s 22 x | _=>none),[.var 0],.push,[]⟩,
 ⟨none,.r (fun s l=>match l with | [x]=>BN Tryz.prog s 22 x | _=>none),[.var 1],.push,[]⟩,
 ⟨none,.p2 (AS Tryz.prog .add 3),[.loc 1,.loc 0],.push,[]⟩,
 ⟨none,.mk (Xy (CW Tryz.prog 22)),[.loc 0,.loc 0],.push,[]⟩,
 ⟨none,.p1 some,[.loc 0],(.set 3),[]⟩]
def gW:List AB:=[
 ⟨none,.p1 some,[.var 0],(.set 9),[]⟩,
 ⟨none,.r (fun s l=>match l with | [x]=>BN Tryz.prog s 22 x | _=>none),[.var 9],(.set 10),[]⟩,
 ⟨none,.p1 some,[(.const (.int .i64 (0)))],(.set 11),[]⟩]
def Xs:List AB:=[
 ⟨none,.p2 (AS Tryz.prog .lss 3),[.var 11,.var 10],(.set 12),[]⟩]
def gX:List AB:=[
 ⟨none,.p2 (AK Tryz.prog 22),[.var 9,.var 11],.push,[]⟩,
 ⟨none,.r1 (fun s a=>AA Tryz.prog s 76 a),[.loc 0],.push,[]⟩,
 ⟨none,.p1 some,[.var 11],(.set 4),[]⟩,
 ⟨none,.p1 some,[.loc 0],(.set 5),[]⟩]
def gY:List AB:=[
 ⟨none,.p1 some,[(.const (.int .u64 (0)))],(.set 6),[]⟩]
def gZ:List AB:=[
 ⟨none,.p1 some,[.var 1],(.set 13),[]⟩,
 ⟨none,.r (fun s l=>match l with | [x]=>BN Tryz.prog s 22 x | _=>none),[.var 13],(.set 14),[]⟩,
 ⟨none,.p1 some,[(.const (.int .i64 (0)))],(.set 15),[]⟩]
def Xt:List AB:=[
 ⟨none,.p2 (AS Tryz.prog .lss 3),[.var 15,.var 14],(.set 16),[]⟩]
def ge:List AB:=[
 ⟨none,.p2 (AK Tryz.prog 22),[.var 13,.var 15],.push,[]⟩,
 ⟨none,.r1 (fun s a=>AA Tryz.prog s 76 a),[.loc 0],.push,[]⟩,
 ⟨none,.p1 some,[.var 15],(.set 7),[]⟩,
 ⟨none,.p1 some,[.loc 0],(.set 8),[]⟩]
def gg:List AB:=[
 ⟨none,.p1 some,[.var 6],.push,[]⟩,
 ⟨none,.r1 (fun s x=>At Tryz.prog s 76 69 x),[.var 5],.push,[]⟩,
 ⟨none,.r1 (fun s x=>At Tryz.prog s 76 69 x),[.var 8],.push,[]⟩,
 ⟨none,.p2 (AS Tryz.prog .mul 69),[.loc 1,.loc 0],.push,[]⟩,
 ⟨none,.p2 (AS Tryz.prog .add 3),[.var 4,.var 7],.push,[]⟩,
 ⟨none,.p2 (AK Tryz.prog 22),[.var 3,.loc 0],.push,[]⟩,
 ⟨none,.r1 (fun s a=>AA Tryz.prog s 76 a),[.loc 0],.push,[]⟩,
 ⟨none,.r1 (fun s x=>At Tryz.prog s 76 69 x),[.loc 0],.push,[]⟩,
 ⟨none,.p2 (AS Tryz.prog .add 69),[.loc 4,.loc 0],.push,[]⟩,
 ⟨none,.p2 (AS Tryz.prog .add 69),[.loc 8,.loc 0],.push,[]⟩,
 ⟨none,.p1 some,[.loc 0],(.set 6),[]⟩]
def Xj:List AB:=[
 ⟨none,.p2 (AS Tryz.prog .add 3),[.var 4,.var 7],.push,[]⟩,
 ⟨none,.p2 (AS Tryz.prog .and 69),[(.var 6),(.const (.int .u64 (4294967295)))],.push,[]⟩,
 ⟨none,.r1 (fun s x=>At Tryz.prog s 69 76 x),[.loc 0],.push,[]⟩,
 ⟨none,.p2 (AK Tryz.prog 22),[.var 3,.loc 2],.push,[]⟩,
 ⟨none,.e (fun s=>Xy (fun a x=>Za (AM Tryz.prog s 76 a x))),[.loc 0,.loc 1],.push,[]⟩]
def Xk:List AB:=[
 ⟨none,.p1 some,[.var 6],.push,[]⟩,
 ⟨none,.p2 (AS Tryz.prog .shr 69),[(.loc 0),(.const (.int .u64 (32)))],.push,[]⟩,
 ⟨none,.p1 some,[.loc 0],(.set 6),[]⟩]
def Xm:List AB:=[
 ⟨none,.p2 (AS Tryz.prog .add 3),[(.var 15),(.const (.int .i64 (1)))],.push,[]⟩,
 ⟨none,.p1 some,[.loc 0],(.set 15),[]⟩]
def Kd:Ad:=(.seq (.ops Xt) (.seq (.cond (.var 16)
 .skip
 (.exit 2)) (.seq (.block 3 (.seq (.ops ge) (.seq (.ops gg) (.seq (.ops Xj) (.ops Xk))))) (.ops Xm))))
def Xp:List AB:=[
 ⟨none,.r (fun s l=>match l with | [x]=>BN Tryz.prog s 22 x | _=>none),[.var 1],.push,[]⟩,
 ⟨none,.p2 (AS Tryz.prog .add 3),[.var 4,.loc 0],.push,[]⟩,
 ⟨none,.r1 (fun s x=>At Tryz.prog s 69 76 x),[.var 6],.push,[]⟩,
 ⟨none,.p2 (AK Tryz.prog 22),[.var 3,.loc 1],.push,[]⟩,
 ⟨none,.e (fun s=>Xy (fun a x=>Za (AM Tryz.prog s 76 a x))),[.loc 0,.loc 1],.push,[]⟩]
def Xq:List AB:=[
 ⟨none,.p2 (AS Tryz.prog .add 3),[(.var 11),(.const (.int .i64 (1)))],.push,[]⟩,
 ⟨none,.p1 some,[.loc 0],(.set 11),[]⟩]
def Ke:Ad:=(.seq (.ops Xs) (.seq (.cond (.var 12)
 .skip
 (.exit 0)) (.seq (.block 1 (.seq (.ops gX) (.seq (.ops gY) (.seq (.seq (.ops gZ) (.block 2 (.loop Kd))) (.ops Xp))))) (.ops Xq))))
def Xr:List AB:=[
 ⟨none,.call 92,[.var 3],.push,[]⟩,
 ⟨none,.p1 some,[.loc 0],(.set 2),[]⟩]
def qT:Aq:=⟨2,17,(.seq (.ops gU) (.seq (.ops gV) (.seq (.seq (.ops gW) (.block 0 (.loop Ke))) (.seq (.ops Xr) .ret)))),[((.var 2),none)]⟩
theorem YX:AR Tryz.prog 92=some pK:=by kernel_rfl
theorem TN:AR Tryz.prog 136=some ar:=by kernel_rfl
theorem lE:AR Tryz.prog 48=some qQ:=by kernel_rfl
theorem lg:AR Tryz.prog 93=some qn:=by kernel_rfl
theorem bS:AR Tryz.prog 137=some nX:=by kernel_rfl
theorem lj:AR Tryz.prog 95=some qp:=by kernel_rfl
theorem lh:AR Tryz.prog 94=some qo:=by kernel_rfl
theorem lr:AR Tryz.prog 96=some qq:=by kernel_rfl
theorem ls:AR Tryz.prog 97=some qr:=by kernel_rfl
theorem lz:AR Tryz.prog 98=some qt:=by kernel_rfl
theorem lG:AR Tryz.prog 50=some qS:=by kernel_rfl
theorem lF:AR Tryz.prog 49=some qR:=by kernel_rfl
theorem lH:AR Tryz.prog 51=some qT:=by kernel_rfl
end
end Go.Proofs.YtjnkfbpadpmakaaGreatDoor.Am
set_option linter.unusedVariables false
namespace Go.Proofs.YtjnkfbpadpmakaaGreatDoor.Am
noncomputable section
def LB:Nat:=4294967296
theorem BG:0<LB:=by decide
def AH:List Nat→Nat
 | []=>0
 | x::l=>x+LB * AH l
def Bv(l:List Nat):Prop:=∀x∈l,x<LB
def AQ(n:Nat):List Nat:=if h:n=0 then []else n % LB::AQ (n / LB)
termination_by n
decreasing_by exact Nat.div_lt_self (by omega) (by decide)
theorem BJ:AQ 0=[]:=by rw[AQ];rfl
theorem En{n:Nat}(h:n≠0):AQ n=n % LB::AQ (n / LB):=by rw[AQ,dif_neg h]
theorem Bs{n:Nat}(h:n≠0):AQ n≠[]:=by rw[En h];exact fun e=>by cases e
theorem Ab(n:Nat):AH (AQ n)=n:=by
 induction n using Nat.strongRecOn with
 | _ n ih =>
  by_cases h:n=0
  ·rw[h,BJ];rfl
  ·rw[En h]
   show n % LB+LB * AH (AQ (n / LB))=n
   rw[ih (n / LB) (Nat.div_lt_self (by omega) (by decide))]
   exact tJ n LB
theorem AX(n:Nat):Bv (AQ n):=by
 induction n using Nat.strongRecOn with
 | _ n ih =>
  by_cases h:n=0
  ·rw[h,BJ];intro x hx;cases hx
  ·rw[En h]
   intro x hx
   rcases tN.1 hx with e | e
   ·rw[e];exact rU _ BG
   ·exact ih (n / LB) (Nat.div_lt_self (by omega) (by decide)) x e
def Du:List Nat→List Nat
 | []=>[]
 | x::l=>if x=0∧Du l=[]then []else x::Du l
theorem Bv.tail{x:Nat}{l:List Nat}(h:Bv (x::l)):Bv l:=fun y hy=>h y (rP _ hy)
theorem Br      : ∀ {l : List Nat}, Bv  l → Du    l = AQ    (AH   l)
  | [],_=>by rw[Du,AH,BJ]
  | x::l,h=>by
    have ih:=Br h.tail
    have hx:=h x rH
    unfold Du
    show(if x=0∧Du l=[]then []else x::Du l)=AQ (x+LB * AH l)
    by_cases hz:x+LB * AH l=0
    · have h1 : x = 0 := by omega
      have h2:AH l=0:=by
        have:LB * AH l=0:=by omega
        rcases Nat.mul_eq_zero.1 this with q | q
        · exact absurd q (by decide)
        · exact q
      rw[if_pos ⟨h1,by rw[ih,h2,BJ]⟩,hz,BJ]
    · rw[En hz]
      have hm:(x+LB * AH l) % LB=x:=by rw[Nat.add_mul_mod_self_left,rv hx]
      have hd:(x+LB * AH l) / LB=AH l:=by rw[Nat.add_mul_div_left _ _ BG,sc hx,rE]
      rw[hm,hd]
      rw[if_neg,ih]
      rintro⟨q1,q2⟩
      rw[ih]at q2
      by_cases hv:AH l=0
      · rw[q1,hv]at hz;exact hz rfl
      · exact Bs hv q2
theorem Bc:∀ (a b:List Nat),AH (a++b)=AH a+LB ^ a.length * AH b
 | [],b=>by simp[AH]
 | x::a,b=>by
  show x+LB * AH (a++b)=x+LB * AH a+LB ^ (a.length+1) * AH b
  rw[Bc a b,rY,sP,← rT,rM LB (LB ^ a.length)]
  omega
theorem Cp:∀ {l:List Nat},Bv l→AH l<LB ^ l.length
 | [],_=>by simp[AH]
 | x::l,h=>by
  have ih:=Cp h.tail
  have hx:=h x rH
  show x+LB * AH l<LB ^ (l.length+1)
  rw[sP,rM (LB ^ l.length) LB]
  have:LB * (AH l+1)≤LB * LB ^ l.length:=rf LB ih
  rw[rY]at this
  omega
theorem Uc{a b:Nat}(h:AQ a=AQ b):a=b:=by rw[← Ab a,h,Ab]
def Jx:List Nat→Nat→Nat→List Nat
 | [],_,c=>[c]
 | y::a,x,c=>(c+x * y) % LB::Jx a x ((c+x * y) / LB)
theorem J4:∀ (a:List Nat)(x c:Nat),AH (Jx a x c)=AH a * x+c
 | [],x,c=>by simp[Jx,AH]
 | y::a,x,c=>by
  have h1:=J4 a x ((c+x * y) / LB)
  have h2:=tJ (c+x * y) LB
  show(c+x * y) % LB+LB * AH (Jx a x ((c+x * y) / LB))=(y+LB * AH a) * x+c
  rw[h1,rY,rS,rM y x,rT]
  omega
def CA(a b:List Nat):List (Nat×Nat):=(List.range (max a.length b.length)).map fun i=>(a.getD i 0,b.getD i 0)
theorem HF(k:Nat):AH (List.replicate k 0)=0:=by
 induction k with
 | zero=>rfl
 | succ k ih =>
  rw[List.replicate_succ]
  show 0+LB * AH (List.replicate k 0)=0
  rw[ih];rfl
theorem ZW{a:List Nat}{n:Nat}(h:a.length≤n):(List.range n).map (fun i=>a.getD i 0)=a++List.replicate (n - a.length) 0:=by
 refine List.ext_getElem (by simp;omega) fun i h1 h2=>?_
 simp only[List.getElem_map,List.getElem_range]
 by_cases hi:i<a.length
 ·rw[List.getElem_append_left hi,tK,qy hi];rfl
 ·rw[List.getElem_append_right (by omega),List.getElem_replicate,tK,rI (by omega)];rfl
theorem Tv(a:List Nat)(k:Nat):AH (a++List.replicate k 0)=AH a:=by rw[Bc,HF];omega
theorem Tu(a b:List Nat):AH ((CA a b).map Prod.fst)=AH a:=by
 unfold CA
 rw[sk]
 have:=ZW (a:=a) (n:=max a.length b.length) (by omega)
 show AH ((List.range _).map fun i=>a.getD i 0)=_
 rw[this,Tv]
theorem Tw(a b:List Nat):AH ((CA a b).map Prod.snd)=AH b:=by
 unfold CA
 rw[sk]
 have:=ZW (a:=b) (n:=max a.length b.length) (by omega)
 show AH ((List.range _).map fun i=>b.getD i 0)=_
 rw[this,Tv]
def EH:List (Nat×Nat)→Nat→List Nat×Nat
 | [],c=>([],c)
 | p::P,c=>((p.1+p.2+c) % LB::(EH P ((p.1+p.2+c) / LB)).1,(EH P ((p.1+p.2+c) / LB)).2)
theorem KR:∀ (P:List (Nat×Nat))(c:Nat),AH (EH P c).1+LB ^ P.length * (EH P c).2=AH (P.map Prod.fst)+AH (P.map Prod.snd)+c
 | [],c=>by simp[EH,AH]
 | p::P,c=>by
  have h1:=KR P ((p.1+p.2+c) / LB)
  have h2:=tJ (p.1+p.2+c) LB
  show(p.1+p.2+c) % LB+LB * AH (EH P ((p.1+p.2+c) / LB)).1+LB ^ (P.length+1) * (EH P ((p.1+p.2+c) / LB)).2=p.1+LB * AH (P.map Prod.fst)+(p.2+LB * AH (P.map Prod.snd))+c
  have h3:LB ^ (P.length+1) * (EH P ((p.1+p.2+c) / LB)).2=LB * (LB ^ P.length * (EH P ((p.1+p.2+c) / LB)).2):=by rw[sP,rM (LB ^ P.length) LB,rT]
  rw[h3]
  have h4:=congrArg (LB * ·) h1
  simp only[rY]at h4
  omega
theorem H7:∀ (P:List (Nat×Nat))(c:Nat),(EH P c).1.length=P.length
 | [],_=>rfl
 | p::P,c=>by show(EH P _).1.length+1=P.length+1;rw[H7 P]
theorem Fh:∀ (P:List (Nat×Nat))(c:Nat),Bv (EH P c).1
 | [],_=>fun x hx=>by cases hx
 | p::P,c=>fun x hx=>by
  rcases tN.1 hx with e | e
  ·rw[e];exact rU _ BG
  ·exact Fh P _ x e
def FI:List (Nat×Nat)→Nat→List Nat×Nat
 | [],c=>([],c)
 | p::P,c=>((p.1+LB - p.2 - c) % LB::(FI P (if p.1<p.2+c then 1 else 0)).1,(FI P (if p.1<p.2+c then 1 else 0)).2)
theorem QE:∀ (P:List (Nat×Nat))(c:Nat),(∀p∈P,p.1<LB∧p.2<LB)→c≤1→AH (P.map Prod.fst)+LB ^ P.length * (FI P c).2=AH (FI P c).1+AH (P.map Prod.snd)+c
 | [],c,_,_=>by simp[FI,AH]
 | p::P,c,h,hc=>by
  obtain⟨hp1,hp2⟩:=h p rH
  have hB:LB=4294967296:=rfl
  generalize hd:(if p.1<p.2+c then 1 else 0)=d
  have HI:d≤1:=by rw[← hd];split<;>omega
  have h1:=QE P d (fun q hq=>h q (rP _ hq)) HI
  have h2:(p.1+LB - p.2 - c) % LB+p.2+c=p.1+LB * d:=by
   rw[← hd]
   rw[hB]at hp1 hp2 ⊢
   split<;>omega
  show p.1+LB * AH (P.map Prod.fst)+LB ^ (P.length+1) * (FI P (if p.1<p.2+c then 1 else 0)).2=(p.1+LB - p.2 - c) % LB+LB * AH (FI P (if p.1<p.2+c then 1 else 0)).1+(p.2+LB * AH (P.map Prod.snd))+c
  rw[hd]
  have h3:LB ^ (P.length+1) * (FI P d).2=LB * (LB ^ P.length * (FI P d).2):=by rw[sP,rM (LB ^ P.length) LB,rT]
  rw[h3]
  have h4:=congrArg (LB * ·) h1
  simp only[rY]at h4
  omega
theorem UV{U V T v1 v2 q g left top u2:Nat}{P:Nat}(hU:U<(top * LB+u2+1) * P)(hV:(v1 * LB+v2) * P≤V)(hq:q * V≤U)(hg:g * v1+left=top)(hgt:left * LB+u2<g * v2):q<g:=by
 rcases qz q g with h | h
 ·exact h
 ·exfalso
  have h1:g * V≤U:=rD (rF V h) hq
  have h2:g * ((v1 * LB+v2) * P)≤U:=rD (rf g hV) h1
  have h3:g * (v1 * LB+v2)=g * v1 * LB+g * v2:=by rw[rY,rT]
  have h4:top * LB=g * v1 * LB+left * LB:=by rw[← hg,rS]
  have h5:top * LB+u2+1≤g * (v1 * LB+v2):=by omega
  have h6:(top * LB+u2+1) * P≤g * (v1 * LB+v2) * P:=rF P h5
  rw[← rT]at h2
  omega
theorem R4{U V v1 v2 q g left top u2:Nat}{P:Nat}(hP:0<P)(hU:(top * LB+u2) * P≤U)(hV:V<(v1 * LB+v2+1) * P)(hq:U<(q+1) * V)(hg:g * v1+left=top)(hle:g * v2≤left * LB+u2)(hgB:g<LB)(hv1:1≤v1):g≤q+1:=by
 rcases qz (q+1) g with h | h
 ·exfalso
  have h0:q+1≤g - 1:=by omega
  have h1:U<(g - 1) * ((v1 * LB+v2+1) * P):=by
   have a1:(q+1) * V≤(g - 1) * V:=rF V h0
   have a2:(g - 1) * V≤(g - 1) * ((v1 * LB+v2+1) * P):=rf _ (Nat.le_of_lt hV)
   omega
  rw[← rT]at h1
  have h2:(top * LB+u2) * P<(g - 1) * (v1 * LB+v2+1) * P:=rX hU h1
  have h3:top * LB+u2<(g - 1) * (v1 * LB+v2+1):=sr h2
  have h4:top * LB=g * v1 * LB+left * LB:=by rw[← hg,rS]
  have h5:g * (v1 * LB+v2)=g * v1 * LB+g * v2:=by rw[rY,rT]
  have h6:(g - 1) * (v1 * LB+v2+1)=(g - 1) * (v1 * LB+v2)+(g - 1):=by rw[rY,rG]
  have h7:g * (v1 * LB+v2)=(g - 1) * (v1 * LB+v2)+(v1 * LB+v2):=by
   obtain⟨k,rfl⟩:∃k,g=k+1:=⟨g - 1,by omega⟩
   rw[tL,rK]
  have h8:LB≤v1 * LB:=tF LB hv1
  omega
 ·exact h
def CN(q:Nat):List (Nat×Nat)→Nat→Nat→List Nat×Nat×Nat
 | [],c,br=>([],c,br)
 | p::P,c,br =>
  let r:=CN q P ((c+q * p.2) / LB) (if p.1<(c+q * p.2) % LB+br then 1 else 0)
  ((p.1+LB - (c+q * p.2) % LB - br) % LB::r.1,r.2.1,r.2.2)
theorem M3(q:Nat):∀ (P:List (Nat×Nat))(c br:Nat),(∀p∈P,p.1<LB)→br≤1 →
  AH (P.map Prod.fst)+LB ^ P.length * ((CN q P c br).2.1+(CN q P c br).2.2)=AH (CN q P c br).1+q * AH (P.map Prod.snd)+c+br
 | [],c,br,_,_=>by simp[CN,AH]
 | p::P,c,br,h,hb=>by
  have hp:=h p rH
  have hB:LB=4294967296:=rfl
  generalize hc1:c+q * p.2=c1
  have hm:c1 % LB<LB:=rU _ BG
  have hdm:=tJ c1 LB
  generalize hd:(if p.1<c1 % LB+br then 1 else 0)=d
  have HI:d≤1:=by rw[← hd];split<;>omega
  have ih:=M3 q P (c1 / LB) d (fun q hq=>h q (rP _ hq)) HI
  have h2:(p.1+LB - c1 % LB - br) % LB+c1 % LB+br=p.1+LB * d:=by
   rw[← hd]
   generalize c1 % LB=m at hm
   rw[hB]at hp hm ⊢
   split<;>omega
  show p.1+LB * AH (P.map Prod.fst)+LB ^ (P.length+1) * ((CN q P ((c+q * p.2) / LB) (if p.1<(c+q * p.2) % LB+br then 1 else 0)).2.1+(CN q P ((c+q * p.2) / LB) (if p.1<(c+q * p.2) % LB+br then 1 else 0)).2.2)=(p.1+LB - (c+q * p.2) % LB - br) % LB+LB * AH (CN q P ((c+q * p.2) / LB) (if p.1<(c+q * p.2) % LB+br then 1 else 0)).1+q * (p.2+LB * AH (P.map Prod.snd))+c+br
  rw[hc1,hd]
  have h3:∀z,LB ^ (P.length+1) * z=LB * (LB ^ P.length * z):=fun z=>by rw[sP,rM (LB ^ P.length) LB,rT]
  rw[h3]
  have h4:=congrArg (LB * ·) ih
  simp only[rY]at h4 ⊢
  have h5:q * (LB * AH (P.map Prod.snd))=LB * (q * AH (P.map Prod.snd)):=by rw[Nat.mul_left_comm]
  rw[h5]
  omega
def FX(x:Nat):List (Nat×Nat)→Nat→List Nat×Nat
 | [],c=>([],c)
 | p::P,c=>((c+(x * p.1+p.2)) % LB::(FX x P ((c+(x * p.1+p.2)) / LB)).1,(FX x P ((c+(x * p.1+p.2)) / LB)).2)
theorem Ph(x:Nat):∀ (P:List (Nat×Nat))(c:Nat),AH (FX x P c).1+LB ^ P.length * (FX x P c).2=x * AH (P.map Prod.fst)+AH (P.map Prod.snd)+c
 | [],c=>by simp[FX,AH]
 | p::P,c=>by
  have ih:=Ph x P ((c+(x * p.1+p.2)) / LB)
  have hdm:=tJ (c+(x * p.1+p.2)) LB
  show(c+(x * p.1+p.2)) % LB+LB * AH (FX x P ((c+(x * p.1+p.2)) / LB)).1+LB ^ (P.length+1) * (FX x P ((c+(x * p.1+p.2)) / LB)).2=x * (p.1+LB * AH (P.map Prod.fst))+(p.2+LB * AH (P.map Prod.snd))+c
  have h3:∀z,LB ^ (P.length+1) * z=LB * (LB ^ P.length * z):=fun z=>by rw[sP,rM (LB ^ P.length) LB,rT]
  rw[h3]
  have h4:=congrArg (LB * ·) ih
  simp only[rY]at h4 ⊢
  have h5:x * (LB * AH (P.map Prod.fst))=LB * (x * AH (P.map Prod.fst)):=by rw[Nat.mul_left_comm]
  rw[h5]
  omega
theorem LJ(x:Nat):∀ (P:List (Nat×Nat))(c:Nat),(FX x P c).1.length=P.length
 | [],_=>rfl
 | p::P,c=>by show(FX x P _).1.length+1=P.length+1;rw[LJ x P]
theorem Hk{x:Nat}(hx:x<LB):∀ {P:List (Nat×Nat)}{c:Nat},(∀p∈P,p.1<LB∧p.2<LB)→c<LB→(FX x P c).2<LB∧Bv (FX x P c).1
 | [],c,_,hc=>⟨hc,fun y hy=>by cases hy⟩
 | p::P,c,h,hc=>by
  obtain⟨h1,h2⟩:=h p rH
  have hd:(c+(x * p.1+p.2)) / LB<LB:=by
   rw[sK BG]
   have:x * p.1≤(LB - 1) * (LB - 1):=rW (by omega) (by omega)
   have hB:LB=4294967296:=rfl
   rw[hB]at this hc h2 ⊢
   omega
  obtain⟨i1,i2⟩:=Hk (P:=P) (c:=(c+(x * p.1+p.2)) / LB) hx (fun r hr=>h r (rP _ hr)) hd
  refine⟨i1,fun y hy=>?_⟩
  rcases tN.1 hy with e | e
  ·rw[e];exact rU _ BG
  ·exact i2 y e
def BS(x:Nat):List Nat→List Nat×Nat
 | []=>([],0)
 | y::l=>(((BS x l).2 * LB+y) / x::(BS x l).1,((BS x l).2 * LB+y) % x)
theorem D9{x:Nat}(hx:0<x):∀l:List Nat,AH l=x * AH (BS x l).1+(BS x l).2∧(BS x l).2<x∧(BS x l).1.length=l.length
 | []=>⟨by simp[BS,AH],hx,rfl⟩
 | y::l=>by
  obtain⟨i1,i2,i3⟩:=D9 hx l
  have hdm:=tJ ((BS x l).2 * LB+y) x
  refine⟨?_,rU _ hx,by show(BS x l).1.length+1=l.length+1;rw[i3]⟩
  show y+LB * AH l=x * (((BS x l).2 * LB+y) / x+LB * AH (BS x l).1)+((BS x l).2 * LB+y) % x
  rw[i1]
  simp only[rY]
  have h5:x * (LB * AH (BS x l).1)=LB * (x * AH (BS x l).1):=by rw[Nat.mul_left_comm]
  have h6:LB * (BS x l).2=(BS x l).2 * LB:=rM _ _
  rw[h5,h6]
  omega
theorem F3{x:Nat}(hx:0<x):∀ {l:List Nat},Bv l→Bv (BS x l).1
 | [],_=>fun y hy=>by cases hy
 | y::l,h=>by
  obtain⟨i1,i2,i3⟩:=D9 hx l
  have hy:=h y rH
  intro z hz
  rcases tN.1 hz with e | e
  ·rw[e,sK hx]
   have:((BS x l).2+1) * LB≤x * LB:=rF LB i2
   rw[rK]at this
   rw[rM LB x]
   omega
  ·exact F3 hx h.tail z e
theorem U1{U V g D N br:Nat}(hV:0<V)(h1:U / V≤g)(h2:g≤U / V+1)(hD:D<N)(hbr:br≤1)(he:U+N * br=D+g * V):
  (br=0→g=U / V∧D=U % V)∧(br=1→g=U / V+1∧D+V=N+U % V):=by
 have hdm:=Nat.div_add_mod U V
 have hlt:=rU U hV
 have hc:V * (U / V)=U / V * V:=rM _ _
 generalize hq:U / V=q at *
 generalize U % V=r at *
 refine⟨fun h0=>?_,fun h0=>?_⟩
 ·subst h0
  rcases qz q g with h | h
  ·exfalso
   have:g=q+1:=by omega
   rw[this,rK]at he
   omega
  ·have:g=q:=by omega
   refine⟨this,?_⟩
   rw[this]at he
   omega
 ·subst h0
  rcases qz q g with h | h
  ·have:g=q+1:=by omega
   refine⟨this,?_⟩
   rw[this,rK]at he
   omega
  ·exfalso
   have:g=q:=by omega
   rw[this]at he
   omega
theorem RV{V Q R u:Nat}{W:Nat}(hV:0<V)(hR:R<V)(hW:W=Q * V+R):(W * LB+u) / V=Q * LB+(R * LB+u) / V∧(W * LB+u) % V=(R * LB+u) % V:=by
 have e:W * LB+u=(R * LB+u)+V * (Q * LB):=by
  rw[hW,rS,rT,Nat.mul_left_comm]
  omega
 rw[e]
 constructor
 ·rw[Nat.add_mul_div_left _ _ hV];omega
 ·rw[Nat.add_mul_mod_self_left]
end
end Go.Proofs.YtjnkfbpadpmakaaGreatDoor.Am
set_option linter.unusedVariables false
set_option linter.unusedSimpArgs false
namespace Go.Proofs.YtjnkfbpadpmakaaGreatDoor.Am
noncomputable section
theorem Bv.append{a b:List Nat}(ha:Bv a)(hb:Bv b):Bv (a++b):=fun x hx=>(List.mem_append.1 hx).elim (ha x) (hb x)
theorem IV(lo:List Nat)(x y:Nat):AH (lo++[x,y])=AH lo+LB ^ lo.length * (y * LB+x):=by
 rw[Bc]
 show _+_ * (x+LB * (y+LB * 0))=_
 rw[sT,rO,rM LB y,Nat.add_comm x]
theorem LF(lo:List Nat)(x y z:Nat):AH (lo++[x,y,z])=AH lo+LB ^ lo.length * ((z * LB+y) * LB+x):=by
 rw[Bc]
 show _+_ * (x+LB * (y+LB * (z+LB * 0)))=_
 have:x+LB * (y+LB * (z+LB * 0))=(z * LB+y) * LB+x:=by
  rw[sT,rO,rM LB z,Nat.add_comm y,rM LB,Nat.add_comm x]
 rw[this]
structure GE(plo vlo:List Nat)(u2 u1 u0 v2 v1:Nat)(g left:Nat):Prop where
 len:plo.length=vlo.length
 sp:Bv plo
 sv:Bv vlo
 b2:u2<LB
 b1:u1<LB
 c2:v2<LB
 c1:v1<LB
 big:LB≤2 * v1
 lt:AH (plo++[u2,u1,u0])<AH (vlo++[v2,v1]) * LB
 sum:g * v1+left=u0 * LB+u1
 low:AH (plo++[u2,u1,u0]) / AH (vlo++[v2,v1])≤g
section
variable{plo vlo:List Nat}{u2 u1 u0 v2 v1 g left:Nat}
theorem GE.v_pos(h:GE plo vlo u2 u1 u0 v2 v1 g left):0<AH (vlo++[v2,v1]):=by
 rw[IV]
 have h1:=h.big
 have:LB=4294967296:=rfl
 have h2:0<v1 * LB+v2:=by have:=sW (show 0<v1 by omega) BG;omega
 have:=sW (sQ BG (n:=vlo.length)) h2
 omega
theorem GE.bounds(h:GE plo vlo u2 u1 u0 v2 v1 g left):
  AH (plo++[u2,u1,u0])<((u0 * LB+u1) * LB+u2+1) * LB ^ vlo.length∧((u0 * LB+u1) * LB+u2) * LB ^ vlo.length≤AH (plo++[u2,u1,u0]) ∧
  AH (vlo++[v2,v1])<(v1 * LB+v2+1) * LB ^ vlo.length∧(v1 * LB+v2) * LB ^ vlo.length≤AH (vlo++[v2,v1]):=by
 have h1:=Cp h.sp
 have h2:=Cp h.sv
 rw[h.len]at h1
 rw[LF,IV,h.len]
 generalize LB ^ vlo.length=P at *
 generalize (u0 * LB+u1) * LB+u2=X
 generalize v1 * LB+v2=Y
 have e1:(X+1) * P=P * X+P:=by rw[rK,rM]
 have e2:(Y+1) * P=P * Y+P:=by rw[rK,rM]
 have e3:X * P=P * X:=rM _ _
 have e4:Y * P=P * Y:=rM _ _
 omega
theorem GE.start(len:plo.length=vlo.length)(sp:Bv plo)(sv:Bv vlo)(b2:u2<LB)(b1:u1<LB)(c2:v2<LB)(c1:v1<LB)(big:LB≤2 * v1)
  (lt:AH (plo++[u2,u1,u0])<AH (vlo++[v2,v1]) * LB):GE plo vlo u2 u1 u0 v2 v1 ((u0 * LB+u1) / v1) ((u0 * LB+u1) % v1):=by
 have hB:LB=4294967296:=rfl
 have hv1:0<v1:=by omega
 have hs:(u0 * LB+u1) / v1 * v1+(u0 * LB+u1) % v1=u0 * LB+u1:=by rw[rM];exact Nat.div_add_mod _ _
 have h0:GE plo vlo u2 u1 u0 v2 v1 (AH (plo++[u2,u1,u0]) / AH (vlo++[v2,v1])) (u0 * LB+u1 - AH (plo++[u2,u1,u0]) / AH (vlo++[v2,v1]) * v1)∨True:=.inr trivial
 refine⟨len,sp,sv,b2,b1,c2,c1,big,lt,hs,?_⟩
 have hP:0<LB ^ vlo.length:=sQ BG
 have h1:=Cp sp
 rw[len]at h1
 have hV:v1 * LB * LB ^ vlo.length≤AH (vlo++[v2,v1]):=by
  rw[IV,rM (v1 * LB),rY]
  omega
 rw[Nat.le_div_iff_mul_le hv1]
 generalize hq:AH (plo++[u2,u1,u0]) / AH (vlo++[v2,v1])=q
 have hqV:q * AH (vlo++[v2,v1])≤AH (plo++[u2,u1,u0]):=by rw[← hq];exact Nat.div_mul_le_self _ _
 have h2:q * (v1 * LB * LB ^ vlo.length)≤AH (plo++[u2,u1,u0]):=rD (rf q hV) hqV
 have h3:AH (plo++[u2,u1,u0])<((u0 * LB+u1) * LB+LB) * LB ^ vlo.length:=by
  rw[LF,len]
  have h4:(u0 * LB+u1) * LB+u2+1≤(u0 * LB+u1) * LB+LB:=by omega
  have h5:=rF (LB ^ vlo.length) h4
  rw[rK,rM _ (LB ^ vlo.length)]at h5
  omega
 have h6:q * v1 * LB * LB ^ vlo.length<((u0 * LB+u1) * LB+LB) * LB ^ vlo.length:=by
  have e:q * (v1 * LB * LB ^ vlo.length)=q * v1 * LB * LB ^ vlo.length:=by rw[rT,rT,rT]
  omega
 have h7:q * v1 * LB<(u0 * LB+u1) * LB+LB:=sr h6
 have h8:q * v1 * LB<(u0 * LB+u1+1) * LB:=by rw[rK];exact h7
 have:=sr h8
 omega
theorem GE.dec(h:GE plo vlo u2 u1 u0 v2 v1 g left)(hc:LB≤g∨left * LB+u2<g * v2):1≤g∧GE plo vlo u2 u1 u0 v2 v1 (g - 1) (left+v1):=by
 obtain⟨b1,b2,b3,b4⟩:=h.bounds
 have hlt:AH (plo++[u2,u1,u0]) / AH (vlo++[v2,v1])<g:=by
  rcases hc with hc | hc
  ·exact rA ((sK h.v_pos).2 (by rw[rM];exact h.lt)) hc
  ·exact UV (T:=0) b1 b4 (Nat.div_mul_le_self _ _) h.sum hc
 have hle:AH (plo++[u2,u1,u0]) / AH (vlo++[v2,v1])≤g - 1:=Nat.le_sub_one_of_lt hlt
 have hg1:1≤g:=rX (rB _) hlt
 refine⟨hg1,⟨h.len,h.sp,h.sv,h.b2,h.b1,h.c2,h.c1,h.big,h.lt,?_,hle⟩⟩
 clear hle hlt b1 b2 b3 b4
 obtain⟨k,rfl⟩:∃k,g=k+1:=⟨g - 1,by omega⟩
 have:=h.sum
 rw[rK]at this
 rw[tL]
 omega
theorem GE.done(h:GE plo vlo u2 u1 u0 v2 v1 g left)(hg:g<LB)(hc:g * v2≤left * LB+u2):g≤AH (plo++[u2,u1,u0]) / AH (vlo++[v2,v1])+1:=by
 obtain⟨b1,b2,b3,b4⟩:=h.bounds
 have hq:AH (plo++[u2,u1,u0])<(AH (plo++[u2,u1,u0]) / AH (vlo++[v2,v1])+1) * AH (vlo++[v2,v1]):=by
  have:=Nat.div_add_mod (AH (plo++[u2,u1,u0])) (AH (vlo++[v2,v1]))
  have h2:=rU (AH (plo++[u2,u1,u0])) h.v_pos
  rw[rK,rM]
  omega
 have hv1:1≤v1:=by have:=h.big;have:LB=4294967296:=rfl;omega
 exact R4 (sQ BG) b2 b3 hq h.sum hc hg hv1
theorem GE.top(h:GE plo vlo u2 u1 u0 v2 v1 g left):u0≤v1:=by
 obtain⟨b1,b2,b3,b4⟩:=h.bounds
 have hP:0<LB ^ vlo.length:=sQ BG
 have h1:((u0 * LB+u1) * LB+u2) * LB ^ vlo.length<(v1 * LB+v2+1) * LB ^ vlo.length * LB:=by
  have:=h.lt
  have h2:AH (vlo++[v2,v1]) * LB≤(v1 * LB+v2+1) * LB ^ vlo.length * LB:=rF LB (Nat.le_of_lt b3)
  omega
 have h3:(v1 * LB+v2+1) * LB ^ vlo.length * LB=(v1 * LB+v2+1) * LB * LB ^ vlo.length:=by rw[rT,rM (LB ^ _),← rT]
 rw[h3]at h1
 have h4:=sr h1
 have h5:(v1 * LB+v2+1) * LB≤(v1+1) * LB * LB:=rF LB (by rw[rK];have:=h.c2;omega)
 have h6:u0 * LB * LB≤(u0 * LB+u1) * LB:=rF LB (by omega)
 have h7:u0 * LB * LB<(v1+1) * LB * LB:=by omega
 have h8:=sr (sr h7)
 omega
end
theorem Io{q:Nat}(hq:q<LB){x:Nat}:∀ {P:List (Nat×Nat)}{c br:Nat},(∀p∈P,p.2<LB)→c<LB→(CN q (P++[(x,0)]) c br).2.1=0
 | [],c,br,_,hc=>by
  show(c+q * 0) / LB=0
  rw[sT,rO,sc hc]
 | p::P,c,br,h,hc=>by
  have hp:=h p rH
  have hd:(c+q * p.2) / LB<LB:=by
   rw[sK BG]
   have:q * p.2≤(LB - 1) * (LB - 1):=rW (by omega) (by omega)
   have hB:LB=4294967296:=rfl
   rw[hB]at this hc ⊢
   omega
  exact Io (P:=P) (c:=(c+q * p.2) / LB) hq (fun r hr=>h r (rP _ hr)) hd
theorem Gt(q:Nat):∀ (P:List (Nat×Nat))(c br:Nat),Bv (CN q P c br).1
 | [],_,_=>fun x hx=>by cases hx
 | p::P,c,br=>fun x hx=>by
  rcases tN.1 hx with e | e
  ·rw[e];exact rU _ BG
  ·exact Gt q P _ _ x e
theorem JN(q:Nat):∀ (P:List (Nat×Nat))(c br:Nat),(CN q P c br).1.length=P.length
 | [],_,_=>rfl
 | p::P,c,br=>by show(CN q P _ _).1.length+1=P.length+1;rw[JN q P]
theorem QG(q:Nat):∀ (P:List (Nat×Nat))(c br:Nat),br≤1→(CN q P c br).2.2≤1
 | [],_,_,h=>h
 | p::P,c,br,h=>QG q P _ _ (by split<;>omega)
theorem OO{a b:List Nat}(h:a.length=b.length):(a.zip b).map Prod.fst=a:=by
 rw[List.map_fst_zip];omega
theorem OP{a b:List Nat}(h:a.length=b.length):(a.zip b).map Prod.snd=b:=by
 rw[List.map_snd_zip];omega
theorem Mf(v:List Nat):AH (v++[0])=AH v:=by
 rw[Bc]
 show _+_ * (0+LB * 0)=_
 simp
theorem Ym       {p v : List Nat} (hl : p.length = v.length + 1) (hp : Bv  p) (hv : Bv  v) (hV : 0 < AH   v) {g : Nat} (h1 : AH   p / AH   v ≤ g) (h2 : g ≤ AH   p / AH   v + 1) (hg : g < LB) :
    ((CN g (p.zip (v++[0])) 0 0).2.2=0→g=AH p / AH v∧AH (CN g (p.zip (v++[0])) 0 0).1=AH p % AH v) ∧
    ((CN g (p.zip (v++[0])) 0 0).2.2≠0→g=AH p / AH v+1∧AH (EH ((CN g (p.zip (v++[0])) 0 0).1.zip (v++[0])) 0).1=AH p % AH v):=by
  have hlz:p.length=(v++[0]).length:=by rw[rL];exact hl
  have hsm:∀q∈p.zip (v++[0]),q.1<LB∧q.2<LB:=fun q hq=>by
    have hz:=List.of_mem_zip (a:=q.1) (b:=q.2) hq
    refine⟨hp _ hz.1,?_⟩
    rcases List.mem_append.1 hz.2 with h | h
    · exact hv _ h
    · rw[List.mem_singleton.1 h];exact BG
  have hc:(CN g (p.zip (v++[0])) 0 0).2.1=0:=by
    obtain⟨pl,x,rfl⟩:∃pl x,p=pl++[x]:=by
      rcases List.eq_nil_or_concat p with h | ⟨pl,x,h⟩
      · rw[h]at hl;simp at hl
      · exact⟨pl,x,by rw[h];simp⟩
    have hpl:pl.length=v.length:=by rw[rL]at hl;simpa using hl
    rw[List.zip_append hpl]
    exact Io hg (fun q hq=>hv _ (List.of_mem_zip (a:=q.1) (b:=q.2) hq).2) BG
  have hval:=M3 g (p.zip (v++[0])) 0 0 (fun q hq=>(hsm q hq).1) (rB _)
  have hbr:=QG g (p.zip (v++[0])) 0 0 (rB _)
  have hlen:(p.zip (v++[0])).length=v.length+1:=by rw[su,← hlz,tM,hl]
  have hDl:=JN g (p.zip (v++[0])) 0 0
  have hDs:=Gt g (p.zip (v++[0])) 0 0
  rw[OO hlz,OP hlz,Mf,hc,hlen]at hval
  generalize CN g (p.zip (v++[0])) 0 0=T at *
  obtain⟨D,c,br⟩:=T
  simp only at *
  rw[hlen]at hDl
  have hD:=Cp hDs
  rw[hDl]at hD
  have hVl:=Cp hv
  have hPow:LB ^ v.length≤LB ^ (v.length+1):=sn BG (sG _)
  have key:=U1 (U:=AH p) (V:=AH v) (g:=g) (D:=AH D) (N:=LB ^ (v.length+1)) (br:=br) hV h1 h2 hD hbr (by
    generalize g * AH v=z at *
    generalize LB ^ (v.length+1)=N at *
    rw[rE]at hval
    omega)
  refine⟨fun h=>key.1 h,fun h=>?_⟩
  have hb1:br=1:=by omega
  obtain⟨k1,k2⟩:=key.2 hb1
  refine⟨k1,?_⟩
  have hlz2:D.length=(v++[0]).length:=by rw[rL,hDl];rfl
  have ha:=KR (D.zip (v++[0])) 0
  rw[OO hlz2,OP hlz2,Mf,su,← hlz2,tM,hDl]at ha
  have hs:=Cp (Fh (D.zip (v++[0])) 0)
  rw[H7,su,← hlz2,tM,hDl]at hs
  have hr:=rU (AH p) hV
  generalize AH (EH (D.zip (v++[0])) 0).1=O at *
  generalize (EH (D.zip (v++[0])) 0).2=c2 at *
  generalize hN:LB ^ (v.length+1)=N at *
  have hc2:c2=1:=by
    rcases qz c2 1 with h | h
    · have:c2=0:=by omega
      rw[this,sT]at ha
      omega
    · rcases qz           1 c2 with h' | h'
      · have:=rf N h'
        omega
      · omega
  rw[hc2,rG]at ha
  omega
structure QS(u0 v cu qs:List Nat)(i:Nat):Prop where
 len:cu.length=u0.length
 low:cu.take i=u0.take i
 sm:Bv cu
 rem:AH (cu.drop i)=AH (u0.drop i) % AH v
 qsm:Bv qs
 quo:AH (qs.drop i)=AH (u0.drop i) / AH v
theorem FV{l:List Nat}{i x:Nat}(h:l[i]? = some x):AH (l.drop i)=x+LB * AH (l.drop (i+1)):=by
 have hi:i<l.length:=by
  rcases qz i l.length with h' | h'
  ·exact h'
  ·rw[rI h']at h;cases h
 rw[sD hi]
 have:l[i]=x:=by rw[qy hi]at h;exact Option.some.inj h
 rw[this];rfl
theorem Bv.drop{l:List Nat}(h:Bv l)(i:Nat):Bv (l.drop i):=fun x hx=>h x (List.mem_of_mem_drop hx)
theorem Bv.take{l:List Nat}(h:Bv l)(i:Nat):Bv (l.take i):=fun x hx=>h x (List.mem_of_mem_take hx)
theorem QS.part{u0 v cu qs:List Nat}{i:Nat}(h:QS u0 v cu qs (i+1))(hv:Bv v)(hV:0<AH v)(hi:i+v.length+1≤cu.length):
  AH ((cu.drop i).take (v.length+1))=AH (cu.drop i)∧AH (cu.drop i)<AH v * LB∧AH (cu.drop (i+v.length+1))=0:=by
 have hx:cu[i]? = some cu[i]:=qy (by omega)
 generalize cu[i]=x at hx
 have hxs:=h.sm x (rQ hx)
 have e1:=FV hx
 have hr:=rU (AH (u0.drop (i+1))) hV
 rw[← h.rem]at hr
 have hVl:=Cp hv
 have hsplit:cu.drop (i+1)=(cu.drop (i+1)).take v.length++cu.drop (i+v.length+1):=by
  have:=(sw v.length (cu.drop (i+1))).symm
  rw[sR]at this
  rw[show i+v.length+1=i+1+v.length by omega]
  exact this
 have hval:=congrArg AH hsplit
 rw[Bc]at hval
 have htl:((cu.drop (i+1)).take v.length).length=v.length:=by rw[rR,sC];omega
 rw[htl]at hval
 have hz:AH (cu.drop (i+v.length+1))=0:=by
  rcases sE (AH (cu.drop (i+v.length+1)))with h0 | h0
  ·exact h0
  ·exfalso
   have:=rf (LB ^ v.length) h0
   omega
 refine⟨?_,?_,hz⟩
 ·rw[e1]
  have hd:cu.drop i=x::cu.drop (i+1):=by
   rw[sD (show i<cu.length by omega)]
   have:cu[i]=x:=by rw[qy (by omega)]at hx;exact Option.some.inj hx
   rw[this]
  rw[hd,List.take_succ_cons]
  show x+LB * _=_
  rw[hval,hz]
  simp
 ·rw[e1]
  have:LB * (AH (cu.drop (i+1))+1)≤LB * AH v:=rf LB hr
  rw[rM (AH v)]
  rw[rY]at this
  omega
theorem QS.step{u0 v cu qs:List Nat}{i:Nat}(h:QS u0 v cu qs (i+1))(hv:Bv v)(hV:0<AH v)(hi:i+v.length+1≤cu.length)(hq:i<qs.length){D:List Nat}(hD:D.length=v.length+1)(hDs:Bv D)
  (hDv:AH D=AH ((cu.drop i).take (v.length+1)) % AH v) {x:Nat} (hx:x=AH ((cu.drop i).take (v.length+1)) / AH v):QS u0 v (cu.take i++D++cu.drop (i+v.length+1)) (qs.set i x) i:=by
 obtain⟨p1,p2,p3⟩:=h.part hv hV hi
 rw[p1]at hDv hx
 have hu:cu[i]? = some cu[i]:=qy (by omega)
 generalize cu[i]=y at hu
 have hys:=h.sm y (rQ hu)
 have hu0:u0[i]? = some y:=by
  have:=congrArg (fun l=>l[i]?) h.low
  simp only[sS (show i<i+1 by omega)]at this
  rw[← this];exact hu
 have e1:=FV hu
 have e2:=FV hu0
 have hR:=rU (AH (u0.drop (i+1))) hV
 have hW:AH (u0.drop (i+1))=AH (u0.drop (i+1)) / AH v * AH v+AH (u0.drop (i+1)) % AH v:=by
  have:=Nat.div_add_mod (AH (u0.drop (i+1))) (AH v)
  rw[rM]at this
  exact this.symm
 have hds:=RV (V:=AH v) (Q:=AH (u0.drop (i+1)) / AH v) (R:=AH (u0.drop (i+1)) % AH v) (u:=y) hV hR hW
 rw[← h.rem]at hds
 have e3:AH (u0.drop (i+1)) * LB+y=AH (u0.drop i):=by rw[e2,rM];omega
 have e4:AH (cu.drop (i+1)) * LB+y=AH (cu.drop i):=by rw[e1,rM];omega
 rw[e3,e4]at hds
 have htl:(cu.take i).length=i:=by rw[rR];omega
 have hxs:x<LB:=by
  rw[hx,sK hV,rM]
  exact p2
 refine⟨?_,?_,?_,?_,?_,?_⟩
 ·simp only[rL,rR,sC,hD]
  have:=h.len
  omega
 ·rw[rZ,tR htl]
  have:=congrArg (List.take i) h.low
  rw[List.take_take,List.take_take,so (sG i)]at this
  exact this
 ·exact((h.sm.take i).append hDs).append (h.sm.drop _)
 ·rw[rZ,tS htl,Bc,p3,sT,rO,hDv]
  exact hds.2.symm
 ·intro z hz
  rcases List.mem_or_eq_of_mem_set hz with h' | h'
  ·exact h.qsm z h'
  ·rw[h'];exact hxs
 ·have hqi:(qs.set i x)[i]? = some x:=by rw[List.getElem?_set_self hq]
  rw[FV hqi]
  have:(qs.set i x).drop (i+1)=qs.drop (i+1):=by
   rw[List.drop_set]
   simp
  rw[this,h.quo,hx,hds.1,rM LB]
  omega
theorem IC(x:Nat):∀ (l:List Nat)(c:Nat),(Jx l x c).length=l.length+1
 | [],_=>rfl
 | y::l,c=>by show(Jx l x _).length+1=_;rw[IC x l];rfl
theorem FP{x:Nat}(hx:x<LB):∀ {l:List Nat}{c:Nat},Bv l→c<LB→Bv (Jx l x c)
  | [],c,_,hc=>fun z hz=>by rw[List.mem_singleton.1 hz];exact hc
  | y::l,c,hl,hc=>fun z hz=>by
    have hy:=hl y rH
    rcases tN.1 hz with e | e
    · rw[e];exact rU _ BG
    · refine FP        hx hl.tail ?_ z e
      rw[sK BG]
      have:x * y≤(LB - 1) * (LB - 1):=rW (by omega) (by omega)
      have hB:LB=4294967296:=rfl
      rw[hB]at this hc ⊢
      omega
theorem FA{l:List Nat}{n:Nat}(h:l.length=n+1):∃lo t,l=lo++[t]∧lo.length=n:=by
 refine⟨l.take n,l[n]'(by omega),?_,by rw[rR];omega⟩
 have h1:=(sw n l).symm
 rw[sD (by omega),rl (by omega)]at h1
 exact h1
theorem De(lo:List Nat)(t:Nat):AH (lo++[t])=AH lo+LB ^ lo.length * t:=by
 rw[Bc]
 show _+_ * (t+LB * 0)=_
 simp
theorem mP{lo:List Nat}{bt n:Nat}(hs:Bv (lo++[bt]))(hn:n≤31)(h1:2147483648≤bt * 2 ^ n)(h2:bt * 2 ^ n<4294967296):
  AH ((Jx (lo++[bt]) (2 ^ n) 0).take (lo.length+1))=AH (lo++[bt]) * 2 ^ n∧∃vlo v1,(Jx (lo++[bt]) (2 ^ n) 0).take (lo.length+1)=vlo++[v1]∧vlo.length=lo.length∧2147483648≤v1:=by
 have hLB:LB=4294967296:=rfl
 have e32:(2:Nat) ^ 32=4294967296:=by decide
 have h2n:0<2 ^ n:=sQ (by decide)
 have hn32:2 ^ n<LB:=by
  rw[hLB,← e32]
  exact Nat.pow_lt_pow_right (by decide) (by omega)
 have hbt:(bt+1) * 2 ^ n≤4294967296:=by
  have e:(4294967296:Nat)=2 ^ (32 - n) * 2 ^ n:=by rw[← Nat.pow_add,show 32 - n+n=32 by omega]
  rw[e]at h2 ⊢
  exact rF _ (sr h2)
 have hval:=J4 (lo++[bt]) (2 ^ n) 0
 have hlen:=IC (2 ^ n) (lo++[bt]) 0
 have hsm:=FP hn32 hs (show 0<LB from BG)
 have hll:(lo++[bt]).length=lo.length+1:=by simp
 rw[hll]at hlen
 generalize Jx (lo++[bt]) (2 ^ n) 0=W at *
 obtain⟨V,t,rfl,hV⟩:=FA hlen
 have hlo:Bv lo:=fun x hx=>hs x (tA _ hx)
 have hvl:=Cp hlo
 have hsV:Bv V:=fun x hx=>hsm x (tA _ hx)
 rw[De,hV]at hval
 have hup:AH (lo++[bt]) * 2 ^ n<LB ^ (lo.length+1):=by
  rw[De]
  have g1:AH lo+LB ^ lo.length * bt<LB ^ lo.length * (bt+1):=by rw[rY,rG];omega
  have g2:(AH lo+LB ^ lo.length * bt) * 2 ^ n<LB ^ lo.length * (bt+1) * 2 ^ n:=tV g1 h2n
  have g3:LB ^ lo.length * (bt+1) * 2 ^ n≤LB ^ (lo.length+1):=by
   rw[sP,rT]
   exact rf _ (by rw[hLB];exact hbt)
  omega
 have ht:t=0:=by
  rcases sE t with h | h
  ·exact h
  ·exfalso
   have:=rf (LB ^ (lo.length+1)) h
   omega
 have htk:(V++[t]).take (lo.length+1)=V:=by rw[← hV];simp
 rw[htk]
 rw[ht,sT,rO,rO]at hval
 refine⟨hval,?_⟩
 obtain⟨vlo,v1,rfl,hvlo⟩:=FA hV
 refine⟨vlo,v1,rfl,hvlo,?_⟩
 have hvs:Bv vlo:=fun x hx=>hsV x (tA _ hx)
 have hvv:=Cp hvs
 rw[De,hvlo,De]at hval
 rw[hvlo]at hvv
 have g4:LB ^ lo.length * 2147483648≤(AH lo+LB ^ lo.length * bt) * 2 ^ n:=by
  rw[rS,rT]
  exact rD (rf _ h1) (Nat.le_add_left _ _)
 rcases qz v1 2147483648 with h | h
 ·exfalso
  have:=rf (LB ^ lo.length) (show v1+1≤2147483648 from h)
  rw[rY,rG]at this
  omega
 ·exact h
theorem mO{la vlo:List Nat}{v1 n:Nat}(hs:Bv la)(hn:n≤31)(hv1:2147483648≤v1)(hlen:vlo.length+1≤la.length):
  AH ((Jx la (2 ^ n) 0).drop (la.length - vlo.length))<AH (vlo++[v1]):=by
 have hLB:LB=4294967296:=rfl
 have e31:(2:Nat) ^ 31=2147483648:=by decide
 have h2n:2 ^ n≤2147483648:=by rw[← e31];exact sn (by decide) hn
 have hval:=J4 la (2 ^ n) 0
 have hl:=IC (2 ^ n) la 0
 have hsm:=FP (show 2 ^ n<LB by rw[hLB];omega) hs (show 0<LB from BG)
 generalize Jx la (2 ^ n) 0=W at *
 obtain⟨U,t,rfl,hU⟩:=FA hl
 rw[De,hU,rO]at hval
 have hA:=Cp hs
 have ht:t<2 ^ n:=by
  rcases qz t (2 ^ n)with h | h
  ·exact h
  ·exfalso
   have g1:=rf (LB ^ la.length) h
   have g2:AH la * 2 ^ n<LB ^ la.length * 2 ^ n:=tV hA (sQ (by decide))
   omega
 have hd:(U++[t]).drop (la.length - vlo.length)=U.drop (la.length - vlo.length)++[t]:=by
  rw[List.drop_append_of_le_length (by omega)]
 rw[hd,De,De]
 have hsU:Bv U:=fun x hx=>hsm x (tA _ hx)
 have h3:=Cp (hsU.drop (la.length - vlo.length))
 have hdl:(U.drop (la.length - vlo.length)).length=vlo.length:=by rw[sC];omega
 rw[hdl]at h3 ⊢
 have g1:LB ^ vlo.length * (t+1)≤LB ^ vlo.length * v1:=rf _ (by omega)
 rw[rY,rG]at g1
 omega
theorem Gx:∀ (l w:List Nat),(l.take w.length).zip w=l.zip w
 | [],w=>by simp
 | _::_,[]=>by simp
 | x::l,y::w=>by
  rw[rn,List.take_succ_cons,tB,tB,Gx l w]
theorem aL{d w:List Nat}(h:d.length=w.length)(x:List Nat):(d++x).zip w=d.zip w:=by
 have:=Gx (d++x) w
 rw[← h,List.take_left]at this
 exact this.symm
end
end Go.Proofs.YtjnkfbpadpmakaaGreatDoor.Am
set_option linter.unusedVariables false
set_option linter.unusedSimpArgs false
set_option maxRecDepth 12000
namespace Go.Proofs.YtjnkfbpadpmakaaGreatDoor.Am
open Go Go.Proofs
noncomputable section
structure GoodN(E:CR):Prop where
 P:E.P=Tryz.prog
 nat:∀ (f:FuncId) (xs:List AV) (s:AE),f ∉ [78,15]→E.nat f xs s=none
theorem GoodN.go{E:CR}(hE:GoodN E){f:FuncId}{xs:List AV}{cf:Aq}{K:AV→AE→Prop}{s:AE}(hf:AR Tryz.prog f=some cf)(hne:f ∉ [78,15])(ha:xs.length=cf.na)(h:Qa E none cf.body (Ends Tryz.prog cf.results K) (Ql xs cf.nv) [] s):WF E f xs K s:=
 WF.body' (hE.nat f xs s hne) (by rw[hE.P];exact hf) ha (by rw[hE.P];exact h)
def NE(s:AE)(a:Option (Nat×Nat))(cap:Option Nat)(n:Nat):Prop:=
 (∃c,cap=some c∧n≤c∧(a=none→c=0))∨(cap=none∧∃i o r,a=some (i,o)∧i<s.next∧s.heap.get i=some (.row r)∧r.sz=1∧o+n≤r.n)
theorem NE.old{s s':AE}{a:Option (Nat×Nat)}{cap:Option Nat}{n:Nat}(h:NE s a cap n)(k:Ae s.next s s'):NE s' a cap n:=by
 rcases h with h | ⟨h1,i,o,r,h3,h4,h5,h6⟩
 ·exact .inl h
 ·exact .inr ⟨h1,i,o,r,h3,rA h4 k.1,by rw[k.2 i h4];exact h5,h6⟩
theorem NE.less{s:AE}{a:Option (Nat×Nat)}{cap:Option Nat}{n k:Nat}(h:NE s a cap n)(hk:k≤n):NE s a cap k:=by
 rcases h with⟨c,h1,h2,h3⟩ | ⟨h1,i,o,r,h3,h4,h5,h6,h7⟩
 ·exact .inl ⟨c,h1,by omega,h3⟩
 ·exact .inr ⟨h1,i,o,r,h3,h4,h5,h6,by omega⟩
theorem PG{t e:TypeId}(ht:Tryz.prog.underlying t=some (.slice e))(hs:A7 Tryz.prog e=some 1){s:AE}{a:Option (Nat×Nat)}{cap:Option Nat}{n k:Nat}(hc:NE s a cap n)(hk:k≤n):
    BK Tryz.prog t false true false s [.slice a n cap,iv (k:Int)]=some (.slice a k cap):=by
  show Bn Tryz.prog s t (.slice a n cap) none (some (iv (k:Int))) none=_
  rcases hc with⟨c,rfl,h1,h2⟩ | ⟨rfl,i,o,r,rfl,h3,h4,h5,h6⟩
  · have hb:Be (iv (k:Int)) c=some k:=by simp[Be,GC,AL,Cn (show k≤c by omega),D3]
    cases a with
    | none=>simp[Bn,ht,hs,hb]
    | some io=>obtain⟨i,o⟩:=io;cases hb2:Nat.beq c 0<;>simp[Bn,ht,hs,hb,hb2]
  · have hrow : rowAt s i = some r := by unfold rowAt; rw [h4]
    have hb:Be (iv (k:Int)) ((r.n - o) / 1)=some k:=by simp[Be,GC,AL,Cn (show k≤r.n - o by omega),D3]
    have hsz:Nat.beq 1 r.sz=true:=Fi h5.symm
    simp only[Bn,ht,hs,hrow,hsz,AL,hb,Cn (show o≤r.n by omega),show Nat.beq 1 0=false from rfl,Option.bind_some,Bool.true_and,Bool.and_true,Bool.not_false,cond_true]
    simp
def C7(s:AE)(v:AV)(l:List Nat):Prop:=∃a cap,v=.slice a l.length cap∧NE s a cap l.length∧AZ s.next s a (us l)
theorem C7.old{s s':AE}{v:AV}{l:List Nat}(h:C7 s v l)(k:Ae s.next s s'):C7 s' v l:=by
 obtain⟨a,cap,h1,h2,h3⟩:=h
 exact⟨a,cap,h1,h2.old k,(h3.old k (qw _)).mono k.1⟩
theorem C7.at{s:AE}{a:Option (Nat×Nat)}{l:List Nat}(h:AZ s.next s a (us l)){k x:Nat}(hk:l[k]? = some x):∃i o,a=some (i,o)∧i<s.next∧Cm s i (o+k)=some (BV x):=h k _ (Cy hk)
theorem C7.take{s:AE}{a:Option (Nat×Nat)}{cap:Option Nat}{l:List Nat}(h2:NE s a cap l.length)(h3:AZ s.next s a (us l)){k:Nat}(hk:k≤l.length):C7 s (.slice a k cap) (l.take k):=by
 have hl:(l.take k).length=k:=by rw[rR];omega
 refine⟨a,cap,by rw[hl],by rw[hl];exact h2.less hk,fun j u hu=>?_⟩
 rw[Tr,sq]at hu
 split at hu
 ·exact h3 j u hu
 ·cases hu
def ov(s:AE)(v:AV)(l:List Nat):Prop:=∃i,v=.slice (some (i,0)) l.length none∧i<s.next∧Cu s i (us l) none
def NR(b:Nat)(s:AE)(v:AV)(l:List Nat):Prop:=∃O,CO 76 s v l.length 1 (us l) O∧(∀j∈O,b≤j)∧(∀j,CH v=some j→b≤j)∧(l≠[]→ov s v l)
theorem CO.n32{s:AE}{v:AV}{l O:List Nat}(h1:CO 76 s v l.length 1 (us l) O):C7 s v l:=by
 obtain⟨a,cap,rfl,hc⟩:=h1.cells
 refine⟨a,cap,rfl,?_,hc⟩
 rcases h1 with⟨a',e,_,_,h4,_⟩ | ⟨i,p,e,h2,_⟩
 ·injection e with e1 e2 e3
  subst e1;subst e3
  exact .inl ⟨_,rfl,qw _,h4⟩
 ·injection e with e1 e2 e3
  subst e1;subst e3
  rcases h2.ex with⟨e',_⟩ | ⟨_,_,k2,_,r,k4,k5,_,_,k8,_⟩
  ·cases e'
  ·exact .inr ⟨rfl,i,0,r,rfl,k2,k4,k8,by rw[k5.1,CY];omega⟩
theorem NR.n32{b:Nat}{s:AE}{v:AV}{l:List Nat}(h:NR b s v l):C7 s v l:=by
 obtain⟨O,h1,_,_⟩:=h
 exact h1.n32
theorem NR.mono{b b':Nat}{s:AE}{v:AV}{l:List Nat}(h:NR b s v l)(k:b'≤b):NR b' s v l:=by
 obtain⟨O,h1,h2,h3,h4⟩:=h
 exact⟨O,h1,fun j hj=>rD k (h2 j hj),fun j hj=>rD k (h3 j hj),h4⟩
theorem NR.nil(b:Nat)(s:AE):NR b s (.slice none 0 (some 0)) []:=⟨[],CO.nil s 1,fun j hj=>(by cases hj),fun j hj=>(by cases hj),fun h=>absurd rfl h⟩
theorem NR.old{b:Nat}{s s':AE}{v:AV}{l:List Nat}(h:NR b s v l)(k:Ae s.next s s'):NR b s' v l:=by
 obtain⟨O,h1,h2,h3,h4⟩:=h
 refine⟨O,h1.frame k.1 (fun j hj=>?_),h2,h3,fun hne=>by obtain⟨i,q1,q2,q3⟩:=h4 hne;exact⟨i,q1,rA q2 k.1,q3.keep (k.2 i q2)⟩⟩
 refine k.2 j ?_
 rcases h1 with⟨a,rfl,_,_,_,h5⟩ | ⟨i,p,rfl,h6,_⟩
 ·cases a with
  | none=>cases hj
  | some io=>obtain⟨i,o⟩:=io;injection hj with hj;subst hj;exact(h5 i o rfl).1
 ·injection hj with hj
  subst hj
  rcases h6.ex with⟨e',_⟩ | ⟨_,_,k2,_⟩
  ·cases e'
  ·exact k2
theorem QQ:Bz Tryz.prog 22=true:=by kernel_rfl
theorem OQ:DH Tryz.prog 76 1=true:=by kernel_rfl
theorem Tl:Af Tryz.prog 22 0 (zipIdx [] [])=some (R 76 1 false []):=by kernel_rfl
theorem Fz(x:Int):Af Tryz.prog 22 1 (zipIdx [0] [.int .u32 x])=some (R 76 1 false [.int .u32 x]):=by kernel_rfl
theorem OD(x y:Int):Af Tryz.prog 22 2 (zipIdx [0,1] [.int .u32 x,.int .u32 y])=some (R 76 1 false [.int .u32 x,.int .u32 y]):=by kernel_rfl
theorem Sf(l:List Nat):Au (us l)=true:=by
 induction l with
 | nil=>rfl
 | cons x l ih=>show((BV x).isCell && Au (us l))=true;rw[ih];rfl
theorem Z3{s:AE}{a:Option (Nat×Nat)}{cap:Option Nat}{l:List Nat}(h:AZ s.next s a (us l)):CT Tryz.prog s 76 1 (.slice a l.length cap)=some (l.length,us l):=by
 cases l with
 | nil =>
  cases a with
  | none=>rfl
  | some io=>obtain⟨i,o⟩:=io;rfl
 | cons x l =>
  obtain⟨i,o,rfl,_,_⟩:=h 0 _ rfl
  have hld:=IU (o:=s.heap.get i) (us (x::l)) o (fun j u hj=>by
   obtain⟨i',o',e,_,h3⟩:=h j u hj
   injection e with e
   injection e with e1 e2
   subst e1;subst e2
   exact h3) (by simp[us])
  rw[CY]at hld
  show(MC s i o (x::l).length 1).bind _=_
  rw[show MC s i o (x::l).length 1=B9 s i o ((x::l).length * 1)from by unfold MC;rw[ED (show(x::l).length≠0 by simp)];rfl,rG,IS,hld]
  rfl
theorem Oa{s:AE}{i o:Nat}(hz:B9 s i o 0=some []){ax:Option (Nat×Nat)}{m:Nat}{cx:Option Nat}{add:List AV}(hsrc:CT Tryz.prog s 76 1 (.slice ax m cx)=some (m,add))(ha:add.length=m)(hc:Au add=true)(hm:0<m)(hml:m≤100000000000):
  Aw Tryz.prog s [22,22] [.slice (some (i,o)) 0 (some 0),.slice ax m cx]=some (.slice (some (s.next,0)) m none,newObj s (R 76 1 true add)):=by
 rw[Dy Tryz.underlying22 Ci UL (by omega) QQ hsrc hc (by omega) (by omega)]
 simp only[appTo,GO,rE,NS hm,cond_false,sN,hz,Option.bind_some,Cq,AL,OQ,cond_true,si]
 rfl
section
variable{E:CR}{s:AE}
theorem Kl(hE:GoodN E){v:AV}{l:List Nat}(hv:C7 s v l)(hl:l.length≤100000000000){K:AV→AE→Prop}(hK:∀s' v',Ae s.next s s'→NR s.next s' v' l→K v' s'):WF E 136 [v] K s:=by
  obtain⟨a,cap,rfl,hcap,hc⟩:=hv
  refine hE.go TN (by decide) rfl ?_
  by_cases hnil:a=none
  · subst hnil
    have hl0:l=[]:=by
      cases l with
      | nil=>rfl
      | cons x l=>obtain⟨_,_,e,_⟩:=hc 0 _ rfl;cases e
    subst hl0
    have e1:AS Tryz.prog .eql 22 (.slice none 0 cap) (.slice none 0 (some 0))=some (.bool true):=by kernel_rfl
    simp only[ar,NV,NX,Q5,sL,e1,Qa,Qb,Qc,Qd,Qe,Qf,Qg,Qh,Qi,Qj,Qk,Ql,Qm,Qn,true_and,and_true,Qo,Qp,Qq,Qr,Qs,Qt,Qu,Qv,Qw,Qx,Qy,Qz,Ra,Rb,Rc,Rd,Re,Rf,Rg,Rh,Ri,Rj,Rk,Rm,Rn,Ro,Rp,Rq,Rt,Ya,Yb,Yc,Ru,Rw,Zb,Yd,Ye,Ry,Rz,Wa,Wb,Wc,Wd,We]
    exact hK s _ (Ae.refl _ _) (NR.nil _ _)
  · obtain⟨⟨i,o⟩,rfl⟩:∃io,a=some io:=by cases a with | none=>exact absurd rfl hnil | some io=>exact⟨io,rfl⟩
    have e1:∀n,AS Tryz.prog .eql 22 (.slice (some (i,o)) n cap) (.slice none 0 (some 0))=some (.bool false):=fun n=>by kernel_rfl
    have ho:=Ae.new s (R 76 1 false [])
    have hd:CO 76 (newObj s (R 76 1 false [])) (.slice (some (s.next,0)) 0 (some 0)) 0 1 [] []:=.inl ⟨some (s.next,0),rfl,rfl,rfl,fun e=>(by cases e),fun i o e=>by
      injection e with e
      injection e with e1 e2
      subst e1;subst e2
      exact⟨sB _,by rw[IS,AP,if_pos rfl];rfl⟩⟩
    have hc2:AZ (newObj s (R 76 1 false [])).next (newObj s (R 76 1 false [])) (some (i,o)) (us l):=(hc.old ho (qw _)).mono ho.1
    obtain⟨v',s',O',happ,hd',hn1,hn2,hf,hO,hsl⟩:=hd.append (xt:=22) Tryz.underlying22 Ci UL (by omega) QQ OQ (Z3 (cap:=cap) hc2) (by rw[CY];omega) (Sf l) (by omega) (by omega)
    simp only[ar,NV,NX,Vr,e1,Tl,Xe,happ,Qa,Qb,Qc,Qd,Qe,Qf,Qg,Qh,Qi,Qj,Qk,Ql,Qm,Qn,true_and,and_true,Qo,Qp,Qq,Qr,Qs,Qt,Qu,Qv,Qw,Qx,Qy,Qz,Ra,Rb,Rc,Rd,Re,Rf,Rg,Rh,Ri,Rj,Rk,Rm,Rn,Ro,Rp,Rq,Rt,Ya,Yb,Yc,Ru,Rw,Zb,Yd,Ye,Ry,Rz,Wa,Wb,Wc,Wd,We]
    have hsn:(newObj s (R 76 1 false [])).next=s.next+1:=rfl
    refine hK s' v' ⟨by omega,fun j hj=>by rw[hf j (by omega) (by simp),AP,if_neg (by omega)]⟩ ⟨O',by simpa using hd',fun j hj=>?_,fun j hj=>?_,fun hne=>?_⟩
    · rcases hO j hj with h | h
      · cases h
      · omega
    · rcases hsl j hj with h | h
      · injection h with h;omega
      · omega
    · have hlp : 0 < l.length := List.length_pos_iff.2 hne
      have h2:=Oa (i:=s.next) (o:=0) (s:=newObj s (R 76 1 false [])) (by rw[IS,AP,if_pos rfl];rfl) (Z3 (cap:=cap) hc2) (CY l) (Sf l) hlp (by omega)
      rw[h2]at happ
      injection happ with happ
      injection happ with e5 e6
      rw[← e5,← e6]
      exact⟨_,rfl,sB _,Cu.of_R (by rw[AP,if_pos rfl])⟩
theorem Lw(l:List Nat)(x:Nat):Du (l++[x])=if x=0 then Du l else l++[x]:=by
 induction l with
 | nil=>by_cases h:x=0<;>simp[Du,h]
 | cons y l ih =>
  show(if y=0∧Du (l++[x])=[]then []else y::Du (l++[x]))=_
  rw[ih]
  by_cases h:x=0
  ·simp only[h,if_true];rfl
  ·simp[h]
theorem M4{a:Option (Nat×Nat)}{cap:Option Nat}{l:List Nat}(hc:AZ s.next s a (us l))(hl:l.length≤100000000000){Q:Ax→Prop}(x1:AV)
  (hq:∀ (k:Nat) (y3:AV),k≤l.length→Du l=l.take k→Q ⟨.exit 0,[.slice a l.length cap,x1,iv (k:Int),y3],[],s⟩):
  ∀ (k:Nat) (x3:AV),k≤l.length→Du l=Du (l.take k)→WC E none (.loop ML) Q [.slice a l.length cap,x1,iv (k:Int),x3] [] s:=by
 intro k
 induction k with
 | zero =>
  intro x3 hk ht
  have d0:decide ((0:Int)<((0:Nat):Int))=false:=rfl
  refine WC.loop' ?_
  simp only[ML,TG,Rz,d0,Qa,Qb,Qc,Qd,Qe,Qf,Qg,Qh,Qi,Qj,Qk,Ql,Qm,Qn,true_and,and_true,Qo,Qp,Qq,Qr,Qs,Qt,Qu,Qv,Qw,Qx,Qy,Qz,Ra,Rb,Rc,Rd,Re,Rf,Rg,Rh,Ri,Rj,Rk,Rm,Rn,Ro,Rp,Rq,Rt,Ya,Yb,Yc,Ru,Rw,Zb,Yd,Ye,Ry,Rz,Wa,Wb,Wc,Wd,We]
  exact hq 0 _ hk (by rw[ht];rfl)
 | succ k ih =>
  intro x3 hk ht
  have hx:l[k]? = some l[k]:=qy (by omega)
  generalize l[k]=x at hx
  obtain⟨i,o,rfl,_,hload⟩:=C7.at hc hx
  have htk:l.take (k+1)=l.take k++[x]:=by rw[List.take_add_one,hx];rfl
  have d0:decide ((0:Int)<((k+1:Nat):Int))=true:=decide_eq_true (by omega)
  have e1:=C3 Tryz.prog 3 ((k+1:Nat):Int) 1 ⟨by omega,by omega⟩
  have e2:((k+1:Nat):Int) - 1=(k:Int):=by omega
  have e3:=Ah (cap:=cap) (i:=i) (o:=o) Tryz.underlying22 Ci (show k<l.length by omega)
  have e4:AA Tryz.prog s 76 (.ptr (some (i,o+k * 1)))=some (BV x):=CJ GH (by rw[rG];exact hload)
  have e5:AS Tryz.prog .eql 76 (BV x) (.int .u32 0)=some (.bool (decide (x=0))):=j5 Tryz.prog 76 (b:=0) .u32
  refine WC.loop' ?_
  generalize hW:WC E none (Ad.loop ML) Q=WW
  by_cases h0:x=0
  ·have d1:decide (x=0)=true:=decide_eq_true h0
   simp only[ML,TG,iy,Rz,d0,e1,e2,e3,e4,e5,d1,Qa,Qb,Qc,Qd,Qe,Qf,Qg,Qh,Qi,Qj,Qk,Ql,Qm,Qn,true_and,and_true,Qo,Qp,Qq,Qr,Qs,Qt,Qu,Qv,Qw,Qx,Qy,Qz,Ra,Rb,Rc,Rd,Re,Rf,Rg,Rh,Ri,Rj,Rk,Rm,Rn,Ro,Rp,Rq,Rt,Ya,Yb,Yc,Ru,Rw,Zb,Yd,Ye,Ry,Rz,Wa,Wb,Wc,Wd,We]
   rw[← hW]
   exact ih _ (by omega) (by rw[ht,htk,Lw,if_pos h0])
  ·have d1:decide (x=0)=false:=decide_eq_false h0
   simp only[ML,TG,Rz,d0,e1,e2,e3,e4,e5,d1,Qa,Qb,Qc,Qd,Qe,Qf,Qg,Qh,Qi,Qj,Qk,Ql,Qm,Qn,true_and,and_true,Qo,Qp,Qq,Qr,Qs,Qt,Qu,Qv,Qw,Qx,Qy,Qz,Ra,Rb,Rc,Rd,Re,Rf,Rg,Rh,Ri,Rj,Rk,Rm,Rn,Ro,Rp,Rq,Rt,Ya,Yb,Yc,Ru,Rw,Zb,Yd,Ye,Ry,Rz,Wa,Wb,Wc,Wd,We]
   exact hq (k+1) _ hk (by rw[ht,htk,Lw,if_neg h0])
theorem Eu(l:List Nat):(Du l).length≤l.length:=by
 induction l with
 | nil=>exact qw _
 | cons x l ih=>unfold Du;split<;>simp<;>omega
theorem Cc(hE:GoodN E){v:AV}{l:List Nat}(hv:C7 s v l)(hl:l.length≤100000000000){K:AV→AE→Prop}(hK:∀s' v',Ae s.next s s'→NR s.next s' v' (Du l)→K v' s'):WF E 92 [v] K s:=by
 obtain⟨a,cap,rfl,hcap,hc⟩:=hv
 refine hE.go YX (by decide) rfl ?_
 simp only[pK,YD,YE,AN Tryz.underlying22,Qa,Qb,Qc,Qd,Qe,Qf,Qg,Qh,Qi,Qj,Qk,Ql,Qm,Qn,true_and,and_true,Qo,Qp,Qq,Qr,Qs,Qt,Qu,Qv,Qw,Qx,Qy,Qz,Ra,Rb,Rc,Rd,Re,Rf,Rg,Rh,Ri,Rj,Rk,Rm,Rn,Ro,Rp,Rq,Rt,Ya,Yb,Yc,Ru,Rw,Zb,Yd,Ye,Ry,Rz,Wa,Wb,Wc,Wd,We]
 refine M4 hc hl _ (fun k y3 hk ht=>?_) l.length _ (qw _) (by rw[List.take_length])
 have e1:=PG Tryz.underlying22 Ci hcap hk
 simp only[YF,e1,if_true,Qa,Qb,Qc,Qd,Qe,Qf,Qg,Qh,Qi,Qj,Qk,Ql,Qm,Qn,true_and,and_true,Qo,Qp,Qq,Qr,Qs,Qt,Qu,Qv,Qw,Qx,Qy,Qz,Ra,Rb,Rc,Rd,Re,Rf,Rg,Rh,Ri,Rj,Rk,Rm,Rn,Ro,Rp,Rq,Rt,Ya,Yb,Yc,Ru,Rw,Zb,Yd,Ye,Ry,Rz,Wa,Wb,Wc,Wd,We]
 refine Kl hE (C7.take hcap hc hk) (by rw[rR];omega) fun s' v' h1 h2=>?_
 simp only[Qa,Qb,Qc,Qd,Qe,Qf,Qg,Qh,Qi,Qj,Qk,Ql,Qm,Qn,true_and,and_true,Qo,Qp,Qq,Qr,Qs,Qt,Qu,Qv,Qw,Qx,Qy,Qz,Ra,Rb,Rc,Rd,Re,Rf,Rg,Rh,Ri,Rj,Rk,Rm,Rn,Ro,Rp,Rq,Rt,Ya,Yb,Yc,Ru,Rw,Zb,Yd,Ye,Ry,Rz,Wa,Wb,Wc,Wd,We]
 rw[← ht]at h2
 exact hK s' v' h1 h2
theorem UR(hE:GoodN E){K:AV→AE→Prop}(hK:K (.slice none 0 (some 0)) s):WF E 136 [.slice none 0 (some 0)] K s:=by
 refine hE.go TN (by decide) rfl ?_
 have e1:AS Tryz.prog .eql 22 (.slice none 0 (some 0)) (.slice none 0 (some 0))=some (.bool true):=by kernel_rfl
 simp only[ar,NV,NX,Q5,e1,Qa,Qb,Qc,Qd,Qe,Qf,Qg,Qh,Qi,Qj,Qk,Ql,Qm,Qn,true_and,and_true,Qo,Qp,Qq,Qr,Qs,Qt,Qu,Qv,Qw,Qx,Qy,Qz,Ra,Rb,Rc,Rd,Re,Rf,Rg,Rh,Ri,Rj,Rk,Rm,Rn,Ro,Rp,Rq,Rt,Ya,Yb,Yc,Ru,Rw,Zb,Yd,Ye,Ry,Rz,Wa,Wb,Wc,Wd,We]
 exact hK
theorem aF(hE:GoodN E){K:AV→AE→Prop}(hK:K (.slice none 0 (some 0)) s):WF E 92 [.slice none 0 (some 0)] K s:=by
 refine hE.go YX (by decide) rfl ?_
 have hn:=(NR.nil 0 s).n32
 obtain⟨a,cap,e,hcap,hc⟩:=hn
 injection e with e1 e2 e3
 subst e1;subst e3
 simp only[pK,YD,YE,AN Tryz.underlying22,Qa,Qb,Qc,Qd,Qe,Qf,Qg,Qh,Qi,Qj,Qk,Ql,Qm,Qn,true_and,and_true,Qo,Qp,Qq,Qr,Qs,Qt,Qu,Qv,Qw,Qx,Qy,Qz,Ra,Rb,Rc,Rd,Re,Rf,Rg,Rh,Ri,Rj,Rk,Rm,Rn,Ro,Rp,Rq,Rt,Ya,Yb,Yc,Ru,Rw,Zb,Yd,Ye,Ry,Rz,Wa,Wb,Wc,Wd,We]
 refine M4 (l:=[]) hc (by simp) _ (fun k y3 hk ht=>?_) 0 _ (qw _) rfl
 have hk0:k=0:=by simpa using hk
 subst hk0
 have e1:=PG Tryz.underlying22 Ci hcap (qw 0)
 simp only[sL]at e1
 simp only[YF,sL,e1,if_true,Qa,Qb,Qc,Qd,Qe,Qf,Qg,Qh,Qi,Qj,Qk,Ql,Qm,Qn,true_and,and_true,Qo,Qp,Qq,Qr,Qs,Qt,Qu,Qv,Qw,Qx,Qy,Qz,Ra,Rb,Rc,Rd,Re,Rf,Rg,Rh,Ri,Rj,Rk,Rm,Rn,Ro,Rp,Rq,Rt,Ya,Yb,Yc,Ru,Rw,Zb,Yd,Ye,Ry,Rz,Wa,Wb,Wc,Wd,We]
 refine UR hE ?_
 simp only[Qa,Qb,Qc,Qd,Qe,Qf,Qg,Qh,Qi,Qj,Qk,Ql,Qm,Qn,true_and,and_true,Qo,Qp,Qq,Qr,Qs,Qt,Qu,Qv,Qw,Qx,Qy,Qz,Ra,Rb,Rc,Rd,Re,Rf,Rg,Rh,Ri,Rj,Rk,Rm,Rn,Ro,Rp,Rq,Rt,Ya,Yb,Yc,Ru,Rw,Zb,Yd,Ye,Ry,Rz,Wa,Wb,Wc,Wd,We]
 exact hK
end
theorem CC{s:AE}{n:Nat}:At Tryz.prog s 69 76 (Aj n)=some (BV (n % 4294967296)):=by
 have:At Tryz.prog s 69 76 (Aj n)=some (.int .u32 (DG .u32 (n:Int))):=by
  simp[At,Tryz.underlying69,Tryz.underlying76]
 rw[this,NB]
 rfl
theorem Bq{s:AE}{n:Nat}(h:n<4294967296):At Tryz.prog s 76 69 (BV n)=some (Aj n):=by
 have:At Tryz.prog s 76 69 (BV n)=some (.int .u64 (DG .u64 (n:Int))):=by
  simp[At,Tryz.underlying69,Tryz.underlying76]
 rw[this,Ly (by omega)]
theorem Ic      {s : AE}  {v : AV} {l : List Nat} {O : List Nat} (hd : CO   76 s v l.length 1 (us l) O) (x : Nat) (hl : l.length ≤ 100000000000) :
    ∃v' s' O',Aw Tryz.prog (newObj s (R 76 1 false [BV x])) [22,22] [v,.slice (some (s.next,0)) 1 (some 1)]=some (v',s')∧CO 76 s' v' (l++[x]).length 1 (us (l++[x])) O'∧s.next≤s'.next ∧
      (∀j,j<s.next→j ∉ O→s'.heap.get j=s.heap.get j)∧(∀j∈O',j∈O∨s.next≤j)∧(∀j,CH v'=some j→CH v=some j∨s.next≤j):=by
  have hsn:(newObj s (R 76 1 false [BV x])).next=s.next+1:=rfl
  have L7:CO 76 (newObj s (R 76 1 false [BV x])) v l.length 1 (us l) O:=hd.frame (by omega) (fun j hj=>by
    rw[AP,if_neg]
    intro e
    subst e
    rcases hd with⟨a,rfl,_,_,_,h5⟩ | ⟨i,p,rfl,h6,_⟩
    · cases a with
      | none=>cases hj
      | some io =>
        obtain⟨i,o⟩:=io
        injection hj with hj
        have:=(h5 i o rfl).1
        omega
    · injection hj with hj
      rcases h6.ex with⟨e',_⟩ | ⟨_,_,k2,_⟩
      · cases e'
      · omega)
  have hsrc:CT Tryz.prog (newObj s (R 76 1 false [BV x])) 76 1 (.slice (some (s.next,0)) 1 (some 1))=some (1,[BV x]):=OI 76 1 (by rw[AP,if_pos rfl];rfl) rfl
  obtain⟨v',s',O',happ,hd',hn1,hn2,hf,hO,hsl⟩:=L7.append (xt:=22) Tryz.underlying22 Ci UL (by omega) QQ OQ hsrc rfl rfl (by omega) (by omega)
  refine⟨v',s',O',happ,?_,by omega,fun j hj hjO=>by rw[hf j (by omega) hjO,AP,if_neg (by omega)],fun j hj=>(hO j hj).imp id (fun h=>by omega),fun j hj=>(hsl j hj).imp id (fun h=>by omega)⟩
  rw[M8,rL]
  exact hd'
theorem E6.dest{s:AE}{v:AV}{n:Nat}{cs:List AV}{O:List Nat}(h:E6 76 1 s v n cs O):CO 76 s v n 1 cs O:=by
 rcases h with⟨rfl,rfl,rfl,rfl⟩ | ⟨i,p,h1,h2,h3⟩
 ·exact CO.nil s 1
 ·exact .inr ⟨i,p,h1,h2,h3⟩
def NW(b:Nat)(s:AE)(v:AV)(l:List Nat):Prop:=∃O,E6 76 1 s v l.length (us l) O∧∀j∈O,b≤j
theorem NW.n32'{b:Nat}{s:AE}{v:AV}{l:List Nat}(h:NW b s v l):C7 s v l:=by
 obtain⟨O,h1,h2⟩:=h
 exact h1.dest.n32
theorem NW.own{b:Nat}{s:AE}{v:AV}{l:List Nat}(h:NW b s v l)(h0:l≠[]):∃i p,v=.slice (some (i,0)) l.length none∧b≤i∧i<s.next∧Cu s i (us l) p∧∀q,p=some q→b≤q∧q<s.next∧q≠i:=by
  obtain⟨O,h1,h2⟩:=h
  rcases h1 with⟨_,h3,_⟩ | ⟨i,p,rfl,h3,rfl⟩
  · exact absurd (tQ h3) h0
  · rcases h3.ex with ⟨e, _⟩ | ⟨_, _, k2, k3, r, k4, k5, _, k7, k8, k9, _⟩
    · cases e
    · refine⟨i,p,rfl,h2 i (by simp),k2,⟨r,k4,k5,by rw[k7];rfl,k8,.inr k9⟩,fun q hq=>?_⟩
      obtain⟨_,q2,q3⟩:=k3 q hq
      exact⟨h2 q (by simp[hq]),q2,q3⟩
theorem Pw{s:AE}{v:AV}{l:List Nat}{O:List Nat}(hd:E6 76 1 s v l.length (us l) O)(x:Nat)(hl:l.length≤100000000000):
  ∃v' s' O',Aw Tryz.prog (newObj s (R 76 1 false [BV x])) [22,22] [v,.slice (some (s.next,0)) 1 (some 1)]=some (v',s')∧E6 76 1 s' v' (l++[x]).length (us (l++[x])) O'∧s.next≤s'.next ∧
   (∀j,j<s.next→j ∉ O→s'.heap.get j=s.heap.get j)∧(∀j∈O',j∈O∨s.next≤j)∧(∀j,CH v'=some j→CH v=some j∨s.next≤j):=by
 have hsn:(newObj s (R 76 1 false [BV x])).next=s.next+1:=rfl
 have L7:=hd.frame (s':=newObj s (R 76 1 false [BV x])) (by omega) (fun j hj=>by rw[AP,if_neg (by have:=hd.lt j hj;omega)])
 have hsrc:CT Tryz.prog (newObj s (R 76 1 false [BV x])) 76 1 (.slice (some (s.next,0)) 1 (some 1))=some (1,[BV x]):=OI 76 1 (by rw[AP,if_pos rfl];rfl) rfl
 obtain⟨v',s',O',happ,hb',hn',hf,hO,hsl⟩:=L7.append (xt:=22) (m:=1) Tryz.underlying22 Ci UL (by omega) QQ OQ (by omega) hsrc rfl rfl (by omega) (by omega)
 refine⟨v',s',O',happ,?_,by omega,fun j hj hjO=>by rw[hf j (by omega) hjO,AP,if_neg (by omega)],fun j hj=>(hO j hj).imp id (fun h=>by omega),fun j hj=>?_⟩
 ·rw[M8,rL]
  exact hb'
 ·rw[hsl]at hj
  injection hj with hj
  exact .inr (by omega)
section
variable{E:CR}{s:AE}
theorem Ug(n:Nat):AH [n % 4294967296,n / 4294967296]=n:=by
 show n % 4294967296+LB * (n / 4294967296+LB * 0)=n
 rw[show LB=4294967296 from rfl]
 omega
theorem Nk(hE:GoodN E){n:Nat}(hn:n<18446744073709551616){K:AV→AE→Prop}(hK:∀s' v',Ae s.next s s'→NR s.next s' v' (AQ n)→K v' s'):WF E 48 [Aj n] K s:=by
 refine hE.go lE (by decide) rfl ?_
 have e1:=Js Tryz.prog 69 hn
 have e2:=Ip Tryz.prog 69 (a:=n) (k:=.u64) (n:=32) (by decide)
 have e2:AS Tryz.prog .shr 69 (Aj n) (.int .u64 32)=some (Aj (n / 4294967296)):=e2
 have e3:n % 4294967296 % 4294967296=n % 4294967296:=tC _ _
 have e4:n / 4294967296 % 4294967296=n / 4294967296:=rv (by omega)
 have hrow:C7 (newObj s (R 76 1 false [BV (n % 4294967296),BV (n / 4294967296)])) (.slice (some (s.next,0)) 2 (some 2)) [n % 4294967296,n / 4294967296]:=by
  refine⟨some (s.next,0),some 2,rfl,.inl ⟨2,rfl,qw _,fun e=>by cases e⟩,?_⟩
  exact J7 (e:=76) (sz:=1) (sp:=false) (by rw[AP,if_pos rfl];rfl) (sB _)
 simp only[qQ,gD,gE,e1,e2,CC,e3,e4,OD,Xe,Qa,Qb,Qc,Qd,Qe,Qf,Qg,Qh,Qi,Qj,Qk,Ql,Qm,Qn,true_and,and_true,Qo,Qp,Qq,Qr,Qs,Qt,Qu,Qv,Qw,Qx,Qy,Qz,Ra,Rb,Rc,Rd,Re,Rf,Rg,Rh,Ri,Rj,Rk,Rm,Rn,Ro,Rp,Rq,Rt,Ya,Yb,Yc,Ru,Rw,Zb,Yd,Ye,Ry,Rz,Wa,Wb,Wc,Wd,We]
 refine Cc hE hrow (by simp) fun s' v' h1 h2=>?_
 have hs:Bv [n % 4294967296,n / 4294967296]:=fun x hx=>by
  have hB:LB=4294967296:=rfl
  simp only[tN,List.not_mem_nil,or_false]at hx
  rcases hx with rfl | rfl
  ·exact rU _ (by decide)
  ·omega
 rw[Br hs,Ug]at h2
 simp only[Qa,Qb,Qc,Qd,Qe,Qf,Qg,Qh,Qi,Qj,Qk,Ql,Qm,Qn,true_and,and_true,Qo,Qp,Qq,Qr,Qs,Qt,Qu,Qv,Qw,Qx,Qy,Qz,Ra,Rb,Rc,Rd,Re,Rf,Rg,Rh,Ri,Rj,Rk,Rm,Rn,Ro,Rp,Rq,Rt,Ya,Yb,Yc,Ru,Rw,Zb,Yd,Ye,Ry,Rz,Wa,Wb,Wc,Wd,We]
 exact hK s' v' ((Ae.new s _).trans (h1.mono (sG _))) (h2.mono (sG _))
theorem aq{x:Nat}(hx:x<4294967296){a:Option (Nat×Nat)}{cap:Option Nat}{l:List Nat}{b:Nat}(hc:AZ b s a (us l))(hb:b≤s.next)(hl:l.length≤10000000000)(hs:Bv l){T:List Nat}{Q:Ax→Prop}(x0 x3:AV)
  (hq:∀ (s':AE) (c:Nat) (v4:AV) (d O:List Nat) (y5 y8 y9:AV),Ae s.next s s'→c<4294967296→d++[c]=T→E6 76 1 s' v4 d.length (us d) O→(∀j∈O,s.next≤j)→(∀j,CH v4=some j→s.next≤j) →
   Q ⟨.exit 0,[x0,Aj x,Aj c,x3,v4,y5,.slice a l.length cap,iv (l.length:Int),y8,y9],[],s'⟩):
  ∀ (r:List Nat) (k:Nat) (s':AE) (c:Nat) (v4:AV) (d O:List Nat) (x5 x9:AV),l.drop k=r→k≤l.length→d.length=k→Ae s.next s s'→c<4294967296→d++Jx r x c=T→E6 76 1 s' v4 d.length (us d) O→(∀j∈O,s.next≤j)→(∀j,CH v4=some j→s.next≤j) →
   WC E none (.loop Ka) Q [x0,Aj x,Aj c,x3,v4,x5,.slice a l.length cap,iv (l.length:Int),iv (k:Int),x9] [] s':=by
 intro r
 induction r with
 | nil =>
  intro k s' c v4 d O x5 x9 hd hk hdl ho hc' hT hD hO hsl
  have hkl:k=l.length:=by
   have:=congrArg List.length hd
   simp at this
   omega
  subst hkl
  refine WC.loop' ?_
  simp only[Ka,Q6,Ry,Int.lt_irrefl,decide_false,Qa,Qb,Qc,Qd,Qe,Qf,Qg,Qh,Qi,Qj,Qk,Ql,Qm,Qn,true_and,and_true,Qo,Qp,Qq,Qr,Qs,Qt,Qu,Qv,Qw,Qx,Qy,Qz,Ra,Rb,Rc,Rd,Re,Rf,Rg,Rh,Ri,Rj,Rk,Rm,Rn,Ro,Rp,Rq,Rt,Ya,Yb,Yc,Ru,Rw,Zb,Yd,Ye,Ry,Rz,Wa,Wb,Wc,Wd,We]
  exact hq s' c v4 d O _ _ _ ho hc' hT hD hO hsl
 | cons y r ih =>
  intro k s' c v4 d O x5 x9 hd hk hdl ho hc' hT hD hO hsl
  have hlt:k<l.length:=by
   rcases qz k l.length with h' | h'
   ·exact h'
   ·rw[rl h']at hd;cases hd
  have hy:l[k]? = some y:=by
   have:=congrArg (fun l=>l[0]?) hd
   simpa using this
  have hd':l.drop (k+1)=r:=by
   have:=congrArg (List.drop 1) hd
   simpa[sR]using this
  have hys:y<4294967296:=hs y (rQ hy)
  obtain⟨i,o,rfl,hi,hload⟩:=hc k _ (Cy hy)
  have hkk:decide ((k:Int)<(l.length:Int))=true:=decide_eq_true (by omega)
  have e1:=Ah (cap:=cap) (i:=i) (o:=o) Tryz.underlying22 Ci hlt
  have e2:AA Tryz.prog s' 76 (.ptr (some (i,o+k * 1)))=some (BV y):=CJ GH (by rw[rG,Dr (ho.2 i (by omega))];exact hload)
  have hxy:x * y≤4294967295 * 4294967295:=rW (by omega) (by omega)
  have e3:=QK Tryz.prog 69 (a:=x) (b:=y) (by omega)
  have e4:=HX Tryz.prog 69 (a:=c) (b:=x * y) (by omega)
  have e5:=Js Tryz.prog 69 (a:=c+x * y) (by omega)
  have e6:(c+x * y) % 4294967296 % 4294967296=(c+x * y) % 4294967296:=tC _ _
  have e7:AS Tryz.prog .shr 69 (Aj (c+x * y)) (.int .u64 32)=some (Aj ((c+x * y) / 4294967296)):=Ip Tryz.prog 69 (k:=.u64) (n:=32) (by decide)
  have e8:=BU Tryz.prog 3 (k:Int) 1 ⟨by omega,by omega⟩
  have e8':((k:Int)+1)=((k+1:Nat):Int):=by omega
  obtain⟨v',s2,O',happ,hD',hn',hf',hO',hsl'⟩:=Pw hD ((c+x * y) % 4294967296) (by omega)
  refine WC.loop' ?_
  generalize hW:WC E none (Ad.loop Ka) Q=WW
  simp only[Ka,Q6,Vv,Vw,Vx,Vy,Vz,Ry,hkk,e1,e2,Bq hys,e3,e4,e5,CC,e6,Fz,Xe,happ,e7,e8,e8',Qa,Qb,Qc,Qd,Qe,Qf,Qg,Qh,Qi,Qj,Qk,Ql,Qm,Qn,true_and,and_true,Qo,Qp,Qq,Qr,Qs,Qt,Qu,Qv,Qw,Qx,Qy,Qz,Ra,Rb,Rc,Rd,Re,Rf,Rg,Rh,Ri,Rj,Rk,Rm,Rn,Ro,Rp,Rq,Rt,Ya,Yb,Yc,Ru,Rw,Zb,Yd,Ye,Ry,Rz,Wa,Wb,Wc,Wd,We]
  rw[← hW]
  refine ih (k+1) s2 ((c+x * y) / 4294967296) v' (d++[(c+x * y) % 4294967296]) O' _ _ hd' hlt (by rw[rL,hdl];rfl) ⟨by have:=ho.1;omega,fun j hj=>by rw[hf' j (by have:=ho.1;omega) (fun hjO=>by have:=hO j hjO;omega)];exact ho.2 j hj⟩ (by omega) ?_ hD' (fun j hj=>(hO' j hj).elim (hO j) (fun h=>by have:=ho.1;omega)) (fun j hj=>(hsl' j hj).elim (hsl j) (fun h=>by have:=ho.1;omega))
  rw[← hT,rZ]
  rfl
theorem nK(hE:GoodN E){v:AV}{l:List Nat}(hv:C7 s v l)(hl:l.length≤10000000000)(hs:Bv l){x c:Nat}(hx:x<4294967296)(hc:c<4294967296){K:AV→AE→Prop}(hK:∀s' v',Ae s.next s s'→NW s.next s' v' (Jx l x c)→K v' s'):
  WF E 137 [v,Aj x,Aj c] K s:=by
 obtain⟨a,cap,rfl,hcap,hcc⟩:=hv
 refine hE.go bS (by decide) rfl ?_
 simp only[nX,Vs,Vt,Vu,AN Tryz.underlying22,Qa,Qb,Qc,Qd,Qe,Qf,Qg,Qh,Qi,Qj,Qk,Ql,Qm,Qn,true_and,and_true,Qo,Qp,Qq,Qr,Qs,Qt,Qu,Qv,Qw,Qx,Qy,Qz,Ra,Rb,Rc,Rd,Re,Rf,Rg,Rh,Ri,Rj,Rk,Rm,Rn,Ro,Rp,Rq,Rt,Ya,Yb,Yc,Ru,Rw,Zb,Yd,Ye,Ry,Rz,Wa,Wb,Wc,Wd,We]
 refine aq hx hcc (qw _) hl hs (T:=Jx l x c) _ _ (fun s' c' v4 d O y5 y8 y9 ho hc' hT hD hO hsl=>?_) l 0 s c _ [] [] _ _ rfl (rB _) rfl (Ae.refl _ _) hc rfl (E6.nil _ _ s) (fun j hj=>(by cases hj)) (fun j hj=>(by cases hj))
 have hdl:d.length=l.length:=by
  have:=congrArg List.length hT
  have h2:∀ (l:List Nat) (c:Nat),(Jx l x c).length=l.length+1:=by
   intro l
   induction l with
   | nil=>intro c;rfl
   | cons y l ih=>intro c;show(Jx l x _).length+1=_;rw[ih];rfl
  rw[rL,h2]at this
  simpa using this
 obtain⟨v',s2,O',happ,hD',hn',hf',hO',hsl'⟩:=Pw hD c' (by omega)
 have e6:c' % 4294967296=c':=rv hc'
 simp only[Sv,CC,e6,Fz,Xe,happ,if_true,Qa,Qb,Qc,Qd,Qe,Qf,Qg,Qh,Qi,Qj,Qk,Ql,Qm,Qn,true_and,and_true,Qo,Qp,Qq,Qr,Qs,Qt,Qu,Qv,Qw,Qx,Qy,Qz,Ra,Rb,Rc,Rd,Re,Rf,Rg,Rh,Ri,Rj,Rk,Rm,Rn,Ro,Rp,Rq,Rt,Ya,Yb,Yc,Ru,Rw,Zb,Yd,Ye,Ry,Rz,Wa,Wb,Wc,Wd,We]
 rw[hT]at hD'
 refine hK s2 v' ⟨by have:=ho.1;omega,fun j hj=>by rw[hf' j (by have:=ho.1;omega) (fun hjO=>by have:=hO j hjO;omega)];exact ho.2 j hj⟩ ⟨O',hD',fun j hj=>(hO' j hj).elim (hO j) (fun h=>by have:=ho.1;omega)⟩
theorem j8(hE:GoodN E){v:AV}{l:List Nat}(hv:C7 s v l)(hl:l.length≤10000000000)(hs:Bv l){n:Nat}(hn:n<32){K:AV→AE→Prop}(hK:∀s' v',Ae s.next s s'→NW s.next s' v' (Jx l (2 ^ n) 0)→K v' s'):WF E 95 [v,Aj n] K s:=by
 have h2:2 ^ n≤2 ^ 31:=sn (by decide) (by omega)
 have e31:(2:Nat) ^ 31=2147483648:=by decide
 rw[e31]at h2
 have e1:AS Tryz.prog .shl 69 (.int .u64 1) (Aj n)=some (Aj (2 ^ n)):=by
  have:=M6 Tryz.prog 69 (a:=1) (k:=.u64) (n:=n) (by omega) (by rw[sV];omega)
  rw[sV]at this
  exact this
 refine hE.go lj (by decide) rfl ?_
 simp only[qp,jJ,jK,e1,Qa,Qb,Qc,Qd,Qe,Qf,Qg,Qh,Qi,Qj,Qk,Ql,Qm,Qn,true_and,and_true,Qo,Qp,Qq,Qr,Qs,Qt,Qu,Qv,Qw,Qx,Qy,Qz,Ra,Rb,Rc,Rd,Re,Rf,Rg,Rh,Ri,Rj,Rk,Rm,Rn,Ro,Rp,Rq,Rt,Ya,Yb,Yc,Ru,Rw,Zb,Yd,Ye,Ry,Rz,Wa,Wb,Wc,Wd,We]
 refine nK hE hv hl hs (show 2 ^ n<4294967296 by omega) (show 0<4294967296 by decide) fun s' v' h1 h2=>?_
 simp only[Qa,Qb,Qc,Qd,Qe,Qf,Qg,Qh,Qi,Qj,Qk,Ql,Qm,Qn,true_and,and_true,Qo,Qp,Qq,Qr,Qs,Qt,Qu,Qv,Qw,Qx,Qy,Qz,Ra,Rb,Rc,Rd,Re,Rf,Rg,Rh,Ri,Rj,Rk,Rm,Rn,Ro,Rp,Rq,Rt,Ya,Yb,Yc,Ru,Rw,Zb,Yd,Ye,Ry,Rz,Wa,Wb,Wc,Wd,We]
 exact hK s' v' h1 h2
end
end
end Go.Proofs.YtjnkfbpadpmakaaGreatDoor.Am
