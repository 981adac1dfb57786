/- States that are told by the objects that came to be: reads, writes and new objects by rewriting; conditions: none. -/
import Derived.Test.YtjnkfbpadpmakaaGreatDoorAmM04
import Derived.Test.YtjnkfbpadpmakaaGreatDoorAmM01
import Derived.Test.YtjnkfbpadpmakaaGreatDoorProg
set_option linter.unusedVariables false
set_option linter.unusedSimpArgs false
namespace Go.Proofs.YtjnkfbpadpmakaaGreatDoor.Am
open Go
noncomputable section
section
variable{α:Type}
theorem Ab.setF_succ(v:Option α)(f:Nat)(t:Ab α)(k:Nat):Ab.setF v (f+1) t (k+1)=if k % 2=0 then .node t.val (Ab.setF v f t.left (k / 2)) t.right else .node t.val t.left (Ab.setF v f t.right (k / 2)):=by
 by_cases h:k % 2=0
 ·have hb:Nat.beq (k % 2) 0=true:=by rw[h];rfl
  simp only[Ab.setF,hb,cond_true,Ab.nodeL_eq,Ab.nodeR_eq]
  rw[if_pos h]
 ·have hb:Nat.beq (k % 2) 0=false:=Ab.beq_no h
  simp only[Ab.setF,hb,cond_false,Ab.nodeL_eq,Ab.nodeR_eq]
  rw[if_neg h]
theorem Ab.setF_fuel   (v : Option α) : ∀ (f g : Nat) (t : Ab   α) (k : Nat), k < f → k < g → Ab.setF   v f t k = Ab.setF   v g t k := by
  intro f
  induction f with
  | zero=>intro g t k h;omega
  | succ f ih =>
    intro g t k h1 h2
    cases g with
    | zero=>omega
    | succ g =>
      cases k with
      | zero=>rfl
      | succ k =>
        rw[Ab.setF_succ,Ab.setF_succ,ih g t.left (k / 2) (by omega) (by omega),ih g t.right (k / 2) (by omega) (by omega)]
theorem Ab.setF_same(v w:Option α):∀ (f:Nat)(t:Ab α)(k:Nat),k<f→Ab.setF w f (Ab.setF v f t k) k=Ab.setF w f t k:=by
 intro f
 induction f with
 | zero=>intro t k h;omega
 | succ f ih =>
  intro t k h
  cases k with
  | zero=>rfl
  | succ k =>
   rw[Ab.setF_succ,Ab.setF_succ,Ab.setF_succ]
   by_cases hk:k % 2=0
   ·simp only[hk,if_true,Ab.val,Ab.left,Ab.right];rw[ih _ _ (by omega)]
   ·simp only[hk,if_false,Ab.val,Ab.left,Ab.right];rw[ih _ _ (by omega)]
theorem Ab.setF_comm   (v w : Option α) : ∀ (f : Nat) (t : Ab   α) (k j : Nat), k < f → j < f → k ≠ j → Ab.setF   w f (Ab.setF   v f t k) j = Ab.setF   v f (Ab.setF   w f t j) k := by
  intro f
  induction f with
  | zero=>intro t k j h;omega
  | succ f ih =>
    intro t k j h1 h2 hne
    cases k with
    | zero =>
      cases j with
      | zero=>omega
      | succ j =>
        rw[Ab.setF_succ,Ab.setF_succ]
        by_cases hj:j % 2=0
        · simp only[hj,if_true,Ab.setF,Ab.val,Ab.left,Ab.right]
        · simp only[hj,if_false,Ab.setF,Ab.val,Ab.left,Ab.right]
    | succ k =>
      cases j with
      | zero =>
        rw[Ab.setF_succ,Ab.setF_succ]
        by_cases hk:k % 2=0
        · simp only[hk,if_true,Ab.setF,Ab.val,Ab.left,Ab.right]
        · simp only[hk,if_false,Ab.setF,Ab.val,Ab.left,Ab.right]
      | succ j =>
        simp only[Ab.setF_succ]
        by_cases hk:k % 2=0<;>by_cases hj:j % 2=0
        · simp only[hk,hj,if_true,Ab.val,Ab.left,Ab.right];rw[ih _ _ _ (by omega) (by omega) (by omega)]
        · simp only[hk,hj,if_true,if_false,Ab.val,Ab.left,Ab.right]
        · simp only[hk,hj,if_true,if_false,Ab.val,Ab.left,Ab.right]
        · simp only[hk,hj,if_false,Ab.val,Ab.left,Ab.right];rw[ih _ _ _ (by omega) (by omega) (by omega)]
theorem Ab.set_same(t:Ab α)(k:Nat)(v w:α):(t.set k v).set k w=t.set k w:=Ab.setF_same _ _ _ _ _ (by omega)
theorem Ab.set_comm(t:Ab α){k j:Nat}(h:k≠j)(v w:α):(t.set k v).set j w=(t.set j w).set k v:=by
 unfold Ab.set Ab.put
 rw[Ab.setF_fuel _ (k+1) (k+j+1) t k (by omega) (by omega),Ab.setF_fuel _ (j+1) (k+j+1) _ j (by omega) (by omega),Ab.setF_fuel _ (j+1) (k+j+1) t j (by omega) (by omega),Ab.setF_fuel _ (k+1) (k+j+1) _ k (by omega) (by omega)]
 exact Ab.setF_comm _ _ _ _ _ _ (by omega) (by omega) h
theorem Ab.fill_set_below(l:List α):∀ (t:Ab α)(k j:Nat)(v:α),j<k→(t.fill k l).set j v=(t.set j v).fill k l:=by
 induction l with
 | nil=>intro t k j v _;rfl
 | cons a l ih =>
  intro t k j v h
  simp only[Ab.fill]
  rw[ih _ _ _ _ (by omega),Ab.set_comm t (by omega)]
theorem Ab.fill_set(l:List α):∀ (t:Ab α)(k i:Nat)(v:α),i<l.length→(t.fill k l).set (k+i) v=t.fill k (l.set i v):=by
  induction l with
  | nil=>intro t k i v h;simp at h
  | cons a l ih =>
    intro t k i v h
    cases i with
    | zero =>
      simp only[Ab.fill,zv,A0p]
      rw[Ab.fill_set_below _ _ _ _ _ (by omega),Ab.set_same]
    | succ i =>
      simp only[Ab.fill,List.set_cons_succ]
      rw[show k+(i+1)=k+1+i from by omega]
      exact ih _ _ _ _ (by simpa using h)
end
def Ub(l:List AV):Ab AV:=Ab.fill .leaf 0 l
theorem Po(l:List AV)(k:Nat):(Ub l).get k=l[k]? := by
 unfold Ub
 rw[Ab.get_fill]
 by_cases h:k<l.length
 ·rw[if_pos ⟨ze _,by omega⟩];rfl
 ·rw[if_neg (by omega),zj (by omega)];rfl
def EI(cs:List AV)(off:Nat)(vs:List AV):List AV:=match vs with
 | []=>cs
 | v::vs=>EI (cs.set off v) (off+1) vs
theorem IS:∀ (vs cs:List AV)(off:Nat),(EI cs off vs).length=cs.length
 | [],_,_=>rfl
 | v::vs,cs,off=>by unfold EI;rw[IS];simp
theorem SO:∀ (vs cs:List AV)(off:Nat),off+vs.length≤cs.length→(Ub cs).fill off vs=Ub (EI cs off vs)
 | [],_,_,_=>rfl
 | v::vs,cs,off,h=>by
  simp only[Ab.fill,EI]
  have e:(Ub cs).set off v=Ub (cs.set off v):=by
   unfold Ub
   have:=Ab.fill_set cs .leaf 0 off v (by simp at h;omega)
   rwa[zk]at this
  rw[e]
  exact SO vs _ _ (by simp at h ⊢;omega)
theorem NJ         : ∀ (vs cs : List AV) (off k : Nat), off + vs.length ≤ cs.length → (EI     cs off vs)[k]? = if off ≤ k ∧ k < off + vs.length then vs[k - off]? else cs[k]?
  | [],cs,off,k,_=>by simp[EI];omega
  | v::vs,cs,off,k,h=>by
    simp only[A0G]at h
    simp only[EI]
    rw[NJ vs _ _ _ (by simp;omega)]
    by_cases h1:off+1≤k∧k<off+1+vs.length
    · rw[if_pos h1,if_pos (by simp;omega),show k - off=(k - (off+1))+1 from by omega];rfl
    · rw[if_neg h1]
      by_cases h2:k=off
      · subst h2
        rw[if_pos (by simp),A1f (by omega)]
        simp
      · rw[if_neg (by simp;omega),A1A (Ne.symm h2)]
def R(e sz:Nat)(sp:Bool)(cs:List AV):BF:=.row { elem:=e,sz,n:=cs.length,c:=Ub cs,spare:=sp,mode:=.own,par:=none,bytes:=true }
theorem UF(e sz:Nat)(cs:List AV):Cy e sz (Ab.fill .leaf 0 cs) cs.length none true=R e sz true cs:=rfl
theorem Ww(s:AE)(i:Nat)(o:BF):(setObj s i o).heap.get i=some o:=by
 show(s.heap.set i o).get i=_
 rw[Ab.get_set,if_pos rfl]
theorem Wx{s:AE}{i j:Nat}(o:BF)(h:j≠i):(setObj s i o).heap.get j=s.heap.get j:=by
 show(s.heap.set i o).get j=_
 rw[Ab.get_set,if_neg h]
def gr:Option BF→Option D5
 | some (.row r)=>some r
 | _=>none
def N9(o:Option BF)(off:Nat):Option AV:=(gr o).bind fun r=>AQ (Nat.blt off r.n) (r.c.get off)
def MY(o:Option BF)(off n:Nat):Option (List AV):=(gr o).bind fun r=>AQ (Nat.ble (off+n) r.n) (r.c.take off n)
def mapO(kt:TypeId):Option BF→Option (List (AV×AV))
 | some (.map kt' es)=>AQ (Nat.beq kt' kt) (some es)
 | _=>none
theorem kU(s:AE)(i:Nat):rowAt s i=gr (s.heap.get i):=rfl
theorem Fh(s:AE)(i off:Nat):DB s i off=N9 (s.heap.get i) off:=rfl
theorem JL(s:AE)(i off n:Nat):CL s i off n=MY (s.heap.get i) off n:=rfl
theorem Wo(e sz:Nat)(sp:Bool)(cs:List AV)(off:Nat):N9 (some (R e sz sp cs)) off=cs[off]? := by
 show AQ (Nat.blt off cs.length) ((Ub cs).get off)=_
 rw[Po]
 by_cases h:off<cs.length
 ·have:Nat.blt off cs.length=true:=by rw[zx];exact h
  rw[this];rfl
 ·have:Nat.blt off cs.length=false:=by
   cases hb:Nat.blt off cs.length with
   | false=>rfl
   | true=>rw[zx]at hb;exact absurd hb h
  rw[this,zj (by omega)];rfl
theorem Sv:∀ (n:Nat)(cs:List AV)(off:Nat),off+n≤cs.length→(Ub cs).take off n=some ((cs.drop off).take n)
 | 0,cs,off,_=>by simp[Ab.take]
 | n+1,cs,off,h=>by
  have hg:cs[off]? = some cs[off]:=zW (by omega)
  simp only[Ab.take,Po,hg,Sv n cs (off+1) (by omega)]
  rw[show cs.drop off=cs[off]::cs.drop (off+1)from(A0M (by omega))]
  rfl
theorem Wp{e sz:Nat}{sp:Bool}{cs:List AV}{off n:Nat}(h:off+n≤cs.length):MY (some (R e sz sp cs)) off n=some ((cs.drop off).take n):=by
 show AQ (Nat.ble (off+n) cs.length) ((Ub cs).take off n)=_
 have:Nat.ble (off+n) cs.length=true:=by rw[zh];exact h
 rw[this,Sv n cs off h];rfl
theorem NL{s:AE}{i off e sz:Nat}{sp:Bool}{cs vs:List AV}(hg:s.heap.get i=some (R e sz sp cs))(h:off+vs.length≤cs.length)(ha:Aq vs=true):
  C3 s i off vs=some (match vs with | []=>s | _::_=>setObj s i (R e sz sp (EI cs off vs))):=by
 cases vs with
 | nil=>rfl
 | cons v vs =>
  have hb:Nat.ble (off+(v::vs).length) cs.length=true:=by rw[zh];exact h
  show(rowAt s i).bind _=_
  rw[kU,hg]
  show AQ (EG .own && Nat.ble (off+(v::vs).length) cs.length && Aq (v::vs)) _=_
  rw[hb,ha]
  show some (setObj s i _)=some (setObj s i _)
  rw[show R e sz sp (EI cs off (v::vs))=BF.row { elem:=e,sz,n:=(EI cs off (v::vs)).length,c:=Ub (EI cs off (v::vs)),spare:=sp,mode:=.own,par:=none,bytes:=true }from rfl,IS,← SO _ _ _ h]
def B9(e:TypeId)(s:AE)(v:AV)(n sz:Nat)(cs:List AV)(O:List Nat):Prop:=
 (∃a,v=.slice a n (some n)∧O=[]∧cs.length=n * sz∧(a=none→n=0)∧∀i o,a=some (i,o)→i<s.next∧CL s i o (n * sz)=some cs) ∨
 (∃i p,v=.slice (some (i,0)) n none∧G8 e 0 s.next s v n sz cs i p∧O=i::p.toList)
theorem B9.nil{e:TypeId}(s:AE)(sz:Nat):B9 e s (.slice none 0 (some 0)) 0 sz [] []:=.inl ⟨none,rfl,rfl,by simp,fun _=>rfl,fun i o h=>by cases h⟩
theorem B9.len{e:TypeId}{s:AE}{v:AV}{n sz:Nat}{cs:List AV}{O:List Nat}(h:B9 e s v n sz cs O):cs.length=n * sz:=by
 rcases h with⟨a,h1,h2,h3,h4⟩ | ⟨i,p,h1,h2,h3⟩
 ·exact h3
 ·exact h2.len
theorem fo{s s':AE}{i o n:Nat}(h:s'.heap.get i=s.heap.get i):CL s' i o n=CL s i o n:=by unfold CL rowAt;rw[h]
theorem B9.lt   {e : TypeId} {s : AE}  {v : AV} {n sz : Nat} {cs : List AV} {O : List Nat} (h : B9   e s v n sz cs O) : ∀ j ∈ O, j < s.next := by
  rcases h with⟨a,h1,h2,h3,h4⟩ | ⟨i,p,h1,h2,h3⟩
  · subst h2;intro j hj;cases hj
  · subst h3
    intro j hj
    rcases h2.ex with⟨e,_⟩ | ⟨_,_,k2,k3,_⟩
    · rw[h1]at e;cases e
    · rcases List.mem_cons.1 hj with rfl | hj
      · exact k2
      · cases p with
        | none=>cases hj
        | some q =>
          have:j=q:=by simpa using hj
          rw[this]
          exact(k3 q rfl).2.1
def B6:AV→Option Nat
 | .slice (some (i,_)) _ _=>some i
 | _=>none
theorem B9.frame{e:TypeId}{s s':AE}{v:AV}{n sz:Nat}{cs:List AV}{O:List Nat}(h:B9 e s v n sz cs O)(hn:s.next≤s'.next)(hf:∀j,B6 v=some j→s'.heap.get j=s.heap.get j):B9 e s' v n sz cs O:=by
 rcases h with⟨a,rfl,h2,h3,h4,h5⟩ | ⟨i,p,rfl,h2,h3⟩
 ·refine .inl ⟨a,rfl,h2,h3,h4,fun i o e=>?_⟩
  obtain⟨k1,k2⟩:=h5 i o e
  subst e
  exact⟨by omega,by rw[fo (hf i rfl)];exact k2⟩
 ·exact .inr ⟨i,p,rfl,(h2.mono hn).frame fun _ _=>hf i rfl,h3⟩
theorem B9.cells   {e : TypeId} {s : AE}  {v : AV} {n sz : Nat} {cs : List AV} {O : List Nat} (h : B9   e s v n sz cs O) : ∃ a cap, v = .slice a n cap ∧ AS      s.next s a cs := by
  rcases h with⟨a,rfl,h2,h3,h4,h5⟩ | ⟨i,p,rfl,h2,h3⟩
  · refine⟨a,_,rfl,fun k u hk=>?_⟩
    have hlt:k<cs.length:=by
      rcases zX k cs.length with h | h
      · exact h
      · rw[zj h]at hk;cases hk
    cases a with
    | none=>rw[h4 rfl]at h3;simp at h3;subst h3;simp at hlt
    | some io =>
      obtain⟨i,o⟩:=io
      obtain⟨k1,k2⟩:=h5 i o rfl
      refine⟨i,o,rfl,k1,?_⟩
      unfold CL at k2
      simp only[zV]at k2
      obtain⟨r,g1,g2⟩:=k2
      have g3:Nat.ble (o+n * sz) r.n=true∧r.c.take o (n * sz)=some cs:=by
        cases hb:Nat.ble (o+n * sz) r.n with
        | true=>rw[hb]at g2;exact⟨rfl,g2⟩
        | false=>rw[hb]at g2;cases g2
      have g4:o+n * sz≤r.n:=by simpa[zh]using g3.1
      have g5:=Ab.take_get g3.2 k (by omega)
      rw[hk]at g5
      have g6:s.heap.get i=some (.row r):=by
        unfold rowAt at g1
        split at g1
        · injection g1 with g1;subst g1;assumption
        · cases g1
      exact GE g6 (by omega) g5
  · obtain⟨a,cap,e,hc⟩:=h2.cells
    exact⟨a,cap,e,hc⟩
theorem B9.append   {P : Program} {st xt e : TypeId} {sz by_ : Nat} (ht : P.underlying st = some (.slice e)) (hs : BJ    P e = some sz) (hb : DP     P e = some by_) (h0 : 0 < sz) (hx : B0           P xt = true) (hz : DH     P e sz = true) {s : AE}  {v : AV} {n : Nat} {cs : List AV} {O : List Nat} (h : B9   e s v n sz cs O)
    {ax:Option (Nat×Nat)} {m:Nat} {cx:Option Nat} {add:List AV} (hsrc:Co P s e sz (.slice ax m cx)=some (m,add)) (ha:add.length=m * sz) (hc:Aq add=true) (h1:(n+m) * by_≤1099511627776) (h2:n+m≤1099511627776):
    ∃v' s' O',Aj P s [st,xt] [v,.slice ax m cx]=some (v',s')∧B9 e s' v' (n+m) sz (cs++add) O'∧s.next≤s'.next∧s'.next≤s.next+1∧(∀j,j<s.next→j ∉ O→s'.heap.get j=s.heap.get j)∧(∀j∈O',j∈O∨s.next≤j)∧(∀j,B6 v'=some j→B6 v=some j∨s.next≤j):=by
  have hlen:=h.len
  rcases A0R m with rfl | hm
  ·
    have hadd:add=[]:=by simp at ha;exact ha
    subst hadd
    rw[A1C,zv]
    rcases h with⟨a,rfl,rfl,h3,h4,h5⟩ | ⟨i,p,rfl,h6,h7⟩
    · refine ⟨.slice a n (some n), s, [], ?_, .inl ⟨a, rfl, rfl, h3, h4, h5⟩, zU          _, A0X         _, fun _ _ _ => rfl, fun j hj => (by cases hj), fun j hj => .inl hj⟩
      rw[EP ht hs hb h0 hx hsrc hc h1 h2]
      cases a with
      | none=>rw[h4 rfl];rfl
      | some io =>
        obtain⟨i,o⟩:=io
        simp only[appTo,HB,zv,CU (zU n),cond_true,C3,Option.bind_some]
    · refine ⟨.slice (some (i, 0)) n none, s, O, ?_, .inr ⟨i, p, rfl, h6, h7⟩, zU          _, A0X         _, fun _ _ _ => rfl, fun j hj => .inl hj, fun j hj => .inl hj⟩
      rw[EP ht hs hb h0 hx hsrc hc h1 h2]
      rcases h6.ex with⟨e',_⟩ | ⟨_,k1,k2,k3,r,k4,k5,k6,k7,k8,k9⟩
      · cases e'
      · have hrow : rowAt s i = some r := by simp [rowAt, k4]
        have hrn:r.n=n * sz:=by rw[k5.1,h6.len]
        simp only[appTo,hrow,Option.bind_some,LD,k8,Fq rfl,AQ,cond_true,zv,zk]
        rw[show Nat.ble (n * sz) r.n=true from CU (by omega)]
        simp only[cond_true,C3,Option.bind_some]
  · rcases h with ⟨a, rfl, rfl, h3, h4, h5⟩ | ⟨i, p, rfl, h6, h7⟩
    ·
      refine⟨.slice (some (s.next,0)) (n+m) none,newObj s (Cy e sz (Ab.fill .leaf 0 (cs++add)) (cs++add).length none true),[s.next],?_,?_,A0X _,zU _,fun j hj _=>by rw[AU,if_neg (by omega)],fun j hj=>by simp at hj;right;omega,fun j hj=>by simp[B6]at hj;right;omega⟩
      · rw[EP ht hs hb h0 hx hsrc hc h1 h2]
        cases a with
        | none =>
          have hn0:=h4 rfl
          subst hn0
          have:cs=[]:=by simp at h3;exact h3
          subst this
          simp only[appTo,Dp (show m≠0 by omega),cond_false,DA,AQ,hz,cond_true,A0y,zk]
        | some io =>
          obtain⟨i,o⟩:=io
          obtain⟨k1,k2⟩:=h5 i o rfl
          simp only[appTo,HB,Ou (show n<n+m by omega),cond_false,k2,Option.bind_some,DA,AQ,hz,cond_true]
      · refine .inr ⟨s.next,none,rfl,⟨by rw[zg,h3,ha,A0A],.inr ⟨rfl,ze _,A0T _,fun q hq=>(by cases hq),_,by rw[AU,if_pos rfl];rfl,⟨rfl,?_⟩,rfl,rfl,rfl,rfl,rfl⟩⟩,rfl⟩
        intro k u hk
        have hlt:k<(cs++add).length:=by
          rcases zX k (cs++add).length with h' | h'
          · exact h'
          · rw[zj h']at hk;cases hk
        show(Ab.fill .leaf 0 (cs++add)).get k=some u
        rw[Ab.get_fill,if_pos ⟨ze _,by omega⟩]
        simpa using hk
    · obtain⟨a,cap,v',s',e1,e2,i',p',g1,g2,g3,g4,g5,g6,_⟩:=h6.appTo (zU _) (ze _) hz h0 ha hm
      injection e1 with e1 e3 e4
      subst e1;subst e4
      have hv':v'=.slice (some (i',0)) (n+m) none:=by
        rcases g1.ex with⟨_,e⟩ | ⟨e,_⟩
        · omega
        · exact e
      refine⟨v',s',i'::p'.toList,?_,.inr ⟨i',p',hv',g1,rfl⟩,g2.1,by omega,?_,?_,?_⟩
      · rw[EP ht hs hb h0 hx hsrc hc h1 h2]
        exact e2
      · intro j hj hO
        subst h7
        refine g2.2 j hj (fun e=>hO (by simp[e])) (fun e=>hO (by simp[e]))
      · intro j hj
        subst h7
        rcases List.mem_cons.1 hj with rfl | hj
        · right;omega
        · rcases g5 with rfl | rfl
          · cases hj
          · simp at hj;left;simp[hj]
      · intro j hj
        rw[hv']at hj
        simp[B6]at hj
        right;omega
theorem P5{P:Program}{e:TypeId}{s:AE}{i:Nat}{cs:List AV}{n:Nat}{cap:Option Nat}{sz:Nat}(ty:TypeId)(z:Nat)(hg:s.heap.get i=some (GH ty z cs))(hl:cs.length=n * sz):Co P s e sz (.slice (some (i,0)) n cap)=some (n,cs):=by
 obtain⟨r,h1,h2,_⟩:=Rx ty z cs
 rw[h1]at hg
 have:=Ko hg h2 0 cs (by omega) (fun j u hj=>by simpa using hj)
 rw[hl]at this
 simp[Co,X0 this]
section
variable{P:Program}{s:AE}{os:List BF}{b k i o off n t e sz:Nat}{sp:Bool}{cs vs:List AV}
theorem Xh(cs:List AV):(AV.agg cs).cells=cs:=rfl
theorem Xl(m:Option Nat):(AV.map m).cells=[.map m]:=rfl
theorem Xn(a:Option (Nat×Nat))(n:Nat)(c:Option Nat):(AV.slice a n c).cells=[.slice a n c]:=rfl
theorem Xo(f:FuncId)(a c:List AV):(AV.func f a c).cells=[.func f a c]:=rfl
theorem Xg{α:Type}(x:Option α):AQ true x=x:=rfl
theorem iY(a b:Nat):Nat.beq a b=decide (a=b):=by
 rw[Bool.eq_iff_iff,decide_eq_true_eq,A0t]
theorem Wf(h:EO P t=some false):AB P s t (.ptr (some (i,o)))=N9 (s.heap.get i) o:=by
 unfold AB
 rw[h];rfl
theorem Wg(h:EO P t=some true):AB P s t (.ptr (some (i,o)))=(BJ P t).bind fun n=>(MY (s.heap.get i) o n).bind fun l=>some (.agg l):=by
 unfold AB
 rw[h];rfl
theorem Wh(v:AV):AO P s t (.ptr (some (i,o))) v=(BJ P t).bind fun n=>AQ (decide (v.cells.length=n)) (C3 s i o v.cells):=by
 unfold AO
 simp only[iY]
theorem Xa(e:TypeId)(v:AV):BV e v=some (R e 0 false v.cells,.ptr):=rfl
theorem Xc(i:Nat):Made.ptr.val i=.ptr (some (i,0)):=rfl
theorem Xd(i:Nat):Made.map.val i=.map (some i):=rfl
theorem Xe(i n:Nat):(Made.slice n).val i=.slice (some (i,0)) n (some n):=rfl
end
abbrev An(n:Nat):AV:=.int .u64 (n:Int)
abbrev A6(n:Nat):AV:=.int .u32 (n:Int)
theorem NS{n:Nat}(h:n<18446744073709551616):De .u64 (n:Int)=(n:Int):=S7 (by simp only[CG,zh];omega)
theorem GB(n:Int):IntKind.wrap .u64 n=n % 18446744073709551616:=by
 simp[IntKind.wrap,IntKind.signed,IntKind.bits]
theorem GA(n:Int):IntKind.wrap .u32 n=n % 4294967296:=by
 simp[IntKind.wrap,IntKind.signed,IntKind.bits]
theorem YB(n:Int):De .u64 n=n % 18446744073709551616:=by
 unfold De
 cases h:CG .u64 n with
 | true =>
  cases n with
  | ofNat m =>
   simp only[CG,zh]at h
   simp only[cond_true]
   rw[show Int.ofNat m=(m:Int)from rfl]
   omega
  | negSucc m=>cases h
 | false=>exact GB n
theorem YA(n:Int):De .u32 n=n % 4294967296:=by
 unfold De
 cases h:CG .u32 n with
 | true =>
  cases n with
  | ofNat m =>
   simp only[CG,zh]at h
   simp only[cond_true]
   rw[show Int.ofNat m=(m:Int)from rfl]
   omega
  | negSucc m=>cases h
 | false=>exact GA n
section
variable(P:Program)(t:TypeId){a b:Nat}
theorem IU(h:a+b<18446744073709551616):AN P .add t (An a) (An b)=some (An (a+b)):=by
 show some (AV.int .u64 (De .u64 ((a:Int)+(b:Int))))=_
 rw[← Int.natCast_add,NS h]
theorem Sx(h:a * b<18446744073709551616):AN P .mul t (An a) (An b)=some (An (a * b)):=by
 show some (AV.int .u64 (De .u64 ((a:Int) * (b:Int))))=_
 rw[← Int.natCast_mul,NS h]
theorem Oa(hb:b≤18446744073709551616):AN P .sub t (An a) (An b)=some (An ((a+18446744073709551616 - b) % 18446744073709551616)):=by
 show some (AV.int .u64 (De .u64 ((a:Int) - (b:Int))))=_
 rw[YB]
 congr 2
 omega
theorem xL(k:IntKind):AN P .lss t (.int k (a:Int)) (.int k (b:Int))=some (.bool (decide (a<b))):=by
 have:∀k,CC k k=true:=fun k=>by cases k<;>rfl
 show AQ (CC k k) (some (AV.bool (NV (a:Int) (b:Int))))=_
 rw[this,DF]
 simp[AQ]
theorem OY(k:IntKind):AN P .gtr t (.int k (a:Int)) (.int k (b:Int))=some (.bool (decide (b<a))):=by
 have:∀k,CC k k=true:=fun k=>by cases k<;>rfl
 show AQ (CC k k) (some (AV.bool (NV (b:Int) (a:Int))))=_
 rw[this,DF]
 simp[AQ]
theorem iG(k:IntKind):AN P .eql t (.int k (a:Int)) (.int k (b:Int))=some (.bool (decide (a=b))):=by
 have:∀k,CC k k=true:=fun k=>by cases k<;>rfl
 show AQ (CC k k) (some (AV.bool (NX (a:Int) (b:Int))))=_
 rw[this,Ev]
 simp only[AQ,cond_true]
 congr 2
 by_cases h:a=b
 ·subst h;simp
 ·have:(a:Int)≠b:=by omega
  simp[h,this]
theorem sW(ha:a<18446744073709551616)(hb:b≠0):AN P .quo t (An a) (An b)=some (An (a / b)):=by
 show(DM P (Op.intDiv .quo .u64 (a:Int) (b:Int))).bind ofValue=_
 have hb':¬ ((b:Int)=0):=by omega
 unfold Op.intDiv
 rw[if_neg hb']
 show some (AV.int .u64 (IntKind.wrap .u64 ((a:Int).tdiv (b:Int))))=_
 rw[GB,show(a:Int).tdiv (b:Int)=((a / b:Nat):Int)from rfl]
 congr 2
 have:a / b≤a:=A0Y a b
 generalize a / b=q at this
 omega
theorem sX(hb:b≠0):AN P .rem t (An a) (An b)=some (An (a % b)):=by
 show(DM P (Op.intDiv .rem .u64 (a:Int) (b:Int))).bind ofValue=_
 have hb':¬ ((b:Int)=0):=by omega
 unfold Op.intDiv
 rw[if_neg hb']
 show some (AV.int .u64 ((a:Int).tmod (b:Int)))=_
 rfl
theorem Jh{k:IntKind}{n:Nat}(hn:n≤64):AN P .shr t (An a) (.int k (n:Int))=some (An (a / 2 ^ n)):=by
 show(DM P (Op.shift .shr .u64 (a:Int) k (n:Int))).bind ofValue=_
 unfold Op.shift
 rw[if_neg (by omega)]
 show some (AV.int .u64 ((a:Int).fdiv (2 ^ min (n:Int).toNat 64)))=_
 rw[show min (n:Int).toNat 64=n by omega]
 congr 2
 rw[show((2:Int) ^ n)=((2 ^ n:Nat):Int) by push_cast;rfl]
 exact(Int.ofNat_fdiv a (2 ^ n)).symm
theorem OZ{k:IntKind}{n:Nat}(hn:n≤64)(h:a * 2 ^ n<18446744073709551616):AN P .shl t (An a) (.int k (n:Int))=some (An (a * 2 ^ n)):=by
 show(DM P (Op.shift .shl .u64 (a:Int) k (n:Int))).bind ofValue=_
 unfold Op.shift
 rw[if_neg (by omega)]
 show some (AV.int .u64 (IntKind.wrap .u64 ((a:Int) * 2 ^ min (n:Int).toNat 64)))=_
 rw[show min (n:Int).toNat 64=n by omega,GB]
 congr 2
 rw[show(a:Int) * 2 ^ n=((a * 2 ^ n:Nat):Int) by push_cast;rfl]
 omega
theorem K0(h:a<18446744073709551616):AN P .and t (An a) (.int .u64 4294967295)=some (An (a % 4294967296)):=by
 show(DM P (Op.intBits .and .u64 (a:Int) 4294967295)).bind ofValue=_
 show some (AV.int .u64 (IntKind.wrap .u64 ((BitVec.ofInt 64 (a:Int) &&& BitVec.ofInt 64 4294967295).toNat:Int)))=_
 rw[GB]
 congr 2
 have:(BitVec.ofInt 64 (a:Int) &&& BitVec.ofInt 64 4294967295).toNat=a % 4294967296:=by
  rw[BitVec.ofInt_natCast,show BitVec.ofInt 64 4294967295=BitVec.ofNat 64 4294967295 from(by decide),BitVec.toNat_and,BitVec.toNat_ofNat,BitVec.toNat_ofNat]
  rw[A0I (show a<2 ^ 64 by omega),show 4294967295 % 2 ^ 64=2 ^ 32 - 1 by decide,Nat.and_two_pow_sub_one_eq_mod]
 rw[this]
 omega
theorem km(h:a * 4294967296+b<18446744073709551616)(hb:b<4294967296):AN P .or t (An (a * 4294967296)) (An b)=some (An (a * 4294967296+b)):=by
 show(DM P (Op.intBits .or .u64 ((a * 4294967296:Nat):Int) (b:Int))).bind ofValue=_
 show some (AV.int .u64 (IntKind.wrap .u64 ((BitVec.ofInt 64 ((a * 4294967296:Nat):Int) ||| BitVec.ofInt 64 (b:Int)).toNat:Int)))=_
 rw[GB]
 congr 2
 have:(BitVec.ofInt 64 ((a * 4294967296:Nat):Int) ||| BitVec.ofInt 64 (b:Int)).toNat=a * 4294967296+b:=by
  rw[BitVec.ofInt_natCast,BitVec.ofInt_natCast,BitVec.toNat_or,BitVec.toNat_ofNat,BitVec.toNat_ofNat]
  have e64:(2:Nat) ^ 64=18446744073709551616:=by decide
  have e32:(2:Nat) ^ 32=4294967296:=by decide
  have h1:a * 4294967296<18446744073709551616:=A0J (Nat.le_add_right _ _) h
  have h2:b<18446744073709551616:=Nat.lt_trans hb (by decide)
  rw[e64,A0I h1,A0I h2]
  have h3:b<2 ^ 32:=by rw[e32];exact hb
  have:=Nat.two_pow_add_eq_or_of_lt h3 a
  rw[e32,zt]at this
  exact this.symm
 rw[this]
 have h5:((a * 4294967296+b:Nat):Int)<18446744073709551616:=Int.ofNat_lt.2 h
 exact Int.emod_eq_of_lt (Int.natCast_nonneg _) h5
end
def FD(e:TypeId)(sz:Nat)(s:AE)(v:AV)(n:Nat)(cs:List AV)(O:List Nat):Prop:=
 (v=.slice none 0 (some 0)∧n=0∧cs=[]∧O=[])∨∃i p,v=.slice (some (i,0)) n none∧G8 e 0 s.next s v n sz cs i p∧O=i::p.toList
section
variable{e sz n:Nat}{s s':AE}{v:AV}{cs:List AV}{O:List Nat}
theorem FD.nil(e sz:Nat)(s:AE):FD e sz s (.slice none 0 (some 0)) 0 [] []:=.inl ⟨rfl,rfl,rfl,rfl⟩
theorem FD.len(h:FD e sz s v n cs O):cs.length=n * sz:=by
 rcases h with⟨_,rfl,rfl,_⟩ | ⟨i,p,_,h,_⟩
 ·simp
 ·exact h.len
theorem FD.lt  (h : FD  e sz s v n cs O) : ∀ j ∈ O, j < s.next := by
  rcases h with⟨_,_,_,rfl⟩ | ⟨i,p,hv,h,rfl⟩
  · intro j hj;cases hj
  · rcases h.ex with ⟨h1, _⟩ | ⟨_, _, h2, h3, _⟩
    · rw[hv]at h1;cases h1
    · intro j hj
      rcases List.mem_cons.1 hj with rfl | hj
      · exact h2
      · cases p with
        | none=>cases hj
        | some q=>simp at hj;subst hj;exact(h3 _ rfl).2.1
theorem FD.slotO(h:FD e sz s v n cs O){j:Nat}(hj:B6 v=some j):j∈O:=by
 rcases h with⟨rfl,_⟩ | ⟨i,p,rfl,_,rfl⟩
 ·cases hj
 ·injection hj with hj;subst hj;simp
theorem FD.frame(h:FD e sz s v n cs O)(hn:s.next≤s'.next)(hf:∀j∈O,s'.heap.get j=s.heap.get j):FD e sz s' v n cs O:=by
 rcases h with h | ⟨i,p,hv,h,rfl⟩
 ·exact .inl h
 ·exact .inr ⟨i,p,hv,(h.mono hn).frame fun _ _=>hf i (by simp),rfl⟩
theorem FD.slice(h:FD e sz s v n cs O):∃a cap,v=.slice a n cap∧AS s.next s a cs:=by
 rcases h with⟨rfl,rfl,rfl,_⟩ | ⟨i,p,_,h,_⟩
 ·exact⟨none,some 0,rfl,AS.nil⟩
 ·exact h.cells
theorem FD.append  {P : Program} {st xt by_ : Nat} (ht : P.underlying st = some (.slice e)) (hs : BJ    P e = some sz) (hb : DP     P e = some by_) (h0 : 0 < sz) (hx : B0           P xt = true) (hz : DH     P e sz = true) (h : FD  e sz s v n cs O)
    {ax:Option (Nat×Nat)} {m:Nat} {cx:Option Nat} {add:List AV} (hm:0<m) (hsrc:Co P s e sz (.slice ax m cx)=some (m,add)) (ha:add.length=m * sz) (hc:Aq add=true) (h1:(n+m) * by_≤1099511627776) (h2:n+m≤1099511627776):
    ∃v' s' O',Aj P s [st,xt] [v,.slice ax m cx]=some (v',s')∧FD e sz s' v' (n+m) (cs++add) O'∧s'.next=s.next+1∧(∀j,j<s.next→j ∉ O→s'.heap.get j=s.heap.get j)∧(∀j∈O',j∈O∨s.next≤j)∧B6 v'=some s.next:=by
  have key:∀ (i:Nat) (p:Option Nat),G8 e 0 s.next s v n sz cs i p→(∀j,j<s.next→j ∉ O→j≠i∧p≠some j)→(∀j,j=i∨p=some j→j∈O∨s.next≤j) →
      ∃v' s' O',Aj P s [st,xt] [v,.slice ax m cx]=some (v',s')∧FD e sz s' v' (n+m) (cs++add) O'∧s'.next=s.next+1∧(∀j,j<s.next→j ∉ O→s'.heap.get j=s.heap.get j)∧(∀j∈O',j∈O∨s.next≤j)∧B6 v'=some s.next:=by
    intro i p hg hi hO
    obtain⟨a,cap,v',s',rfl,happ,i',p',hg',hap,_,rfl,hp',hn',_⟩:=hg.appTo (P:=P) (zU _) (ze _) hz h0 ha hm
    have hv':v'=.slice (some (s.next,0)) (n+m) none:=by
      rcases hg'.ex with⟨_,h0'⟩ | ⟨h1',_⟩
      · omega
      · exact h1'
    refine⟨v',s',s.next::p'.toList,by rw[EP ht hs hb h0 hx hsrc hc h1 h2];exact happ,.inr ⟨s.next,p',hv',hg',rfl⟩,hn',fun j hj hjO=>?_,fun j hj=>?_,by rw[hv'];rfl⟩
    · exact hap.2 j hj (hi j hj hjO).1 (hi j hj hjO).2
    · rcases List.mem_cons.1 hj with rfl | hj
      · exact .inr (zU _)
      · rcases hp' with rfl | rfl
        · cases hj
        · simp at hj;subst hj;exact hO _ (.inl rfl)
  rcases h with⟨rfl,rfl,rfl,rfl⟩ | ⟨i,p,rfl,hg,rfl⟩
  · exact key s.next none (G8.zero _ _ _ _ _ _ _) (fun j hj _=>⟨by omega,by simp⟩) (fun j hj=>by rcases hj with rfl | hj;exact .inr (zU _);cases hj)
  · refine key i p hg (fun j hj hjO => ⟨fun e => hjO (by simp [e]), fun e => hjO (by simp [e])⟩) (fun j hj => ?_)
    rcases hj with rfl | rfl<;>simp
end
section
variable{P:Program}{s:AE}{i e sz o t:Nat}{sp:Bool}{cs:List AV}{v:AV}
theorem CN(hs:BJ P t=some 1)(hg:s.heap.get i=some (R e sz sp cs))(ho:o<cs.length)(hv:v.isCell=true):
  AO P s t (.ptr (some (i,o))) v=some (setObj s i (R e sz sp (cs.set o v))):=by
 have hc:v.cells=[v]:=by cases v<;>first | rfl | cases hv
 have hl:Aq [v]=true:=by simp[Aq,hv]
 rw[Wh,hs,hc]
 have:=NL (off:=o) (vs:=[v]) hg (by show o+1≤cs.length;omega) hl
 show AQ (decide (1=1)) (C3 s i o [v])=_
 rw[this]
 rfl
theorem AI(ht:EO P t=some false)(hg:s.heap.get i=some (R e sz sp cs))(hk:cs[o]? = some v):AB P s t (.ptr (some (i,o)))=some v:=by
 rw[Wf ht,hg,Wo,hk]
theorem Gc(hg:s.heap.get i=some (R e sz sp cs)){b:Nat}(hi:i<b):AS b s (some (i,0)) cs:=fun k u hu=>⟨i,0,rfl,hi,by rw[Fh,hg,Wo,zk];exact hu⟩
end
def us(l:List Nat):List AV:=l.map A6
theorem DW(l:List Nat):(us l).length=l.length:=by simp[us]
theorem DG{l:List Nat}{k x:Nat}(h:l[k]? = some x):(us l)[k]? = some (A6 x):=by simp[us,h]
theorem Ob(a b:List Nat):us (a++b)=us a++us b:=by simp[us]
theorem Ix(l:List Nat)(k x:Nat):(us l).set k (A6 x)=us (l.set k x):=by simp[us,List.map_set]
theorem WY(l:List Nat)(k:Nat):us (l.take k)=(us l).take k:=by simp[us,A0z]
theorem JM{o:Option BF}:∀ (l:List AV)(off:Nat),(∀j u,l[j]? = some u→N9 o (off+j)=some u)→l≠[]→MY o off l.length=some l:=by
 intro l off h h0
 obtain⟨r,hr⟩:∃r,gr o=some r:=by
  cases l with
  | nil=>exact absurd rfl h0
  | cons a l =>
   have:=h 0 a rfl
   unfold N9 at this
   cases hr:gr o with
   | none=>rw[hr]at this;cases this
   | some r=>exact⟨r,rfl⟩
 have hg:∀j u,l[j]? = some u→off+j<r.n∧r.c.get (off+j)=some u:=fun j u hj=>by
  have:=h j u hj
  unfold N9 at this
  rw[hr,Option.bind_some]at this
  obtain⟨g1,g2⟩:=AD this
  exact⟨by simpa[zx]using g1,g2⟩
 have ht:∀ (m:List AV) (k:Nat),(∀j u,m[j]? = some u→r.c.get (k+j)=some u)→r.c.take k m.length=some m:=by
  intro m
  induction m with
  | nil=>intro k _;simp[Ab.take]
  | cons a m ih =>
   intro k hk
   have h1:=hk 0 a rfl
   rw[zv]at h1
   simp only[A0G,Ab.take,h1,ih (k+1) fun j u hj=>by rw[show k+1+j=k+(j+1)from by omega];exact hk (j+1) u hj]
 unfold MY
 rw[hr,Option.bind_some,ht l off fun j u hj=>(hg j u hj).2]
 have hl:off+l.length≤r.n:=by
  cases hz:l.getLast? with
  | none=>exact absurd (List.getLast?_eq_none_iff.1 hz) h0
  | some u =>
   have hlen:0<l.length:=List.length_pos_iff.2 h0
   have:=(hg (l.length - 1) l[l.length - 1] (zW (by omega))).1
   omega
 have:Nat.ble (off+l.length) r.n=true:=by rw[zh];exact hl
 rw[this];rfl
def Ck(s:AE)(i:Nat)(cs:List AV)(p:Option Nat):Prop:=∃r,s.heap.get i=some (.row r)∧Ld r cs∧EG r.mode=true∧r.sz=1∧(r.par=none∨r.par=p)
theorem Ck.keep{s s':AE}{i:Nat}{cs:List AV}{p:Option Nat}(h:Ck s i cs p)(k:s'.heap.get i=s.heap.get i):Ck s' i cs p:=by
 obtain⟨r,h1,h2⟩:=h
 exact⟨r,k.trans h1,h2⟩
theorem Ck.of_R{s:AE}{i e:Nat}{sp:Bool}{cs:List AV}(h:s.heap.get i=some (R e 1 sp cs)):Ck s i cs none:=
 ⟨{ elem:=e,sz:=1,n:=cs.length,c:=Ub cs,spare:=sp,mode:=.own,par:=none,bytes:=true },h,⟨rfl,fun k u hk=>by
  show(Ub cs).get k=_
  rw[Po];exact hk⟩,rfl,rfl,.inl rfl⟩
theorem HS{P:Program}{s:AE}{i o t:Nat}{cs:List AV}{p:Option Nat}{v:AV}(ht:EO P t=some false)(h:Ck s i cs p)(hk:cs[o]? = some v):AB P s t (.ptr (some (i,o)))=some v:=by
 obtain⟨r,h1,h2,_⟩:=h
 have ho:o<cs.length:=by
  rcases zX o cs.length with h' | h'
  ·exact h'
  ·rw[zj h']at hk;cases hk
 exact Bq ht (GE h1 (by rw[h2.1];exact ho) (h2.2 o v hk))
theorem Hn{s:AE}{i:Nat}{cs:List AV}{p:Option Nat}(h:Ck s i cs p){b:Nat}(hi:i<b):AS b s (some (i,0)) cs:=fun k u hu=>by
 obtain⟨r,h1,h2,_⟩:=h
 have ho:k<cs.length:=by
  rcases zX k cs.length with h' | h'
  ·exact h'
  ·rw[zj h']at hu;cases hu
 exact⟨i,0,rfl,hi,GE h1 (by rw[h2.1];omega) (by rw[zk];exact h2.2 k u hu)⟩
theorem Ec        {P : Program} {s : AE}  {i o t : Nat} {cs : List AV} {p : Option Nat} {v : AV} (hs : BJ    P t = some 1) (h : Ck   s i cs p) (ho : o < cs.length) (hv : v.isCell = true) :
    ∃s',AO P s t (.ptr (some (i,o))) v=some s'∧Ck s' i (cs.set o v) p∧s'.next=s.next∧∀j,j≠i→some j≠p→s'.heap.get j=s.heap.get j:=by
  obtain⟨r,h1,h2,h3,h4,h5⟩:=h
  have hc:v.cells=[v]:=by cases v<;>first | rfl | cases hv
  have hrow:rowAt s i=some r:=by unfold rowAt;rw[h1]
  have hb:Nat.ble (o+1) r.n=true:=CU (by rw[h2.1];omega)
  have hal:Aq [v]=true:=by simp[Aq,hv]
  have est:AO P s t (.ptr (some (i,o))) v=some (setObj (BT s i r) i (.row { r with c:=r.c.fill o [v],par:=none })):=by
    rw[Wh,hs,hc]
    show AQ (decide (1=1)) (C3 s i o [v])=_
    show(rowAt s i).bind _=_
    rw[hrow]
    show AQ (EG r.mode && Nat.ble (o+1) r.n && Aq [v]) _=_
    rw[h3,hb,hal]
    rfl
  have hun:(BT s i r).next=s.next∧∀j,some j≠p→(BT s i r).heap.get j=s.heap.get j:=by
    unfold BT
    rcases h5 with h5 | h5
    · rw[h5];exact⟨rfl,fun j _=>rfl⟩
    · rw[h5]
      cases p with
      | none=>exact⟨rfl,fun j _=>rfl⟩
      | some q =>
        simp only
        cases hbq:Nat.beq q i with
        | true=>exact⟨rfl,fun j _=>rfl⟩
        | false =>
          refine⟨rfl,fun j hj=>?_⟩
          show(Cg s q).heap.get j=_
          rw[HL,if_neg]
          intro e
          exact hj (by rw[e])
  refine⟨_,est,⟨{ r with c:=r.c.fill o [v],par:=none },Ww _ _ _,⟨by show r.n=_;rw[h2.1,A0j],fun k u hu=>?_⟩,h3,h4,.inl rfl⟩,hun.1,fun j hj hjp=>(Wx _ hj).trans (hun.2 j hjp)⟩
  show(r.c.fill o [v]).get k=some u
  rw[Ab.get_fill]
  by_cases hk:k=o
  · subst hk
    rw[A1f ho]at hu
    rw[if_pos ⟨zU _,by simp⟩,A1M]
    exact hu
  · rw [A1A                  (Ne.symm hk)] at hu
    rw[if_neg (by simp;omega)]
    exact h2.2 k u hu
structure Ex(s s':AE)(i:Nat)(p:Option Nat):Prop where
 next:s'.next=s.next
 get:∀j,j≠i→some j≠p→s'.heap.get j=s.heap.get j
theorem Ex.refl(s:AE)(i:Nat)(p:Option Nat):Ex s s i p:=⟨rfl,fun _ _ _=>rfl⟩
theorem Ex.step{s s' s2:AE}{i:Nat}{p:Option Nat}(h:Ex s s' i p)(h1:s2.next=s'.next)(h2:∀j,j≠i→some j≠p→s2.heap.get j=s'.heap.get j):Ex s s2 i p:=⟨h1.trans h.next,fun j hj hp=>(h2 j hj hp).trans (h.get j hj hp)⟩
end
end Go.Proofs.YtjnkfbpadpmakaaGreatDoor.Am
set_option linter.unusedVariables false
set_option linter.unusedSimpArgs false
set_option maxRecDepth 100000
namespace Go.Proofs.YtjnkfbpadpmakaaGreatDoor.Am
open Go Go.Proofs
noncomputable section
theorem Jm:BJ Tryz.prog 3=some 1:=by kernel_rfl
theorem xQ:DP Tryz.prog 3=some 8:=by kernel_rfl
theorem lH:EO Tryz.prog 3=some false:=by kernel_rfl
theorem zr3:EM Tryz.prog 3=some (.int .i64 (0)):=by kernel_rfl
theorem TB:BJ Tryz.prog 4=some 1:=by kernel_rfl
theorem xZ:DP Tryz.prog 4=some 1:=by kernel_rfl
theorem Gz:EO Tryz.prog 4=some false:=by kernel_rfl
theorem zr4:EM Tryz.prog 4=some (.bool false):=by kernel_rfl
theorem iB:BJ Tryz.prog 22=some 1:=by kernel_rfl
theorem Cq:EO Tryz.prog 22=some false:=by kernel_rfl
theorem C5:BJ Tryz.prog 76=some 1:=by kernel_rfl
theorem W7:DP Tryz.prog 76=some 4:=by kernel_rfl
theorem G5:EO Tryz.prog 76=some false:=by kernel_rfl
theorem yG:EM Tryz.prog 76=some (.int .u32 (0)):=by kernel_rfl
theorem iC:BJ Tryz.prog 69=some 1:=by kernel_rfl
theorem YH:EO Tryz.prog 69=some false:=by kernel_rfl
abbrev A1m (t:TypeId) (x:CX):AA:=⟨none,.r1 (fun s a=>AB Tryz.prog s t a),[x],.push,[]⟩
abbrev A1n (t:TypeId) (i:Nat) (x:CX):AA:=⟨none,.p1 (fun x=>AC Tryz.prog t x i),[x],.push,[]⟩
abbrev A1o (t:TypeId) (x y:CX):AA:=⟨none,.e (fun s=>Xy (fun a x=>Za (AO Tryz.prog s t a x))),[x,y],.push,[]⟩
abbrev A1p (x:CX) (i:Nat):AA:=⟨none,.p1 some,[x],(.set i),[]⟩
abbrev A1q (t:TypeId) (x:CX) (i:Nat):AA:=⟨none,.mk (fun l=>match l with | [v]=>BV t v | _=>none),[x],(.set i),[]⟩
abbrev A1r (t:TypeId) (i:Nat):AA:=⟨none,.mk (fun l=>match l with | []=>Ag Tryz.prog t | _=>none),[],(.set i),[]⟩
abbrev A1s (t:TypeId) (x:CX):AA:=⟨none,.r (fun s l=>match l with | [x]=>Ay Tryz.prog s t x | _=>none),[x],.push,[]⟩
abbrev A1t (x:CX):AA:=⟨none,.p1 some,[x],.push,[]⟩
abbrev A1u (f:FuncId) (l:List CX):AA:=⟨none,.call f,l,.push,[]⟩
abbrev A1v (t:TypeId) (x y:CX):AA:=⟨none,.p2 (AJ Tryz.prog t),[x,y],.push,[]⟩
abbrev A1w (o:BinOp) (t:TypeId) (x y:CX):AA:=⟨none,.p2 (AN Tryz.prog o t),[x,y],.push,[]⟩
abbrev A1x (o:BinOp) (t:TypeId) (x y:CX) (i:Nat):AA:=⟨none,.p2 (AN Tryz.prog o t),[x,y],(.set i),[]⟩
def eI:List AA:=[
 A1p (.const (.slice none 0 (some 0))) 1]
def eJ:List AA:=[
 A1s 22 (.var 0),
 A1p (.loc 0) 2]
def Vh:List AA:=[
 ⟨none,.p2 (AN Tryz.prog .gtr 3),[(.var 2),(.const (.int .i64 (0)))],.push,[]⟩,
 ⟨(some ((.loc 0),true)),.p1 some,[.var 0],.push,[]⟩,
 ⟨(some ((.loc 1),true)),.p1 some,[.var 2],.push,[]⟩,
 ⟨(some ((.loc 2),true)),.p2 (AN Tryz.prog .sub 3),[(.loc 0),(.const (.int .i64 (1)))],.push,[]⟩,
 ⟨(some ((.loc 3),true)),.p2 (AJ Tryz.prog 22),[.loc 2,.loc 0],.push,[]⟩,
 ⟨(some ((.loc 4),true)),.r1 (fun s a=>AB Tryz.prog s 76 a),[.loc 0],.push,[]⟩,
 ⟨(some ((.loc 5),true)),.p2 (AN Tryz.prog .eql 76),[(.loc 0),(.const (.int .u32 (0)))],.push,[]⟩,
 ⟨none,.p Ru,[(.loc 6),(.loc 0),(.const (.bool false))],(.set 3),[]⟩]
def qq:List AA:=[
 A1t (.var 2),
 ⟨none,.p2 (AN Tryz.prog .sub 3),[(.loc 0),(.const (.int .i64 (1)))],.push,[]⟩,
 A1p (.loc 0) 2]
def Np:Ac:=(.seq (.seq (.ops Vh) (.cond (.var 3)
 .skip
 (.exit 0))) (.block 1 (.ops qq)))
def eK:List AA:=[
 ⟨none,.r (At Tryz.prog 22 false true false),[.var 0,.var 2],.push,[]⟩,
 A1u 136 [.loc 0],
 A1p (.loc 0) 1]
def xg:Ah:=⟨1,4,(.seq (.ops eI) (.seq (.ops eJ) (.seq (.block 0 (.loop Np)) (.seq (.ops eK) .ret)))),[((.var 1),none)]⟩
def PC:List AA:=[
 A1p (.const (.slice none 0 (some 0))) 1]
def PD:List AA:=[
 ⟨none,.p2 (AN Tryz.prog .eql 22),[(.var 0),(.const (.slice none 0 (some 0)))],(.set 2),[]⟩]
def TY:List AA:=[
 A1p (.const (.slice none 0 (some 0))) 1]
def Z6:List AA:=[
 ⟨none,.mk (fun l=>(Ad Tryz.prog 22 0 (zipIdx [] l)).bind fun r=>some (r,.slice 0)),[],.push,[]⟩,
 ⟨none,.e (fun s l=>Aj Tryz.prog s [22,22] l),[.loc 0,.var 0],.push,[]⟩,
 A1p (.loc 0) 1]
def iu:Ah:=⟨1,3,(.seq (.ops PC) (.seq (.seq (.ops PD) (.cond (.var 2)
 (.seq (.ops TY) .ret)
 .skip)) (.seq (.ops Z6) .ret))),[((.var 1),none)]⟩
def oB:List AA:=[
 A1p (.const (.slice none 0 (some 0))) 1]
def oC:List AA:=[
 ⟨none,.p2 (AN Tryz.prog .and 69),[(.var 0),(.const (.int .u64 (4294967295)))],.push,[]⟩,
 ⟨none,.r1 (fun s x=>A7 Tryz.prog s 69 76 x),[.loc 0],.push,[]⟩,
 ⟨none,.p2 (AN Tryz.prog .shr 69),[(.var 0),(.const (.int .u64 (32)))],.push,[]⟩,
 ⟨none,.r1 (fun s x=>A7 Tryz.prog s 69 76 x),[.loc 0],.push,[]⟩,
 ⟨none,.mk (fun l=>(Ad Tryz.prog 22 2 (zipIdx [0,1] l)).bind fun r=>some (r,.slice 2)),[.loc 2,.loc 0],.push,[]⟩,
 A1u 92 [.loc 0],
 A1p (.loc 0) 1]
def yh:Ah:=⟨1,2,(.seq (.ops oB) (.seq (.ops oC) .ret)),[((.var 1),none)]⟩
def qr:List AA:=[
 A1p (.const (.int .i64 (0))) 2]
def qt:List AA:=[
 A1t (.var 0),
 A1u 92 [.loc 0],
 A1t (.var 1),
 A1u 92 [.loc 0],
 A1p (.loc 2) 0,
 A1p (.loc 0) 1]
def Vi:List AA:=[
 A1s 22 (.var 0),
 A1s 22 (.var 1),
 A1w .lss 3 (.loc 1) (.loc 0),
 A1p (.loc 0) 4]
def qu:List AA:=[
 A1p (.const (.int .i64 (-1))) 2]
def eO:List AA:=[
 A1s 22 (.var 0),
 A1s 22 (.var 1),
 A1w .gtr 3 (.loc 1) (.loc 0),
 A1p (.loc 0) 5]
def qv:List AA:=[
 A1p (.const (.int .i64 (1))) 2]
def qw:List AA:=[
 A1s 22 (.var 0),
 ⟨none,.p2 (AN Tryz.prog .sub 3),[(.loc 0),(.const (.int .i64 (1)))],.push,[]⟩,
 A1p (.loc 0) 3]
def RF:List AA:=[
 ⟨none,.p2 (AN Tryz.prog .geq 3),[(.var 3),(.const (.int .i64 (0)))],(.set 6),[]⟩]
def Vj:List AA:=[
 A1v 22 (.var 0) (.var 3),
 A1m 76 (.loc 0),
 A1v 22 (.var 1) (.var 3),
 A1m 76 (.loc 0),
 A1w .lss 76 (.loc 2) (.loc 0),
 A1p (.loc 0) 7]
def qy:List AA:=[
 A1p (.const (.int .i64 (-1))) 2]
def Ty:List AA:=[
 A1v 22 (.var 0) (.var 3),
 A1m 76 (.loc 0),
 A1v 22 (.var 1) (.var 3),
 A1m 76 (.loc 0),
 A1w .gtr 76 (.loc 2) (.loc 0),
 A1p (.loc 0) 8]
def eL:List AA:=[
 A1p (.const (.int .i64 (1))) 2]
def eM:List AA:=[
 A1t (.var 3),
 ⟨none,.p2 (AN Tryz.prog .sub 3),[(.loc 0),(.const (.int .i64 (1)))],.push,[]⟩,
 A1p (.loc 0) 3]
def Ib:Ac:=(.seq (.seq (.ops RF) (.cond (.var 6)
 .skip
 (.exit 1))) (.seq (.block 2 (.block 3 (.seq (.ops Vj) (.cond (.var 7)
 (.seq (.ops qy) .ret)
 (.seq (.ops Ty) (.cond (.var 8)
 (.seq (.ops eL) .ret)
 .skip)))))) (.ops eM)))
def eN:List AA:=[
 A1p (.const (.int .i64 (0))) 2]
def zM:Ah:=⟨2,9,(.seq (.ops qr) (.seq (.ops qt) (.seq (.block 0 (.seq (.ops Vi) (.cond (.var 4)
 (.seq (.ops qu) .ret)
 (.seq (.ops eO) (.cond (.var 5)
 (.seq (.ops qv) .ret)
 .skip))))) (.seq (.seq (.ops qw) (.block 1 (.loop Ib))) (.seq (.ops eN) .ret))))),[((.var 2),none)]⟩
def Z7:List AA:=[
 A1p (.const (.slice none 0 (some 0))) 3]
def Z8:List AA:=[
 A1p (.const (.slice none 0 (some 0))) 4]
def Z9:List AA:=[
 A1p (.var 0) 6,
 ⟨none,.r (fun s l=>match l with | [x]=>Ay Tryz.prog s 22 x | _=>none),[.var 6],(.set 7),[]⟩,
 A1p (.const (.int .i64 (0))) 8]
def TZ:List AA:=[
 A1x .lss 3 (.var 8) (.var 7) 9]
def aC:List AA:=[
 A1v 22 (.var 6) (.var 8),
 A1m 76 (.loc 0),
 A1p (.loc 0) 5]
def aE:List AA:=[
 A1t (.var 2),
 ⟨none,.r1 (fun s x=>A7 Tryz.prog s 76 69 x),[.var 5],.push,[]⟩,
 A1w .mul 69 (.var 1) (.loc 0),
 A1w .add 69 (.loc 2) (.loc 0),
 A1p (.loc 0) 2]
def aF:List AA:=[
 A1t (.var 4),
 ⟨none,.p2 (AN Tryz.prog .and 69),[(.var 2),(.const (.int .u64 (4294967295)))],.push,[]⟩,
 ⟨none,.r1 (fun s x=>A7 Tryz.prog s 69 76 x),[.loc 0],.push,[]⟩,
 ⟨none,.mk (fun l=>(Ad Tryz.prog 22 1 (zipIdx [0] l)).bind fun r=>some (r,.slice 1)),[.loc 0],.push,[]⟩,
 ⟨none,.e (fun s l=>Aj Tryz.prog s [22,22] l),[.loc 3,.loc 0],.push,[]⟩,
 A1p (.loc 0) 4]
def aG:List AA:=[
 A1t (.var 2),
 ⟨none,.p2 (AN Tryz.prog .shr 69),[(.loc 0),(.const (.int .u64 (32)))],.push,[]⟩,
 A1p (.loc 0) 2]
def aH:List AA:=[
 ⟨none,.p2 (AN Tryz.prog .add 3),[(.var 8),(.const (.int .i64 (1)))],.push,[]⟩,
 A1p (.loc 0) 8]
def Lt:Ac:=(.seq (.ops TZ) (.seq (.cond (.var 9)
 .skip
 (.exit 0)) (.seq (.block 1 (.seq (.ops aC) (.seq (.ops aE) (.seq (.ops aF) (.ops aG))))) (.ops aH))))
def VS:List AA:=[
 ⟨none,.r1 (fun s x=>A7 Tryz.prog s 69 76 x),[.var 2],.push,[]⟩,
 ⟨none,.mk (fun l=>(Ad Tryz.prog 22 1 (zipIdx [0] l)).bind fun r=>some (r,.slice 1)),[.loc 0],.push,[]⟩,
 ⟨none,.e (fun s l=>Aj Tryz.prog s [22,22] l),[.var 4,.loc 0],.push,[]⟩,
 A1p (.loc 0) 3]
def wB:Ah:=⟨3,10,(.seq (.ops Z7) (.seq (.ops Z8) (.seq (.seq (.ops Z9) (.block 0 (.loop Lt))) (.seq (.ops VS) .ret)))),[((.var 3),none)]⟩
def rH:List AA:=[
 A1p (.const (.slice none 0 (some 0))) 2]
def rI:List AA:=[
 ⟨none,.p2 (AN Tryz.prog .shl 69),[(.const (.int .u64 (1))),(.var 1)],.push,[]⟩,
 A1u 137 [(.var 0),(.loc 0),(.const (.int .u64 (0)))],
 A1p (.loc 0) 2]
def zO:Ah:=⟨2,3,(.seq (.ops rH) (.seq (.ops rI) .ret)),[((.var 2),none)]⟩
def qz:List AA:=[
 A1p (.const (.slice none 0 (some 0))) 2,
 ⟨none,.p1 some,[(.const (.int .u64 (0)))],(.set 3),[]⟩]
def rA:List AA:=[
 A1s 22 (.var 0),
 ⟨none,.mk (Xy (Bb Tryz.prog 22)),[.loc 0,.loc 0],.push,[]⟩,
 A1p (.loc 0) 2]
def rB:List AA:=[
 A1s 22 (.var 0),
 ⟨none,.p2 (AN Tryz.prog .sub 3),[(.loc 0),(.const (.int .i64 (1)))],.push,[]⟩,
 A1p (.loc 0) 4]
def eP:List AA:=[
 ⟨none,.p2 (AN Tryz.prog .geq 3),[(.var 4),(.const (.int .i64 (0)))],(.set 5),[]⟩]
def rC:List AA:=[
 A1t (.var 3),
 ⟨none,.p2 (AN Tryz.prog .shl 69),[(.loc 0),(.const (.int .u64 (32)))],.push,[]⟩,
 A1v 22 (.var 0) (.var 4),
 A1m 76 (.loc 0),
 ⟨none,.r1 (fun s x=>A7 Tryz.prog s 76 69 x),[.loc 0],.push,[]⟩,
 A1w .or 69 (.loc 3) (.loc 0),
 A1p (.loc 0) 3]
def rD:List AA:=[
 A1w .quo 69 (.var 3) (.var 1),
 ⟨none,.r1 (fun s x=>A7 Tryz.prog s 69 76 x),[.loc 0],.push,[]⟩,
 A1v 22 (.var 2) (.var 4),
 A1o 76 (.loc 0) (.loc 1)]
def rE:List AA:=[
 A1t (.var 3),
 A1w .rem 69 (.loc 0) (.var 1),
 A1p (.loc 0) 3]
def rF:List AA:=[
 A1t (.var 4),
 ⟨none,.p2 (AN Tryz.prog .sub 3),[(.loc 0),(.const (.int .i64 (1)))],.push,[]⟩,
 A1p (.loc 0) 4]
def RG:Ac:=(.seq (.seq (.ops eP) (.cond (.var 5)
 .skip
 (.exit 0))) (.seq (.block 1 (.seq (.ops rC) (.seq (.ops rD) (.ops rE)))) (.ops rF)))
def rG:List AA:=[
 A1t (.var 2),
 A1u 92 [.loc 0],
 A1t (.var 3),
 A1p (.loc 1) 2,
 A1p (.loc 0) 3]
def zN:Ah:=⟨2,6,(.seq (.ops qz) (.seq (.ops rA) (.seq (.seq (.ops rB) (.block 0 (.loop RG))) (.seq (.ops rG) .ret)))),[((.var 2),none),((.var 3),none)]⟩
def rJ:List AA:=[
 ⟨none,.p1 some,[(.const (.int .u64 (0)))],(.set 2),[]⟩]
def rK:List AA:=[
 A1s 22 (.var 1),
 A1p (.loc 0) 3]
def rL:List AA:=[
 A1v 22 (.var 0) (.var 3),
 A1m 76 (.loc 0),
 ⟨none,.r1 (fun s x=>A7 Tryz.prog s 76 69 x),[.loc 0],.push,[]⟩,
 ⟨none,.p2 (AN Tryz.prog .shl 69),[(.loc 0),(.const (.int .u64 (32)))],.push,[]⟩,
 ⟨none,.p2 (AN Tryz.prog .sub 3),[(.var 3),(.const (.int .i64 (1)))],.push,[]⟩,
 A1v 22 (.var 0) (.loc 0),
 A1m 76 (.loc 0),
 ⟨none,.r1 (fun s x=>A7 Tryz.prog s 76 69 x),[.loc 0],.push,[]⟩,
 A1w .or 69 (.loc 4) (.loc 0),
 A1p (.loc 0) 4]
def rM:List AA:=[
 ⟨none,.p2 (AN Tryz.prog .sub 3),[(.var 3),(.const (.int .i64 (1)))],.push,[]⟩,
 A1v 22 (.var 1) (.loc 0),
 A1m 76 (.loc 0),
 ⟨none,.r1 (fun s x=>A7 Tryz.prog s 76 69 x),[.loc 0],.push,[]⟩,
 A1w .quo 69 (.var 4) (.loc 0),
 ⟨none,.p2 (AN Tryz.prog .sub 3),[(.var 3),(.const (.int .i64 (1)))],.push,[]⟩,
 A1v 22 (.var 1) (.loc 0),
 A1m 76 (.loc 0),
 ⟨none,.r1 (fun s x=>A7 Tryz.prog s 76 69 x),[.loc 0],.push,[]⟩,
 A1w .rem 69 (.var 4) (.loc 0),
 A1p (.loc 5) 5,
 A1p (.loc 0) 6]
def Nq:List AA:=[
 ⟨none,.p2 (AN Tryz.prog .gtr 69),[(.var 5),(.const (.int .u64 (4294967295)))],.push,[]⟩,
 ⟨(some ((.loc 0),false)),.p1 some,[.var 5],.push,[]⟩,
 ⟨(some ((.loc 1),false)),.p1 some,[.var 1],.push,[]⟩,
 ⟨(some ((.loc 2),false)),.p1 some,[.var 3],.push,[]⟩,
 ⟨(some ((.loc 3),false)),.p2 (AN Tryz.prog .sub 3),[(.loc 0),(.const (.int .i64 (2)))],.push,[]⟩,
 ⟨(some ((.loc 4),false)),.p2 (AJ Tryz.prog 22),[.loc 2,.loc 0],.push,[]⟩,
 ⟨(some ((.loc 5),false)),.r1 (fun s a=>AB Tryz.prog s 76 a),[.loc 0],.push,[]⟩,
 ⟨(some ((.loc 6),false)),.r1 (fun s x=>A7 Tryz.prog s 76 69 x),[.loc 0],.push,[]⟩,
 ⟨(some ((.loc 7),false)),.p2 (AN Tryz.prog .mul 69),[.loc 6,.loc 0],.push,[]⟩,
 ⟨(some ((.loc 8),false)),.p1 some,[.var 6],.push,[]⟩,
 ⟨(some ((.loc 9),false)),.p2 (AN Tryz.prog .shl 69),[(.loc 0),(.const (.int .u64 (32)))],.push,[]⟩,
 ⟨(some ((.loc 10),false)),.p1 some,[.var 0],.push,[]⟩,
 ⟨(some ((.loc 11),false)),.p1 some,[.var 3],.push,[]⟩,
 ⟨(some ((.loc 12),false)),.p2 (AN Tryz.prog .sub 3),[(.loc 0),(.const (.int .i64 (2)))],.push,[]⟩,
 ⟨(some ((.loc 13),false)),.p2 (AJ Tryz.prog 22),[.loc 2,.loc 0],.push,[]⟩,
 ⟨(some ((.loc 14),false)),.r1 (fun s a=>AB Tryz.prog s 76 a),[.loc 0],.push,[]⟩,
 ⟨(some ((.loc 15),false)),.r1 (fun s x=>A7 Tryz.prog s 76 69 x),[.loc 0],.push,[]⟩,
 ⟨(some ((.loc 16),false)),.p2 (AN Tryz.prog .or 69),[.loc 6,.loc 0],.push,[]⟩,
 ⟨(some ((.loc 17),false)),.p2 (AN Tryz.prog .gtr 69),[.loc 9,.loc 0],.push,[]⟩,
 ⟨none,.p Ru,[(.loc 18),(.const (.bool true)),(.loc 0)],(.set 7),[]⟩]
def RH:List AA:=[
 A1t (.var 5),
 ⟨none,.p2 (AN Tryz.prog .sub 69),[(.loc 0),(.const (.int .u64 (1)))],.push,[]⟩,
 A1p (.loc 0) 5]
def RI:List AA:=[
 A1t (.var 6),
 ⟨none,.p2 (AN Tryz.prog .sub 3),[(.var 3),(.const (.int .i64 (1)))],.push,[]⟩,
 A1v 22 (.var 1) (.loc 0),
 A1m 76 (.loc 0),
 ⟨none,.r1 (fun s x=>A7 Tryz.prog s 76 69 x),[.loc 0],.push,[]⟩,
 A1w .add 69 (.loc 4) (.loc 0),
 A1p (.loc 0) 6]
def RJ:List AA:=[
 ⟨none,.p2 (AN Tryz.prog .gtr 69),[(.var 6),(.const (.int .u64 (4294967295)))],(.set 8),[]⟩]
def L4:Ac:=(.seq (.seq (.ops Nq) (.cond (.var 7)
 .skip
 (.exit 0))) (.block 1 (.seq (.ops RH) (.seq (.ops RI) (.seq (.ops RJ) (.cond (.var 8)
 (.exit 0)
 .skip))))))
def rN:List AA:=[
 A1p (.var 5) 2]
def zP:Ah:=⟨2,9,(.seq (.ops rJ) (.seq (.ops rK) (.seq (.ops rL) (.seq (.ops rM) (.seq (.block 0 (.loop L4)) (.seq (.ops rN) .ret)))))),[((.var 2),none)]⟩
def rO:List AA:=[
 A1p (.const (.bool false)) 3]
def rP:List AA:=[
 ⟨none,.p1 some,[(.const (.int .u64 (0)))],(.set 4),[]⟩,
 ⟨none,.p1 some,[(.const (.int .u64 (0)))],(.set 5),[]⟩]
def rQ:List AA:=[
 A1u 136 [.var 1],
 ⟨none,.mk (fun l=>(Ad Tryz.prog 22 1 (zipIdx [0] l)).bind fun r=>some (r,.slice 1)),[(.const (.int .u32 (0)))],.push,[]⟩,
 ⟨none,.e (fun s l=>Aj Tryz.prog s [22,22] l),[.loc 1,.loc 0],(.set 9),[]⟩,
 ⟨none,.r (fun s l=>match l with | [x]=>Ay Tryz.prog s 22 x | _=>none),[.var 9],(.set 10),[]⟩,
 A1p (.const (.int .i64 (0))) 11]
def eS:List AA:=[
 A1x .lss 3 (.var 11) (.var 10) 12]
def rR:List AA:=[
 A1v 22 (.var 9) (.var 11),
 A1m 76 (.loc 0),
 A1p (.var 11) 6,
 A1p (.loc 0) 7]
def rS:List AA:=[
 A1t (.var 4),
 ⟨none,.r1 (fun s x=>A7 Tryz.prog s 76 69 x),[.var 7],.push,[]⟩,
 A1w .mul 69 (.var 2) (.loc 0),
 A1w .add 69 (.loc 2) (.loc 0),
 A1p (.loc 0) 4]
def rT:List AA:=[
 A1v 22 (.var 0) (.var 6),
 A1m 76 (.loc 0),
 ⟨none,.r1 (fun s x=>A7 Tryz.prog s 76 69 x),[.loc 0],.push,[]⟩,
 ⟨none,.p2 (AN Tryz.prog .and 69),[(.var 4),(.const (.int .u64 (4294967295)))],.push,[]⟩,
 A1w .sub 69 (.loc 1) (.loc 0),
 A1w .sub 69 (.loc 0) (.var 5),
 A1p (.loc 0) 8]
def rU:List AA:=[
 ⟨none,.p2 (AN Tryz.prog .and 69),[(.var 8),(.const (.int .u64 (4294967295)))],.push,[]⟩,
 ⟨none,.r1 (fun s x=>A7 Tryz.prog s 69 76 x),[.loc 0],.push,[]⟩,
 A1v 22 (.var 0) (.var 6),
 A1o 76 (.loc 0) (.loc 1)]
def rV:List AA:=[
 A1t (.var 4),
 ⟨none,.p2 (AN Tryz.prog .shr 69),[(.loc 0),(.const (.int .u64 (32)))],.push,[]⟩,
 A1p (.loc 0) 4]
def rW:List AA:=[
 ⟨none,.p2 (AN Tryz.prog .shr 69),[(.var 8),(.const (.int .u64 (63)))],.push,[]⟩,
 A1p (.loc 0) 5]
def eQ:List AA:=[
 ⟨none,.p2 (AN Tryz.prog .add 3),[(.var 11),(.const (.int .i64 (1)))],.push,[]⟩,
 A1p (.loc 0) 11]
def L5:Ac:=(.seq (.ops eS) (.seq (.cond (.var 12)
 .skip
 (.exit 0)) (.seq (.block 1 (.seq (.ops rR) (.seq (.ops rS) (.seq (.ops rT) (.seq (.ops rU) (.seq (.ops rV) (.ops rW))))))) (.ops eQ))))
def eR:List AA:=[
 ⟨none,.p2 (AN Tryz.prog .gtr 69),[(.var 5),(.const (.int .u64 (0)))],.push,[]⟩,
 A1p (.loc 0) 3]
def zQ:Ah:=⟨3,13,(.seq (.ops rO) (.seq (.ops rP) (.seq (.seq (.ops rQ) (.block 0 (.loop L5))) (.seq (.ops eR) .ret)))),[((.var 3),none)]⟩
def rX:List AA:=[
 ⟨none,.p1 some,[(.const (.int .u64 (0)))],(.set 2),[]⟩]
def rY:List AA:=[
 A1u 136 [.var 1],
 ⟨none,.mk (fun l=>(Ad Tryz.prog 22 1 (zipIdx [0] l)).bind fun r=>some (r,.slice 1)),[(.const (.int .u32 (0)))],.push,[]⟩,
 ⟨none,.e (fun s l=>Aj Tryz.prog s [22,22] l),[.loc 1,.loc 0],(.set 5),[]⟩,
 ⟨none,.r (fun s l=>match l with | [x]=>Ay Tryz.prog s 22 x | _=>none),[.var 5],(.set 6),[]⟩,
 A1p (.const (.int .i64 (0))) 7]
def eT:List AA:=[
 A1x .lss 3 (.var 7) (.var 6) 8]
def rZ:List AA:=[
 A1v 22 (.var 5) (.var 7),
 A1m 76 (.loc 0),
 A1p (.var 7) 3,
 A1p (.loc 0) 4]
def re:List AA:=[
 A1t (.var 2),
 A1v 22 (.var 0) (.var 3),
 A1m 76 (.loc 0),
 ⟨none,.r1 (fun s x=>A7 Tryz.prog s 76 69 x),[.loc 0],.push,[]⟩,
 ⟨none,.r1 (fun s x=>A7 Tryz.prog s 76 69 x),[.var 4],.push,[]⟩,
 A1w .add 69 (.loc 1) (.loc 0),
 A1w .add 69 (.loc 5) (.loc 0),
 A1p (.loc 0) 2]
def rf:List AA:=[
 ⟨none,.p2 (AN Tryz.prog .and 69),[(.var 2),(.const (.int .u64 (4294967295)))],.push,[]⟩,
 ⟨none,.r1 (fun s x=>A7 Tryz.prog s 69 76 x),[.loc 0],.push,[]⟩,
 A1v 22 (.var 0) (.var 3),
 A1o 76 (.loc 0) (.loc 1)]
def rh:List AA:=[
 A1t (.var 2),
 ⟨none,.p2 (AN Tryz.prog .shr 69),[(.loc 0),(.const (.int .u64 (32)))],.push,[]⟩,
 A1p (.loc 0) 2]
def rl:List AA:=[
 ⟨none,.p2 (AN Tryz.prog .add 3),[(.var 7),(.const (.int .i64 (1)))],.push,[]⟩,
 A1p (.loc 0) 7]
def RK:Ac:=(.seq (.ops eT) (.seq (.cond (.var 8)
 .skip
 (.exit 0)) (.seq (.block 1 (.seq (.ops rZ) (.seq (.ops re) (.seq (.ops rf) (.ops rh))))) (.ops rl))))
def zR:Ah:=⟨2,9,(.seq (.ops rX) (.seq (.ops rY) (.block 0 (.loop RK)))),[]⟩
def oI:List AA:=[
 A1p (.const (.slice none 0 (some 0))) 2,
 A1p (.const (.slice none 0 (some 0))) 3,
 A1p (.const (.int .i64 (0))) 4]
def oJ:List AA:=[
 A1t (.var 0),
 A1u 92 [.loc 0],
 A1t (.var 1),
 A1u 92 [.loc 0],
 A1p (.loc 2) 0,
 A1p (.loc 0) 1]
def dM:List AA:=[
 A1s 22 (.var 1),
 ⟨none,.p2 (AN Tryz.prog .eql 3),[(.loc 0),(.const (.int .i64 (0)))],.push,[]⟩,
 A1p (.loc 0) 13]
def oK:List AA:=[
 A1p (.const (.slice none 0 (some 0))) 2,
 A1p (.const (.slice none 0 (some 0))) 3,
 A1p (.const (.int .i64 (3))) 4]
def oL:List AA:=[
 A1u 93 [.var 0,.var 1],
 ⟨none,.p2 (AN Tryz.prog .lss 3),[(.loc 0),(.const (.int .i64 (0)))],.push,[]⟩,
 A1p (.loc 0) 14]
def oM:List AA:=[
 A1p (.const (.slice none 0 (some 0))) 2,
 A1p (.var 0) 3,
 A1p (.const (.int .i64 (0))) 4]
def dR:List AA:=[
 A1s 22 (.var 1),
 ⟨none,.p2 (AN Tryz.prog .eql 3),[(.loc 0),(.const (.int .i64 (1)))],.push,[]⟩,
 A1p (.loc 0) 15]
def oN:List AA:=[
 ⟨none,.p2 (AJ Tryz.prog 22),[(.var 1),(.const (.int .i64 (0)))],.push,[]⟩,
 A1m 76 (.loc 0),
 ⟨none,.r1 (fun s x=>A7 Tryz.prog s 76 69 x),[.loc 0],.push,[]⟩,
 A1u 94 [.var 0,.loc 0],
 ⟨none,.p1 (fun x=>Zb x 0),[.loc 0],.push,[]⟩,
 ⟨none,.p1 (fun x=>Zb x 1),[.loc 1],.push,[]⟩,
 A1p (.loc 1) 5,
 A1p (.loc 0) 6]
def oO:List AA:=[
 A1u 48 [.var 6],
 A1p (.var 5) 2,
 A1p (.loc 0) 3,
 A1p (.const (.int .i64 (0))) 4]
def oP:List AA:=[
 ⟨none,.p1 some,[(.const (.int .u64 (0)))],(.set 7),[]⟩]
def Tu:List AA:=[
 A1s 22 (.var 1),
 ⟨none,.p2 (AN Tryz.prog .sub 3),[(.loc 0),(.const (.int .i64 (1)))],.push,[]⟩,
 A1v 22 (.var 1) (.loc 0),
 A1m 76 (.loc 0),
 A1w .shl 76 (.loc 0) (.var 7),
 ⟨none,.p2 (AN Tryz.prog .shr 76),[(.loc 0),(.const (.int .u64 (31)))],.push,[]⟩,
 ⟨none,.p2 (AN Tryz.prog .eql 76),[(.loc 0),(.const (.int .u32 (0)))],(.set 16),[]⟩]
def dF:List AA:=[
 A1t (.var 7),
 ⟨none,.p2 (AN Tryz.prog .add 113),[(.loc 0),(.const (.int .u64 (1)))],.push,[]⟩,
 A1p (.loc 0) 7]
def Ly:Ac:=(.seq (.seq (.ops Tu) (.cond (.var 16)
 .skip
 (.exit 1))) (.block 2 (.ops dF)))
def dG:List AA:=[
 A1s 22 (.var 1),
 ⟨none,.call 95,[.var 0,.var 7],.push,[⟨none,.r (fun s l=>match l with | [x]=>Ay Tryz.prog s 22 x | _=>none),[.var 1],(.loc 1)⟩]⟩,
 ⟨none,.call 95,[.var 1,.var 7],.push,[⟨none,.r (fun s l=>match l with | [x]=>Ay Tryz.prog s 22 x | _=>none),[.var 1],(.loc 2)⟩]⟩,
 ⟨none,.r (At Tryz.prog 22 false true false),[.loc 0,.loc 2],.push,[]⟩,
 A1p (.loc 2) 8,
 A1p (.loc 0) 9]
def dH:List AA:=[
 A1s 22 (.var 8),
 A1s 22 (.var 9),
 A1w .sub 3 (.loc 1) (.loc 0),
 ⟨none,.mk (Xy (Bb Tryz.prog 22)),[.loc 0,.loc 0],.push,[]⟩,
 A1p (.loc 0) 2]
def dI:List AA:=[
 A1s 22 (.var 2),
 ⟨none,.p2 (AN Tryz.prog .sub 3),[(.loc 0),(.const (.int .i64 (1)))],.push,[]⟩,
 A1p (.loc 0) 10]
def Tv:List AA:=[
 ⟨none,.p2 (AN Tryz.prog .geq 3),[(.var 10),(.const (.int .i64 (0)))],(.set 17),[]⟩]
def dJ:List AA:=[
 A1s 22 (.var 9),
 A1w .add 3 (.var 10) (.loc 0),
 ⟨none,.p2 (AN Tryz.prog .add 3),[(.loc 0),(.const (.int .i64 (1)))],.push,[]⟩,
 ⟨none,.r (At Tryz.prog 22 true true false),[.var 8,.var 10,.loc 0],.push,[]⟩,
 A1p (.loc 0) 11]
def dK:List AA:=[
 A1u 96 [.var 11,.var 9],
 A1p (.loc 0) 12]
def dL:List AA:=[
 ⟨none,.call 97,[.var 11,.var 9,.var 12],(.set 18),[]⟩]
def dN:List AA:=[
 A1u 98 [.var 11,.var 9]]
def dO:List AA:=[
 A1t (.var 12),
 ⟨none,.p2 (AN Tryz.prog .sub 69),[(.loc 0),(.const (.int .u64 (1)))],.push,[]⟩,
 A1p (.loc 0) 12]
def Tw:List AA:=[
 ⟨none,.r1 (fun s x=>A7 Tryz.prog s 69 76 x),[.var 12],.push,[]⟩,
 A1v 22 (.var 2) (.var 10),
 A1o 76 (.loc 0) (.loc 1)]
def Tx:List AA:=[
 A1t (.var 10),
 ⟨none,.p2 (AN Tryz.prog .sub 3),[(.loc 0),(.const (.int .i64 (1)))],.push,[]⟩,
 A1p (.loc 0) 10]
def Jy:Ac:=(.seq (.seq (.ops Tv) (.cond (.var 17)
 .skip
 (.exit 3))) (.seq (.block 4 (.seq (.ops dJ) (.seq (.ops dK) (.seq (.seq (.ops dL) (.cond (.var 18)
 (.seq (.ops dN) (.ops dO))
 .skip)) (.ops Tw))))) (.ops Tx)))
def dP:List AA:=[
 ⟨none,.p2 (AN Tryz.prog .shl 69),[(.const (.int .u64 (1))),(.var 7)],.push,[]⟩,
 A1u 94 [.var 8,.loc 0],
 ⟨none,.p1 (fun x=>Zb x 0),[.loc 0],.push,[]⟩,
 ⟨none,.p1 (fun x=>Zb x 1),[.loc 1],.push,[]⟩,
 A1p (.loc 1) 3]
def dQ:List AA:=[
 A1t (.var 2),
 A1u 92 [.loc 0],
 A1t (.var 3),
 A1p (.loc 1) 2,
 A1p (.loc 0) 3,
 A1p (.const (.int .i64 (0))) 4]
def yj:Ah:=⟨2,19,(.seq (.ops oI) (.seq (.ops oJ) (.seq (.block 0 (.seq (.ops dM) (.cond (.var 13)
 (.seq (.ops oK) .ret)
 (.seq (.ops oL) (.cond (.var 14)
 (.seq (.ops oM) .ret)
 (.seq (.ops dR) (.cond (.var 15)
 (.seq (.ops oN) (.seq (.ops oO) .ret))
 .skip))))))) (.seq (.ops oP) (.seq (.block 1 (.loop Ly)) (.seq (.ops dG) (.seq (.ops dH) (.seq (.seq (.ops dI) (.block 3 (.loop Jy))) (.seq (.ops dP) (.seq (.ops dQ) .ret)))))))))),[((.var 2),none),((.var 3),none),((.var 4),none)]⟩
def oD:List AA:=[
 A1p (.const (.slice none 0 (some 0))) 2]
def oE:List AA:=[
 A1t (.var 0),
 A1u 92 [.loc 0],
 A1t (.var 1),
 A1u 92 [.loc 0],
 A1p (.loc 2) 0,
 A1p (.loc 0) 1]
def dE:List AA:=[
 A1s 22 (.var 1),
 ⟨none,.p2 (AN Tryz.prog .gtr 3),[(.loc 0),(.const (.int .i64 (0)))],(.set 4),[]⟩]
def oF:List AA:=[
 A1u 50 [.var 0,.var 1],
 ⟨none,.p1 (fun x=>Zb x 0),[.loc 0],.push,[]⟩,
 ⟨none,.p1 (fun x=>Zb x 1),[.loc 1],.push,[]⟩,
 ⟨none,.p1 (fun x=>Zb x 2),[.loc 2],.push,[]⟩,
 A1t (.loc 2),
 A1p (.loc 2) 3,
 A1t (.loc 1)]
def oG:List AA:=[
 A1t (.var 1),
 A1p (.loc 0) 0,
 A1p (.var 3) 1]
def RD:Ac:=(.seq (.seq (.ops dE) (.cond (.var 4)
 .skip
 (.exit 0))) (.block 1 (.seq (.ops oF) (.ops oG))))
def oH:List AA:=[
 A1p (.var 0) 2]
def yi:Ah:=⟨2,5,(.seq (.ops oD) (.seq (.ops oE) (.seq (.block 0 (.loop RD)) (.seq (.ops oH) .ret)))),[((.var 2),none)]⟩
def oQ:List AA:=[
 A1p (.const (.slice none 0 (some 0))) 2]
def oR:List AA:=[
 A1s 22 (.var 0),
 A1s 22 (.var 1),
 A1w .add 3 (.loc 1) (.loc 0),
 ⟨none,.mk (Xy (Bb Tryz.prog 22)),[.loc 0,.loc 0],.push,[]⟩,
 A1p (.loc 0) 3]
def oT:List AA:=[
 A1p (.var 0) 9,
 ⟨none,.r (fun s l=>match l with | [x]=>Ay Tryz.prog s 22 x | _=>none),[.var 9],(.set 10),[]⟩,
 A1p (.const (.int .i64 (0))) 11]
def dY:List AA:=[
 A1x .lss 3 (.var 11) (.var 10) 12]
def oU:List AA:=[
 A1v 22 (.var 9) (.var 11),
 A1m 76 (.loc 0),
 A1p (.var 11) 4,
 A1p (.loc 0) 5]
def oV:List AA:=[
 ⟨none,.p1 some,[(.const (.int .u64 (0)))],(.set 6),[]⟩]
def oW:List AA:=[
 A1p (.var 1) 13,
 ⟨none,.r (fun s l=>match l with | [x]=>Ay Tryz.prog s 22 x | _=>none),[.var 13],(.set 14),[]⟩,
 A1p (.const (.int .i64 (0))) 15]
def dZ:List AA:=[
 A1x .lss 3 (.var 15) (.var 14) 16]
def oX:List AA:=[
 A1v 22 (.var 13) (.var 15),
 A1m 76 (.loc 0),
 A1p (.var 15) 7,
 A1p (.loc 0) 8]
def oY:List AA:=[
 A1t (.var 6),
 ⟨none,.r1 (fun s x=>A7 Tryz.prog s 76 69 x),[.var 5],.push,[]⟩,
 ⟨none,.r1 (fun s x=>A7 Tryz.prog s 76 69 x),[.var 8],.push,[]⟩,
 A1w .mul 69 (.loc 1) (.loc 0),
 A1w .add 3 (.var 4) (.var 7),
 A1v 22 (.var 3) (.loc 0),
 A1m 76 (.loc 0),
 ⟨none,.r1 (fun s x=>A7 Tryz.prog s 76 69 x),[.loc 0],.push,[]⟩,
 A1w .add 69 (.loc 4) (.loc 0),
 A1w .add 69 (.loc 8) (.loc 0),
 A1p (.loc 0) 6]
def dS:List AA:=[
 A1w .add 3 (.var 4) (.var 7),
 ⟨none,.p2 (AN Tryz.prog .and 69),[(.var 6),(.const (.int .u64 (4294967295)))],.push,[]⟩,
 ⟨none,.r1 (fun s x=>A7 Tryz.prog s 69 76 x),[.loc 0],.push,[]⟩,
 A1v 22 (.var 3) (.loc 2),
 A1o 76 (.loc 0) (.loc 1)]
def dT:List AA:=[
 A1t (.var 6),
 ⟨none,.p2 (AN Tryz.prog .shr 69),[(.loc 0),(.const (.int .u64 (32)))],.push,[]⟩,
 A1p (.loc 0) 6]
def dU:List AA:=[
 ⟨none,.p2 (AN Tryz.prog .add 3),[(.var 15),(.const (.int .i64 (1)))],.push,[]⟩,
 A1p (.loc 0) 15]
def Lz:Ac:=(.seq (.ops dZ) (.seq (.cond (.var 16)
 .skip
 (.exit 2)) (.seq (.block 3 (.seq (.ops oX) (.seq (.ops oY) (.seq (.ops dS) (.ops dT))))) (.ops dU))))
def dV:List AA:=[
 A1s 22 (.var 1),
 A1w .add 3 (.var 4) (.loc 0),
 ⟨none,.r1 (fun s x=>A7 Tryz.prog s 69 76 x),[.var 6],.push,[]⟩,
 A1v 22 (.var 3) (.loc 1),
 A1o 76 (.loc 0) (.loc 1)]
def dW:List AA:=[
 ⟨none,.p2 (AN Tryz.prog .add 3),[(.var 11),(.const (.int .i64 (1)))],.push,[]⟩,
 A1p (.loc 0) 11]
def L0:Ac:=(.seq (.ops dY) (.seq (.cond (.var 12)
 .skip
 (.exit 0)) (.seq (.block 1 (.seq (.ops oU) (.seq (.ops oV) (.seq (.seq (.ops oW) (.block 2 (.loop Lz))) (.ops dV))))) (.ops dW))))
def dX:List AA:=[
 A1u 92 [.var 3],
 A1p (.loc 0) 2]
def yn:Ah:=⟨2,17,(.seq (.ops oQ) (.seq (.ops oR) (.seq (.seq (.ops oT) (.block 0 (.loop L0))) (.seq (.ops dX) .ret)))),[((.var 2),none)]⟩
theorem eh:AL Tryz.prog 92=some xg:=by kernel_rfl
theorem Vo:AL Tryz.prog 136=some iu:=by kernel_rfl
theorem th:AL Tryz.prog 48=some yh:=by kernel_rfl
theorem uN:AL Tryz.prog 93=some zM:=by kernel_rfl
theorem ja:AL Tryz.prog 137=some wB:=by kernel_rfl
theorem uP:AL Tryz.prog 95=some zO:=by kernel_rfl
theorem uO:AL Tryz.prog 94=some zN:=by kernel_rfl
theorem uQ:AL Tryz.prog 96=some zP:=by kernel_rfl
theorem uR:AL Tryz.prog 97=some zQ:=by kernel_rfl
theorem uS:AL Tryz.prog 98=some zR:=by kernel_rfl
theorem tj:AL Tryz.prog 50=some yj:=by kernel_rfl
theorem ti:AL Tryz.prog 49=some yi:=by kernel_rfl
theorem tp:AL Tryz.prog 51=some yn:=by kernel_rfl
end
end Go.Proofs.YtjnkfbpadpmakaaGreatDoor.Am
set_option linter.unusedVariables false
namespace Go.Proofs.YtjnkfbpadpmakaaGreatDoor.Am
noncomputable section
def LB:Nat:=4294967296
theorem BY:0<LB:=by decide
def AG:List Nat→Nat
 | []=>0
 | x::l=>x+LB * AG l
def Bi(l:List Nat):Prop:=∀x∈l,x<LB
def AR(n:Nat):List Nat:=if h:n=0 then []else n % LB::AR (n / LB)
termination_by n
decreasing_by exact A1D (by omega) (by decide)
theorem BN:AR 0=[]:=by rw[AR];rfl
theorem EV{n:Nat}(h:n≠0):AR n=n % LB::AR (n / LB):=by rw[AR,dif_neg h]
theorem Cz{n:Nat}(h:n≠0):AR n≠[]:=by rw[EV h];exact fun e=>by cases e
theorem AY(n:Nat):AG (AR n)=n:=by
 induction n using Nat.strongRecOn with
 | _ n ih =>
  by_cases h:n=0
  ·rw[h,BN];rfl
  ·rw[EV h]
   show n % LB+LB * AG (AR (n / LB))=n
   rw[ih (n / LB) (A1D (by omega) (by decide))]
   exact A1Q n LB
theorem AT(n:Nat):Bi (AR n):=by
 induction n using Nat.strongRecOn with
 | _ n ih =>
  by_cases h:n=0
  ·rw[h,BN];intro x hx;cases hx
  ·rw[EV h]
   intro x hx
   rcases List.mem_cons.1 hx with e | e
   ·rw[e];exact A0E _ BY
   ·exact ih (n / LB) (A1D (by omega) (by decide)) x e
def DL:List Nat→List Nat
 | []=>[]
 | x::l=>if x=0∧DL l=[]then []else x::DL l
theorem Bi.tail{x:Nat}{l:List Nat}(h:Bi (x::l)):Bi l:=fun y hy=>h y (A0B _ hy)
theorem B8      : ∀ {l : List Nat}, Bi  l → DL    l = AR    (AG   l)
  | [],_=>by rw[DL,AG,BN]
  | x::l,h=>by
    have ih:=B8 h.tail
    have hx:=h x zs
    unfold DL
    show(if x=0∧DL l=[]then []else x::DL l)=AR (x+LB * AG l)
    by_cases hz:x+LB * AG l=0
    · have h1 : x = 0 := by omega
      have h2:AG l=0:=by
        have:LB * AG l=0:=by omega
        rcases Nat.mul_eq_zero.1 this with q | q
        · exact absurd q (by decide)
        · exact q
      rw[if_pos ⟨h1,by rw[ih,h2,BN]⟩,hz,BN]
    · rw[EV hz]
      have hm:(x+LB * AG l) % LB=x:=by rw[Nat.add_mul_mod_self_left,A0I hx]
      have hd:(x+LB * AG l) / LB=AG l:=by rw[Nat.add_mul_div_left _ _ BY,A0n hx,zk]
      rw[hm,hd]
      rw[if_neg,ih]
      rintro⟨q1,q2⟩
      rw[ih]at q2
      by_cases hv:AG l=0
      · rw[q1,hv]at hz;exact hz rfl
      · exact Cz hv q2
theorem Bp:∀ (a b:List Nat),AG (a++b)=AG a+LB ^ a.length * AG b
 | [],b=>by simp[AG]
 | x::a,b=>by
  show x+LB * AG (a++b)=x+LB * AG a+LB ^ (a.length+1) * AG b
  rw[Bp a b,zp,zy,← zu,zt LB (LB ^ a.length)]
  omega
theorem CQ:∀ {l:List Nat},Bi l→AG l<LB ^ l.length
 | [],_=>by simp[AG]
 | x::l,h=>by
  have ih:=CQ h.tail
  have hx:=h x zs
  show x+LB * AG l<LB ^ (l.length+1)
  rw[zy,zt (LB ^ l.length) LB]
  have:LB * (AG l+1)≤LB * LB ^ l.length:=A0P LB ih
  rw[zp]at this
  omega
theorem XN{a b:Nat}(h:AR a=AR b):a=b:=by rw[← AY a,h,AY]
def K6:List Nat→Nat→Nat→List Nat
 | [],_,c=>[c]
 | y::a,x,c=>(c+x * y) % LB::K6 a x ((c+x * y) / LB)
theorem LG:∀ (a:List Nat)(x c:Nat),AG (K6 a x c)=AG a * x+c
 | [],x,c=>by simp[K6,AG]
 | y::a,x,c=>by
  have h1:=LG a x ((c+x * y) / LB)
  have h2:=A1Q (c+x * y) LB
  show(c+x * y) % LB+LB * AG (K6 a x ((c+x * y) / LB))=(y+LB * AG a) * x+c
  rw[h1,zp,A0A,zt y x,zu]
  omega
def CM(a b:List Nat):List (Nat×Nat):=(List.range (max a.length b.length)).map fun i=>(a.getD i 0,b.getD i 0)
theorem ID(k:Nat):AG (List.replicate k 0)=0:=by
 induction k with
 | zero=>rfl
 | succ k ih =>
  rw[List.replicate_succ]
  show 0+LB * AG (List.replicate k 0)=0
  rw[ih];rfl
theorem gQ{a:List Nat}{n:Nat}(h:a.length≤n):(List.range n).map (fun i=>a.getD i 0)=a++List.replicate (n - a.length) 0:=by
 refine List.ext_getElem (by simp;omega) fun i h1 h2=>?_
 simp only[List.getElem_map,List.getElem_range]
 by_cases hi:i<a.length
 ·rw[List.getElem_append_left hi,A0k,zW hi];rfl
 ·rw[List.getElem_append_right (by omega),List.getElem_replicate,A0k,zj (by omega)];rfl
theorem Wj(a:List Nat)(k:Nat):AG (a++List.replicate k 0)=AG a:=by rw[Bp,ID];omega
theorem Wi(a b:List Nat):AG ((CM a b).map Prod.fst)=AG a:=by
 unfold CM
 rw[A0q]
 have:=gQ (a:=a) (n:=max a.length b.length) (by omega)
 show AG ((List.range _).map fun i=>a.getD i 0)=_
 rw[this,Wj]
theorem Wk(a b:List Nat):AG ((CM a b).map Prod.snd)=AG b:=by
 unfold CM
 rw[A0q]
 have:=gQ (a:=b) (n:=max a.length b.length) (by omega)
 show AG ((List.range _).map fun i=>b.getD i 0)=_
 rw[this,Wj]
def Ei:List (Nat×Nat)→Nat→List Nat×Nat
 | [],c=>([],c)
 | p::P,c=>((p.1+p.2+c) % LB::(Ei P ((p.1+p.2+c) / LB)).1,(Ei P ((p.1+p.2+c) / LB)).2)
theorem Lj:∀ (P:List (Nat×Nat))(c:Nat),AG (Ei P c).1+LB ^ P.length * (Ei P c).2=AG (P.map Prod.fst)+AG (P.map Prod.snd)+c
 | [],c=>by simp[Ei,AG]
 | p::P,c=>by
  have h1:=Lj P ((p.1+p.2+c) / LB)
  have h2:=A1Q (p.1+p.2+c) LB
  show(p.1+p.2+c) % LB+LB * AG (Ei P ((p.1+p.2+c) / LB)).1+LB ^ (P.length+1) * (Ei P ((p.1+p.2+c) / LB)).2=p.1+LB * AG (P.map Prod.fst)+(p.2+LB * AG (P.map Prod.snd))+c
  have h3:LB ^ (P.length+1) * (Ei P ((p.1+p.2+c) / LB)).2=LB * (LB ^ P.length * (Ei P ((p.1+p.2+c) / LB)).2):=by rw[zy,zt (LB ^ P.length) LB,zu]
  rw[h3]
  have h4:=congrArg (LB * ·) h1
  simp only[zp]at h4
  omega
theorem I0:∀ (P:List (Nat×Nat))(c:Nat),(Ei P c).1.length=P.length
 | [],_=>rfl
 | p::P,c=>by show(Ei P _).1.length+1=P.length+1;rw[I0 P]
theorem GU:∀ (P:List (Nat×Nat))(c:Nat),Bi (Ei P c).1
 | [],_=>fun x hx=>by cases hx
 | p::P,c=>fun x hx=>by
  rcases List.mem_cons.1 hx with e | e
  ·rw[e];exact A0E _ BY
  ·exact GU P _ x e
def Fy:List (Nat×Nat)→Nat→List Nat×Nat
 | [],c=>([],c)
 | p::P,c=>((p.1+LB - p.2 - c) % LB::(Fy P (if p.1<p.2+c then 1 else 0)).1,(Fy P (if p.1<p.2+c then 1 else 0)).2)
theorem Ss:∀ (P:List (Nat×Nat))(c:Nat),(∀p∈P,p.1<LB∧p.2<LB)→c≤1→AG (P.map Prod.fst)+LB ^ P.length * (Fy P c).2=AG (Fy P c).1+AG (P.map Prod.snd)+c
 | [],c,_,_=>by simp[Fy,AG]
 | p::P,c,h,hc=>by
  obtain⟨hp1,hp2⟩:=h p zs
  have hB:LB=4294967296:=rfl
  generalize hd:(if p.1<p.2+c then 1 else 0)=d
  have IJ:d≤1:=by rw[← hd];split<;>omega
  have h1:=Ss P d (fun q hq=>h q (A0B _ hq)) IJ
  have h2:(p.1+LB - p.2 - c) % LB+p.2+c=p.1+LB * d:=by
   rw[← hd]
   rw[hB]at hp1 hp2 ⊢
   split<;>omega
  show p.1+LB * AG (P.map Prod.fst)+LB ^ (P.length+1) * (Fy P (if p.1<p.2+c then 1 else 0)).2=(p.1+LB - p.2 - c) % LB+LB * AG (Fy P (if p.1<p.2+c then 1 else 0)).1+(p.2+LB * AG (P.map Prod.snd))+c
  rw[hd]
  have h3:LB ^ (P.length+1) * (Fy P d).2=LB * (LB ^ P.length * (Fy P d).2):=by rw[zy,zt (LB ^ P.length) LB,zu]
  rw[h3]
  have h4:=congrArg (LB * ·) h1
  simp only[zp]at h4
  omega
theorem XH{U V T v1 v2 q g left top u2:Nat}{P:Nat}(hU:U<(top * LB+u2+1) * P)(hV:(v1 * LB+v2) * P≤V)(hq:q * V≤U)(hg:g * v1+left=top)(hgt:left * LB+u2<g * v2):q<g:=by
 rcases zX q g with h | h
 ·exact h
 ·exfalso
  have h1:g * V≤U:=zY (zq V h) hq
  have h2:g * ((v1 * LB+v2) * P)≤U:=zY (A0P g hV) h1
  have h3:g * (v1 * LB+v2)=g * v1 * LB+g * v2:=by rw[zp,zu]
  have h4:top * LB=g * v1 * LB+left * LB:=by rw[← hg,A0A]
  have h5:top * LB+u2+1≤g * (v1 * LB+v2):=by omega
  have h6:(top * LB+u2+1) * P≤g * (v1 * LB+v2) * P:=zq P h5
  rw[← zu]at h2
  omega
theorem UG{U V v1 v2 q g left top u2:Nat}{P:Nat}(hP:0<P)(hU:(top * LB+u2) * P≤U)(hV:V<(v1 * LB+v2+1) * P)(hq:U<(q+1) * V)(hg:g * v1+left=top)(hle:g * v2≤left * LB+u2)(hgB:g<LB)(hv1:1≤v1):g≤q+1:=by
 rcases zX (q+1) g with h | h
 ·exfalso
  have h0:q+1≤g - 1:=by omega
  have h1:U<(g - 1) * ((v1 * LB+v2+1) * P):=by
   have a1:(q+1) * V≤(g - 1) * V:=zq V h0
   have a2:(g - 1) * V≤(g - 1) * ((v1 * LB+v2+1) * P):=A0P _ (Nat.le_of_lt hV)
   omega
  rw[← zu]at h1
  have h2:(top * LB+u2) * P<(g - 1) * (v1 * LB+v2+1) * P:=A0J hU h1
  have h3:top * LB+u2<(g - 1) * (v1 * LB+v2+1):=A1E h2
  have h4:top * LB=g * v1 * LB+left * LB:=by rw[← hg,A0A]
  have h5:g * (v1 * LB+v2)=g * v1 * LB+g * v2:=by rw[zp,zu]
  have h6:(g - 1) * (v1 * LB+v2+1)=(g - 1) * (v1 * LB+v2)+(g - 1):=by rw[zp,zf]
  have h7:g * (v1 * LB+v2)=(g - 1) * (v1 * LB+v2)+(v1 * LB+v2):=by
   obtain⟨k,rfl⟩:∃k,g=k+1:=⟨g - 1,by omega⟩
   rw[A0r,zz]
  have h8:LB≤v1 * LB:=A0i LB hv1
  omega
 ·exact h
def Cc(q:Nat):List (Nat×Nat)→Nat→Nat→List Nat×Nat×Nat
 | [],c,br=>([],c,br)
 | p::P,c,br =>
  let r:=Cc q P ((c+q * p.2) / LB) (if p.1<(c+q * p.2) % LB+br then 1 else 0)
  ((p.1+LB - (c+q * p.2) % LB - br) % LB::r.1,r.2.1,r.2.2)
theorem OV(q:Nat):∀ (P:List (Nat×Nat))(c br:Nat),(∀p∈P,p.1<LB)→br≤1 →
  AG (P.map Prod.fst)+LB ^ P.length * ((Cc q P c br).2.1+(Cc q P c br).2.2)=AG (Cc q P c br).1+q * AG (P.map Prod.snd)+c+br
 | [],c,br,_,_=>by simp[Cc,AG]
 | p::P,c,br,h,hb=>by
  have hp:=h p zs
  have hB:LB=4294967296:=rfl
  generalize hc1:c+q * p.2=c1
  have hm:c1 % LB<LB:=A0E _ BY
  have hdm:=A1Q c1 LB
  generalize hd:(if p.1<c1 % LB+br then 1 else 0)=d
  have IJ:d≤1:=by rw[← hd];split<;>omega
  have ih:=OV q P (c1 / LB) d (fun q hq=>h q (A0B _ hq)) IJ
  have h2:(p.1+LB - c1 % LB - br) % LB+c1 % LB+br=p.1+LB * d:=by
   rw[← hd]
   generalize c1 % LB=m at hm
   rw[hB]at hp hm ⊢
   split<;>omega
  show p.1+LB * AG (P.map Prod.fst)+LB ^ (P.length+1) * ((Cc q P ((c+q * p.2) / LB) (if p.1<(c+q * p.2) % LB+br then 1 else 0)).2.1+(Cc q P ((c+q * p.2) / LB) (if p.1<(c+q * p.2) % LB+br then 1 else 0)).2.2)=(p.1+LB - (c+q * p.2) % LB - br) % LB+LB * AG (Cc q P ((c+q * p.2) / LB) (if p.1<(c+q * p.2) % LB+br then 1 else 0)).1+q * (p.2+LB * AG (P.map Prod.snd))+c+br
  rw[hc1,hd]
  have h3:∀z,LB ^ (P.length+1) * z=LB * (LB ^ P.length * z):=fun z=>by rw[zy,zt (LB ^ P.length) LB,zu]
  rw[h3]
  have h4:=congrArg (LB * ·) ih
  simp only[zp]at h4 ⊢
  have h5:q * (LB * AG (P.map Prod.snd))=LB * (q * AG (P.map Prod.snd)):=by rw[Nat.mul_left_comm]
  rw[h5]
  omega
def GI(x:Nat):List (Nat×Nat)→Nat→List Nat×Nat
 | [],c=>([],c)
 | p::P,c=>((c+(x * p.1+p.2)) % LB::(GI x P ((c+(x * p.1+p.2)) / LB)).1,(GI x P ((c+(x * p.1+p.2)) / LB)).2)
theorem SI(x:Nat):∀ (P:List (Nat×Nat))(c:Nat),AG (GI x P c).1+LB ^ P.length * (GI x P c).2=x * AG (P.map Prod.fst)+AG (P.map Prod.snd)+c
 | [],c=>by simp[GI,AG]
 | p::P,c=>by
  have ih:=SI x P ((c+(x * p.1+p.2)) / LB)
  have hdm:=A1Q (c+(x * p.1+p.2)) LB
  show(c+(x * p.1+p.2)) % LB+LB * AG (GI x P ((c+(x * p.1+p.2)) / LB)).1+LB ^ (P.length+1) * (GI x P ((c+(x * p.1+p.2)) / LB)).2=x * (p.1+LB * AG (P.map Prod.fst))+(p.2+LB * AG (P.map Prod.snd))+c
  have h3:∀z,LB ^ (P.length+1) * z=LB * (LB ^ P.length * z):=fun z=>by rw[zy,zt (LB ^ P.length) LB,zu]
  rw[h3]
  have h4:=congrArg (LB * ·) ih
  simp only[zp]at h4 ⊢
  have h5:x * (LB * AG (P.map Prod.fst))=LB * (x * AG (P.map Prod.fst)):=by rw[Nat.mul_left_comm]
  rw[h5]
  omega
theorem Mh(x:Nat):∀ (P:List (Nat×Nat))(c:Nat),(GI x P c).1.length=P.length
 | [],_=>rfl
 | p::P,c=>by show(GI x P _).1.length+1=P.length+1;rw[Mh x P]
theorem Ig{x:Nat}(hx:x<LB):∀ {P:List (Nat×Nat)}{c:Nat},(∀p∈P,p.1<LB∧p.2<LB)→c<LB→(GI x P c).2<LB∧Bi (GI x P c).1
 | [],c,_,hc=>⟨hc,fun y hy=>by cases hy⟩
 | p::P,c,h,hc=>by
  obtain⟨h1,h2⟩:=h p zs
  have hd:(c+(x * p.1+p.2)) / LB<LB:=by
   rw[A0a BY]
   have:x * p.1≤(LB - 1) * (LB - 1):=A0W (by omega) (by omega)
   have hB:LB=4294967296:=rfl
   rw[hB]at this hc h2 ⊢
   omega
  obtain⟨i1,i2⟩:=Ig (P:=P) (c:=(c+(x * p.1+p.2)) / LB) hx (fun r hr=>h r (A0B _ hr)) hd
  refine⟨i1,fun y hy=>?_⟩
  rcases List.mem_cons.1 hy with e | e
  ·rw[e];exact A0E _ BY
  ·exact i2 y e
def Bg(x:Nat):List Nat→List Nat×Nat
 | []=>([],0)
 | y::l=>(((Bg x l).2 * LB+y) / x::(Bg x l).1,((Bg x l).2 * LB+y) % x)
theorem Eb{x:Nat}(hx:0<x):∀l:List Nat,AG l=x * AG (Bg x l).1+(Bg x l).2∧(Bg x l).2<x∧(Bg x l).1.length=l.length
 | []=>⟨by simp[Bg,AG],hx,rfl⟩
 | y::l=>by
  obtain⟨i1,i2,i3⟩:=Eb hx l
  have hdm:=A1Q ((Bg x l).2 * LB+y) x
  refine⟨?_,A0E _ hx,by show(Bg x l).1.length+1=l.length+1;rw[i3]⟩
  show y+LB * AG l=x * (((Bg x l).2 * LB+y) / x+LB * AG (Bg x l).1)+((Bg x l).2 * LB+y) % x
  rw[i1]
  simp only[zp]
  have h5:x * (LB * AG (Bg x l).1)=LB * (x * AG (Bg x l).1):=by rw[Nat.mul_left_comm]
  have h6:LB * (Bg x l).2=(Bg x l).2 * LB:=zt _ _
  rw[h5,h6]
  omega
theorem Gs{x:Nat}(hx:0<x):∀ {l:List Nat},Bi l→Bi (Bg x l).1
 | [],_=>fun y hy=>by cases hy
 | y::l,h=>by
  obtain⟨i1,i2,i3⟩:=Eb hx l
  have hy:=h y zs
  intro z hz
  rcases List.mem_cons.1 hz with e | e
  ·rw[e,A0a hx]
   have:((Bg x l).2+1) * LB≤x * LB:=zq LB i2
   rw[zz]at this
   rw[zt LB x]
   omega
  ·exact Gs hx h.tail z e
theorem X6{U V g D N br:Nat}(hV:0<V)(h1:U / V≤g)(h2:g≤U / V+1)(hD:D<N)(hbr:br≤1)(he:U+N * br=D+g * V):
  (br=0→g=U / V∧D=U % V)∧(br=1→g=U / V+1∧D+V=N+U % V):=by
 have hdm:=Nat.div_add_mod U V
 have hlt:=A0E U hV
 have hc:V * (U / V)=U / V * V:=zt _ _
 generalize hq:U / V=q at *
 generalize U % V=r at *
 refine⟨fun h0=>?_,fun h0=>?_⟩
 ·subst h0
  rcases zX q g with h | h
  ·exfalso
   have:g=q+1:=by omega
   rw[this,zz]at he
   omega
  ·have:g=q:=by omega
   refine⟨this,?_⟩
   rw[this]at he
   omega
 ·subst h0
  rcases zX q g with h | h
  ·have:g=q+1:=by omega
   refine⟨this,?_⟩
   rw[this,zz]at he
   omega
  ·exfalso
   have:g=q:=by omega
   rw[this]at he
   omega
theorem T9{V Q R u:Nat}{W:Nat}(hV:0<V)(hR:R<V)(hW:W=Q * V+R):(W * LB+u) / V=Q * LB+(R * LB+u) / V∧(W * LB+u) % V=(R * LB+u) % V:=by
 have e:W * LB+u=(R * LB+u)+V * (Q * LB):=by
  rw[hW,A0A,zu,Nat.mul_left_comm]
  omega
 rw[e]
 constructor
 ·rw[Nat.add_mul_div_left _ _ hV];omega
 ·rw[Nat.add_mul_mod_self_left]
end
end Go.Proofs.YtjnkfbpadpmakaaGreatDoor.Am
set_option linter.unusedVariables false
set_option linter.unusedSimpArgs false
namespace Go.Proofs.YtjnkfbpadpmakaaGreatDoor.Am
noncomputable section
theorem Bi.append{a b:List Nat}(ha:Bi a)(hb:Bi b):Bi (a++b):=fun x hx=>(A1V.1 hx).elim (ha x) (hb x)
theorem JN(lo:List Nat)(x y:Nat):AG (lo++[x,y])=AG lo+LB ^ lo.length * (y * LB+x):=by
 rw[Bp]
 show _+_ * (x+LB * (y+LB * 0))=_
 rw[A0F,zv,zt LB y,A0s x]
theorem Me(lo:List Nat)(x y z:Nat):AG (lo++[x,y,z])=AG lo+LB ^ lo.length * ((z * LB+y) * LB+x):=by
 rw[Bp]
 show _+_ * (x+LB * (y+LB * (z+LB * 0)))=_
 have:x+LB * (y+LB * (z+LB * 0))=(z * LB+y) * LB+x:=by
  rw[A0F,zv,zt LB z,A0s y,zt LB,A0s x]
 rw[this]
structure G4(plo vlo:List Nat)(u2 u1 u0 v2 v1:Nat)(g left:Nat):Prop where
 len:plo.length=vlo.length
 sp:Bi plo
 sv:Bi vlo
 b2:u2<LB
 b1:u1<LB
 c2:v2<LB
 c1:v1<LB
 big:LB≤2 * v1
 lt:AG (plo++[u2,u1,u0])<AG (vlo++[v2,v1]) * LB
 sum:g * v1+left=u0 * LB+u1
 low:AG (plo++[u2,u1,u0]) / AG (vlo++[v2,v1])≤g
section
variable{plo vlo:List Nat}{u2 u1 u0 v2 v1 g left:Nat}
theorem G4.v_pos(h:G4 plo vlo u2 u1 u0 v2 v1 g left):0<AG (vlo++[v2,v1]):=by
 rw[JN]
 have h1:=h.big
 have:LB=4294967296:=rfl
 have h2:0<v1 * LB+v2:=by have:=A1B (show 0<v1 by omega) BY;omega
 have:=A1B (A0f BY (n:=vlo.length)) h2
 omega
theorem G4.bounds(h:G4 plo vlo u2 u1 u0 v2 v1 g left):
  AG (plo++[u2,u1,u0])<((u0 * LB+u1) * LB+u2+1) * LB ^ vlo.length∧((u0 * LB+u1) * LB+u2) * LB ^ vlo.length≤AG (plo++[u2,u1,u0]) ∧
  AG (vlo++[v2,v1])<(v1 * LB+v2+1) * LB ^ vlo.length∧(v1 * LB+v2) * LB ^ vlo.length≤AG (vlo++[v2,v1]):=by
 have h1:=CQ h.sp
 have h2:=CQ h.sv
 rw[h.len]at h1
 rw[Me,JN,h.len]
 generalize LB ^ vlo.length=P at *
 generalize (u0 * LB+u1) * LB+u2=X
 generalize v1 * LB+v2=Y
 have e1:(X+1) * P=P * X+P:=by rw[zz,zt]
 have e2:(Y+1) * P=P * Y+P:=by rw[zz,zt]
 have e3:X * P=P * X:=zt _ _
 have e4:Y * P=P * Y:=zt _ _
 omega
theorem G4.start(len:plo.length=vlo.length)(sp:Bi plo)(sv:Bi vlo)(b2:u2<LB)(b1:u1<LB)(c2:v2<LB)(c1:v1<LB)(big:LB≤2 * v1)
  (lt:AG (plo++[u2,u1,u0])<AG (vlo++[v2,v1]) * LB):G4 plo vlo u2 u1 u0 v2 v1 ((u0 * LB+u1) / v1) ((u0 * LB+u1) % v1):=by
 have hB:LB=4294967296:=rfl
 have hv1:0<v1:=by omega
 have hs:(u0 * LB+u1) / v1 * v1+(u0 * LB+u1) % v1=u0 * LB+u1:=by rw[zt];exact Nat.div_add_mod _ _
 have h0:G4 plo vlo u2 u1 u0 v2 v1 (AG (plo++[u2,u1,u0]) / AG (vlo++[v2,v1])) (u0 * LB+u1 - AG (plo++[u2,u1,u0]) / AG (vlo++[v2,v1]) * v1)∨True:=.inr trivial
 refine⟨len,sp,sv,b2,b1,c2,c1,big,lt,hs,?_⟩
 have hP:0<LB ^ vlo.length:=A0f BY
 have h1:=CQ sp
 rw[len]at h1
 have hV:v1 * LB * LB ^ vlo.length≤AG (vlo++[v2,v1]):=by
  rw[JN,zt (v1 * LB),zp]
  omega
 rw[Nat.le_div_iff_mul_le hv1]
 generalize hq:AG (plo++[u2,u1,u0]) / AG (vlo++[v2,v1])=q
 have hqV:q * AG (vlo++[v2,v1])≤AG (plo++[u2,u1,u0]):=by rw[← hq];exact Nat.div_mul_le_self _ _
 have h2:q * (v1 * LB * LB ^ vlo.length)≤AG (plo++[u2,u1,u0]):=zY (A0P q hV) hqV
 have h3:AG (plo++[u2,u1,u0])<((u0 * LB+u1) * LB+LB) * LB ^ vlo.length:=by
  rw[Me,len]
  have h4:(u0 * LB+u1) * LB+u2+1≤(u0 * LB+u1) * LB+LB:=by omega
  have h5:=zq (LB ^ vlo.length) h4
  rw[zz,zt _ (LB ^ vlo.length)]at h5
  omega
 have h6:q * v1 * LB * LB ^ vlo.length<((u0 * LB+u1) * LB+LB) * LB ^ vlo.length:=by
  have e:q * (v1 * LB * LB ^ vlo.length)=q * v1 * LB * LB ^ vlo.length:=by rw[zu,zu,zu]
  omega
 have h7:q * v1 * LB<(u0 * LB+u1) * LB+LB:=A1E h6
 have h8:q * v1 * LB<(u0 * LB+u1+1) * LB:=by rw[zz];exact h7
 have:=A1E h8
 omega
theorem G4.dec(h:G4 plo vlo u2 u1 u0 v2 v1 g left)(hc:LB≤g∨left * LB+u2<g * v2):1≤g∧G4 plo vlo u2 u1 u0 v2 v1 (g - 1) (left+v1):=by
 obtain⟨b1,b2,b3,b4⟩:=h.bounds
 have hlt:AG (plo++[u2,u1,u0]) / AG (vlo++[v2,v1])<g:=by
  rcases hc with hc | hc
  ·exact zZ ((A0a h.v_pos).2 (by rw[zt];exact h.lt)) hc
  ·exact XH (T:=0) b1 b4 (Nat.div_mul_le_self _ _) h.sum hc
 have hle:AG (plo++[u2,u1,u0]) / AG (vlo++[v2,v1])≤g - 1:=Nat.le_sub_one_of_lt hlt
 have hg1:1≤g:=A0J (ze _) hlt
 refine⟨hg1,⟨h.len,h.sp,h.sv,h.b2,h.b1,h.c2,h.c1,h.big,h.lt,?_,hle⟩⟩
 clear hle hlt b1 b2 b3 b4
 obtain⟨k,rfl⟩:∃k,g=k+1:=⟨g - 1,by omega⟩
 have:=h.sum
 rw[zz]at this
 rw[A0r]
 omega
theorem G4.done(h:G4 plo vlo u2 u1 u0 v2 v1 g left)(hg:g<LB)(hc:g * v2≤left * LB+u2):g≤AG (plo++[u2,u1,u0]) / AG (vlo++[v2,v1])+1:=by
 obtain⟨b1,b2,b3,b4⟩:=h.bounds
 have hq:AG (plo++[u2,u1,u0])<(AG (plo++[u2,u1,u0]) / AG (vlo++[v2,v1])+1) * AG (vlo++[v2,v1]):=by
  have:=Nat.div_add_mod (AG (plo++[u2,u1,u0])) (AG (vlo++[v2,v1]))
  have h2:=A0E (AG (plo++[u2,u1,u0])) h.v_pos
  rw[zz,zt]
  omega
 have hv1:1≤v1:=by have:=h.big;have:LB=4294967296:=rfl;omega
 exact UG (A0f BY) b2 b3 hq h.sum hc hg hv1
theorem G4.top(h:G4 plo vlo u2 u1 u0 v2 v1 g left):u0≤v1:=by
 obtain⟨b1,b2,b3,b4⟩:=h.bounds
 have hP:0<LB ^ vlo.length:=A0f BY
 have h1:((u0 * LB+u1) * LB+u2) * LB ^ vlo.length<(v1 * LB+v2+1) * LB ^ vlo.length * LB:=by
  have:=h.lt
  have h2:AG (vlo++[v2,v1]) * LB≤(v1 * LB+v2+1) * LB ^ vlo.length * LB:=zq LB (Nat.le_of_lt b3)
  omega
 have h3:(v1 * LB+v2+1) * LB ^ vlo.length * LB=(v1 * LB+v2+1) * LB * LB ^ vlo.length:=by rw[zu,zt (LB ^ _),← zu]
 rw[h3]at h1
 have h4:=A1E h1
 have h5:(v1 * LB+v2+1) * LB≤(v1+1) * LB * LB:=zq LB (by rw[zz];have:=h.c2;omega)
 have h6:u0 * LB * LB≤(u0 * LB+u1) * LB:=zq LB (by omega)
 have h7:u0 * LB * LB<(v1+1) * LB * LB:=by omega
 have h8:=A1E (A1E h7)
 omega
end
theorem Jg{q:Nat}(hq:q<LB){x:Nat}:∀ {P:List (Nat×Nat)}{c br:Nat},(∀p∈P,p.2<LB)→c<LB→(Cc q (P++[(x,0)]) c br).2.1=0
 | [],c,br,_,hc=>by
  show(c+q * 0) / LB=0
  rw[A0F,zv,A0n hc]
 | p::P,c,br,h,hc=>by
  have hp:=h p zs
  have hd:(c+q * p.2) / LB<LB:=by
   rw[A0a BY]
   have:q * p.2≤(LB - 1) * (LB - 1):=A0W (by omega) (by omega)
   have hB:LB=4294967296:=rfl
   rw[hB]at this hc ⊢
   omega
  exact Jg (P:=P) (c:=(c+q * p.2) / LB) hq (fun r hr=>h r (A0B _ hr)) hd
theorem Hi(q:Nat):∀ (P:List (Nat×Nat))(c br:Nat),Bi (Cc q P c br).1
 | [],_,_=>fun x hx=>by cases hx
 | p::P,c,br=>fun x hx=>by
  rcases List.mem_cons.1 hx with e | e
  ·rw[e];exact A0E _ BY
  ·exact Hi q P _ _ x e
theorem KW(q:Nat):∀ (P:List (Nat×Nat))(c br:Nat),(Cc q P c br).1.length=P.length
 | [],_,_=>rfl
 | p::P,c,br=>by show(Cc q P _ _).1.length+1=P.length+1;rw[KW q P]
theorem Su(q:Nat):∀ (P:List (Nat×Nat))(c br:Nat),br≤1→(Cc q P c br).2.2≤1
 | [],_,_,h=>h
 | p::P,c,br,h=>Su q P _ _ (by split<;>omega)
theorem QE{a b:List Nat}(h:a.length=b.length):(a.zip b).map Prod.fst=a:=by
 rw[List.map_fst_zip];omega
theorem QF{a b:List Nat}(h:a.length=b.length):(a.zip b).map Prod.snd=b:=by
 rw[List.map_snd_zip];omega
theorem OA(v:List Nat):AG (v++[0])=AG v:=by
 rw[Bp]
 show _+_ * (0+LB * 0)=_
 simp
theorem fD       {p v : List Nat} (hl : p.length = v.length + 1) (hp : Bi  p) (hv : Bi  v) (hV : 0 < AG   v) {g : Nat} (h1 : AG   p / AG   v ≤ g) (h2 : g ≤ AG   p / AG   v + 1) (hg : g < LB) :
    ((Cc g (p.zip (v++[0])) 0 0).2.2=0→g=AG p / AG v∧AG (Cc g (p.zip (v++[0])) 0 0).1=AG p % AG v) ∧
    ((Cc g (p.zip (v++[0])) 0 0).2.2≠0→g=AG p / AG v+1∧AG (Ei ((Cc g (p.zip (v++[0])) 0 0).1.zip (v++[0])) 0).1=AG p % AG v):=by
  have hlz:p.length=(v++[0]).length:=by rw[zg];exact hl
  have hsm:∀q∈p.zip (v++[0]),q.1<LB∧q.2<LB:=fun q hq=>by
    have hz:=List.of_mem_zip (a:=q.1) (b:=q.2) hq
    refine⟨hp _ hz.1,?_⟩
    rcases A1V.1 hz.2 with h | h
    · exact hv _ h
    · rw[A1d.1 h];exact BY
  have hc:(Cc g (p.zip (v++[0])) 0 0).2.1=0:=by
    obtain⟨pl,x,rfl⟩:∃pl x,p=pl++[x]:=by
      rcases List.eq_nil_or_concat p with h | ⟨pl,x,h⟩
      · rw[h]at hl;simp at hl
      · exact⟨pl,x,by rw[h];simp⟩
    have hpl:pl.length=v.length:=by rw[zg]at hl;simpa using hl
    rw[List.zip_append hpl]
    exact Jg hg (fun q hq=>hv _ (List.of_mem_zip (a:=q.1) (b:=q.2) hq).2) BY
  have hval:=OV g (p.zip (v++[0])) 0 0 (fun q hq=>(hsm q hq).1) (ze _)
  have hbr:=Su g (p.zip (v++[0])) 0 0 (ze _)
  have hlen:(p.zip (v++[0])).length=v.length+1:=by rw[A1F,← hlz,Nat.min_self,hl]
  have hDl:=KW g (p.zip (v++[0])) 0 0
  have hDs:=Hi g (p.zip (v++[0])) 0 0
  rw[QE hlz,QF hlz,OA,hc,hlen]at hval
  generalize Cc g (p.zip (v++[0])) 0 0=T at *
  obtain⟨D,c,br⟩:=T
  simp only at *
  rw[hlen]at hDl
  have hD:=CQ hDs
  rw[hDl]at hD
  have hVl:=CQ hv
  have hPow:LB ^ v.length≤LB ^ (v.length+1):=A0K BY (A0X _)
  have key:=X6 (U:=AG p) (V:=AG v) (g:=g) (D:=AG D) (N:=LB ^ (v.length+1)) (br:=br) hV h1 h2 hD hbr (by
    generalize g * AG v=z at *
    generalize LB ^ (v.length+1)=N at *
    rw[zk]at hval
    omega)
  refine⟨fun h=>key.1 h,fun h=>?_⟩
  have hb1:br=1:=by omega
  obtain⟨k1,k2⟩:=key.2 hb1
  refine⟨k1,?_⟩
  have hlz2:D.length=(v++[0]).length:=by rw[zg,hDl];rfl
  have ha:=Lj (D.zip (v++[0])) 0
  rw[QE hlz2,QF hlz2,OA,A1F,← hlz2,Nat.min_self,hDl]at ha
  have hs:=CQ (GU (D.zip (v++[0])) 0)
  rw[I0,A1F,← hlz2,Nat.min_self,hDl]at hs
  have hr:=A0E (AG p) hV
  generalize AG (Ei (D.zip (v++[0])) 0).1=O at *
  generalize (Ei (D.zip (v++[0])) 0).2=c2 at *
  generalize hN:LB ^ (v.length+1)=N at *
  have hc2:c2=1:=by
    rcases zX c2 1 with h | h
    · have:c2=0:=by omega
      rw[this,A0F]at ha
      omega
    · rcases zX           1 c2 with h' | h'
      · have:=A0P N h'
        omega
      · omega
  rw[hc2,zf]at ha
  omega
structure TC(u0 v cu qs:List Nat)(i:Nat):Prop where
 len:cu.length=u0.length
 low:cu.take i=u0.take i
 sm:Bi cu
 rem:AG (cu.drop i)=AG (u0.drop i) % AG v
 qsm:Bi qs
 quo:AG (qs.drop i)=AG (u0.drop i) / AG v
theorem GF{l:List Nat}{i x:Nat}(h:l[i]? = some x):AG (l.drop i)=x+LB * AG (l.drop (i+1)):=by
 have hi:i<l.length:=by
  rcases zX i l.length with h' | h'
  ·exact h'
  ·rw[zj h']at h;cases h
 rw[A0M hi]
 have:l[i]=x:=by rw[zW hi]at h;exact Option.some.inj h
 rw[this];rfl
theorem Bi.drop{l:List Nat}(h:Bi l)(i:Nat):Bi (l.drop i):=fun x hx=>h x (A1Y hx)
theorem Bi.take{l:List Nat}(h:Bi l)(i:Nat):Bi (l.take i):=fun x hx=>h x (A1g hx)
theorem TC.part{u0 v cu qs:List Nat}{i:Nat}(h:TC u0 v cu qs (i+1))(hv:Bi v)(hV:0<AG v)(hi:i+v.length+1≤cu.length):
  AG ((cu.drop i).take (v.length+1))=AG (cu.drop i)∧AG (cu.drop i)<AG v * LB∧AG (cu.drop (i+v.length+1))=0:=by
 have hx:cu[i]? = some cu[i]:=zW (by omega)
 generalize cu[i]=x at hx
 have hxs:=h.sm x (zw hx)
 have e1:=GF hx
 have hr:=A0E (AG (u0.drop (i+1))) hV
 rw[← h.rem]at hr
 have hVl:=CQ hv
 have hsplit:cu.drop (i+1)=(cu.drop (i+1)).take v.length++cu.drop (i+v.length+1):=by
  have:=(A0g v.length (cu.drop (i+1))).symm
  rw[A0h]at this
  rw[show i+v.length+1=i+1+v.length by omega]
  exact this
 have hval:=congrArg AG hsplit
 rw[Bp]at hval
 have htl:((cu.drop (i+1)).take v.length).length=v.length:=by rw[zo,A0C];omega
 rw[htl]at hval
 have hz:AG (cu.drop (i+v.length+1))=0:=by
  rcases A0R (AG (cu.drop (i+v.length+1)))with h0 | h0
  ·exact h0
  ·exfalso
   have:=A0P (LB ^ v.length) h0
   omega
 refine⟨?_,?_,hz⟩
 ·rw[e1]
  have hd:cu.drop i=x::cu.drop (i+1):=by
   rw[A0M (show i<cu.length by omega)]
   have:cu[i]=x:=by rw[zW (by omega)]at hx;exact Option.some.inj hx
   rw[this]
  rw[hd,A1h]
  show x+LB * _=_
  rw[hval,hz]
  simp
 ·rw[e1]
  have:LB * (AG (cu.drop (i+1))+1)≤LB * AG v:=A0P LB hr
  rw[zt (AG v)]
  rw[zp]at this
  omega
theorem TC.step{u0 v cu qs:List Nat}{i:Nat}(h:TC u0 v cu qs (i+1))(hv:Bi v)(hV:0<AG v)(hi:i+v.length+1≤cu.length)(hq:i<qs.length){D:List Nat}(hD:D.length=v.length+1)(hDs:Bi D)
  (hDv:AG D=AG ((cu.drop i).take (v.length+1)) % AG v) {x:Nat} (hx:x=AG ((cu.drop i).take (v.length+1)) / AG v):TC u0 v (cu.take i++D++cu.drop (i+v.length+1)) (qs.set i x) i:=by
 obtain⟨p1,p2,p3⟩:=h.part hv hV hi
 rw[p1]at hDv hx
 have hu:cu[i]? = some cu[i]:=zW (by omega)
 generalize cu[i]=y at hu
 have hys:=h.sm y (zw hu)
 have hu0:u0[i]? = some y:=by
  have:=congrArg (fun l=>l[i]?) h.low
  simp only[A0m (show i<i+1 by omega)]at this
  rw[← this];exact hu
 have e1:=GF hu
 have e2:=GF hu0
 have hR:=A0E (AG (u0.drop (i+1))) hV
 have hW:AG (u0.drop (i+1))=AG (u0.drop (i+1)) / AG v * AG v+AG (u0.drop (i+1)) % AG v:=by
  have:=Nat.div_add_mod (AG (u0.drop (i+1))) (AG v)
  rw[zt]at this
  exact this.symm
 have hds:=T9 (V:=AG v) (Q:=AG (u0.drop (i+1)) / AG v) (R:=AG (u0.drop (i+1)) % AG v) (u:=y) hV hR hW
 rw[← h.rem]at hds
 have e3:AG (u0.drop (i+1)) * LB+y=AG (u0.drop i):=by rw[e2,zt];omega
 have e4:AG (cu.drop (i+1)) * LB+y=AG (cu.drop i):=by rw[e1,zt];omega
 rw[e3,e4]at hds
 have htl:(cu.take i).length=i:=by rw[zo];omega
 have hxs:x<LB:=by
  rw[hx,A0a hV,zt]
  exact p2
 refine⟨?_,?_,?_,?_,?_,?_⟩
 ·simp only[zg,zo,A0C,hD]
  have:=h.len
  omega
 ·rw[A0O,List.take_left' htl]
  have:=congrArg (List.take i) h.low
  rw[List.take_take,List.take_take,A0c (A0X i)]at this
  exact this
 ·exact((h.sm.take i).append hDs).append (h.sm.drop _)
 ·rw[A0O,A1X htl,Bp,p3,A0F,zv,hDv]
  exact hds.2.symm
 ·intro z hz
  rcases List.mem_or_eq_of_mem_set hz with h' | h'
  ·exact h.qsm z h'
  ·rw[h'];exact hxs
 ·have hqi:(qs.set i x)[i]? = some x:=by rw[A1f hq]
  rw[GF hqi]
  have:(qs.set i x).drop (i+1)=qs.drop (i+1):=by
   rw[List.drop_set]
   simp
  rw[this,h.quo,hx,hds.1,zt LB]
  omega
theorem I3(x:Nat):∀ (l:List Nat)(c:Nat),(K6 l x c).length=l.length+1
 | [],_=>rfl
 | y::l,c=>by show(K6 l x _).length+1=_;rw[I3 x l];rfl
theorem F4{x:Nat}(hx:x<LB):∀ {l:List Nat}{c:Nat},Bi l→c<LB→Bi (K6 l x c)
  | [],c,_,hc=>fun z hz=>by rw[A1d.1 hz];exact hc
  | y::l,c,hl,hc=>fun z hz=>by
    have hy:=hl y zs
    rcases List.mem_cons.1 hz with e | e
    · rw[e];exact A0E _ BY
    · refine F4        hx hl.tail ?_ z e
      rw[A0a BY]
      have:x * y≤(LB - 1) * (LB - 1):=A0W (by omega) (by omega)
      have hB:LB=4294967296:=rfl
      rw[hB]at this hc ⊢
      omega
theorem Fm{l:List Nat}{n:Nat}(h:l.length=n+1):∃lo t,l=lo++[t]∧lo.length=n:=by
 refine⟨l.take n,l[n]'(by omega),?_,by rw[zo];omega⟩
 have h1:=(A0g n l).symm
 rw[A0M (by omega),A0D (by omega)]at h1
 exact h1
theorem Cj(lo:List Nat)(t:Nat):AG (lo++[t])=AG lo+LB ^ lo.length * t:=by
 rw[Bp]
 show _+_ * (t+LB * 0)=_
 simp
theorem uh{lo:List Nat}{bt n:Nat}(hs:Bi (lo++[bt]))(hn:n≤31)(h1:2147483648≤bt * 2 ^ n)(h2:bt * 2 ^ n<4294967296):
  AG ((K6 (lo++[bt]) (2 ^ n) 0).take (lo.length+1))=AG (lo++[bt]) * 2 ^ n∧∃vlo v1,(K6 (lo++[bt]) (2 ^ n) 0).take (lo.length+1)=vlo++[v1]∧vlo.length=lo.length∧2147483648≤v1:=by
 have hLB:LB=4294967296:=rfl
 have e32:(2:Nat) ^ 32=4294967296:=by decide
 have h2n:0<2 ^ n:=A0f (by decide)
 have hn32:2 ^ n<LB:=by
  rw[hLB,← e32]
  exact Nat.pow_lt_pow_right (by decide) (by omega)
 have hbt:(bt+1) * 2 ^ n≤4294967296:=by
  have e:(4294967296:Nat)=2 ^ (32 - n) * 2 ^ n:=by rw[← A1G,show 32 - n+n=32 by omega]
  rw[e]at h2 ⊢
  exact zq _ (A1E h2)
 have hval:=LG (lo++[bt]) (2 ^ n) 0
 have hlen:=I3 (2 ^ n) (lo++[bt]) 0
 have hsm:=F4 hn32 hs (show 0<LB from BY)
 have hll:(lo++[bt]).length=lo.length+1:=by simp
 rw[hll]at hlen
 generalize K6 (lo++[bt]) (2 ^ n) 0=W at *
 obtain⟨V,t,rfl,hV⟩:=Fm hlen
 have hlo:Bi lo:=fun x hx=>hs x (A1H _ hx)
 have hvl:=CQ hlo
 have hsV:Bi V:=fun x hx=>hsm x (A1H _ hx)
 rw[Cj,hV]at hval
 have hup:AG (lo++[bt]) * 2 ^ n<LB ^ (lo.length+1):=by
  rw[Cj]
  have g1:AG lo+LB ^ lo.length * bt<LB ^ lo.length * (bt+1):=by rw[zp,zf];omega
  have g2:(AG lo+LB ^ lo.length * bt) * 2 ^ n<LB ^ lo.length * (bt+1) * 2 ^ n:=A1c g1 h2n
  have g3:LB ^ lo.length * (bt+1) * 2 ^ n≤LB ^ (lo.length+1):=by
   rw[zy,zu]
   exact A0P _ (by rw[hLB];exact hbt)
  omega
 have ht:t=0:=by
  rcases A0R t with h | h
  ·exact h
  ·exfalso
   have:=A0P (LB ^ (lo.length+1)) h
   omega
 have htk:(V++[t]).take (lo.length+1)=V:=by rw[← hV];simp
 rw[htk]
 rw[ht,A0F,zv,zv]at hval
 refine⟨hval,?_⟩
 obtain⟨vlo,v1,rfl,hvlo⟩:=Fm hV
 refine⟨vlo,v1,rfl,hvlo,?_⟩
 have hvs:Bi vlo:=fun x hx=>hsV x (A1H _ hx)
 have hvv:=CQ hvs
 rw[Cj,hvlo,Cj]at hval
 rw[hvlo]at hvv
 have g4:LB ^ lo.length * 2147483648≤(AG lo+LB ^ lo.length * bt) * 2 ^ n:=by
  rw[A0A,zu]
  exact zY (A0P _ h1) (Nat.le_add_left _ _)
 rcases zX v1 2147483648 with h | h
 ·exfalso
  have:=A0P (LB ^ lo.length) (show v1+1≤2147483648 from h)
  rw[zp,zf]at this
  omega
 ·exact h
theorem ug{la vlo:List Nat}{v1 n:Nat}(hs:Bi la)(hn:n≤31)(hv1:2147483648≤v1)(hlen:vlo.length+1≤la.length):
  AG ((K6 la (2 ^ n) 0).drop (la.length - vlo.length))<AG (vlo++[v1]):=by
 have hLB:LB=4294967296:=rfl
 have e31:(2:Nat) ^ 31=2147483648:=by decide
 have h2n:2 ^ n≤2147483648:=by rw[← e31];exact A0K (by decide) hn
 have hval:=LG la (2 ^ n) 0
 have hl:=I3 (2 ^ n) la 0
 have hsm:=F4 (show 2 ^ n<LB by rw[hLB];omega) hs (show 0<LB from BY)
 generalize K6 la (2 ^ n) 0=W at *
 obtain⟨U,t,rfl,hU⟩:=Fm hl
 rw[Cj,hU,zv]at hval
 have hA:=CQ hs
 have ht:t<2 ^ n:=by
  rcases zX t (2 ^ n)with h | h
  ·exact h
  ·exfalso
   have g1:=A0P (LB ^ la.length) h
   have g2:AG la * 2 ^ n<LB ^ la.length * 2 ^ n:=A1c hA (A0f (by decide))
   omega
 have hd:(U++[t]).drop (la.length - vlo.length)=U.drop (la.length - vlo.length)++[t]:=by
  rw[A1e (by omega)]
 rw[hd,Cj,Cj]
 have hsU:Bi U:=fun x hx=>hsm x (A1H _ hx)
 have h3:=CQ (hsU.drop (la.length - vlo.length))
 have hdl:(U.drop (la.length - vlo.length)).length=vlo.length:=by rw[A0C];omega
 rw[hdl]at h3 ⊢
 have g1:LB ^ vlo.length * (t+1)≤LB ^ vlo.length * v1:=A0P _ (by omega)
 rw[zp,zf]at g1
 omega
theorem Hj:∀ (l w:List Nat),(l.take w.length).zip w=l.zip w
 | [],w=>by simp
 | _::_,[]=>by simp
 | x::l,y::w=>by
  rw[A0G,A1h,A1I,A1I,Hj l w]
theorem iM{d w:List Nat}(h:d.length=w.length)(x:List Nat):(d++x).zip w=d.zip w:=by
 have:=Hj (d++x) w
 rw[← h,List.take_left]at this
 exact this.symm
end
end Go.Proofs.YtjnkfbpadpmakaaGreatDoor.Am
set_option linter.unusedVariables false
set_option linter.unusedSimpArgs false
set_option maxRecDepth 12000
namespace Go.Proofs.YtjnkfbpadpmakaaGreatDoor.Am
open Go Go.Proofs
noncomputable section
structure GoodN(E:CR):Prop where
 P:E.P=Tryz.prog
 nat:∀ (f:FuncId) (xs:List AV) (s:AE),f ∉ [78,15]→E.nat f xs s=none
theorem GoodN.go{E:CR}(hE:GoodN E){f:FuncId}{xs:List AV}{cf:Ah}{K:AV→AE→Prop}{s:AE}(hf:AL Tryz.prog f=some cf)(hne:f ∉ [78,15])(ha:xs.length=cf.na)(h:Qa E none cf.body (Ends Tryz.prog cf.results K) (Ql xs cf.nv) [] s):WF E f xs K s:=
 WF.body' (hE.nat f xs s hne) (by rw[hE.P];exact hf) ha (by rw[hE.P];exact h)
def Of(s:AE)(a:Option (Nat×Nat))(cap:Option Nat)(n:Nat):Prop:=
 (∃c,cap=some c∧n≤c∧(a=none→c=0))∨(cap=none∧∃i o r,a=some (i,o)∧i<s.next∧s.heap.get i=some (.row r)∧r.sz=1∧o+n≤r.n)
theorem Of.old{s s':AE}{a:Option (Nat×Nat)}{cap:Option Nat}{n:Nat}(h:Of s a cap n)(k:Aa s.next s s'):Of s' a cap n:=by
 rcases h with h | ⟨h1,i,o,r,h3,h4,h5,h6⟩
 ·exact .inl h
 ·exact .inr ⟨h1,i,o,r,h3,zZ h4 k.1,by rw[k.2 i h4];exact h5,h6⟩
theorem Of.less{s:AE}{a:Option (Nat×Nat)}{cap:Option Nat}{n k:Nat}(h:Of s a cap n)(hk:k≤n):Of s a cap k:=by
 rcases h with⟨c,h1,h2,h3⟩ | ⟨h1,i,o,r,h3,h4,h5,h6,h7⟩
 ·exact .inl ⟨c,h1,by omega,h3⟩
 ·exact .inr ⟨h1,i,o,r,h3,h4,h5,h6,by omega⟩
theorem RR{t e:TypeId}(ht:Tryz.prog.underlying t=some (.slice e))(hs:BJ Tryz.prog e=some 1){s:AE}{a:Option (Nat×Nat)}{cap:Option Nat}{n k:Nat}(hc:Of s a cap n)(hk:k≤n):
    At Tryz.prog t false true false s [.slice a n cap,iv (k:Int)]=some (.slice a k cap):=by
  show Bo Tryz.prog s t (.slice a n cap) none (some (iv (k:Int))) none=_
  rcases hc with⟨c,rfl,h1,h2⟩ | ⟨rfl,i,o,r,rfl,h3,h4,h5,h6⟩
  · have hb:Bn (iv (k:Int)) c=some k:=by simp[Bn,F8,AQ,CU (show k≤c by omega),D3]
    cases a with
    | none=>simp[Bo,ht,hs,hb]
    | some io=>obtain⟨i,o⟩:=io;cases hb2:Nat.beq c 0<;>simp[Bo,ht,hs,hb]
  · have hrow : rowAt s i = some r := by unfold rowAt; rw [h4]
    have hb:Bn (iv (k:Int)) ((r.n - o) / 1)=some k:=by simp[Bn,F8,AQ,CU (show k≤r.n - o by omega),D3]
    have hsz:Nat.beq 1 r.sz=true:=Fq h5.symm
    simp only[Bo,ht,hs,hrow,hsz,AQ,hb,CU (show o≤r.n by omega),show Nat.beq 1 0=false from rfl,Option.bind_some,Bool.true_and,Bool.and_true,Bool.not_false,cond_true]
    simp
def By(s:AE)(v:AV)(l:List Nat):Prop:=∃a cap,v=.slice a l.length cap∧Of s a cap l.length∧AS s.next s a (us l)
theorem By.old{s s':AE}{v:AV}{l:List Nat}(h:By s v l)(k:Aa s.next s s'):By s' v l:=by
 obtain⟨a,cap,h1,h2,h3⟩:=h
 exact⟨a,cap,h1,h2.old k,(h3.old k (zU _)).mono k.1⟩
theorem By.at{s:AE}{a:Option (Nat×Nat)}{l:List Nat}(h:AS s.next s a (us l)){k x:Nat}(hk:l[k]? = some x):∃i o,a=some (i,o)∧i<s.next∧DB s i (o+k)=some (A6 x):=h k _ (DG hk)
theorem By.take{s:AE}{a:Option (Nat×Nat)}{cap:Option Nat}{l:List Nat}(h2:Of s a cap l.length)(h3:AS s.next s a (us l)){k:Nat}(hk:k≤l.length):By s (.slice a k cap) (l.take k):=by
 have hl:(l.take k).length=k:=by rw[zo];omega
 refine⟨a,cap,by rw[hl],by rw[hl];exact h2.less hk,fun j u hu=>?_⟩
 rw[WY,A1P]at hu
 split at hu
 ·exact h3 j u hu
 ·cases hu
def xW(s:AE)(v:AV)(l:List Nat):Prop:=∃i,v=.slice (some (i,0)) l.length none∧i<s.next∧Ck s i (us l) none
def NR(b:Nat)(s:AE)(v:AV)(l:List Nat):Prop:=∃O,B9 76 s v l.length 1 (us l) O∧(∀j∈O,b≤j)∧(∀j,B6 v=some j→b≤j)∧(l≠[]→xW s v l)
theorem B9.n32{s:AE}{v:AV}{l O:List Nat}(h1:B9 76 s v l.length 1 (us l) O):By s v l:=by
 obtain⟨a,cap,rfl,hc⟩:=h1.cells
 refine⟨a,cap,rfl,?_,hc⟩
 rcases h1 with⟨a',e,_,_,h4,_⟩ | ⟨i,p,e,h2,_⟩
 ·injection e with e1 e2 e3
  subst e1;subst e3
  exact .inl ⟨_,rfl,zU _,h4⟩
 ·injection e with e1 e2 e3
  subst e1;subst e3
  rcases h2.ex with⟨e',_⟩ | ⟨_,_,k2,_,r,k4,k5,_,_,k8,_⟩
  ·cases e'
  ·exact .inr ⟨rfl,i,0,r,rfl,k2,k4,k8,by rw[k5.1,DW];omega⟩
theorem NR.n32{b:Nat}{s:AE}{v:AV}{l:List Nat}(h:NR b s v l):By s v l:=by
 obtain⟨O,h1,_,_⟩:=h
 exact h1.n32
theorem NR.mono{b b':Nat}{s:AE}{v:AV}{l:List Nat}(h:NR b s v l)(k:b'≤b):NR b' s v l:=by
 obtain⟨O,h1,h2,h3,h4⟩:=h
 exact⟨O,h1,fun j hj=>zY k (h2 j hj),fun j hj=>zY k (h3 j hj),h4⟩
theorem NR.nil(b:Nat)(s:AE):NR b s (.slice none 0 (some 0)) []:=⟨[],B9.nil s 1,fun j hj=>(by cases hj),fun j hj=>(by cases hj),fun h=>absurd rfl h⟩
theorem NR.old{b:Nat}{s s':AE}{v:AV}{l:List Nat}(h:NR b s v l)(k:Aa s.next s s'):NR b s' v l:=by
 obtain⟨O,h1,h2,h3,h4⟩:=h
 refine⟨O,h1.frame k.1 (fun j hj=>?_),h2,h3,fun hne=>by obtain⟨i,q1,q2,q3⟩:=h4 hne;exact⟨i,q1,zZ q2 k.1,q3.keep (k.2 i q2)⟩⟩
 refine k.2 j ?_
 rcases h1 with⟨a,rfl,_,_,_,h5⟩ | ⟨i,p,rfl,h6,_⟩
 ·cases a with
  | none=>cases hj
  | some io=>obtain⟨i,o⟩:=io;injection hj with hj;subst hj;exact(h5 i o rfl).1
 ·injection hj with hj
  subst hj
  rcases h6.ex with⟨e',_⟩ | ⟨_,_,k2,_⟩
  ·cases e'
  ·exact k2
theorem S9:B0 Tryz.prog 22=true:=by kernel_rfl
theorem NU:DH Tryz.prog 76 1=true:=by kernel_rfl
theorem kV:Ad Tryz.prog 22 0 (zipIdx [] [])=some (R 76 1 false []):=by kernel_rfl
theorem Gp(x:Int):Ad Tryz.prog 22 1 (zipIdx [0] [.int .u32 x])=some (R 76 1 false [.int .u32 x]):=by kernel_rfl
theorem P0(x y:Int):Ad Tryz.prog 22 2 (zipIdx [0,1] [.int .u32 x,.int .u32 y])=some (R 76 1 false [.int .u32 x,.int .u32 y]):=by kernel_rfl
theorem iJ(l:List Nat):Aq (us l)=true:=by
 induction l with
 | nil=>rfl
 | cons x l ih=>show((A6 x).isCell && Aq (us l))=true;rw[ih];rfl
theorem gy{s:AE}{a:Option (Nat×Nat)}{cap:Option Nat}{l:List Nat}(h:AS s.next s a (us l)):Co Tryz.prog s 76 1 (.slice a l.length cap)=some (l.length,us l):=by
 cases l with
 | nil =>
  cases a with
  | none=>rfl
  | some io=>obtain⟨i,o⟩:=io;rfl
 | cons x l =>
  obtain⟨i,o,rfl,_,_⟩:=h 0 _ rfl
  have hld:=JM (o:=s.heap.get i) (us (x::l)) o (fun j u hj=>by
   obtain⟨i',o',e,_,h3⟩:=h j u hj
   injection e with e
   injection e with e1 e2
   subst e1;subst e2
   exact h3) (by simp[us])
  rw[DW]at hld
  show(Nh s i o (x::l).length 1).bind _=_
  rw[show Nh s i o (x::l).length 1=CL s i o ((x::l).length * 1)from by unfold Nh;rw[Dp (show(x::l).length≠0 by simp)];rfl,zf,JL,hld]
  rfl
theorem QP{s:AE}{i o:Nat}(hz:CL s i o 0=some []){ax:Option (Nat×Nat)}{m:Nat}{cx:Option Nat}{add:List AV}(hsrc:Co Tryz.prog s 76 1 (.slice ax m cx)=some (m,add))(ha:add.length=m)(hc:Aq add=true)(hm:0<m)(hml:m≤100000000000):
  Aj Tryz.prog s [22,22] [.slice (some (i,o)) 0 (some 0),.slice ax m cx]=some (.slice (some (s.next,0)) m none,newObj s (R 76 1 true add)):=by
 rw[EP Tryz.underlying22 C5 W7 (by omega) S9 hsrc hc (by omega) (by omega)]
 simp only[appTo,HB,zk,Ou hm,cond_false,A0b,hz,Option.bind_some,DA,AQ,NU,cond_true,A0y]
 rfl
section
variable{E:CR}{s:AE}
theorem MC(hE:GoodN E){v:AV}{l:List Nat}(hv:By s v l)(hl:l.length≤100000000000){K:AV→AE→Prop}(hK:∀s' v',Aa s.next s s'→NR s.next s' v' l→K v' s'):WF E 136 [v] K s:=by
  obtain⟨a,cap,rfl,hcap,hc⟩:=hv
  refine hE.go Vo (by decide) rfl ?_
  by_cases hnil:a=none
  · subst hnil
    have hl0:l=[]:=by
      cases l with
      | nil=>rfl
      | cons x l=>obtain⟨_,_,e,_⟩:=hc 0 _ rfl;cases e
    subst hl0
    have e1:AN Tryz.prog .eql 22 (.slice none 0 cap) (.slice none 0 (some 0))=some (.bool true):=by kernel_rfl
    simp only[iu,PC,PD,TY,A1R,e1,Qa,Qb,Qc,Qd,Qf,Qh,Qi,Qj,Ql,Qm,Qo,true_and,Qp,Qq,Qr,Qs,Qt,Qv,Qz,Rb,Rc,Rh,Rj,Rk,Rm,Rn,Yc,A1p]
    exact hK s _ (Aa.refl _ _) (NR.nil _ _)
  · obtain⟨⟨i,o⟩,rfl⟩:∃io,a=some io:=by cases a with | none=>exact absurd rfl hnil | some io=>exact⟨io,rfl⟩
    have e1:∀n,AN Tryz.prog .eql 22 (.slice (some (i,o)) n cap) (.slice none 0 (some 0))=some (.bool false):=fun n=>by kernel_rfl
    have ho:=Aa.new s (R 76 1 false [])
    have hd:B9 76 (newObj s (R 76 1 false [])) (.slice (some (s.next,0)) 0 (some 0)) 0 1 [] []:=.inl ⟨some (s.next,0),rfl,rfl,rfl,fun e=>(by cases e),fun i o e=>by
      injection e with e
      injection e with e1 e2
      subst e1;subst e2
      exact⟨A0T _,by rw[JL,AU,if_pos rfl];rfl⟩⟩
    have hc2:AS (newObj s (R 76 1 false [])).next (newObj s (R 76 1 false [])) (some (i,o)) (us l):=(hc.old ho (zU _)).mono ho.1
    obtain⟨v',s',O',happ,hd',hn1,hn2,hf,hO,hsl⟩:=hd.append (xt:=22) Tryz.underlying22 C5 W7 (by omega) S9 NU (gy (cap:=cap) hc2) (by rw[DW];omega) (iJ l) (by omega) (by omega)
    simp only[iu,PC,PD,Z6,e1,kV,Xe,happ,Qa,Qb,Qc,Qd,Qf,Qh,Qi,Qj,Qk,Ql,Qm,Qo,true_and,Qp,Qq,Qr,Qs,Qt,Qv,Ra,Rb,Rc,Rh,Rj,Rk,Rm,Rn,Yc,A1p]
    have hsn:(newObj s (R 76 1 false [])).next=s.next+1:=rfl
    refine hK s' v' ⟨by omega,fun j hj=>by rw[hf j (by omega) (by simp),AU,if_neg (by omega)]⟩ ⟨O',by simpa using hd',fun j hj=>?_,fun j hj=>?_,fun hne=>?_⟩
    · rcases hO j hj with h | h
      · cases h
      · omega
    · rcases hsl j hj with h | h
      · injection h with h;omega
      · omega
    · have hlp : 0 < l.length := List.length_pos_iff.2 hne
      have h2:=QP (i:=s.next) (o:=0) (s:=newObj s (R 76 1 false [])) (by rw[JL,AU,if_pos rfl];rfl) (gy (cap:=cap) hc2) (DW l) (iJ l) hlp (by omega)
      rw[h2]at happ
      injection happ with happ
      injection happ with e5 e6
      rw[← e5,← e6]
      exact⟨_,rfl,A0T _,Ck.of_R (by rw[AU,if_pos rfl])⟩
theorem NP(l:List Nat)(x:Nat):DL (l++[x])=if x=0 then DL l else l++[x]:=by
 induction l with
 | nil=>by_cases h:x=0<;>simp[DL,h]
 | cons y l ih =>
  show(if y=0∧DL (l++[x])=[]then []else y::DL (l++[x]))=_
  rw[ih]
  by_cases h:x=0
  ·simp only[h,if_true];rfl
  ·simp[h]
theorem OW{a:Option (Nat×Nat)}{cap:Option Nat}{l:List Nat}(hc:AS s.next s a (us l))(hl:l.length≤100000000000){Q:Az→Prop}(x1:AV)
  (hq:∀ (k:Nat) (y3:AV),k≤l.length→DL l=l.take k→Q ⟨.exit 0,[.slice a l.length cap,x1,iv (k:Int),y3],[],s⟩):
  ∀ (k:Nat) (x3:AV),k≤l.length→DL l=DL (l.take k)→WC E none (.loop Np) Q [.slice a l.length cap,x1,iv (k:Int),x3] [] s:=by
 intro k
 induction k with
 | zero =>
  intro x3 hk ht
  have d0:decide ((0:Int)<((0:Nat):Int))=false:=rfl
  refine WC.loop' ?_
  simp only[Np,Vh,Rz,d0,Qa,Qb,Qc,Qd,Qf,Qg,Qh,Qi,Qj,Qk,Qm,Qo,true_and,Qp,Qq,Qr,Qs,Qt,Qu,Qv,Qw,Qx,Ra,Rb,Rd,Re,Rs,Ru,Rw,Rz]
  exact hq 0 _ hk (by rw[ht];rfl)
 | succ k ih =>
  intro x3 hk ht
  have hx:l[k]? = some l[k]:=zW (by omega)
  generalize l[k]=x at hx
  obtain⟨i,o,rfl,_,hload⟩:=By.at hc hx
  have htk:l.take (k+1)=l.take k++[x]:=by rw[List.take_add_one,hx];rfl
  have d0:decide ((0:Int)<((k+1:Nat):Int))=true:=decide_eq_true (by omega)
  have e1:=CT Tryz.prog 3 ((k+1:Nat):Int) 1 ⟨by omega,by omega⟩
  have e2:((k+1:Nat):Int) - 1=(k:Int):=by omega
  have e3:=AX (cap:=cap) (i:=i) (o:=o) Tryz.underlying22 C5 (show k<l.length by omega)
  have e4:AB Tryz.prog s 76 (.ptr (some (i,o+k * 1)))=some (A6 x):=Bq G5 (by rw[zf];exact hload)
  have e5:AN Tryz.prog .eql 76 (A6 x) (.int .u32 0)=some (.bool (decide (x=0))):=iG Tryz.prog 76 (b:=0) .u32
  refine WC.loop' ?_
  generalize hW:WC E none (Ac.loop Np) Q=WW
  by_cases h0:x=0
  ·have d1:decide (x=0)=true:=decide_eq_true h0
   simp only[Np,Vh,qq,Rz,d0,e1,e2,e3,e4,e5,d1,Qa,Qb,Qc,Qd,Qf,Qg,Qh,Qi,Qj,Qk,Qm,Qo,true_and,Qp,Qq,Qr,Qs,Qt,Qv,Qw,Qx,Qz,Rb,Rd,Re,Rs,Ru,Rw,Rz,A1t,A1p]
   rw[← hW]
   exact ih _ (by omega) (by rw[ht,htk,NP,if_pos h0])
  ·have d1:decide (x=0)=false:=decide_eq_false h0
   simp only[Np,Vh,Rz,d0,e1,e2,e3,e4,e5,d1,Qa,Qb,Qc,Qd,Qf,Qg,Qh,Qi,Qj,Qk,Qm,Qo,true_and,Qp,Qq,Qr,Qs,Qt,Qv,Qw,Qx,Ra,Rb,Rd,Re,Rs,Ru,Rw,Rz]
   exact hq (k+1) _ hk (by rw[ht,htk,NP,if_neg h0])
theorem FN(l:List Nat):(DL l).length≤l.length:=by
 induction l with
 | nil=>exact zU _
 | cons x l ih=>unfold DL;split<;>simp<;>omega
theorem C8(hE:GoodN E){v:AV}{l:List Nat}(hv:By s v l)(hl:l.length≤100000000000){K:AV→AE→Prop}(hK:∀s' v',Aa s.next s s'→NR s.next s' v' (DL l)→K v' s'):WF E 92 [v] K s:=by
 obtain⟨a,cap,rfl,hcap,hc⟩:=hv
 refine hE.go eh (by decide) rfl ?_
 simp only[xg,eI,eJ,AH Tryz.underlying22,Qa,Qb,Qc,Qd,Qf,Qh,Qi,Qj,Qk,Ql,Qm,Qo,true_and,Qp,Qq,Qr,Qt,Qv,Rb,Rh,Rk,Rm,Rn,Yc,A1p,A1s]
 refine OW hc hl _ (fun k y3 hk ht=>?_) l.length _ (zU _) (by rw[A1J])
 have e1:=RR Tryz.underlying22 C5 hcap hk
 simp only[eK,e1,if_true,Qb,Qc,Qd,Qf,Qh,Qj,Qk,Qm,Qo,true_and,Qr,Qs,Qt,Qv,Rb,Rd,Rg,Rj,A1u,A1p]
 refine MC hE (By.take hcap hc hk) (by rw[zo];omega) fun s' v' h1 h2=>?_
 simp only[Qd,Qo,true_and,Qp,Qq,Qr,Qs]
 rw[← ht]at h2
 exact hK s' v' h1 h2
theorem XD(hE:GoodN E){K:AV→AE→Prop}(hK:K (.slice none 0 (some 0)) s):WF E 136 [.slice none 0 (some 0)] K s:=by
 refine hE.go Vo (by decide) rfl ?_
 have e1:AN Tryz.prog .eql 22 (.slice none 0 (some 0)) (.slice none 0 (some 0))=some (.bool true):=by kernel_rfl
 simp only[iu,PC,PD,TY,e1,Qa,Qb,Qc,Qd,Qf,Qh,Qi,Qj,Ql,Qm,Qo,true_and,Qp,Qq,Qr,Qs,Qt,Qv,Qz,Rb,Rc,Rh,Rj,Rk,Rm,Rn,Yc,A1p]
 exact hK
theorem iE(hE:GoodN E){K:AV→AE→Prop}(hK:K (.slice none 0 (some 0)) s):WF E 92 [.slice none 0 (some 0)] K s:=by
 refine hE.go eh (by decide) rfl ?_
 have hn:=(NR.nil 0 s).n32
 obtain⟨a,cap,e,hcap,hc⟩:=hn
 injection e with e1 e2 e3
 subst e1;subst e3
 simp only[xg,eI,eJ,AH Tryz.underlying22,Qa,Qb,Qc,Qd,Qf,Qh,Qi,Qj,Qk,Ql,Qm,Qo,true_and,Qp,Qq,Qr,Qt,Qv,Rb,Rh,Rk,Rm,Rn,Yc,A1p,A1s]
 refine OW (l:=[]) hc (by simp) _ (fun k y3 hk ht=>?_) 0 _ (zU _) rfl
 have hk0:k=0:=by simpa using hk
 subst hk0
 have e1:=RR Tryz.underlying22 C5 hcap (zU 0)
 simp only[A1R]at e1
 simp only[eK,A1R,e1,if_true,Qb,Qc,Qd,Qf,Qh,Qj,Qk,Qm,Qo,true_and,Qr,Qs,Qt,Qv,Rb,Rd,Rg,Rj,A1u,A1p]
 refine XD hE ?_
 simp only[Qd,Qo,true_and,Qp,Qq,Qr,Qs]
 exact hK
end
theorem CP{s:AE}{n:Nat}:A7 Tryz.prog s 69 76 (An n)=some (A6 (n % 4294967296)):=by
 have:A7 Tryz.prog s 69 76 (An n)=some (.int .u32 (De .u32 (n:Int))):=by
  simp[A7,Tryz.underlying69,Tryz.underlying76]
 rw[this,YA]
 rfl
theorem B7{s:AE}{n:Nat}(h:n<4294967296):A7 Tryz.prog s 76 69 (A6 n)=some (An n):=by
 have:A7 Tryz.prog s 76 69 (A6 n)=some (.int .u64 (De .u64 (n:Int))):=by
  simp[A7,Tryz.underlying69,Tryz.underlying76]
 rw[this,NS (by omega)]
theorem JT      {s : AE}  {v : AV} {l : List Nat} {O : List Nat} (hd : B9   76 s v l.length 1 (us l) O) (x : Nat) (hl : l.length ≤ 100000000000) :
    ∃v' s' O',Aj Tryz.prog (newObj s (R 76 1 false [A6 x])) [22,22] [v,.slice (some (s.next,0)) 1 (some 1)]=some (v',s')∧B9 76 s' v' (l++[x]).length 1 (us (l++[x])) O'∧s.next≤s'.next ∧
      (∀j,j<s.next→j ∉ O→s'.heap.get j=s.heap.get j)∧(∀j∈O',j∈O∨s.next≤j)∧(∀j,B6 v'=some j→B6 v=some j∨s.next≤j):=by
  have hsn:(newObj s (R 76 1 false [A6 x])).next=s.next+1:=rfl
  have Kh:B9 76 (newObj s (R 76 1 false [A6 x])) v l.length 1 (us l) O:=hd.frame (by omega) (fun j hj=>by
    rw[AU,if_neg]
    intro e
    subst e
    rcases hd with⟨a,rfl,_,_,_,h5⟩ | ⟨i,p,rfl,h6,_⟩
    · cases a with
      | none=>cases hj
      | some io =>
        obtain⟨i,o⟩:=io
        injection hj with hj
        have:=(h5 i o rfl).1
        omega
    · injection hj with hj
      rcases h6.ex with⟨e',_⟩ | ⟨_,_,k2,_⟩
      · cases e'
      · omega)
  have hsrc:Co Tryz.prog (newObj s (R 76 1 false [A6 x])) 76 1 (.slice (some (s.next,0)) 1 (some 1))=some (1,[A6 x]):=P5 76 1 (by rw[AU,if_pos rfl];rfl) rfl
  obtain⟨v',s',O',happ,hd',hn1,hn2,hf,hO,hsl⟩:=Kh.append (xt:=22) Tryz.underlying22 C5 W7 (by omega) S9 NU hsrc rfl rfl (by omega) (by omega)
  refine⟨v',s',O',happ,?_,by omega,fun j hj hjO=>by rw[hf j (by omega) hjO,AU,if_neg (by omega)],fun j hj=>(hO j hj).imp id (fun h=>by omega),fun j hj=>(hsl j hj).imp id (fun h=>by omega)⟩
  rw[Ob,zg]
  exact hd'
theorem FD.dest{s:AE}{v:AV}{n:Nat}{cs:List AV}{O:List Nat}(h:FD 76 1 s v n cs O):B9 76 s v n 1 cs O:=by
 rcases h with⟨rfl,rfl,rfl,rfl⟩ | ⟨i,p,h1,h2,h3⟩
 ·exact B9.nil s 1
 ·exact .inr ⟨i,p,h1,h2,h3⟩
def NW(b:Nat)(s:AE)(v:AV)(l:List Nat):Prop:=∃O,FD 76 1 s v l.length (us l) O∧∀j∈O,b≤j
theorem NW.n32'{b:Nat}{s:AE}{v:AV}{l:List Nat}(h:NW b s v l):By s v l:=by
 obtain⟨O,h1,h2⟩:=h
 exact h1.dest.n32
theorem NW.own{b:Nat}{s:AE}{v:AV}{l:List Nat}(h:NW b s v l)(h0:l≠[]):∃i p,v=.slice (some (i,0)) l.length none∧b≤i∧i<s.next∧Ck s i (us l) p∧∀q,p=some q→b≤q∧q<s.next∧q≠i:=by
  obtain⟨O,h1,h2⟩:=h
  rcases h1 with⟨_,h3,_⟩ | ⟨i,p,rfl,h3,rfl⟩
  · exact absurd (A0w h3) h0
  · rcases h3.ex with ⟨e, _⟩ | ⟨_, _, k2, k3, r, k4, k5, _, k7, k8, k9, _⟩
    · cases e
    · refine⟨i,p,rfl,h2 i (by simp),k2,⟨r,k4,k5,by rw[k7];rfl,k8,.inr k9⟩,fun q hq=>?_⟩
      obtain⟨_,q2,q3⟩:=k3 q hq
      exact⟨h2 q (by simp[hq]),q2,q3⟩
theorem SW{s:AE}{v:AV}{l:List Nat}{O:List Nat}(hd:FD 76 1 s v l.length (us l) O)(x:Nat)(hl:l.length≤100000000000):
  ∃v' s' O',Aj Tryz.prog (newObj s (R 76 1 false [A6 x])) [22,22] [v,.slice (some (s.next,0)) 1 (some 1)]=some (v',s')∧FD 76 1 s' v' (l++[x]).length (us (l++[x])) O'∧s.next≤s'.next ∧
   (∀j,j<s.next→j ∉ O→s'.heap.get j=s.heap.get j)∧(∀j∈O',j∈O∨s.next≤j)∧(∀j,B6 v'=some j→B6 v=some j∨s.next≤j):=by
 have hsn:(newObj s (R 76 1 false [A6 x])).next=s.next+1:=rfl
 have Kh:=hd.frame (s':=newObj s (R 76 1 false [A6 x])) (by omega) (fun j hj=>by rw[AU,if_neg (by have:=hd.lt j hj;omega)])
 have hsrc:Co Tryz.prog (newObj s (R 76 1 false [A6 x])) 76 1 (.slice (some (s.next,0)) 1 (some 1))=some (1,[A6 x]):=P5 76 1 (by rw[AU,if_pos rfl];rfl) rfl
 obtain⟨v',s',O',happ,hb',hn',hf,hO,hsl⟩:=Kh.append (xt:=22) (m:=1) Tryz.underlying22 C5 W7 (by omega) S9 NU (by omega) hsrc rfl rfl (by omega) (by omega)
 refine⟨v',s',O',happ,?_,by omega,fun j hj hjO=>by rw[hf j (by omega) hjO,AU,if_neg (by omega)],fun j hj=>(hO j hj).imp id (fun h=>by omega),fun j hj=>?_⟩
 ·rw[Ob,zg]
  exact hb'
 ·rw[hsl]at hj
  injection hj with hj
  exact .inr (by omega)
section
variable{E:CR}{s:AE}
theorem XT(n:Nat):AG [n % 4294967296,n / 4294967296]=n:=by
 show n % 4294967296+LB * (n / 4294967296+LB * 0)=n
 rw[show LB=4294967296 from rfl]
 omega
theorem V3(hE:GoodN E){n:Nat}(hn:n<18446744073709551616){K:AV→AE→Prop}(hK:∀s' v',Aa s.next s s'→NR s.next s' v' (AR n)→K v' s'):WF E 48 [An n] K s:=by
 refine hE.go th (by decide) rfl ?_
 have e1:=K0 Tryz.prog 69 hn
 have e2:=Jh Tryz.prog 69 (a:=n) (k:=.u64) (n:=32) (by decide)
 have e2:AN Tryz.prog .shr 69 (An n) (.int .u64 32)=some (An (n / 4294967296)):=e2
 have e3:n % 4294967296 % 4294967296=n % 4294967296:=A1K _ _
 have e4:n / 4294967296 % 4294967296=n / 4294967296:=A0I (by omega)
 have hrow:By (newObj s (R 76 1 false [A6 (n % 4294967296),A6 (n / 4294967296)])) (.slice (some (s.next,0)) 2 (some 2)) [n % 4294967296,n / 4294967296]:=by
  refine⟨some (s.next,0),some 2,rfl,.inl ⟨2,rfl,zU _,fun e=>by cases e⟩,?_⟩
  exact Gc (e:=76) (sz:=1) (sp:=false) (by rw[AU,if_pos rfl];rfl) (A0T _)
 simp only[yh,oB,oC,e1,e2,CP,e3,e4,P0,Xe,Qa,Qb,Qc,Qd,Qf,Qh,Qi,Qj,Qk,Ql,Qm,Qo,true_and,Qp,Qq,Qr,Qs,Qt,Qv,Rb,Rh,Rj,Rk,Rm,Rn,Yc,A1p,A1u]
 refine C8 hE hrow (by simp) fun s' v' h1 h2=>?_
 have hs:Bi [n % 4294967296,n / 4294967296]:=fun x hx=>by
  have hB:LB=4294967296:=rfl
  simp only[List.mem_cons,List.not_mem_nil,or_false]at hx
  rcases hx with rfl | rfl
  ·exact A0E _ (by decide)
  ·omega
 rw[B8 hs,XT]at h2
 simp only[Qd,Qo,true_and,Qp,Qq,Qr,Qs]
 exact hK s' v' ((Aa.new s _).trans (h1.mono (A0X _))) (h2.mono (A0X _))
theorem iq{x:Nat}(hx:x<4294967296){a:Option (Nat×Nat)}{cap:Option Nat}{l:List Nat}{b:Nat}(hc:AS b s a (us l))(hb:b≤s.next)(hl:l.length≤10000000000)(hs:Bi l){T:List Nat}{Q:Az→Prop}(x0 x3:AV)
  (hq:∀ (s':AE) (c:Nat) (v4:AV) (d O:List Nat) (y5 y8 y9:AV),Aa s.next s s'→c<4294967296→d++[c]=T→FD 76 1 s' v4 d.length (us d) O→(∀j∈O,s.next≤j)→(∀j,B6 v4=some j→s.next≤j) →
   Q ⟨.exit 0,[x0,An x,An c,x3,v4,y5,.slice a l.length cap,iv (l.length:Int),y8,y9],[],s'⟩):
  ∀ (r:List Nat) (k:Nat) (s':AE) (c:Nat) (v4:AV) (d O:List Nat) (x5 x9:AV),l.drop k=r→k≤l.length→d.length=k→Aa s.next s s'→c<4294967296→d++K6 r x c=T→FD 76 1 s' v4 d.length (us d) O→(∀j∈O,s.next≤j)→(∀j,B6 v4=some j→s.next≤j) →
   WC E none (.loop Lt) Q [x0,An x,An c,x3,v4,x5,.slice a l.length cap,iv (l.length:Int),iv (k:Int),x9] [] s':=by
 intro r
 induction r with
 | nil =>
  intro k s' c v4 d O x5 x9 hd hk hdl ho hc' hT hD hO hsl
  have hkl:k=l.length:=by
   have:=congrArg List.length hd
   simp at this
   omega
  subst hkl
  refine WC.loop' ?_
  simp only[Lt,TZ,Ry,Int.lt_irrefl,decide_false,Qa,Qb,Qc,Qd,Qf,Qh,Qj,Qm,Qo,true_and,Qp,Qq,Qr,Qs,Qt,Qv,Ra,Rb,Rd,Re,Ry,A1x]
  exact hq s' c v4 d O _ _ _ ho hc' hT hD hO hsl
 | cons y r ih =>
  intro k s' c v4 d O x5 x9 hd hk hdl ho hc' hT hD hO hsl
  have hlt:k<l.length:=by
   rcases zX k l.length with h' | h'
   ·exact h'
   ·rw[A0D h']at hd;cases hd
  have hy:l[k]? = some y:=by
   have:=congrArg (fun l=>l[0]?) hd
   simpa using this
  have hd':l.drop (k+1)=r:=by
   have:=congrArg (List.drop 1) hd
   simpa[A0h]using this
  have hys:y<4294967296:=hs y (zw hy)
  obtain⟨i,o,rfl,hi,hload⟩:=hc k _ (DG hy)
  have hkk:decide ((k:Int)<(l.length:Int))=true:=decide_eq_true (by omega)
  have e1:=AX (cap:=cap) (i:=i) (o:=o) Tryz.underlying22 C5 hlt
  have e2:AB Tryz.prog s' 76 (.ptr (some (i,o+k * 1)))=some (A6 y):=Bq G5 (by rw[zf,CS (ho.2 i (by omega))];exact hload)
  have hxy:x * y≤4294967295 * 4294967295:=A0W (by omega) (by omega)
  have e3:=Sx Tryz.prog 69 (a:=x) (b:=y) (by omega)
  have e4:=IU Tryz.prog 69 (a:=c) (b:=x * y) (by omega)
  have e5:=K0 Tryz.prog 69 (a:=c+x * y) (by omega)
  have e6:(c+x * y) % 4294967296 % 4294967296=(c+x * y) % 4294967296:=A1K _ _
  have e7:AN Tryz.prog .shr 69 (An (c+x * y)) (.int .u64 32)=some (An ((c+x * y) / 4294967296)):=Jh Tryz.prog 69 (k:=.u64) (n:=32) (by decide)
  have e8:=Ax Tryz.prog 3 (k:Int) 1 ⟨by omega,by omega⟩
  have e8':((k:Int)+1)=((k+1:Nat):Int):=by omega
  obtain⟨v',s2,O',happ,hD',hn',hf',hO',hsl'⟩:=SW hD ((c+x * y) % 4294967296) (by omega)
  refine WC.loop' ?_
  generalize hW:WC E none (Ac.loop Lt) Q=WW
  simp only[Lt,TZ,aC,aE,aF,aG,aH,Ry,hkk,e1,e2,B7 hys,e3,e4,e5,CP,e6,Gp,Xe,happ,e7,e8,e8',Qa,Qb,Qc,Qd,Qf,Qh,Qi,Qj,Qk,Qm,Qo,true_and,Qp,Qq,Qr,Qs,Qt,Qv,Qz,Rb,Rd,Re,Yc,Ry,A1x,A1v,A1m,A1p,A1t,A1w]
  rw[← hW]
  refine ih (k+1) s2 ((c+x * y) / 4294967296) v' (d++[(c+x * y) % 4294967296]) O' _ _ hd' hlt (by rw[zg,hdl];rfl) ⟨by have:=ho.1;omega,fun j hj=>by rw[hf' j (by have:=ho.1;omega) (fun hjO=>by have:=hO j hjO;omega)];exact ho.2 j hj⟩ (by omega) ?_ hD' (fun j hj=>(hO' j hj).elim (hO j) (fun h=>by have:=ho.1;omega)) (fun j hj=>(hsl' j hj).elim (hsl j) (fun h=>by have:=ho.1;omega))
  rw[← hT,A0O]
  rfl
theorem vK(hE:GoodN E){v:AV}{l:List Nat}(hv:By s v l)(hl:l.length≤10000000000)(hs:Bi l){x c:Nat}(hx:x<4294967296)(hc:c<4294967296){K:AV→AE→Prop}(hK:∀s' v',Aa s.next s s'→NW s.next s' v' (K6 l x c)→K v' s'):
  WF E 137 [v,An x,An c] K s:=by
 obtain⟨a,cap,rfl,hcap,hcc⟩:=hv
 refine hE.go ja (by decide) rfl ?_
 simp only[wB,Z7,Z8,Z9,AH Tryz.underlying22,Qa,Qb,Qc,Qd,Qf,Qh,Qi,Qj,Ql,Qm,Qo,true_and,Qp,Qq,Qr,Qs,Qt,Qv,Rb,Rh,Rk,Rm,Rn,Yc,A1p]
 refine iq hx hcc (zU _) hl hs (T:=K6 l x c) _ _ (fun s' c' v4 d O y5 y8 y9 ho hc' hT hD hO hsl=>?_) l 0 s c _ [] [] _ _ rfl (ze _) rfl (Aa.refl _ _) hc rfl (FD.nil _ _ s) (fun j hj=>(by cases hj)) (fun j hj=>(by cases hj))
 have hdl:d.length=l.length:=by
  have:=congrArg List.length hT
  have h2:∀ (l:List Nat) (c:Nat),(K6 l x c).length=l.length+1:=by
   intro l
   induction l with
   | nil=>intro c;rfl
   | cons y l ih=>intro c;show(K6 l x _).length+1=_;rw[ih];rfl
  rw[zg,h2]at this
  simpa using this
 obtain⟨v',s2,O',happ,hD',hn',hf',hO',hsl'⟩:=SW hD c' (by omega)
 have e6:c' % 4294967296=c':=A0I hc'
 simp only[VS,CP,e6,Gp,Xe,happ,if_true,Qb,Qc,Qd,Qf,Qh,Qj,Qk,Qm,Qo,true_and,Qp,Qq,Qr,Qs,Qt,Qv,Rb,Rd,Rg,Rj,Yc,A1p]
 rw[hT]at hD'
 refine hK s2 v' ⟨by have:=ho.1;omega,fun j hj=>by rw[hf' j (by have:=ho.1;omega) (fun hjO=>by have:=hO j hjO;omega)];exact ho.2 j hj⟩ ⟨O',hD',fun j hj=>(hO' j hj).elim (hO j) (fun h=>by have:=ho.1;omega)⟩
theorem sY(hE:GoodN E){v:AV}{l:List Nat}(hv:By s v l)(hl:l.length≤10000000000)(hs:Bi l){n:Nat}(hn:n<32){K:AV→AE→Prop}(hK:∀s' v',Aa s.next s s'→NW s.next s' v' (K6 l (2 ^ n) 0)→K v' s'):WF E 95 [v,An n] K s:=by
 have h2:2 ^ n≤2 ^ 31:=A0K (by decide) (by omega)
 have e31:(2:Nat) ^ 31=2147483648:=by decide
 rw[e31]at h2
 have e1:AN Tryz.prog .shl 69 (.int .u64 1) (An n)=some (An (2 ^ n)):=by
  have:=OZ Tryz.prog 69 (a:=1) (k:=.u64) (n:=n) (by omega) (by rw[A0S];omega)
  rw[A0S]at this
  exact this
 refine hE.go uP (by decide) rfl ?_
 simp only[zO,rH,rI,e1,Qa,Qb,Qc,Qd,Qf,Qh,Qi,Qj,Qk,Ql,Qm,Qo,true_and,Qp,Qq,Qr,Qs,Qt,Qv,Rb,Rh,Rj,Rk,Rm,Rn,Yc,A1p,A1u]
 refine vK hE hv hl hs (show 2 ^ n<4294967296 by omega) (show 0<4294967296 by decide) fun s' v' h1 h2=>?_
 simp only[Qd,Qo,true_and,Qp,Qq,Qr,Qs]
 exact hK s' v' h1 h2
end
end
end Go.Proofs.YtjnkfbpadpmakaaGreatDoor.Am
