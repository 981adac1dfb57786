/- States that are told by the objects that came to be: reads, writes and new objects by rewriting; conditions: none. -/
import Derived.Test.YtjnkfbpadpmakaaGreatDoorAmM04
import Derived.Test.YtjnkfbpadpmakaaGreatDoorAmM01
import Derived.Test.YtjnkfbpadpmakaaGreatDoorProg
set_option linter.unusedVariables false
set_option linter.unusedSimpArgs false
namespace Go.Proofs.YtjnkfbpadpmakaaGreatDoor.Am
open Go
noncomputable section
section
variable{α:Type}
theorem AS.setF_succ(v:Option α)(f:Nat)(t:AS α)(k:Nat):AS.setF v (f+1) t (k+1)=if k % 2=0 then .node t.val (AS.setF v f t.left (k / 2)) t.right else .node t.val t.left (AS.setF v f t.right (k / 2)):=by
 by_cases h:k % 2=0
 ·have hb:Nat.beq (k % 2) 0=true:=by rw[h];rfl
  simp only[AS.setF,hb,cond_true,AS.nodeL_eq,AS.nodeR_eq]
  rw[if_pos h]
 ·have hb:Nat.beq (k % 2) 0=false:=AS.beq_no h
  simp only[AS.setF,hb,cond_false,AS.nodeL_eq,AS.nodeR_eq]
  rw[if_neg h]
theorem AS.setF_fuel   (v : Option α) : ∀ (f g : Nat) (t : AS   α) (k : Nat), k < f → k < g → AS.setF   v f t k = AS.setF   v g t k := by
  intro f
  induction f with
  | zero=>intro g t k h;omega
  | succ f ih =>
    intro g t k h1 h2
    cases g with
    | zero=>omega
    | succ g =>
      cases k with
      | zero=>rfl
      | succ k =>
        rw[AS.setF_succ,AS.setF_succ,ih g t.left (k / 2) (by omega) (by omega),ih g t.right (k / 2) (by omega) (by omega)]
theorem AS.setF_same(v w:Option α):∀ (f:Nat)(t:AS α)(k:Nat),k<f→AS.setF w f (AS.setF v f t k) k=AS.setF w f t k:=by
 intro f
 induction f with
 | zero=>intro t k h;omega
 | succ f ih =>
  intro t k h
  cases k with
  | zero=>rfl
  | succ k =>
   rw[AS.setF_succ,AS.setF_succ,AS.setF_succ]
   by_cases hk:k % 2=0
   ·simp only[hk,if_true,AS.val,AS.left,AS.right];rw[ih _ _ (by omega)]
   ·simp only[hk,if_false,AS.val,AS.left,AS.right];rw[ih _ _ (by omega)]
theorem AS.setF_comm   (v w : Option α) : ∀ (f : Nat) (t : AS   α) (k j : Nat), k < f → j < f → k ≠ j → AS.setF   w f (AS.setF   v f t k) j = AS.setF   v f (AS.setF   w f t j) k := by
  intro f
  induction f with
  | zero=>intro t k j h;omega
  | succ f ih =>
    intro t k j h1 h2 hne
    cases k with
    | zero =>
      cases j with
      | zero=>omega
      | succ j =>
        rw[AS.setF_succ,AS.setF_succ]
        by_cases hj:j % 2=0
        · simp only[hj,if_true,AS.setF,AS.val,AS.left,AS.right]
        · simp only[hj,if_false,AS.setF,AS.val,AS.left,AS.right]
    | succ k =>
      cases j with
      | zero =>
        rw[AS.setF_succ,AS.setF_succ]
        by_cases hk:k % 2=0
        · simp only[hk,if_true,AS.setF,AS.val,AS.left,AS.right]
        · simp only[hk,if_false,AS.setF,AS.val,AS.left,AS.right]
      | succ j =>
        simp only[AS.setF_succ]
        by_cases hk:k % 2=0<;>by_cases hj:j % 2=0
        · simp only[hk,hj,if_true,AS.val,AS.left,AS.right];rw[ih _ _ _ (by omega) (by omega) (by omega)]
        · simp only[hk,hj,if_true,if_false,AS.val,AS.left,AS.right]
        · simp only[hk,hj,if_true,if_false,AS.val,AS.left,AS.right]
        · simp only[hk,hj,if_false,AS.val,AS.left,AS.right];rw[ih _ _ _ (by omega) (by omega) (by omega)]
theorem AS.set_same(t:AS α)(k:Nat)(v w:α):(t.set k v).set k w=t.set k w:=AS.setF_same _ _ _ _ _ (by omega)
theorem AS.set_comm(t:AS α){k j:Nat}(h:k≠j)(v w:α):(t.set k v).set j w=(t.set j w).set k v:=by
 unfold AS.set AS.put
 rw[AS.setF_fuel _ (k+1) (k+j+1) t k (by omega) (by omega),AS.setF_fuel _ (j+1) (k+j+1) _ j (by omega) (by omega),AS.setF_fuel _ (j+1) (k+j+1) t j (by omega) (by omega),AS.setF_fuel _ (k+1) (k+j+1) _ k (by omega) (by omega)]
 exact AS.setF_comm _ _ _ _ _ _ (by omega) (by omega) h
theorem AS.fill_set_below(l:List α):∀ (t:AS α)(k j:Nat)(v:α),j<k→(t.fill k l).set j v=(t.set j v).fill k l:=by
 induction l with
 | nil=>intro t k j v _;rfl
 | cons a l ih =>
  intro t k j v h
  simp only[AS.fill]
  rw[ih _ _ _ _ (by omega),AS.set_comm t (by omega)]
theorem AS.fill_set(l:List α):∀ (t:AS α)(k i:Nat)(v:α),i<l.length→(t.fill k l).set (k+i) v=t.fill k (l.set i v):=by
  induction l with
  | nil=>intro t k i v h;simp at h
  | cons a l ih =>
    intro t k i v h
    cases i with
    | zero =>
      simp only[AS.fill,oM,pD]
      rw[AS.fill_set_below _ _ _ _ _ (by omega),AS.set_same]
    | succ i =>
      simp only[AS.fill,List.set_cons_succ]
      rw[show k+(i+1)=k+1+i from by omega]
      exact ih _ _ _ _ (by simpa using h)
end
def RE(l:List AV):AS AV:=AS.fill .leaf 0 l
theorem NS(l:List AV)(k:Nat):(RE l).get k=l[k]? := by
 unfold RE
 rw[AS.get_fill]
 by_cases h:k<l.length
 ·rw[if_pos ⟨oB _,by omega⟩];rfl
 ·rw[if_neg (by omega),oF (by omega)];rfl
def DX(cs:List AV)(off:Nat)(vs:List AV):List AV:=match vs with
 | []=>cs
 | v::vs=>DX (cs.set off v) (off+1) vs
theorem HB:∀ (vs cs:List AV)(off:Nat),(DX cs off vs).length=cs.length
 | [],_,_=>rfl
 | v::vs,cs,off=>by unfold DX;rw[HB];simp
theorem O9:∀ (vs cs:List AV)(off:Nat),off+vs.length≤cs.length→(RE cs).fill off vs=RE (DX cs off vs)
 | [],_,_,_=>rfl
 | v::vs,cs,off,h=>by
  simp only[AS.fill,DX]
  have e:(RE cs).set off v=RE (cs.set off v):=by
   unfold RE
   have:=AS.fill_set cs .leaf 0 off v (by simp at h;omega)
   rwa[oG]at this
  rw[e]
  exact O9 vs _ _ (by simp at h ⊢;omega)
theorem LW         : ∀ (vs cs : List AV) (off k : Nat), off + vs.length ≤ cs.length → (DX     cs off vs)[k]? = if off ≤ k ∧ k < off + vs.length then vs[k - off]? else cs[k]?
  | [],cs,off,k,_=>by simp[DX];omega
  | v::vs,cs,off,k,h=>by
    simp only[oV]at h
    simp only[DX]
    rw[LW vs _ _ _ (by simp;omega)]
    by_cases h1:off+1≤k∧k<off+1+vs.length
    · rw[if_pos h1,if_pos (by simp;omega),show k - off=(k - (off+1))+1 from by omega];rfl
    · rw[if_neg h1]
      by_cases h2:k=off
      · subst h2
        rw[if_pos (by simp),List.getElem?_set_self (by omega)]
        simp
      · rw[if_neg (by simp;omega),qM (Ne.symm h2)]
def R(e sz:Nat)(sp:Bool)(cs:List AV):A8:=.row { elem:=e,sz,n:=cs.length,c:=RE cs,spare:=sp,mode:=.own,par:=none,bytes:=true }
theorem QS(e sz:Nat)(cs:List AV):CL e sz (AS.fill .leaf 0 cs) cs.length none true=R e sz true cs:=rfl
theorem Wv(s:AD)(i:Nat)(o:A8):(setObj s i o).heap.get i=some o:=by
 show(s.heap.set i o).get i=_
 rw[AS.get_set,if_pos rfl]
theorem Ww{s:AD}{i j:Nat}(o:A8)(h:j≠i):(setObj s i o).heap.get j=s.heap.get j:=by
 show(s.heap.set i o).get j=_
 rw[AS.get_set,if_neg h]
def Yn:Option A8→Option DN
 | some (.row r)=>some r
 | _=>none
def ME(o:Option A8)(off:Nat):Option AV:=(Yn o).bind fun r=>AJ (Nat.blt off r.n) (r.c.get off)
def Kk(o:Option A8)(off n:Nat):Option (List AV):=(Yn o).bind fun r=>AJ (Nat.ble (off+n) r.n) (r.c.take off n)
def mapO(kt:TypeId):Option A8→Option (List (AV×AV))
 | some (.map kt' es)=>AJ (Nat.beq kt' kt) (some es)
 | _=>none
theorem aW(s:AD)(i:Nat):rowAt s i=Yn (s.heap.get i):=rfl
theorem Jr(s:AD)(i off:Nat):CW s i off=ME (s.heap.get i) off:=rfl
theorem H7(s:AD)(i off n:Nat):Bv s i off n=Kk (s.heap.get i) off n:=rfl
theorem Wn(e sz:Nat)(sp:Bool)(cs:List AV)(off:Nat):ME (some (R e sz sp cs)) off=cs[off]? := by
 show AJ (Nat.blt off cs.length) ((RE cs).get off)=_
 rw[NS]
 by_cases h:off<cs.length
 ·have:Nat.blt off cs.length=true:=by rw[oL];exact h
  rw[this];rfl
 ·have:Nat.blt off cs.length=false:=by
   cases hb:Nat.blt off cs.length with
   | false=>rfl
   | true=>rw[oL]at hb;exact absurd hb h
  rw[this,oF (by omega)];rfl
theorem Pe:∀ (n:Nat)(cs:List AV)(off:Nat),off+n≤cs.length→(RE cs).take off n=some ((cs.drop off).take n)
 | 0,cs,off,_=>by simp[AS.take]
 | n+1,cs,off,h=>by
  have hg:cs[off]? = some cs[off]:=nr (by omega)
  simp only[AS.take,NS,hg,Pe n cs (off+1) (by omega)]
  rw[show cs.drop off=cs[off]::cs.drop (off+1)from(ol (by omega))]
  rfl
theorem Wo{e sz:Nat}{sp:Bool}{cs:List AV}{off n:Nat}(h:off+n≤cs.length):Kk (some (R e sz sp cs)) off n=some ((cs.drop off).take n):=by
 show AJ (Nat.ble (off+n) cs.length) ((RE cs).take off n)=_
 have:Nat.ble (off+n) cs.length=true:=by rw[oA];exact h
 rw[this,Pe n cs off h];rfl
theorem LY{s:AD}{i off e sz:Nat}{sp:Bool}{cs vs:List AV}(hg:s.heap.get i=some (R e sz sp cs))(h:off+vs.length≤cs.length)(ha:Ap vs=true):
  CS s i off vs=some (match vs with | []=>s | _::_=>setObj s i (R e sz sp (DX cs off vs))):=by
 cases vs with
 | nil=>rfl
 | cons v vs =>
  have hb:Nat.ble (off+(v::vs).length) cs.length=true:=by rw[oA];exact h
  show(rowAt s i).bind _=_
  rw[aW,hg]
  show AJ (Db .own && Nat.ble (off+(v::vs).length) cs.length && Ap (v::vs)) _=_
  rw[hb,ha]
  show some (setObj s i _)=some (setObj s i _)
  rw[show R e sz sp (DX cs off (v::vs))=A8.row { elem:=e,sz,n:=(DX cs off (v::vs)).length,c:=RE (DX cs off (v::vs)),spare:=sp,mode:=.own,par:=none,bytes:=true }from rfl,HB,← O9 _ _ _ h]
def B9(e:TypeId)(s:AD)(v:AV)(n sz:Nat)(cs:List AV)(O:List Nat):Prop:=
 (∃a,v=.slice a n (some n)∧O=[]∧cs.length=n * sz∧(a=none→n=0)∧∀i o,a=some (i,o)→i<s.next∧Bv s i o (n * sz)=some cs) ∨
 (∃i p,v=.slice (some (i,0)) n none∧F3 e 0 s.next s v n sz cs i p∧O=i::p.toList)
theorem B9.nil{e:TypeId}(s:AD)(sz:Nat):B9 e s (.slice none 0 (some 0)) 0 sz [] []:=.inl ⟨none,rfl,rfl,by simp,fun _=>rfl,fun i o h=>by cases h⟩
theorem B9.len{e:TypeId}{s:AD}{v:AV}{n sz:Nat}{cs:List AV}{O:List Nat}(h:B9 e s v n sz cs O):cs.length=n * sz:=by
 rcases h with⟨a,h1,h2,h3,h4⟩ | ⟨i,p,h1,h2,h3⟩
 ·exact h3
 ·exact h2.len
theorem YA{s s':AD}{i o n:Nat}(h:s'.heap.get i=s.heap.get i):Bv s' i o n=Bv s i o n:=by unfold Bv rowAt;rw[h]
def Cd:AV→Option Nat
 | .slice (some (i,_)) _ _=>some i
 | _=>none
theorem B9.frame{e:TypeId}{s s':AD}{v:AV}{n sz:Nat}{cs:List AV}{O:List Nat}(h:B9 e s v n sz cs O)(hn:s.next≤s'.next)(hf:∀j,Cd v=some j→s'.heap.get j=s.heap.get j):B9 e s' v n sz cs O:=by
 rcases h with⟨a,rfl,h2,h3,h4,h5⟩ | ⟨i,p,rfl,h2,h3⟩
 ·refine .inl ⟨a,rfl,h2,h3,h4,fun i o e=>?_⟩
  obtain⟨k1,k2⟩:=h5 i o e
  subst e
  exact⟨by omega,by rw[YA (hf i rfl)];exact k2⟩
 ·exact .inr ⟨i,p,rfl,(h2.mono hn).frame fun _ _=>hf i rfl,h3⟩
theorem B9.cells   {e : TypeId} {s : AD}  {v : AV} {n sz : Nat} {cs : List AV} {O : List Nat} (h : B9   e s v n sz cs O) : ∃ a cap, v = .slice a n cap ∧ AZ      s.next s a cs := by
  rcases h with⟨a,rfl,h2,h3,h4,h5⟩ | ⟨i,p,rfl,h2,h3⟩
  · refine⟨a,_,rfl,fun k u hk=>?_⟩
    have hlt:k<cs.length:=by
      rcases nm k cs.length with h | h
      · exact h
      · rw[oF h]at hk;cases hk
    cases a with
    | none=>rw[h4 rfl]at h3;simp at h3;subst h3;simp at hlt
    | some io =>
      obtain⟨i,o⟩:=io
      obtain⟨k1,k2⟩:=h5 i o rfl
      refine⟨i,o,rfl,k1,?_⟩
      unfold Bv at k2
      simp only[nk]at k2
      obtain⟨r,g1,g2⟩:=k2
      have g3:Nat.ble (o+n * sz) r.n=true∧r.c.take o (n * sz)=some cs:=by
        cases hb:Nat.ble (o+n * sz) r.n with
        | true=>rw[hb]at g2;exact⟨rfl,g2⟩
        | false=>rw[hb]at g2;cases g2
      have g4:o+n * sz≤r.n:=by simpa[oA]using g3.1
      have g5:=AS.take_get g3.2 k (by omega)
      rw[hk]at g5
      have g6:s.heap.get i=some (.row r):=by
        unfold rowAt at g1
        split at g1
        · injection g1 with g1;subst g1;assumption
        · cases g1
      exact FG g6 (by omega) g5
  · obtain⟨a,cap,e,hc⟩:=h2.cells
    exact⟨a,cap,e,hc⟩
theorem B9.append   {P : Program} {st xt e : TypeId} {sz by_ : Nat} (ht : P.underlying st = some (.slice e)) (hs : A3    P e = some sz) (hb : C0     P e = some by_) (h0 : 0 < sz) (hx : Bp           P xt = true) (hz : Cn     P e sz = true) {s : AD}  {v : AV} {n : Nat} {cs : List AV} {O : List Nat} (h : B9   e s v n sz cs O)
    {ax:Option (Nat×Nat)} {m:Nat} {cx:Option Nat} {add:List AV} (hsrc:CB P s e sz (.slice ax m cx)=some (m,add)) (ha:add.length=m * sz) (hc:Ap add=true) (h1:(n+m) * by_≤1099511627776) (h2:n+m≤1099511627776):
    ∃v' s' O',Av P s [st,xt] [v,.slice ax m cx]=some (v',s')∧B9 e s' v' (n+m) sz (cs++add) O'∧s.next≤s'.next∧s'.next≤s.next+1∧(∀j,j<s.next→j ∉ O→s'.heap.get j=s.heap.get j)∧(∀j∈O',j∈O∨s.next≤j)∧(∀j,Cd v'=some j→Cd v=some j∨s.next≤j):=by
  have hlen:=h.len
  rcases ow m with rfl | hm
  ·
    have hadd:add=[]:=by simp at ha;exact ha
    subst hadd
    rw[pz,oM]
    rcases h with⟨a,rfl,rfl,h3,h4,h5⟩ | ⟨i,p,rfl,h6,h7⟩
    · refine ⟨.slice a n (some n), s, [], ?_, .inl ⟨a, rfl, rfl, h3, h4, h5⟩, nl          _, ot          _, fun _ _ _ => rfl, fun j hj => (by cases hj), fun j hj => .inl hj⟩
      rw[Dg ht hs hb h0 hx hsrc hc h1 h2]
      cases a with
      | none=>rw[h4 rfl];rfl
      | some io =>
        obtain⟨i,o⟩:=io
        simp only[appTo,F7,oM,CZ (nl n),cond_true,CS,Option.bind_some]
    · refine ⟨.slice (some (i, 0)) n none, s, O, ?_, .inr ⟨i, p, rfl, h6, h7⟩, nl          _, ot          _, fun _ _ _ => rfl, fun j hj => .inl hj, fun j hj => .inl hj⟩
      rw[Dg ht hs hb h0 hx hsrc hc h1 h2]
      rcases h6.ex with⟨e',_⟩ | ⟨_,k1,k2,k3,r,k4,k5,k6,k7,k8,k9⟩
      · cases e'
      · have hrow : rowAt s i = some r := by simp [rowAt, k4]
        have hrn:r.n=n * sz:=by rw[k5.1,h6.len]
        simp only[appTo,hrow,Option.bind_some,Jd,k8,FX rfl,AJ,cond_true,oM,oG]
        rw[show Nat.ble (n * sz) r.n=true from CZ (by omega)]
        simp only[cond_true,CS,Option.bind_some]
  · rcases h with ⟨a, rfl, rfl, h3, h4, h5⟩ | ⟨i, p, rfl, h6, h7⟩
    ·
      refine⟨.slice (some (s.next,0)) (n+m) none,newObj s (CL e sz (AS.fill .leaf 0 (cs++add)) (cs++add).length none true),[s.next],?_,?_,ot _,nl _,fun j hj _=>by rw[AO,if_neg (by omega)],fun j hj=>by simp at hj;right;omega,fun j hj=>by simp[Cd]at hj;right;omega⟩
      · rw[Dg ht hs hb h0 hx hsrc hc h1 h2]
        cases a with
        | none =>
          have hn0:=h4 rfl
          subst hn0
          have:cs=[]:=by simp at h3;exact h3
          subst this
          simp only[appTo,Dx (show m≠0 by omega),cond_false,CU,AJ,hz,cond_true,qP,oG]
        | some io =>
          obtain⟨i,o⟩:=io
          obtain⟨k1,k2⟩:=h5 i o rfl
          simp only[appTo,F7,Mv (show n<n+m by omega),cond_false,k2,Option.bind_some,CU,AJ,hz,cond_true]
      · refine .inr ⟨s.next,none,rfl,⟨by rw[oI,h3,ha,oQ],.inr ⟨rfl,oB _,og _,fun q hq=>(by cases hq),_,by rw[AO,if_pos rfl];rfl,⟨rfl,?_⟩,rfl,rfl,rfl,rfl,rfl⟩⟩,rfl⟩
        intro k u hk
        have hlt:k<(cs++add).length:=by
          rcases nm k (cs++add).length with h' | h'
          · exact h'
          · rw[oF h']at hk;cases hk
        show(AS.fill .leaf 0 (cs++add)).get k=some u
        rw[AS.get_fill,if_pos ⟨oB _,by omega⟩]
        simpa using hk
    · obtain⟨a,cap,v',s',e1,e2,i',p',g1,g2,g3,g4,g5,g6,_⟩:=h6.appTo (nl _) (oB _) hz h0 ha hm
      injection e1 with e1 e3 e4
      subst e1;subst e4
      have hv':v'=.slice (some (i',0)) (n+m) none:=by
        rcases g1.ex with⟨_,e⟩ | ⟨e,_⟩
        · omega
        · exact e
      refine⟨v',s',i'::p'.toList,?_,.inr ⟨i',p',hv',g1,rfl⟩,g2.1,by omega,?_,?_,?_⟩
      · rw[Dg ht hs hb h0 hx hsrc hc h1 h2]
        exact e2
      · intro j hj hO
        subst h7
        refine g2.2 j hj (fun e=>hO (by simp[e])) (fun e=>hO (by simp[e]))
      · intro j hj
        subst h7
        rcases List.mem_cons.1 hj with rfl | hj
        · right;omega
        · rcases g5 with rfl | rfl
          · cases hj
          · simp at hj;left;simp[hj]
      · intro j hj
        rw[hv']at hj
        simp[Cd]at hj
        right;omega
theorem Nk{P:Program}{e:TypeId}{s:AD}{i:Nat}{cs:List AV}{n:Nat}{cap:Option Nat}{sz:Nat}(ty:TypeId)(z:Nat)(hg:s.heap.get i=some (GP ty z cs))(hl:cs.length=n * sz):CB P s e sz (.slice (some (i,0)) n cap)=some (n,cs):=by
 obtain⟨r,h1,h2,_⟩:=Od ty z cs
 rw[h1]at hg
 have:=JK hg h2 0 cs (by omega) (fun j u hj=>by simpa using hj)
 rw[hl]at this
 simp[CB,T3 this]
section
variable{P:Program}{s:AD}{os:List A8}{b k i o off n t e sz:Nat}{sp:Bool}{cs vs:List AV}
theorem Xg(cs:List AV):(AV.agg cs).cells=cs:=rfl
theorem Xk(m:Option Nat):(AV.map m).cells=[.map m]:=rfl
theorem Xm(a:Option (Nat×Nat))(n:Nat)(c:Option Nat):(AV.slice a n c).cells=[.slice a n c]:=rfl
theorem Xn(f:FuncId)(a c:List AV):(AV.func f a c).cells=[.func f a c]:=rfl
theorem Xf{α:Type}(x:Option α):AJ true x=x:=rfl
theorem ZV(a b:Nat):Nat.beq a b=decide (a=b):=by
 rw[Bool.eq_iff_iff,decide_eq_true_eq,pS]
theorem We(h:De P t=some false):AC P s t (.ptr (some (i,o)))=ME (s.heap.get i) o:=by
 unfold AC
 rw[h];rfl
theorem Wf(h:De P t=some true):AC P s t (.ptr (some (i,o)))=(A3 P t).bind fun n=>(Kk (s.heap.get i) o n).bind fun l=>some (.agg l):=by
 unfold AC
 rw[h];rfl
theorem Wg(v:AV):AK P s t (.ptr (some (i,o))) v=(A3 P t).bind fun n=>AJ (decide (v.cells.length=n)) (CS s i o v.cells):=by
 unfold AK
 simp only[ZV]
theorem Wz(e:TypeId)(v:AV):Be e v=some (R e 0 false v.cells,.ptr):=rfl
theorem Xb(i:Nat):Made.ptr.val i=.ptr (some (i,0)):=rfl
theorem Xc(i:Nat):Made.map.val i=.map (some i):=rfl
theorem Xd(i n:Nat):(Made.slice n).val i=.slice (some (i,0)) n (some n):=rfl
end
abbrev Ag(n:Nat):AV:=.int .u64 (n:Int)
abbrev Bf(n:Nat):AV:=.int .u32 (n:Int)
theorem Lf{n:Nat}(h:n<18446744073709551616):Cm .u64 (n:Int)=(n:Int):=Ph (by simp only[Bo,oA];omega)
theorem FF(n:Int):IntKind.wrap .u64 n=n % 18446744073709551616:=by
 simp[IntKind.wrap,IntKind.signed,IntKind.bits]
theorem MD(n:Int):IntKind.wrap .u32 n=n % 4294967296:=by
 simp[IntKind.wrap,IntKind.signed,IntKind.bits]
theorem UF(n:Int):Cm .u64 n=n % 18446744073709551616:=by
 unfold Cm
 cases h:Bo .u64 n with
 | true =>
  cases n with
  | ofNat m =>
   simp only[Bo,oA]at h
   simp only[cond_true]
   rw[show Int.ofNat m=(m:Int)from rfl]
   omega
  | negSucc m=>cases h
 | false=>exact FF n
theorem UE(n:Int):Cm .u32 n=n % 4294967296:=by
 unfold Cm
 cases h:Bo .u32 n with
 | true =>
  cases n with
  | ofNat m =>
   simp only[Bo,oA]at h
   simp only[cond_true]
   rw[show Int.ofNat m=(m:Int)from rfl]
   omega
  | negSucc m=>cases h
 | false=>exact MD n
section
variable(P:Program)(t:TypeId){a b:Nat}
theorem HD(h:a+b<18446744073709551616):AT P .add t (Ag a) (Ag b)=some (Ag (a+b)):=by
 show some (AV.int .u64 (Cm .u64 ((a:Int)+(b:Int))))=_
 rw[← Int.natCast_add,Lf h]
theorem Pf(h:a * b<18446744073709551616):AT P .mul t (Ag a) (Ag b)=some (Ag (a * b)):=by
 show some (AV.int .u64 (Cm .u64 ((a:Int) * (b:Int))))=_
 rw[← Int.natCast_mul,Lf h]
theorem Me(hb:b≤18446744073709551616):AT P .sub t (Ag a) (Ag b)=some (Ag ((a+18446744073709551616 - b) % 18446744073709551616)):=by
 show some (AV.int .u64 (Cm .u64 ((a:Int) - (b:Int))))=_
 rw[UF]
 congr 2
 omega
theorem lh(k:IntKind):AT P .lss t (.int k (a:Int)) (.int k (b:Int))=some (.bool (decide (a<b))):=by
 have:∀k,B0 k k=true:=fun k=>by cases k<;>rfl
 show AJ (B0 k k) (some (AV.bool (Lg (a:Int) (b:Int))))=_
 rw[this,Ca]
 simp[AJ]
theorem Mc(k:IntKind):AT P .gtr t (.int k (a:Int)) (.int k (b:Int))=some (.bool (decide (b<a))):=by
 have:∀k,B0 k k=true:=fun k=>by cases k<;>rfl
 show AJ (B0 k k) (some (AV.bool (Lg (b:Int) (a:Int))))=_
 rw[this,Ca]
 simp[AJ]
theorem gx(k:IntKind):AT P .eql t (.int k (a:Int)) (.int k (b:Int))=some (.bool (decide (a=b))):=by
 have:∀k,B0 k k=true:=fun k=>by cases k<;>rfl
 show AJ (B0 k k) (some (AV.bool (L4 (a:Int) (b:Int))))=_
 rw[this,Ek]
 simp only[AJ,cond_true]
 congr 2
 by_cases h:a=b
 ·subst h;simp
 ·have:(a:Int)≠b:=by omega
  simp[h,this]
theorem gy(ha:a<18446744073709551616)(hb:b≠0):AT P .quo t (Ag a) (Ag b)=some (Ag (a / b)):=by
 show(DW P (Op.intDiv .quo .u64 (a:Int) (b:Int))).bind ofValue=_
 have hb':¬ ((b:Int)=0):=by omega
 unfold Op.intDiv
 rw[if_neg hb']
 show some (AV.int .u64 (IntKind.wrap .u64 ((a:Int).tdiv (b:Int))))=_
 rw[FF,show(a:Int).tdiv (b:Int)=((a / b:Nat):Int)from rfl]
 congr 2
 have:a / b≤a:=ph a b
 generalize a / b=q at this
 omega
theorem g0(hb:b≠0):AT P .rem t (Ag a) (Ag b)=some (Ag (a % b)):=by
 show(DW P (Op.intDiv .rem .u64 (a:Int) (b:Int))).bind ofValue=_
 have hb':¬ ((b:Int)=0):=by omega
 unfold Op.intDiv
 rw[if_neg hb']
 show some (AV.int .u64 ((a:Int).tmod (b:Int)))=_
 rfl
theorem IU{k:IntKind}{n:Nat}(hn:n≤64):AT P .shr t (Ag a) (.int k (n:Int))=some (Ag (a / 2 ^ n)):=by
 show(DW P (Op.shift .shr .u64 (a:Int) k (n:Int))).bind ofValue=_
 unfold Op.shift
 rw[if_neg (by omega)]
 show some (AV.int .u64 ((a:Int).fdiv (2 ^ min (n:Int).toNat 64)))=_
 rw[show min (n:Int).toNat 64=n by omega]
 congr 2
 rw[show((2:Int) ^ n)=((2 ^ n:Nat):Int) by push_cast;rfl]
 exact(Int.ofNat_fdiv a (2 ^ n)).symm
theorem Md{k:IntKind}{n:Nat}(hn:n≤64)(h:a * 2 ^ n<18446744073709551616):AT P .shl t (Ag a) (.int k (n:Int))=some (Ag (a * 2 ^ n)):=by
 show(DW P (Op.shift .shl .u64 (a:Int) k (n:Int))).bind ofValue=_
 unfold Op.shift
 rw[if_neg (by omega)]
 show some (AV.int .u64 (IntKind.wrap .u64 ((a:Int) * 2 ^ min (n:Int).toNat 64)))=_
 rw[show min (n:Int).toNat 64=n by omega,FF]
 congr 2
 rw[show(a:Int) * 2 ^ n=((a * 2 ^ n:Nat):Int) by push_cast;rfl]
 omega
theorem JV(h:a<18446744073709551616):AT P .and t (Ag a) (.int .u64 4294967295)=some (Ag (a % 4294967296)):=by
 show(DW P (Op.intBits .and .u64 (a:Int) 4294967295)).bind ofValue=_
 show some (AV.int .u64 (IntKind.wrap .u64 ((BitVec.ofInt 64 (a:Int) &&& BitVec.ofInt 64 4294967295).toNat:Int)))=_
 rw[FF]
 congr 2
 have:(BitVec.ofInt 64 (a:Int) &&& BitVec.ofInt 64 4294967295).toNat=a % 4294967296:=by
  rw[BitVec.ofInt_natCast,show BitVec.ofInt 64 4294967295=BitVec.ofNat 64 4294967295 from(by decide),BitVec.toNat_and,BitVec.toNat_ofNat,BitVec.toNat_ofNat]
  rw[oe (show a<2 ^ 64 by omega),show 4294967295 % 2 ^ 64=2 ^ 32 - 1 by decide,Nat.and_two_pow_sub_one_eq_mod]
 rw[this]
 omega
theorem ao(h:a * 4294967296+b<18446744073709551616)(hb:b<4294967296):AT P .or t (Ag (a * 4294967296)) (Ag b)=some (Ag (a * 4294967296+b)):=by
 show(DW P (Op.intBits .or .u64 ((a * 4294967296:Nat):Int) (b:Int))).bind ofValue=_
 show some (AV.int .u64 (IntKind.wrap .u64 ((BitVec.ofInt 64 ((a * 4294967296:Nat):Int) ||| BitVec.ofInt 64 (b:Int)).toNat:Int)))=_
 rw[FF]
 congr 2
 have:(BitVec.ofInt 64 ((a * 4294967296:Nat):Int) ||| BitVec.ofInt 64 (b:Int)).toNat=a * 4294967296+b:=by
  rw[BitVec.ofInt_natCast,BitVec.ofInt_natCast,BitVec.toNat_or,BitVec.toNat_ofNat,BitVec.toNat_ofNat]
  have e64:(2:Nat) ^ 64=18446744073709551616:=by decide
  have e32:(2:Nat) ^ 32=4294967296:=by decide
  have h1:a * 4294967296<18446744073709551616:=om (Nat.le_add_right _ _) h
  have h2:b<18446744073709551616:=Nat.lt_trans hb (by decide)
  rw[e64,oe h1,oe h2]
  have h3:b<2 ^ 32:=by rw[e32];exact hb
  have:=Nat.two_pow_add_eq_or_of_lt h3 a
  rw[e32,oJ]at this
  exact this.symm
 rw[this]
 have h5:((a * 4294967296+b:Nat):Int)<18446744073709551616:=Int.ofNat_lt.2 h
 exact Int.emod_eq_of_lt (Int.natCast_nonneg _) h5
end
def Fy(e:TypeId)(sz:Nat)(s:AD)(v:AV)(n:Nat)(cs:List AV)(O:List Nat):Prop:=
 (v=.slice none 0 (some 0)∧n=0∧cs=[]∧O=[])∨∃i p,v=.slice (some (i,0)) n none∧F3 e 0 s.next s v n sz cs i p∧O=i::p.toList
section
variable{e sz n:Nat}{s s':AD}{v:AV}{cs:List AV}{O:List Nat}
theorem Fy.nil(e sz:Nat)(s:AD):Fy e sz s (.slice none 0 (some 0)) 0 [] []:=.inl ⟨rfl,rfl,rfl,rfl⟩
theorem Fy.lt  (h : Fy  e sz s v n cs O) : ∀ j ∈ O, j < s.next := by
  rcases h with⟨_,_,_,rfl⟩ | ⟨i,p,hv,h,rfl⟩
  · intro j hj;cases hj
  · rcases h.ex with ⟨h1, _⟩ | ⟨_, _, h2, h3, _⟩
    · rw[hv]at h1;cases h1
    · intro j hj
      rcases List.mem_cons.1 hj with rfl | hj
      · exact h2
      · cases p with
        | none=>cases hj
        | some q=>simp at hj;subst hj;exact(h3 _ rfl).2.1
theorem Fy.frame(h:Fy e sz s v n cs O)(hn:s.next≤s'.next)(hf:∀j∈O,s'.heap.get j=s.heap.get j):Fy e sz s' v n cs O:=by
 rcases h with h | ⟨i,p,hv,h,rfl⟩
 ·exact .inl h
 ·exact .inr ⟨i,p,hv,(h.mono hn).frame fun _ _=>hf i (by simp),rfl⟩
theorem Fy.slice(h:Fy e sz s v n cs O):∃a cap,v=.slice a n cap∧AZ s.next s a cs:=by
 rcases h with⟨rfl,rfl,rfl,_⟩ | ⟨i,p,_,h,_⟩
 ·exact⟨none,some 0,rfl,AZ.nil⟩
 ·exact h.cells
theorem Fy.append  {P : Program} {st xt by_ : Nat} (ht : P.underlying st = some (.slice e)) (hs : A3    P e = some sz) (hb : C0     P e = some by_) (h0 : 0 < sz) (hx : Bp           P xt = true) (hz : Cn     P e sz = true) (h : Fy  e sz s v n cs O)
    {ax:Option (Nat×Nat)} {m:Nat} {cx:Option Nat} {add:List AV} (hm:0<m) (hsrc:CB P s e sz (.slice ax m cx)=some (m,add)) (ha:add.length=m * sz) (hc:Ap add=true) (h1:(n+m) * by_≤1099511627776) (h2:n+m≤1099511627776):
    ∃v' s' O',Av P s [st,xt] [v,.slice ax m cx]=some (v',s')∧Fy e sz s' v' (n+m) (cs++add) O'∧s'.next=s.next+1∧(∀j,j<s.next→j ∉ O→s'.heap.get j=s.heap.get j)∧(∀j∈O',j∈O∨s.next≤j)∧Cd v'=some s.next:=by
  have key:∀ (i:Nat) (p:Option Nat),F3 e 0 s.next s v n sz cs i p→(∀j,j<s.next→j ∉ O→j≠i∧p≠some j)→(∀j,j=i∨p=some j→j∈O∨s.next≤j) →
      ∃v' s' O',Av P s [st,xt] [v,.slice ax m cx]=some (v',s')∧Fy e sz s' v' (n+m) (cs++add) O'∧s'.next=s.next+1∧(∀j,j<s.next→j ∉ O→s'.heap.get j=s.heap.get j)∧(∀j∈O',j∈O∨s.next≤j)∧Cd v'=some s.next:=by
    intro i p hg hi hO
    obtain⟨a,cap,v',s',rfl,happ,i',p',hg',hap,_,rfl,hp',hn',_⟩:=hg.appTo (P:=P) (nl _) (oB _) hz h0 ha hm
    have hv':v'=.slice (some (s.next,0)) (n+m) none:=by
      rcases hg'.ex with⟨_,h0'⟩ | ⟨h1',_⟩
      · omega
      · exact h1'
    refine⟨v',s',s.next::p'.toList,by rw[Dg ht hs hb h0 hx hsrc hc h1 h2];exact happ,.inr ⟨s.next,p',hv',hg',rfl⟩,hn',fun j hj hjO=>?_,fun j hj=>?_,by rw[hv'];rfl⟩
    · exact hap.2 j hj (hi j hj hjO).1 (hi j hj hjO).2
    · rcases List.mem_cons.1 hj with rfl | hj
      · exact .inr (nl _)
      · rcases hp' with rfl | rfl
        · cases hj
        · simp at hj;subst hj;exact hO _ (.inl rfl)
  rcases h with⟨rfl,rfl,rfl,rfl⟩ | ⟨i,p,rfl,hg,rfl⟩
  · exact key s.next none (F3.zero _ _ _ _ _ _ _) (fun j hj _=>⟨by omega,by simp⟩) (fun j hj=>by rcases hj with rfl | hj;exact .inr (nl _);cases hj)
  · refine key i p hg (fun j hj hjO => ⟨fun e => hjO (by simp [e]), fun e => hjO (by simp [e])⟩) (fun j hj => ?_)
    rcases hj with rfl | rfl<;>simp
end
section
variable{P:Program}{s:AD}{i e sz o t:Nat}{sp:Bool}{cs:List AV}{v:AV}
theorem B1(hs:A3 P t=some 1)(hg:s.heap.get i=some (R e sz sp cs))(ho:o<cs.length)(hv:v.isCell=true):
  AK P s t (.ptr (some (i,o))) v=some (setObj s i (R e sz sp (cs.set o v))):=by
 have hc:v.cells=[v]:=by cases v<;>first | rfl | cases hv
 have hl:Ap [v]=true:=by simp[Ap,hv]
 rw[Wg,hs,hc]
 have:=LY (off:=o) (vs:=[v]) hg (by show o+1≤cs.length;omega) hl
 show AJ (decide (1=1)) (CS s i o [v])=_
 rw[this]
 rfl
theorem AX(ht:De P t=some false)(hg:s.heap.get i=some (R e sz sp cs))(hk:cs[o]? = some v):AC P s t (.ptr (some (i,o)))=some v:=by
 rw[We ht,hg,Wn,hk]
theorem Ew(hg:s.heap.get i=some (R e sz sp cs)){b:Nat}(hi:i<b):AZ b s (some (i,0)) cs:=fun k u hu=>⟨i,0,rfl,hi,by rw[Jr,hg,Wn,oG];exact hu⟩
end
def us(l:List Nat):List AV:=l.map Bf
theorem Cl(l:List Nat):(us l).length=l.length:=by simp[us]
theorem Da{l:List Nat}{k x:Nat}(h:l[k]? = some x):(us l)[k]? = some (Bf x):=by simp[us,h]
theorem Mf(a b:List Nat):us (a++b)=us a++us b:=by simp[us]
theorem I5(l:List Nat)(k x:Nat):(us l).set k (Bf x)=us (l.set k x):=by simp[us,List.map_set]
theorem TA(l:List Nat)(k:Nat):us (l.take k)=(us l).take k:=by simp[us,List.map_take]
theorem Js{o:Option A8}:∀ (l:List AV)(off:Nat),(∀j u,l[j]? = some u→ME o (off+j)=some u)→l≠[]→Kk o off l.length=some l:=by
 intro l off h h0
 obtain⟨r,hr⟩:∃r,Yn o=some r:=by
  cases l with
  | nil=>exact absurd rfl h0
  | cons a l =>
   have:=h 0 a rfl
   unfold ME at this
   cases hr:Yn o with
   | none=>rw[hr]at this;cases this
   | some r=>exact⟨r,rfl⟩
 have hg:∀j u,l[j]? = some u→off+j<r.n∧r.c.get (off+j)=some u:=fun j u hj=>by
  have:=h j u hj
  unfold ME at this
  rw[hr,Option.bind_some]at this
  obtain⟨g1,g2⟩:=AB this
  exact⟨by simpa[oL]using g1,g2⟩
 have ht:∀ (m:List AV) (k:Nat),(∀j u,m[j]? = some u→r.c.get (k+j)=some u)→r.c.take k m.length=some m:=by
  intro m
  induction m with
  | nil=>intro k _;simp[AS.take]
  | cons a m ih =>
   intro k hk
   have h1:=hk 0 a rfl
   rw[oM]at h1
   simp only[oV,AS.take,h1,ih (k+1) fun j u hj=>by rw[show k+1+j=k+(j+1)from by omega];exact hk (j+1) u hj]
 unfold Kk
 rw[hr,Option.bind_some,ht l off fun j u hj=>(hg j u hj).2]
 have hl:off+l.length≤r.n:=by
  cases hz:l.getLast? with
  | none=>exact absurd (List.getLast?_eq_none_iff.1 hz) h0
  | some u =>
   have hlen:0<l.length:=List.length_pos_iff.2 h0
   have:=(hg (l.length - 1) l[l.length - 1] (nr (by omega))).1
   omega
 have:Nat.ble (off+l.length) r.n=true:=by rw[oA];exact hl
 rw[this];rfl
def Cy(s:AD)(i:Nat)(cs:List AV)(p:Option Nat):Prop:=∃r,s.heap.get i=some (.row r)∧Jy r cs∧Db r.mode=true∧r.sz=1∧(r.par=none∨r.par=p)
theorem Cy.keep{s s':AD}{i:Nat}{cs:List AV}{p:Option Nat}(h:Cy s i cs p)(k:s'.heap.get i=s.heap.get i):Cy s' i cs p:=by
 obtain⟨r,h1,h2⟩:=h
 exact⟨r,k.trans h1,h2⟩
theorem Cy.of_R{s:AD}{i e:Nat}{sp:Bool}{cs:List AV}(h:s.heap.get i=some (R e 1 sp cs)):Cy s i cs none:=
 ⟨{ elem:=e,sz:=1,n:=cs.length,c:=RE cs,spare:=sp,mode:=.own,par:=none,bytes:=true },h,⟨rfl,fun k u hk=>by
  show(RE cs).get k=_
  rw[NS];exact hk⟩,rfl,rfl,.inl rfl⟩
theorem Km{P:Program}{s:AD}{i o t:Nat}{cs:List AV}{p:Option Nat}{v:AV}(ht:De P t=some false)(h:Cy s i cs p)(hk:cs[o]? = some v):AC P s t (.ptr (some (i,o)))=some v:=by
 obtain⟨r,h1,h2,_⟩:=h
 have ho:o<cs.length:=by
  rcases nm o cs.length with h' | h'
  ·exact h'
  ·rw[oF h']at hk;cases hk
 exact CM ht (FG h1 (by rw[h2.1];exact ho) (h2.2 o v hk))
theorem Ie{s:AD}{i:Nat}{cs:List AV}{p:Option Nat}(h:Cy s i cs p){b:Nat}(hi:i<b):AZ b s (some (i,0)) cs:=fun k u hu=>by
 obtain⟨r,h1,h2,_⟩:=h
 have ho:k<cs.length:=by
  rcases nm k cs.length with h' | h'
  ·exact h'
  ·rw[oF h']at hu;cases hu
 exact⟨i,0,rfl,hi,FG h1 (by rw[h2.1];omega) (by rw[oG];exact h2.2 k u hu)⟩
theorem FR        {P : Program} {s : AD}  {i o t : Nat} {cs : List AV} {p : Option Nat} {v : AV} (hs : A3    P t = some 1) (h : Cy   s i cs p) (ho : o < cs.length) (hv : v.isCell = true) :
    ∃s',AK P s t (.ptr (some (i,o))) v=some s'∧Cy s' i (cs.set o v) p∧s'.next=s.next∧∀j,j≠i→some j≠p→s'.heap.get j=s.heap.get j:=by
  obtain⟨r,h1,h2,h3,h4,h5⟩:=h
  have hc:v.cells=[v]:=by cases v<;>first | rfl | cases hv
  have hrow:rowAt s i=some r:=by unfold rowAt;rw[h1]
  have hb:Nat.ble (o+1) r.n=true:=CZ (by rw[h2.1];omega)
  have hal:Ap [v]=true:=by simp[Ap,hv]
  have est:AK P s t (.ptr (some (i,o))) v=some (setObj (BO s i r) i (.row { r with c:=r.c.fill o [v],par:=none })):=by
    rw[Wg,hs,hc]
    show AJ (decide (1=1)) (CS s i o [v])=_
    show(rowAt s i).bind _=_
    rw[hrow]
    show AJ (Db r.mode && Nat.ble (o+1) r.n && Ap [v]) _=_
    rw[h3,hb,hal]
    rfl
  have hun:(BO s i r).next=s.next∧∀j,some j≠p→(BO s i r).heap.get j=s.heap.get j:=by
    unfold BO
    rcases h5 with h5 | h5
    · rw[h5];exact⟨rfl,fun j _=>rfl⟩
    · rw[h5]
      cases p with
      | none=>exact⟨rfl,fun j _=>rfl⟩
      | some q =>
        simp only
        cases hbq:Nat.beq q i with
        | true=>exact⟨rfl,fun j _=>rfl⟩
        | false =>
          refine⟨rfl,fun j hj=>?_⟩
          show(CE s q).heap.get j=_
          rw[Hx,if_neg]
          intro e
          exact hj (by rw[e])
  refine⟨_,est,⟨{ r with c:=r.c.fill o [v],par:=none },Wv _ _ _,⟨by show r.n=_;rw[h2.1,qN],fun k u hu=>?_⟩,h3,h4,.inl rfl⟩,hun.1,fun j hj hjp=>(Ww _ hj).trans (hun.2 j hjp)⟩
  show(r.c.fill o [v]).get k=some u
  rw[AS.get_fill]
  by_cases hk:k=o
  · subst hk
    rw[List.getElem?_set_self ho]at hu
    rw[if_pos ⟨nl _,by simp⟩,Nat.sub_self]
    exact hu
  · rw [qM                   (Ne.symm hk)] at hu
    rw[if_neg (by simp;omega)]
    exact h2.2 k u hu
structure ED(s s':AD)(i:Nat)(p:Option Nat):Prop where
 next:s'.next=s.next
 get:∀j,j≠i→some j≠p→s'.heap.get j=s.heap.get j
theorem ED.refl(s:AD)(i:Nat)(p:Option Nat):ED s s i p:=⟨rfl,fun _ _ _=>rfl⟩
theorem ED.step{s s' s2:AD}{i:Nat}{p:Option Nat}(h:ED s s' i p)(h1:s2.next=s'.next)(h2:∀j,j≠i→some j≠p→s2.heap.get j=s'.heap.get j):ED s s2 i p:=⟨h1.trans h.next,fun j hj hp=>(h2 j hj hp).trans (h.get j hj hp)⟩
end
end Go.Proofs.YtjnkfbpadpmakaaGreatDoor.Am
set_option linter.unusedVariables false
set_option linter.unusedSimpArgs false
set_option maxRecDepth 100000
namespace Go.Proofs.YtjnkfbpadpmakaaGreatDoor.Am
open Go Go.Proofs
noncomputable section
theorem S9:A3 Tryz.prog 3=some 1:=by kernel_rfl
theorem mX:C0 Tryz.prog 3=some 8:=by kernel_rfl
theorem j4:De Tryz.prog 3=some false:=by kernel_rfl
theorem Pi:De Tryz.prog 4=some false:=by kernel_rfl
theorem Y3:A3 Tryz.prog 22=some 1:=by kernel_rfl
theorem DO:De Tryz.prog 22=some false:=by kernel_rfl
theorem Ct:A3 Tryz.prog 76=some 1:=by kernel_rfl
theorem UX:C0 Tryz.prog 76=some 4:=by kernel_rfl
theorem Hm:De Tryz.prog 76=some false:=by kernel_rfl
theorem mV:EJ Tryz.prog 76=some (.int .u32 (0)):=by kernel_rfl
theorem Y4:A3 Tryz.prog 69=some 1:=by kernel_rfl
theorem UM:De Tryz.prog 69=some false:=by kernel_rfl
def XA:List AA:=[
 ⟨none,.p1 some,[(.const (.slice none 0 (some 0)))],(.set 1),[]⟩]
def XB:List AA:=[
 ⟨none,.r (fun s l=>match l with | [x]=>BZ Tryz.prog s 22 x | _=>none),[.var 0],.push,[]⟩,
 ⟨none,.p1 some,[.loc 0],(.set 2),[]⟩]
def SQ:List AA:=[
 ⟨none,.p2 (AT Tryz.prog .gtr 3),[(.var 2),(.const (.int .i64 (0)))],.push,[]⟩,
 ⟨(some ((.loc 0),true)),.p1 some,[.var 0],.push,[]⟩,
 ⟨(some ((.loc 1),true)),.p1 some,[.var 2],.push,[]⟩,
 ⟨(some ((.loc 2),true)),.p2 (AT Tryz.prog .sub 3),[(.loc 0),(.const (.int .i64 (1)))],.push,[]⟩,
 ⟨(some ((.loc 3),true)),.p2 (AM Tryz.prog 22),[.loc 2,.loc 0],.push,[]⟩,
 ⟨(some ((.loc 4),true)),.r1 (fun s a=>AC Tryz.prog s 76 a),[.loc 0],.push,[]⟩,
 ⟨(some ((.loc 5),true)),.p2 (AT Tryz.prog .eql 76),[(.loc 0),(.const (.int .u32 (0)))],.push,[]⟩,
 ⟨none,.p Rt,[(.loc 6),(.loc 0),(.const (.bool false))],(.set 3),[]⟩]
def fW:List AA:=[
 ⟨none,.p1 some,[.var 2],.push,[]⟩,
 ⟨none,.p2 (AT Tryz.prog .sub 3),[(.loc 0),(.const (.int .i64 (1)))],.push,[]⟩,
 ⟨none,.p1 some,[.loc 0],(.set 2),[]⟩]
def Lv:Af:=(.seq (.seq (.ops SQ) (.cond (.var 3)
 .skip
 (.exit 0))) (.block 1 (.ops fW)))
def XC:List AA:=[
 ⟨none,.r (A4 Tryz.prog 22 false true false),[.var 0,.var 2],.push,[]⟩,
 ⟨none,.call 136,[.loc 0],.push,[]⟩,
 ⟨none,.p1 some,[.loc 0],(.set 1),[]⟩]
def mG:Ao:=⟨1,4,(.seq (.ops XA) (.seq (.ops XB) (.seq (.block 0 (.loop Lv)) (.seq (.ops XC) .ret)))),[((.var 1),none)]⟩
def My:List AA:=[
 ⟨none,.p1 some,[(.const (.slice none 0 (some 0)))],(.set 1),[]⟩]
def Mz:List AA:=[
 ⟨none,.p2 (AT Tryz.prog .eql 22),[(.var 0),(.const (.slice none 0 (some 0)))],(.set 2),[]⟩]
def Px:List AA:=[
 ⟨none,.p1 some,[(.const (.slice none 0 (some 0)))],(.set 1),[]⟩]
def U8:List AA:=[
 ⟨none,.mk (fun l=>(Ad Tryz.prog 22 0 (zipIdx [] l)).bind fun r=>some (r,.slice 0)),[],.push,[]⟩,
 ⟨none,.e (fun s l=>Av Tryz.prog s [22,22] l),[.loc 0,.var 0],.push,[]⟩,
 ⟨none,.p1 some,[.loc 0],(.set 1),[]⟩]
def Ze:Ao:=⟨1,3,(.seq (.ops My) (.seq (.seq (.ops Mz) (.cond (.var 2)
 (.seq (.ops Px) .ret)
 .skip)) (.seq (.ops U8) .ret))),[((.var 1),none)]⟩
def dP:List AA:=[
 ⟨none,.p1 some,[(.const (.slice none 0 (some 0)))],(.set 1),[]⟩]
def dQ:List AA:=[
 ⟨none,.p2 (AT Tryz.prog .and 69),[(.var 0),(.const (.int .u64 (4294967295)))],.push,[]⟩,
 ⟨none,.r1 (fun s x=>As Tryz.prog s 69 76 x),[.loc 0],.push,[]⟩,
 ⟨none,.p2 (AT Tryz.prog .shr 69),[(.var 0),(.const (.int .u64 (32)))],.push,[]⟩,
 ⟨none,.r1 (fun s x=>As Tryz.prog s 69 76 x),[.loc 0],.push,[]⟩,
 ⟨none,.mk (fun l=>(Ad Tryz.prog 22 2 (zipIdx [0,1] l)).bind fun r=>some (r,.slice 2)),[.loc 2,.loc 0],.push,[]⟩,
 ⟨none,.call 92,[.loc 0],.push,[]⟩,
 ⟨none,.p1 some,[.loc 0],(.set 1),[]⟩]
def nD:Ao:=⟨1,2,(.seq (.ops dP) (.seq (.ops dQ) .ret)),[((.var 1),none)]⟩
def fX:List AA:=[
 ⟨none,.p1 some,[(.const (.int .i64 (0)))],(.set 2),[]⟩]
def fY:List AA:=[
 ⟨none,.p1 some,[.var 0],.push,[]⟩,
 ⟨none,.call 92,[.loc 0],.push,[]⟩,
 ⟨none,.p1 some,[.var 1],.push,[]⟩,
 ⟨none,.call 92,[.loc 0],.push,[]⟩,
 ⟨none,.p1 some,[.loc 2],(.set 0),[]⟩,
 ⟨none,.p1 some,[.loc 0],(.set 1),[]⟩]
def SR:List AA:=[
 ⟨none,.r (fun s l=>match l with | [x]=>BZ Tryz.prog s 22 x | _=>none),[.var 0],.push,[]⟩,
 ⟨none,.r (fun s l=>match l with | [x]=>BZ Tryz.prog s 22 x | _=>none),[.var 1],.push,[]⟩,
 ⟨none,.p2 (AT Tryz.prog .lss 3),[.loc 1,.loc 0],.push,[]⟩,
 ⟨none,.p1 some,[.loc 0],(.set 4),[]⟩]
def fZ:List AA:=[
 ⟨none,.p1 some,[(.const (.int .i64 (-1)))],(.set 2),[]⟩]
def XG:List AA:=[
 ⟨none,.r (fun s l=>match l with | [x]=>BZ Tryz.prog s 22 x | _=>none),[.var 0],.push,[]⟩,
 ⟨none,.r (fun s l=>match l with | [x]=>BZ Tryz.prog s 22 x | _=>none),[.var 1],.push,[]⟩,
 ⟨none,.p2 (AT Tryz.prog .gtr 3),[.loc 1,.loc 0],.push,[]⟩,
 ⟨none,.p1 some,[.loc 0],(.set 5),[]⟩]
def fa:List AA:=[
 ⟨none,.p1 some,[(.const (.int .i64 (1)))],(.set 2),[]⟩]
def fb:List AA:=[
 ⟨none,.r (fun s l=>match l with | [x]=>BZ Tryz.prog s 22 x | _=>none),[.var 0],.push,[]⟩,
 ⟨none,.p2 (AT Tryz.prog .sub 3),[(.loc 0),(.const (.int .i64 (1)))],.push,[]⟩,
 ⟨none,.p1 some,[.loc 0],(.set 3),[]⟩]
def OI:List AA:=[
 ⟨none,.p2 (AT Tryz.prog .geq 3),[(.var 3),(.const (.int .i64 (0)))],(.set 6),[]⟩]
def SS:List AA:=[
 ⟨none,.p2 (AM Tryz.prog 22),[.var 0,.var 3],.push,[]⟩,
 ⟨none,.r1 (fun s a=>AC Tryz.prog s 76 a),[.loc 0],.push,[]⟩,
 ⟨none,.p2 (AM Tryz.prog 22),[.var 1,.var 3],.push,[]⟩,
 ⟨none,.r1 (fun s a=>AC Tryz.prog s 76 a),[.loc 0],.push,[]⟩,
 ⟨none,.p2 (AT Tryz.prog .lss 76),[.loc 2,.loc 0],.push,[]⟩,
 ⟨none,.p1 some,[.loc 0],(.set 7),[]⟩]
def fc:List AA:=[
 ⟨none,.p1 some,[(.const (.int .i64 (-1)))],(.set 2),[]⟩]
def QC:List AA:=[
 ⟨none,.p2 (AM Tryz.prog 22),[.var 0,.var 3],.push,[]⟩,
 ⟨none,.r1 (fun s a=>AC Tryz.prog s 76 a),[.loc 0],.push,[]⟩,
 ⟨none,.p2 (AM Tryz.prog 22),[.var 1,.var 3],.push,[]⟩,
 ⟨none,.r1 (fun s a=>AC Tryz.prog s 76 a),[.loc 0],.push,[]⟩,
 ⟨none,.p2 (AT Tryz.prog .gtr 76),[.loc 2,.loc 0],.push,[]⟩,
 ⟨none,.p1 some,[.loc 0],(.set 8),[]⟩]
def XD:List AA:=[
 ⟨none,.p1 some,[(.const (.int .i64 (1)))],(.set 2),[]⟩]
def XE:List AA:=[
 ⟨none,.p1 some,[.var 3],.push,[]⟩,
 ⟨none,.p2 (AT Tryz.prog .sub 3),[(.loc 0),(.const (.int .i64 (1)))],.push,[]⟩,
 ⟨none,.p1 some,[.loc 0],(.set 3),[]⟩]
def HI:Af:=(.seq (.seq (.ops OI) (.cond (.var 6)
 .skip
 (.exit 1))) (.seq (.block 2 (.block 3 (.seq (.ops SS) (.cond (.var 7)
 (.seq (.ops fc) .ret)
 (.seq (.ops QC) (.cond (.var 8)
 (.seq (.ops XD) .ret)
 .skip)))))) (.ops XE)))
def XF:List AA:=[
 ⟨none,.p1 some,[(.const (.int .i64 (0)))],(.set 2),[]⟩]
def nY:Ao:=⟨2,9,(.seq (.ops fX) (.seq (.ops fY) (.seq (.block 0 (.seq (.ops SR) (.cond (.var 4)
 (.seq (.ops fZ) .ret)
 (.seq (.ops XG) (.cond (.var 5)
 (.seq (.ops fa) .ret)
 .skip))))) (.seq (.seq (.ops fb) (.block 1 (.loop HI))) (.seq (.ops XF) .ret))))),[((.var 2),none)]⟩
def U9:List AA:=[
 ⟨none,.p1 some,[(.const (.slice none 0 (some 0)))],(.set 3),[]⟩]
def VA:List AA:=[
 ⟨none,.p1 some,[(.const (.slice none 0 (some 0)))],(.set 4),[]⟩]
def VB:List AA:=[
 ⟨none,.p1 some,[.var 0],(.set 6),[]⟩,
 ⟨none,.r (fun s l=>match l with | [x]=>BZ Tryz.prog s 22 x | _=>none),[.var 6],(.set 7),[]⟩,
 ⟨none,.p1 some,[(.const (.int .i64 (0)))],(.set 8),[]⟩]
def Py:List AA:=[
 ⟨none,.p2 (AT Tryz.prog .lss 3),[.var 8,.var 7],(.set 9),[]⟩]
def VC:List AA:=[
 ⟨none,.p2 (AM Tryz.prog 22),[.var 6,.var 8],.push,[]⟩,
 ⟨none,.r1 (fun s a=>AC Tryz.prog s 76 a),[.loc 0],.push,[]⟩,
 ⟨none,.p1 some,[.loc 0],(.set 5),[]⟩]
def VD:List AA:=[
 ⟨none,.p1 some,[.var 2],.push,[]⟩,
 ⟨none,.r1 (fun s x=>As Tryz.prog s 76 69 x),[.var 5],.push,[]⟩,
 ⟨none,.p2 (AT Tryz.prog .mul 69),[.var 1,.loc 0],.push,[]⟩,
 ⟨none,.p2 (AT Tryz.prog .add 69),[.loc 2,.loc 0],.push,[]⟩,
 ⟨none,.p1 some,[.loc 0],(.set 2),[]⟩]
def VE:List AA:=[
 ⟨none,.p1 some,[.var 4],.push,[]⟩,
 ⟨none,.p2 (AT Tryz.prog .and 69),[(.var 2),(.const (.int .u64 (4294967295)))],.push,[]⟩,
 ⟨none,.r1 (fun s x=>As Tryz.prog s 69 76 x),[.loc 0],.push,[]⟩,
 ⟨none,.mk (fun l=>(Ad Tryz.prog 22 1 (zipIdx [0] l)).bind fun r=>some (r,.slice 1)),[.loc 0],.push,[]⟩,
 ⟨none,.e (fun s l=>Av Tryz.prog s [22,22] l),[.loc 3,.loc 0],.push,[]⟩,
 ⟨none,.p1 some,[.loc 0],(.set 4),[]⟩]
def VF:List AA:=[
 ⟨none,.p1 some,[.var 2],.push,[]⟩,
 ⟨none,.p2 (AT Tryz.prog .shr 69),[(.loc 0),(.const (.int .u64 (32)))],.push,[]⟩,
 ⟨none,.p1 some,[.loc 0],(.set 2),[]⟩]
def VG:List AA:=[
 ⟨none,.p2 (AT Tryz.prog .add 3),[(.var 8),(.const (.int .i64 (1)))],.push,[]⟩,
 ⟨none,.p1 some,[.loc 0],(.set 8),[]⟩]
def KD:Af:=(.seq (.ops Py) (.seq (.cond (.var 9)
 .skip
 (.exit 0)) (.seq (.block 1 (.seq (.ops VC) (.seq (.ops VD) (.seq (.ops VE) (.ops VF))))) (.ops VG))))
def SF:List AA:=[
 ⟨none,.r1 (fun s x=>As Tryz.prog s 69 76 x),[.var 2],.push,[]⟩,
 ⟨none,.mk (fun l=>(Ad Tryz.prog 22 1 (zipIdx [0] l)).bind fun r=>some (r,.slice 1)),[.loc 0],.push,[]⟩,
 ⟨none,.e (fun s l=>Av Tryz.prog s [22,22] l),[.var 4,.loc 0],.push,[]⟩,
 ⟨none,.p1 some,[.loc 0],(.set 3),[]⟩]
def kK:Ao:=⟨3,10,(.seq (.ops U9) (.seq (.ops VA) (.seq (.seq (.ops VB) (.block 0 (.loop KD))) (.seq (.ops SF) .ret)))),[((.var 3),none)]⟩
def fo:List AA:=[
 ⟨none,.p1 some,[(.const (.slice none 0 (some 0)))],(.set 2),[]⟩]
def ft:List AA:=[
 ⟨none,.p2 (AT Tryz.prog .shl 69),[(.const (.int .u64 (1))),(.var 1)],.push,[]⟩,
 ⟨none,.call 137,[(.var 0),(.loc 0),(.const (.int .u64 (0)))],.push,[]⟩,
 ⟨none,.p1 some,[.loc 0],(.set 2),[]⟩]
def ne:Ao:=⟨2,3,(.seq (.ops fo) (.seq (.ops ft) .ret)),[((.var 2),none)]⟩
def fe:List AA:=[
 ⟨none,.p1 some,[(.const (.slice none 0 (some 0)))],(.set 2),[]⟩,
 ⟨none,.p1 some,[(.const (.int .u64 (0)))],(.set 3),[]⟩]
def ff:List AA:=[
 ⟨none,.r (fun s l=>match l with | [x]=>BZ Tryz.prog s 22 x | _=>none),[.var 0],.push,[]⟩,
 ⟨none,.mk (Xx (CF Tryz.prog 22)),[.loc 0,.loc 0],.push,[]⟩,
 ⟨none,.p1 some,[.loc 0],(.set 2),[]⟩]
def fg:List AA:=[
 ⟨none,.r (fun s l=>match l with | [x]=>BZ Tryz.prog s 22 x | _=>none),[.var 0],.push,[]⟩,
 ⟨none,.p2 (AT Tryz.prog .sub 3),[(.loc 0),(.const (.int .i64 (1)))],.push,[]⟩,
 ⟨none,.p1 some,[.loc 0],(.set 4),[]⟩]
def XH:List AA:=[
 ⟨none,.p2 (AT Tryz.prog .geq 3),[(.var 4),(.const (.int .i64 (0)))],(.set 5),[]⟩]
def fh:List AA:=[
 ⟨none,.p1 some,[.var 3],.push,[]⟩,
 ⟨none,.p2 (AT Tryz.prog .shl 69),[(.loc 0),(.const (.int .u64 (32)))],.push,[]⟩,
 ⟨none,.p2 (AM Tryz.prog 22),[.var 0,.var 4],.push,[]⟩,
 ⟨none,.r1 (fun s a=>AC Tryz.prog s 76 a),[.loc 0],.push,[]⟩,
 ⟨none,.r1 (fun s x=>As Tryz.prog s 76 69 x),[.loc 0],.push,[]⟩,
 ⟨none,.p2 (AT Tryz.prog .or 69),[.loc 3,.loc 0],.push,[]⟩,
 ⟨none,.p1 some,[.loc 0],(.set 3),[]⟩]
def fi:List AA:=[
 ⟨none,.p2 (AT Tryz.prog .quo 69),[.var 3,.var 1],.push,[]⟩,
 ⟨none,.r1 (fun s x=>As Tryz.prog s 69 76 x),[.loc 0],.push,[]⟩,
 ⟨none,.p2 (AM Tryz.prog 22),[.var 2,.var 4],.push,[]⟩,
 ⟨none,.e (fun s=>Xx (fun a x=>Xz (AK Tryz.prog s 76 a x))),[.loc 0,.loc 1],.push,[]⟩]
def fj:List AA:=[
 ⟨none,.p1 some,[.var 3],.push,[]⟩,
 ⟨none,.p2 (AT Tryz.prog .rem 69),[.loc 0,.var 1],.push,[]⟩,
 ⟨none,.p1 some,[.loc 0],(.set 3),[]⟩]
def fk:List AA:=[
 ⟨none,.p1 some,[.var 4],.push,[]⟩,
 ⟨none,.p2 (AT Tryz.prog .sub 3),[(.loc 0),(.const (.int .i64 (1)))],.push,[]⟩,
 ⟨none,.p1 some,[.loc 0],(.set 4),[]⟩]
def OJ:Af:=(.seq (.seq (.ops XH) (.cond (.var 5)
 .skip
 (.exit 0))) (.seq (.block 1 (.seq (.ops fh) (.seq (.ops fi) (.ops fj)))) (.ops fk)))
def fm:List AA:=[
 ⟨none,.p1 some,[.var 2],.push,[]⟩,
 ⟨none,.call 92,[.loc 0],.push,[]⟩,
 ⟨none,.p1 some,[.var 3],.push,[]⟩,
 ⟨none,.p1 some,[.loc 1],(.set 2),[]⟩,
 ⟨none,.p1 some,[.loc 0],(.set 3),[]⟩]
def nZ:Ao:=⟨2,6,(.seq (.ops fe) (.seq (.ops ff) (.seq (.seq (.ops fg) (.block 0 (.loop OJ))) (.seq (.ops fm) .ret)))),[((.var 2),none),((.var 3),none)]⟩
def fu:List AA:=[
 ⟨none,.p1 some,[(.const (.int .u64 (0)))],(.set 2),[]⟩]
def fv:List AA:=[
 ⟨none,.r (fun s l=>match l with | [x]=>BZ Tryz.prog s 22 x | _=>none),[.var 1],.push,[]⟩,
 ⟨none,.p1 some,[.loc 0],(.set 3),[]⟩]
def fw:List AA:=[
 ⟨none,.p2 (AM Tryz.prog 22),[.var 0,.var 3],.push,[]⟩,
 ⟨none,.r1 (fun s a=>AC Tryz.prog s 76 a),[.loc 0],.push,[]⟩,
 ⟨none,.r1 (fun s x=>As Tryz.prog s 76 69 x),[.loc 0],.push,[]⟩,
 ⟨none,.p2 (AT Tryz.prog .shl 69),[(.loc 0),(.const (.int .u64 (32)))],.push,[]⟩,
 ⟨none,.p2 (AT Tryz.prog .sub 3),[(.var 3),(.const (.int .i64 (1)))],.push,[]⟩,
 ⟨none,.p2 (AM Tryz.prog 22),[.var 0,.loc 0],.push,[]⟩,
 ⟨none,.r1 (fun s a=>AC Tryz.prog s 76 a),[.loc 0],.push,[]⟩,
 ⟨none,.r1 (fun s x=>As Tryz.prog s 76 69 x),[.loc 0],.push,[]⟩,
 ⟨none,.p2 (AT Tryz.prog .or 69),[.loc 4,.loc 0],.push,[]⟩,
 ⟨none,.p1 some,[.loc 0],(.set 4),[]⟩]
def fy:List AA:=[
 ⟨none,.p2 (AT Tryz.prog .sub 3),[(.var 3),(.const (.int .i64 (1)))],.push,[]⟩,
 ⟨none,.p2 (AM Tryz.prog 22),[.var 1,.loc 0],.push,[]⟩,
 ⟨none,.r1 (fun s a=>AC Tryz.prog s 76 a),[.loc 0],.push,[]⟩,
 ⟨none,.r1 (fun s x=>As Tryz.prog s 76 69 x),[.loc 0],.push,[]⟩,
 ⟨none,.p2 (AT Tryz.prog .quo 69),[.var 4,.loc 0],.push,[]⟩,
 ⟨none,.p2 (AT Tryz.prog .sub 3),[(.var 3),(.const (.int .i64 (1)))],.push,[]⟩,
 ⟨none,.p2 (AM Tryz.prog 22),[.var 1,.loc 0],.push,[]⟩,
 ⟨none,.r1 (fun s a=>AC Tryz.prog s 76 a),[.loc 0],.push,[]⟩,
 ⟨none,.r1 (fun s x=>As Tryz.prog s 76 69 x),[.loc 0],.push,[]⟩,
 ⟨none,.p2 (AT Tryz.prog .rem 69),[.var 4,.loc 0],.push,[]⟩,
 ⟨none,.p1 some,[.loc 5],(.set 5),[]⟩,
 ⟨none,.p1 some,[.loc 0],(.set 6),[]⟩]
def Lw:List AA:=[
 ⟨none,.p2 (AT Tryz.prog .gtr 69),[(.var 5),(.const (.int .u64 (4294967295)))],.push,[]⟩,
 ⟨(some ((.loc 0),false)),.p1 some,[.var 5],.push,[]⟩,
 ⟨(some ((.loc 1),false)),.p1 some,[.var 1],.push,[]⟩,
 ⟨(some ((.loc 2),false)),.p1 some,[.var 3],.push,[]⟩,
 ⟨(some ((.loc 3),false)),.p2 (AT Tryz.prog .sub 3),[(.loc 0),(.const (.int .i64 (2)))],.push,[]⟩,
 ⟨(some ((.loc 4),false)),.p2 (AM Tryz.prog 22),[.loc 2,.loc 0],.push,[]⟩,
 ⟨(some ((.loc 5),false)),.r1 (fun s a=>AC Tryz.prog s 76 a),[.loc 0],.push,[]⟩,
 ⟨(some ((.loc 6),false)),.r1 (fun s x=>As Tryz.prog s 76 69 x),[.loc 0],.push,[]⟩,
 ⟨(some ((.loc 7),false)),.p2 (AT Tryz.prog .mul 69),[.loc 6,.loc 0],.push,[]⟩,
 ⟨(some ((.loc 8),false)),.p1 some,[.var 6],.push,[]⟩,
 ⟨(some ((.loc 9),false)),.p2 (AT Tryz.prog .shl 69),[(.loc 0),(.const (.int .u64 (32)))],.push,[]⟩,
 ⟨(some ((.loc 10),false)),.p1 some,[.var 0],.push,[]⟩,
 ⟨(some ((.loc 11),false)),.p1 some,[.var 3],.push,[]⟩,
 ⟨(some ((.loc 12),false)),.p2 (AT Tryz.prog .sub 3),[(.loc 0),(.const (.int .i64 (2)))],.push,[]⟩,
 ⟨(some ((.loc 13),false)),.p2 (AM Tryz.prog 22),[.loc 2,.loc 0],.push,[]⟩,
 ⟨(some ((.loc 14),false)),.r1 (fun s a=>AC Tryz.prog s 76 a),[.loc 0],.push,[]⟩,
 ⟨(some ((.loc 15),false)),.r1 (fun s x=>As Tryz.prog s 76 69 x),[.loc 0],.push,[]⟩,
 ⟨(some ((.loc 16),false)),.p2 (AT Tryz.prog .or 69),[.loc 6,.loc 0],.push,[]⟩,
 ⟨(some ((.loc 17),false)),.p2 (AT Tryz.prog .gtr 69),[.loc 9,.loc 0],.push,[]⟩,
 ⟨none,.p Rt,[(.loc 18),(.const (.bool true)),(.loc 0)],(.set 7),[]⟩]
def OK:List AA:=[
 ⟨none,.p1 some,[.var 5],.push,[]⟩,
 ⟨none,.p2 (AT Tryz.prog .sub 69),[(.loc 0),(.const (.int .u64 (1)))],.push,[]⟩,
 ⟨none,.p1 some,[.loc 0],(.set 5),[]⟩]
def OL:List AA:=[
 ⟨none,.p1 some,[.var 6],.push,[]⟩,
 ⟨none,.p2 (AT Tryz.prog .sub 3),[(.var 3),(.const (.int .i64 (1)))],.push,[]⟩,
 ⟨none,.p2 (AM Tryz.prog 22),[.var 1,.loc 0],.push,[]⟩,
 ⟨none,.r1 (fun s a=>AC Tryz.prog s 76 a),[.loc 0],.push,[]⟩,
 ⟨none,.r1 (fun s x=>As Tryz.prog s 76 69 x),[.loc 0],.push,[]⟩,
 ⟨none,.p2 (AT Tryz.prog .add 69),[.loc 4,.loc 0],.push,[]⟩,
 ⟨none,.p1 some,[.loc 0],(.set 6),[]⟩]
def OM:List AA:=[
 ⟨none,.p2 (AT Tryz.prog .gtr 69),[(.var 6),(.const (.int .u64 (4294967295)))],(.set 8),[]⟩]
def KJ:Af:=(.seq (.seq (.ops Lw) (.cond (.var 7)
 .skip
 (.exit 0))) (.block 1 (.seq (.ops OK) (.seq (.ops OL) (.seq (.ops OM) (.cond (.var 8)
 (.exit 0)
 .skip))))))
def fz:List AA:=[
 ⟨none,.p1 some,[.var 5],(.set 2),[]⟩]
def nf:Ao:=⟨2,9,(.seq (.ops fu) (.seq (.ops fv) (.seq (.ops fw) (.seq (.ops fy) (.seq (.block 0 (.loop KJ)) (.seq (.ops fz) .ret)))))),[((.var 2),none)]⟩
def gC:List AA:=[
 ⟨none,.p1 some,[(.const (.bool false))],(.set 3),[]⟩]
def gD:List AA:=[
 ⟨none,.p1 some,[(.const (.int .u64 (0)))],(.set 4),[]⟩,
 ⟨none,.p1 some,[(.const (.int .u64 (0)))],(.set 5),[]⟩]
def gE:List AA:=[
 ⟨none,.call 136,[.var 1],.push,[]⟩,
 ⟨none,.mk (fun l=>(Ad Tryz.prog 22 1 (zipIdx [0] l)).bind fun r=>some (r,.slice 1)),[(.const (.int .u32 (0)))],.push,[]⟩,
 ⟨none,.e (fun s l=>Av Tryz.prog s [22,22] l),[.loc 1,.loc 0],(.set 9),[]⟩,
 ⟨none,.r (fun s l=>match l with | [x]=>BZ Tryz.prog s 22 x | _=>none),[.var 9],(.set 10),[]⟩,
 ⟨none,.p1 some,[(.const (.int .i64 (0)))],(.set 11),[]⟩]
def XK:List AA:=[
 ⟨none,.p2 (AT Tryz.prog .lss 3),[.var 11,.var 10],(.set 12),[]⟩]
def gF:List AA:=[
 ⟨none,.p2 (AM Tryz.prog 22),[.var 9,.var 11],.push,[]⟩,
 ⟨none,.r1 (fun s a=>AC Tryz.prog s 76 a),[.loc 0],.push,[]⟩,
 ⟨none,.p1 some,[.var 11],(.set 6),[]⟩,
 ⟨none,.p1 some,[.loc 0],(.set 7),[]⟩]
def gG:List AA:=[
 ⟨none,.p1 some,[.var 4],.push,[]⟩,
 ⟨none,.r1 (fun s x=>As Tryz.prog s 76 69 x),[.var 7],.push,[]⟩,
 ⟨none,.p2 (AT Tryz.prog .mul 69),[.var 2,.loc 0],.push,[]⟩,
 ⟨none,.p2 (AT Tryz.prog .add 69),[.loc 2,.loc 0],.push,[]⟩,
 ⟨none,.p1 some,[.loc 0],(.set 4),[]⟩]
def gH:List AA:=[
 ⟨none,.p2 (AM Tryz.prog 22),[.var 0,.var 6],.push,[]⟩,
 ⟨none,.r1 (fun s a=>AC Tryz.prog s 76 a),[.loc 0],.push,[]⟩,
 ⟨none,.r1 (fun s x=>As Tryz.prog s 76 69 x),[.loc 0],.push,[]⟩,
 ⟨none,.p2 (AT Tryz.prog .and 69),[(.var 4),(.const (.int .u64 (4294967295)))],.push,[]⟩,
 ⟨none,.p2 (AT Tryz.prog .sub 69),[.loc 1,.loc 0],.push,[]⟩,
 ⟨none,.p2 (AT Tryz.prog .sub 69),[.loc 0,.var 5],.push,[]⟩,
 ⟨none,.p1 some,[.loc 0],(.set 8),[]⟩]
def gI:List AA:=[
 ⟨none,.p2 (AT Tryz.prog .and 69),[(.var 8),(.const (.int .u64 (4294967295)))],.push,[]⟩,
 ⟨none,.r1 (fun s x=>As Tryz.prog s 69 76 x),[.loc 0],.push,[]⟩,
 ⟨none,.p2 (AM Tryz.prog 22),[.var 0,.var 6],.push,[]⟩,
 ⟨none,.e (fun s=>Xx (fun a x=>Xz (AK Tryz.prog s 76 a x))),[.loc 0,.loc 1],.push,[]⟩]
def gJ:List AA:=[
 ⟨none,.p1 some,[.var 4],.push,[]⟩,
 ⟨none,.p2 (AT Tryz.prog .shr 69),[(.loc 0),(.const (.int .u64 (32)))],.push,[]⟩,
 ⟨none,.p1 some,[.loc 0],(.set 4),[]⟩]
def gK:List AA:=[
 ⟨none,.p2 (AT Tryz.prog .shr 69),[(.var 8),(.const (.int .u64 (63)))],.push,[]⟩,
 ⟨none,.p1 some,[.loc 0],(.set 5),[]⟩]
def XI:List AA:=[
 ⟨none,.p2 (AT Tryz.prog .add 3),[(.var 11),(.const (.int .i64 (1)))],.push,[]⟩,
 ⟨none,.p1 some,[.loc 0],(.set 11),[]⟩]
def KK:Af:=(.seq (.ops XK) (.seq (.cond (.var 12)
 .skip
 (.exit 0)) (.seq (.block 1 (.seq (.ops gF) (.seq (.ops gG) (.seq (.ops gH) (.seq (.ops gI) (.seq (.ops gJ) (.ops gK))))))) (.ops XI))))
def XJ:List AA:=[
 ⟨none,.p2 (AT Tryz.prog .gtr 69),[(.var 5),(.const (.int .u64 (0)))],.push,[]⟩,
 ⟨none,.p1 some,[.loc 0],(.set 3),[]⟩]
def ng:Ao:=⟨3,13,(.seq (.ops gC) (.seq (.ops gD) (.seq (.seq (.ops gE) (.block 0 (.loop KK))) (.seq (.ops XJ) .ret)))),[((.var 3),none)]⟩
def gL:List AA:=[
 ⟨none,.p1 some,[(.const (.int .u64 (0)))],(.set 2),[]⟩]
def gM:List AA:=[
 ⟨none,.call 136,[.var 1],.push,[]⟩,
 ⟨none,.mk (fun l=>(Ad Tryz.prog 22 1 (zipIdx [0] l)).bind fun r=>some (r,.slice 1)),[(.const (.int .u32 (0)))],.push,[]⟩,
 ⟨none,.e (fun s l=>Av Tryz.prog s [22,22] l),[.loc 1,.loc 0],(.set 5),[]⟩,
 ⟨none,.r (fun s l=>match l with | [x]=>BZ Tryz.prog s 22 x | _=>none),[.var 5],(.set 6),[]⟩,
 ⟨none,.p1 some,[(.const (.int .i64 (0)))],(.set 7),[]⟩]
def XL:List AA:=[
 ⟨none,.p2 (AT Tryz.prog .lss 3),[.var 7,.var 6],(.set 8),[]⟩]
def gN:List AA:=[
 ⟨none,.p2 (AM Tryz.prog 22),[.var 5,.var 7],.push,[]⟩,
 ⟨none,.r1 (fun s a=>AC Tryz.prog s 76 a),[.loc 0],.push,[]⟩,
 ⟨none,.p1 some,[.var 7],(.set 3),[]⟩,
 ⟨none,.p1 some,[.loc 0],(.set 4),[]⟩]
def gO:List AA:=[
 ⟨none,.p1 some,[.var 2],.push,[]⟩,
 ⟨none,.p2 (AM Tryz.prog 22),[.var 0,.var 3],.push,[]⟩,
 ⟨none,.r1 (fun s a=>AC Tryz.prog s 76 a),[.loc 0],.push,[]⟩,
 ⟨none,.r1 (fun s x=>As Tryz.prog s 76 69 x),[.loc 0],.push,[]⟩,
 ⟨none,.r1 (fun s x=>As Tryz.prog s 76 69 x),[.var 4],.push,[]⟩,
 ⟨none,.p2 (AT Tryz.prog .add 69),[.loc 1,.loc 0],.push,[]⟩,
 ⟨none,.p2 (AT Tryz.prog .add 69),[.loc 5,.loc 0],.push,[]⟩,
 ⟨none,.p1 some,[.loc 0],(.set 2),[]⟩]
def gR:List AA:=[
 ⟨none,.p2 (AT Tryz.prog .and 69),[(.var 2),(.const (.int .u64 (4294967295)))],.push,[]⟩,
 ⟨none,.r1 (fun s x=>As Tryz.prog s 69 76 x),[.loc 0],.push,[]⟩,
 ⟨none,.p2 (AM Tryz.prog 22),[.var 0,.var 3],.push,[]⟩,
 ⟨none,.e (fun s=>Xx (fun a x=>Xz (AK Tryz.prog s 76 a x))),[.loc 0,.loc 1],.push,[]⟩]
def gT:List AA:=[
 ⟨none,.p1 some,[.var 2],.push,[]⟩,
 ⟨none,.p2 (AT Tryz.prog .shr 69),[(.loc 0),(.const (.int .u64 (32)))],.push,[]⟩,
 ⟨none,.p1 some,[.loc 0],(.set 2),[]⟩]
def gU:List AA:=[
 ⟨none,.p2 (AT Tryz.prog .add 3),[(.var 7),(.const (.int .i64 (1)))],.push,[]⟩,
 ⟨none,.p1 some,[.loc 0],(.set 7),[]⟩]
def ON:Af:=(.seq (.ops XL) (.seq (.cond (.var 8)
 .skip
 (.exit 0)) (.seq (.block 1 (.seq (.ops gN) (.seq (.ops gO) (.seq (.ops gR) (.ops gT))))) (.ops gU))))
def nh:Ao:=⟨2,9,(.seq (.ops gL) (.seq (.ops gM) (.block 0 (.loop ON)))),[]⟩
def dW:List AA:=[
 ⟨none,.p1 some,[(.const (.slice none 0 (some 0)))],(.set 2),[]⟩,
 ⟨none,.p1 some,[(.const (.slice none 0 (some 0)))],(.set 3),[]⟩,
 ⟨none,.p1 some,[(.const (.int .i64 (0)))],(.set 4),[]⟩]
def dX:List AA:=[
 ⟨none,.p1 some,[.var 0],.push,[]⟩,
 ⟨none,.call 92,[.loc 0],.push,[]⟩,
 ⟨none,.p1 some,[.var 1],.push,[]⟩,
 ⟨none,.call 92,[.loc 0],.push,[]⟩,
 ⟨none,.p1 some,[.loc 2],(.set 0),[]⟩,
 ⟨none,.p1 some,[.loc 0],(.set 1),[]⟩]
def WN:List AA:=[
 ⟨none,.r (fun s l=>match l with | [x]=>BZ Tryz.prog s 22 x | _=>none),[.var 1],.push,[]⟩,
 ⟨none,.p2 (AT Tryz.prog .eql 3),[(.loc 0),(.const (.int .i64 (0)))],.push,[]⟩,
 ⟨none,.p1 some,[.loc 0],(.set 13),[]⟩]
def dY:List AA:=[
 ⟨none,.p1 some,[(.const (.slice none 0 (some 0)))],(.set 2),[]⟩,
 ⟨none,.p1 some,[(.const (.slice none 0 (some 0)))],(.set 3),[]⟩,
 ⟨none,.p1 some,[(.const (.int .i64 (3)))],(.set 4),[]⟩]
def dZ:List AA:=[
 ⟨none,.call 93,[.var 0,.var 1],.push,[]⟩,
 ⟨none,.p2 (AT Tryz.prog .lss 3),[(.loc 0),(.const (.int .i64 (0)))],.push,[]⟩,
 ⟨none,.p1 some,[.loc 0],(.set 14),[]⟩]
def dc:List AA:=[
 ⟨none,.p1 some,[(.const (.slice none 0 (some 0)))],(.set 2),[]⟩,
 ⟨none,.p1 some,[.var 0],(.set 3),[]⟩,
 ⟨none,.p1 some,[(.const (.int .i64 (0)))],(.set 4),[]⟩]
def WT:List AA:=[
 ⟨none,.r (fun s l=>match l with | [x]=>BZ Tryz.prog s 22 x | _=>none),[.var 1],.push,[]⟩,
 ⟨none,.p2 (AT Tryz.prog .eql 3),[(.loc 0),(.const (.int .i64 (1)))],.push,[]⟩,
 ⟨none,.p1 some,[.loc 0],(.set 15),[]⟩]
def df:List AA:=[
 ⟨none,.p2 (AM Tryz.prog 22),[(.var 1),(.const (.int .i64 (0)))],.push,[]⟩,
 ⟨none,.r1 (fun s a=>AC Tryz.prog s 76 a),[.loc 0],.push,[]⟩,
 ⟨none,.r1 (fun s x=>As Tryz.prog s 76 69 x),[.loc 0],.push,[]⟩,
 ⟨none,.call 94,[.var 0,.loc 0],.push,[]⟩,
 ⟨none,.p1 (fun x=>Za x 0),[.loc 0],.push,[]⟩,
 ⟨none,.p1 (fun x=>Za x 1),[.loc 1],.push,[]⟩,
 ⟨none,.p1 some,[.loc 1],(.set 5),[]⟩,
 ⟨none,.p1 some,[.loc 0],(.set 6),[]⟩]
def dg:List AA:=[
 ⟨none,.call 48,[.var 6],.push,[]⟩,
 ⟨none,.p1 some,[.var 5],(.set 2),[]⟩,
 ⟨none,.p1 some,[.loc 0],(.set 3),[]⟩,
 ⟨none,.p1 some,[(.const (.int .i64 (0)))],(.set 4),[]⟩]
def dh:List AA:=[
 ⟨none,.p1 some,[(.const (.int .u64 (0)))],(.set 7),[]⟩]
def P7:List AA:=[
 ⟨none,.r (fun s l=>match l with | [x]=>BZ Tryz.prog s 22 x | _=>none),[.var 1],.push,[]⟩,
 ⟨none,.p2 (AT Tryz.prog .sub 3),[(.loc 0),(.const (.int .i64 (1)))],.push,[]⟩,
 ⟨none,.p2 (AM Tryz.prog 22),[.var 1,.loc 0],.push,[]⟩,
 ⟨none,.r1 (fun s a=>AC Tryz.prog s 76 a),[.loc 0],.push,[]⟩,
 ⟨none,.p2 (AT Tryz.prog .shl 76),[.loc 0,.var 7],.push,[]⟩,
 ⟨none,.p2 (AT Tryz.prog .shr 76),[(.loc 0),(.const (.int .u64 (31)))],.push,[]⟩,
 ⟨none,.p2 (AT Tryz.prog .eql 76),[(.loc 0),(.const (.int .u32 (0)))],(.set 16),[]⟩]
def WE:List AA:=[
 ⟨none,.p1 some,[.var 7],.push,[]⟩,
 ⟨none,.p2 (AT Tryz.prog .add 113),[(.loc 0),(.const (.int .u64 (1)))],.push,[]⟩,
 ⟨none,.p1 some,[.loc 0],(.set 7),[]⟩]
def KF:Af:=(.seq (.seq (.ops P7) (.cond (.var 16)
 .skip
 (.exit 1))) (.block 2 (.ops WE)))
def WG:List AA:=[
 ⟨none,.r (fun s l=>match l with | [x]=>BZ Tryz.prog s 22 x | _=>none),[.var 1],.push,[]⟩,
 ⟨none,.call 95,[.var 0,.var 7],.push,[⟨none,.r (fun s l=>match l with | [x]=>BZ Tryz.prog s 22 x | _=>none),[.var 1],(.loc 1)⟩]⟩,
 ⟨none,.call 95,[.var 1,.var 7],.push,[⟨none,.r (fun s l=>match l with | [x]=>BZ Tryz.prog s 22 x | _=>none),[.var 1],(.loc 2)⟩]⟩,
 ⟨none,.r (A4 Tryz.prog 22 false true false),[.loc 0,.loc 2],.push,[]⟩,
 ⟨none,.p1 some,[.loc 2],(.set 8),[]⟩,
 ⟨none,.p1 some,[.loc 0],(.set 9),[]⟩]
def WH:List AA:=[
 ⟨none,.r (fun s l=>match l with | [x]=>BZ Tryz.prog s 22 x | _=>none),[.var 8],.push,[]⟩,
 ⟨none,.r (fun s l=>match l with | [x]=>BZ Tryz.prog s 22 x | _=>none),[.var 9],.push,[]⟩,
 ⟨none,.p2 (AT Tryz.prog .sub 3),[.loc 1,.loc 0],.push,[]⟩,
 ⟨none,.mk (Xx (CF Tryz.prog 22)),[.loc 0,.loc 0],.push,[]⟩,
 ⟨none,.p1 some,[.loc 0],(.set 2),[]⟩]
def WJ:List AA:=[
 ⟨none,.r (fun s l=>match l with | [x]=>BZ Tryz.prog s 22 x | _=>none),[.var 2],.push,[]⟩,
 ⟨none,.p2 (AT Tryz.prog .sub 3),[(.loc 0),(.const (.int .i64 (1)))],.push,[]⟩,
 ⟨none,.p1 some,[.loc 0],(.set 10),[]⟩]
def P8:List AA:=[
 ⟨none,.p2 (AT Tryz.prog .geq 3),[(.var 10),(.const (.int .i64 (0)))],(.set 17),[]⟩]
def WK:List AA:=[
 ⟨none,.r (fun s l=>match l with | [x]=>BZ Tryz.prog s 22 x | _=>none),[.var 9],.push,[]⟩,
 ⟨none,.p2 (AT Tryz.prog .add 3),[.var 10,.loc 0],.push,[]⟩,
 ⟨none,.p2 (AT Tryz.prog .add 3),[(.loc 0),(.const (.int .i64 (1)))],.push,[]⟩,
 ⟨none,.r (A4 Tryz.prog 22 true true false),[.var 8,.var 10,.loc 0],.push,[]⟩,
 ⟨none,.p1 some,[.loc 0],(.set 11),[]⟩]
def WL:List AA:=[
 ⟨none,.call 96,[.var 11,.var 9],.push,[]⟩,
 ⟨none,.p1 some,[.loc 0],(.set 12),[]⟩]
def WM:List AA:=[
 ⟨none,.call 97,[.var 11,.var 9,.var 12],(.set 18),[]⟩]
def WO:List AA:=[
 ⟨none,.call 98,[.var 11,.var 9],.push,[]⟩]
def WP:List AA:=[
 ⟨none,.p1 some,[.var 12],.push,[]⟩,
 ⟨none,.p2 (AT Tryz.prog .sub 69),[(.loc 0),(.const (.int .u64 (1)))],.push,[]⟩,
 ⟨none,.p1 some,[.loc 0],(.set 12),[]⟩]
def P9:List AA:=[
 ⟨none,.r1 (fun s x=>As Tryz.prog s 69 76 x),[.var 12],.push,[]⟩,
 ⟨none,.p2 (AM Tryz.prog 22),[.var 2,.var 10],.push,[]⟩,
 ⟨none,.e (fun s=>Xx (fun a x=>Xz (AK Tryz.prog s 76 a x))),[.loc 0,.loc 1],.push,[]⟩]
def QB:List AA:=[
 ⟨none,.p1 some,[.var 10],.push,[]⟩,
 ⟨none,.p2 (AT Tryz.prog .sub 3),[(.loc 0),(.const (.int .i64 (1)))],.push,[]⟩,
 ⟨none,.p1 some,[.loc 0],(.set 10),[]⟩]
def Ic:Af:=(.seq (.seq (.ops P8) (.cond (.var 17)
 .skip
 (.exit 3))) (.seq (.block 4 (.seq (.ops WK) (.seq (.ops WL) (.seq (.seq (.ops WM) (.cond (.var 18)
 (.seq (.ops WO) (.ops WP))
 .skip)) (.ops P9))))) (.ops QB)))
def WQ:List AA:=[
 ⟨none,.p2 (AT Tryz.prog .shl 69),[(.const (.int .u64 (1))),(.var 7)],.push,[]⟩,
 ⟨none,.call 94,[.var 8,.loc 0],.push,[]⟩,
 ⟨none,.p1 (fun x=>Za x 0),[.loc 0],.push,[]⟩,
 ⟨none,.p1 (fun x=>Za x 1),[.loc 1],.push,[]⟩,
 ⟨none,.p1 some,[.loc 1],(.set 3),[]⟩]
def WS:List AA:=[
 ⟨none,.p1 some,[.var 2],.push,[]⟩,
 ⟨none,.call 92,[.loc 0],.push,[]⟩,
 ⟨none,.p1 some,[.var 3],.push,[]⟩,
 ⟨none,.p1 some,[.loc 1],(.set 2),[]⟩,
 ⟨none,.p1 some,[.loc 0],(.set 3),[]⟩,
 ⟨none,.p1 some,[(.const (.int .i64 (0)))],(.set 4),[]⟩]
def nF:Ao:=⟨2,19,(.seq (.ops dW) (.seq (.ops dX) (.seq (.block 0 (.seq (.ops WN) (.cond (.var 13)
 (.seq (.ops dY) .ret)
 (.seq (.ops dZ) (.cond (.var 14)
 (.seq (.ops dc) .ret)
 (.seq (.ops WT) (.cond (.var 15)
 (.seq (.ops df) (.seq (.ops dg) .ret))
 .skip))))))) (.seq (.ops dh) (.seq (.block 1 (.loop KF)) (.seq (.ops WG) (.seq (.ops WH) (.seq (.seq (.ops WJ) (.block 3 (.loop Ic))) (.seq (.ops WQ) (.seq (.ops WS) .ret)))))))))),[((.var 2),none),((.var 3),none),((.var 4),none)]⟩
def dR:List AA:=[
 ⟨none,.p1 some,[(.const (.slice none 0 (some 0)))],(.set 2),[]⟩]
def dS:List AA:=[
 ⟨none,.p1 some,[.var 0],.push,[]⟩,
 ⟨none,.call 92,[.loc 0],.push,[]⟩,
 ⟨none,.p1 some,[.var 1],.push,[]⟩,
 ⟨none,.call 92,[.loc 0],.push,[]⟩,
 ⟨none,.p1 some,[.loc 2],(.set 0),[]⟩,
 ⟨none,.p1 some,[.loc 0],(.set 1),[]⟩]
def WD:List AA:=[
 ⟨none,.r (fun s l=>match l with | [x]=>BZ Tryz.prog s 22 x | _=>none),[.var 1],.push,[]⟩,
 ⟨none,.p2 (AT Tryz.prog .gtr 3),[(.loc 0),(.const (.int .i64 (0)))],(.set 4),[]⟩]
def dT:List AA:=[
 ⟨none,.call 50,[.var 0,.var 1],.push,[]⟩,
 ⟨none,.p1 (fun x=>Za x 0),[.loc 0],.push,[]⟩,
 ⟨none,.p1 (fun x=>Za x 1),[.loc 1],.push,[]⟩,
 ⟨none,.p1 (fun x=>Za x 2),[.loc 2],.push,[]⟩,
 ⟨none,.p1 some,[.loc 2],.push,[]⟩,
 ⟨none,.p1 some,[.loc 2],(.set 3),[]⟩,
 ⟨none,.p1 some,[.loc 1],.push,[]⟩]
def dU:List AA:=[
 ⟨none,.p1 some,[.var 1],.push,[]⟩,
 ⟨none,.p1 some,[.loc 0],(.set 0),[]⟩,
 ⟨none,.p1 some,[.var 3],(.set 1),[]⟩]
def OF:Af:=(.seq (.seq (.ops WD) (.cond (.var 4)
 .skip
 (.exit 0))) (.block 1 (.seq (.ops dT) (.ops dU))))
def dV:List AA:=[
 ⟨none,.p1 some,[.var 0],(.set 2),[]⟩]
def nE:Ao:=⟨2,5,(.seq (.ops dR) (.seq (.ops dS) (.seq (.block 0 (.loop OF)) (.seq (.ops dV) .ret)))),[((.var 2),none)]⟩
def di:List AA:=[
 ⟨none,.p1 some,[(.const (.slice none 0 (some 0)))],(.set 2),[]⟩]
def dk:List AA:=[
 ⟨none,.r (fun s l=>match l with | [x]=>BZ Tryz.prog s 22 x | _=>none),[.var 0],.push,[]⟩,
 ⟨none,.r (fun s l=>match l with | [x]=>BZ Tryz.prog s 22 x | _=>none),[.var 1],.push,[]⟩,
 ⟨none,.p2 (AT Tryz.prog .add 3),[.loc 1,.loc 0],.push,[]⟩,
 ⟨none,.mk (Xx (CF Tryz.prog 22)),[.loc 0,.loc 0],.push,[]⟩,
 ⟨none,.p1 some,[.loc 0],(.set 3),[]⟩]
def dm:List AA:=[
 ⟨none,.p1 some,[.var 0],(.set 9),[]⟩,
 ⟨none,.r (fun s l=>match l with | [x]=>BZ Tryz.prog s 22 x | _=>none),[.var 9],(.set 10),[]⟩,
 ⟨none,.p1 some,[(.const (.int .i64 (0)))],(.set 11),[]⟩]
def Wi:List AA:=[
 ⟨none,.p2 (AT Tryz.prog .lss 3),[.var 11,.var 10],(.set 12),[]⟩]
def dr:List AA:=[
 ⟨none,.p2 (AM Tryz.prog 22),[.var 9,.var 11],.push,[]⟩,
 ⟨none,.r1 (fun s a=>AC Tryz.prog s 76 a),[.loc 0],.push,[]⟩,
 ⟨none,.p1 some,[.var 11],(.set 4),[]⟩,
 ⟨none,.p1 some,[.loc 0],(.set 5),[]⟩]
def du:List AA:=[
 ⟨none,.p1 some,[(.const (.int .u64 (0)))],(.set 6),[]⟩]
def dv:List AA:=[
 ⟨none,.p1 some,[.var 1],(.set 13),[]⟩,
 ⟨none,.r (fun s l=>match l with | [x]=>BZ Tryz.prog s 22 x | _=>none),[.var 13],(.set 14),[]⟩,
 ⟨none,.p1 some,[(.const (.int .i64 (0)))],(.set 15),[]⟩]
def Wj:List AA:=[
 ⟨none,.p2 (AT Tryz.prog .lss 3),[.var 15,.var 14],(.set 16),[]⟩]
def dw:List AA:=[
 ⟨none,.p2 (AM Tryz.prog 22),[.var 13,.var 15],.push,[]⟩,
 ⟨none,.r1 (fun s a=>AC Tryz.prog s 76 a),[.loc 0],.push,[]⟩,
 ⟨none,.p1 some,[.var 15],(.set 7),[]⟩,
 ⟨none,.p1 some,[.loc 0],(.set 8),[]⟩]
def dx:List AA:=[
 ⟨none,.p1 some,[.var 6],.push,[]⟩,
 ⟨none,.r1 (fun s x=>As Tryz.prog s 76 69 x),[.var 5],.push,[]⟩,
 ⟨none,.r1 (fun s x=>As Tryz.prog s 76 69 x),[.var 8],.push,[]⟩,
 ⟨none,.p2 (AT Tryz.prog .mul 69),[.loc 1,.loc 0],.push,[]⟩,
 ⟨none,.p2 (AT Tryz.prog .add 3),[.var 4,.var 7],.push,[]⟩,
 ⟨none,.p2 (AM Tryz.prog 22),[.var 3,.loc 0],.push,[]⟩,
 ⟨none,.r1 (fun s a=>AC Tryz.prog s 76 a),[.loc 0],.push,[]⟩,
 ⟨none,.r1 (fun s x=>As Tryz.prog s 76 69 x),[.loc 0],.push,[]⟩,
 ⟨none,.p2 (AT Tryz.prog .add 69),[.loc 4,.loc 0],.push,[]⟩,
 ⟨none,.p2 (AT Tryz.prog .add 69),[.loc 8,.loc 0],.push,[]⟩,
 ⟨none,.p1 some,[.loc 0],(.set 6),[]⟩]
def WU:List AA:=[
 ⟨none,.p2 (AT Tryz.prog .add 3),[.var 4,.var 7],.push,[]⟩,
 ⟨none,.p2 (AT Tryz.prog .and 69),[(.var 6),(.const (.int .u64 (4294967295)))],.push,[]⟩,
 ⟨none,.r1 (fun s x=>As Tryz.prog s 69 76 x),[.loc 0],.push,[]⟩,
 ⟨none,.p2 (AM Tryz.prog 22),[.var 3,.loc 2],.push,[]⟩,
 ⟨none,.e (fun s=>Xx (fun a x=>Xz (AK Tryz.prog s 76 a x))),[.loc 0,.loc 1],.push,[]⟩]
def WV:List AA:=[
 ⟨none,.p1 some,[.var 6],.push,[]⟩,
 ⟨none,.p2 (AT Tryz.prog .shr 69),[(.loc 0),(.const (.int .u64 (32)))],.push,[]⟩,
 ⟨none,.p1 some,[.loc 0],(.set 6),[]⟩]
def WX:List AA:=[
 ⟨none,.p2 (AT Tryz.prog .add 3),[(.var 15),(.const (.int .i64 (1)))],.push,[]⟩,
 ⟨none,.p1 some,[.loc 0],(.set 15),[]⟩]
def KG:Af:=(.seq (.ops Wj) (.seq (.cond (.var 16)
 .skip
 (.exit 2)) (.seq (.block 3 (.seq (.ops dw) (.seq (.ops dx) (.seq (.ops WU) (.ops WV))))) (.ops WX))))
def WY:List AA:=[
 ⟨none,.r (fun s l=>match l with | [x]=>BZ Tryz.prog s 22 x | _=>none),[.var 1],.push,[]⟩,
 ⟨none,.p2 (AT Tryz.prog .add 3),[.var 4,.loc 0],.push,[]⟩,
 ⟨none,.r1 (fun s x=>As Tryz.prog s 69 76 x),[.var 6],.push,[]⟩,
 ⟨none,.p2 (AM Tryz.prog 22),[.var 3,.loc 1],.push,[]⟩,
 ⟨none,.e (fun s=>Xx (fun a x=>Xz (AK Tryz.prog s 76 a x))),[.loc 0,.loc 1],.push,[]⟩]
def WZ:List AA:=[
 ⟨none,.p2 (AT Tryz.prog .add 3),[(.var 11),(.const (.int .i64 (1)))],.push,[]⟩,
 ⟨none,.p1 some,[.loc 0],(.set 11),[]⟩]
def KH:Af:=(.seq (.ops Wi) (.seq (.cond (.var 12)
 .skip
 (.exit 0)) (.seq (.block 1 (.seq (.ops dr) (.seq (.ops du) (.seq (.seq (.ops dv) (.block 2 (.loop KG))) (.ops WY))))) (.ops WZ))))
def Wh:List AA:=[
 ⟨none,.call 92,[.var 3],.push,[]⟩,
 ⟨none,.p1 some,[.loc 0],(.set 2),[]⟩]
def nG:Ao:=⟨2,17,(.seq (.ops di) (.seq (.ops dk) (.seq (.seq (.ops dm) (.block 0 (.loop KH))) (.seq (.ops Wh) .ret)))),[((.var 2),none)]⟩
theorem XP:AN Tryz.prog 92=some mG:=by kernel_rfl
theorem SX:AN Tryz.prog 136=some Ze:=by kernel_rfl
theorem im:AN Tryz.prog 48=some nD:=by kernel_rfl
theorem jJ:AN Tryz.prog 93=some nY:=by kernel_rfl
theorem Zx:AN Tryz.prog 137=some kK:=by kernel_rfl
theorem jL:AN Tryz.prog 95=some ne:=by kernel_rfl
theorem jK:AN Tryz.prog 94=some nZ:=by kernel_rfl
theorem jM:AN Tryz.prog 96=some nf:=by kernel_rfl
theorem jN:AN Tryz.prog 97=some ng:=by kernel_rfl
theorem jO:AN Tryz.prog 98=some nh:=by kernel_rfl
theorem iq:AN Tryz.prog 50=some nF:=by kernel_rfl
theorem ip:AN Tryz.prog 49=some nE:=by kernel_rfl
theorem ir:AN Tryz.prog 51=some nG:=by kernel_rfl
end
end Go.Proofs.YtjnkfbpadpmakaaGreatDoor.Am
set_option linter.unusedVariables false
namespace Go.Proofs.YtjnkfbpadpmakaaGreatDoor.Am
noncomputable section
def LB:Nat:=4294967296
theorem BF:0<LB:=by decide
def AG:List Nat→Nat
 | []=>0
 | x::l=>x+LB * AG l
def Bl(l:List Nat):Prop:=∀x∈l,x<LB
def AR(n:Nat):List Nat:=if h:n=0 then []else n % LB::AR (n / LB)
termination_by n
decreasing_by exact Nat.div_lt_self (by omega) (by decide)
theorem BM:AR 0=[]:=by rw[AR];rfl
theorem EW{n:Nat}(h:n≠0):AR n=n % LB::AR (n / LB):=by rw[AR,dif_neg h]
theorem Cg{n:Nat}(h:n≠0):AR n≠[]:=by rw[EW h];exact fun e=>by cases e
theorem Ah(n:Nat):AG (AR n)=n:=by
 induction n using Nat.strongRecOn with
 | _ n ih =>
  by_cases h:n=0
  ·rw[h,BM];rfl
  ·rw[EW h]
   show n % LB+LB * AG (AR (n / LB))=n
   rw[ih (n / LB) (Nat.div_lt_self (by omega) (by decide))]
   exact qG n LB
theorem Ae(n:Nat):Bl (AR n):=by
 induction n using Nat.strongRecOn with
 | _ n ih =>
  by_cases h:n=0
  ·rw[h,BM];intro x hx;cases hx
  ·rw[EW h]
   intro x hx
   rcases List.mem_cons.1 hx with e | e
   ·rw[e];exact oT _ BF
   ·exact ih (n / LB) (Nat.div_lt_self (by omega) (by decide)) x e
def DY:List Nat→List Nat
 | []=>[]
 | x::l=>if x=0∧DY l=[]then []else x::DY l
theorem Bl.tail{x:Nat}{l:List Nat}(h:Bl (x::l)):Bl l:=fun y hy=>h y (oN _ hy)
theorem Bq      : ∀ {l : List Nat}, Bl  l → DY    l = AR    (AG   l)
  | [],_=>by rw[DY,AG,BM]
  | x::l,h=>by
    have ih:=Bq h.tail
    have hx:=h x oK
    unfold DY
    show(if x=0∧DY l=[]then []else x::DY l)=AR (x+LB * AG l)
    by_cases hz:x+LB * AG l=0
    · have h1 : x = 0 := by omega
      have h2:AG l=0:=by
        have:LB * AG l=0:=by omega
        rcases Nat.mul_eq_zero.1 this with q | q
        · exact absurd q (by decide)
        · exact q
      rw[if_pos ⟨h1,by rw[ih,h2,BM]⟩,hz,BM]
    · rw[EW hz]
      have hm:(x+LB * AG l) % LB=x:=by rw[Nat.add_mul_mod_self_left,oe hx]
      have hd:(x+LB * AG l) / LB=AG l:=by rw[Nat.add_mul_div_left _ _ BF,pe hx,oG]
      rw[hm,hd]
      rw[if_neg,ih]
      rintro⟨q1,q2⟩
      rw[ih]at q2
      by_cases hv:AG l=0
      · rw[q1,hv]at hz;exact hz rfl
      · exact Cg hv q2
theorem BN:∀ (a b:List Nat),AG (a++b)=AG a+LB ^ a.length * AG b
 | [],b=>by simp[AG]
 | x::a,b=>by
  show x+LB * AG (a++b)=x+LB * AG a+LB ^ (a.length+1) * AG b
  rw[BN a b,oW,pE,← oR,oJ LB (LB ^ a.length)]
  omega
theorem Cb:∀ {l:List Nat},Bl l→AG l<LB ^ l.length
 | [],_=>by simp[AG]
 | x::l,h=>by
  have ih:=Cb h.tail
  have hx:=h x oK
  show x+LB * AG l<LB ^ (l.length+1)
  rw[pE,oJ (LB ^ l.length) LB]
  have:LB * (AG l+1)≤LB * LB ^ l.length:=oZ LB ih
  rw[oW]at this
  omega
theorem Tj{a b:Nat}(h:AR a=AR b):a=b:=by rw[← Ah a,h,Ah]
def JZ:List Nat→Nat→Nat→List Nat
 | [],_,c=>[c]
 | y::a,x,c=>(c+x * y) % LB::JZ a x ((c+x * y) / LB)
theorem Jf:∀ (a:List Nat)(x c:Nat),AG (JZ a x c)=AG a * x+c
 | [],x,c=>by simp[JZ,AG]
 | y::a,x,c=>by
  have h1:=Jf a x ((c+x * y) / LB)
  have h2:=qG (c+x * y) LB
  show(c+x * y) % LB+LB * AG (JZ a x ((c+x * y) / LB))=(y+LB * AG a) * x+c
  rw[h1,oW,oQ,oJ y x,oR]
  omega
def Bw(a b:List Nat):List (Nat×Nat):=(List.range (max a.length b.length)).map fun i=>(a.getD i 0,b.getD i 0)
theorem Gz(k:Nat):AG (List.replicate k 0)=0:=by
 induction k with
 | zero=>rfl
 | succ k ih =>
  rw[List.replicate_succ]
  show 0+LB * AG (List.replicate k 0)=0
  rw[ih];rfl
theorem YT{a:List Nat}{n:Nat}(h:a.length≤n):(List.range n).map (fun i=>a.getD i 0)=a++List.replicate (n - a.length) 0:=by
 refine List.ext_getElem (by simp;omega) fun i h1 h2=>?_
 simp only[List.getElem_map,List.getElem_range]
 by_cases hi:i<a.length
 ·rw[List.getElem_append_left hi,qH,nr hi];rfl
 ·rw[List.getElem_append_right (by omega),List.getElem_replicate,qH,oF (by omega)];rfl
theorem TD(a:List Nat)(k:Nat):AG (a++List.replicate k 0)=AG a:=by rw[BN,Gz];omega
theorem TC(a b:List Nat):AG ((Bw a b).map Prod.fst)=AG a:=by
 unfold Bw
 rw[pj]
 have:=YT (a:=a) (n:=max a.length b.length) (by omega)
 show AG ((List.range _).map fun i=>a.getD i 0)=_
 rw[this,TD]
theorem TE(a b:List Nat):AG ((Bw a b).map Prod.snd)=AG b:=by
 unfold Bw
 rw[pj]
 have:=YT (a:=b) (n:=max a.length b.length) (by omega)
 show AG ((List.range _).map fun i=>b.getD i 0)=_
 rw[this,TD]
def D1:List (Nat×Nat)→Nat→List Nat×Nat
 | [],c=>([],c)
 | p::P,c=>((p.1+p.2+c) % LB::(D1 P ((p.1+p.2+c) / LB)).1,(D1 P ((p.1+p.2+c) / LB)).2)
theorem J4:∀ (P:List (Nat×Nat))(c:Nat),AG (D1 P c).1+LB ^ P.length * (D1 P c).2=AG (P.map Prod.fst)+AG (P.map Prod.snd)+c
 | [],c=>by simp[D1,AG]
 | p::P,c=>by
  have h1:=J4 P ((p.1+p.2+c) / LB)
  have h2:=qG (p.1+p.2+c) LB
  show(p.1+p.2+c) % LB+LB * AG (D1 P ((p.1+p.2+c) / LB)).1+LB ^ (P.length+1) * (D1 P ((p.1+p.2+c) / LB)).2=p.1+LB * AG (P.map Prod.fst)+(p.2+LB * AG (P.map Prod.snd))+c
  have h3:LB ^ (P.length+1) * (D1 P ((p.1+p.2+c) / LB)).2=LB * (LB ^ P.length * (D1 P ((p.1+p.2+c) / LB)).2):=by rw[pE,oJ (LB ^ P.length) LB,oR]
  rw[h3]
  have h4:=congrArg (LB * ·) h1
  simp only[oW]at h4
  omega
theorem Hk:∀ (P:List (Nat×Nat))(c:Nat),(D1 P c).1.length=P.length
 | [],_=>rfl
 | p::P,c=>by show(D1 P _).1.length+1=P.length+1;rw[Hk P]
theorem FV:∀ (P:List (Nat×Nat))(c:Nat),Bl (D1 P c).1
 | [],_=>fun x hx=>by cases hx
 | p::P,c=>fun x hx=>by
  rcases List.mem_cons.1 hx with e | e
  ·rw[e];exact oT _ BF
  ·exact FV P _ x e
def E8:List (Nat×Nat)→Nat→List Nat×Nat
 | [],c=>([],c)
 | p::P,c=>((p.1+LB - p.2 - c) % LB::(E8 P (if p.1<p.2+c then 1 else 0)).1,(E8 P (if p.1<p.2+c then 1 else 0)).2)
theorem Pb:∀ (P:List (Nat×Nat))(c:Nat),(∀p∈P,p.1<LB∧p.2<LB)→c≤1→AG (P.map Prod.fst)+LB ^ P.length * (E8 P c).2=AG (E8 P c).1+AG (P.map Prod.snd)+c
 | [],c,_,_=>by simp[E8,AG]
 | p::P,c,h,hc=>by
  obtain⟨hp1,hp2⟩:=h p oK
  have hB:LB=4294967296:=rfl
  generalize hd:(if p.1<p.2+c then 1 else 0)=d
  have HN:d≤1:=by rw[← hd];split<;>omega
  have h1:=Pb P d (fun q hq=>h q (oN _ hq)) HN
  have h2:(p.1+LB - p.2 - c) % LB+p.2+c=p.1+LB * d:=by
   rw[← hd]
   rw[hB]at hp1 hp2 ⊢
   split<;>omega
  show p.1+LB * AG (P.map Prod.fst)+LB ^ (P.length+1) * (E8 P (if p.1<p.2+c then 1 else 0)).2=(p.1+LB - p.2 - c) % LB+LB * AG (E8 P (if p.1<p.2+c then 1 else 0)).1+(p.2+LB * AG (P.map Prod.snd))+c
  rw[hd]
  have h3:LB ^ (P.length+1) * (E8 P d).2=LB * (LB ^ P.length * (E8 P d).2):=by rw[pE,oJ (LB ^ P.length) LB,oR]
  rw[h3]
  have h4:=congrArg (LB * ·) h1
  simp only[oW]at h4
  omega
theorem Td{U V T v1 v2 q g left top u2:Nat}{P:Nat}(hU:U<(top * LB+u2+1) * P)(hV:(v1 * LB+v2) * P≤V)(hq:q * V≤U)(hg:g * v1+left=top)(hgt:left * LB+u2<g * v2):q<g:=by
 rcases nm q g with h | h
 ·exact h
 ·exfalso
  have h1:g * V≤U:=ny (oC V h) hq
  have h2:g * ((v1 * LB+v2) * P)≤U:=ny (oZ g hV) h1
  have h3:g * (v1 * LB+v2)=g * v1 * LB+g * v2:=by rw[oW,oR]
  have h4:top * LB=g * v1 * LB+left * LB:=by rw[← hg,oQ]
  have h5:top * LB+u2+1≤g * (v1 * LB+v2):=by omega
  have h6:(top * LB+u2+1) * P≤g * (v1 * LB+v2) * P:=oC P h5
  rw[← oR]at h2
  omega
theorem QT{U V v1 v2 q g left top u2:Nat}{P:Nat}(hP:0<P)(hU:(top * LB+u2) * P≤U)(hV:V<(v1 * LB+v2+1) * P)(hq:U<(q+1) * V)(hg:g * v1+left=top)(hle:g * v2≤left * LB+u2)(hgB:g<LB)(hv1:1≤v1):g≤q+1:=by
 rcases nm (q+1) g with h | h
 ·exfalso
  have h0:q+1≤g - 1:=by omega
  have h1:U<(g - 1) * ((v1 * LB+v2+1) * P):=by
   have a1:(q+1) * V≤(g - 1) * V:=oC V h0
   have a2:(g - 1) * V≤(g - 1) * ((v1 * LB+v2+1) * P):=oZ _ (Nat.le_of_lt hV)
   omega
  rw[← oR]at h1
  have h2:(top * LB+u2) * P<(g - 1) * (v1 * LB+v2+1) * P:=om hU h1
  have h3:top * LB+u2<(g - 1) * (v1 * LB+v2+1):=p4 h2
  have h4:top * LB=g * v1 * LB+left * LB:=by rw[← hg,oQ]
  have h5:g * (v1 * LB+v2)=g * v1 * LB+g * v2:=by rw[oW,oR]
  have h6:(g - 1) * (v1 * LB+v2+1)=(g - 1) * (v1 * LB+v2)+(g - 1):=by rw[oW,oD]
  have h7:g * (v1 * LB+v2)=(g - 1) * (v1 * LB+v2)+(v1 * LB+v2):=by
   obtain⟨k,rfl⟩:∃k,g=k+1:=⟨g - 1,by omega⟩
   rw[qI,oH]
  have h8:LB≤v1 * LB:=Nat.le_mul_of_pos_left LB hv1
  omega
 ·exact h
def B6(q:Nat):List (Nat×Nat)→Nat→Nat→List Nat×Nat×Nat
 | [],c,br=>([],c,br)
 | p::P,c,br =>
  let r:=B6 q P ((c+q * p.2) / LB) (if p.1<(c+q * p.2) % LB+br then 1 else 0)
  ((p.1+LB - (c+q * p.2) % LB - br) % LB::r.1,r.2.1,r.2.2)
theorem Ma(q:Nat):∀ (P:List (Nat×Nat))(c br:Nat),(∀p∈P,p.1<LB)→br≤1 →
  AG (P.map Prod.fst)+LB ^ P.length * ((B6 q P c br).2.1+(B6 q P c br).2.2)=AG (B6 q P c br).1+q * AG (P.map Prod.snd)+c+br
 | [],c,br,_,_=>by simp[B6,AG]
 | p::P,c,br,h,hb=>by
  have hp:=h p oK
  have hB:LB=4294967296:=rfl
  generalize hc1:c+q * p.2=c1
  have hm:c1 % LB<LB:=oT _ BF
  have hdm:=qG c1 LB
  generalize hd:(if p.1<c1 % LB+br then 1 else 0)=d
  have HN:d≤1:=by rw[← hd];split<;>omega
  have ih:=Ma q P (c1 / LB) d (fun q hq=>h q (oN _ hq)) HN
  have h2:(p.1+LB - c1 % LB - br) % LB+c1 % LB+br=p.1+LB * d:=by
   rw[← hd]
   generalize c1 % LB=m at hm
   rw[hB]at hp hm ⊢
   split<;>omega
  show p.1+LB * AG (P.map Prod.fst)+LB ^ (P.length+1) * ((B6 q P ((c+q * p.2) / LB) (if p.1<(c+q * p.2) % LB+br then 1 else 0)).2.1+(B6 q P ((c+q * p.2) / LB) (if p.1<(c+q * p.2) % LB+br then 1 else 0)).2.2)=(p.1+LB - (c+q * p.2) % LB - br) % LB+LB * AG (B6 q P ((c+q * p.2) / LB) (if p.1<(c+q * p.2) % LB+br then 1 else 0)).1+q * (p.2+LB * AG (P.map Prod.snd))+c+br
  rw[hc1,hd]
  have h3:∀z,LB ^ (P.length+1) * z=LB * (LB ^ P.length * z):=fun z=>by rw[pE,oJ (LB ^ P.length) LB,oR]
  rw[h3]
  have h4:=congrArg (LB * ·) ih
  simp only[oW]at h4 ⊢
  have h5:q * (LB * AG (P.map Prod.snd))=LB * (q * AG (P.map Prod.snd)):=by rw[Nat.mul_left_comm]
  rw[h5]
  omega
def FJ(x:Nat):List (Nat×Nat)→Nat→List Nat×Nat
 | [],c=>([],c)
 | p::P,c=>((c+(x * p.1+p.2)) % LB::(FJ x P ((c+(x * p.1+p.2)) / LB)).1,(FJ x P ((c+(x * p.1+p.2)) / LB)).2)
theorem Ou(x:Nat):∀ (P:List (Nat×Nat))(c:Nat),AG (FJ x P c).1+LB ^ P.length * (FJ x P c).2=x * AG (P.map Prod.fst)+AG (P.map Prod.snd)+c
 | [],c=>by simp[FJ,AG]
 | p::P,c=>by
  have ih:=Ou x P ((c+(x * p.1+p.2)) / LB)
  have hdm:=qG (c+(x * p.1+p.2)) LB
  show(c+(x * p.1+p.2)) % LB+LB * AG (FJ x P ((c+(x * p.1+p.2)) / LB)).1+LB ^ (P.length+1) * (FJ x P ((c+(x * p.1+p.2)) / LB)).2=x * (p.1+LB * AG (P.map Prod.fst))+(p.2+LB * AG (P.map Prod.snd))+c
  have h3:∀z,LB ^ (P.length+1) * z=LB * (LB ^ P.length * z):=fun z=>by rw[pE,oJ (LB ^ P.length) LB,oR]
  rw[h3]
  have h4:=congrArg (LB * ·) ih
  simp only[oW]at h4 ⊢
  have h5:x * (LB * AG (P.map Prod.fst))=LB * (x * AG (P.map Prod.fst)):=by rw[Nat.mul_left_comm]
  rw[h5]
  omega
theorem Ku(x:Nat):∀ (P:List (Nat×Nat))(c:Nat),(FJ x P c).1.length=P.length
 | [],_=>rfl
 | p::P,c=>by show(FJ x P _).1.length+1=P.length+1;rw[Ku x P]
theorem HP{x:Nat}(hx:x<LB):∀ {P:List (Nat×Nat)}{c:Nat},(∀p∈P,p.1<LB∧p.2<LB)→c<LB→(FJ x P c).2<LB∧Bl (FJ x P c).1
 | [],c,_,hc=>⟨hc,fun y hy=>by cases hy⟩
 | p::P,c,h,hc=>by
  obtain⟨h1,h2⟩:=h p oK
  have hd:(c+(x * p.1+p.2)) / LB<LB:=by
   rw[oz BF]
   have:x * p.1≤(LB - 1) * (LB - 1):=oq (by omega) (by omega)
   have hB:LB=4294967296:=rfl
   rw[hB]at this hc h2 ⊢
   omega
  obtain⟨i1,i2⟩:=HP (P:=P) (c:=(c+(x * p.1+p.2)) / LB) hx (fun r hr=>h r (oN _ hr)) hd
  refine⟨i1,fun y hy=>?_⟩
  rcases List.mem_cons.1 hy with e | e
  ·rw[e];exact oT _ BF
  ·exact i2 y e
def BG(x:Nat):List Nat→List Nat×Nat
 | []=>([],0)
 | y::l=>(((BG x l).2 * LB+y) / x::(BG x l).1,((BG x l).2 * LB+y) % x)
theorem Dt{x:Nat}(hx:0<x):∀l:List Nat,AG l=x * AG (BG x l).1+(BG x l).2∧(BG x l).2<x∧(BG x l).1.length=l.length
 | []=>⟨by simp[BG,AG],hx,rfl⟩
 | y::l=>by
  obtain⟨i1,i2,i3⟩:=Dt hx l
  have hdm:=qG ((BG x l).2 * LB+y) x
  refine⟨?_,oT _ hx,by show(BG x l).1.length+1=l.length+1;rw[i3]⟩
  show y+LB * AG l=x * (((BG x l).2 * LB+y) / x+LB * AG (BG x l).1)+((BG x l).2 * LB+y) % x
  rw[i1]
  simp only[oW]
  have h5:x * (LB * AG (BG x l).1)=LB * (x * AG (BG x l).1):=by rw[Nat.mul_left_comm]
  have h6:LB * (BG x l).2=(BG x l).2 * LB:=oJ _ _
  rw[h5,h6]
  omega
theorem Fm{x:Nat}(hx:0<x):∀ {l:List Nat},Bl l→Bl (BG x l).1
 | [],_=>fun y hy=>by cases hy
 | y::l,h=>by
  obtain⟨i1,i2,i3⟩:=Dt hx l
  have hy:=h y oK
  intro z hz
  rcases List.mem_cons.1 hz with e | e
  ·rw[e,oz hx]
   have:((BG x l).2+1) * LB≤x * LB:=oC LB i2
   rw[oH]at this
   rw[oJ LB x]
   omega
  ·exact Fm hx h.tail z e
theorem UA{U V g D N br:Nat}(hV:0<V)(h1:U / V≤g)(h2:g≤U / V+1)(hD:D<N)(hbr:br≤1)(he:U+N * br=D+g * V):
  (br=0→g=U / V∧D=U % V)∧(br=1→g=U / V+1∧D+V=N+U % V):=by
 have hdm:=Nat.div_add_mod U V
 have hlt:=oT U hV
 have hc:V * (U / V)=U / V * V:=oJ _ _
 generalize hq:U / V=q at *
 generalize U % V=r at *
 refine⟨fun h0=>?_,fun h0=>?_⟩
 ·subst h0
  rcases nm q g with h | h
  ·exfalso
   have:g=q+1:=by omega
   rw[this,oH]at he
   omega
  ·have:g=q:=by omega
   refine⟨this,?_⟩
   rw[this]at he
   omega
 ·subst h0
  rcases nm q g with h | h
  ·have:g=q+1:=by omega
   refine⟨this,?_⟩
   rw[this,oH]at he
   omega
  ·exfalso
   have:g=q:=by omega
   rw[this]at he
   omega
theorem QM{V Q R u:Nat}{W:Nat}(hV:0<V)(hR:R<V)(hW:W=Q * V+R):(W * LB+u) / V=Q * LB+(R * LB+u) / V∧(W * LB+u) % V=(R * LB+u) % V:=by
 have e:W * LB+u=(R * LB+u)+V * (Q * LB):=by
  rw[hW,oQ,oR,Nat.mul_left_comm]
  omega
 rw[e]
 constructor
 ·rw[Nat.add_mul_div_left _ _ hV];omega
 ·rw[Nat.add_mul_mod_self_left]
end
end Go.Proofs.YtjnkfbpadpmakaaGreatDoor.Am
set_option linter.unusedVariables false
set_option linter.unusedSimpArgs false
namespace Go.Proofs.YtjnkfbpadpmakaaGreatDoor.Am
noncomputable section
theorem Bl.append{a b:List Nat}(ha:Bl a)(hb:Bl b):Bl (a++b):=fun x hx=>(List.mem_append.1 hx).elim (ha x) (hb x)
theorem H8(lo:List Nat)(x y:Nat):AG (lo++[x,y])=AG lo+LB ^ lo.length * (y * LB+x):=by
 rw[BN]
 show _+_ * (x+LB * (y+LB * 0))=_
 rw[pI,oM,oJ LB y,qJ x]
theorem Kq(lo:List Nat)(x y z:Nat):AG (lo++[x,y,z])=AG lo+LB ^ lo.length * ((z * LB+y) * LB+x):=by
 rw[BN]
 show _+_ * (x+LB * (y+LB * (z+LB * 0)))=_
 have:x+LB * (y+LB * (z+LB * 0))=(z * LB+y) * LB+x:=by
  rw[pI,oM,oJ LB z,qJ y,oJ LB,qJ x]
 rw[this]
structure F0(plo vlo:List Nat)(u2 u1 u0 v2 v1:Nat)(g left:Nat):Prop where
 len:plo.length=vlo.length
 sp:Bl plo
 sv:Bl vlo
 b2:u2<LB
 b1:u1<LB
 c2:v2<LB
 c1:v1<LB
 big:LB≤2 * v1
 lt:AG (plo++[u2,u1,u0])<AG (vlo++[v2,v1]) * LB
 sum:g * v1+left=u0 * LB+u1
 low:AG (plo++[u2,u1,u0]) / AG (vlo++[v2,v1])≤g
section
variable{plo vlo:List Nat}{u2 u1 u0 v2 v1 g left:Nat}
theorem F0.v_pos(h:F0 plo vlo u2 u1 u0 v2 v1 g left):0<AG (vlo++[v2,v1]):=by
 rw[H8]
 have h1:=h.big
 have:LB=4294967296:=rfl
 have h2:0<v1 * LB+v2:=by have:=pg (show 0<v1 by omega) BF;omega
 have:=pg (pK BF (n:=vlo.length)) h2
 omega
theorem F0.bounds(h:F0 plo vlo u2 u1 u0 v2 v1 g left):
  AG (plo++[u2,u1,u0])<((u0 * LB+u1) * LB+u2+1) * LB ^ vlo.length∧((u0 * LB+u1) * LB+u2) * LB ^ vlo.length≤AG (plo++[u2,u1,u0]) ∧
  AG (vlo++[v2,v1])<(v1 * LB+v2+1) * LB ^ vlo.length∧(v1 * LB+v2) * LB ^ vlo.length≤AG (vlo++[v2,v1]):=by
 have h1:=Cb h.sp
 have h2:=Cb h.sv
 rw[h.len]at h1
 rw[Kq,H8,h.len]
 generalize LB ^ vlo.length=P at *
 generalize (u0 * LB+u1) * LB+u2=X
 generalize v1 * LB+v2=Y
 have e1:(X+1) * P=P * X+P:=by rw[oH,oJ]
 have e2:(Y+1) * P=P * Y+P:=by rw[oH,oJ]
 have e3:X * P=P * X:=oJ _ _
 have e4:Y * P=P * Y:=oJ _ _
 omega
theorem F0.start(len:plo.length=vlo.length)(sp:Bl plo)(sv:Bl vlo)(b2:u2<LB)(b1:u1<LB)(c2:v2<LB)(c1:v1<LB)(big:LB≤2 * v1)
  (lt:AG (plo++[u2,u1,u0])<AG (vlo++[v2,v1]) * LB):F0 plo vlo u2 u1 u0 v2 v1 ((u0 * LB+u1) / v1) ((u0 * LB+u1) % v1):=by
 have hB:LB=4294967296:=rfl
 have hv1:0<v1:=by omega
 have hs:(u0 * LB+u1) / v1 * v1+(u0 * LB+u1) % v1=u0 * LB+u1:=by rw[oJ];exact Nat.div_add_mod _ _
 have h0:F0 plo vlo u2 u1 u0 v2 v1 (AG (plo++[u2,u1,u0]) / AG (vlo++[v2,v1])) (u0 * LB+u1 - AG (plo++[u2,u1,u0]) / AG (vlo++[v2,v1]) * v1)∨True:=.inr trivial
 refine⟨len,sp,sv,b2,b1,c2,c1,big,lt,hs,?_⟩
 have hP:0<LB ^ vlo.length:=pK BF
 have h1:=Cb sp
 rw[len]at h1
 have hV:v1 * LB * LB ^ vlo.length≤AG (vlo++[v2,v1]):=by
  rw[H8,oJ (v1 * LB),oW]
  omega
 rw[Nat.le_div_iff_mul_le hv1]
 generalize hq:AG (plo++[u2,u1,u0]) / AG (vlo++[v2,v1])=q
 have hqV:q * AG (vlo++[v2,v1])≤AG (plo++[u2,u1,u0]):=by rw[← hq];exact Nat.div_mul_le_self _ _
 have h2:q * (v1 * LB * LB ^ vlo.length)≤AG (plo++[u2,u1,u0]):=ny (oZ q hV) hqV
 have h3:AG (plo++[u2,u1,u0])<((u0 * LB+u1) * LB+LB) * LB ^ vlo.length:=by
  rw[Kq,len]
  have h4:(u0 * LB+u1) * LB+u2+1≤(u0 * LB+u1) * LB+LB:=by omega
  have h5:=oC (LB ^ vlo.length) h4
  rw[oH,oJ _ (LB ^ vlo.length)]at h5
  omega
 have h6:q * v1 * LB * LB ^ vlo.length<((u0 * LB+u1) * LB+LB) * LB ^ vlo.length:=by
  have e:q * (v1 * LB * LB ^ vlo.length)=q * v1 * LB * LB ^ vlo.length:=by rw[oR,oR,oR]
  omega
 have h7:q * v1 * LB<(u0 * LB+u1) * LB+LB:=p4 h6
 have h8:q * v1 * LB<(u0 * LB+u1+1) * LB:=by rw[oH];exact h7
 have:=p4 h8
 omega
theorem F0.dec(h:F0 plo vlo u2 u1 u0 v2 v1 g left)(hc:LB≤g∨left * LB+u2<g * v2):1≤g∧F0 plo vlo u2 u1 u0 v2 v1 (g - 1) (left+v1):=by
 obtain⟨b1,b2,b3,b4⟩:=h.bounds
 have hlt:AG (plo++[u2,u1,u0]) / AG (vlo++[v2,v1])<g:=by
  rcases hc with hc | hc
  ·exact ns ((oz h.v_pos).2 (by rw[oJ];exact h.lt)) hc
  ·exact Td (T:=0) b1 b4 (Nat.div_mul_le_self _ _) h.sum hc
 have hle:AG (plo++[u2,u1,u0]) / AG (vlo++[v2,v1])≤g - 1:=Nat.le_sub_one_of_lt hlt
 have hg1:1≤g:=om (oB _) hlt
 refine⟨hg1,⟨h.len,h.sp,h.sv,h.b2,h.b1,h.c2,h.c1,h.big,h.lt,?_,hle⟩⟩
 clear hle hlt b1 b2 b3 b4
 obtain⟨k,rfl⟩:∃k,g=k+1:=⟨g - 1,by omega⟩
 have:=h.sum
 rw[oH]at this
 rw[qI]
 omega
theorem F0.done(h:F0 plo vlo u2 u1 u0 v2 v1 g left)(hg:g<LB)(hc:g * v2≤left * LB+u2):g≤AG (plo++[u2,u1,u0]) / AG (vlo++[v2,v1])+1:=by
 obtain⟨b1,b2,b3,b4⟩:=h.bounds
 have hq:AG (plo++[u2,u1,u0])<(AG (plo++[u2,u1,u0]) / AG (vlo++[v2,v1])+1) * AG (vlo++[v2,v1]):=by
  have:=Nat.div_add_mod (AG (plo++[u2,u1,u0])) (AG (vlo++[v2,v1]))
  have h2:=oT (AG (plo++[u2,u1,u0])) h.v_pos
  rw[oH,oJ]
  omega
 have hv1:1≤v1:=by have:=h.big;have:LB=4294967296:=rfl;omega
 exact QT (pK BF) b2 b3 hq h.sum hc hg hv1
theorem F0.top(h:F0 plo vlo u2 u1 u0 v2 v1 g left):u0≤v1:=by
 obtain⟨b1,b2,b3,b4⟩:=h.bounds
 have hP:0<LB ^ vlo.length:=pK BF
 have h1:((u0 * LB+u1) * LB+u2) * LB ^ vlo.length<(v1 * LB+v2+1) * LB ^ vlo.length * LB:=by
  have:=h.lt
  have h2:AG (vlo++[v2,v1]) * LB≤(v1 * LB+v2+1) * LB ^ vlo.length * LB:=oC LB (Nat.le_of_lt b3)
  omega
 have h3:(v1 * LB+v2+1) * LB ^ vlo.length * LB=(v1 * LB+v2+1) * LB * LB ^ vlo.length:=by rw[oR,oJ (LB ^ _),← oR]
 rw[h3]at h1
 have h4:=p4 h1
 have h5:(v1 * LB+v2+1) * LB≤(v1+1) * LB * LB:=oC LB (by rw[oH];have:=h.c2;omega)
 have h6:u0 * LB * LB≤(u0 * LB+u1) * LB:=oC LB (by omega)
 have h7:u0 * LB * LB<(v1+1) * LB * LB:=by omega
 have h8:=p4 (p4 h7)
 omega
end
theorem IT{q:Nat}(hq:q<LB){x:Nat}:∀ {P:List (Nat×Nat)}{c br:Nat},(∀p∈P,p.2<LB)→c<LB→(B6 q (P++[(x,0)]) c br).2.1=0
 | [],c,br,_,hc=>by
  show(c+q * 0) / LB=0
  rw[pI,oM,pe hc]
 | p::P,c,br,h,hc=>by
  have hp:=h p oK
  have hd:(c+q * p.2) / LB<LB:=by
   rw[oz BF]
   have:q * p.2≤(LB - 1) * (LB - 1):=oq (by omega) (by omega)
   have hB:LB=4294967296:=rfl
   rw[hB]at this hc ⊢
   omega
  exact IT (P:=P) (c:=(c+q * p.2) / LB) hq (fun r hr=>h r (oN _ hr)) hd
theorem GZ(q:Nat):∀ (P:List (Nat×Nat))(c br:Nat),Bl (B6 q P c br).1
 | [],_,_=>fun x hx=>by cases hx
 | p::P,c,br=>fun x hx=>by
  rcases List.mem_cons.1 hx with e | e
  ·rw[e];exact oT _ BF
  ·exact GZ q P _ _ x e
theorem I4(q:Nat):∀ (P:List (Nat×Nat))(c br:Nat),(B6 q P c br).1.length=P.length
 | [],_,_=>rfl
 | p::P,c,br=>by show(B6 q P _ _).1.length+1=P.length+1;rw[I4 q P]
theorem Pd(q:Nat):∀ (P:List (Nat×Nat))(c br:Nat),br≤1→(B6 q P c br).2.2≤1
 | [],_,_,h=>h
 | p::P,c,br,h=>Pd q P _ _ (by split<;>omega)
theorem Nq{a b:List Nat}(h:a.length=b.length):(a.zip b).map Prod.fst=a:=by
 rw[List.map_fst_zip];omega
theorem Nr{a b:List Nat}(h:a.length=b.length):(a.zip b).map Prod.snd=b:=by
 rw[List.map_snd_zip];omega
theorem MF(v:List Nat):AG (v++[0])=AG v:=by
 rw[BN]
 show _+_ * (0+LB * 0)=_
 simp
theorem XX       {p v : List Nat} (hl : p.length = v.length + 1) (hp : Bl  p) (hv : Bl  v) (hV : 0 < AG   v) {g : Nat} (h1 : AG   p / AG   v ≤ g) (h2 : g ≤ AG   p / AG   v + 1) (hg : g < LB) :
    ((B6 g (p.zip (v++[0])) 0 0).2.2=0→g=AG p / AG v∧AG (B6 g (p.zip (v++[0])) 0 0).1=AG p % AG v) ∧
    ((B6 g (p.zip (v++[0])) 0 0).2.2≠0→g=AG p / AG v+1∧AG (D1 ((B6 g (p.zip (v++[0])) 0 0).1.zip (v++[0])) 0).1=AG p % AG v):=by
  have hlz:p.length=(v++[0]).length:=by rw[oI];exact hl
  have hsm:∀q∈p.zip (v++[0]),q.1<LB∧q.2<LB:=fun q hq=>by
    have hz:=List.of_mem_zip (a:=q.1) (b:=q.2) hq
    refine⟨hp _ hz.1,?_⟩
    rcases List.mem_append.1 hz.2 with h | h
    · exact hv _ h
    · rw[List.mem_singleton.1 h];exact BF
  have hc:(B6 g (p.zip (v++[0])) 0 0).2.1=0:=by
    obtain⟨pl,x,rfl⟩:∃pl x,p=pl++[x]:=by
      rcases List.eq_nil_or_concat p with h | ⟨pl,x,h⟩
      · rw[h]at hl;simp at hl
      · exact⟨pl,x,by rw[h];simp⟩
    have hpl:pl.length=v.length:=by rw[oI]at hl;simpa using hl
    rw[List.zip_append hpl]
    exact IT hg (fun q hq=>hv _ (List.of_mem_zip (a:=q.1) (b:=q.2) hq).2) BF
  have hval:=Ma g (p.zip (v++[0])) 0 0 (fun q hq=>(hsm q hq).1) (oB _)
  have hbr:=Pd g (p.zip (v++[0])) 0 0 (oB _)
  have hlen:(p.zip (v++[0])).length=v.length+1:=by rw[p8,← hlz,Nat.min_self,hl]
  have hDl:=I4 g (p.zip (v++[0])) 0 0
  have hDs:=GZ g (p.zip (v++[0])) 0 0
  rw[Nq hlz,Nr hlz,MF,hc,hlen]at hval
  generalize B6 g (p.zip (v++[0])) 0 0=T at *
  obtain⟨D,c,br⟩:=T
  simp only at *
  rw[hlen]at hDl
  have hD:=Cb hDs
  rw[hDl]at hD
  have hVl:=Cb hv
  have hPow:LB ^ v.length≤LB ^ (v.length+1):=pm BF (ot _)
  have key:=UA (U:=AG p) (V:=AG v) (g:=g) (D:=AG D) (N:=LB ^ (v.length+1)) (br:=br) hV h1 h2 hD hbr (by
    generalize g * AG v=z at *
    generalize LB ^ (v.length+1)=N at *
    rw[oG]at hval
    omega)
  refine⟨fun h=>key.1 h,fun h=>?_⟩
  have hb1:br=1:=by omega
  obtain⟨k1,k2⟩:=key.2 hb1
  refine⟨k1,?_⟩
  have hlz2:D.length=(v++[0]).length:=by rw[oI,hDl];rfl
  have ha:=J4 (D.zip (v++[0])) 0
  rw[Nq hlz2,Nr hlz2,MF,p8,← hlz2,Nat.min_self,hDl]at ha
  have hs:=Cb (FV (D.zip (v++[0])) 0)
  rw[Hk,p8,← hlz2,Nat.min_self,hDl]at hs
  have hr:=oT (AG p) hV
  generalize AG (D1 (D.zip (v++[0])) 0).1=O at *
  generalize (D1 (D.zip (v++[0])) 0).2=c2 at *
  generalize hN:LB ^ (v.length+1)=N at *
  have hc2:c2=1:=by
    rcases nm c2 1 with h | h
    · have:c2=0:=by omega
      rw[this,pI]at ha
      omega
    · rcases nm           1 c2 with h' | h'
      · have:=oZ N h'
        omega
      · omega
  rw[hc2,oD]at ha
  omega
structure Pk(u0 v cu qs:List Nat)(i:Nat):Prop where
 len:cu.length=u0.length
 low:cu.take i=u0.take i
 sm:Bl cu
 rem:AG (cu.drop i)=AG (u0.drop i) % AG v
 qsm:Bl qs
 quo:AG (qs.drop i)=AG (u0.drop i) / AG v
theorem FH{l:List Nat}{i x:Nat}(h:l[i]? = some x):AG (l.drop i)=x+LB * AG (l.drop (i+1)):=by
 have hi:i<l.length:=by
  rcases nm i l.length with h' | h'
  ·exact h'
  ·rw[oF h']at h;cases h
 rw[ol hi]
 have:l[i]=x:=by rw[nr hi]at h;exact Option.some.inj h
 rw[this];rfl
theorem Bl.drop{l:List Nat}(h:Bl l)(i:Nat):Bl (l.drop i):=fun x hx=>h x (List.mem_of_mem_drop hx)
theorem Bl.take{l:List Nat}(h:Bl l)(i:Nat):Bl (l.take i):=fun x hx=>h x (List.mem_of_mem_take hx)
theorem Pk.part{u0 v cu qs:List Nat}{i:Nat}(h:Pk u0 v cu qs (i+1))(hv:Bl v)(hV:0<AG v)(hi:i+v.length+1≤cu.length):
  AG ((cu.drop i).take (v.length+1))=AG (cu.drop i)∧AG (cu.drop i)<AG v * LB∧AG (cu.drop (i+v.length+1))=0:=by
 have hx:cu[i]? = some cu[i]:=nr (by omega)
 generalize cu[i]=x at hx
 have hxs:=h.sm x (oP hx)
 have e1:=FH hx
 have hr:=oT (AG (u0.drop (i+1))) hV
 rw[← h.rem]at hr
 have hVl:=Cb hv
 have hsplit:cu.drop (i+1)=(cu.drop (i+1)).take v.length++cu.drop (i+v.length+1):=by
  have:=(pn v.length (cu.drop (i+1))).symm
  rw[pF]at this
  rw[show i+v.length+1=i+1+v.length by omega]
  exact this
 have hval:=congrArg AG hsplit
 rw[BN]at hval
 have htl:((cu.drop (i+1)).take v.length).length=v.length:=by rw[oO,oh];omega
 rw[htl]at hval
 have hz:AG (cu.drop (i+v.length+1))=0:=by
  rcases ow (AG (cu.drop (i+v.length+1)))with h0 | h0
  ·exact h0
  ·exfalso
   have:=oZ (LB ^ v.length) h0
   omega
 refine⟨?_,?_,hz⟩
 ·rw[e1]
  have hd:cu.drop i=x::cu.drop (i+1):=by
   rw[ol (show i<cu.length by omega)]
   have:cu[i]=x:=by rw[nr (by omega)]at hx;exact Option.some.inj hx
   rw[this]
  rw[hd,List.take_succ_cons]
  show x+LB * _=_
  rw[hval,hz]
  simp
 ·rw[e1]
  have:LB * (AG (cu.drop (i+1))+1)≤LB * AG v:=oZ LB hr
  rw[oJ (AG v)]
  rw[oW]at this
  omega
theorem Pk.step{u0 v cu qs:List Nat}{i:Nat}(h:Pk u0 v cu qs (i+1))(hv:Bl v)(hV:0<AG v)(hi:i+v.length+1≤cu.length)(hq:i<qs.length){D:List Nat}(hD:D.length=v.length+1)(hDs:Bl D)
  (hDv:AG D=AG ((cu.drop i).take (v.length+1)) % AG v) {x:Nat} (hx:x=AG ((cu.drop i).take (v.length+1)) / AG v):Pk u0 v (cu.take i++D++cu.drop (i+v.length+1)) (qs.set i x) i:=by
 obtain⟨p1,p2,p3⟩:=h.part hv hV hi
 rw[p1]at hDv hx
 have hu:cu[i]? = some cu[i]:=nr (by omega)
 generalize cu[i]=y at hu
 have hys:=h.sm y (oP hu)
 have hu0:u0[i]? = some y:=by
  have:=congrArg (fun l=>l[i]?) h.low
  simp only[pV (show i<i+1 by omega)]at this
  rw[← this];exact hu
 have e1:=FH hu
 have e2:=FH hu0
 have hR:=oT (AG (u0.drop (i+1))) hV
 have hW:AG (u0.drop (i+1))=AG (u0.drop (i+1)) / AG v * AG v+AG (u0.drop (i+1)) % AG v:=by
  have:=Nat.div_add_mod (AG (u0.drop (i+1))) (AG v)
  rw[oJ]at this
  exact this.symm
 have hds:=QM (V:=AG v) (Q:=AG (u0.drop (i+1)) / AG v) (R:=AG (u0.drop (i+1)) % AG v) (u:=y) hV hR hW
 rw[← h.rem]at hds
 have e3:AG (u0.drop (i+1)) * LB+y=AG (u0.drop i):=by rw[e2,oJ];omega
 have e4:AG (cu.drop (i+1)) * LB+y=AG (cu.drop i):=by rw[e1,oJ];omega
 rw[e3,e4]at hds
 have htl:(cu.take i).length=i:=by rw[oO];omega
 have hxs:x<LB:=by
  rw[hx,oz hV,oJ]
  exact p2
 refine⟨?_,?_,?_,?_,?_,?_⟩
 ·simp only[oI,oO,oh,hD]
  have:=h.len
  omega
 ·rw[oX,List.take_left' htl]
  have:=congrArg (List.take i) h.low
  rw[List.take_take,List.take_take,px (ot i)]at this
  exact this
 ·exact((h.sm.take i).append hDs).append (h.sm.drop _)
 ·rw[oX,qL htl,BN,p3,pI,oM,hDv]
  exact hds.2.symm
 ·intro z hz
  rcases List.mem_or_eq_of_mem_set hz with h' | h'
  ·exact h.qsm z h'
  ·rw[h'];exact hxs
 ·have hqi:(qs.set i x)[i]? = some x:=by rw[List.getElem?_set_self hq]
  rw[FH hqi]
  have:(qs.set i x).drop (i+1)=qs.drop (i+1):=by
   rw[List.drop_set]
   simp
  rw[this,h.quo,hx,hds.1,oJ LB]
  omega
theorem Hn(x:Nat):∀ (l:List Nat)(c:Nat),(JZ l x c).length=l.length+1
 | [],_=>rfl
 | y::l,c=>by show(JZ l x _).length+1=_;rw[Hn x l];rfl
theorem FD{x:Nat}(hx:x<LB):∀ {l:List Nat}{c:Nat},Bl l→c<LB→Bl (JZ l x c)
  | [],c,_,hc=>fun z hz=>by rw[List.mem_singleton.1 hz];exact hc
  | y::l,c,hl,hc=>fun z hz=>by
    have hy:=hl y oK
    rcases List.mem_cons.1 hz with e | e
    · rw[e];exact oT _ BF
    · refine FD        hx hl.tail ?_ z e
      rw[oz BF]
      have:x * y≤(LB - 1) * (LB - 1):=oq (by omega) (by omega)
      have hB:LB=4294967296:=rfl
      rw[hB]at this hc ⊢
      omega
theorem E1{l:List Nat}{n:Nat}(h:l.length=n+1):∃lo t,l=lo++[t]∧lo.length=n:=by
 refine⟨l.take n,l[n]'(by omega),?_,by rw[oO];omega⟩
 have h1:=(pn n l).symm
 rw[ol (by omega),oo (by omega)]at h1
 exact h1
theorem DL(lo:List Nat)(t:Nat):AG (lo++[t])=AG lo+LB ^ lo.length * t:=by
 rw[BN]
 show _+_ * (t+LB * 0)=_
 simp
theorem jc{lo:List Nat}{bt n:Nat}(hs:Bl (lo++[bt]))(hn:n≤31)(h1:2147483648≤bt * 2 ^ n)(h2:bt * 2 ^ n<4294967296):
  AG ((JZ (lo++[bt]) (2 ^ n) 0).take (lo.length+1))=AG (lo++[bt]) * 2 ^ n∧∃vlo v1,(JZ (lo++[bt]) (2 ^ n) 0).take (lo.length+1)=vlo++[v1]∧vlo.length=lo.length∧2147483648≤v1:=by
 have hLB:LB=4294967296:=rfl
 have e32:(2:Nat) ^ 32=4294967296:=by decide
 have h2n:0<2 ^ n:=pK (by decide)
 have hn32:2 ^ n<LB:=by
  rw[hLB,← e32]
  exact Nat.pow_lt_pow_right (by decide) (by omega)
 have hbt:(bt+1) * 2 ^ n≤4294967296:=by
  have e:(4294967296:Nat)=2 ^ (32 - n) * 2 ^ n:=by rw[← Nat.pow_add,show 32 - n+n=32 by omega]
  rw[e]at h2 ⊢
  exact oC _ (p4 h2)
 have hval:=Jf (lo++[bt]) (2 ^ n) 0
 have hlen:=Hn (2 ^ n) (lo++[bt]) 0
 have hsm:=FD hn32 hs (show 0<LB from BF)
 have hll:(lo++[bt]).length=lo.length+1:=by simp
 rw[hll]at hlen
 generalize JZ (lo++[bt]) (2 ^ n) 0=W at *
 obtain⟨V,t,rfl,hV⟩:=E1 hlen
 have hlo:Bl lo:=fun x hx=>hs x (p9 _ hx)
 have hvl:=Cb hlo
 have hsV:Bl V:=fun x hx=>hsm x (p9 _ hx)
 rw[DL,hV]at hval
 have hup:AG (lo++[bt]) * 2 ^ n<LB ^ (lo.length+1):=by
  rw[DL]
  have g1:AG lo+LB ^ lo.length * bt<LB ^ lo.length * (bt+1):=by rw[oW,oD];omega
  have g2:(AG lo+LB ^ lo.length * bt) * 2 ^ n<LB ^ lo.length * (bt+1) * 2 ^ n:=qS g1 h2n
  have g3:LB ^ lo.length * (bt+1) * 2 ^ n≤LB ^ (lo.length+1):=by
   rw[pE,oR]
   exact oZ _ (by rw[hLB];exact hbt)
  omega
 have ht:t=0:=by
  rcases ow t with h | h
  ·exact h
  ·exfalso
   have:=oZ (LB ^ (lo.length+1)) h
   omega
 have htk:(V++[t]).take (lo.length+1)=V:=by rw[← hV];simp
 rw[htk]
 rw[ht,pI,oM,oM]at hval
 refine⟨hval,?_⟩
 obtain⟨vlo,v1,rfl,hvlo⟩:=E1 hV
 refine⟨vlo,v1,rfl,hvlo,?_⟩
 have hvs:Bl vlo:=fun x hx=>hsV x (p9 _ hx)
 have hvv:=Cb hvs
 rw[DL,hvlo,DL]at hval
 rw[hvlo]at hvv
 have g4:LB ^ lo.length * 2147483648≤(AG lo+LB ^ lo.length * bt) * 2 ^ n:=by
  rw[oQ,oR]
  exact ny (oZ _ h1) (Nat.le_add_left _ _)
 rcases nm v1 2147483648 with h | h
 ·exfalso
  have:=oZ (LB ^ lo.length) (show v1+1≤2147483648 from h)
  rw[oW,oD]at this
  omega
 ·exact h
theorem jb{la vlo:List Nat}{v1 n:Nat}(hs:Bl la)(hn:n≤31)(hv1:2147483648≤v1)(hlen:vlo.length+1≤la.length):
  AG ((JZ la (2 ^ n) 0).drop (la.length - vlo.length))<AG (vlo++[v1]):=by
 have hLB:LB=4294967296:=rfl
 have e31:(2:Nat) ^ 31=2147483648:=by decide
 have h2n:2 ^ n≤2147483648:=by rw[← e31];exact pm (by decide) hn
 have hval:=Jf la (2 ^ n) 0
 have hl:=Hn (2 ^ n) la 0
 have hsm:=FD (show 2 ^ n<LB by rw[hLB];omega) hs (show 0<LB from BF)
 generalize JZ la (2 ^ n) 0=W at *
 obtain⟨U,t,rfl,hU⟩:=E1 hl
 rw[DL,hU,oM]at hval
 have hA:=Cb hs
 have ht:t<2 ^ n:=by
  rcases nm t (2 ^ n)with h | h
  ·exact h
  ·exfalso
   have g1:=oZ (LB ^ la.length) h
   have g2:AG la * 2 ^ n<LB ^ la.length * 2 ^ n:=qS hA (pK (by decide))
   omega
 have hd:(U++[t]).drop (la.length - vlo.length)=U.drop (la.length - vlo.length)++[t]:=by
  rw[List.drop_append_of_le_length (by omega)]
 rw[hd,DL,DL]
 have hsU:Bl U:=fun x hx=>hsm x (p9 _ hx)
 have h3:=Cb (hsU.drop (la.length - vlo.length))
 have hdl:(U.drop (la.length - vlo.length)).length=vlo.length:=by rw[oh];omega
 rw[hdl]at h3 ⊢
 have g1:LB ^ vlo.length * (t+1)≤LB ^ vlo.length * v1:=oZ _ (by omega)
 rw[oW,oD]at g1
 omega
theorem Gb:∀ (l w:List Nat),(l.take w.length).zip w=l.zip w
 | [],w=>by simp
 | _::_,[]=>by simp
 | x::l,y::w=>by
  rw[oV,List.take_succ_cons,qA,qA,Gb l w]
theorem ZE{d w:List Nat}(h:d.length=w.length)(x:List Nat):(d++x).zip w=d.zip w:=by
 have:=Gb (d++x) w
 rw[← h,List.take_left]at this
 exact this.symm
end
end Go.Proofs.YtjnkfbpadpmakaaGreatDoor.Am
set_option linter.unusedVariables false
set_option linter.unusedSimpArgs false
set_option maxRecDepth 12000
namespace Go.Proofs.YtjnkfbpadpmakaaGreatDoor.Am
open Go Go.Proofs
noncomputable section
structure GoodN(E:CP):Prop where
 P:E.P=Tryz.prog
 nat:∀ (f:FuncId) (xs:List AV) (s:AD),f ∉ [78,15]→E.nat f xs s=none
theorem GoodN.go{E:CP}(hE:GoodN E){f:FuncId}{xs:List AV}{cf:Ao}{K:AV→AD→Prop}{s:AD}(hf:AN Tryz.prog f=some cf)(hne:f ∉ [78,15])(ha:xs.length=cf.na)(h:Qa E none cf.body (Ends Tryz.prog cf.results K) (Ql xs cf.nv) [] s):WF E f xs K s:=
 WF.body' (hE.nat f xs s hne) (by rw[hE.P];exact hf) ha (by rw[hE.P];exact h)
def Mj(s:AD)(a:Option (Nat×Nat))(cap:Option Nat)(n:Nat):Prop:=
 (∃c,cap=some c∧n≤c∧(a=none→c=0))∨(cap=none∧∃i o r,a=some (i,o)∧i<s.next∧s.heap.get i=some (.row r)∧r.sz=1∧o+n≤r.n)
theorem Mj.old{s s':AD}{a:Option (Nat×Nat)}{cap:Option Nat}{n:Nat}(h:Mj s a cap n)(k:Ac s.next s s'):Mj s' a cap n:=by
 rcases h with h | ⟨h1,i,o,r,h3,h4,h5,h6⟩
 ·exact .inl h
 ·exact .inr ⟨h1,i,o,r,h3,ns h4 k.1,by rw[k.2 i h4];exact h5,h6⟩
theorem Mj.less{s:AD}{a:Option (Nat×Nat)}{cap:Option Nat}{n k:Nat}(h:Mj s a cap n)(hk:k≤n):Mj s a cap k:=by
 rcases h with⟨c,h1,h2,h3⟩ | ⟨h1,i,o,r,h3,h4,h5,h6,h7⟩
 ·exact .inl ⟨c,h1,by omega,h3⟩
 ·exact .inr ⟨h1,i,o,r,h3,h4,h5,h6,by omega⟩
theorem OS{t e:TypeId}(ht:Tryz.prog.underlying t=some (.slice e))(hs:A3 Tryz.prog e=some 1){s:AD}{a:Option (Nat×Nat)}{cap:Option Nat}{n k:Nat}(hc:Mj s a cap n)(hk:k≤n):
    A4 Tryz.prog t false true false s [.slice a n cap,iv (k:Int)]=some (.slice a k cap):=by
  show Bg Tryz.prog s t (.slice a n cap) none (some (iv (k:Int))) none=_
  rcases hc with⟨c,rfl,h1,h2⟩ | ⟨rfl,i,o,r,rfl,h3,h4,h5,h6⟩
  · have hb:BV (iv (k:Int)) c=some k:=by simp[BV,Fw,AJ,CZ (show k≤c by omega),Do]
    cases a with
    | none=>simp[Bg,ht,hs,hb]
    | some io=>obtain⟨i,o⟩:=io;cases hb2:Nat.beq c 0<;>simp[Bg,ht,hs,hb,hb2]
  · have hrow : rowAt s i = some r := by unfold rowAt; rw [h4]
    have hb:BV (iv (k:Int)) ((r.n - o) / 1)=some k:=by simp[BV,Fw,AJ,CZ (show k≤r.n - o by omega),Do]
    have hsz:Nat.beq 1 r.sz=true:=FX h5.symm
    simp only[Bg,ht,hs,hrow,hsz,AJ,hb,CZ (show o≤r.n by omega),show Nat.beq 1 0=false from rfl,Option.bind_some,Bool.true_and,Bool.and_true,Bool.not_false,cond_true]
    simp
def Cv(s:AD)(v:AV)(l:List Nat):Prop:=∃a cap,v=.slice a l.length cap∧Mj s a cap l.length∧AZ s.next s a (us l)
theorem Cv.old{s s':AD}{v:AV}{l:List Nat}(h:Cv s v l)(k:Ac s.next s s'):Cv s' v l:=by
 obtain⟨a,cap,h1,h2,h3⟩:=h
 exact⟨a,cap,h1,h2.old k,(h3.old k (nl _)).mono k.1⟩
theorem Cv.at{s:AD}{a:Option (Nat×Nat)}{l:List Nat}(h:AZ s.next s a (us l)){k x:Nat}(hk:l[k]? = some x):∃i o,a=some (i,o)∧i<s.next∧CW s i (o+k)=some (Bf x):=h k _ (Da hk)
theorem Cv.take{s:AD}{a:Option (Nat×Nat)}{cap:Option Nat}{l:List Nat}(h2:Mj s a cap l.length)(h3:AZ s.next s a (us l)){k:Nat}(hk:k≤l.length):Cv s (.slice a k cap) (l.take k):=by
 have hl:(l.take k).length=k:=by rw[oO];omega
 refine⟨a,cap,by rw[hl],by rw[hl];exact h2.less hk,fun j u hu=>?_⟩
 rw[TA,qO]at hu
 split at hu
 ·exact h3 j u hu
 ·cases hu
def ly(s:AD)(v:AV)(l:List Nat):Prop:=∃i,v=.slice (some (i,0)) l.length none∧i<s.next∧Cy s i (us l) none
def NR(b:Nat)(s:AD)(v:AV)(l:List Nat):Prop:=∃O,B9 76 s v l.length 1 (us l) O∧(∀j∈O,b≤j)∧(∀j,Cd v=some j→b≤j)∧(l≠[]→ly s v l)
theorem B9.n32{s:AD}{v:AV}{l O:List Nat}(h1:B9 76 s v l.length 1 (us l) O):Cv s v l:=by
 obtain⟨a,cap,rfl,hc⟩:=h1.cells
 refine⟨a,cap,rfl,?_,hc⟩
 rcases h1 with⟨a',e,_,_,h4,_⟩ | ⟨i,p,e,h2,_⟩
 ·injection e with e1 e2 e3
  subst e1;subst e3
  exact .inl ⟨_,rfl,nl _,h4⟩
 ·injection e with e1 e2 e3
  subst e1;subst e3
  rcases h2.ex with⟨e',_⟩ | ⟨_,_,k2,_,r,k4,k5,_,_,k8,_⟩
  ·cases e'
  ·exact .inr ⟨rfl,i,0,r,rfl,k2,k4,k8,by rw[k5.1,Cl];omega⟩
theorem NR.n32{b:Nat}{s:AD}{v:AV}{l:List Nat}(h:NR b s v l):Cv s v l:=by
 obtain⟨O,h1,_,_⟩:=h
 exact h1.n32
theorem NR.mono{b b':Nat}{s:AD}{v:AV}{l:List Nat}(h:NR b s v l)(k:b'≤b):NR b' s v l:=by
 obtain⟨O,h1,h2,h3,h4⟩:=h
 exact⟨O,h1,fun j hj=>ny k (h2 j hj),fun j hj=>ny k (h3 j hj),h4⟩
theorem NR.nil(b:Nat)(s:AD):NR b s (.slice none 0 (some 0)) []:=⟨[],B9.nil s 1,fun j hj=>(by cases hj),fun j hj=>(by cases hj),fun h=>absurd rfl h⟩
theorem NR.old{b:Nat}{s s':AD}{v:AV}{l:List Nat}(h:NR b s v l)(k:Ac s.next s s'):NR b s' v l:=by
 obtain⟨O,h1,h2,h3,h4⟩:=h
 refine⟨O,h1.frame k.1 (fun j hj=>?_),h2,h3,fun hne=>by obtain⟨i,q1,q2,q3⟩:=h4 hne;exact⟨i,q1,ns q2 k.1,q3.keep (k.2 i q2)⟩⟩
 refine k.2 j ?_
 rcases h1 with⟨a,rfl,_,_,_,h5⟩ | ⟨i,p,rfl,h6,_⟩
 ·cases a with
  | none=>cases hj
  | some io=>obtain⟨i,o⟩:=io;injection hj with hj;subst hj;exact(h5 i o rfl).1
 ·injection hj with hj
  subst hj
  rcases h6.ex with⟨e',_⟩ | ⟨_,_,k2,_⟩
  ·cases e'
  ·exact k2
theorem TI:Bp Tryz.prog 22=true:=by kernel_rfl
theorem Ns:Cn Tryz.prog 76 1=true:=by kernel_rfl
theorem aX:Ad Tryz.prog 22 0 (zipIdx [] [])=some (R 76 1 false []):=by kernel_rfl
theorem Fj(x:Int):Ad Tryz.prog 22 1 (zipIdx [0] [.int .u32 x])=some (R 76 1 false [.int .u32 x]):=by kernel_rfl
theorem Nf(x y:Int):Ad Tryz.prog 22 2 (zipIdx [0,1] [.int .u32 x,.int .u32 y])=some (R 76 1 false [.int .u32 x,.int .u32 y]):=by kernel_rfl
theorem ZB(l:List Nat):Ap (us l)=true:=by
 induction l with
 | nil=>rfl
 | cons x l ih=>show((Bf x).isCell && Ap (us l))=true;rw[ih];rfl
theorem Yx{s:AD}{a:Option (Nat×Nat)}{cap:Option Nat}{l:List Nat}(h:AZ s.next s a (us l)):CB Tryz.prog s 76 1 (.slice a l.length cap)=some (l.length,us l):=by
 cases l with
 | nil =>
  cases a with
  | none=>rfl
  | some io=>obtain⟨i,o⟩:=io;rfl
 | cons x l =>
  obtain⟨i,o,rfl,_,_⟩:=h 0 _ rfl
  have hld:=Js (o:=s.heap.get i) (us (x::l)) o (fun j u hj=>by
   obtain⟨i',o',e,_,h3⟩:=h j u hj
   injection e with e
   injection e with e1 e2
   subst e1;subst e2
   exact h3) (by simp[us])
  rw[Cl]at hld
  show(Lo s i o (x::l).length 1).bind _=_
  rw[show Lo s i o (x::l).length 1=Bv s i o ((x::l).length * 1)from by unfold Lo;rw[Dx (show(x::l).length≠0 by simp)];rfl,oD,H7,hld]
  rfl
theorem Nz{s:AD}{i o:Nat}(hz:Bv s i o 0=some []){ax:Option (Nat×Nat)}{m:Nat}{cx:Option Nat}{add:List AV}(hsrc:CB Tryz.prog s 76 1 (.slice ax m cx)=some (m,add))(ha:add.length=m)(hc:Ap add=true)(hm:0<m)(hml:m≤100000000000):
  Av Tryz.prog s [22,22] [.slice (some (i,o)) 0 (some 0),.slice ax m cx]=some (.slice (some (s.next,0)) m none,newObj s (R 76 1 true add)):=by
 rw[Dg Tryz.underlying22 Ct UX (by omega) TI hsrc hc (by omega) (by omega)]
 simp only[appTo,F7,oG,Mv hm,cond_false,pO,hz,Option.bind_some,CU,AJ,Ns,cond_true,qP]
 rfl
section
variable{E:CP}{s:AD}
theorem KQ(hE:GoodN E){v:AV}{l:List Nat}(hv:Cv s v l)(hl:l.length≤100000000000){K:AV→AD→Prop}(hK:∀s' v',Ac s.next s s'→NR s.next s' v' l→K v' s'):WF E 136 [v] K s:=by
  obtain⟨a,cap,rfl,hcap,hc⟩:=hv
  refine hE.go SX (by decide) rfl ?_
  by_cases hnil:a=none
  · subst hnil
    have hl0:l=[]:=by
      cases l with
      | nil=>rfl
      | cons x l=>obtain⟨_,_,e,_⟩:=hc 0 _ rfl;cases e
    subst hl0
    have e1:AT Tryz.prog .eql 22 (.slice none 0 cap) (.slice none 0 (some 0))=some (.bool true):=by kernel_rfl
    simp only[Ze,My,Mz,Px,pG,e1,Qa,Qb,Qc,Qd,Qe,Qf,Qg,Qh,Qi,Qj,Qk,Ql,Qm,Qn,true_and,and_true,Qo,Qp,Qq,Qr,Qs,Qt,Qu,Qv,Qw,Qx,Qy,Qz,Ra,Rb,Rc,Rd,Re,Rf,Rg,Rh,Ri,Rj,Rk,Rm,Rn,Ro,Rp,Rq,Rs,Ya,Yb,Yc,Rt,Ru,Za,Yd,Ye,Rx,Ry,Rz,Wa,Wb,Wc,Wd]
    exact hK s _ (Ac.refl _ _) (NR.nil _ _)
  · obtain⟨⟨i,o⟩,rfl⟩:∃io,a=some io:=by cases a with | none=>exact absurd rfl hnil | some io=>exact⟨io,rfl⟩
    have e1:∀n,AT Tryz.prog .eql 22 (.slice (some (i,o)) n cap) (.slice none 0 (some 0))=some (.bool false):=fun n=>by kernel_rfl
    have ho:=Ac.new s (R 76 1 false [])
    have hd:B9 76 (newObj s (R 76 1 false [])) (.slice (some (s.next,0)) 0 (some 0)) 0 1 [] []:=.inl ⟨some (s.next,0),rfl,rfl,rfl,fun e=>(by cases e),fun i o e=>by
      injection e with e
      injection e with e1 e2
      subst e1;subst e2
      exact⟨og _,by rw[H7,AO,if_pos rfl];rfl⟩⟩
    have hc2:AZ (newObj s (R 76 1 false [])).next (newObj s (R 76 1 false [])) (some (i,o)) (us l):=(hc.old ho (nl _)).mono ho.1
    obtain⟨v',s',O',happ,hd',hn1,hn2,hf,hO,hsl⟩:=hd.append (xt:=22) Tryz.underlying22 Ct UX (by omega) TI Ns (Yx (cap:=cap) hc2) (by rw[Cl];omega) (ZB l) (by omega) (by omega)
    simp only[Ze,My,Mz,U8,e1,aX,Xd,happ,Qa,Qb,Qc,Qd,Qe,Qf,Qg,Qh,Qi,Qj,Qk,Ql,Qm,Qn,true_and,and_true,Qo,Qp,Qq,Qr,Qs,Qt,Qu,Qv,Qw,Qx,Qy,Qz,Ra,Rb,Rc,Rd,Re,Rf,Rg,Rh,Ri,Rj,Rk,Rm,Rn,Ro,Rp,Rq,Rs,Ya,Yb,Yc,Rt,Ru,Za,Yd,Ye,Rx,Ry,Rz,Wa,Wb,Wc,Wd]
    have hsn:(newObj s (R 76 1 false [])).next=s.next+1:=rfl
    refine hK s' v' ⟨by omega,fun j hj=>by rw[hf j (by omega) (by simp),AO,if_neg (by omega)]⟩ ⟨O',by simpa using hd',fun j hj=>?_,fun j hj=>?_,fun hne=>?_⟩
    · rcases hO j hj with h | h
      · cases h
      · omega
    · rcases hsl j hj with h | h
      · injection h with h;omega
      · omega
    · have hlp : 0 < l.length := List.length_pos_iff.2 hne
      have h2:=Nz (i:=s.next) (o:=0) (s:=newObj s (R 76 1 false [])) (by rw[H7,AO,if_pos rfl];rfl) (Yx (cap:=cap) hc2) (Cl l) (ZB l) hlp (by omega)
      rw[h2]at happ
      injection happ with happ
      injection happ with e5 e6
      rw[← e5,← e6]
      exact⟨_,rfl,og _,Cy.of_R (by rw[AO,if_pos rfl])⟩
theorem Lc(l:List Nat)(x:Nat):DY (l++[x])=if x=0 then DY l else l++[x]:=by
 induction l with
 | nil=>by_cases h:x=0<;>simp[DY,h]
 | cons y l ih =>
  show(if y=0∧DY (l++[x])=[]then []else y::DY (l++[x]))=_
  rw[ih]
  by_cases h:x=0
  ·simp only[h,if_true];rfl
  ·simp[h]
theorem Mb{a:Option (Nat×Nat)}{cap:Option Nat}{l:List Nat}(hc:AZ s.next s a (us l))(hl:l.length≤100000000000){Q:A5→Prop}(x1:AV)
  (hq:∀ (k:Nat) (y3:AV),k≤l.length→DY l=l.take k→Q ⟨.exit 0,[.slice a l.length cap,x1,iv (k:Int),y3],[],s⟩):
  ∀ (k:Nat) (x3:AV),k≤l.length→DY l=DY (l.take k)→WC E none (.loop Lv) Q [.slice a l.length cap,x1,iv (k:Int),x3] [] s:=by
 intro k
 induction k with
 | zero =>
  intro x3 hk ht
  have d0:decide ((0:Int)<((0:Nat):Int))=false:=rfl
  refine WC.loop' ?_
  simp only[Lv,SQ,Ry,d0,Qa,Qb,Qc,Qd,Qe,Qf,Qg,Qh,Qi,Qj,Qk,Ql,Qm,Qn,true_and,and_true,Qo,Qp,Qq,Qr,Qs,Qt,Qu,Qv,Qw,Qx,Qy,Qz,Ra,Rb,Rc,Rd,Re,Rf,Rg,Rh,Ri,Rj,Rk,Rm,Rn,Ro,Rp,Rq,Rs,Ya,Yb,Yc,Rt,Ru,Za,Yd,Ye,Rx,Ry,Rz,Wa,Wb,Wc,Wd]
  exact hq 0 _ hk (by rw[ht];rfl)
 | succ k ih =>
  intro x3 hk ht
  have hx:l[k]? = some l[k]:=nr (by omega)
  generalize l[k]=x at hx
  obtain⟨i,o,rfl,_,hload⟩:=Cv.at hc hx
  have htk:l.take (k+1)=l.take k++[x]:=by rw[List.take_add_one,hx];rfl
  have d0:decide ((0:Int)<((k+1:Nat):Int))=true:=decide_eq_true (by omega)
  have e1:=CK Tryz.prog 3 ((k+1:Nat):Int) 1 ⟨by omega,by omega⟩
  have e2:((k+1:Nat):Int) - 1=(k:Int):=by omega
  have e3:=An (cap:=cap) (i:=i) (o:=o) Tryz.underlying22 Ct (show k<l.length by omega)
  have e4:AC Tryz.prog s 76 (.ptr (some (i,o+k * 1)))=some (Bf x):=CM Hm (by rw[oD];exact hload)
  have e5:AT Tryz.prog .eql 76 (Bf x) (.int .u32 0)=some (.bool (decide (x=0))):=gx Tryz.prog 76 (b:=0) .u32
  refine WC.loop' ?_
  generalize hW:WC E none (Af.loop Lv) Q=WW
  by_cases h0:x=0
  ·have d1:decide (x=0)=true:=decide_eq_true h0
   simp only[Lv,SQ,fW,Ry,d0,e1,e2,e3,e4,e5,d1,Qa,Qb,Qc,Qd,Qe,Qf,Qg,Qh,Qi,Qj,Qk,Ql,Qm,Qn,true_and,and_true,Qo,Qp,Qq,Qr,Qs,Qt,Qu,Qv,Qw,Qx,Qy,Qz,Ra,Rb,Rc,Rd,Re,Rf,Rg,Rh,Ri,Rj,Rk,Rm,Rn,Ro,Rp,Rq,Rs,Ya,Yb,Yc,Rt,Ru,Za,Yd,Ye,Rx,Ry,Rz,Wa,Wb,Wc,Wd]
   rw[← hW]
   exact ih _ (by omega) (by rw[ht,htk,Lc,if_pos h0])
  ·have d1:decide (x=0)=false:=decide_eq_false h0
   simp only[Lv,SQ,Ry,d0,e1,e2,e3,e4,e5,d1,Qa,Qb,Qc,Qd,Qe,Qf,Qg,Qh,Qi,Qj,Qk,Ql,Qm,Qn,true_and,and_true,Qo,Qp,Qq,Qr,Qs,Qt,Qu,Qv,Qw,Qx,Qy,Qz,Ra,Rb,Rc,Rd,Re,Rf,Rg,Rh,Ri,Rj,Rk,Rm,Rn,Ro,Rp,Rq,Rs,Ya,Yb,Yc,Rt,Ru,Za,Yd,Ye,Rx,Ry,Rz,Wa,Wb,Wc,Wd]
   exact hq (k+1) _ hk (by rw[ht,htk,Lc,if_neg h0])
theorem Eb(l:List Nat):(DY l).length≤l.length:=by
 induction l with
 | nil=>exact nl _
 | cons x l ih=>unfold DY;split<;>simp<;>omega
theorem CT(hE:GoodN E){v:AV}{l:List Nat}(hv:Cv s v l)(hl:l.length≤100000000000){K:AV→AD→Prop}(hK:∀s' v',Ac s.next s s'→NR s.next s' v' (DY l)→K v' s'):WF E 92 [v] K s:=by
 obtain⟨a,cap,rfl,hcap,hc⟩:=hv
 refine hE.go XP (by decide) rfl ?_
 simp only[mG,XA,XB,AU Tryz.underlying22,Qa,Qb,Qc,Qd,Qe,Qf,Qg,Qh,Qi,Qj,Qk,Ql,Qm,Qn,true_and,and_true,Qo,Qp,Qq,Qr,Qs,Qt,Qu,Qv,Qw,Qx,Qy,Qz,Ra,Rb,Rc,Rd,Re,Rf,Rg,Rh,Ri,Rj,Rk,Rm,Rn,Ro,Rp,Rq,Rs,Ya,Yb,Yc,Rt,Ru,Za,Yd,Ye,Rx,Ry,Rz,Wa,Wb,Wc,Wd]
 refine Mb hc hl _ (fun k y3 hk ht=>?_) l.length _ (nl _) (by rw[List.take_length])
 have e1:=OS Tryz.underlying22 Ct hcap hk
 simp only[XC,e1,if_true,Qa,Qb,Qc,Qd,Qe,Qf,Qg,Qh,Qi,Qj,Qk,Ql,Qm,Qn,true_and,and_true,Qo,Qp,Qq,Qr,Qs,Qt,Qu,Qv,Qw,Qx,Qy,Qz,Ra,Rb,Rc,Rd,Re,Rf,Rg,Rh,Ri,Rj,Rk,Rm,Rn,Ro,Rp,Rq,Rs,Ya,Yb,Yc,Rt,Ru,Za,Yd,Ye,Rx,Ry,Rz,Wa,Wb,Wc,Wd]
 refine KQ hE (Cv.take hcap hc hk) (by rw[oO];omega) fun s' v' h1 h2=>?_
 simp only[Qa,Qb,Qc,Qd,Qe,Qf,Qg,Qh,Qi,Qj,Qk,Ql,Qm,Qn,true_and,and_true,Qo,Qp,Qq,Qr,Qs,Qt,Qu,Qv,Qw,Qx,Qy,Qz,Ra,Rb,Rc,Rd,Re,Rf,Rg,Rh,Ri,Rj,Rk,Rm,Rn,Ro,Rp,Rq,Rs,Ya,Yb,Yc,Rt,Ru,Za,Yd,Ye,Rx,Ry,Rz,Wa,Wb,Wc,Wd]
 rw[← ht]at h2
 exact hK s' v' h1 h2
theorem TY(hE:GoodN E){K:AV→AD→Prop}(hK:K (.slice none 0 (some 0)) s):WF E 136 [.slice none 0 (some 0)] K s:=by
 refine hE.go SX (by decide) rfl ?_
 have e1:AT Tryz.prog .eql 22 (.slice none 0 (some 0)) (.slice none 0 (some 0))=some (.bool true):=by kernel_rfl
 simp only[Ze,My,Mz,Px,e1,Qa,Qb,Qc,Qd,Qe,Qf,Qg,Qh,Qi,Qj,Qk,Ql,Qm,Qn,true_and,and_true,Qo,Qp,Qq,Qr,Qs,Qt,Qu,Qv,Qw,Qx,Qy,Qz,Ra,Rb,Rc,Rd,Re,Rf,Rg,Rh,Ri,Rj,Rk,Rm,Rn,Ro,Rp,Rq,Rs,Ya,Yb,Yc,Rt,Ru,Za,Yd,Ye,Rx,Ry,Rz,Wa,Wb,Wc,Wd]
 exact hK
theorem Y6(hE:GoodN E){K:AV→AD→Prop}(hK:K (.slice none 0 (some 0)) s):WF E 92 [.slice none 0 (some 0)] K s:=by
 refine hE.go XP (by decide) rfl ?_
 have hn:=(NR.nil 0 s).n32
 obtain⟨a,cap,e,hcap,hc⟩:=hn
 injection e with e1 e2 e3
 subst e1;subst e3
 simp only[mG,XA,XB,AU Tryz.underlying22,Qa,Qb,Qc,Qd,Qe,Qf,Qg,Qh,Qi,Qj,Qk,Ql,Qm,Qn,true_and,and_true,Qo,Qp,Qq,Qr,Qs,Qt,Qu,Qv,Qw,Qx,Qy,Qz,Ra,Rb,Rc,Rd,Re,Rf,Rg,Rh,Ri,Rj,Rk,Rm,Rn,Ro,Rp,Rq,Rs,Ya,Yb,Yc,Rt,Ru,Za,Yd,Ye,Rx,Ry,Rz,Wa,Wb,Wc,Wd]
 refine Mb (l:=[]) hc (by simp) _ (fun k y3 hk ht=>?_) 0 _ (nl _) rfl
 have hk0:k=0:=by simpa using hk
 subst hk0
 have e1:=OS Tryz.underlying22 Ct hcap (nl 0)
 simp only[pG]at e1
 simp only[XC,pG,e1,if_true,Qa,Qb,Qc,Qd,Qe,Qf,Qg,Qh,Qi,Qj,Qk,Ql,Qm,Qn,true_and,and_true,Qo,Qp,Qq,Qr,Qs,Qt,Qu,Qv,Qw,Qx,Qy,Qz,Ra,Rb,Rc,Rd,Re,Rf,Rg,Rh,Ri,Rj,Rk,Rm,Rn,Ro,Rp,Rq,Rs,Ya,Yb,Yc,Rt,Ru,Za,Yd,Ye,Rx,Ry,Rz,Wa,Wb,Wc,Wd]
 refine TY hE ?_
 simp only[Qa,Qb,Qc,Qd,Qe,Qf,Qg,Qh,Qi,Qj,Qk,Ql,Qm,Qn,true_and,and_true,Qo,Qp,Qq,Qr,Qs,Qt,Qu,Qv,Qw,Qx,Qy,Qz,Ra,Rb,Rc,Rd,Re,Rf,Rg,Rh,Ri,Rj,Rk,Rm,Rn,Ro,Rp,Rq,Rs,Ya,Yb,Yc,Rt,Ru,Za,Yd,Ye,Rx,Ry,Rz,Wa,Wb,Wc,Wd]
 exact hK
end
theorem Bx{s:AD}{n:Nat}:As Tryz.prog s 69 76 (Ag n)=some (Bf (n % 4294967296)):=by
 have:As Tryz.prog s 69 76 (Ag n)=some (.int .u32 (Cm .u32 (n:Int))):=by
  simp[As,Tryz.underlying69,Tryz.underlying76]
 rw[this,UE]
 rfl
theorem Bi{s:AD}{n:Nat}(h:n<4294967296):As Tryz.prog s 76 69 (Bf n)=some (Ag n):=by
 have:As Tryz.prog s 76 69 (Bf n)=some (.int .u64 (Cm .u64 (n:Int))):=by
  simp[As,Tryz.underlying69,Tryz.underlying76]
 rw[this,Lf (by omega)]
theorem IE      {s : AD}  {v : AV} {l : List Nat} {O : List Nat} (hd : B9   76 s v l.length 1 (us l) O) (x : Nat) (hl : l.length ≤ 100000000000) :
    ∃v' s' O',Av Tryz.prog (newObj s (R 76 1 false [Bf x])) [22,22] [v,.slice (some (s.next,0)) 1 (some 1)]=some (v',s')∧B9 76 s' v' (l++[x]).length 1 (us (l++[x])) O'∧s.next≤s'.next ∧
      (∀j,j<s.next→j ∉ O→s'.heap.get j=s.heap.get j)∧(∀j∈O',j∈O∨s.next≤j)∧(∀j,Cd v'=some j→Cd v=some j∨s.next≤j):=by
  have hsn:(newObj s (R 76 1 false [Bf x])).next=s.next+1:=rfl
  have Jn:B9 76 (newObj s (R 76 1 false [Bf x])) v l.length 1 (us l) O:=hd.frame (by omega) (fun j hj=>by
    rw[AO,if_neg]
    intro e
    subst e
    rcases hd with⟨a,rfl,_,_,_,h5⟩ | ⟨i,p,rfl,h6,_⟩
    · cases a with
      | none=>cases hj
      | some io =>
        obtain⟨i,o⟩:=io
        injection hj with hj
        have:=(h5 i o rfl).1
        omega
    · injection hj with hj
      rcases h6.ex with⟨e',_⟩ | ⟨_,_,k2,_⟩
      · cases e'
      · omega)
  have hsrc:CB Tryz.prog (newObj s (R 76 1 false [Bf x])) 76 1 (.slice (some (s.next,0)) 1 (some 1))=some (1,[Bf x]):=Nk 76 1 (by rw[AO,if_pos rfl];rfl) rfl
  obtain⟨v',s',O',happ,hd',hn1,hn2,hf,hO,hsl⟩:=Jn.append (xt:=22) Tryz.underlying22 Ct UX (by omega) TI Ns hsrc rfl rfl (by omega) (by omega)
  refine⟨v',s',O',happ,?_,by omega,fun j hj hjO=>by rw[hf j (by omega) hjO,AO,if_neg (by omega)],fun j hj=>(hO j hj).imp id (fun h=>by omega),fun j hj=>(hsl j hj).imp id (fun h=>by omega)⟩
  rw[Mf,oI]
  exact hd'
theorem Fy.dest{s:AD}{v:AV}{n:Nat}{cs:List AV}{O:List Nat}(h:Fy 76 1 s v n cs O):B9 76 s v n 1 cs O:=by
 rcases h with⟨rfl,rfl,rfl,rfl⟩ | ⟨i,p,h1,h2,h3⟩
 ·exact B9.nil s 1
 ·exact .inr ⟨i,p,h1,h2,h3⟩
def NW(b:Nat)(s:AD)(v:AV)(l:List Nat):Prop:=∃O,Fy 76 1 s v l.length (us l) O∧∀j∈O,b≤j
theorem NW.n32'{b:Nat}{s:AD}{v:AV}{l:List Nat}(h:NW b s v l):Cv s v l:=by
 obtain⟨O,h1,h2⟩:=h
 exact h1.dest.n32
theorem NW.own{b:Nat}{s:AD}{v:AV}{l:List Nat}(h:NW b s v l)(h0:l≠[]):∃i p,v=.slice (some (i,0)) l.length none∧b≤i∧i<s.next∧Cy s i (us l) p∧∀q,p=some q→b≤q∧q<s.next∧q≠i:=by
  obtain⟨O,h1,h2⟩:=h
  rcases h1 with⟨_,h3,_⟩ | ⟨i,p,rfl,h3,rfl⟩
  · exact absurd (qD h3) h0
  · rcases h3.ex with ⟨e, _⟩ | ⟨_, _, k2, k3, r, k4, k5, _, k7, k8, k9, _⟩
    · cases e
    · refine⟨i,p,rfl,h2 i (by simp),k2,⟨r,k4,k5,by rw[k7];rfl,k8,.inr k9⟩,fun q hq=>?_⟩
      obtain⟨_,q2,q3⟩:=k3 q hq
      exact⟨h2 q (by simp[hq]),q2,q3⟩
theorem PH{s:AD}{v:AV}{l:List Nat}{O:List Nat}(hd:Fy 76 1 s v l.length (us l) O)(x:Nat)(hl:l.length≤100000000000):
  ∃v' s' O',Av Tryz.prog (newObj s (R 76 1 false [Bf x])) [22,22] [v,.slice (some (s.next,0)) 1 (some 1)]=some (v',s')∧Fy 76 1 s' v' (l++[x]).length (us (l++[x])) O'∧s.next≤s'.next ∧
   (∀j,j<s.next→j ∉ O→s'.heap.get j=s.heap.get j)∧(∀j∈O',j∈O∨s.next≤j)∧(∀j,Cd v'=some j→Cd v=some j∨s.next≤j):=by
 have hsn:(newObj s (R 76 1 false [Bf x])).next=s.next+1:=rfl
 have Jn:=hd.frame (s':=newObj s (R 76 1 false [Bf x])) (by omega) (fun j hj=>by rw[AO,if_neg (by have:=hd.lt j hj;omega)])
 have hsrc:CB Tryz.prog (newObj s (R 76 1 false [Bf x])) 76 1 (.slice (some (s.next,0)) 1 (some 1))=some (1,[Bf x]):=Nk 76 1 (by rw[AO,if_pos rfl];rfl) rfl
 obtain⟨v',s',O',happ,hb',hn',hf,hO,hsl⟩:=Jn.append (xt:=22) (m:=1) Tryz.underlying22 Ct UX (by omega) TI Ns (by omega) hsrc rfl rfl (by omega) (by omega)
 refine⟨v',s',O',happ,?_,by omega,fun j hj hjO=>by rw[hf j (by omega) hjO,AO,if_neg (by omega)],fun j hj=>(hO j hj).imp id (fun h=>by omega),fun j hj=>?_⟩
 ·rw[Mf,oI]
  exact hb'
 ·rw[hsl]at hj
  injection hj with hj
  exact .inr (by omega)
section
variable{E:CP}{s:AD}
theorem To(n:Nat):AG [n % 4294967296,n / 4294967296]=n:=by
 show n % 4294967296+LB * (n / 4294967296+LB * 0)=n
 rw[show LB=4294967296 from rfl]
 omega
theorem Sj(hE:GoodN E){n:Nat}(hn:n<18446744073709551616){K:AV→AD→Prop}(hK:∀s' v',Ac s.next s s'→NR s.next s' v' (AR n)→K v' s'):WF E 48 [Ag n] K s:=by
 refine hE.go im (by decide) rfl ?_
 have e1:=JV Tryz.prog 69 hn
 have e2:=IU Tryz.prog 69 (a:=n) (k:=.u64) (n:=32) (by decide)
 have e2:AT Tryz.prog .shr 69 (Ag n) (.int .u64 32)=some (Ag (n / 4294967296)):=e2
 have e3:n % 4294967296 % 4294967296=n % 4294967296:=qB _ _
 have e4:n / 4294967296 % 4294967296=n / 4294967296:=oe (by omega)
 have hrow:Cv (newObj s (R 76 1 false [Bf (n % 4294967296),Bf (n / 4294967296)])) (.slice (some (s.next,0)) 2 (some 2)) [n % 4294967296,n / 4294967296]:=by
  refine⟨some (s.next,0),some 2,rfl,.inl ⟨2,rfl,nl _,fun e=>by cases e⟩,?_⟩
  exact Ew (e:=76) (sz:=1) (sp:=false) (by rw[AO,if_pos rfl];rfl) (og _)
 simp only[nD,dP,dQ,e1,e2,Bx,e3,e4,Nf,Xd,Qa,Qb,Qc,Qd,Qe,Qf,Qg,Qh,Qi,Qj,Qk,Ql,Qm,Qn,true_and,and_true,Qo,Qp,Qq,Qr,Qs,Qt,Qu,Qv,Qw,Qx,Qy,Qz,Ra,Rb,Rc,Rd,Re,Rf,Rg,Rh,Ri,Rj,Rk,Rm,Rn,Ro,Rp,Rq,Rs,Ya,Yb,Yc,Rt,Ru,Za,Yd,Ye,Rx,Ry,Rz,Wa,Wb,Wc,Wd]
 refine CT hE hrow (by simp) fun s' v' h1 h2=>?_
 have hs:Bl [n % 4294967296,n / 4294967296]:=fun x hx=>by
  have hB:LB=4294967296:=rfl
  simp only[List.mem_cons,List.not_mem_nil,or_false]at hx
  rcases hx with rfl | rfl
  ·exact oT _ (by decide)
  ·omega
 rw[Bq hs,To]at h2
 simp only[Qa,Qb,Qc,Qd,Qe,Qf,Qg,Qh,Qi,Qj,Qk,Ql,Qm,Qn,true_and,and_true,Qo,Qp,Qq,Qr,Qs,Qt,Qu,Qv,Qw,Qx,Qy,Qz,Ra,Rb,Rc,Rd,Re,Rf,Rg,Rh,Ri,Rj,Rk,Rm,Rn,Ro,Rp,Rq,Rs,Ya,Yb,Yc,Rt,Ru,Za,Yd,Ye,Rx,Ry,Rz,Wa,Wb,Wc,Wd]
 exact hK s' v' ((Ac.new s _).trans (h1.mono (ot _))) (h2.mono (ot _))
theorem Zd{x:Nat}(hx:x<4294967296){a:Option (Nat×Nat)}{cap:Option Nat}{l:List Nat}{b:Nat}(hc:AZ b s a (us l))(hb:b≤s.next)(hl:l.length≤10000000000)(hs:Bl l){T:List Nat}{Q:A5→Prop}(x0 x3:AV)
  (hq:∀ (s':AD) (c:Nat) (v4:AV) (d O:List Nat) (y5 y8 y9:AV),Ac s.next s s'→c<4294967296→d++[c]=T→Fy 76 1 s' v4 d.length (us d) O→(∀j∈O,s.next≤j)→(∀j,Cd v4=some j→s.next≤j) →
   Q ⟨.exit 0,[x0,Ag x,Ag c,x3,v4,y5,.slice a l.length cap,iv (l.length:Int),y8,y9],[],s'⟩):
  ∀ (r:List Nat) (k:Nat) (s':AD) (c:Nat) (v4:AV) (d O:List Nat) (x5 x9:AV),l.drop k=r→k≤l.length→d.length=k→Ac s.next s s'→c<4294967296→d++JZ r x c=T→Fy 76 1 s' v4 d.length (us d) O→(∀j∈O,s.next≤j)→(∀j,Cd v4=some j→s.next≤j) →
   WC E none (.loop KD) Q [x0,Ag x,Ag c,x3,v4,x5,.slice a l.length cap,iv (l.length:Int),iv (k:Int),x9] [] s':=by
 intro r
 induction r with
 | nil =>
  intro k s' c v4 d O x5 x9 hd hk hdl ho hc' hT hD hO hsl
  have hkl:k=l.length:=by
   have:=congrArg List.length hd
   simp at this
   omega
  subst hkl
  refine WC.loop' ?_
  simp only[KD,Py,Rx,Int.lt_irrefl,decide_false,Qa,Qb,Qc,Qd,Qe,Qf,Qg,Qh,Qi,Qj,Qk,Ql,Qm,Qn,true_and,and_true,Qo,Qp,Qq,Qr,Qs,Qt,Qu,Qv,Qw,Qx,Qy,Qz,Ra,Rb,Rc,Rd,Re,Rf,Rg,Rh,Ri,Rj,Rk,Rm,Rn,Ro,Rp,Rq,Rs,Ya,Yb,Yc,Rt,Ru,Za,Yd,Ye,Rx,Ry,Rz,Wa,Wb,Wc,Wd]
  exact hq s' c v4 d O _ _ _ ho hc' hT hD hO hsl
 | cons y r ih =>
  intro k s' c v4 d O x5 x9 hd hk hdl ho hc' hT hD hO hsl
  have hlt:k<l.length:=by
   rcases nm k l.length with h' | h'
   ·exact h'
   ·rw[oo h']at hd;cases hd
  have hy:l[k]? = some y:=by
   have:=congrArg (fun l=>l[0]?) hd
   simpa using this
  have hd':l.drop (k+1)=r:=by
   have:=congrArg (List.drop 1) hd
   simpa[pF]using this
  have hys:y<4294967296:=hs y (oP hy)
  obtain⟨i,o,rfl,hi,hload⟩:=hc k _ (Da hy)
  have hkk:decide ((k:Int)<(l.length:Int))=true:=decide_eq_true (by omega)
  have e1:=An (cap:=cap) (i:=i) (o:=o) Tryz.underlying22 Ct hlt
  have e2:AC Tryz.prog s' 76 (.ptr (some (i,o+k * 1)))=some (Bf y):=CM Hm (by rw[oD,D7 (ho.2 i (by omega))];exact hload)
  have hxy:x * y≤4294967295 * 4294967295:=oq (by omega) (by omega)
  have e3:=Pf Tryz.prog 69 (a:=x) (b:=y) (by omega)
  have e4:=HD Tryz.prog 69 (a:=c) (b:=x * y) (by omega)
  have e5:=JV Tryz.prog 69 (a:=c+x * y) (by omega)
  have e6:(c+x * y) % 4294967296 % 4294967296=(c+x * y) % 4294967296:=qB _ _
  have e7:AT Tryz.prog .shr 69 (Ag (c+x * y)) (.int .u64 32)=some (Ag ((c+x * y) / 4294967296)):=IU Tryz.prog 69 (k:=.u64) (n:=32) (by decide)
  have e8:=Bh Tryz.prog 3 (k:Int) 1 ⟨by omega,by omega⟩
  have e8':((k:Int)+1)=((k+1:Nat):Int):=by omega
  obtain⟨v',s2,O',happ,hD',hn',hf',hO',hsl'⟩:=PH hD ((c+x * y) % 4294967296) (by omega)
  refine WC.loop' ?_
  generalize hW:WC E none (Af.loop KD) Q=WW
  simp only[KD,Py,VC,VD,VE,VF,VG,Rx,hkk,e1,e2,Bi hys,e3,e4,e5,Bx,e6,Fj,Xd,happ,e7,e8,e8',Qa,Qb,Qc,Qd,Qe,Qf,Qg,Qh,Qi,Qj,Qk,Ql,Qm,Qn,true_and,and_true,Qo,Qp,Qq,Qr,Qs,Qt,Qu,Qv,Qw,Qx,Qy,Qz,Ra,Rb,Rc,Rd,Re,Rf,Rg,Rh,Ri,Rj,Rk,Rm,Rn,Ro,Rp,Rq,Rs,Ya,Yb,Yc,Rt,Ru,Za,Yd,Ye,Rx,Ry,Rz,Wa,Wb,Wc,Wd]
  rw[← hW]
  refine ih (k+1) s2 ((c+x * y) / 4294967296) v' (d++[(c+x * y) % 4294967296]) O' _ _ hd' hlt (by rw[oI,hdl];rfl) ⟨by have:=ho.1;omega,fun j hj=>by rw[hf' j (by have:=ho.1;omega) (fun hjO=>by have:=hO j hjO;omega)];exact ho.2 j hj⟩ (by omega) ?_ hD' (fun j hj=>(hO' j hj).elim (hO j) (fun h=>by have:=ho.1;omega)) (fun j hj=>(hsl' j hj).elim (hsl j) (fun h=>by have:=ho.1;omega))
  rw[← hT,oX]
  rfl
theorem j6(hE:GoodN E){v:AV}{l:List Nat}(hv:Cv s v l)(hl:l.length≤10000000000)(hs:Bl l){x c:Nat}(hx:x<4294967296)(hc:c<4294967296){K:AV→AD→Prop}(hK:∀s' v',Ac s.next s s'→NW s.next s' v' (JZ l x c)→K v' s'):
  WF E 137 [v,Ag x,Ag c] K s:=by
 obtain⟨a,cap,rfl,hcap,hcc⟩:=hv
 refine hE.go Zx (by decide) rfl ?_
 simp only[kK,U9,VA,VB,AU Tryz.underlying22,Qa,Qb,Qc,Qd,Qe,Qf,Qg,Qh,Qi,Qj,Qk,Ql,Qm,Qn,true_and,and_true,Qo,Qp,Qq,Qr,Qs,Qt,Qu,Qv,Qw,Qx,Qy,Qz,Ra,Rb,Rc,Rd,Re,Rf,Rg,Rh,Ri,Rj,Rk,Rm,Rn,Ro,Rp,Rq,Rs,Ya,Yb,Yc,Rt,Ru,Za,Yd,Ye,Rx,Ry,Rz,Wa,Wb,Wc,Wd]
 refine Zd hx hcc (nl _) hl hs (T:=JZ l x c) _ _ (fun s' c' v4 d O y5 y8 y9 ho hc' hT hD hO hsl=>?_) l 0 s c _ [] [] _ _ rfl (oB _) rfl (Ac.refl _ _) hc rfl (Fy.nil _ _ s) (fun j hj=>(by cases hj)) (fun j hj=>(by cases hj))
 have hdl:d.length=l.length:=by
  have:=congrArg List.length hT
  have h2:∀ (l:List Nat) (c:Nat),(JZ l x c).length=l.length+1:=by
   intro l
   induction l with
   | nil=>intro c;rfl
   | cons y l ih=>intro c;show(JZ l x _).length+1=_;rw[ih];rfl
  rw[oI,h2]at this
  simpa using this
 obtain⟨v',s2,O',happ,hD',hn',hf',hO',hsl'⟩:=PH hD c' (by omega)
 have e6:c' % 4294967296=c':=oe hc'
 simp only[SF,Bx,e6,Fj,Xd,happ,if_true,Qa,Qb,Qc,Qd,Qe,Qf,Qg,Qh,Qi,Qj,Qk,Ql,Qm,Qn,true_and,and_true,Qo,Qp,Qq,Qr,Qs,Qt,Qu,Qv,Qw,Qx,Qy,Qz,Ra,Rb,Rc,Rd,Re,Rf,Rg,Rh,Ri,Rj,Rk,Rm,Rn,Ro,Rp,Rq,Rs,Ya,Yb,Yc,Rt,Ru,Za,Yd,Ye,Rx,Ry,Rz,Wa,Wb,Wc,Wd]
 rw[hT]at hD'
 refine hK s2 v' ⟨by have:=ho.1;omega,fun j hj=>by rw[hf' j (by have:=ho.1;omega) (fun hjO=>by have:=hO j hjO;omega)];exact ho.2 j hj⟩ ⟨O',hD',fun j hj=>(hO' j hj).elim (hO j) (fun h=>by have:=ho.1;omega)⟩
theorem hJ(hE:GoodN E){v:AV}{l:List Nat}(hv:Cv s v l)(hl:l.length≤10000000000)(hs:Bl l){n:Nat}(hn:n<32){K:AV→AD→Prop}(hK:∀s' v',Ac s.next s s'→NW s.next s' v' (JZ l (2 ^ n) 0)→K v' s'):WF E 95 [v,Ag n] K s:=by
 have h2:2 ^ n≤2 ^ 31:=pm (by decide) (by omega)
 have e31:(2:Nat) ^ 31=2147483648:=by decide
 rw[e31]at h2
 have e1:AT Tryz.prog .shl 69 (.int .u64 1) (Ag n)=some (Ag (2 ^ n)):=by
  have:=Md Tryz.prog 69 (a:=1) (k:=.u64) (n:=n) (by omega) (by rw[pN];omega)
  rw[pN]at this
  exact this
 refine hE.go jL (by decide) rfl ?_
 simp only[ne,fo,ft,e1,Qa,Qb,Qc,Qd,Qe,Qf,Qg,Qh,Qi,Qj,Qk,Ql,Qm,Qn,true_and,and_true,Qo,Qp,Qq,Qr,Qs,Qt,Qu,Qv,Qw,Qx,Qy,Qz,Ra,Rb,Rc,Rd,Re,Rf,Rg,Rh,Ri,Rj,Rk,Rm,Rn,Ro,Rp,Rq,Rs,Ya,Yb,Yc,Rt,Ru,Za,Yd,Ye,Rx,Ry,Rz,Wa,Wb,Wc,Wd]
 refine j6 hE hv hl hs (show 2 ^ n<4294967296 by omega) (show 0<4294967296 by decide) fun s' v' h1 h2=>?_
 simp only[Qa,Qb,Qc,Qd,Qe,Qf,Qg,Qh,Qi,Qj,Qk,Ql,Qm,Qn,true_and,and_true,Qo,Qp,Qq,Qr,Qs,Qt,Qu,Qv,Qw,Qx,Qy,Qz,Ra,Rb,Rc,Rd,Re,Rf,Rg,Rh,Ri,Rj,Rk,Rm,Rn,Ro,Rp,Rq,Rs,Ya,Yb,Yc,Rt,Ru,Za,Yd,Ye,Rx,Ry,Rz,Wa,Wb,Wc,Wd]
 exact hK s' v' h1 h2
end
end
end Go.Proofs.YtjnkfbpadpmakaaGreatDoor.Am
