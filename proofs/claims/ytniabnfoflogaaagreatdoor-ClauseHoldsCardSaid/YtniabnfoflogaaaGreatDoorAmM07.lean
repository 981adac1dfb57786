/- The machine that takes the examples of layer 18 from a table, and the closed law of that layer, run by the kernel; conditions: none. -/
import Derived.Test.YtniabnfoflogaaaGreatDoorAmKTab
import Derived.WideKeyArgs
import Derived.ChangeBears2
import Derived.OpenShut
import GoSem.ClaimJoined
import Derived.Test.YtniabnfoflogaaaGreatDoorAmM04
import Derived.Test.YtniabnfoflogaaaGreatDoorAmM01
set_option linter.unusedVariables false
namespace Go.Proofs.YtniabnfoflogaaaGreatDoor.Am
open Go Go.Proofs
noncomputable section
theorem Kl:Tryz.prog.follows .mixedOrders=true:=by kernel_rfl
theorem JH:Gb Tryz.prog=true:=by kernel_rfl
def Ee:Lc:=F3 [7] N6
theorem J2:Cu Tryz.prog Ee:=J1 Kl (Gc JH) rfl Kk fun r hr=>by
 simp only[N6,List.mem_singleton]at hr
 subst hr
 exact⟨rfl,rfl,MY⟩
def JD:Lc:=fun f xs s=>match Ee f xs s with
 | some p=>some p
 | none=>LJ f xs s
theorem MG:Cu Tryz.prog JD:=by
 intro ρ s w f xs v s1 as' hc hi hf ha
 unfold JD at hc
 cases h:Ee f xs s with
 | some p=>rw[h]at hc;injection hc with hc;subst hc;exact J2 ρ s w f xs v s1 as' h hi hf ha
 | none=>rw[h]at hc;exact Kk ρ s w f xs v s1 as' hc hi hf ha
def Nu:EQ:=⟨Tryz.prog,JD⟩
end
end Go.Proofs.YtniabnfoflogaaaGreatDoor.Am
set_option linter.unusedVariables false
set_option linter.unusedSimpArgs false
set_option maxRecDepth 16000
namespace Go.Proofs.YtniabnfoflogaaaGreatDoor.Am
open Go Go.Proofs
noncomputable section
theorem K1{W:World}{ρ:Aa}{s:AC}{f:FuncId}{xs:List AV}{args:Array Value}(hd:Dl Tryz.prog W ρ s)(ha:AD ρ xs args.toList)(h:WF Nu f xs (fun r _=>r=.bool true) s):
  Calls Tryz.prog f args W fun e W'=>e=.returned (.bool true)∧Hm W W':=by
 obtain⟨n,p,h1,h2⟩:=h
 have:=((Pj Kl (Gc JH) rfl MG n).call ρ s W f xs p.1 p.2 args h1 hd.inv hd.fresh ha).2
 refine callsIn_wide.1 (CallsIn.mono this ?_)
 intro e w' he
 cases e with
 | panicked c=>exact he.elim
 | outgrown=>exact he.elim
 | returned v' =>
  obtain⟨ρ',k1,k2,k3⟩:=he
  rw[h2]at k1
  cases k1
  exact⟨rfl,M3 k3 hd.notOwned⟩
theorem reads_again{H:Type}{enc:TypeId×Value→H}{P:Program}{t:TypeId}(hl:laidOutB P=true)(hr:P.readableRec t=true)(hrow:t<P.types.size){W W':World}{v:Value}{d:DataW H}{ps:List MemPlace}{sp:Nat→Bool}
  (h:DataW.Trod enc P W 0 (fun _=>true) true t v d ps) (hk:Hm W W') (hlt:∀x∈ps,x.block<W.heap.size) (hs:∀x∈ps,sp x.block=true):DataW.Trod enc P W' 0 sp true t v d ps:=
 WideElems.Trod_stays hl hr hrow h (fun x hx=>by
  have:=hlt x hx
  cases x with
  | cell b o=>exact World.cell?_of_block (w:=W) (hk.heap b this)
  | map b=>exact hk.heap b this) hs
theorem Hr{t e:TypeId}(ht:Tryz.prog.underlying t=some (.slice e)){W:World}{base:Nat}{v:Value}(h:Value.okWide Tryz.prog W .any base t v){ρ:Aa}{a:AV}(hr:AD ρ [a] v.cells.toList):AH ρ a v:=by
 have hv:v.cells.toList=[v]:=by
  cases v with
  | agg cs=>simp[Value.okWide,ht,Cell.okWide,Cell.ok]at h
  | _=>rfl
 rw[hv]at hr
 cases hr with
 | cons h _=>exact h
theorem Gz{t e:TypeId}(ht:Tryz.prog.underlying t=some (.slice e)){W:World}{base:Nat}{v:Value}(h:Value.okWide Tryz.prog W .any base t v)(a:Addr)(ha:v.cells.toList=[.slice (some a) 0 0]):0<W.heap.size:=by
 have hv:v=.slice (some a) 0 0:=by
  cases v with
  | agg cs =>
   simp[Value.okWide,ht,Cell.okWide,Cell.ok]at h
  | _ =>
   simp[Value.cells]at ha
   try (obtain⟨e1,e2,e3⟩:=ha;rw[e1,e2,e3])
 subst hv
 simp only[Value.okWide,ht,Cell.okWide,Cell.ok]at h
 obtain⟨_,_,_,_,row,cells,hs,_⟩:=h
 unfold World.shape? at hs
 cases hb:W.heap[a.block]? with
 | none=>rw[hb]at hs;cases hs
 | some o =>
  rcases Pm a.block W.heap.size with h' | h'
  ·omega
  ·rw[Array.getElem?_eq_none h']at hb;cases hb
end
end Go.Proofs.YtniabnfoflogaaaGreatDoor.Am
set_option linter.unusedVariables false
set_option linter.unusedSimpArgs false
namespace Go.Proofs.YtniabnfoflogaaaGreatDoor.Am
open Go
noncomputable section
section
variable{α:Type}
theorem AG.setF_succ(v:Option α)(f:Nat)(t:AG α)(k:Nat):AG.setF v (f+1) t (k+1)=if k % 2=0 then .node t.val (AG.setF v f t.left (k / 2)) t.right else .node t.val t.left (AG.setF v f t.right (k / 2)):=by
 by_cases h:k % 2=0
 ·have hb:Nat.beq (k % 2) 0=true:=by rw[h];rfl
  simp only[AG.setF,hb,cond_true,AG.nodeL_eq,AG.nodeR_eq]
  rw[if_pos h]
 ·have hb:Nat.beq (k % 2) 0=false:=AG.beq_no h
  simp only[AG.setF,hb,cond_false,AG.nodeL_eq,AG.nodeR_eq]
  rw[if_neg h]
theorem AG.setF_fuel   (v : Option α) : ∀ (f g : Nat) (t : AG   α) (k : Nat), k < f → k < g → AG.setF   v f t k = AG.setF   v g t k := by
  intro f
  induction f with
  | zero=>intro g t k h;omega
  | succ f ih =>
    intro g t k h1 h2
    cases g with
    | zero=>omega
    | succ g =>
      cases k with
      | zero=>rfl
      | succ k =>
        rw[AG.setF_succ,AG.setF_succ,ih g t.left (k / 2) (by omega) (by omega),ih g t.right (k / 2) (by omega) (by omega)]
theorem AG.setF_same(v w:Option α):∀ (f:Nat)(t:AG α)(k:Nat),k<f→AG.setF w f (AG.setF v f t k) k=AG.setF w f t k:=by
 intro f
 induction f with
 | zero=>intro t k h;omega
 | succ f ih =>
  intro t k h
  cases k with
  | zero=>rfl
  | succ k =>
   rw[AG.setF_succ,AG.setF_succ,AG.setF_succ]
   by_cases hk:k % 2=0
   ·simp only[hk,if_true,AG.val,AG.left,AG.right];rw[ih _ _ (by omega)]
   ·simp only[hk,if_false,AG.val,AG.left,AG.right];rw[ih _ _ (by omega)]
theorem AG.setF_comm   (v w : Option α) : ∀ (f : Nat) (t : AG   α) (k j : Nat), k < f → j < f → k ≠ j → AG.setF   w f (AG.setF   v f t k) j = AG.setF   v f (AG.setF   w f t j) k := by
  intro f
  induction f with
  | zero=>intro t k j h;omega
  | succ f ih =>
    intro t k j h1 h2 hne
    cases k with
    | zero =>
      cases j with
      | zero=>omega
      | succ j =>
        rw[AG.setF_succ,AG.setF_succ]
        by_cases hj:j % 2=0
        · simp only[hj,if_true,AG.setF,AG.val,AG.left,AG.right]
        · simp only[hj,if_false,AG.setF,AG.val,AG.left,AG.right]
    | succ k =>
      cases j with
      | zero =>
        rw[AG.setF_succ,AG.setF_succ]
        by_cases hk:k % 2=0
        · simp only[hk,if_true,AG.setF,AG.val,AG.left,AG.right]
        · simp only[hk,if_false,AG.setF,AG.val,AG.left,AG.right]
      | succ j =>
        simp only[AG.setF_succ]
        by_cases hk:k % 2=0<;>by_cases hj:j % 2=0
        · simp only[hk,hj,if_true,AG.val,AG.left,AG.right];rw[ih _ _ _ (by omega) (by omega) (by omega)]
        · simp only[hk,hj,if_true,if_false,AG.val,AG.left,AG.right]
        · simp only[hk,hj,if_true,if_false,AG.val,AG.left,AG.right]
        · simp only[hk,hj,if_false,AG.val,AG.left,AG.right];rw[ih _ _ _ (by omega) (by omega) (by omega)]
theorem AG.set_same(t:AG α)(k:Nat)(v w:α):(t.set k v).set k w=t.set k w:=AG.setF_same _ _ _ _ _ (by omega)
theorem AG.set_comm(t:AG α){k j:Nat}(h:k≠j)(v w:α):(t.set k v).set j w=(t.set j w).set k v:=by
 unfold AG.set AG.put
 rw[AG.setF_fuel _ (k+1) (k+j+1) t k (by omega) (by omega),AG.setF_fuel _ (j+1) (k+j+1) _ j (by omega) (by omega),AG.setF_fuel _ (j+1) (k+j+1) t j (by omega) (by omega),AG.setF_fuel _ (k+1) (k+j+1) _ k (by omega) (by omega)]
 exact AG.setF_comm _ _ _ _ _ _ (by omega) (by omega) h
theorem AG.fill_append(l m:List α):∀ (t:AG α)(k:Nat),t.fill k (l++m)=(t.fill k l).fill (k+l.length) m:=by
 induction l with
 | nil=>intro t k;rfl
 | cons a l ih=>intro t k;simp only[QJ,AG.fill,ih,P2];rw[show k+1+l.length=k+(l.length+1)from by omega]
theorem AG.fill_set_below(l:List α):∀ (t:AG α)(k j:Nat)(v:α),j<k→(t.fill k l).set j v=(t.set j v).fill k l:=by
 induction l with
 | nil=>intro t k j v _;rfl
 | cons a l ih =>
  intro t k j v h
  simp only[AG.fill]
  rw[ih _ _ _ _ (by omega),AG.set_comm t (by omega)]
theorem AG.fill_set(l:List α):∀ (t:AG α)(k i:Nat)(v:α),i<l.length→(t.fill k l).set (k+i) v=t.fill k (l.set i v):=by
  induction l with
  | nil=>intro t k i v h;simp at h
  | cons a l ih =>
    intro t k i v h
    cases i with
    | zero =>
      simp only[AG.fill,QB,QS]
      rw[AG.fill_set_below _ _ _ _ _ (by omega),AG.set_same]
    | succ i =>
      simp only[AG.fill,QT]
      rw[show k+(i+1)=k+1+i from by omega]
      exact ih _ _ _ _ (by simpa using h)
end
def Mg(l:List AV):AG AV:=AG.fill .leaf 0 l
theorem M7(l:List AV)(k:Nat):(Mg l).get k=l[k]? := by
 unfold Mg
 rw[AG.get_fill]
 by_cases h:k<l.length
 ·rw[if_pos ⟨Ps _,by omega⟩];rfl
 ·rw[if_neg (by omega),Pr (by omega)];rfl
def C7(cs:List AV)(off:Nat)(vs:List AV):List AV:=match vs with
 | []=>cs
 | v::vs=>C7 (cs.set off v) (off+1) vs
theorem D1:∀ (vs cs:List AV)(off:Nat),(C7 cs off vs).length=cs.length
 | [],_,_=>rfl
 | v::vs,cs,off=>by unfold C7;rw[D1];simp
theorem JJ:∀ (vs cs:List AV)(off:Nat),off+vs.length≤cs.length→(Mg cs).fill off vs=Mg (C7 cs off vs)
 | [],_,_,_=>rfl
 | v::vs,cs,off,h=>by
  simp only[AG.fill,C7]
  have e:(Mg cs).set off v=Mg (cs.set off v):=by
   unfold Mg
   have:=AG.fill_set cs .leaf 0 off v (by simp at h;omega)
   rwa[Pv]at this
  rw[e]
  exact JJ vs _ _ (by simp at h ⊢;omega)
def R(e sz:Nat)(sp:Bool)(cs:List AV):Ad:=.row { elem:=e,sz,n:=cs.length,c:=Mg cs,spare:=sp,mode:=.own,par:=none,bytes:=true }
@[irreducible] def nid (b k:Nat):Nat:=b+k
theorem Ga(b k:Nat):nid b k=b+k:=by unfold nid;rfl
theorem MI(b:Nat):nid b 0=b:=by rw[Ga];rfl
def ext(s:AC)(os:List Ad):AC:={ next:=nid s.next os.length,heap:=s.heap.fill s.next os }
theorem M1(s:AC):ext s []=s:=by
 unfold ext
 rw[QM,MI];rfl
theorem Wp(s:AC)(os:List Ad):(ext s os).next=nid s.next os.length:=rfl
theorem Ws(s:AC)(i:Nat)(o:Ad):(setObj s i o).next=s.next:=rfl
theorem Wo(s:AC)(os:List Ad)(o:Ad):newObj (ext s os) o=ext s (os++[o]):=by
 unfold newObj ext
 simp only[Ga,QQ,P2,QM,AG.fill_append,AG.fill]
 congr 1
theorem Wq{s:AC}{os:List Ad}{b k:Nat}(o:Ad)(hb:s.next=b)(hk:k<os.length):setObj (ext s os) (nid b k) o=ext s (os.set k o):=by
 subst hb
 unfold setObj ext
 simp only[Ga,List.length_set]
 rw[AG.fill_set _ _ _ _ _ hk]
theorem Wk{s:AC}{os:List Ad}{b k:Nat}(hb:s.next=b)(hk:k<os.length):(ext s os).heap.get (nid b k)=os[k]? := by
 subst hb
 show(s.heap.fill s.next os).get _=_
 rw[AG.get_fill,Ga,if_pos (by omega)]
 congr 1
 omega
theorem Wl{s:AC}{os:List Ad}{i:Nat}(hi:i<s.next):(ext s os).heap.get i=s.heap.get i:=by
 show(s.heap.fill s.next os).get _=_
 rw[AG.get_fill,if_neg (by omega)]
def PA:Option Ad→Option Bw
 | some (.row r)=>some r
 | _=>none
def Nx(o:Option Ad)(off:Nat):Option AV:=(PA o).bind fun r=>AE (Nat.blt off r.n) (r.c.get off)
def mapO(kt:TypeId):Option Ad→Option (List (AV×AV))
 | some (.map kt' es)=>AE (Nat.beq kt' kt) (some es)
 | _=>none
theorem NB(s:AC)(i:Nat):rowAt s i=PA (s.heap.get i):=rfl
theorem Wm(e sz:Nat)(sp:Bool)(cs:List AV)(off:Nat):Nx (some (R e sz sp cs)) off=cs[off]? := by
 show AE (Nat.blt off cs.length) ((Mg cs).get off)=_
 rw[M7]
 by_cases h:off<cs.length
 ·have:Nat.blt off cs.length=true:=by rw[Pt];exact h
  rw[this];rfl
 ·have:Nat.blt off cs.length=false:=by
   cases hb:Nat.blt off cs.length with
   | false=>rfl
   | true=>rw[Pt]at hb;exact absurd hb h
  rw[this,Pr (by omega)];rfl
theorem Wh(s:AC)(i off:Nat):Bd s i off []=some s:=rfl
def PC:AV→Option Nat
 | .slice (some (i,_)) _ _=>some i
 | _=>none
theorem NF{P:Program}{e:TypeId}{s:AC}{i:Nat}{cs:List AV}{n:Nat}{cap:Option Nat}{sz:Nat}(ty:TypeId)(z:Nat)(hg:s.heap.get i=some (Dw ty z cs))(hl:cs.length=n * sz):B0 P s e sz (.slice (some (i,0)) n cap)=some (n,cs):=by
 obtain⟨r,h1,h2,_⟩:=FY ty z cs
 rw[h1]at hg
 have:=Ff hg h2 0 cs (by omega) (fun j u hj=>by simpa using hj)
 rw[hl]at this
 simp[B0,LR this]
section
variable{P:Program}{s:AC}{os:List Ad}{b k i o off n t e sz:Nat}{sp:Bool}{cs vs:List AV}
theorem Xe(cs:List AV):(AV.agg cs).cells=cs:=rfl
theorem Xf(q:IntKind)(n:Int):(AV.int q n).cells=[.int q n]:=rfl
theorem Xg(l:List Nat):(AV.str l).cells=[.str l]:=rfl
theorem Xh(x:Bool):(AV.bool x).cells=[.bool x]:=rfl
theorem Xi(m:Option Nat):(AV.map m).cells=[.map m]:=rfl
theorem Xj(a:Option (Nat×Nat)):(AV.ptr a).cells=[.ptr a]:=rfl
theorem Xk(a:Option (Nat×Nat))(n:Nat)(c:Option Nat):(AV.slice a n c).cells=[.slice a n c]:=rfl
theorem Xl(f:FuncId)(a c:List AV):(AV.func f a c).cells=[.func f a c]:=rfl
theorem Xm:Aj []=true:=rfl
theorem Xn(v:AV)(l:List AV):Aj (v::l)=(v.isCell && Aj l):=rfl
theorem Xo(q:IntKind)(n:Int):(AV.int q n).isCell=true:=rfl
theorem Xp(l:List Nat):(AV.str l).isCell=true:=rfl
theorem Xq(x:Bool):(AV.bool x).isCell=true:=rfl
theorem Xr(m:Option Nat):(AV.map m).isCell=true:=rfl
theorem Xs(a:Option (Nat×Nat)):(AV.ptr a).isCell=true:=rfl
theorem Xt(a:Option (Nat×Nat))(n:Nat)(c:Option Nat):(AV.slice a n c).isCell=true:=rfl
theorem Xu(f:FuncId)(a c:List AV):(AV.func f a c).isCell=true:=rfl
theorem Xd{α:Type}(x:Option α):AE true x=x:=rfl
theorem Ml(a b:Nat):Nat.beq a b=decide (a=b):=by
 rw[Bool.eq_iff_iff,decide_eq_true_eq,P9]
theorem Mm(a b:Nat):Nat.ble a b=decide (a≤b):=by
 rw[Bool.eq_iff_iff,decide_eq_true_eq,Pn]
theorem Wd(h:ES P t=some false):AZ P s t (.ptr (some (i,o)))=Nx (s.heap.get i) o:=by
 unfold AZ
 rw[h];rfl
theorem Wf(v:AV):FP P s t (.ptr (some (i,o))) v=(Ah P t).bind fun n=>AE (decide (v.cells.length=n)) (Bd s i o v.cells):=by
 unfold FP
 simp only[Ml]
def PU:Option Ad→Bool
 | some (.row r)=>B5 r.mode && r.par.isNone
 | _=>false
def O7(off:Nat)(vs:List AV):Option Ad→Option Ad
 | some (.row r)=>AE (Nat.ble (off+vs.length) r.n && Aj vs) (some (.row { r with c:=r.c.fill off vs,par:=none }))
 | _=>none
theorem Wi(e sz:Nat)(sp:Bool)(cs:List AV):PU (some (R e sz sp cs))=true:=rfl
theorem Wj(e sz:Nat)(sp:Bool)(cs vs:List AV)(off:Nat):O7 off vs (some (R e sz sp cs))=AE (decide (off+vs.length≤cs.length) && Aj vs) (some (R e sz sp (C7 cs off vs))):=by
 show AE (Nat.ble (off+vs.length) cs.length && Aj vs) (some (Ad.row { elem:=e,sz,n:=cs.length,c:=(Mg cs).fill off vs,spare:=sp,mode:=.own,par:=none,bytes:=true }))=_
 rw[Mm]
 by_cases h:off+vs.length≤cs.length
 ·rw[JJ _ _ _ h]
  simp only[h,decide_true]
  rw[R,D1]
 ·simp only[h,decide_false,Bool.false_and]
  rfl
theorem Wg{v:AV}(h:PU (s.heap.get i)=true):Bd s i off (v::vs)=(O7 off (v::vs) (s.heap.get i)).bind fun o'=>some (setObj s i o'):=by
 unfold Bd
 rw[NB]
 cases hg:s.heap.get i with
 | none=>rw[hg]at h;cases h
 | some ob =>
  rw[hg]at h
  cases ob<;>first | (cases h;done) | skip
  rename_i r
  simp only[PU,Bool.and_eq_true]at h
  have hp:r.par=none:=by cases hh:r.par with | none=>rfl | some _=>rw[hh]at h;simp at h
  show AE (B5 r.mode && Nat.ble (off+(v::vs).length) r.n && Aj (v::vs)) _=(AE (Nat.ble (off+(v::vs).length) r.n && Aj (v::vs)) _).bind _
  rw[h.1,Bool.true_and,Al,hp]
  cases Nat.ble (off+(v::vs).length) r.n && Aj (v::vs)<;>rfl
theorem Wv(cs:List AV)(off:Nat):C7 cs off []=cs:=rfl
theorem Ww(cs:List AV)(off:Nat)(v:AV)(vs:List AV):C7 cs off (v::vs)=C7 (cs.set off v) (off+1) vs:=rfl
theorem Wx(e:TypeId)(v:AV):Lh e v=some (R e 0 false v.cells,.ptr):=rfl
theorem Wy(e:TypeId):E2 P e=(B9 P e).bind fun z=>some (R e 0 false z.cells,.ptr):=rfl
theorem Wz(i:Nat):Made.ptr.val i=.ptr (some (i,0)):=rfl
theorem Xa(i:Nat):Made.map.val i=.map (some i):=rfl
theorem Xb(i n:Nat):(Made.slice n).val i=.slice (some (i,0)) n (some n):=rfl
theorem Xc(a:Nat×Nat):Df (.ptr (some a))=some (.ptr (some a)):=rfl
end
def G5(e:TypeId)(sz:Nat)(s:AC)(v:AV)(n:Nat)(cs:List AV)(O:List Nat):Prop:=
 (v=.slice none 0 (some 0)∧n=0∧cs=[]∧O=[])∨∃i p,v=.slice (some (i,0)) n none∧Dm e 0 s.next s v n sz cs i p∧O=i::p.toList
section
variable{e sz n:Nat}{s s':AC}{v:AV}{cs:List AV}{O:List Nat}
theorem G5.nil(e sz:Nat)(s:AC):G5 e sz s (.slice none 0 (some 0)) 0 [] []:=.inl ⟨rfl,rfl,rfl,rfl⟩
theorem G5.lt  (h : G5  e sz s v n cs O) : ∀ j ∈ O, j < s.next := by
  rcases h with⟨_,_,_,rfl⟩ | ⟨i,p,hv,h,rfl⟩
  · intro j hj;cases hj
  · rcases h.ex with ⟨h1, _⟩ | ⟨_, _, h2, h3, _⟩
    · rw[hv]at h1;cases h1
    · intro j hj
      rcases List.mem_cons.1 hj with rfl | hj
      · exact h2
      · cases p with
        | none=>cases hj
        | some q=>simp at hj;subst hj;exact(h3 _ rfl).2.1
theorem G5.frame(h:G5 e sz s v n cs O)(hn:s.next≤s'.next)(hf:∀j∈O,s'.heap.get j=s.heap.get j):G5 e sz s' v n cs O:=by
 rcases h with h | ⟨i,p,hv,h,rfl⟩
 ·exact .inl h
 ·exact .inr ⟨i,p,hv,(h.mono hn).frame fun _ _=>hf i (by simp),rfl⟩
theorem G5.slice(h:G5 e sz s v n cs O):∃a cap,v=.slice a n cap∧AY s.next s a cs:=by
 rcases h with⟨rfl,rfl,rfl,_⟩ | ⟨i,p,_,h,_⟩
 ·exact⟨none,some 0,rfl,AY.nil⟩
 ·exact h.cells
theorem G5.row(h:G5 e sz s v n cs O):(v=.slice none 0 (some 0)∧n=0∧cs=[])∨∃i r,v=.slice (some (i,0)) n none∧i∈O∧s.heap.get i=some (.row r)∧HF r cs:=by
  rcases h with⟨h1,h2,h3,_⟩ | ⟨i,p,hv,h,rfl⟩
  · exact .inl ⟨h1,h2,h3⟩
  · rcases h.ex with ⟨h1, _⟩ | ⟨_, _, _, _, r, h4, h5, _⟩
    · rw[hv]at h1;cases h1
    · exact .inr ⟨i,r,hv,by simp,h4,h5⟩
theorem G5.append  {P : Program} {st xt by_ : Nat} (ht : P.underlying st = some (.slice e)) (hs : Ah    P e = some sz) (hb : Bj     P e = some by_) (h0 : 0 < sz) (hx : A6           P xt = true) (hz : Be     P e sz = true) (h : G5  e sz s v n cs O)
    {ax:Option (Nat×Nat)} {m:Nat} {cx:Option Nat} {add:List AV} (hm:0<m) (hsrc:B0 P s e sz (.slice ax m cx)=some (m,add)) (ha:add.length=m * sz) (hc:Aj add=true) (h1:(n+m) * by_≤1099511627776) (h2:n+m≤1099511627776):
    ∃v' s' O',BY P s [st,xt] [v,.slice ax m cx]=some (v',s')∧G5 e sz s' v' (n+m) (cs++add) O'∧s'.next=s.next+1∧(∀j,j<s.next→j ∉ O→s'.heap.get j=s.heap.get j)∧(∀j∈O',j∈O∨s.next≤j)∧PC v'=some s.next:=by
  have key:∀ (i:Nat) (p:Option Nat),Dm e 0 s.next s v n sz cs i p→(∀j,j<s.next→j ∉ O→j≠i∧p≠some j)→(∀j,j=i∨p=some j→j∈O∨s.next≤j) →
      ∃v' s' O',BY P s [st,xt] [v,.slice ax m cx]=some (v',s')∧G5 e sz s' v' (n+m) (cs++add) O'∧s'.next=s.next+1∧(∀j,j<s.next→j ∉ O→s'.heap.get j=s.heap.get j)∧(∀j∈O',j∈O∨s.next≤j)∧PC v'=some s.next:=by
    intro i p hg hi hO
    obtain⟨a,cap,v',s',rfl,happ,i',p',hg',hap,_,rfl,hp',hn',_⟩:=hg.appTo (P:=P) (Pl _) (Ps _) hz h0 ha hm
    have hv':v'=.slice (some (s.next,0)) (n+m) none:=by
      rcases hg'.ex with⟨_,h0'⟩ | ⟨h1',_⟩
      · omega
      · exact h1'
    refine⟨v',s',s.next::p'.toList,by rw[Jc ht hs hb h0 hx hsrc hc h1 h2];exact happ,.inr ⟨s.next,p',hv',hg',rfl⟩,hn',fun j hj hjO=>?_,fun j hj=>?_,by rw[hv'];rfl⟩
    · exact hap.2 j hj (hi j hj hjO).1 (hi j hj hjO).2
    · rcases List.mem_cons.1 hj with rfl | hj
      · exact .inr (Pl _)
      · rcases hp' with rfl | rfl
        · cases hj
        · simp at hj;subst hj;exact hO _ (.inl rfl)
  rcases h with⟨rfl,rfl,rfl,rfl⟩ | ⟨i,p,rfl,hg,rfl⟩
  · exact key s.next none (Dm.zero _ _ _ _ _ _ _) (fun j hj _=>⟨by omega,by simp⟩) (fun j hj=>by rcases hj with rfl | hj;exact .inr (Pl _);cases hj)
  · refine key i p hg (fun j hj hjO => ⟨fun e => hjO (by simp [e]), fun e => hjO (by simp [e])⟩) (fun j hj => ?_)
    rcases hj with rfl | rfl<;>simp
end
end
end Go.Proofs.YtniabnfoflogaaaGreatDoor.Am
set_option linter.unusedVariables false
set_option linter.unusedSimpArgs false
set_option maxRecDepth 100000
namespace Go.Proofs.YtniabnfoflogaaaGreatDoor.Am
open Go Go.Proofs
noncomputable section
theorem PG:Ah Tryz.prog 3=some 1:=by kernel_rfl
theorem by3:Bj Tryz.prog 3=some 8:=by kernel_rfl
theorem Pd:ES Tryz.prog 3=some false:=by kernel_rfl
theorem PD:Ah Tryz.prog 4=some 1:=by kernel_rfl
theorem ag4:ES Tryz.prog 4=some false:=by kernel_rfl
theorem Ob:ES Tryz.prog 23=some false:=by kernel_rfl
theorem NG:Ah Tryz.prog 25=some 1:=by kernel_rfl
theorem PK:Bj Tryz.prog 25=some 24:=by kernel_rfl
theorem N7:ES Tryz.prog 25=some false:=by kernel_rfl
theorem PY:Ah Tryz.prog 26=some 1:=by kernel_rfl
theorem N8:ES Tryz.prog 26=some false:=by kernel_rfl
theorem PZ:Ah Tryz.prog 27=some 1:=by kernel_rfl
theorem PJ:ES Tryz.prog 27=some false:=by kernel_rfl
theorem Pa:Ah Tryz.prog 45=some 1:=by kernel_rfl
theorem Oc:ES Tryz.prog 45=some false:=by kernel_rfl
theorem Pc:B9 Tryz.prog 45=some .nilFunc:=by kernel_rfl
def Od:List AM:=[
 ⟨none,.p1 some,[(.const (.bool false))],(.set 3),[]⟩]
def Oe:List AM:=[
 ⟨none,.p1 some,[(.const (.slice none 0 (some 0)))],(.set 4),[]⟩]
def Og:List AM:=[
 ⟨none,.p1 some,[(.const (.int .i64 (0)))],(.set 5),[]⟩]
def Mq:List AM:=[
 ⟨none,.r (fun s l=>match l with | [x]=>Ce Tryz.prog s 22 x | _=>none),[.var 0],.push,[]⟩,
 ⟨none,.p2 (Aw Tryz.prog .lss 3),[.var 5,.loc 0],.push,[]⟩,
 ⟨(some ((.loc 0),true)),.p1 some,[.var 5],.push,[]⟩,
 ⟨(some ((.loc 1),true)),.p2 (Aw Tryz.prog .lss 3),[(.loc 0),(.const (.int .i64 (20)))],.push,[]⟩,
 ⟨none,.p Rs,[(.loc 2),(.loc 0),(.const (.bool false))],(.set 10),[]⟩]
def Oh:List AM:=[
 ⟨none,.p1 some,[(.const (.slice none 0 (some 0)))],(.set 6),[]⟩]
def Oi:List AM:=[
 ⟨none,.p1 some,[(.const (.int .i64 (0)))],(.set 7),[]⟩]
def Mr:List AM:=[
 ⟨none,.p2 (AS Tryz.prog 22),[.var 0,.var 5],.push,[]⟩,
 ⟨none,.r1 (fun s a=>AZ Tryz.prog s 26 a),[.loc 0],.push,[]⟩,
 ⟨none,.r (fun s l=>match l with | [x]=>Ce Tryz.prog s 26 x | _=>none),[.loc 0],.push,[]⟩,
 ⟨none,.p2 (Aw Tryz.prog .lss 3),[.var 7,.loc 0],.push,[]⟩,
 ⟨(some ((.loc 0),true)),.p1 some,[.var 7],.push,[]⟩,
 ⟨(some ((.loc 1),true)),.p2 (Aw Tryz.prog .lss 3),[(.loc 0),(.const (.int .i64 (10)))],.push,[]⟩,
 ⟨none,.p Rs,[(.loc 2),(.loc 0),(.const (.bool false))],(.set 11),[]⟩]
def Oj:List AM:=[
 ⟨none,.p1 some,[.var 6],.push,[]⟩,
 ⟨none,.p2 (AS Tryz.prog 22),[.var 0,.var 5],.push,[]⟩,
 ⟨none,.r1 (fun s a=>AZ Tryz.prog s 26 a),[.loc 0],.push,[]⟩,
 ⟨none,.p2 (AS Tryz.prog 26),[.loc 0,.var 7],.push,[]⟩,
 ⟨none,.r1 (fun s a=>AZ Tryz.prog s 27 a),[.loc 0],.push,[]⟩,
 ⟨none,.r1 (fun s x=>BF Tryz.prog s 27 3 x),[.loc 0],.push,[]⟩,
 ⟨none,.mk (fun l=>(BS Tryz.prog 25 1 (zipIdx [0] l)).bind fun r=>some (r,.slice 1)),[.loc 0],.push,[]⟩,
 ⟨none,.e (fun s l=>BY Tryz.prog s [25,25] l),[.loc 6,.loc 0],.push,[]⟩,
 ⟨none,.p1 some,[.loc 0],(.set 6),[]⟩]
def Ok:List AM:=[
 ⟨none,.p1 some,[.var 7],.push,[]⟩,
 ⟨none,.p2 (Aw Tryz.prog .add 3),[(.loc 0),(.const (.int .i64 (1)))],.push,[]⟩,
 ⟨none,.p1 some,[.loc 0],(.set 7),[]⟩]
def K0:AT:=(.seq (.seq (.ops Mr) (.cond (.var 11)
 .skip
 (.exit 2))) (.seq (.block 3 (.ops Oj)) (.ops Ok)))
def NU:List AM:=[
 ⟨none,.p1 some,[.var 4],.push,[]⟩,
 ⟨none,.mk (fun l=>(BS Tryz.prog 24 1 (zipIdx [0] l)).bind fun r=>some (r,.slice 1)),[.var 6],.push,[]⟩,
 ⟨none,.e (fun s l=>BY Tryz.prog s [24,24] l),[.loc 1,.loc 0],.push,[]⟩,
 ⟨none,.p1 some,[.loc 0],(.set 4),[]⟩]
def NV:List AM:=[
 ⟨none,.p1 some,[.var 5],.push,[]⟩,
 ⟨none,.p2 (Aw Tryz.prog .add 3),[(.loc 0),(.const (.int .i64 (1)))],.push,[]⟩,
 ⟨none,.p1 some,[.loc 0],(.set 5),[]⟩]
def HK:AT:=(.seq (.seq (.ops Mq) (.cond (.var 10)
 .skip
 (.exit 0))) (.seq (.block 1 (.seq (.ops Oh) (.seq (.seq (.ops Oi) (.block 2 (.loop K0))) (.ops NU)))) (.ops NV)))
def NW:List AM:=[
 ⟨none,.p1 some,[.var 1],.push,[]⟩,
 ⟨none,.p1 some,[.var 1],.push,[]⟩,
 ⟨none,.r (fun s l=>match l with | [x]=>Ce Tryz.prog s 23 x | _=>none),[.loc 0],.push,[]⟩,
 ⟨none,.p (fun l=>match l with | v::l=>CV false v l | []=>none),[(.loc 0),(.const (.int .i64 (100)))],.push,[]⟩,
 ⟨none,.r (A8 Tryz.prog 23 false true false),[.loc 3,.loc 0],.push,[]⟩,
 ⟨none,.p1 some,[.loc 0],(.set 1),[]⟩]
def NX:List AM:=[
 ⟨none,.p1 some,[(.const (.int .i64 (0)))],(.set 8),[]⟩]
def KW:List AM:=[
 ⟨none,.r (fun s l=>match l with | [x]=>Ce Tryz.prog s 24 x | _=>none),[.var 2],.push,[]⟩,
 ⟨none,.p2 (Aw Tryz.prog .lss 3),[.var 8,.loc 0],.push,[]⟩,
 ⟨(some ((.loc 0),true)),.p1 some,[.var 8],.push,[]⟩,
 ⟨(some ((.loc 1),true)),.p2 (Aw Tryz.prog .lss 3),[(.loc 0),(.const (.int .i64 (20)))],.push,[]⟩,
 ⟨none,.p Rs,[(.loc 2),(.loc 0),(.const (.bool false))],(.set 12),[]⟩]
def NY:List AM:=[
 ⟨none,.p2 (AS Tryz.prog 24),[.var 2,.var 8],.push,[]⟩,
 ⟨none,.r1 (fun s a=>AZ Tryz.prog s 25 a),[.loc 0],.push,[]⟩,
 ⟨none,.p2 (AS Tryz.prog 24),[.var 2,.var 8],.push,[]⟩,
 ⟨none,.r1 (fun s a=>AZ Tryz.prog s 25 a),[.loc 0],.push,[]⟩,
 ⟨none,.r (fun s l=>match l with | [x]=>Ce Tryz.prog s 25 x | _=>none),[.loc 0],.push,[]⟩,
 ⟨none,.p (fun l=>match l with | v::l=>CV false v l | []=>none),[(.loc 0),(.const (.int .i64 (10)))],.push,[]⟩,
 ⟨none,.r (A8 Tryz.prog 25 false true false),[.loc 4,.loc 0],.push,[]⟩,
 ⟨none,.mk (fun l=>(BS Tryz.prog 24 1 (zipIdx [0] l)).bind fun r=>some (r,.slice 1)),[.loc 0],.push,[]⟩,
 ⟨none,.p1 some,[.loc 0],(.set 9),[]⟩]
def NZ:List AM:=[
 ⟨none,.call 5,[.var 9,.var 1],.push,[]⟩,
 ⟨none,.call 6,[.var 9,.var 1],.push,[]⟩,
 ⟨none,.p2 (Aw Tryz.prog .neq 4),[.loc 1,.loc 0],(.set 13),[]⟩]
def Of:List AM:=[
 ⟨none,.p1 some,[(.const (.bool false))],(.set 3),[]⟩]
def Na:List AM:=[
 ⟨none,.p1 some,[.var 8],.push,[]⟩,
 ⟨none,.p2 (Aw Tryz.prog .add 3),[(.loc 0),(.const (.int .i64 (1)))],.push,[]⟩,
 ⟨none,.p1 some,[.loc 0],(.set 8),[]⟩]
def HL:AT:=(.seq (.seq (.ops KW) (.cond (.var 12)
 .skip
 (.exit 4))) (.seq (.block 5 (.seq (.ops NY) (.seq (.ops NZ) (.cond (.var 13)
 (.seq (.ops Of) .ret)
 .skip)))) (.ops Na)))
def Nb:List AM:=[
 ⟨none,.call 5,[.var 4,.var 1],.push,[]⟩,
 ⟨none,.call 6,[.var 4,.var 1],.push,[]⟩,
 ⟨none,.p2 (Aw Tryz.prog .eql 4),[.loc 1,.loc 0],.push,[]⟩,
 ⟨(some ((.loc 0),true)),.call 7,[],.push,[]⟩,
 ⟨none,.p Rs,[(.loc 1),(.loc 0),(.const (.bool false))],.push,[]⟩,
 ⟨none,.p1 some,[.loc 0],(.set 3),[]⟩]
def c3:CM:=⟨3,14,(.seq (.ops Od) (.seq (.ops Oe) (.seq (.seq (.ops Og) (.block 0 (.loop HK))) (.seq (.ops NW) (.seq (.seq (.ops NX) (.block 4 (.loop HL))) (.seq (.ops Nb) .ret)))))),[((.var 3),none)]⟩
def Ol:List AM:=[
 ⟨none,.mk (fun l=>match l with | [v]=>Lh 23 v | _=>none),[.var 1],(.set 2),[]⟩,
 ⟨none,.p1 some,[(.const (.bool false))],(.set 3),[]⟩]
def Om:List AM:=[
 ⟨none,.p (fun l=>some (.func 18 (l.take 0) (l.drop 0))),[.var 2],.push,[]⟩,
 ⟨none,.mk (fun l=>match l with | []=>E2 Tryz.prog 45 | _=>none),[],(.set 4),[]⟩,
 ⟨none,.e (fun s=>Xv (fun a x=>Xx (FP Tryz.prog s 45 a x))),[.var 4,.loc 0],.push,[]⟩]
def On:List AM:=[
 ⟨none,.p (fun l=>some (.func 20 (l.take 0) (l.drop 0))),[.var 4],.push,[]⟩,
 ⟨none,.call 19,[.var 0,.loc 0],.push,[]⟩,
 ⟨none,.p1 (Ks Tryz.prog Go.UnOp.not),[.loc 0],.push,[]⟩,
 ⟨none,.p1 some,[.loc 0],(.set 3),[]⟩]
def c5:CM:=⟨2,5,(.seq (.ops Ol) (.seq (.ops Om) (.seq (.ops On) .ret))),[((.var 3),none)]⟩
def Oo:List AM:=[
 ⟨none,.p1 some,[(.const (.bool false))],(.set 2),[]⟩]
def Oq:List AM:=[
 ⟨none,.p1 some,[(.const (.int .i64 (0)))],(.set 3),[]⟩]
def N9:List AM:=[
 ⟨none,.r (fun s l=>match l with | [x]=>Ce Tryz.prog s 24 x | _=>none),[.var 0],.push,[]⟩,
 ⟨none,.p2 (Aw Tryz.prog .lss 3),[.var 3,.loc 0],(.set 7),[]⟩]
def Ot:List AM:=[
 ⟨none,.p1 some,[(.const (.bool false))],(.set 4),[]⟩]
def Ou:List AM:=[
 ⟨none,.p1 some,[(.const (.int .i64 (0)))],(.set 5),[]⟩]
def Hz:List AM:=[
 ⟨none,.p2 (AS Tryz.prog 24),[.var 0,.var 3],.push,[]⟩,
 ⟨none,.r1 (fun s a=>AZ Tryz.prog s 25 a),[.loc 0],.push,[]⟩,
 ⟨none,.r (fun s l=>match l with | [x]=>Ce Tryz.prog s 25 x | _=>none),[.loc 0],.push,[]⟩,
 ⟨none,.p2 (Aw Tryz.prog .lss 3),[.var 5,.loc 0],(.set 8),[]⟩]
def In:List AM:=[
 ⟨none,.p2 (AS Tryz.prog 24),[.var 0,.var 3],.push,[]⟩,
 ⟨none,.r1 (fun s a=>AZ Tryz.prog s 25 a),[.loc 0],.push,[]⟩,
 ⟨none,.p2 (AS Tryz.prog 25),[.loc 0,.var 5],.push,[]⟩,
 ⟨none,.r1 (fun s a=>AZ Tryz.prog s 3 a),[.loc 0],.push,[]⟩,
 ⟨none,.p1 some,[.loc 0],(.set 6),[]⟩]
def Io:List AM:=[
 ⟨none,.p2 (Aw Tryz.prog .gtr 3),[(.var 6),(.const (.int .i64 (0)))],.push,[]⟩,
 ⟨(some ((.loc 0),true)),.p1 some,[.var 6],.push,[]⟩,
 ⟨(some ((.loc 1),true)),.p1 some,[.var 1],.push,[]⟩,
 ⟨(some ((.loc 2),true)),.r (fun s l=>match l with | [x]=>Ce Tryz.prog s 23 x | _=>none),[.loc 0],.push,[]⟩,
 ⟨(some ((.loc 3),true)),.p2 (Aw Tryz.prog .leq 3),[.loc 2,.loc 0],.push,[]⟩,
 ⟨none,.p Rs,[(.loc 4),(.loc 0),(.const (.bool false))],.push,[]⟩,
 ⟨(some ((.loc 0),true)),.p1 some,[.var 1],.push,[]⟩,
 ⟨(some ((.loc 1),true)),.p1 some,[.var 6],.push,[]⟩,
 ⟨(some ((.loc 2),true)),.p2 (Aw Tryz.prog .sub 3),[(.loc 0),(.const (.int .i64 (1)))],.push,[]⟩,
 ⟨(some ((.loc 3),true)),.p2 (AS Tryz.prog 23),[.loc 2,.loc 0],.push,[]⟩,
 ⟨(some ((.loc 4),true)),.r1 (fun s a=>AZ Tryz.prog s 4 a),[.loc 0],.push,[]⟩,
 ⟨none,.p Rs,[(.loc 5),(.loc 0),(.const (.bool false))],(.set 9),[]⟩]
def Ms:List AM:=[
 ⟨none,.p1 some,[(.const (.bool true))],(.set 4),[]⟩]
def Ip:List AM:=[
 ⟨none,.p2 (Aw Tryz.prog .lss 3),[(.var 6),(.const (.int .i64 (0)))],.push,[]⟩,
 ⟨(some ((.loc 0),true)),.p1 some,[.var 6],.push,[]⟩,
 ⟨(some ((.loc 1),true)),.p1 some,[.var 1],.push,[]⟩,
 ⟨(some ((.loc 2),true)),.r (fun s l=>match l with | [x]=>Ce Tryz.prog s 23 x | _=>none),[.loc 0],.push,[]⟩,
 ⟨(some ((.loc 3),true)),.p1 (Ks Tryz.prog Go.UnOp.neg),[.loc 0],.push,[]⟩,
 ⟨(some ((.loc 4),true)),.p2 (Aw Tryz.prog .lss 3),[.loc 3,.loc 0],.push,[]⟩,
 ⟨(some ((.loc 5),true)),.p1 some,[.loc 0],.push,[]⟩,
 ⟨(some ((.loc 0),false)),.p1 some,[.var 1],.push,[]⟩,
 ⟨(some ((.loc 1),false)),.p1 some,[.var 6],.push,[]⟩,
 ⟨(some ((.loc 2),false)),.p1 (Ks Tryz.prog Go.UnOp.neg),[.loc 0],.push,[]⟩,
 ⟨(some ((.loc 3),false)),.p2 (Aw Tryz.prog .sub 3),[(.loc 0),(.const (.int .i64 (1)))],.push,[]⟩,
 ⟨(some ((.loc 4),false)),.p2 (AS Tryz.prog 23),[.loc 3,.loc 0],.push,[]⟩,
 ⟨(some ((.loc 5),false)),.r1 (fun s a=>AZ Tryz.prog s 4 a),[.loc 0],.push,[]⟩,
 ⟨(some ((.loc 6),false)),.p1 (Ks Tryz.prog Go.UnOp.not),[.loc 0],.push,[]⟩,
 ⟨(some ((.loc 13),true)),.p Rs,[(.loc 7),(.const (.bool true)),(.loc 0)],.push,[]⟩,
 ⟨none,.p Rs,[(.loc 14),(.loc 0),(.const (.bool false))],(.set 10),[]⟩]
def Im:List AM:=[
 ⟨none,.p1 some,[(.const (.bool true))],(.set 4),[]⟩]
def FU:List AM:=[
 ⟨none,.p1 some,[.var 5],.push,[]⟩,
 ⟨none,.p2 (Aw Tryz.prog .add 3),[(.loc 0),(.const (.int .i64 (1)))],.push,[]⟩,
 ⟨none,.p1 some,[.loc 0],(.set 5),[]⟩]
def DD:AT:=(.seq (.seq (.ops Hz) (.cond (.var 8)
 .skip
 (.exit 2))) (.seq (.block 3 (.seq (.ops In) (.seq (.seq (.ops Io) (.cond (.var 9)
 (.ops Ms)
 .skip)) (.seq (.ops Ip) (.cond (.var 10)
 (.ops Im)
 .skip))))) (.ops FU)))
def Ll:List AM:=[
 ⟨none,.p1 (Ks Tryz.prog Go.UnOp.not),[.var 4],(.set 11),[]⟩]
def Nr:List AM:=[
 ⟨none,.p1 some,[(.const (.bool false))],(.set 2),[]⟩]
def Ns:List AM:=[
 ⟨none,.p1 some,[.var 3],.push,[]⟩,
 ⟨none,.p2 (Aw Tryz.prog .add 3),[(.loc 0),(.const (.int .i64 (1)))],.push,[]⟩,
 ⟨none,.p1 some,[.loc 0],(.set 3),[]⟩]
def Il:AT:=(.seq (.seq (.ops N9) (.cond (.var 7)
 .skip
 (.exit 0))) (.seq (.block 1 (.seq (.ops Ot) (.seq (.seq (.ops Ou) (.block 2 (.loop DD))) (.seq (.ops Ll) (.cond (.var 11)
 (.seq (.ops Nr) .ret)
 .skip))))) (.ops Ns)))
def Nt:List AM:=[
 ⟨none,.p1 some,[(.const (.bool true))],(.set 2),[]⟩]
def c6:CM:=⟨2,12,(.seq (.ops Oo) (.seq (.seq (.ops Oq) (.block 0 (.loop Il))) (.seq (.ops Nt) .ret))),[((.var 2),none)]⟩
def HI:List AM:=[
 ⟨none,.p1 some,[(.const (.bool false))],(.set 2),[]⟩]
def HJ:List AM:=[
 ⟨none,.p2 (Aw Tryz.prog .gtr 3),[(.var 0),(.const (.int .i64 (0)))],(.set 3),[]⟩]
def Li:List AM:=[
 ⟨none,.r1 (fun s a=>AZ Tryz.prog s 23 a),[.var 1],.push,[]⟩,
 ⟨none,.r (fun s l=>match l with | [x]=>Ce Tryz.prog s 23 x | _=>none),[.loc 0],.push,[]⟩,
 ⟨none,.p2 (Aw Tryz.prog .leq 3),[.var 0,.loc 0],.push,[]⟩,
 ⟨(some ((.loc 0),true)),.r1 (fun s a=>AZ Tryz.prog s 23 a),[.var 1],.push,[]⟩,
 ⟨(some ((.loc 1),true)),.p1 some,[.var 0],.push,[]⟩,
 ⟨(some ((.loc 2),true)),.p2 (Aw Tryz.prog .sub 3),[(.loc 0),(.const (.int .i64 (1)))],.push,[]⟩,
 ⟨(some ((.loc 3),true)),.p2 (AS Tryz.prog 23),[.loc 2,.loc 0],.push,[]⟩,
 ⟨(some ((.loc 4),true)),.r1 (fun s a=>AZ Tryz.prog s 4 a),[.loc 0],.push,[]⟩,
 ⟨none,.p Rs,[(.loc 5),(.loc 0),(.const (.bool false))],.push,[]⟩,
 ⟨none,.p1 some,[.loc 0],(.set 2),[]⟩]
def KV:List AM:=[
 ⟨none,.r1 (fun s a=>AZ Tryz.prog s 23 a),[.var 1],.push,[]⟩,
 ⟨none,.r (fun s l=>match l with | [x]=>Ce Tryz.prog s 23 x | _=>none),[.loc 0],.push,[]⟩,
 ⟨none,.p1 (Ks Tryz.prog Go.UnOp.neg),[.loc 0],.push,[]⟩,
 ⟨none,.p2 (Aw Tryz.prog .lss 3),[.var 0,.loc 0],.push,[]⟩,
 ⟨(some ((.loc 0),false)),.p1 some,[.var 0],.push,[]⟩,
 ⟨(some ((.loc 1),false)),.p2 (Aw Tryz.prog .lss 3),[(.loc 0),(.const (.int .i64 (0)))],.push,[]⟩,
 ⟨(some ((.loc 2),false)),.p1 some,[.loc 0],.push,[]⟩,
 ⟨(some ((.loc 0),true)),.r1 (fun s a=>AZ Tryz.prog s 23 a),[.var 1],.push,[]⟩,
 ⟨(some ((.loc 1),true)),.p1 some,[.var 0],.push,[]⟩,
 ⟨(some ((.loc 2),true)),.p1 (Ks Tryz.prog Go.UnOp.neg),[.loc 0],.push,[]⟩,
 ⟨(some ((.loc 3),true)),.p2 (Aw Tryz.prog .sub 3),[(.loc 0),(.const (.int .i64 (1)))],.push,[]⟩,
 ⟨(some ((.loc 4),true)),.p2 (AS Tryz.prog 23),[.loc 3,.loc 0],.push,[]⟩,
 ⟨(some ((.loc 5),true)),.r1 (fun s a=>AZ Tryz.prog s 4 a),[.loc 0],.push,[]⟩,
 ⟨(some ((.loc 6),true)),.p1 (Ks Tryz.prog Go.UnOp.not),[.loc 0],.push,[]⟩,
 ⟨(some ((.loc 10),false)),.p Rs,[(.loc 7),(.loc 0),(.const (.bool false))],.push,[]⟩,
 ⟨none,.p Rs,[(.loc 11),(.const (.bool true)),(.loc 0)],.push,[]⟩,
 ⟨none,.p1 some,[.loc 0],(.set 2),[]⟩]
def OU:CM:=⟨2,4,(.seq (.ops HI) (.seq (.seq (.ops HJ) (.cond (.var 3)
 (.seq (.ops Li) .ret)
 .skip)) (.seq (.ops KV) .ret))),[((.var 2),none)]⟩
def NO:List AM:=[
 ⟨none,.p1 some,[(.const (.bool false))],(.set 2),[]⟩]
def NP:List AM:=[
 ⟨none,.call 48,[.var 0,.var 1],.push,[]⟩,
 ⟨none,.p2 (Aw Tryz.prog .geq 3),[(.loc 0),(.const (.int .i64 (0)))],.push,[]⟩,
 ⟨none,.p1 some,[.loc 0],(.set 2),[]⟩]
def Pe:CM:=⟨2,3,(.seq (.ops NO) (.seq (.ops NP) .ret)),[((.var 2),none)]⟩
def NQ:List AM:=[
 ⟨none,.p1 some,[(.const (.bool false))],(.set 2),[]⟩]
def NR:List AM:=[
 ⟨none,.r1 (fun s a=>AZ Tryz.prog s 45 a),[.var 1],.push,[]⟩,
 ⟨none,.call 21,[.var 0,.loc 0],.push,[]⟩,
 ⟨none,.p1 (Ks Tryz.prog Go.UnOp.not),[.loc 0],.push,[]⟩,
 ⟨none,.p1 some,[.loc 0],(.set 2),[]⟩]
def Pf:CM:=⟨2,3,(.seq (.ops NQ) (.seq (.ops NR) .ret)),[((.var 2),none)]⟩
def NS:List AM:=[
 ⟨none,.p1 some,[(.const (.bool false))],(.set 2),[]⟩]
def NT:List AM:=[
 ⟨none,.call 49,[.var 0,.var 1],.push,[]⟩,
 ⟨none,.p2 (Aw Tryz.prog .geq 3),[(.loc 0),(.const (.int .i64 (0)))],.push,[]⟩,
 ⟨none,.p1 some,[.loc 0],(.set 2),[]⟩]
def Pg:CM:=⟨2,3,(.seq (.ops NS) (.seq (.ops NT) .ret)),[((.var 2),none)]⟩
def Nc:List AM:=[
 ⟨none,.p1 some,[(.const (.int .i64 (0)))],(.set 2),[]⟩]
def Nd:List AM:=[
 ⟨none,.r (fun s l=>match l with | [x]=>Ce Tryz.prog s 24 x | _=>none),[.var 0],(.set 4),[]⟩,
 ⟨none,.p1 some,[(.const (.int .i64 (0)))],(.set 5),[]⟩]
def Lj:List AM:=[
 ⟨none,.p2 (Aw Tryz.prog .lss 3),[.var 5,.var 4],(.set 6),[]⟩]
def Nf:List AM:=[
 ⟨none,.p1 some,[.var 5],(.set 3),[]⟩]
def Ng:List AM:=[
 ⟨none,.p2 (AS Tryz.prog 24),[.var 0,.var 3],.push,[]⟩,
 ⟨none,.r1 (fun s a=>AZ Tryz.prog s 25 a),[.loc 0],.push,[]⟩,
 ⟨none,.callv,[.var 1,.loc 0],(.set 7),[]⟩]
def Nh:List AM:=[
 ⟨none,.p1 some,[.var 3],(.set 2),[]⟩]
def Ni:List AM:=[
 ⟨none,.p2 (Aw Tryz.prog .add 3),[(.var 5),(.const (.int .i64 (1)))],.push,[]⟩,
 ⟨none,.p1 some,[.loc 0],(.set 5),[]⟩]
def Ij:AT:=(.seq (.ops Lj) (.seq (.cond (.var 6)
 .skip
 (.exit 0)) (.seq (.block 1 (.seq (.ops Nf) (.seq (.ops Ng) (.cond (.var 7)
 (.seq (.ops Nh) .ret)
 .skip)))) (.ops Ni))))
def Nj:List AM:=[
 ⟨none,.p1 some,[(.const (.int .i64 (-1)))],(.set 2),[]⟩]
def Ph:CM:=⟨2,8,(.seq (.ops Nc) (.seq (.seq (.ops Nd) (.block 0 (.loop Ij))) (.seq (.ops Nj) .ret))),[((.var 2),none)]⟩
def Nk:List AM:=[
 ⟨none,.p1 some,[(.const (.int .i64 (0)))],(.set 2),[]⟩]
def Nl:List AM:=[
 ⟨none,.r (fun s l=>match l with | [x]=>Ce Tryz.prog s 25 x | _=>none),[.var 0],(.set 4),[]⟩,
 ⟨none,.p1 some,[(.const (.int .i64 (0)))],(.set 5),[]⟩]
def Lk:List AM:=[
 ⟨none,.p2 (Aw Tryz.prog .lss 3),[.var 5,.var 4],(.set 6),[]⟩]
def Nm:List AM:=[
 ⟨none,.p1 some,[.var 5],(.set 3),[]⟩]
def Nn:List AM:=[
 ⟨none,.p2 (AS Tryz.prog 25),[.var 0,.var 3],.push,[]⟩,
 ⟨none,.r1 (fun s a=>AZ Tryz.prog s 3 a),[.loc 0],.push,[]⟩,
 ⟨none,.callv,[.var 1,.loc 0],(.set 7),[]⟩]
def No:List AM:=[
 ⟨none,.p1 some,[.var 3],(.set 2),[]⟩]
def Np:List AM:=[
 ⟨none,.p2 (Aw Tryz.prog .add 3),[(.var 5),(.const (.int .i64 (1)))],.push,[]⟩,
 ⟨none,.p1 some,[.loc 0],(.set 5),[]⟩]
def Ik:AT:=(.seq (.ops Lk) (.seq (.cond (.var 6)
 .skip
 (.exit 0)) (.seq (.block 1 (.seq (.ops Nm) (.seq (.ops Nn) (.cond (.var 7)
 (.seq (.ops No) .ret)
 .skip)))) (.ops Np))))
def Nq:List AM:=[
 ⟨none,.p1 some,[(.const (.int .i64 (-1)))],(.set 2),[]⟩]
def Pi:CM:=⟨2,8,(.seq (.ops Nk) (.seq (.seq (.ops Nl) (.block 0 (.loop Ik))) (.seq (.ops Nq) .ret))),[((.var 2),none)]⟩
theorem Ov:Ay Tryz.prog 3=some c3:=by kernel_rfl
theorem Ow:Ay Tryz.prog 5=some c5:=by kernel_rfl
theorem Ox:Ay Tryz.prog 6=some c6:=by kernel_rfl
theorem OA:Ay Tryz.prog 18=some OU:=by kernel_rfl
theorem OC:Ay Tryz.prog 19=some Pe:=by kernel_rfl
theorem OD:Ay Tryz.prog 20=some Pf:=by kernel_rfl
theorem OE:Ay Tryz.prog 21=some Pg:=by kernel_rfl
theorem OF:Ay Tryz.prog 48=some Ph:=by kernel_rfl
theorem OG:Ay Tryz.prog 49=some Pi:=by kernel_rfl
end
end Go.Proofs.YtniabnfoflogaaaGreatDoor.Am
set_option linter.unusedVariables false
set_option linter.unusedSimpArgs false
set_option maxRecDepth 8000
namespace Go.Proofs.YtniabnfoflogaaaGreatDoor.Am
open Go Go.Proofs
noncomputable section
structure CN(E:EQ):Prop where
 P:E.P=Tryz.prog
 nat:∀ (f:FuncId) (xs:List AV) (s:AC),f ∉ [7,59]→E.nat f xs s=none
 works:∀s,E.nat 7 [] s=some (.bool true,s)
theorem CN.go{E:EQ}(hE:CN E){f:FuncId}{xs:List AV}{cf:CM}{K:AV→AC→Prop}{s:AC}(hf:Ay Tryz.prog f=some cf)(hne:f ∉ [7,59])(ha:xs.length=cf.na)(h:Qa E none cf.body (Ends Tryz.prog cf.results K) (Ql xs cf.nv) [] s):WF E f xs K s:=
 WF.body' (hE.nat f xs s hne) (by rw[hE.P];exact hf) ha (by rw[hE.P];exact h)
theorem WF.native{E:EQ}{f:FuncId}{xs:List AV}{K:AV→AC→Prop}{s s':AC}{v:AV}(h:E.nat f xs s=some (v,s'))(k:K v s'):WF E f xs K s:=by
 refine⟨1,(v,s'),?_,k⟩
 show D2 E _ f xs s=_
 unfold D2
 rw[h]
def BC(on:List Bool)(x:Int):Bool:=if 0<x then decide (x≤(on.length:Int)) && on.getD (x - 1).toNat false else decide (x < -(on.length:Int)) || (decide (x<0) && !on.getD (-x - 1).toNat false)
def H5(on:List Bool)(c:List Int):Bool:=c.any (BC on)
def D9(on:List Bool)(ls:List (List Int)):Bool:=ls.all (H5 on)
def FC(l:List Int):List AV:=l.map iv
theorem Da(l:List Int):(FC l).length=l.length:=by simp[FC]
theorem EZ{l:List Int}{k:Nat}{x:Int}(h:l[k]? = some x):(FC l)[k]? = some (iv x):=by simp[FC,h]
def Cd(s:AC)(v:AV)(ls:List (List Int)):Prop:=
 ∃us:List AV,us.length=ls.length∧AP s.next s v us∧∀ (k:Nat) (u:AV) (c:List Int),us[k]? = some u→ls[k]? = some c→AP s.next s u (FC c)
theorem Cd.old{s s':AC}{v:AV}{ls:List (List Int)}(h:Cd s v ls)(k:Cb s.next s s'):Cd s' v ls:=by
 obtain⟨us,h1,h2,h3⟩:=h
 exact⟨us,h1,(h2.old k (Pl _)).mono k.1,fun i u c hu hc=>((h3 i u c hu hc).old k (Pl _)).mono k.1⟩
theorem EX{α:Type}{l:List α}{k:Nat}(h:l.drop k=[])(hk:k≤l.length):k=l.length:=by
 have:=congrArg List.length h
 simp at this
 omega
theorem Cy{α:Type}{l m:List α}{x:α}{k:Nat}(h:l.drop k=x::m):k<l.length∧l[k]? = some x∧l.drop (k+1)=m:=by
 have hk:k<l.length:=by
  rcases Pm k l.length with h' | h'
  ·exact h'
  ·rw[List.drop_eq_nil_of_le h']at h;cases h
 rw[List.drop_eq_getElem_cons hk]at h
 injection h with h1 h2
 exact⟨hk,by rw[Po hk,h1],h2⟩
def A7{α:Type}(f:α→Bool):List α→Nat→Option Nat
 | [],_=>none
 | x::l,k=>if f x=true then some k else A7 f l (k+1)
theorem DL{α:Type}{f:α→Bool}:∀ (l:List α)(k:Nat),(A7 f l k).isSome=l.any f
 | [],_=>rfl
 | x::l,k=>by
  unfold A7
  cases hf:f x with
  | true=>simp[hf]
  | false=>simp[hf,DL l (k+1)]
def G8:Option Nat→AV
 | none=>iv (-1)
 | some k=>iv (k:Int)
section
variable{E:EQ}{s:AC}{b:Nat}{g:FuncId}{cp:List AV}
theorem Ix(hE:CN E){L:List Int}{f:Int→Bool}(hg:∀q∈L,WF E g (iv q::cp) (fun r s'=>r=.bool (f q)∧s=s') s)(hlen:L.length<9223372036854775808){a:Option (Nat×Nat)}{cap:Option Nat}(hc:AY b s a (FC L)){Q:Af→Prop}(x2:AV):
    ∀ (l : List Int) (k : Nat) (x3 x6 x7 : AV), L.drop k = l → k ≤ L.length →
      (A7 f l k=none→∀ (y3 y5 y6 y7:AV),Q ⟨.exit 0,[.slice a L.length cap,.func g [] cp,x2,y3,iv (L.length:Int),y5,y6,y7],[],s⟩) →
      (∀i,A7 f l k=some i→∀ (y3 y5 y6 y7:AV),Q ⟨.ret,[.slice a L.length cap,.func g [] cp,iv (i:Int),y3,iv (L.length:Int),y5,y6,y7],[],s⟩) →
      WC E none (.loop Ik) Q [.slice a L.length cap,.func g [] cp,x2,x3,iv (L.length:Int),iv (k:Int),x6,x7] [] s:=by
  intro l
  induction l with
  | nil =>
    intro k x3 x6 x7 hd hk hq _
    have:=EX hd hk
    subst this
    refine WC.loop' ?_
    simp only[Ik,Lk,Rw,Int.lt_irrefl,decide_false,Qa,Qb,Qc,Qd,Qe,Qf,Qg,Qh,Qi,Qj,Qk,Ql,Qm,Qn,true_and,and_true,Qo,Qp,Qq,Qr,Qs,Qt,Qu,Qv,Qw,Qx,Qy,Qz,Ra,Rb,Rc,Rd,Re,Rf,Rg,Rh,Ri,Rj,Rk,Rl,Rm,Rn,Ro,Rp,Rq,Ya,Yb,Yc,Rs,Rt,Xy,Yd,Ye,Rw,Rx,Ry,Rz,Wa,Wb,Wc]
    exact hq rfl _ _ _ _
  | cons x l ih =>
    intro k x3 x6 x7 hd hk hq hr
    obtain⟨hlt,hx,hd'⟩:=Cy hd
    obtain⟨i,o,rfl,hi,hload⟩:=hc k _ (EZ hx)
    have hxm:x∈L:=P1 hx
    have e1:=BB (cap:=cap) (i:=i) (o:=o) Tryz.underlying25 PG hlt
    have e2:AZ Tryz.prog s 3 (.ptr (some (i,o+k * 1)))=some (iv x):=Bz Pd (by rw[P4];exact hload)
    have hkk:decide ((k:Int)<(L.length:Int))=true:=decide_eq_true (by omega)
    have e3:=Cw Tryz.prog 3 (k:Int) 1 ⟨by omega,by omega⟩
    have e3':((k:Int)+1)=((k+1:Nat):Int):=by omega
    refine WC.loop' ?_
    generalize hW:WC E none (AT.loop Ik) Q=WW
    simp only[Ik,Lk,Nm,Nn,Rw,hkk,e1,e2,QI,List.append_nil,QJ,Qa,Qb,Qc,Qd,Qe,Qf,Qg,Qh,Qi,Qj,Qk,Ql,Qm,Qn,true_and,and_true,Qo,Qp,Qq,Qr,Qs,Qt,Qu,Qv,Qw,Qx,Qy,Qz,Ra,Rb,Rc,Rd,Re,Rf,Rg,Rh,Ri,Rj,Rk,Rl,Rm,Rn,Ro,Rp,Rq,Ya,Yb,Yc,Rs,Rt,Xy,Yd,Ye,Rw,Rx,Ry,Rz,Wa,Wb,Wc]
    refine(hg x hxm).mono ?_
    rintro _ _ ⟨rfl,rfl⟩
    cases hf:f x with
    | true =>
      have ef:A7 f (x::l) k=some k:=by unfold A7;rw[if_pos hf]
      simp only[No,Qa,Qb,Qc,Qd,Qe,Qf,Qg,Qh,Qi,Qj,Qk,Ql,Qm,Qn,true_and,and_true,Qo,Qp,Qq,Qr,Qs,Qt,Qu,Qv,Qw,Qx,Qy,Qz,Ra,Rb,Rc,Rd,Re,Rf,Rg,Rh,Ri,Rj,Rk,Rl,Rm,Rn,Ro,Rp,Rq,Ya,Yb,Yc,Rs,Rt,Xy,Yd,Ye,Rw,Rx,Ry,Rz,Wa,Wb,Wc]
      exact hr k ef _ _ _ _
    | false =>
      have ef:A7 f (x::l) k=A7 f l (k+1):=by rw[A7,if_neg (by rw[hf];decide)]
      simp only[Np,e3,e3',Qa,Qb,Qc,Qd,Qe,Qf,Qg,Qh,Qi,Qj,Qk,Ql,Qm,Qn,true_and,and_true,Qo,Qp,Qq,Qr,Qs,Qt,Qu,Qv,Qw,Qx,Qy,Qz,Ra,Rb,Rc,Rd,Re,Rf,Rg,Rh,Ri,Rj,Rk,Rl,Rm,Rn,Ro,Rp,Rq,Ya,Yb,Yc,Rs,Rt,Xy,Yd,Ye,Rw,Rx,Ry,Rz,Wa,Wb,Wc]
      rw[← hW]
      rw[ef]at hq hr
      exact ih (k+1) _ _ _ hd' hlt hq hr
theorem K9(hE:CN E){L:List Int}{f:Int→Bool}(hg:∀q∈L,WF E g (iv q::cp) (fun r s'=>r=.bool (f q)∧s=s') s)(hlen:L.length<9223372036854775808){v:AV}(hv:AP b s v (FC L)):
  WF E 49 [v,.func g [] cp] (fun r s'=>r=G8 (A7 f L 0)∧s=s') s:=by
 obtain⟨a,cap,rfl,hc⟩:=hv
 rw[Da]
 refine hE.go OG (by decide) rfl ?_
 simp only[Pi,Nk,Nl,AO Tryz.underlying25,Qa,Qb,Qc,Qd,Qe,Qf,Qg,Qh,Qi,Qj,Qk,Ql,Qm,Qn,true_and,and_true,Qo,Qp,Qq,Qr,Qs,Qt,Qu,Qv,Qw,Qx,Qy,Qz,Ra,Rb,Rc,Rd,Re,Rf,Rg,Rh,Ri,Rj,Rk,Rl,Rm,Rn,Ro,Rp,Rq,Ya,Yb,Yc,Rs,Rt,Xy,Yd,Ye,Rw,Rx,Ry,Rz,Wa,Wb,Wc]
 refine Ix hE hg hlen hc _ L 0 _ _ _ rfl (Ps _) ?_ ?_
 ·intro hn y3 y5 y6 y7
  rw[hn]
  simp only[Nq,if_true,G8,Qa,Qb,Qc,Qd,Qe,Qf,Qg,Qh,Qi,Qj,Qk,Ql,Qm,Qn,true_and,and_true,Qo,Qp,Qq,Qr,Qs,Qt,Qu,Qv,Qw,Qx,Qy,Qz,Ra,Rb,Rc,Rd,Re,Rf,Rg,Rh,Ri,Rj,Rk,Rl,Rm,Rn,Ro,Rp,Rq,Ya,Yb,Yc,Rs,Rt,Xy,Yd,Ye,Rw,Rx,Ry,Rz,Wa,Wb,Wc]
 ·intro i hi y3 y5 y6 y7
  rw[hi]
  simp only[G8,Qa,Qb,Qc,Qd,Qe,Qf,Qg,Qh,Qi,Qj,Qk,Ql,Qm,Qn,true_and,and_true,Qo,Qp,Qq,Qr,Qs,Qt,Qu,Qv,Qw,Qx,Qy,Qz,Ra,Rb,Rc,Rd,Re,Rf,Rg,Rh,Ri,Rj,Rk,Rl,Rm,Rn,Ro,Rp,Rq,Ya,Yb,Yc,Rs,Rt,Xy,Yd,Ye,Rw,Rx,Ry,Rz,Wa,Wb,Wc]
theorem L5(hE:CN E){L:List Int}{f:Int→Bool}(hg:∀q∈L,WF E g (iv q::cp) (fun r s'=>r=.bool (f q)∧s=s') s)(hlen:L.length<9223372036854775808){v:AV}(hv:AP b s v (FC L)):
  WF E 21 [v,.func g [] cp] (fun r s'=>r=.bool (L.any f)∧s=s') s:=by
 refine hE.go OE (by decide) rfl ?_
 simp only[Pg,NS,NT,Qa,Qb,Qc,Qd,Qe,Qf,Qg,Qh,Qi,Qj,Qk,Ql,Qm,Qn,true_and,and_true,Qo,Qp,Qq,Qr,Qs,Qt,Qu,Qv,Qw,Qx,Qy,Qz,Ra,Rb,Rc,Rd,Re,Rf,Rg,Rh,Ri,Rj,Rk,Rl,Rm,Rn,Ro,Rp,Rq,Ya,Yb,Yc,Rs,Rt,Xy,Yd,Ye,Rw,Rx,Ry,Rz,Wa,Wb,Wc]
 refine(K9 hE hg hlen hv).mono ?_
 rintro _ _ ⟨rfl,rfl⟩
 rw[← DL L 0]
 cases hf:A7 f L 0 with
 | none=>simp only[G8,Rz,show decide ((0:Int)≤-1)=false from rfl,Option.isSome,Qa,Qb,Qc,Qd,Qe,Qf,Qg,Qh,Qi,Qj,Qk,Ql,Qm,Qn,true_and,and_true,Qo,Qp,Qq,Qr,Qs,Qt,Qu,Qv,Qw,Qx,Qy,Qz,Ra,Rb,Rc,Rd,Re,Rf,Rg,Rh,Ri,Rj,Rk,Rl,Rm,Rn,Ro,Rp,Rq,Ya,Yb,Yc,Rs,Rt,Xy,Yd,Ye,Rw,Rx,Ry,Rz,Wa,Wb,Wc]
 | some i=>simp only[G8,Rz,show decide ((0:Int)≤(i:Int))=true from decide_eq_true (by omega),Option.isSome,Qa,Qb,Qc,Qd,Qe,Qf,Qg,Qh,Qi,Qj,Qk,Ql,Qm,Qn,true_and,and_true,Qo,Qp,Qq,Qr,Qs,Qt,Qu,Qv,Qw,Qx,Qy,Qz,Ra,Rb,Rc,Rd,Re,Rf,Rg,Rh,Ri,Rj,Rk,Rl,Rm,Rn,Ro,Rp,Rq,Ya,Yb,Yc,Rs,Rt,Xy,Yd,Ye,Rw,Rx,Ry,Rz,Wa,Wb,Wc]
theorem Iw(hE:CN E){U:List AV}{f:AV→Bool}(hg:∀u∈U,WF E g (u::cp) (fun r s'=>r=.bool (f u)∧s=s') s)(hlen:U.length<9223372036854775808){a:Option (Nat×Nat)}{cap:Option Nat}(hc:AY b s a U){Q:Af→Prop}(x2:AV):
    ∀ (l : List AV) (k : Nat) (x3 x6 x7 : AV), U.drop k = l → k ≤ U.length →
      (A7 f l k=none→∀ (y3 y5 y6 y7:AV),Q ⟨.exit 0,[.slice a U.length cap,.func g [] cp,x2,y3,iv (U.length:Int),y5,y6,y7],[],s⟩) →
      (∀i,A7 f l k=some i→∀ (y3 y5 y6 y7:AV),Q ⟨.ret,[.slice a U.length cap,.func g [] cp,iv (i:Int),y3,iv (U.length:Int),y5,y6,y7],[],s⟩) →
      WC E none (.loop Ij) Q [.slice a U.length cap,.func g [] cp,x2,x3,iv (U.length:Int),iv (k:Int),x6,x7] [] s:=by
  intro l
  induction l with
  | nil =>
    intro k x3 x6 x7 hd hk hq _
    have:=EX hd hk
    subst this
    refine WC.loop' ?_
    simp only[Ij,Lj,Rw,Int.lt_irrefl,decide_false,Qa,Qb,Qc,Qd,Qe,Qf,Qg,Qh,Qi,Qj,Qk,Ql,Qm,Qn,true_and,and_true,Qo,Qp,Qq,Qr,Qs,Qt,Qu,Qv,Qw,Qx,Qy,Qz,Ra,Rb,Rc,Rd,Re,Rf,Rg,Rh,Ri,Rj,Rk,Rl,Rm,Rn,Ro,Rp,Rq,Ya,Yb,Yc,Rs,Rt,Xy,Yd,Ye,Rw,Rx,Ry,Rz,Wa,Wb,Wc]
    exact hq rfl _ _ _ _
  | cons x l ih =>
    intro k x3 x6 x7 hd hk hq hr
    obtain⟨hlt,hx,hd'⟩:=Cy hd
    obtain⟨i,o,rfl,hi,hload⟩:=hc k _ hx
    have hxm:x∈U:=P1 hx
    have e1:=BB (cap:=cap) (i:=i) (o:=o) Tryz.underlying24 NG hlt
    have e2:AZ Tryz.prog s 25 (.ptr (some (i,o+k * 1)))=some x:=Bz N7 (by rw[P4];exact hload)
    have hkk:decide ((k:Int)<(U.length:Int))=true:=decide_eq_true (by omega)
    have e3:=Cw Tryz.prog 3 (k:Int) 1 ⟨by omega,by omega⟩
    have e3':((k:Int)+1)=((k+1:Nat):Int):=by omega
    refine WC.loop' ?_
    generalize hW:WC E none (AT.loop Ij) Q=WW
    simp only[Ij,Lj,Nf,Ng,Rw,hkk,e1,e2,QI,List.append_nil,QJ,Qa,Qb,Qc,Qd,Qe,Qf,Qg,Qh,Qi,Qj,Qk,Ql,Qm,Qn,true_and,and_true,Qo,Qp,Qq,Qr,Qs,Qt,Qu,Qv,Qw,Qx,Qy,Qz,Ra,Rb,Rc,Rd,Re,Rf,Rg,Rh,Ri,Rj,Rk,Rl,Rm,Rn,Ro,Rp,Rq,Ya,Yb,Yc,Rs,Rt,Xy,Yd,Ye,Rw,Rx,Ry,Rz,Wa,Wb,Wc]
    refine(hg x hxm).mono ?_
    rintro _ _ ⟨rfl,rfl⟩
    cases hf:f x with
    | true =>
      have ef:A7 f (x::l) k=some k:=by unfold A7;rw[if_pos hf]
      simp only[Nh,Qa,Qb,Qc,Qd,Qe,Qf,Qg,Qh,Qi,Qj,Qk,Ql,Qm,Qn,true_and,and_true,Qo,Qp,Qq,Qr,Qs,Qt,Qu,Qv,Qw,Qx,Qy,Qz,Ra,Rb,Rc,Rd,Re,Rf,Rg,Rh,Ri,Rj,Rk,Rl,Rm,Rn,Ro,Rp,Rq,Ya,Yb,Yc,Rs,Rt,Xy,Yd,Ye,Rw,Rx,Ry,Rz,Wa,Wb,Wc]
      exact hr k ef _ _ _ _
    | false =>
      have ef:A7 f (x::l) k=A7 f l (k+1):=by rw[A7,if_neg (by rw[hf];decide)]
      simp only[Ni,e3,e3',Qa,Qb,Qc,Qd,Qe,Qf,Qg,Qh,Qi,Qj,Qk,Ql,Qm,Qn,true_and,and_true,Qo,Qp,Qq,Qr,Qs,Qt,Qu,Qv,Qw,Qx,Qy,Qz,Ra,Rb,Rc,Rd,Re,Rf,Rg,Rh,Ri,Rj,Rk,Rl,Rm,Rn,Ro,Rp,Rq,Ya,Yb,Yc,Rs,Rt,Xy,Yd,Ye,Rw,Rx,Ry,Rz,Wa,Wb,Wc]
      rw[← hW]
      rw[ef]at hq hr
      exact ih (k+1) _ _ _ hd' hlt hq hr
theorem K8(hE:CN E){U:List AV}{f:AV→Bool}(hg:∀u∈U,WF E g (u::cp) (fun r s'=>r=.bool (f u)∧s=s') s)(hlen:U.length<9223372036854775808){v:AV}(hv:AP b s v U):
  WF E 48 [v,.func g [] cp] (fun r s'=>r=G8 (A7 f U 0)∧s=s') s:=by
 obtain⟨a,cap,rfl,hc⟩:=hv
 refine hE.go OF (by decide) rfl ?_
 simp only[Ph,Nc,Nd,AO Tryz.underlying24,Qa,Qb,Qc,Qd,Qe,Qf,Qg,Qh,Qi,Qj,Qk,Ql,Qm,Qn,true_and,and_true,Qo,Qp,Qq,Qr,Qs,Qt,Qu,Qv,Qw,Qx,Qy,Qz,Ra,Rb,Rc,Rd,Re,Rf,Rg,Rh,Ri,Rj,Rk,Rl,Rm,Rn,Ro,Rp,Rq,Ya,Yb,Yc,Rs,Rt,Xy,Yd,Ye,Rw,Rx,Ry,Rz,Wa,Wb,Wc]
 refine Iw hE hg hlen hc _ U 0 _ _ _ rfl (Ps _) ?_ ?_
 ·intro hn y3 y5 y6 y7
  rw[hn]
  simp only[Nj,if_true,G8,Qa,Qb,Qc,Qd,Qe,Qf,Qg,Qh,Qi,Qj,Qk,Ql,Qm,Qn,true_and,and_true,Qo,Qp,Qq,Qr,Qs,Qt,Qu,Qv,Qw,Qx,Qy,Qz,Ra,Rb,Rc,Rd,Re,Rf,Rg,Rh,Ri,Rj,Rk,Rl,Rm,Rn,Ro,Rp,Rq,Ya,Yb,Yc,Rs,Rt,Xy,Yd,Ye,Rw,Rx,Ry,Rz,Wa,Wb,Wc]
 ·intro i hi y3 y5 y6 y7
  rw[hi]
  simp only[G8,Qa,Qb,Qc,Qd,Qe,Qf,Qg,Qh,Qi,Qj,Qk,Ql,Qm,Qn,true_and,and_true,Qo,Qp,Qq,Qr,Qs,Qt,Qu,Qv,Qw,Qx,Qy,Qz,Ra,Rb,Rc,Rd,Re,Rf,Rg,Rh,Ri,Rj,Rk,Rl,Rm,Rn,Ro,Rp,Rq,Ya,Yb,Yc,Rs,Rt,Xy,Yd,Ye,Rw,Rx,Ry,Rz,Wa,Wb,Wc]
theorem L4(hE:CN E){U:List AV}{f:AV→Bool}(hg:∀u∈U,WF E g (u::cp) (fun r s'=>r=.bool (f u)∧s=s') s)(hlen:U.length<9223372036854775808){v:AV}(hv:AP b s v U):
  WF E 19 [v,.func g [] cp] (fun r s'=>r=.bool (U.any f)∧s=s') s:=by
 refine hE.go OC (by decide) rfl ?_
 simp only[Pe,NO,NP,Qa,Qb,Qc,Qd,Qe,Qf,Qg,Qh,Qi,Qj,Qk,Ql,Qm,Qn,true_and,and_true,Qo,Qp,Qq,Qr,Qs,Qt,Qu,Qv,Qw,Qx,Qy,Qz,Ra,Rb,Rc,Rd,Re,Rf,Rg,Rh,Ri,Rj,Rk,Rl,Rm,Rn,Ro,Rp,Rq,Ya,Yb,Yc,Rs,Rt,Xy,Yd,Ye,Rw,Rx,Ry,Rz,Wa,Wb,Wc]
 refine(K8 hE hg hlen hv).mono ?_
 rintro _ _ ⟨rfl,rfl⟩
 rw[← DL U 0]
 cases hf:A7 f U 0 with
 | none=>simp only[G8,Rz,show decide ((0:Int)≤-1)=false from rfl,Option.isSome,Qa,Qb,Qc,Qd,Qe,Qf,Qg,Qh,Qi,Qj,Qk,Ql,Qm,Qn,true_and,and_true,Qo,Qp,Qq,Qr,Qs,Qt,Qu,Qv,Qw,Qx,Qy,Qz,Ra,Rb,Rc,Rd,Re,Rf,Rg,Rh,Ri,Rj,Rk,Rl,Rm,Rn,Ro,Rp,Rq,Ya,Yb,Yc,Rs,Rt,Xy,Yd,Ye,Rw,Rx,Ry,Rz,Wa,Wb,Wc]
 | some i=>simp only[G8,Rz,show decide ((0:Int)≤(i:Int))=true from decide_eq_true (by omega),Option.isSome,Qa,Qb,Qc,Qd,Qe,Qf,Qg,Qh,Qi,Qj,Qk,Ql,Qm,Qn,true_and,and_true,Qo,Qp,Qq,Qr,Qs,Qt,Qu,Qv,Qw,Qx,Qy,Qz,Ra,Rb,Rc,Rd,Re,Rf,Rg,Rh,Ri,Rj,Rk,Rl,Rm,Rn,Ro,Rp,Rq,Ya,Yb,Yc,Rs,Rt,Xy,Yd,Ye,Rw,Rx,Ry,Rz,Wa,Wb,Wc]
end
end
end Go.Proofs.YtniabnfoflogaaaGreatDoor.Am
set_option linter.unusedVariables false
set_option linter.unusedSimpArgs false
set_option maxRecDepth 12000
namespace Go.Proofs.YtniabnfoflogaaaGreatDoor.Am
open Go Go.Proofs
noncomputable section
section
variable{E:EQ}{s:AC}{b c:Nat}
theorem Fv{on:List Bool}{a:Option (Nat×Nat)}(hc:AY s.next s a (on.map .bool)){k:Nat}(hk:k<on.length):∃i o,a=some (i,o)∧AZ Tryz.prog s 4 (.ptr (some (i,o+k * 1)))=some (.bool (on.getD k false)):=by
 obtain⟨i,o,rfl,_,h⟩:=hc k (.bool (on.getD k false)) (by simp[hk,List.getD_eq_getElem?_getD])
 exact⟨i,o,rfl,Bz ag4 (by rw[P4];exact h)⟩
theorem M2      (hE : CN    E) {on : List Bool} {o : AV} (hb : AZ    Tryz.prog s 23 (.ptr (some (b, 0))) = some o) (ho : AP      s.next s o (on.map .bool)) (hl : on.length < 9223372036854775808) {q : Int} (hq : i64 q) :
    WF E 18 [iv q,.ptr (some (b,0))] (fun r s'=>r=.bool (BC on q)∧s=s') s:=by
  obtain⟨a,cap,rfl,hc⟩:=ho
  rw[QC]at hb
  obtain⟨q1,q2⟩:=hq
  refine hE.go OA (by decide) rfl ?_
  by_cases h0:0<q
  · have d0:decide (0<q)=true:=decide_eq_true h0
    by_cases h1:q≤(on.length:Int)
    · have d1:decide (q≤(on.length:Int))=true:=decide_eq_true h1
      obtain⟨k,rfl⟩:∃k:Nat,q=(k:Int)+1:=⟨(q - 1).toNat,by omega⟩
      have hk:k<on.length:=by omega
      obtain⟨i,o,rfl,hload⟩:=Fv hc hk
      have e1:=BB (cap:=cap) (i:=i) (o:=o) Tryz.underlying23 PD hk
      have e2:=Fu Tryz.prog 3 ((k:Int)+1) 1 ⟨by omega,by omega⟩
      have e3:(k:Int)+1 - 1=(k:Int):=by omega
      have hlit:BC on ((k:Int)+1)=on.getD k false:=by
        unfold BC
        rw[if_pos h0,d1,Bool.true_and]
        congr 1
        omega
      simp only[OU,HI,HJ,Li,Rx,Ry,d0,d1,hb,AO Tryz.underlying23,e1,e2,e3,hload,hlit,Qa,Qb,Qc,Qd,Qe,Qf,Qg,Qh,Qi,Qj,Qk,Ql,Qm,Qn,true_and,and_true,Qo,Qp,Qq,Qr,Qs,Qt,Qu,Qv,Qw,Qx,Qy,Qz,Ra,Rb,Rc,Rd,Re,Rf,Rg,Rh,Ri,Rj,Rk,Rl,Rm,Rn,Ro,Rp,Rq,Ya,Yb,Yc,Rs,Rt,Xy,Yd,Ye,Rw,Rx,Ry,Rz,Wa,Wb,Wc]
    · have d1 : decide (q ≤ (on.length : Int)) = false := decide_eq_false h1
      have hlit:BC on q=false:=by
        unfold BC
        rw[if_pos h0,d1,Bool.false_and]
      simp only[OU,HI,HJ,Li,Rx,Ry,d0,d1,hb,AO Tryz.underlying23,hlit,Qa,Qb,Qc,Qd,Qe,Qf,Qg,Qh,Qi,Qj,Qk,Ql,Qm,Qn,true_and,and_true,Qo,Qp,Qq,Qr,Qs,Qt,Qu,Qv,Qw,Qx,Qy,Qz,Ra,Rb,Rc,Rd,Re,Rf,Rg,Rh,Ri,Rj,Rk,Rl,Rm,Rn,Ro,Rp,Rq,Ya,Yb,Yc,Rs,Rt,Xy,Yd,Ye,Rw,Rx,Ry,Rz,Wa,Wb,Wc]
  · have d0 : decide (0 < q) = false := decide_eq_false h0
    have e0:=IX Tryz.prog (on.length:Int) ⟨by omega,by omega⟩
    by_cases h1:q < -(on.length:Int)
    · have d1 : decide (q < -(on.length : Int)) = true := decide_eq_true h1
      have hlit:BC on q=true:=by
        unfold BC
        rw[if_neg h0,d1,Bool.true_or]
      simp only[OU,HI,HJ,KV,Rx,Rw,d0,d1,e0,hb,AO Tryz.underlying23,hlit,Qa,Qb,Qc,Qd,Qe,Qf,Qg,Qh,Qi,Qj,Qk,Ql,Qm,Qn,true_and,and_true,Qo,Qp,Qq,Qr,Qs,Qt,Qu,Qv,Qw,Qx,Qy,Qz,Ra,Rb,Rc,Rd,Re,Rf,Rg,Rh,Ri,Rj,Rk,Rl,Rm,Rn,Ro,Rp,Rq,Ya,Yb,Yc,Rs,Rt,Xy,Yd,Ye,Rw,Rx,Ry,Rz,Wa,Wb,Wc]
    · have d1:decide (q < -(on.length:Int))=false:=decide_eq_false h1
      by_cases h2:q<0
      · have d2:decide (q<0)=true:=decide_eq_true h2
        obtain⟨k,rfl⟩:∃k:Nat,q=-((k:Int)+1):=⟨(-q - 1).toNat,by omega⟩
        have hk:k<on.length:=by omega
        obtain⟨i,o,rfl,hload⟩:=Fv hc hk
        have e1:=BB (cap:=cap) (i:=i) (o:=o) Tryz.underlying23 PD hk
        have e4:=IX Tryz.prog (-((k:Int)+1)) ⟨by omega,by omega⟩
        have e5:- -((k:Int)+1)=(k:Int)+1:=by omega
        have e2:=Fu Tryz.prog 3 ((k:Int)+1) 1 ⟨by omega,by omega⟩
        have e3:(k:Int)+1 - 1=(k:Int):=by omega
        have hlit:BC on (-((k:Int)+1))=!on.getD k false:=by
          unfold BC
          rw[if_neg h0,d1,d2,Bool.false_or,Bool.true_and]
          congr 2
          omega
        simp only[OU,HI,HJ,KV,Rx,Rw,d0,d1,d2,e0,e1,e4,e5,e2,e3,hload,hb,AO Tryz.underlying23,hlit,Qa,Qb,Qc,Qd,Qe,Qf,Qg,Qh,Qi,Qj,Qk,Ql,Qm,Qn,true_and,and_true,Qo,Qp,Qq,Qr,Qs,Qt,Qu,Qv,Qw,Qx,Qy,Qz,Ra,Rb,Rc,Rd,Re,Rf,Rg,Rh,Ri,Rj,Rk,Rl,Rm,Rn,Ro,Rp,Rq,Ya,Yb,Yc,Rs,Rt,Xy,Yd,Ye,Rw,Rx,Ry,Rz,Wa,Wb,Wc]
      · have d2 : decide (q < 0) = false := decide_eq_false h2
        have hlit:BC on q=false:=by
          unfold BC
          rw[if_neg h0,d1,d2]
          rfl
        simp only[OU,HI,HJ,KV,Rx,Rw,d0,d1,d2,e0,hb,AO Tryz.underlying23,hlit,Qa,Qb,Qc,Qd,Qe,Qf,Qg,Qh,Qi,Qj,Qk,Ql,Qm,Qn,true_and,and_true,Qo,Qp,Qq,Qr,Qs,Qt,Qu,Qv,Qw,Qx,Qy,Qz,Ra,Rb,Rc,Rd,Re,Rf,Rg,Rh,Ri,Rj,Rk,Rl,Rm,Rn,Ro,Rp,Rq,Ya,Yb,Yc,Rs,Rt,Xy,Yd,Ye,Rw,Rx,Ry,Rz,Wa,Wb,Wc]
theorem MK(hE:CN E){on:List Bool}{o:AV}(hb:AZ Tryz.prog s 23 (.ptr (some (b,0)))=some o)(ho:AP s.next s o (on.map .bool))(hl:on.length<9223372036854775808)
  (hf:AZ Tryz.prog s 45 (.ptr (some (c,0)))=some (.func 18 [] [.ptr (some (b,0))])) {L:List Int} (hi:∀q∈L,i64 q) (hL:L.length<9223372036854775808) {u:AV} (hu:AP s.next s u (FC L)):
  WF E 20 [u,.ptr (some (c,0))] (fun r s'=>r=.bool (!H5 on L)∧s=s') s:=by
 refine hE.go OD (by decide) rfl ?_
 simp only[Pf,NQ,NR,hf,Qa,Qb,Qc,Qd,Qe,Qf,Qg,Qh,Qi,Qj,Qk,Ql,Qm,Qn,true_and,and_true,Qo,Qp,Qq,Qr,Qs,Qt,Qu,Qv,Qw,Qx,Qy,Qz,Ra,Rb,Rc,Rd,Re,Rf,Rg,Rh,Ri,Rj,Rk,Rl,Rm,Rn,Ro,Rp,Rq,Ya,Yb,Yc,Rs,Rt,Xy,Yd,Ye,Rw,Rx,Ry,Rz,Wa,Wb,Wc]
 refine(L5 hE (f:=BC on) (g:=18) (cp:=[.ptr (some (b,0))]) (fun q hq=>M2 hE hb ho hl (hi q hq)) hL hu).mono ?_
 rintro _ _ ⟨rfl,rfl⟩
 simp only[Wc,H5,Qa,Qb,Qc,Qd,Qe,Qf,Qg,Qh,Qi,Qj,Qk,Ql,Qm,Qn,true_and,and_true,Qo,Qp,Qq,Qr,Qs,Qt,Qu,Qv,Qw,Qx,Qy,Qz,Ra,Rb,Rc,Rd,Re,Rf,Rg,Rh,Ri,Rj,Rk,Rl,Rm,Rn,Ro,Rp,Rq,Ya,Yb,Yc,Rs,Rt,Xy,Yd,Ye,Rw,Rx,Ry,Rz,Wa,Wb,Wc]
theorem AP.ints_inj{n:Nat}{u:AV}{L M:List Int}(h:AP n s u (FC L))(k:AP n s u (FC M)):L=M:=by
  obtain⟨a,cap,rfl,h2⟩:=h
  obtain⟨a',cap',e,k2⟩:=k
  injection e with e1 e2 e3
  subst e1
  rw[Da,Da]at e2
  apply List.ext_getElem?
  intro j
  rcases Pm j L.length with hj | hj
  · have hx := EZ      (Po                       hj)
    have hy:=EZ (Po (show j<M.length by omega))
    obtain⟨i,o,rfl,_,h3⟩:=h2 j _ hx
    obtain⟨i',o',e4,_,k3⟩:=k2 j _ hy
    injection e4 with e4
    injection e4 with e5 e6
    subst e5;subst e6
    rw[h3]at k3
    injection k3 with k3
    injection k3 with _ k3
    rw[Po hj,Po (show j<M.length by omega),k3]
  · rw[Pr hj,Pr (by omega)]
def My (n:Nat) (s:AC) (u:AV):List Int:=Classical.epsilon fun L=>AP n s u (FC L)
theorem Kc{n:Nat}{u:AV}{L:List Int}(h:AP n s u (FC L)):My n s u=L:=(Classical.epsilon_spec (p:=fun L=>AP n s u (FC L)) ⟨L,h⟩).ints_inj h
theorem Cd.dec{ls:List (List Int)}{us:List AV}(h1:us.length=ls.length)(h3:∀ (k:Nat)(u:AV)(c:List Int),us[k]? = some u→ls[k]? = some c→AP s.next s u (FC c)):us.map (My s.next s)=ls:=by
 apply List.ext_getElem?
 intro j
 rcases Pm j ls.length with hj | hj
 ·rw[P3,Po (show j<us.length by omega),Po hj,P5,Kc (h3 j _ _ (Po (show j<us.length by omega)) (Po hj))]
 ·rw[Pr (by rw[QC];omega),Pr hj]
def Lb(ls:List (List Int)):Prop:=ls.length<9223372036854775808∧∀c∈ls,c.length<9223372036854775808∧∀q∈c,i64 q
theorem OJ{s:AC}{os:List Ad}:Cb s.next s (ext s os):=⟨by rw[Wp,Ga];omega,fun j hj=>Wl hj⟩
theorem HP(hE:CN E){on:List Bool}{o v:AV}{ls:List (List Int)}(hv:Cd s v ls)(hf:Lb ls)(ho:AP s.next s o (on.map .bool))(hl:on.length<9223372036854775808){K:AV→AC→Prop}
  (hK:∀s',Cb s.next s s'→K (.bool (D9 on ls)) s'):WF E 5 [v,o] K s:=by
 obtain⟨us,h1,h2,h3⟩:=hv
 obtain⟨a,cap,rfl,hc⟩:=ho
 have hnew:=fun os=>OJ (s:=s) (os:=os)
 refine hE.go Ow (by decide) rfl ?_
 have hon:∀os,AP (ext s os).next (ext s os) (.slice a (on.map AV.bool).length cap) (on.map .bool):=fun os =>
  ((show AP s.next s (.slice a (on.map AV.bool).length cap) (on.map .bool)from⟨a,cap,rfl,hc⟩).old (hnew os) (Pl _)).mono (hnew os).1
 have hus:∀os,AP (ext s os).next (ext s os) v us:=fun os=>(h2.old (hnew os) (Pl _)).mono (hnew os).1
 have h3':∀os (k:Nat) (u:AV) (c:List Int),us[k]? = some u→ls[k]? = some c→AP (ext s os).next (ext s os) u (FC c):=fun os k u c hu hcc =>
  ((h3 k u c hu hcc).old (hnew os) (Pl _)).mono (hnew os).1
 have hend:∀os,K (.bool (D9 on ls)) (ext s os):=fun os=>hK _ (hnew os)
 generalize hs:s.next=b
 have hs0:s=ext s []:=(M1 s).symm
 rw[hs0]
 simp only[c5,Ol,Om,On,Qa,Qb,Qc,Qd,Qe,Qf,Qg,Qh,Qi,Qj,Qk,Ql,Qm,Qn,true_and,and_true,Qo,Qp,Qq,Qr,Qs,Qt,Qu,Qv,Qw,Qx,Qy,Qz,Ra,Rb,Rc,Rd,Re,Rf,Rg,Rh,Ri,Rj,Rk,Rl,Rm,Rn,Ro,Rp,Rq,Ya,Yb,Yc,Rs,Rt,Xy,Yd,Ye,Rw,Rx,Ry,Rz,Wa,Wb,Wc,hs,Ob,Oc,Pa,Pc,Wd,Wf,Wg,Wh,Wi,Wj,Wk,Wl,Wm,Wo,Wp,Wq,Ws,Wv,Ww,Wx,Wy,Wz,Xa,Xb,Xc,Xd,Xe,Xf,Xg,Xh,Xi,Xj,Xk,Xl,Xm,Xn,Xo,Xp,Xq,Xr,Xs,Xt,Xu,P2,QM,QJ,QI,QS,QT,List.getElem?_cons_zero,List.getElem?_cons_succ,List.drop_zero,List.drop_succ_cons,List.take_succ_cons,List.take_zero,Pv,Nat.reduceAdd,Nat.reduceLT,Nat.reduceLeDiff,decide_true,decide_false,Bool.true_and,Bool.and_true,Nat.lt_add_one,Pl,Option.some.injEq,Xv,Xw,Xx,Xy,show AV.nilFunc.cells=[AV.nilFunc]from rfl]
 generalize hS:ext s [R 23 0 false [.slice a (on.map AV.bool).length cap],R 45 0 false [.func 18 [] [.ptr (some (nid b 0,0))]]]=S
 have hbx:AZ Tryz.prog S 23 (.ptr (some (nid b 0,0)))=some (.slice a (on.map AV.bool).length cap):=by
  rw[← hS,← hs]
  simp only[Ob,Wd,Wf,Wg,Wh,Wi,Wj,Wk,Wl,Wm,Wo,Wp,Wq,Ws,Wv,Ww,Wx,Wy,Wz,Xa,Xb,Xc,Xd,Xe,Xf,Xg,Xh,Xi,Xj,Xk,Xl,Xm,Xn,Xo,Xp,Xq,Xr,Xs,Xt,Xu,P2,QM,QJ,QI,QS,QT,List.getElem?_cons_zero,List.getElem?_cons_succ,List.drop_zero,List.drop_succ_cons,List.take_succ_cons,List.take_zero,Pv,Nat.reduceAdd,Nat.reduceLT,Nat.reduceLeDiff,decide_true,decide_false,Bool.true_and,Bool.and_true,Nat.lt_add_one,Pl,Option.some.injEq,Xv,Xw,Xx,Xy]
 have hfx:AZ Tryz.prog S 45 (.ptr (some (nid b 1,0)))=some (.func 18 [] [.ptr (some (nid b 0,0))]):=by
  rw[← hS,← hs]
  simp only[Oc,Wd,Wf,Wg,Wh,Wi,Wj,Wk,Wl,Wm,Wo,Wp,Wq,Ws,Wv,Ww,Wx,Wy,Wz,Xa,Xb,Xc,Xd,Xe,Xf,Xg,Xh,Xi,Xj,Xk,Xl,Xm,Xn,Xo,Xp,Xq,Xr,Xs,Xt,Xu,P2,QM,QJ,QI,QS,QT,List.getElem?_cons_zero,List.getElem?_cons_succ,List.drop_zero,List.drop_succ_cons,List.take_succ_cons,List.take_zero,Pv,Nat.reduceAdd,Nat.reduceLT,Nat.reduceLeDiff,decide_true,decide_false,Bool.true_and,Bool.and_true,Nat.lt_add_one,Pl,Option.some.injEq,Xv,Xw,Xx,Xy]
 have hon':=hon [R 23 0 false [.slice a (on.map AV.bool).length cap],R 45 0 false [.func 18 [] [.ptr (some (nid b 0,0))]]]
 have hus':=hus [R 23 0 false [.slice a (on.map AV.bool).length cap],R 45 0 false [.func 18 [] [.ptr (some (nid b 0,0))]]]
 have hrs':=h3' [R 23 0 false [.slice a (on.map AV.bool).length cap],R 45 0 false [.func 18 [] [.ptr (some (nid b 0,0))]]]
 have hend':=hend [R 23 0 false [.slice a (on.map AV.bool).length cap],R 45 0 false [.func 18 [] [.ptr (some (nid b 0,0))]]]
 rw[hS]at hon' hus' hrs' hend'
 have hdec:=Cd.dec h1 hrs'
 refine(L4 hE (f:=fun u=>!H5 on (My S.next S u)) (g:=20) (cp:=[.ptr (some (nid b 1,0))]) (fun u hu=>?_) (by rw[h1];exact hf.1) hus').mono ?_
 ·obtain⟨k,hk⟩:=List.getElem?_of_mem hu
  have hkl:k<ls.length:=by
   rcases Pm k us.length with h' | h'
   ·omega
   ·rw[Pr h']at hk;cases hk
  have hck:=Po hkl
  have hat:=hrs' k u _ hk hck
  have hfit:=hf.2 _ (P1 hck)
  rw[Kc hat]
  exact MK hE hbx hon' hl hfx hfit.2 hfit.1 hat
 ·rintro _ _ ⟨rfl,rfl⟩
  have hany:(!(us.any fun u=>!H5 on (My S.next S u)))=D9 on ls:=by
   rw[← hdec]
   simp only[D9,List.all_eq_not_any_not,List.any_map]
   rfl
  simp only[Wc,hany,Qa,Qb,Qc,Qd,Qe,Qf,Qg,Qh,Qi,Qj,Qk,Ql,Qm,Qn,true_and,and_true,Qo,Qp,Qq,Qr,Qs,Qt,Qu,Qv,Qw,Qx,Qy,Qz,Ra,Rb,Rc,Rd,Re,Rf,Rg,Rh,Ri,Rj,Rk,Rl,Rm,Rn,Ro,Rp,Rq,Ya,Yb,Yc,Rs,Rt,Xy,Yd,Ye,Rw,Rx,Ry,Rz,Wa,Wb,Wc]
  exact hend'
end
section
variable{E:EQ}{s:AC}
set_option maxHeartbeats 1000000 in
theorem L7       {on : List Bool} {ao : Option (Nat × Nat)} {co : Option Nat} (hc : AY      s.next s ao (on.map .bool)) (hl : on.length < 9223372036854775808) {v : AV} {L : List Int} {i : Nat} {iu ou : Nat} {u : AV} (hiu : AS         Tryz.prog 24 v (iv (i : Int)) = some (.ptr (some (iu, ou))))
    (hlu:AZ Tryz.prog s 25 (.ptr (some (iu,ou)))=some u) (hu:AP s.next s u (FC L)) (hi:∀q∈L,i64 q) (hL:L.length<9223372036854775808) {Q:Af→Prop} (x2 x7 x11:AV):
    ∀ (l : List Int) (k : Nat) (t : Bool) (x6 x8 x9 x10 : AV), L.drop k = l → k ≤ L.length →
      (∀ (y5 y6 y8 y9 y10:AV),Q ⟨.exit 2,[v,.slice ao on.length co,x2,iv (i:Int),.bool (t || l.any (BC on)),y5,y6,x7,y8,y9,y10,x11],[],s⟩) →
      WC E none (.loop DD) Q [v,.slice ao on.length co,x2,iv (i:Int),.bool t,iv (k:Int),x6,x7,x8,x9,x10,x11] [] s:=by
  obtain⟨a,cap,rfl,hcu⟩:=hu
  rw[Da]at hlu
  intro l
  induction l with
  | nil =>
    intro k t x6 x8 x9 x10 hd hk hq
    have:=EX hd hk
    subst this
    refine WC.loop' ?_
    simp only[DD,Hz,hiu,hlu,AO Tryz.underlying25,Rw,Int.lt_irrefl,decide_false,Qa,Qb,Qc,Qd,Qe,Qf,Qg,Qh,Qi,Qj,Qk,Ql,Qm,Qn,true_and,and_true,Qo,Qp,Qq,Qr,Qs,Qt,Qu,Qv,Qw,Qx,Qy,Qz,Ra,Rb,Rc,Rd,Re,Rf,Rg,Rh,Ri,Rj,Rk,Rl,Rm,Rn,Ro,Rp,Rq,Ya,Yb,Yc,Rs,Rt,Xy,Yd,Ye,Rw,Rx,Ry,Rz,Wa,Wb,Wc]
    have:=hq
    simp only[List.any_nil,Bool.or_false]at this
    exact this _ _ _ _ _
  | cons x l ih =>
    intro k t x6 x8 x9 x10 hd hk hq
    obtain⟨hlt,hx,hd'⟩:=Cy hd
    obtain⟨ix,ox,rfl,hix,hload⟩:=hcu k _ (EZ hx)
    have hxm:x∈L:=P1 hx
    obtain⟨q1,q2⟩:=hi x hxm
    have e1:=BB (cap:=cap) (i:=ix) (o:=ox) Tryz.underlying25 PG hlt
    have e2:AZ Tryz.prog s 3 (.ptr (some (ix,ox+k * 1)))=some (iv x):=Bz Pd (by rw[P4];exact hload)
    have hkk:decide ((k:Int)<(L.length:Int))=true:=decide_eq_true (by omega)
    have e3:=Cw Tryz.prog 3 (k:Int) 1 ⟨by omega,by omega⟩
    have e3':((k:Int)+1)=((k+1:Nat):Int):=by omega
    have e0:=IX Tryz.prog (on.length:Int) ⟨by omega,by omega⟩
    have next:∀ (y6 y8 y9 y10:AV),WC E none (.loop DD) Q [v,.slice ao on.length co,x2,iv (i:Int),.bool (t || BC on x),iv ((k+1:Nat):Int),y6,x7,y8,y9,y10,x11] [] s:=fun y6 y8 y9 y10 =>
      ih (k+1) (t || BC on x) y6 y8 y9 y10 hd' hlt fun z5 z6 z8 z9 z10=>by
        have:=hq z5 z6 z8 z9 z10
        rw[List.any_cons,← Bool.or_assoc]at this
        exact this
    refine WC.loop' ?_
    generalize hW:WC E none (AT.loop DD) Q=WW
    rw[hW]at next
    by_cases h0:0<x
    · have d0 : decide (0 < x) = true := decide_eq_true h0
      have d3:decide (x<0)=false:=decide_eq_false (by omega)
      by_cases h1:x≤(on.length:Int)
      · have d1:decide (x≤(on.length:Int))=true:=decide_eq_true h1
        obtain⟨m,rfl⟩:∃m:Nat,x=(m:Int)+1:=⟨(x - 1).toNat,by omega⟩
        have hm:m<on.length:=by omega
        obtain⟨io,oo,rfl,hlo⟩:=Fv hc hm
        have g1:=BB (cap:=co) (i:=io) (o:=oo) Tryz.underlying23 PD hm
        have g2:=Fu Tryz.prog 3 ((m:Int)+1) 1 ⟨by omega,by omega⟩
        have g3:(m:Int)+1 - 1=(m:Int):=by omega
        have hlit:BC on ((m:Int)+1)=on.getD m false:=by
          unfold BC
          rw[if_pos h0,d1,Bool.true_and]
          congr 1
          omega
        rw[hlit]at next
        cases hb:on.getD m false with
        | true =>
          rw[hb]at next hlo
          simp only[Bool.or_true]at next
          simp only[DD,Hz,In,Io,Ms,Ip,FU,hiu,hlu,e1,e2,AO Tryz.underlying25,AO Tryz.underlying23,Rw,Rx,Ry,hkk,d0,d1,d3,g1,g2,g3,hlo,e3,e3',Qa,Qb,Qc,Qd,Qe,Qf,Qg,Qh,Qi,Qj,Qk,Ql,Qm,Qn,true_and,and_true,Qo,Qp,Qq,Qr,Qs,Qt,Qu,Qv,Qw,Qx,Qy,Qz,Ra,Rb,Rc,Rd,Re,Rf,Rg,Rh,Ri,Rj,Rk,Rl,Rm,Rn,Ro,Rp,Rq,Ya,Yb,Yc,Rs,Rt,Xy,Yd,Ye,Rw,Rx,Ry,Rz,Wa,Wb,Wc]
          exact next _ _ _ _
        | false =>
          rw[hb]at next hlo
          simp only[Bool.or_false]at next
          simp only[DD,Hz,In,Io,Ms,Ip,FU,hiu,hlu,e1,e2,AO Tryz.underlying25,AO Tryz.underlying23,Rw,Rx,Ry,hkk,d0,d1,d3,g1,g2,g3,hlo,e3,e3',Qa,Qb,Qc,Qd,Qe,Qf,Qg,Qh,Qi,Qj,Qk,Ql,Qm,Qn,true_and,and_true,Qo,Qp,Qq,Qr,Qs,Qt,Qu,Qv,Qw,Qx,Qy,Qz,Ra,Rb,Rc,Rd,Re,Rf,Rg,Rh,Ri,Rj,Rk,Rl,Rm,Rn,Ro,Rp,Rq,Ya,Yb,Yc,Rs,Rt,Xy,Yd,Ye,Rw,Rx,Ry,Rz,Wa,Wb,Wc]
          exact next _ _ _ _
      · have d1 : decide (x ≤ (on.length : Int)) = false := decide_eq_false h1
        have hlit:BC on x=false:=by
          unfold BC
          rw[if_pos h0,d1,Bool.false_and]
        rw[hlit]at next
        simp only[Bool.or_false]at next
        simp only[DD,Hz,In,Io,Ms,Ip,FU,hiu,hlu,e1,e2,AO Tryz.underlying25,AO Tryz.underlying23,Rw,Rx,Ry,hkk,d0,d1,d3,e3,e3',Qa,Qb,Qc,Qd,Qe,Qf,Qg,Qh,Qi,Qj,Qk,Ql,Qm,Qn,true_and,and_true,Qo,Qp,Qq,Qr,Qs,Qt,Qu,Qv,Qw,Qx,Qy,Qz,Ra,Rb,Rc,Rd,Re,Rf,Rg,Rh,Ri,Rj,Rk,Rl,Rm,Rn,Ro,Rp,Rq,Ya,Yb,Yc,Rs,Rt,Xy,Yd,Ye,Rw,Rx,Ry,Rz,Wa,Wb,Wc]
        exact next _ _ _ _
    · have d0:decide (0<x)=false:=decide_eq_false h0
      by_cases h2:x<0
      · have d2:decide (x<0)=true:=decide_eq_true h2
        by_cases h1:x < -(on.length:Int)
        · have d1 : decide (x < -(on.length : Int)) = true := decide_eq_true h1
          have hlit:BC on x=true:=by
            unfold BC
            rw[if_neg h0,d1,Bool.true_or]
          rw[hlit]at next
          simp only[Bool.or_true]at next
          simp only[DD,Hz,In,Io,Ip,Im,FU,hiu,hlu,e1,e2,AO Tryz.underlying25,AO Tryz.underlying23,Rw,Rx,Ry,hkk,d0,d1,d2,e0,e3,e3',Qa,Qb,Qc,Qd,Qe,Qf,Qg,Qh,Qi,Qj,Qk,Ql,Qm,Qn,true_and,and_true,Qo,Qp,Qq,Qr,Qs,Qt,Qu,Qv,Qw,Qx,Qy,Qz,Ra,Rb,Rc,Rd,Re,Rf,Rg,Rh,Ri,Rj,Rk,Rl,Rm,Rn,Ro,Rp,Rq,Ya,Yb,Yc,Rs,Rt,Xy,Yd,Ye,Rw,Rx,Ry,Rz,Wa,Wb,Wc]
          exact next _ _ _ _
        · have d1:decide (x < -(on.length:Int))=false:=decide_eq_false h1
          obtain⟨m,rfl⟩:∃m:Nat,x=-((m:Int)+1):=⟨(-x - 1).toNat,by omega⟩
          have hm:m<on.length:=by omega
          obtain⟨io,oo,rfl,hlo⟩:=Fv hc hm
          have g1:=BB (cap:=co) (i:=io) (o:=oo) Tryz.underlying23 PD hm
          have g4:=IX Tryz.prog (-((m:Int)+1)) ⟨by omega,by omega⟩
          have g5:- -((m:Int)+1)=(m:Int)+1:=by omega
          have g2:=Fu Tryz.prog 3 ((m:Int)+1) 1 ⟨by omega,by omega⟩
          have g3:(m:Int)+1 - 1=(m:Int):=by omega
          have hlit:BC on (-((m:Int)+1))=!on.getD m false:=by
            unfold BC
            rw[if_neg h0,d1,d2,Bool.false_or,Bool.true_and]
            congr 2
            omega
          rw[hlit]at next
          cases hb:on.getD m false with
          | true =>
            rw[hb]at next hlo
            simp only[Bool.not_true,Bool.or_false]at next
            simp only[DD,Hz,In,Io,Ip,Im,FU,hiu,hlu,e1,e2,AO Tryz.underlying25,AO Tryz.underlying23,Rw,Rx,Ry,hkk,d0,d1,d2,e0,g1,g4,g5,g2,g3,hlo,Wc,e3,e3',Qa,Qb,Qc,Qd,Qe,Qf,Qg,Qh,Qi,Qj,Qk,Ql,Qm,Qn,true_and,and_true,Qo,Qp,Qq,Qr,Qs,Qt,Qu,Qv,Qw,Qx,Qy,Qz,Ra,Rb,Rc,Rd,Re,Rf,Rg,Rh,Ri,Rj,Rk,Rl,Rm,Rn,Ro,Rp,Rq,Ya,Yb,Yc,Rs,Rt,Xy,Yd,Ye,Rw,Rx,Ry,Rz,Wa,Wb,Wc]
            exact next _ _ _ _
          | false =>
            rw[hb]at next hlo
            simp only[Bool.not_false,Bool.or_true]at next
            simp only[DD,Hz,In,Io,Ip,Im,FU,hiu,hlu,e1,e2,AO Tryz.underlying25,AO Tryz.underlying23,Rw,Rx,Ry,hkk,d0,d1,d2,e0,g1,g4,g5,g2,g3,hlo,Wc,e3,e3',Qa,Qb,Qc,Qd,Qe,Qf,Qg,Qh,Qi,Qj,Qk,Ql,Qm,Qn,true_and,and_true,Qo,Qp,Qq,Qr,Qs,Qt,Qu,Qv,Qw,Qx,Qy,Qz,Ra,Rb,Rc,Rd,Re,Rf,Rg,Rh,Ri,Rj,Rk,Rl,Rm,Rn,Ro,Rp,Rq,Ya,Yb,Yc,Rs,Rt,Xy,Yd,Ye,Rw,Rx,Ry,Rz,Wa,Wb,Wc]
            exact next _ _ _ _
      · have d2 : decide (x < 0) = false := decide_eq_false h2
        have hlit:BC on x=false:=by
          unfold BC
          rw[if_neg h0,d2,decide_eq_false (show ¬ x < -(on.length:Int) by omega)]
          rfl
        rw[hlit]at next
        simp only[Bool.or_false]at next
        simp only[DD,Hz,In,Io,Ip,Im,FU,hiu,hlu,e1,e2,AO Tryz.underlying25,AO Tryz.underlying23,Rw,Rx,Ry,hkk,d0,d2,e3,e3',Qa,Qb,Qc,Qd,Qe,Qf,Qg,Qh,Qi,Qj,Qk,Ql,Qm,Qn,true_and,and_true,Qo,Qp,Qq,Qr,Qs,Qt,Qu,Qv,Qw,Qx,Qy,Qz,Ra,Rb,Rc,Rd,Re,Rf,Rg,Rh,Ri,Rj,Rk,Rl,Rm,Rn,Ro,Rp,Rq,Ya,Yb,Yc,Rs,Rt,Xy,Yd,Ye,Rw,Rx,Ry,Rz,Wa,Wb,Wc]
        exact next _ _ _ _
theorem LL{on:List Bool}{ao:Option (Nat×Nat)}{co:Option Nat}(hc:AY s.next s ao (on.map .bool))(hl:on.length<9223372036854775808){a:Option (Nat×Nat)}{cap:Option Nat}{us:List AV}{ls:List (List Int)}(hlen:us.length=ls.length)(hcu:AY s.next s a us)
    (hr:∀ (k:Nat) (u:AV) (c:List Int),us[k]? = some u→ls[k]? = some c→AP s.next s u (FC c)) (hf:Lb ls) {Q:Af→Prop} (x2:AV):
    ∀ (l : List (List Int)) (k : Nat) (x4 x5 x6 x7 x8 x9 x10 x11 : AV), ls.drop k = l → k ≤ ls.length →
      (l.all (H5 on)=true→∀ (y3 y4 y5 y6 y7 y8 y9 y10 y11:AV),Q ⟨.exit 0,[.slice a ls.length cap,.slice ao on.length co,x2,y3,y4,y5,y6,y7,y8,y9,y10,y11],[],s⟩) →
      (l.all (H5 on)=false→∀ (y3 y4 y5 y6 y7 y8 y9 y10 y11:AV),Q ⟨.ret,[.slice a ls.length cap,.slice ao on.length co,.bool false,y3,y4,y5,y6,y7,y8,y9,y10,y11],[],s⟩) →
      WC E none (.loop Il) Q [.slice a ls.length cap,.slice ao on.length co,x2,iv (k:Int),x4,x5,x6,x7,x8,x9,x10,x11] [] s:=by
  intro l
  induction l with
  | nil =>
    intro k x4 x5 x6 x7 x8 x9 x10 x11 hd hk hq _
    have:=EX hd hk
    subst this
    refine WC.loop' ?_
    simp only[Il,N9,AO Tryz.underlying24,Rw,Int.lt_irrefl,decide_false,Qa,Qb,Qc,Qd,Qe,Qf,Qg,Qh,Qi,Qj,Qk,Ql,Qm,Qn,true_and,and_true,Qo,Qp,Qq,Qr,Qs,Qt,Qu,Qv,Qw,Qx,Qy,Qz,Ra,Rb,Rc,Rd,Re,Rf,Rg,Rh,Ri,Rj,Rk,Rl,Rm,Rn,Ro,Rp,Rq,Ya,Yb,Yc,Rs,Rt,Xy,Yd,Ye,Rw,Rx,Ry,Rz,Wa,Wb,Wc]
    exact hq rfl _ _ _ _ _ _ _ _ _
  | cons x l ih =>
    intro k x4 x5 x6 x7 x8 x9 x10 x11 hd hk hq hn
    obtain⟨hlt,hx,hd'⟩:=Cy hd
    have hku:us[k]? = some (us[k]'(by omega)):=Po (by omega)
    generalize us[k]'(by omega)=u at hku
    obtain⟨ix,ox,rfl,hix,hload⟩:=hcu k _ hku
    have hfx:=hf.2 x (P1 hx)
    have e1:=BB (cap:=cap) (i:=ix) (o:=ox) Tryz.underlying24 NG hlt
    have e2:AZ Tryz.prog s 25 (.ptr (some (ix,ox+k * 1)))=some u:=Bz N7 (by rw[P4];exact hload)
    have hkk:decide ((k:Int)<(ls.length:Int))=true:=decide_eq_true (by omega)
    have h63:=hf.1
    have e3:=Cw Tryz.prog 3 (k:Int) 1 ⟨by omega,by omega⟩
    have e3':((k:Int)+1)=((k+1:Nat):Int):=by omega
    refine WC.loop' ?_
    generalize hW:WC E none (AT.loop Il) Q=WW
    simp only[Il,N9,Ot,Ou,AO Tryz.underlying24,Rw,hkk,Qa,Qb,Qc,Qd,Qe,Qf,Qg,Qh,Qi,Qj,Qk,Ql,Qm,Qn,true_and,and_true,Qo,Qp,Qq,Qr,Qs,Qt,Qu,Qv,Qw,Qx,Qy,Qz,Ra,Rb,Rc,Rd,Re,Rf,Rg,Rh,Ri,Rj,Rk,Rl,Rm,Rn,Ro,Rp,Rq,Ya,Yb,Yc,Rs,Rt,Xy,Yd,Ye,Rw,Rx,Ry,Rz,Wa,Wb,Wc]
    refine L7 (co:=co) hc hl e1 e2 (hr k u x hku hx) hfx.2 hfx.1 _ _ _ x 0 false _ _ _ _ rfl (Ps _) fun y5 y6 y8 y9 y10=>?_
    have hcl:(false || x.any (BC on))=H5 on x:=by rw[Bool.false_or];rfl
    rw[hcl]
    cases hv:H5 on x with
    | true =>
      simp only[Ll,Ns,Wc,if_true,e3,e3',Qa,Qb,Qc,Qd,Qe,Qf,Qg,Qh,Qi,Qj,Qk,Ql,Qm,Qn,true_and,and_true,Qo,Qp,Qq,Qr,Qs,Qt,Qu,Qv,Qw,Qx,Qy,Qz,Ra,Rb,Rc,Rd,Re,Rf,Rg,Rh,Ri,Rj,Rk,Rl,Rm,Rn,Ro,Rp,Rq,Ya,Yb,Yc,Rs,Rt,Xy,Yd,Ye,Rw,Rx,Ry,Rz,Wa,Wb,Wc]
      rw[← hW]
      rw[List.all_cons,hv,Bool.true_and]at hq hn
      exact ih (k+1) _ _ _ _ _ _ _ _ hd' hlt hq hn
    | false =>
      simp only[Ll,Nr,Wc,if_true,Qa,Qb,Qc,Qd,Qe,Qf,Qg,Qh,Qi,Qj,Qk,Ql,Qm,Qn,true_and,and_true,Qo,Qp,Qq,Qr,Qs,Qt,Qu,Qv,Qw,Qx,Qy,Qz,Ra,Rb,Rc,Rd,Re,Rf,Rg,Rh,Ri,Rj,Rk,Rl,Rm,Rn,Ro,Rp,Rq,Ya,Yb,Yc,Rs,Rt,Xy,Yd,Ye,Rw,Rx,Ry,Rz,Wa,Wb,Wc]
      exact hn (by rw[List.all_cons,hv,Bool.false_and]) _ _ _ _ _ _ _ _ _
theorem HQ(hE:CN E){on:List Bool}{o v:AV}{ls:List (List Int)}(hv:Cd s v ls)(hf:Lb ls)(ho:AP s.next s o (on.map .bool))(hl:on.length<9223372036854775808):
  WF E 6 [v,o] (fun r s'=>r=.bool (D9 on ls)∧s=s') s:=by
 obtain⟨us,h1,⟨a,cap,rfl,hcu⟩,h3⟩:=hv
 obtain⟨ao,co,rfl,hc⟩:=ho
 rw[QC,h1]
 refine hE.go Ox (by decide) rfl ?_
 simp only[c6,Oo,Oq,Qa,Qb,Qc,Qd,Qe,Qf,Qg,Qh,Qi,Qj,Qk,Ql,Qm,Qn,true_and,and_true,Qo,Qp,Qq,Qr,Qs,Qt,Qu,Qv,Qw,Qx,Qy,Qz,Ra,Rb,Rc,Rd,Re,Rf,Rg,Rh,Ri,Rj,Rk,Rl,Rm,Rn,Ro,Rp,Rq,Ya,Yb,Yc,Rs,Rt,Xy,Yd,Ye,Rw,Rx,Ry,Rz,Wa,Wb,Wc]
 refine LL hc hl h1 hcu h3 hf _ ls 0 _ _ _ _ _ _ _ _ rfl (Ps _) ?_ ?_
 ·intro ha y3 y4 y5 y6 y7 y8 y9 y10 y11
  have:D9 on ls=true:=ha
  rw[this]
  simp only[Nt,if_true,Qa,Qb,Qc,Qd,Qe,Qf,Qg,Qh,Qi,Qj,Qk,Ql,Qm,Qn,true_and,and_true,Qo,Qp,Qq,Qr,Qs,Qt,Qu,Qv,Qw,Qx,Qy,Qz,Ra,Rb,Rc,Rd,Re,Rf,Rg,Rh,Ri,Rj,Rk,Rl,Rm,Rn,Ro,Rp,Rq,Ya,Yb,Yc,Rs,Rt,Xy,Yd,Ye,Rw,Rx,Ry,Rz,Wa,Wb,Wc]
 ·intro ha y3 y4 y5 y6 y7 y8 y9 y10 y11
  have:D9 on ls=false:=ha
  rw[this]
  simp only[Qa,Qb,Qc,Qd,Qe,Qf,Qg,Qh,Qi,Qj,Qk,Ql,Qm,Qn,true_and,and_true,Qo,Qp,Qq,Qr,Qs,Qt,Qu,Qv,Qw,Qx,Qy,Qz,Ra,Rb,Rc,Rd,Re,Rf,Rg,Rh,Ri,Rj,Rk,Rl,Rm,Rn,Ro,Rp,Rq,Ya,Yb,Yc,Rs,Rt,Xy,Yd,Ye,Rw,Rx,Ry,Rz,Wa,Wb,Wc]
end
def pI(k:IntKind)(R:Int→Prop)(_:AC)(us:List AV)(x:Int):Prop:=us=[.int k x]∧R x
theorem Gk(k:IntKind)(R:Int→Prop)(s s':AC)(us:List AV)(x:Int)(h:pI k R s us x)(_:Cb s.next s s'):pI k R s' us x:=h
def Nw(x:Int):Prop:=-128≤x∧x≤127
def pB(_:AC)(us:List AV)(x:Bool):Prop:=us=[.bool x]
theorem MN(s s':AC)(us:List AV)(x:Bool)(h:pB s us x)(_:Cb s.next s s'):pB s' us x:=h
theorem JW{α:Type}{p:AC→List AV→α→Prop}{s:AC}{us:List AV}{xs:List α}(h:At p 1 s us xs)(f:α→AV)(hp:∀vs x,p s vs x→vs=[f x]):
  ∃a cap,us=[.slice a xs.length cap]∧xs.length≤maxLen∧FQ s a cap xs.length 1∧AY s.next s a (xs.map f):=by
 obtain⟨a,cap,h1,h2,h3,h4⟩:=h
 refine⟨a,cap,h1,h2,h3,fun k u hu=>?_⟩
 rw[P3]at hu
 cases hx:xs[k]? with
 | none=>rw[hx]at hu;cases hu
 | some x =>
  rw[hx]at hu
  injection hu with hu
  subst hu
  obtain⟨i,o,vs,g1,g2,_,g4,g5⟩:=h4 k x hx
  rw[hp _ _ g5]at g4
  have:=g4 0 _ rfl
  simp only[P4,QB]at this
  exact⟨i,o,g1,g2,this⟩
theorem Ko{α:Type}{p:AC→List AV→α→Prop}{s:AC}{us:List AV}{ls:List (List α)}(h:At (At p 1) 1 s us ls):
  ∃a cap vs,us=[.slice a ls.length cap]∧ls.length≤maxLen∧vs.length=ls.length∧AY s.next s a vs∧∀ (k:Nat) (v:AV) (c:List α),vs[k]? = some v→ls[k]? = some c→At p 1 s [v] c:=by
 obtain⟨a,cap,h1,h2,_,h4⟩:=h
 have key:∀k,∃v:AV,∀c,ls[k]? = some c→At p 1 s [v] c∧∃i o,a=some (i,o)∧i<s.next∧BV s i (o+k)=some v:=by
  intro k
  cases hc:ls[k]? with
  | none=>exact⟨As,fun c e=>by cases e⟩
  | some c =>
   obtain⟨i,o,vs,g1,g2,g3,g4,g5⟩:=h4 k c hc
   obtain⟨a',cap',e,_⟩:=id g5
   subst e
   have:=g4 0 _ rfl
   simp only[P4,QB]at this
   refine⟨.slice a' c.length cap',fun c' e'=>?_⟩
   injection e' with e'
   subst e'
   exact⟨g5,i,o,g1,g2,this⟩
 refine⟨a,cap,(List.range ls.length).map fun k=>Classical.choose (key k),h1,h2,by simp,fun k u hu=>?_,fun k v c hv hc=>?_⟩
 ·rw[P3]at hu
  have hk:k<ls.length:=by
   rcases Pm k ls.length with h' | h'
   ·exact h'
   ·rw[Pr (by simpa using h')]at hu;cases hu
  rw[QO hk]at hu
  injection hu with hu
  subst hu
  exact(Classical.choose_spec (key k) _ (Po hk)).2
 ·rw[P3]at hv
  have hk:k<ls.length:=by
   rcases Pm k ls.length with h' | h'
   ·exact h'
   ·rw[Pr h']at hc;cases hc
  rw[QO hk]at hv
  injection hv with hv
  subst hv
  exact(Classical.choose_spec (key k) c hc).1
theorem Lq{t e:TypeId}(ht:Tryz.prog.underlying t=some (.slice e))(hs:Ah Tryz.prog e=some 1){s:AC}{a:Option (Nat×Nat)}{cap:Option Nat}{n k:Nat}(hc:FQ s a cap n 1)(hk:k≤n):
  ∃cap',A8 Tryz.prog t false true false s [.slice a n cap,iv (k:Int)]=some (.slice a k cap'):=by
 show ∃cap',Au Tryz.prog s t (.slice a n cap) none (some (iv (k:Int))) none=_
 rcases hc with⟨c,rfl,h1,h2⟩ | ⟨rfl,rfl,i,r,rfl,h3,h4,h5⟩
 ·refine⟨some c,?_⟩
  have hb:Ax (iv (k:Int)) c=some k:=by simp[Ax,FZ,AE,E3 (show k≤c by omega),HV]
  cases a with
  | none=>simp[Au,ht,hs,hb]
  | some io=>obtain⟨i,o⟩:=io;cases hb2:Nat.beq c 0<;>simp[Au,ht,hs,hb,hb2]
 ·obtain rfl:k=0:=by omega
  have hrow:rowAt s i=some r:=by unfold rowAt;rw[h4]
  have hb:∀m,Ax (iv 0) m=some 0:=fun m=>by simp[Ax,FZ,AE,E3 (Ps m),show JE 0=some 0 from rfl]
  show ∃cap',Au Tryz.prog s t (.slice (some (i,0)) 0 none) none (some (iv 0)) none=_
  refine⟨none,?_⟩
  have hsz:Nat.beq 1 r.sz=true:=GD h5.symm
  simp[Au,ht,hs,hrow,hsz,AE,hb,E3 (Ps r.n),show Nat.beq 1 0=false from rfl]
theorem ME(a b:Nat):CV false (iv (a:Int)) [iv (b:Int)]=some (iv ((min a b:Nat):Int)):=by
 show AE true (some (iv (bif Ib (b:Int) (a:Int)then (b:Int)else (a:Int))))=_
 rw[B4]
 show some (iv _)=_
 by_cases h:(b:Int)<(a:Int)
 ·simp only[h,decide_true,cond_true];rw[Nat.min_eq_right (by omega)]
 ·simp only[h,decide_false,cond_false];rw[Nat.min_eq_left (by omega)]
theorem AY.take{n:Nat}{s:AC}{a:Option (Nat×Nat)}{cs:List AV}(h:AY n s a cs)(k:Nat):AY n s a (cs.take k):=fun j u hu=>by
 rw[QR]at hu
 split at hu
 ·exact h j u hu
 ·cases hu
theorem Mx{s:AC}{x:Int}(h:Nw x):BF Tryz.prog s 27 3 (.int .i8 x)=some (iv x):=by
 have:-128≤x∧x≤127:=h
 simp[BF,Tryz.underlying27,Tryz.underlying3,Ew (n:=x) ⟨by omega,by omega⟩]
theorem O9(x:Int):BS Tryz.prog 25 1 (zipIdx [0] [iv x])=some (R 3 1 false [iv x]):=by kernel_rfl
theorem N5(a:Option (Nat×Nat))(n:Nat)(c:Option Nat):BS Tryz.prog 24 1 (zipIdx [0] [.slice a n c])=some (R 25 1 false [.slice a n c]):=by kernel_rfl
theorem N2{st e by_:Nat}(ht:Tryz.prog.underlying st=some (.slice e))(hs:Ah Tryz.prog e=some 1)(hb:Bj Tryz.prog e=some by_)(hx:A6 Tryz.prog st=true)(hz:Be Tryz.prog e 1=true)(hby:by_≤1000)
  {s:AC} {v:AV} {n:Nat} {cs:List AV} {OB:List Nat} (hbuf:G5 e 1 s v n cs OB) {u:AV} (hu:u.isCell=true) (hn:n≤1000):
  ∃v2 s2 OB2,BY Tryz.prog (newObj s (R e 1 false [u])) [st,st] [v,.slice (some (s.next,0)) 1 (some 1)]=some (v2,s2)∧G5 e 1 s2 v2 (n+1) (cs++[u]) OB2∧s2.next=s.next+2∧(∀j,j<s.next→j ∉ OB→s2.heap.get j=s.heap.get j)∧(∀j∈OB2,j∈OB∨s.next≤j):=by
 have hnx:(newObj s (R e 1 false [u])).next=s.next+1:=rfl
 have hbuf2:=hbuf.frame (s':=newObj s (R e 1 false [u])) (by rw[hnx];omega) fun j hj=>by rw[Aq,if_neg (by have:=hbuf.lt j hj;omega)]
 have hsrc:B0 Tryz.prog (newObj s (R e 1 false [u])) e 1 (.slice (some (s.next,0)) 1 (some 1))=some (1,[u]):=NF e 1 (by rw[Aq,if_pos rfl];rfl) rfl
 obtain⟨v2,s3,OB2,happ,hb2,hn2,hf2,hO2,hsl⟩:=hbuf2.append (xt:=st) (m:=1) ht hs hb (by omega) hx hz (by omega) hsrc rfl (by simp[Aj,hu]) (Pu (Nat.mul_le_mul (show n+1≤1001 by omega) hby) (by omega)) (by omega)
 rw[hnx]at hn2 hf2 hO2
 exact⟨v2,s3,OB2,happ,hb2,by omega,fun j hj hB=>by rw[hf2 j (by omega) hB,Aq,if_neg (by omega)],fun j hj=>(hO2 j hj).imp id fun h=>by omega⟩
abbrev j8(x:Int):AV:=.int .i8 x
theorem PQ:A6 Tryz.prog 25=true:=by kernel_rfl
theorem PP:A6 Tryz.prog 24=true:=by kernel_rfl
theorem hz3:Be Tryz.prog 3 1=true:=by kernel_rfl
theorem PR:Be Tryz.prog 25 1=true:=by kernel_rfl
section
variable{E:EQ}
theorem MX{s0:AC}{v0:AV}{i iu ou:Nat}{L:List Int}{a:Option (Nat×Nat)}{cap:Option Nat}(hiu:AS Tryz.prog 22 v0 (iv (i:Int))=some (.ptr (some (iu,ou))))(hiu0:iu<s0.next)
    (hlu:AZ Tryz.prog s0 26 (.ptr (some (iu,ou)))=some (.slice a L.length cap)) (hcu:AY s0.next s0 a (L.map j8)) (hi:∀x∈L,Nw x) {Q:Af→Prop} (x1 x2 x3 x4 x8 x9 x10 x12 x13:AV) {marks:List Nat}
    (hq:∀ (s:AC) (v6 y7 y11:AV) (O:List Nat),Cb s0.next s0 s→G5 3 1 s v6 (L.take 10).length (FC (L.take 10)) O→(∀j∈O,s0.next≤j)→Q ⟨.exit 2,[v0,x1,x2,x3,x4,iv (i:Int),v6,y7,x8,x9,x10,y11,x12,x13],marks,s⟩):
    ∀ (m k:Nat) (s:AC) (v6 x11:AV) (O:List Nat),k+m=min L.length 10→Cb s0.next s0 s→G5 3 1 s v6 (L.take k).length (FC (L.take k)) O→(∀j∈O,s0.next≤j) →
      WC E none (.loop K0) Q [v0,x1,x2,x3,x4,iv (i:Int),v6,iv (k:Int),x8,x9,x10,x11,x12,x13] marks s:=by
  intro m
  induction m with
  | zero =>
    intro k s v6 x11 O hkm ho hb hO
    have hld:AZ Tryz.prog s 26 (.ptr (some (iu,ou)))=some (.slice a L.length cap):=by
      rw[Wd N8]at hlu ⊢
      rw[ho.2 iu hiu0]
      exact hlu
    have hk:L.take k=L.take 10:=by
      rcases Nat.le_total L.length 10 with h | h
      · rw[List.take_of_length_le (by omega),List.take_of_length_le (by omega)]
      · rw[show k=10 by omega]
    rw[hk]at hb
    refine WC.loop' ?_
    by_cases h1:k<L.length
    · have d1 : decide ((k : Int) < (L.length : Int)) = true := decide_eq_true (by omega)
      have d2:decide ((k:Int)<10)=false:=decide_eq_false (by omega)
      simp only[K0,Mr,hiu,hld,AO Tryz.underlying26,Rw,d1,d2,Qa,Qb,Qc,Qd,Qe,Qf,Qg,Qh,Qi,Qj,Qk,Ql,Qm,Qn,true_and,and_true,Qo,Qp,Qq,Qr,Qs,Qt,Qu,Qv,Qw,Qx,Qy,Qz,Ra,Rb,Rc,Rd,Re,Rf,Rg,Rh,Ri,Rj,Rk,Rl,Rm,Rn,Ro,Rp,Rq,Ya,Yb,Yc,Rs,Rt,Xy,Yd,Ye,Rw,Rx,Ry,Rz,Wa,Wb,Wc]
      exact hq _ _ _ _ _ ho hb hO
    · have d1:decide ((k:Int)<(L.length:Int))=false:=decide_eq_false (by omega)
      simp only[K0,Mr,hiu,hld,AO Tryz.underlying26,Rw,d1,Qa,Qb,Qc,Qd,Qe,Qf,Qg,Qh,Qi,Qj,Qk,Ql,Qm,Qn,true_and,and_true,Qo,Qp,Qq,Qr,Qs,Qt,Qu,Qv,Qw,Qx,Qy,Qz,Ra,Rb,Rc,Rd,Re,Rf,Rg,Rh,Ri,Rj,Rk,Rl,Rm,Rn,Ro,Rp,Rq,Ya,Yb,Yc,Rs,Rt,Xy,Yd,Ye,Rw,Rx,Ry,Rz,Wa,Wb,Wc]
      exact hq _ _ _ _ _ ho hb hO
  | succ m ih =>
    intro k s v6 x11 O hkm ho hb hO
    have hlt:k<L.length:=by omega
    have hx:L[k]? = some L[k]:=Po hlt
    generalize L[k]=x at hx
    have hx8:=hi x (P1 hx)
    have hld:AZ Tryz.prog s 26 (.ptr (some (iu,ou)))=some (.slice a L.length cap):=by
      rw[Wd N8]at hlu ⊢
      rw[ho.2 iu hiu0]
      exact hlu
    obtain⟨ix,ox,rfl,hix,hload⟩:=(hcu.old ho (Pl _)) k (j8 x) (by simp[hx])
    have e1:=BB (cap:=cap) (i:=ix) (o:=ox) Tryz.underlying26 PZ hlt
    have e2:AZ Tryz.prog s 27 (.ptr (some (ix,ox+k * 1)))=some (j8 x):=Bz PJ (by rw[P4];exact hload)
    have d1:decide ((k:Int)<(L.length:Int))=true:=decide_eq_true (by omega)
    have d2:decide ((k:Int)<10)=true:=decide_eq_true (by omega)
    have e3:=Cw Tryz.prog 3 (k:Int) 1 ⟨by omega,by omega⟩
    have e3':((k:Int)+1)=((k+1:Nat):Int):=by omega
    obtain⟨v',s',O',happ,hb',hn',hf',hO'⟩:=N2 Tryz.underlying25 PG by3 PQ hz3 (by omega) hb (u:=iv x) rfl (by rw[QE];omega)
    have htake:L.take (k+1)=L.take k++[x]:=by rw[List.take_add_one,hx];rfl
    refine WC.loop' ?_
    generalize hW:WC E none (AT.loop K0) Q=WW
    simp only[K0,Mr,Oj,Ok,hiu,hld,AO Tryz.underlying26,Rw,d1,d2,e1,e2,Mx hx8,O9,Xb,happ,e3,e3',Qa,Qb,Qc,Qd,Qe,Qf,Qg,Qh,Qi,Qj,Qk,Ql,Qm,Qn,true_and,and_true,Qo,Qp,Qq,Qr,Qs,Qt,Qu,Qv,Qw,Qx,Qy,Qz,Ra,Rb,Rc,Rd,Re,Rf,Rg,Rh,Ri,Rj,Rk,Rl,Rm,Rn,Ro,Rp,Rq,Ya,Yb,Yc,Rs,Rt,Xy,Yd,Ye,Rw,Rx,Ry,Rz,Wa,Wb,Wc]
    rw[← hW]
    refine ih (k+1) s' v' _ O' (by omega) (ho.trans ⟨by omega,fun j hj=>hf' j (by have:=ho.1;omega) (fun hjO=>by have:=hO j hjO;omega)⟩) ?_ (fun j hj=>(hO' j hj).elim (hO j) fun h=>by have:=ho.1;omega)
    rw[htake]
    have:(L.take k++[x]).length=(L.take k).length+1:=by simp
    rw[this]
    have:FC (L.take k++[x])=FC (L.take k)++[iv x]:=by simp[FC]
    rw[this]
    exact hb'
def Ho(s:AC)(O:List Nat)(u:AV)(c:List Int):Prop:=∃a cap,u=.slice a c.length cap∧∀ (q:Nat)(x:Int),c[q]? = some x→∃i o,a=some (i,o)∧i<s.next∧i ∉ O∧BV s i (o+q)=some (iv x)
theorem Ho.at{s:AC}{O:List Nat}{u:AV}{c:List Int}(h:Ho s O u c):AP s.next s u (FC c):=by
 obtain⟨a,cap,rfl,h2⟩:=h
 refine⟨a,cap,by rw[Da],fun k u hu=>?_⟩
 unfold FC at hu
 rw[P3]at hu
 cases hx:c[k]? with
 | none=>rw[hx]at hu;cases hu
 | some x =>
  rw[hx]at hu
  injection hu with hu
  subst hu
  obtain⟨i,o,g1,g2,_,g4⟩:=h2 k x hx
  exact⟨i,o,g1,g2,g4⟩
theorem Ho.step{s s':AC}{O O':List Nat}{u:AV}{c:List Int}(h:Ho s O u c)(hn:s.next≤s'.next)(hf:∀j,j<s.next→j ∉ O→s'.heap.get j=s.heap.get j)(hO:∀j∈O',j∈O∨s.next≤j):Ho s' O' u c:=by
 obtain⟨a,cap,rfl,h2⟩:=h
 refine⟨a,cap,rfl,fun q x hx=>?_⟩
 obtain⟨i,o,g1,g2,g3,g4⟩:=h2 q x hx
 exact⟨i,o,g1,Pp g2 hn,fun hi=>(hO i hi).elim g3 (fun h=>by omega),by rw[DS (hf i g2 g3)];exact g4⟩
def FW(ls:List (List Int)):List (List Int):=(ls.take 20).map (·.take 10)
theorem KF         {s0 : AC}  {ls : List (List Int)} {a : Option (Nat × Nat)} {cap : Option Nat} {vs : List AV} (hlen : ls.length ≤ maxLen) (hvs : vs.length = ls.length) (hc : AY      s0.next s0 a vs)
    (hr:∀ (k:Nat) (v:AV) (c:List Int),vs[k]? = some v→ls[k]? = some c→∃a' cap',v=.slice a' c.length cap'∧AY s0.next s0 a' (c.map j8)∧∀x∈c,Nw x) {Q:Af→Prop} (x1 x2 x3 x8 x9 x12 x13:AV) {marks:List Nat}
    (hq:∀ (s:AC) (v4 y5 y6 y7 y10 y11:AV),Cb s0.next s0 s→Cd s v4 (FW ls)→Q ⟨.exit 0,[.slice a ls.length cap,x1,x2,x3,v4,y5,y6,y7,x8,x9,y10,y11,x12,x13],marks,s⟩):
    ∀ (m k : Nat) (s : AC)  (v4 x6 x7 x10 x11 : AV) (us : List AV) (O : List Nat), k + m = min ls.length 20 → Cb  s0.next s0 s → us.length = k → G5  25 1 s v4 k us O → (∀ j ∈ O, s0.next ≤ j) →
      (∀ (j:Nat) (u:AV) (c:List Int),us[j]? = some u→(FW ls)[j]? = some c→Ho s O u c) →
      WC E none (.loop HK) Q [.slice a ls.length cap,x1,x2,x3,v4,iv (k:Int),x6,x7,x8,x9,x10,x11,x12,x13] marks s:=by
  intro m
  induction m with
  | zero =>
    intro k s v4 x6 x7 x10 x11 us O hkm ho hul hb hO hrow
    have hml:maxLen=9223372036854775807:=rfl
    have hfin:Cd s v4 (FW ls):=by
      obtain⟨av,cv,rfl,hcc⟩:=hb.slice
      refine⟨us,by unfold FW;simp;omega,⟨av,cv,by rw[hul],hcc⟩,fun j u c hu hcj=>(hrow j u c hu hcj).at⟩
    refine WC.loop' ?_
    by_cases h1:k<ls.length
    · have d1 : decide ((k : Int) < (ls.length : Int)) = true := decide_eq_true (by omega)
      have d2:decide ((k:Int)<20)=false:=decide_eq_false (by omega)
      simp only[HK,Mq,AO Tryz.underlying22,Rw,d1,d2,Qa,Qb,Qc,Qd,Qe,Qf,Qg,Qh,Qi,Qj,Qk,Ql,Qm,Qn,true_and,and_true,Qo,Qp,Qq,Qr,Qs,Qt,Qu,Qv,Qw,Qx,Qy,Qz,Ra,Rb,Rc,Rd,Re,Rf,Rg,Rh,Ri,Rj,Rk,Rl,Rm,Rn,Ro,Rp,Rq,Ya,Yb,Yc,Rs,Rt,Xy,Yd,Ye,Rw,Rx,Ry,Rz,Wa,Wb,Wc]
      exact hq _ _ _ _ _ _ _ ho hfin
    · have d1:decide ((k:Int)<(ls.length:Int))=false:=decide_eq_false (by omega)
      simp only[HK,Mq,AO Tryz.underlying22,Rw,d1,Qa,Qb,Qc,Qd,Qe,Qf,Qg,Qh,Qi,Qj,Qk,Ql,Qm,Qn,true_and,and_true,Qo,Qp,Qq,Qr,Qs,Qt,Qu,Qv,Qw,Qx,Qy,Qz,Ra,Rb,Rc,Rd,Re,Rf,Rg,Rh,Ri,Rj,Rk,Rl,Rm,Rn,Ro,Rp,Rq,Ya,Yb,Yc,Rs,Rt,Xy,Yd,Ye,Rw,Rx,Ry,Rz,Wa,Wb,Wc]
      exact hq _ _ _ _ _ _ _ ho hfin
  | succ m ih =>
    intro k s v4 x6 x7 x10 x11 us O hkm ho hul hb hO hrow
    have hml:maxLen=9223372036854775807:=rfl
    have hlt:k<ls.length:=by omega
    have hx:ls[k]? = some ls[k]:=Po hlt
    generalize ls[k]=L at hx
    have hv:vs[k]? = some (vs[k]'(by omega)):=Po (by omega)
    generalize vs[k]'(by omega)=v at hv
    obtain⟨a',cap',rfl,hcells,h8⟩:=hr k v L hv hx
    obtain⟨ix,ox,rfl,hix,hload⟩:=hc k _ hv
    have e1:=BB (cap:=cap) (i:=ix) (o:=ox) Tryz.underlying22 PY hlt
    have e2:AZ Tryz.prog s 26 (.ptr (some (ix,ox+k * 1)))=some (.slice a' L.length cap'):=Bz N8 (by rw[P4,DS (ho.2 ix hix)];exact hload)
    have d1:decide ((k:Int)<(ls.length:Int))=true:=decide_eq_true (by omega)
    have d2:decide ((k:Int)<20)=true:=decide_eq_true (by omega)
    have e3:=Cw Tryz.prog 3 (k:Int) 1 ⟨by omega,by omega⟩
    have e3':((k:Int)+1)=((k+1:Nat):Int):=by omega
    refine WC.loop' ?_
    generalize hW:WC E none (AT.loop HK) Q=WW
    simp only[HK,Mq,Oh,Oi,AO Tryz.underlying22,Rw,d1,d2,Qa,Qb,Qc,Qd,Qe,Qf,Qg,Qh,Qi,Qj,Qk,Ql,Qm,Qn,true_and,and_true,Qo,Qp,Qq,Qr,Qs,Qt,Qu,Qv,Qw,Qx,Qy,Qz,Ra,Rb,Rc,Rd,Re,Rf,Rg,Rh,Ri,Rj,Rk,Rl,Rm,Rn,Ro,Rp,Rq,Ya,Yb,Yc,Rs,Rt,Xy,Yd,Ye,Rw,Rx,Ry,Rz,Wa,Wb,Wc]
    refine MX (s0:=s) (L:=L) e1 (Pp hix ho.1) e2 ((hcells.old ho (Pl _)).mono ho.1) h8 _ _ _ _ _ _ _ _ _ (fun s2 v6 y7 y11 O6 ho2 hb6 hO6=>?_) (min L.length 10) 0 s _ _ [] (by omega) (Cb.refl _ _) (G5.nil 3 1 s) (fun j hj=>by cases hj)
    have hb2:=hb.frame (s':=s2) ho2.1 fun j hj=>ho2.2 j (hb.lt j hj)
    have hv6:∃a6 c6,v6=.slice a6 (L.take 10).length c6:=by
      obtain⟨a6,c6,h,_⟩:=hb6.slice
      exact⟨a6,c6,h⟩
    have hnew:Ho s2 O v6 (L.take 10):=by
      rcases hb6.row with⟨rfl,h2,_⟩ | ⟨i,r,rfl,hiO,hg,hh⟩
      · have:L.take 10=[]:=List.eq_nil_of_length_eq_zero h2
        exact⟨none,some 0,by rw[this];rfl,fun q x hx=>by rw[this]at hx;simp at hx⟩
      · refine⟨some (i,0),none,rfl,fun q x hx=>⟨i,0,rfl,hb6.lt i hiO,fun hiO'=>by have:=hb.lt i hiO';have:=hO6 i hiO;omega,?_⟩⟩
        have hq':=EZ hx
        have hlt':q<r.n:=by
          have:=(List.getElem?_eq_some_iff.1 hq').1
          rw[hh.1];exact this
        exact Db hg (by omega) (by rw[Pv];exact hh.2 q _ hq')
    obtain⟨a6,c6,hv6⟩:=hv6
    subst hv6
    obtain⟨v',s',O',happ,hb',hn',hf',hO'⟩:=N2 Tryz.underlying24 NG PK PP PR (by omega) hb2 (u:=.slice a6 (L.take 10).length c6) rfl (by omega)
    simp only[NU,NV,N5,Xb,happ,e3,e3',Qa,Qb,Qc,Qd,Qe,Qf,Qg,Qh,Qi,Qj,Qk,Ql,Qm,Qn,true_and,and_true,Qo,Qp,Qq,Qr,Qs,Qt,Qu,Qv,Qw,Qx,Qy,Qz,Ra,Rb,Rc,Rd,Re,Rf,Rg,Rh,Ri,Rj,Rk,Rl,Rm,Rn,Ro,Rp,Rq,Ya,Yb,Yc,Rs,Rt,Xy,Yd,Ye,Rw,Rx,Ry,Rz,Wa,Wb,Wc]
    rw[← hW]
    have hcut:(FW ls)[k]? = some (L.take 10):=by
      unfold FW
      rw[P3,QP (by omega),hx]
      rfl
    refine ih (k+1) s' v' _ _ _ _ (us++[.slice a6 (L.take 10).length c6]) O' (by omega) (ho.trans ((ho2.mono ho.1).trans ⟨by omega,fun j hj=>hf' j (by have:=ho.1;have:=ho2.1;omega) (fun hjO=>by have:=hO j hjO;omega)⟩)) (by simp[hul]) hb' (fun j hj=>(hO' j hj).elim (hO j) fun h=>by have:=ho.1;have:=ho2.1;omega) fun j u c hu hcj=>?_
    have hfr2:∀ {u:AV} {c:List Int},Ho s2 O u c→Ho s' O' u c:=fun h=>h.step (by omega) hf' hO'
    rcases Pm j us.length with hj | hj
    · rw[Py hj]at hu
      exact hfr2 ((hrow j u c hu hcj).step ho2.1 (fun i hi _=>ho2.2 i hi) (fun i hi=>.inl hi))
    · rw[Pz hj]at hu
      have hj0:j - us.length=0:=by
        rcases Pm 0 (j - us.length)with h' | h'
        · rw[Pr (by simp;omega)]at hu;cases hu
        · omega
      rw[hj0]at hu
      injection hu with hu
      subst hu
      have:j=k:=by omega
      subst this
      rw[hcut]at hcj
      injection hcj with hcj
      subst hcj
      exact hfr2 hnew
end
theorem O3(b:Bool):Aw Tryz.prog .neq 4 (.bool b) (.bool b)=some (.bool false):=by cases b<;>kernel_rfl
theorem O0(b:Bool):Aw Tryz.prog .eql 4 (.bool b) (.bool b)=some (.bool true):=by cases b<;>kernel_rfl
theorem OO{s:AC}{u:AV}{c:List Int}(h:AP s.next s u (FC c)):Cd (newObj s (R 25 1 false [u])) (.slice (some (s.next,0)) 1 (some 1)) [c]:=by
 refine⟨[u],rfl,⟨some (s.next,0),some 1,rfl,fun k v hv=>?_⟩,fun k v d hv hd=>?_⟩
 ·cases k with
  | zero =>
   injection hv with hv
   subst hv
   refine⟨s.next,0,rfl,P8 _,?_⟩
   obtain⟨r,h1,h2,_⟩:=FY 25 1 [u]
   have hg:(newObj s (R 25 1 false [u])).heap.get s.next=some (.row r):=by rw[Aq,if_pos rfl];exact congrArg some h1
   exact Db hg (by rw[h2.1];exact Nat.zero_lt_one) (h2.2 0 u rfl)
  | succ k=>simp at hv
 ·cases k with
  | zero =>
   injection hv with hv
   injection hd with hd
   subst hv;subst hd
   exact(h.old (Cb.new s _) (Pl _)).mono (QD _)
  | succ k=>simp at hv
section
variable{E:EQ}
theorem MS(hE:CN E){s0:AC}{on:List Bool}{vo:AV}(hon:AP s0.next s0 vo (on.map .bool))(hol:on.length<9223372036854775808){ls:List (List Int)}{a:Option (Nat×Nat)}{cap:Option Nat}{vs:List AV}(hlen:ls.length≤maxLen)(hvs:vs.length=ls.length)(hc:AY s0.next s0 a vs)
    (hr:∀ (k:Nat) (v:AV) (c:List Int),vs[k]? = some v→ls[k]? = some c→∃a' cap',v=.slice a' c.length cap'∧FQ s0 a' cap' c.length 1∧AY s0.next s0 a' (c.map iv)∧∀x∈c,i64 x) {Q:Af→Prop} (x0 x3 x4 x5 x6 x7 x10 x11:AV) {marks:List Nat}
    (hq:∀ (s:AC) (y8 y9 y12 y13:AV),Cb s0.next s0 s→Q ⟨.exit 4,[x0,vo,.slice a ls.length cap,x3,x4,x5,x6,x7,y8,y9,x10,x11,y12,y13],marks,s⟩):
    ∀ (m k:Nat) (s:AC) (x9 x12 x13:AV),k+m=min ls.length 20→Cb s0.next s0 s →
      WC E none (.loop HL) Q [x0,vo,.slice a ls.length cap,x3,x4,x5,x6,x7,iv (k:Int),x9,x10,x11,x12,x13] marks s:=by
  intro m
  induction m with
  | zero =>
    intro k s x9 x12 x13 hkm ho
    have hml:maxLen=9223372036854775807:=rfl
    refine WC.loop' ?_
    by_cases h1:k<ls.length
    · have d1 : decide ((k : Int) < (ls.length : Int)) = true := decide_eq_true (by omega)
      have d2:decide ((k:Int)<20)=false:=decide_eq_false (by omega)
      simp only[HL,KW,AO Tryz.underlying24,Rw,d1,d2,Qa,Qb,Qc,Qd,Qe,Qf,Qg,Qh,Qi,Qj,Qk,Ql,Qm,Qn,true_and,and_true,Qo,Qp,Qq,Qr,Qs,Qt,Qu,Qv,Qw,Qx,Qy,Qz,Ra,Rb,Rc,Rd,Re,Rf,Rg,Rh,Ri,Rj,Rk,Rl,Rm,Rn,Ro,Rp,Rq,Ya,Yb,Yc,Rs,Rt,Xy,Yd,Ye,Rw,Rx,Ry,Rz,Wa,Wb,Wc]
      exact hq _ _ _ _ _ ho
    · have d1:decide ((k:Int)<(ls.length:Int))=false:=decide_eq_false (by omega)
      simp only[HL,KW,AO Tryz.underlying24,Rw,d1,Qa,Qb,Qc,Qd,Qe,Qf,Qg,Qh,Qi,Qj,Qk,Ql,Qm,Qn,true_and,and_true,Qo,Qp,Qq,Qr,Qs,Qt,Qu,Qv,Qw,Qx,Qy,Qz,Ra,Rb,Rc,Rd,Re,Rf,Rg,Rh,Ri,Rj,Rk,Rl,Rm,Rn,Ro,Rp,Rq,Ya,Yb,Yc,Rs,Rt,Xy,Yd,Ye,Rw,Rx,Ry,Rz,Wa,Wb,Wc]
      exact hq _ _ _ _ _ ho
  | succ m ih =>
    intro k s x9 x12 x13 hkm ho
    have hml:maxLen=9223372036854775807:=rfl
    have hlt:k<ls.length:=by omega
    have hx:ls[k]? = some ls[k]:=Po hlt
    generalize ls[k]=L at hx
    have hv:vs[k]? = some (vs[k]'(by omega)):=Po (by omega)
    generalize vs[k]'(by omega)=v at hv
    obtain⟨a',cap',rfl,hcap,hcells,h64⟩:=hr k v L hv hx
    obtain⟨ix,ox,rfl,hix,hload⟩:=hc k _ hv
    have e1:=BB (cap:=cap) (i:=ix) (o:=ox) Tryz.underlying24 NG hlt
    have e2:AZ Tryz.prog s 25 (.ptr (some (ix,ox+k * 1)))=some (.slice a' L.length cap'):=Bz N7 (by rw[P4,DS (ho.2 ix hix)];exact hload)
    have d1:decide ((k:Int)<(ls.length:Int))=true:=decide_eq_true (by omega)
    have d2:decide ((k:Int)<20)=true:=decide_eq_true (by omega)
    have e3:=Cw Tryz.prog 3 (k:Int) 1 ⟨by omega,by omega⟩
    have e3':((k:Int)+1)=((k+1:Nat):Int):=by omega
    have e4:CV false (iv (L.length:Int)) [.int .i64 10]=some (iv ((min L.length 10:Nat):Int)):=ME L.length 10
    obtain⟨cap2,e5⟩:=Lq Tryz.underlying25 PG (hcap.old ho) (k:=min L.length 10) (Nat.min_le_left _ _)
    have htl:(L.take 10).length=min L.length 10:=by rw[QE,Nat.min_comm]
    have hrow:AP s.next s (.slice a' (min L.length 10) cap2) (FC (L.take 10)):=by
      refine⟨a',cap2,by rw[Da,htl],?_⟩
      have:=((hcells.old ho (Pl _)).mono ho.1).take 10
      rw[← List.map_take]at this
      exact this
    have hfit:Lb [L.take 10]:=by
      refine⟨by simp,fun c hc'=>?_⟩
      rw[List.mem_singleton.1 hc']
      exact⟨by rw[htl];omega,fun q hq'=>h64 q (List.mem_of_mem_take hq')⟩
    have hone:=OO hrow
    have hon2:AP (newObj s (R 25 1 false [.slice a' (min L.length 10) cap2])).next (newObj s (R 25 1 false [.slice a' (min L.length 10) cap2])) vo (on.map .bool):=
      (hon.old (ho.trans ((Cb.new s _).mono ho.1)) (Pl _)).mono (Pu ho.1 (QD _))
    refine WC.loop' ?_
    generalize hW:WC E none (AT.loop HL) Q=WW
    simp only[HL,KW,NY,NZ,AO Tryz.underlying24,AO Tryz.underlying25,Rw,d1,d2,e1,e2,e4,e5,N5,Xb,Qa,Qb,Qc,Qd,Qe,Qf,Qg,Qh,Qi,Qj,Qk,Ql,Qm,Qn,true_and,and_true,Qo,Qp,Qq,Qr,Qs,Qt,Qu,Qv,Qw,Qx,Qy,Qz,Ra,Rb,Rc,Rd,Re,Rf,Rg,Rh,Ri,Rj,Rk,Rl,Rm,Rn,Ro,Rp,Rq,Ya,Yb,Yc,Rs,Rt,Xy,Yd,Ye,Rw,Rx,Ry,Rz,Wa,Wb,Wc]
    refine HP hE hone hfit hon2 hol fun s2 ho2=>?_
    have hone2:=hone.old ho2
    have hon3:=(hon2.old ho2 (Pl _)).mono ho2.1
    simp only[Qa,Qb,Qc,Qd,Qe,Qf,Qg,Qh,Qi,Qj,Qk,Ql,Qm,Qn,true_and,and_true,Qo,Qp,Qq,Qr,Qs,Qt,Qu,Qv,Qw,Qx,Qy,Qz,Ra,Rb,Rc,Rd,Re,Rf,Rg,Rh,Ri,Rj,Rk,Rl,Rm,Rn,Ro,Rp,Rq,Ya,Yb,Yc,Rs,Rt,Xy,Yd,Ye,Rw,Rx,Ry,Rz,Wa,Wb,Wc]
    refine(HQ hE hone2 hfit hon3 hol).mono ?_
    rintro _ _ ⟨rfl,rfl⟩
    simp only[O3,Na,e3,e3',Qa,Qb,Qc,Qd,Qe,Qf,Qg,Qh,Qi,Qj,Qk,Ql,Qm,Qn,true_and,and_true,Qo,Qp,Qq,Qr,Qs,Qt,Qu,Qv,Qw,Qx,Qy,Qz,Ra,Rb,Rc,Rd,Re,Rf,Rg,Rh,Ri,Rj,Rk,Rl,Rm,Rn,Ro,Rp,Rq,Ya,Yb,Yc,Rs,Rt,Xy,Yd,Ye,Rw,Rx,Ry,Rz,Wa,Wb,Wc]
    rw[← hW]
    exact ih (k+1) s2 _ _ _ (by omega) (ho.trans (((Cb.new s _).mono ho.1).trans (ho2.mono (Pu ho.1 (QD _)))))
theorem LB(hE:CN E){s0:AC}{us0 us1 us2:List AV}{ls rs:List (List Int)}{on:List Bool}(h0:At (At (pI .i8 Nw) 1) 1 s0 us0 ls)(h1:At pB 1 s0 us1 on)(h2:At (At (pI .i64 i64) 1) 1 s0 us2 rs):
  ∃a0 a1 a2,us0=[a0]∧us1=[a1]∧us2=[a2]∧WF E 3 [a0,a1,a2] (fun r _=>r=.bool true) s0:=by
 have hml:maxLen=9223372036854775807:=rfl
 obtain⟨a,cap,vs,rfl,hl,hvl,hc,hr⟩:=Ko h0
 obtain⟨ao,co,rfl,hol,hocap,hoc⟩:=JW h1 .bool (fun vs x h=>h)
 obtain⟨ar,cr,vr,rfl,hrl,hvrl,hrc,hrr⟩:=Ko h2
 refine⟨_,_,_,rfl,rfl,rfl,?_⟩
 have mem:∀ {k:IntKind} {R:Int→Prop} {v:AV} {c:List Int},At (pI k R) 1 s0 [v] c→∃a' cap',v=.slice a' c.length cap'∧FQ s0 a' cap' c.length 1∧AY s0.next s0 a' (c.map (AV.int k))∧∀x∈c,R x:=by
  intro k R v c h
  obtain⟨a',cap',e,_,g1,g2⟩:=JW h (AV.int k) (fun vs x h=>h.1)
  injection e with e
  obtain⟨_,_,_,_,_,g4⟩:=h
  refine⟨a',cap',e,g1,g2,fun x hx=>?_⟩
  obtain⟨j,hj⟩:=List.getElem?_of_mem hx
  obtain⟨_,_,_,_,_,_,_,g5⟩:=g4 j x hj
  exact g5.2
 refine hE.go Ov (by decide) rfl ?_
 simp only[c3,Od,Oe,Og,Qa,Qb,Qc,Qd,Qe,Qf,Qg,Qh,Qi,Qj,Qk,Ql,Qm,Qn,true_and,and_true,Qo,Qp,Qq,Qr,Qs,Qt,Qu,Qv,Qw,Qx,Qy,Qz,Ra,Rb,Rc,Rd,Re,Rf,Rg,Rh,Ri,Rj,Rk,Rl,Rm,Rn,Ro,Rp,Rq,Ya,Yb,Yc,Rs,Rt,Xy,Yd,Ye,Rw,Rx,Ry,Rz,Wa,Wb,Wc]
 refine KF hl hvl hc (fun k v c hv hcc=>by
  obtain⟨a',cap',g1,_,g3,g4⟩:=mem (hr k v c hv hcc)
  exact⟨a',cap',g1,g3,g4⟩) _ _ _ _ _ _ _ (fun s v4 y5 y6 y7 y10 y11 ho hsm=>?_) (min ls.length 20) 0 s0 _ _ _ _ _ [] [] (by omega) (Cb.refl _ _) rfl (G5.nil 25 1 s0) (fun j hj=>by cases hj) (fun j u c hu=>by simp at hu)
 have e4:CV false (iv (on.length:Int)) [.int .i64 100]=some (iv ((min on.length 100:Nat):Int)):=ME on.length 100
 obtain⟨co2,e5⟩:=Lq Tryz.underlying23 PD (hocap.old ho) (k:=min on.length 100) (Nat.min_le_left _ _)
 have htl:((on.take 100).map AV.bool).length=min on.length 100:=by rw[QC,QE,Nat.min_comm]
 have hon:AP s.next s (.slice ao (min on.length 100) co2) ((on.take 100).map .bool):=by
  refine⟨ao,co2,by rw[htl],?_⟩
  have:=((hoc.old ho (Pl _)).mono ho.1).take 100
  rw[← List.map_take]at this
  exact this
 have hon8:(on.take 100).length<9223372036854775808:=by rw[QE];omega
 simp only[if_true,NW,NX,AO Tryz.underlying23,e4,e5,Qa,Qb,Qc,Qd,Qe,Qf,Qg,Qh,Qi,Qj,Qk,Ql,Qm,Qn,true_and,and_true,Qo,Qp,Qq,Qr,Qs,Qt,Qu,Qv,Qw,Qx,Qy,Qz,Ra,Rb,Rc,Rd,Re,Rf,Rg,Rh,Ri,Rj,Rk,Rl,Rm,Rn,Ro,Rp,Rq,Ya,Yb,Yc,Rs,Rt,Xy,Yd,Ye,Rw,Rx,Ry,Rz,Wa,Wb,Wc]
 refine MS hE (s0:=s) hon hon8 hrl hvrl ((hrc.old ho (Pl _)).mono ho.1) (fun k v c hv hcc=>by
  obtain⟨a',cap',g1,g2,g3,g4⟩:=mem (hrr k v c hv hcc)
  exact⟨a',cap',g1,g2.old ho,(g3.old ho (Pl _)).mono ho.1,g4⟩) _ _ _ _ _ _ _ _ (fun s2 y8 y9 y12 y13 ho2=>?_) (min rs.length 20) 0 s _ _ _ (by omega) (Cb.refl _ _)
 have hsm2:=hsm.old ho2
 have hon2:=(hon.old ho2 (Pl _)).mono ho2.1
 have hfit:Lb (FW ls):=by
  refine⟨by unfold FW;rw[QC,QE];omega,fun c hc'=>?_⟩
  obtain⟨d,hd,rfl⟩:=List.mem_map.1 hc'
  obtain⟨k,hk⟩:=List.getElem?_of_mem (List.mem_of_mem_take hd)
  have hkl:k<ls.length:=by
   rcases Pm k ls.length with h' | h'
   ·exact h'
   ·rw[Pr h']at hk;cases hk
  obtain⟨_,_,_,_,_,g4⟩:=mem (hr k (vs[k]'(by omega)) d (Po (by omega)) hk)
  refine⟨by rw[QE];omega,fun q hq'=>?_⟩
  have g5:-128≤q∧q≤127:=g4 q (List.mem_of_mem_take hq')
  exact⟨by omega,by omega⟩
 simp only[if_true,Nb,Qa,Qb,Qc,Qd,Qe,Qf,Qg,Qh,Qi,Qj,Qk,Ql,Qm,Qn,true_and,and_true,Qo,Qp,Qq,Qr,Qs,Qt,Qu,Qv,Qw,Qx,Qy,Qz,Ra,Rb,Rc,Rd,Re,Rf,Rg,Rh,Ri,Rj,Rk,Rl,Rm,Rn,Ro,Rp,Rq,Ya,Yb,Yc,Rs,Rt,Xy,Yd,Ye,Rw,Rx,Ry,Rz,Wa,Wb,Wc]
 refine HP hE hsm2 hfit hon2 hon8 fun s3 ho3=>?_
 simp only[Qa,Qb,Qc,Qd,Qe,Qf,Qg,Qh,Qi,Qj,Qk,Ql,Qm,Qn,true_and,and_true,Qo,Qp,Qq,Qr,Qs,Qt,Qu,Qv,Qw,Qx,Qy,Qz,Ra,Rb,Rc,Rd,Re,Rf,Rg,Rh,Ri,Rj,Rk,Rl,Rm,Rn,Ro,Rp,Rq,Ya,Yb,Yc,Rs,Rt,Xy,Yd,Ye,Rw,Rx,Ry,Rz,Wa,Wb,Wc]
 refine(HQ hE (hsm2.old ho3) hfit ((hon2.old ho3 (Pl _)).mono ho3.1) hon8).mono ?_
 rintro _ _ ⟨rfl,rfl⟩
 simp only[O0,Qa,Qb,Qc,Qd,Qe,Qf,Qg,Qh,Qi,Qj,Qk,Ql,Qm,Qn,true_and,and_true,Qo,Qp,Qq,Qr,Qs,Qt,Qu,Qv,Qw,Qx,Qy,Qz,Ra,Rb,Rc,Rd,Re,Rf,Rg,Rh,Ri,Rj,Rk,Rl,Rm,Rn,Ro,Rp,Rq,Ya,Yb,Yc,Rs,Rt,Xy,Yd,Ye,Rw,Rx,Ry,Rz,Wa,Wb,Wc]
 refine WF.native (hE.works s3) ?_
 simp only[Qa,Qb,Qc,Qd,Qe,Qf,Qg,Qh,Qi,Qj,Qk,Ql,Qm,Qn,true_and,and_true,Qo,Qp,Qq,Qr,Qs,Qt,Qu,Qv,Qw,Qx,Qy,Qz,Ra,Rb,Rc,Rd,Re,Rf,Rg,Rh,Ri,Rj,Rk,Rl,Rm,Rn,Ro,Rp,Rq,Ya,Yb,Yc,Rs,Rt,Xy,Yd,Ye,Rw,Rx,Ry,Rz,Wa,Wb,Wc]
end
end
end Go.Proofs.YtniabnfoflogaaaGreatDoor.Am
set_option linter.unusedVariables false
set_option linter.unusedSimpArgs false
set_option maxRecDepth 16000
namespace Go.Proofs.YtniabnfoflogaaaGreatDoor.Am
open Go Go.Proofs
noncomputable section
theorem Js:CN Nu:=by
 refine⟨rfl,fun f xs s hf=>?_,fun s=>rfl⟩
 show JD f xs s=none
 have hf':∀k∈[7,59],Nat.beq f k=false:=fun k hk=>AG.beq_no fun e=>hf (e▸hk)
 have h2:Ee f xs s=none:=by
  unfold Ee F3
  have:([7]:List FuncId).any (Nat.beq f)=false:=by simp[hf' 7 (by simp)]
  rw[this];rfl
 have h3:LJ f xs s=none:=by
  unfold LJ
  rw[hf' 59 (by simp)];rfl
 unfold JD
 rw[h2,h3]
section
variable{H:Type}{enc:TypeId×Value→H}{w:World}{held:Bool}
theorem Lu(n:Nat)(cs:List Value)(y:DataW H×List MemPlace)
  (h:DataW.trod enc Tryz.prog w 0 (fun _=>true) held n 27 cs=some y) (ρ:Aa) (s:AC) (hd:Dl Tryz.prog w ρ s):HE Tryz.prog w (pI .i8 Nw) cs ρ s:=by
 obtain⟨m,rfl,_,h3⟩:=DataW.trod_int Tryz.underlying27 h
 refine⟨ρ,s,[.int .i8 m],m,hd,Aa.le_refl ρ,Cb.refl _ _,.cons (.int .i8 m) .nil,rfl,?_⟩
 simp only[Lit.wf,Bool.and_eq_true,decide_eq_true_eq]at h3
 exact h3
theorem K6(n:Nat)(cs:List Value)(y:DataW H×List MemPlace)
  (h:DataW.trod enc Tryz.prog w 0 (fun _=>true) held n 3 cs=some y) (ρ:Aa) (s:AC) (hd:Dl Tryz.prog w ρ s):HE Tryz.prog w (pI .i64 i64) cs ρ s:=by
 obtain⟨m,rfl,_,h3⟩:=DataW.trod_int Tryz.underlying3 h
 refine⟨ρ,s,[.int .i64 m],m,hd,Aa.le_refl ρ,Cb.refl _ _,.cons (.int .i64 m) .nil,rfl,?_⟩
 simp only[Lit.wf,Bool.and_eq_true,decide_eq_true_eq]at h3
 have h1:-9223372036854775808≤m:=h3.1
 have h2:m≤9223372036854775807:=h3.2
 exact⟨h1,by omega⟩
theorem Mz(n:Nat)(cs:List Value)(y:DataW H×List MemPlace)
  (h:DataW.trod enc Tryz.prog w 0 (fun _=>true) held n 4 cs=some y) (ρ:Aa) (s:AC) (hd:Dl Tryz.prog w ρ s):HE Tryz.prog w pB cs ρ s:=by
 obtain⟨b,rfl,_⟩:=DataW.trod_bool Tryz.underlying4 h
 exact⟨ρ,s,[.bool b],b,hd,Aa.le_refl ρ,Cb.refl _ _,.cons (.bool b) .nil,rfl⟩
theorem co3:Tryz.prog.cellsOf 3=1:=by kernel_rfl
theorem co4:Tryz.prog.cellsOf 4=1:=by kernel_rfl
theorem PL:Tryz.prog.cellsOf 25=1:=by kernel_rfl
theorem PM:Tryz.prog.cellsOf 26=1:=by kernel_rfl
theorem PN:Tryz.prog.cellsOf 27=1:=by kernel_rfl
end
section
variable{H:Type}{enc:TypeId×Value→H}{W:World}{base:Nat}
theorem hold18_true{v0 v1 v2:Value}(h0:Value.okWide Tryz.prog W .any base 22 v0)(h1:Value.okWide Tryz.prog W .any base 23 v1)(h2:Value.okWide Tryz.prog W .any base 24 v2)
  {d0 d1 d2:DataW H} {p0 p1 p2:List MemPlace} (t0:DataW.Trod enc Tryz.prog W 0 (fun _=>true) true 22 v0 d0 p0) (t1:DataW.Trod enc Tryz.prog W 0 (fun _=>true) true 23 v1 d1 p1) (t2:DataW.Trod enc Tryz.prog W 0 (fun _=>true) true 24 v2 d2 p2):
  Calls Tryz.prog 3 #[v0,v1,v2] W fun e W'=>e=.returned (.bool true)∧Hm W W':=by
 obtain⟨n0,t0⟩:=t0
 obtain⟨n1,t1⟩:=t1
 obtain⟨n2,t2⟩:=t2
 obtain⟨ρ1,s1,us0,ls,g1,g2,g3,g4,g5⟩:=By (At.old (Gk .i8 Nw)) Tryz.underlying22 PM (by decide)
  (fun hpos n cs y h _ ρ s hd=>By (Gk .i8 Nw) Tryz.underlying26 PN (by decide) (fun _ n cs y h _=>Lu n cs y h) h (fun a _=>hpos) hd) t0 (fun a ha=>Gz Tryz.underlying22 h0 a ha) (Oz Tryz.prog W)
 obtain⟨ρ2,s2,us1,on,k1,k2,k3,k4,k5⟩:=By MN Tryz.underlying23 co4 (by decide) (fun _ n cs y h _=>Mz n cs y h) t1 (fun a ha=>Gz Tryz.underlying23 h1 a ha) g1
 obtain⟨ρ3,s3,us2,rs,m1,m2,m3,m4,m5⟩:=By (At.old (Gk .i64 i64)) Tryz.underlying24 PL (by decide)
  (fun hpos n cs y h _ ρ s hd=>By (Gk .i64 i64) Tryz.underlying25 co3 (by decide) (fun _ n cs y h _=>K6 n cs y h) h (fun a _=>hpos) hd) t2 (fun a ha=>Gz Tryz.underlying24 h2 a ha) k1
 have q0:=At.old (At.old (Gk .i8 Nw)) s1 s3 us0 ls g5 (k3.trans (m3.mono k3.1))
 have q1:=At.old MN s2 s3 us1 on k5 m3
 obtain⟨a0,a1,a2,rfl,rfl,rfl,hwf⟩:=LB Js q0 q1 m5
 exact K1 m1 (.cons (Hr Tryz.underlying22 h0 (g4.mono (Aa.le_trans k2 m2))) (.cons (Hr Tryz.underlying23 h1 (k4.mono m2)) (.cons (Hr Tryz.underlying24 h2 m4) .nil))) hwf
end
end
end Go.Proofs.YtniabnfoflogaaaGreatDoor.Am
