/- Slices that grow by appends: what an append does to memory; conditions: none. -/
import Derived.Test.YtilhhmkdcoajnaaAmData
set_option linter.unusedVariables false
set_option linter.unusedSimpArgs false
namespace Go.Proofs.Ytilhhmkdcoajnaa.Am
open Go
noncomputable section
theorem A1{a b:Nat}(h:a≤b):Nat.ble a b=true:=by simpa[oQ]using h
theorem NP{a b:Nat}(h:a<b):Nat.blt a b=true:=by simpa[oq]using h
theorem Dl{a b:Nat}(h:a=b):Nat.beq a b=true:=by subst h;simp
theorem EB{a b:Nat}(h:a≠b):Nat.beq a b=false:=by
  cases hb:Nat.beq a b with
  | true=>exact absurd (pI hb) h
  | false=>rfl
theorem Ej{a b:Nat}(h:b<a):Nat.ble a b=false:=by
  cases hb:Nat.ble a b with
  | true=>rw[oQ]at hb;omega
  | false=>rfl
theorem KM{t:Aj AV}:∀ (cs:List AV)(k:Nat),(∀j u,cs[j]? = some u→t.get (k+j)=some u)→t.take k cs.length=some cs:=by
  intro cs
  induction cs with
  | nil=>intro k _;rfl
  | cons c cs ih =>
    intro k h
    have h0:=h 0 c rfl
    simp only[oZ,Aj.take]
    rw[show k+0=k from rfl]at h0
    rw[h0]
    simp only
    rw[ih (k+1) (fun j u hj=>by rw[show k+1+j=k+(j+1)from by omega];exact h (j+1) u (by simpa using hj))]
def HN(r:EF)(cs:List AV):Prop:=r.n=cs.length∧∀k u,cs[k]? = some u→r.c.get k=some u
theorem HN.take{r:EF}{cs:List AV}(h:HN r cs)(o:Nat)(l:List AV)(hl:∀j u,l[j]? = some u→cs[o+j]? = some u):r.c.take o l.length=some l:=
  KM l o fun j u hj=>h.2 _ u (hl j u hj)
theorem Da{s:ASt}{i:Nat}{r:EF}{cs:List AV}(hg:s.heap.get i=some (.row r))(h:HN r cs)(o:Nat)(l:List AV)(hle:o+l.length≤cs.length)(hl:∀j u,l[j]? = some u→cs[o+j]? = some u):
    loadN s i o l.length=some l:=by
  simp[loadN,BA,hg,AF,h.1,A1 hle,h.take o l hl]
theorem Bo(e:TypeId)(sz:Nat)(cs:List AV):∃r,AP e sz cs=.row r∧HN r cs∧r.sz=sz∧r.spare=false∧r.mode=.own∧r.par=none:=by
  refine⟨_,rfl,⟨rfl,?_⟩,rfl,rfl,rfl,rfl⟩
  intro k u hk
  have hlt:k<cs.length:=by
    rcases oI k cs.length with h | h
    · exact h
    · rw[oe h]at hk;cases hk
  show(Aj.fill .leaf 0 cs).get k=some u
  rw[Aj.get_fill,if_pos ⟨oK _,by omega⟩]
  simpa using hk
structure Jx(lo hi:Nat)(s:ASt)(v:AV)(n sz:Nat)(cs:List AV)(i:Nat)(p:Option Nat):Prop where
  len:cs.length=n * sz
  ex:(v=.slice none 0 (some 0)∧n=0)∨(v=.slice (some (i,0)) n none∧lo≤i∧i<hi∧(∀q,p=some q→lo≤q∧q<hi∧q≠i) ∧
    ∃r,s.heap.get i=some (.row r)∧HN r cs∧r.spare=true∧r.mode=.own∧r.sz=sz∧r.par=p)
theorem Jx.frame{lo hi:Nat}{s s':ASt}{v:AV}{n sz:Nat}{cs:List AV}{i:Nat}{p:Option Nat}(h:Jx lo hi s v n sz cs i p)(k:lo≤i→i<hi→s'.heap.get i=s.heap.get i):Jx lo hi s' v n sz cs i p:=by
  refine⟨h.len,?_⟩
  rcases h.ex with h1 | ⟨h1,h2,h3,h4,r,h5,h6⟩
  · exact .inl h1
  · exact .inr ⟨h1,h2,h3,h4,r,by rw[k h2 h3];exact h5,h6⟩
theorem Jx.mono{lo hi hi':Nat}{s:ASt}{v:AV}{n sz:Nat}{cs:List AV}{i:Nat}{p:Option Nat}(h:Jx lo hi s v n sz cs i p)(k:hi≤hi'):Jx lo hi' s v n sz cs i p:=by
  refine⟨h.len,?_⟩
  rcases h.ex with h1 | ⟨h1,h2,h3,h4,rest⟩
  · exact .inl h1
  · exact .inr ⟨h1,h2,by omega,fun q hq=>⟨(h4 q hq).1,by have:=(h4 q hq).2.1;omega,(h4 q hq).2.2⟩,rest⟩
theorem Jx.cells{lo hi:Nat}{s:ASt}{v:AV}{n sz:Nat}{cs:List AV}{i:Nat}{p:Option Nat}(h:Jx lo hi s v n sz cs i p):∃a cap,v=.slice a n cap∧A8 hi s a cs:=by
  rcases h.ex with⟨rfl,rfl⟩ | ⟨rfl,h2,h3,h4,r,h5,h6,_⟩
  · refine⟨none,some 0,rfl,?_⟩
    have:cs=[]:=by have:=h.len;simp at this;exact this
    subst this
    exact A8.nil
  · refine⟨_,_,rfl,fun k u hk=>⟨i,0,rfl,h3,?_⟩⟩
    have hlt:k<cs.length:=by
      rcases oI k cs.length with h' | h'
      · exact h'
      · rw[oe h']at hk;cases hk
    rw[oN]
    exact BW h5 (by rw[h6.1];exact hlt) (h6.2 k u hk)
theorem GF:∀ {a b:List AV},Af a=true→Af b=true→Af (a++b)=true
  | [],_,_,h=>h
  | x::a,b,h,k=>by simp only[Af,Bool.and_eq_true,pW]at h ⊢;exact⟨h.1,GF h.2 k⟩
def lj(s s':ASt)(i:Nat)(p:Option Nat):Prop:=s.next≤s'.next∧∀j,j<s.next→j≠i→p≠some j→s'.heap.get j=s.heap.get j
theorem Jx.appTo   {P : Program} {e : TypeId} {lo hi : Nat} {s : ASt} {v : AV} {n sz : Nat} {cs : List AV} {i : Nat} {p : Option Nat} (h : Jx   lo hi s v n sz cs i p) (hhi : hi ≤ s.next) (hlo : lo ≤ s.next) (hz : By     P e sz = true) (hsz : 0 < sz) {m : Nat} {add : List AV} (ha : add.length = m * sz) (hm : 0 < m) :
    ∃a cap v' s',v=.slice a n cap∧appTo P s e sz a n cap (m,add)=some (v',s')∧∃i' p',Jx lo s'.next s' v' (n+m) sz (cs++add) i' p'∧lj s s' i p∧lo≤s'.next∧(i'=s.next)∧(p'=none∨p'=some i)∧s'.next=s.next+1 ∧
      (∀cell,cell<cs.length→load1 s' i cell=load1 s i cell∨n=0):=by
  have hlen:(cs++add).length=(n+m) * sz:=by rw[oL,h.len,ha,pC]
  rcases h.ex with⟨rfl,rfl⟩ | ⟨rfl,h2,h3,h4,r,h5,h6,h7,h8,h9,h10⟩
  · have hcs:cs=[]:=by have:=h.len;simp at this;exact this
    subst hcs
    refine⟨none,some 0,.slice (some (s.next,0)) m none,AH s (B6 e sz (Aj.fill .leaf 0 add) add.length none),rfl,?_,s.next,none,⟨by simpa using hlen,.inr ⟨by simp,hlo,pF _,(fun q hq=>by cases hq),_,(by rw[AO,if_pos rfl];rfl),⟨rfl,?_⟩,rfl,rfl,rfl,rfl⟩⟩,
      ⟨Nat.le_succ _,fun j hj _ _=>by rw[AO,if_neg (by omega)]⟩,Nat.le_succ_of_le hlo,rfl,.inl rfl,rfl,fun _ _=>.inr rfl⟩
    · simp[Am.appTo,BV,EB (show m≠0 by omega),AF,hz]
    · intro k u hk
      show(Aj.fill .leaf 0 add).get k=some u
      have hk':add[k]? = some u:=by simpa using hk
      have hlt:k<add.length:=by
        rcases oI k add.length with h' | h'
        · exact h'
        · rw[oe h']at hk';cases hk'
      rw[Aj.get_fill,if_pos ⟨oK _,by omega⟩]
      simpa using hk'
  · have hrow : BA    s i = some r := by simp [BA,    h5]
    have hrn:r.n=n * sz:=by rw[h6.1,h.len]
    have hload:loadN s i 0 (n * sz)=some cs:=by
      have:=Da h5 h6 0 cs (by omega) (fun j u hj=>by simpa using hj)
      rw[h.len]at this
      exact this
    have hgt:¬ (0+(n+m) * sz≤r.n):=by
      rw[hrn,pC]
      have:0<m * sz:=Nat.mul_pos hm hsz
      omega
    let s2:=setObj (Ax s i r) i (.row { r with mode:=.sealed,par:=none })
    let s':=AH s2 (B6 e sz (r.c.fill (n * sz) add) (cs++add).length (some i))
    have hun:∀j,j≠i→p≠some j→(Ax s i r).heap.get j=s.heap.get j:=by
      intro j hj hp
      unfold Ax
      rw[h10]
      cases p with
      | none=>rfl
      | some q =>
        simp only
        rw[EB (h4 q rfl).2.2,cond_false,Bi,if_neg (fun e=>hp (by rw[e]))]
    have hnext:(Ax s i r).next=s.next:=by
      unfold Ax
      split
      · rfl
      · cases Nat.beq _ _<;>rfl
    have hs2n:s2.next=s.next:=hnext
    refine⟨_,_,.slice (some (s.next,0)) (n+m) none,s',rfl,?_,s.next,some i,⟨hlen,.inr ⟨rfl,hlo,by show s.next<s2.next+1;omega,?_,_,by rw[AO,if_pos hs2n.symm];rfl,⟨rfl,?_⟩,rfl,rfl,rfl,rfl⟩⟩,⟨by show s.next≤s2.next+1;omega,?_⟩,by show lo≤s2.next+1;omega,rfl,.inr rfl,by show s2.next+1=_;omega,?_⟩
    · simp only[Am.appTo]
      rw[hrow,Option.bind_some]
      unfold C2
      rw[h9,Dl rfl]
      simp only[AF,cond_true]
      rw[show Nat.ble (0+(n+m) * sz) r.n=false from Ej (by omega),cond_false,hload,Option.bind_some,h7,cond_true]
      unfold DF
      rw[h8,hz,show Nat.beq (0+n * sz) r.n=true from Dl (by omega)]
      simp only[FL,Bool.and_self,AF,cond_true,Cf,Nat.beq_eq_true_eq,Dl rfl]
      show some (AV.slice (some (s.next,0)) (n+m) none,AH s2 _)=_
      rfl
    · intro q hq
      injection hq with hq
      subst hq
      refine⟨h2,?_,?_⟩
      · show i<s2.next+1
        omega
      · omega
    · intro k u hk
      show(r.c.fill (n * sz) add).get k=some u
      rw[Aj.get_fill]
      by_cases hlt:k<cs.length
      · rw [if_neg (by rw [← h.len]; omega)]
        rw[oR hlt]at hk
        exact h6.2 k u hk
      · rw[oT (by omega)]at hk
        have hk2:k - cs.length<add.length:=by
          rcases oI (k - cs.length) add.length with h' | h'
          · exact h'
          · rw[oe h']at hk;cases hk
        rw[if_pos ⟨by rw[← h.len];omega,by rw[← h.len];omega⟩,← h.len]
        exact hk
    · intro j hj hji hp
      show s'.heap.get j=_
      rw[AO,if_neg (by omega),Ai,if_neg hji]
      exact hun j hji hp
    · intro cell hc
      left
      have e1:s'.heap.get i=some (.row { r with mode:=.sealed,par:=none }):=by
        rw[AO,if_neg (by omega),Ai,if_pos rfl]
      simp only[load1,BA,e1,h5,Option.bind_some]
theorem JV{s:ASt}{i o n size:Nat}{l:List AV}(h:loadN s i o (n * size)=some l):dS s i o n size=some l:=by
  unfold dS
  cases hn0:Nat.beq n 0 with
  | false=>exact h
  | true =>
    have:=pI hn0
    subst this
    rw[Nat.zero_mul]at h
    unfold loadN at h
    simp only[oE]at h
    obtain⟨r,_,h⟩:=h
    cases hb:Nat.ble (o+0) r.n with
    | true=>rw[hb]at h;exact h
    | false=>rw[hb]at h;cases h
theorem BO{P:Program}{st xt e:TypeId}{size by_:Nat}(ht:P.underlying st=some (.slice e))(hs:BB P e=some size)(hb:CM P e=some by_)(h0:0<size)(hx:A9 P xt=true){s:ASt}{a ax:Option (Nat×Nat)}{n m:Nat}{cap cx:Option Nat}{add:List AV}
    (hsrc:Bg P s e size (.slice ax m cx)=some (m,add)) (hc:Af add=true) (h1:(n+m) * by_≤1099511627776) (h2:n+m≤1099511627776):
    AY P s [st,xt] [.slice a n cap,.slice ax m cx]=appTo P s e size a n cap (m,add):=by
  simp[AY,ht,hs,hb,AF,EB (show size≠0 by omega),hx,hsrc,hc,A1 h1,A1 h2]
end
end Go.Proofs.Ytilhhmkdcoajnaa.Am
