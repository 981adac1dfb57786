/- Memory by owners: slices of one-cell elements that are read, written, cut and appended to in place; what one part's owner does leaves the others' objects; conditions: none. -/
import Derived.Test.YtilhhmkdcoajnaaAmM05
set_option linter.unusedVariables false
set_option linter.unusedSimpArgs false
set_option maxRecDepth 16000
namespace Go.Proofs.Ytilhhmkdcoajnaa.Am
open Go Go.Proofs
noncomputable section
abbrev Bh:=Nat×Nat×Nat
abbrev Ow:=Nat→Bh
structure AH(m:Bh→Prop)(ow:Ow)(s:AF)(ow':Ow)(s':AF):Prop where
 next:s.next≤s'.next
 tags:∀x,x<s.next→¬ m (ow x)→ow' x=ow x
 heap:∀x,x<s.next→¬ m (ow x)→s'.heap.get x=s.heap.get x
theorem AH.refl(m:Bh→Prop)(ow:Ow)(s:AF):AH m ow s ow s:=⟨qI _,fun _ _ _=>rfl,fun _ _ _=>rfl⟩
theorem AH.trans{m:Bh→Prop}{ow ow1 ow2:Ow}{s s1 s2:AF}(h:AH m ow s ow1 s1)(k:AH m ow1 s1 ow2 s2):AH m ow s ow2 s2:=by
 have h1:=h.next
 refine⟨qV h.next k.next,fun x hx hm=>(k.tags x (by omega) (by rw[h.tags x hx hm];exact hm)).trans (h.tags x hx hm),fun x hx hm=>?_⟩
 rw[k.heap x (by omega) (by rw[h.tags x hx hm];exact hm),h.heap x hx hm]
theorem AH.mono{m m':Bh→Prop}{ow ow':Ow}{s s':AF}(h:AH m ow s ow' s')(k:∀t,m t→m' t):AH m' ow s ow' s':=⟨h.next,fun x hx hm=>h.tags x hx fun q=>hm (k _ q),fun x hx hm=>h.heap x hx fun q=>hm (k _ q)⟩
def ext(ow:Ow)(n:Nat)(T:Bh):Ow:=fun x=>if x<n then ow x else T
theorem D1{ow:Ow}{n:Nat}{T:Bh}{x:Nat}(h:x<n):ext ow n T x=ow x:=if_pos h
theorem C2{ow:Ow}{n:Nat}{T:Bh}{x:Nat}(h:n≤x):ext ow n T x=T:=if_neg (by omega)
theorem AH.old{m:Bh→Prop}{ow:Ow}{s s':AF}(h:BG s.next s s')(T:Bh):AH m ow s (ext ow s.next T) s':=⟨h.1,fun x hx _=>D1 hx,fun x hx _=>h.2 x hx⟩
theorem AH.new(m:Bh→Prop)(ow:Ow)(s:AF)(o:C0)(T:Bh):AH m ow s (ext ow s.next T) (newObj s o):=AH.old (BG.new s o) T
structure RR(ow:Ow)(T:Bh)(s:AF)(i:Nat)(r:EY):Prop where
 get:s.heap.get i=some (.row r)
 whose:ow i=T
 lt:i<s.next
 own:r.mode=.own
 sz:r.sz=1
 par:∀p,r.par=some p→ow p=T∧p<s.next∧p≠i
theorem RR.step{m:Bh→Prop}{ow ow':Ow}{T:Bh}{s s':AF}{i:Nat}{r:EY}(h:RR ow T s i r)(k:AH m ow s ow' s')(hm:¬ m T):RR ow' T s' i r:=by
 have hn:=k.next
 have hl:=h.lt
 refine⟨by rw[k.heap i h.lt (by rw[h.whose];exact hm)];exact h.get,by rw[k.tags i h.lt (by rw[h.whose];exact hm)];exact h.whose,by omega,h.own,h.sz,fun p hp=>?_⟩
 obtain⟨h1,h2,h3⟩:=h.par p hp
 exact⟨by rw[k.tags p h2 (by rw[h1];exact hm)];exact h1,by omega,h3⟩
theorem RR.store{ow:Ow}{T:Bh}{s:AF}{i o:Nat}{r:EY}(h:RR ow T s i r){vs:List AV}(hne:vs≠[])(ho:o+vs.length≤r.n)(hc:Ak vs=true):
  ∃s',CK s i o vs=some s'∧RR ow T s' i { r with c:=r.c.fill o vs,par:=none }∧AH (· = T) ow s ow s'∧s'.next=s.next:=by
 have hrow:rowAt s i=some r:=by simp[rowAt,h.get]
 have hst:CK s i o vs=some (setObj (Av s i r) i (.row { r with c:=r.c.fill o vs,par:=none })):=by
  cases vs with
  | nil=>exact absurd rfl hne
  | cons v vs =>
   have hb:=BS ho
   rw[qh]at hb
   simp[CK,hrow,h.own,Ec,hb,hc,AI]
 have hun:(Av s i r).next=s.next:=by
  unfold Av
  split
  ·rfl
  ·rename_i p _
   cases Nat.beq p i<;>rfl
 refine⟨_,hst,⟨by rw[BL,if_pos rfl],h.whose,by show i<(Av s i r).next;rw[hun];exact h.lt,h.own,h.sz,fun p hp=>by cases hp⟩,⟨by show s.next≤(Av s i r).next;omega,fun _ _ _=>rfl,fun x hx hm=>?_⟩,hun⟩
 have hxi:x≠i:=fun e=>hm (by rw[e];exact h.whose)
 rw[BL,if_neg hxi]
 unfold Av
 cases hp:r.par with
 | none=>rfl
 | some p =>
  obtain⟨h1,h2,h3⟩:=h.par p hp
  have hb:Nat.beq p i=false:=D0 h3
  simp only[hb,cond_false]
  rw[FP,if_neg (fun e=>hm (by rw[e];exact h1))]
theorem FK{a:Option (Nat×Nat)}{n:Nat}{cx:Option Nat}:FY (.slice a n cx) (.slice a n cx)=true:=by
 cases a with
 | none=>cases cx<;>simp[FY]
 | some io=>obtain⟨i,o⟩:=io;cases cx<;>simp[FY]
def Bc(ow:Ow)(T:Bh)(s:AF)(v:AV)(cs:List AV):Prop:=(v=.slice none 0 (some 0)∧cs=[]) ∨
 ∃i o cap r,v=.slice (some (i,o)) cs.length cap∧RR ow T s i r∧(∀k u,cs[k]? = some u→r.c.get (o+k)=some u)∧o+cs.length≤r.n∧(match cap with
  | some c=>cs.length≤c∧o+c≤r.n
  | none=>o=0∧0<r.n)
theorem Bc.nil(ow:Ow)(T:Bh)(s:AF):Bc ow T s (.slice none 0 (some 0)) []:=.inl ⟨rfl,rfl⟩
theorem Bc.step{m:Bh→Prop}{ow ow':Ow}{T:Bh}{s s':AF}{v:AV}{cs:List AV}(h:Bc ow T s v cs)(k:AH m ow s ow' s')(hm:¬ m T):Bc ow' T s' v cs:=by
 rcases h with h | ⟨i,o,cap,r,h1,h2,h3⟩
 ·exact .inl h
 ·exact .inr ⟨i,o,cap,r,h1,h2.step k hm,h3⟩
theorem Bc.isCell{ow:Ow}{T:Bh}{s:AF}{v:AV}{cs:List AV}(h:Bc ow T s v cs):v.isCell=true∧v.cells=[v]:=by
 rcases h with⟨rfl,_⟩ | ⟨i,o,cap,r,rfl,_⟩<;>exact⟨rfl,rfl⟩
theorem Bc.slice{ow:Ow}{T:Bh}{s:AF}{v:AV}{cs:List AV}(h:Bc ow T s v cs):AX s.next s v cs:=by
 rcases h with⟨rfl,rfl⟩ | ⟨i,o,cap,r,rfl,h2,h3,h4,h5⟩
 ·exact⟨none,some 0,rfl,Ay.nil⟩
 ·exact⟨_,_,rfl,fun k u hk=>⟨i,o,rfl,h2.lt,B1 h2.get (by have:=Ag hk;omega) (h3 k u hk)⟩⟩
theorem Bc.self{ow:Ow}{T:Bh}{s:AF}{v:AV}{cs:List AV}(h:Bc ow T s v cs):FY v v=true:=by
 obtain⟨a,cap,rfl,_⟩:=h.slice
 exact FK
theorem Bc.len{ow:Ow}{T:Bh}{s:AF}{v:AV}{cs:List AV}(h:Bc ow T s v cs){t e:TypeId}(ht:Try.prog.underlying t=some (.slice e))(s':AF):Aq Try.prog s' t v=some (iv (cs.length:Int)):=by
 rcases h with⟨rfl,rfl⟩ | ⟨i,o,cap,r,rfl,_⟩
 ·exact AW ht
 ·exact AW ht
def BA(v:AV)(k:Nat):AV:=match v with
 | .slice (some (i,o)) _ _=>.ptr (some (i,o+k * 1))
 | _=>BJ
theorem Bc.addr{ow:Ow}{T:Bh}{s:AF}{v:AV}{cs:List AV}(h:Bc ow T s v cs){t e:TypeId}(ht:Try.prog.underlying t=some (.slice e))(hs:BC Try.prog e=some 1){k:Nat}(hk:k<cs.length):AC Try.prog t v (iv (k:Int))=some (BA v k):=by
 rcases h with⟨rfl,rfl⟩ | ⟨i,o,cap,r,rfl,_⟩
 ·simp at hk
 ·exact Al ht hs hk
theorem Bc.get{ow:Ow}{T:Bh}{s:AF}{v:AV}{cs:List AV}(h:Bc ow T s v cs){t:TypeId}(ht:Fp Try.prog t=some false){k:Nat}{u:AV}(hk:cs[k]? = some u):AD Try.prog s t (BA v k)=some u:=by
  rcases h with⟨rfl,rfl⟩ | ⟨i,o,cap,r,rfl,h2,h3,h4,h5⟩
  · simp at hk
  · refine A4       ht ?_
    rw[qa]
    exact B1 h2.get (by have:=Ag hk;omega) (h3 k u hk)
theorem Bc.set  {ow : Ow} {T : Bh}  {s : AF}  {v : AV} {cs : List AV} (h : Bc  ow T s v cs) {t : TypeId} (ht : BC    Try.prog t = some 1) {k : Nat} (hk : k < cs.length) {x : AV} (h1 : x.isCell = true) (h2 : x.cells = [x]) :
    ∃s',AM Try.prog s t (BA v k) x=some s'∧Bc ow T s' v (cs.set k x)∧AH (· = T) ow s ow s'∧s'.next=s.next:=by
  rcases h with⟨rfl,rfl⟩ | ⟨i,o,cap,r,rfl,hm,h3,h4,h5⟩
  · simp at hk
  · obtain⟨s',g1,g2,g3,g4⟩:=hm.store (o:=o+k * 1) (vs:=[x]) (by simp) (by simp;omega) (by simp[Ak,h1])
    refine⟨s',?_,.inr ⟨i,o,cap,_,by rw[qQ],g2,fun j u hj=>?_,by rw[qQ];exact h4,?_⟩,g3,g4⟩
    · simp[BA,AM,ht,h2,AI]
      rw[← g1]
      congr 1
      omega
    · show(Aj.fill r.c (o+k * 1) [x]).get (o+j)=some u
      rw[Aj.get_fill]
      rw[qc]at hj
      by_cases e:k=j
      · subst e
        rw[if_pos rfl,if_pos hk]at hj
        rw[if_pos ⟨by omega,by show o+k<o+k * 1+1;omega⟩,show o+k - (o+k * 1)=0 by omega]
        exact hj
      · rw [if_neg e] at hj
        rw[if_neg (fun q=>e (by have q1:=q.1;have q2:o+j<o+k * 1+1:=q.2;omega))]
        exact h3 j u hj
    · cases cap with
      | none=>exact h5
      | some c=>exact⟨by rw[qQ];exact h5.1,h5.2⟩
def FZ(v:AV)(k:Nat):AV:=match v with
 | .slice a _ cap=>.slice a k cap
 | _=>v
theorem Bc.cut{ow:Ow}{T:Bh}{s:AF}{v:AV}{cs:List AV}(h:Bc ow T s v cs){k:Nat}(hk:k≤cs.length):Bc ow T s (FZ v k) (cs.take k):=by
 rcases h with⟨rfl,rfl⟩ | ⟨i,o,cap,r,rfl,h2,h3,h4,h5⟩
 ·have:k=0:=by simpa using hk
  subst this
  exact .inl ⟨rfl,rfl⟩
 ·have hl:(cs.take k).length=k:=by rw[qb];omega
  refine .inr ⟨i,o,cap,r,by rw[hl];rfl,h2,fun j u hj=>?_,by omega,?_⟩
  ·rw[rZ]at hj
   split at hj
   ·exact h3 j u hj
   ·cases hj
  ·cases cap with
   | none=>exact h5
   | some c=>exact⟨by omega,h5.2⟩
theorem Bc.cut_op{ow:Ow}{T:Bh}{s:AF}{v:AV}{cs:List AV}(h:Bc ow T s v cs){t e:TypeId}(ht:Try.prog.underlying t=some (.slice e))(hs:BC Try.prog e=some 1){k:Nat}(hk:k≤cs.length):
  Ad Try.prog t false true false s [v,iv (k:Int)]=some (FZ v k):=by
 rcases h with⟨rfl,rfl⟩ | ⟨i,o,cap,r,rfl,h2,h3,h4,h5⟩
 ·have:k=0:=by simpa using hk
  subst this
  have hb:BD (.int .i64 0) 0=some 0:=rfl
  show Ar Try.prog s t (.slice none 0 (some 0)) none (some (iv ((0:Nat):Int))) none=_
  simp[Ar,ht,hs,hb,FZ]
 ·cases cap with
  | some c =>
   have hb:BD (iv (k:Int)) c=some k:=by simp[BD,Eb,Cc,AI,BS (show k≤c by have:=h5.1;omega)]
   show Ar Try.prog s t (.slice (some (i,o)) cs.length (some c)) none (some (iv (k:Int))) none=_
   cases hz:Nat.beq c 0<;>simp[Ar,ht,hs,hb,FZ]
  | none =>
   have h5:o=0:=h5.1
   subst h5
   have hb:BD (iv (k:Int)) r.n=some k:=by simp[BD,Eb,Cc,AI,BS (show k≤r.n by omega)]
   have hrow:rowAt s i=some r:=by simp[rowAt,h2.get]
   show Ar Try.prog s t (.slice (some (i,0)) cs.length none) none (some (iv (k:Int))) none=_
   simp[Ar,ht,hs,hrow,h2.sz,AI,hb,BS (qO r.n),show Nat.beq 1 0=false from rfl,FZ]
def ED(v:AV)(k:Nat):AV:=match v with
 | .slice none n (some c)=>.slice none (n - k) (some (c - k))
 | .slice (some (i,o)) n (some c)=>.slice (some (bif Nat.beq c k then (i,o)else (i,o+k * 1))) (n - k) (some (c - k))
 | .slice (some (i,o)) n none=>.slice (some (i,o+k * 1)) (n - k) none
 | v=>v
theorem Bc.rest  {ow : Ow} {T : Bh}  {s : AF}  {v : AV} {cs : List AV} (h : Bc  ow T s v cs) {t e : TypeId} (ht : Try.prog.underlying t = some (.slice e)) (hs : BC    Try.prog e = some 1) {k : Nat} (hk : k ≤ cs.length) :
    Ad Try.prog t true false false s [v,iv (k:Int)]=some (ED v k)∧AX s.next s (ED v k) (cs.drop k):=by
  have hb:BD (iv (k:Int)) cs.length=some k:=by simp[BD,Eb,Cc,AI,BS hk]
  rcases h with⟨rfl,rfl⟩ | ⟨i,o,cap,r,rfl,h2,h3,h4,h5⟩
  · have:k=0:=by simpa using hk
    subst this
    have hb0:BD (.int .i64 0) 0=some 0:=rfl
    refine⟨?_,⟨none,some 0,rfl,Ay.nil⟩⟩
    show Ar Try.prog s t (.slice none 0 (some 0)) (some (iv ((0:Nat):Int))) none none=_
    simp[Ar,ht,hs,hb0,ED]
  · have cells:∀cap',AX s.next s (.slice (some (i,o+k * 1)) (cs.length - k) cap') (cs.drop k):=fun cap'=>by
      refine⟨_,_,by rw[rB],fun j u hj=>⟨i,o+k * 1,rfl,h2.lt,?_⟩⟩
      rw[qk]at hj
      rw[show o+k * 1+j=o+(k+j) by omega]
      exact B1 h2.get (by have:=Ag hj;omega) (h3 _ u hj)
    cases cap with
    | some c =>
      cases hz:Nat.beq c k with
      | false =>
        refine⟨?_,by simp only[ED,hz,cond_false];exact cells (some (c - k))⟩
        show Ar Try.prog s t (.slice (some (i,o)) cs.length (some c)) (some (iv (k:Int))) none none=_
        simp[Ar,ht,hs,hb,hz,ED]
      | true =>
        have hck:=qu hz
        have hkl:k=cs.length:=by have:=h5.1;omega
        refine⟨?_,by simp only[ED,hz,cond_true];exact⟨_,_,by rw[rB],fun j u hj=>by rw[hkl,List.drop_length]at hj;simp at hj⟩⟩
        show Ar Try.prog s t (.slice (some (i,o)) cs.length (some c)) (some (iv (k:Int))) none none=_
        simp[Ar,ht,hs,hb,hz,ED]
    | none =>
      have h5:o=0:=h5.1
      subst h5
      have hrow:rowAt s i=some r:=by simp[rowAt,h2.get]
      refine⟨?_,by simp only[ED];exact cells none⟩
      show Ar Try.prog s t (.slice (some (i,0)) cs.length none) (some (iv (k:Int))) none none=_
      simp[Ar,ht,hs,hrow,h2.sz,AI,hb,BS (qO r.n),show Nat.beq 1 0=false from rfl,ED]
theorem C4{t:Aj AV}{n:Nat}{vs:List AV}{j:Nat}{u:AV}(h:vs[j]? = some u):(t.fill n vs).get (n+j)=some u:=by
 have:=Ag h
 rw[Aj.get_fill,if_pos ⟨by omega,by omega⟩,Nat.add_sub_cancel_left]
 exact h
theorem FO{t:Aj AV}{n:Nat}{vs:List AV}{j:Nat}(h:j<n):(t.fill n vs).get j=t.get j:=by
 rw[Aj.get_fill,if_neg (by omega)]
theorem Og{cs:List AV}{x u:AV}{k:Nat}(h:(cs++[x])[k]? = some u):(k<cs.length∧cs[k]? = some u)∨(k=cs.length∧u=x):=by
 rcases qN k cs.length with hlt | hge
 ·rw[qX hlt]at h;exact .inl ⟨hlt,h⟩
 ·rw[qY hge]at h
  have hk:k=cs.length:=by
   rcases qN (k - cs.length) 1 with h' | h'
   ·omega
   ·rw[qZ (by simpa using h')]at h;cases h
  subst hk
  exact .inr ⟨rfl,by simpa using h.symm⟩
theorem Bc.push  {ow : Ow} {T : Bh}  {s : AF}  {v : AV} {cs : List AV} (h : Bc  ow T s v cs) {st e : TypeId} {by_ : Nat} (ht : Try.prog.underlying st = some (.slice e)) (hs : BC    Try.prog e = some 1) (hb : CQ     Try.prog e = some by_) (hby : by_ ≤ 100) (hx : BI           Try.prog st = true) (hz : CC     Try.prog e 1 = true)
    (hl:cs.length≤1000000000) {x:AV} (hc:x.isCell=true) {q:Nat} {ty:TypeId} {sz':Nat} (hq:s.heap.get q=some (AO ty sz' [x])):
    ∃v' s' ow',Af Try.prog s [st,st] [v,.slice (some (q,0)) 1 (some 1)]=some (v',s')∧Bc ow' T s' v' (cs++[x])∧AH (· = T) ow s ow' s':=by
  have hsrc:BZ Try.prog s e 1 (.slice (some (q,0)) 1 (some 1))=some (1,[x]):=GY ty sz' hq rfl
  have hac:Ak [x]=true:=by simp[Ak,hc]
  have hmul:(cs.length+1) * by_≤(cs.length+1) * 100:=rn _ hby
  have fresh:∀ (s1:AF),AH (· = T) ow s ow s1→s1.next=s.next→(∀ (c:Aj AV) (par:Option Nat),(∀k u,(cs++[x])[k]? = some u→c.get k=some u)→(∀p,par=some p→ow p=T∧p<s.next) →
      ∃ow',Bc ow' T (newObj s1 (Cp e 1 c (cs++[x]).length par)) (.slice (some (s.next,0)) (cs.length+1) none) (cs++[x])∧AH (· = T) ow s ow' (newObj s1 (Cp e 1 c (cs++[x]).length par))):=by
    intro s1 hst hn c par hcg hpar
    refine⟨ext ow s1.next T,.inr ⟨s.next,0,none,{ elem:=e,sz:=1,n:=(cs++[x]).length,c,spare:=true,mode:=.own,par,bytes:=false },by rw[qM];rfl,⟨by rw[AQ,if_pos hn.symm];rfl,C2 (by omega),by show s.next<s1.next+1;omega,rfl,rfl,fun p hp=>?_⟩,fun k u hk=>by rw[qU];exact hcg k u hk,by rw[qU];exact qI _,⟨rfl,by show 0<(cs++[x]).length;simp⟩⟩,hst.trans (AH.new _ ow s1 _ T)⟩
    obtain⟨h1,h2⟩:=hpar p hp
    exact⟨by rw[D1 (by omega)];exact h1,by show p<s1.next+1;omega,by omega⟩
  rcases h with⟨rfl,rfl⟩ | ⟨i,o,cap,r,rfl,h2,h3,h4,h5⟩
  · obtain⟨ow',g1,g2⟩:=fresh s (AH.refl _ _ _) rfl (Aj.fill .leaf 0 [x]) none (fun k u hk=>by
      have:=C4 (t:=Aj.leaf) (n:=0) hk
      rw[qU]at this
      exact this) (fun p hp=>by cases hp)
    refine⟨_,_,ow',?_,g1,g2⟩
    rw[CB ht hs hb (by decide) hx hsrc hac (by simp;omega) (by simp)]
    simp only[appTo,D0 (show(1:Nat)≠0 by decide),cond_false,Bv,AI,hz,cond_true]
    rfl
  · have happ := CB         (st := st) (xt := st) (a := some (i, o)) (n := cs.length) (cap := cap) ht hs hb (by decide) hx hsrc hac (by omega) (by omega)
    have hcells:loadN s i o (cs.length * 1)=some cs:=by
      have hrow:rowAt s i=some r:=by simp[rowAt,h2.get]
      simp only[loadN,hrow,Option.bind_some,qa,BS h4,AI,cond_true]
      exact He _ _ fun j u hj=>h3 j u hj
    have freshC:∀k u,(cs++[x])[k]? = some u→(Aj.fill .leaf 0 (cs++[x])).get k=some u:=fun k u hk=>by
      have:=C4 (t:=Aj.leaf) (n:=0) hk
      rw[qU]at this
      exact this
    cases cap with
    | some c =>
      obtain⟨h6,h7⟩:=h5
      by_cases hfit:cs.length+1≤c
      · obtain⟨s',g1,g2,g3,g4⟩:=h2.store (o:=o+cs.length * 1) (vs:=[x]) (by simp) (by simp;omega) hac
        refine⟨.slice (some (i,o)) (cs.length+1) (some c),s',ow,?_,.inr ⟨i,o,some c,_,by rw[qM];rfl,g2,fun k u hk=>?_,by rw[qM];show o+(cs.length+1)≤r.n;omega,by rw[qM];exact⟨hfit,h7⟩⟩,g3⟩
        · rw[happ]
          simp only[appTo,DP,BS hfit,cond_true,g1,Option.bind_some]
        · show(Aj.fill r.c (o+cs.length * 1) [x]).get (o+k)=some u
          rcases Og hk with⟨k1,k2⟩ | ⟨rfl,rfl⟩
          · rw[FO (by omega)];exact h3 k u k2
          · have:=C4 (t:=r.c) (n:=o+cs.length * 1) (vs:=[u]) (j:=0) rfl
            rw[show o+cs.length=o+cs.length * 1+0 by omega];exact this
      · obtain⟨ow',g1,g2⟩:=fresh s (AH.refl _ _ _) rfl (Aj.fill .leaf 0 (cs++[x])) none freshC (fun p hp=>by cases hp)
        refine⟨_,_,ow',?_,g1,g2⟩
        rw[happ]
        simp only[appTo,DP,GL (show c<cs.length+1 by omega),cond_false,hcells,Option.bind_some,Bv,AI,hz,cond_true]
    | none =>
      have h5:o=0:=h5.1
      subst h5
      have hrow:rowAt s i=some r:=by simp[rowAt,h2.get]
      by_cases hfit:cs.length+1≤r.n
      · obtain⟨s',g1,g2,g3,g4⟩:=h2.store (o:=0+cs.length * 1) (vs:=[x]) (by simp) (by simp;omega) hac
        refine⟨.slice (some (i,0)) (cs.length+1) none,s',ow,?_,.inr ⟨i,0,none,_,by rw[qM];rfl,g2,fun k u hk=>?_,by rw[qM];show 0+(cs.length+1)≤r.n;omega,⟨rfl,by show 0<r.n;omega⟩⟩,g3⟩
        · rw[happ]
          simp only[appTo,hrow,Option.bind_some,Dz,h2.sz,Di rfl,AI,cond_true,BS (show 0+(cs.length+1) * 1≤r.n by omega),g1]
        · show(Aj.fill r.c (0+cs.length * 1) [x]).get (0+k)=some u
          rcases Og hk with⟨k1,k2⟩ | ⟨rfl,rfl⟩
          · rw[FO (by omega)];exact h3 k u k2
          · have:=C4 (t:=r.c) (n:=0+cs.length * 1) (vs:=[u]) (j:=0) rfl
            rw[show 0+cs.length=0+cs.length * 1+0 by omega];exact this
      · have hnf : Nat.ble (0 + (cs.length + 1) * 1) r.n = false := GL      (by omega)
        have hends:Nat.beq (0+cs.length * 1) r.n=true:=Di (by omega)
        cases hsp:r.spare with
        | false =>
          obtain⟨ow',g1,g2⟩:=fresh s (AH.refl _ _ _) rfl (Aj.fill .leaf 0 (cs++[x])) none freshC (fun p hp=>by cases hp)
          refine⟨_,_,ow',?_,g1,g2⟩
          rw[happ]
          simp only[appTo,hrow,Option.bind_some,Dz,h2.sz,Di rfl,AI,cond_true,hnf,cond_false,hcells,hsp,Bv,hz]
        | true =>
          have hun:(Av s i r).next=s.next:=by
            unfold Av
            split
            · rfl
            · rename_i p _
              cases Nat.beq p i<;>rfl
          have hst:AH (· = T) ow s ow (setObj (Av s i r) i (.row { r with mode:=.sealed,par:=none })):=by
            refine⟨by show s.next≤(Av s i r).next;omega,fun _ _ _=>rfl,fun y hy hm=>?_⟩
            have hyi:y≠i:=fun e=>hm (by rw[e];exact h2.whose)
            rw[BL,if_neg hyi]
            unfold Av
            cases hp:r.par with
            | none=>rfl
            | some p =>
              obtain⟨k1,k2,k3⟩:=h2.par p hp
              simp only[D0 k3,cond_false]
              rw[FP,if_neg (fun e=>hm (by rw[e];exact k1))]
          obtain⟨ow',g1,g2⟩:=fresh _ hst hun (r.c.fill (cs.length * 1) [x]) (some i) (fun k u hk=>by
            rcases Og hk with⟨k1,k2⟩ | ⟨rfl,rfl⟩
            · rw[FO (by omega)]
              have:=h3 k u k2
              rw[qU]at this
              exact this
            · have:=C4 (t:=r.c) (n:=cs.length * 1) (vs:=[u]) (j:=0) rfl
              rw[show cs.length=cs.length * 1+0 by omega]
              rw[show(cs.length * 1+0) * 1=cs.length * 1 by omega]
              exact this) (fun p hp=>by injection hp with hp;subst hp;exact⟨h2.whose,h2.lt⟩)
          refine⟨_,_,ow',?_,g1,g2⟩
          rw[happ]
          simp only[appTo,hrow,Option.bind_some,Dz,h2.sz,Di rfl,AI,cond_true,hnf,cond_false,hcells,hsp,DQ,h2.own,Ec,hz,Bool.and_self,hends,Cm]
def DM(s:AF)(i:Nat)(cs:List AV):Prop:=∃r,s.heap.get i=some (.row r)∧IJ r cs∧r.mode=.own∧r.par=none
theorem DM.keep{s s':AF}{i:Nat}{cs:List AV}(h:DM s i cs)(k:s'.heap.get i=s.heap.get i):DM s' i cs:=by
 obtain⟨r,h1,h2⟩:=h
 exact⟨r,k.trans h1,h2⟩
theorem DM.load{s:AF}{i k:Nat}{cs:List AV}{u:AV}(h:DM s i cs)(hk:cs[k]? = some u){t:TypeId}(ht:Fp Try.prog t=some false):AD Try.prog s t (.ptr (some (i,k)))=some u:=by
 obtain⟨r,h1,h2,_⟩:=h
 exact A4 ht (B1 h1 (by rw[h2.1];exact Ag hk) (h2.2 k u hk))
theorem DM.store{s:AF}{i k:Nat}{cs:List AV}{d:AV}(h:DM s i cs)(hk:k<cs.length){t:TypeId}(ht:BC Try.prog t=some 1)(h1:d.isCell=true)(h2:d.cells=[d]):
    ∃s',AM Try.prog s t (.ptr (some (i,k))) d=some s'∧DM s' i (cs.set k d)∧s'.next=s.next∧∀x,x≠i→s'.heap.get x=s.heap.get x:=by
  obtain⟨r,g1,g2,g3,g4⟩:=h
  refine⟨_,Nx ht g1 g3 g4 (by rw[g2.1];exact hk) h2 h1,⟨{ r with c:=r.c.fill k [d],par:=none },by rw[BL,if_pos rfl],⟨by show r.n=_;rw[g2.1,qQ],fun j u hj=>?_⟩,g3,rfl⟩,rfl,fun x hx=>by rw[BL,if_neg hx]⟩
  show(Aj.fill r.c k [d]).get j=some u
  rw[qc]at hj
  by_cases e:k=j
  · subst e
    rw[if_pos rfl,if_pos hk]at hj
    rw[Aj.get_fill,if_pos ⟨qI _,by show k<k+1;omega⟩,rJ]
    exact hj
  · rw [if_neg e] at hj
    rw[Aj.get_fill,if_neg (fun q=>e (by have q1:=q.1;have q2:j<k+1:=q.2;omega))]
    exact g2.2 j u hj
theorem DM.new{s:AF}{t:TypeId}{cs:List AV}:DM (newObj s (AO t 0 cs)) s.next cs:=by
 obtain⟨r,h1,h2,h3,h4,h5,h6⟩:=Br t 0 cs
 exact⟨r,by rw[AQ,if_pos rfl,h1],h2,h5,h6⟩
abbrev A6:=List Int×Bool×Bool
structure Sv where
 watches:List (List Nat)
 learned:List Nat
 value:List Int
 level:List Int
 why:List (Option Nat)
 heat:List Int
 phase:List Int
 trail:List Int
 limits:List Int
 head:Int
 broken:Bool
 model:List Int
 trace:List (Bool×List Int)
 many:Int
 room:Int
 cl:Nat→Option A6
structure Sf where
 w:AV
 l:AV
 val:AV
 lev:AV
 why:AV
 heat:AV
 ph:AV
 tr:AV
 lim:AV
 mo:AV
 trc:AV
def AK(c:Nat):AV:=.ptr (some (c,0))
def HN:Option Nat→AV
 | none=>.ptr none
 | some c=>AK c
abbrev Dd(x:Sf)(v:Sv):List AV:=[x.w,x.l,x.val,x.lev,x.why,x.heat,x.ph,x.tr,x.lim,iv v.head,.bool v.broken,x.mo,x.trc,iv v.many,iv v.room]
abbrev Em(L:List Nat):List AV:=L.map AK
def Wg(ow:Ow)(s:AF)(p c:Nat)(l:A6):Prop:=∃u,DM s c [u,.bool l.2.1,.bool l.2.2]∧ow c=(p,14,c)∧c<s.next∧Bc ow (p,15,c) s u (Ax l.1)
def oP(ow:Ow)(s:AF)(p:Nat)(v:AV)(ws:List (List Nat)):Prop:=∃us:List AV,us.length=ws.length∧Bc ow (p,1,0) s v us∧∀ (k:Nat)(L:List Nat),ws[k]? = some L→∃u:AV,us[k]? = some u∧Bc ow (p,2,k) s u (Em L)
def N8(ow:Ow)(s:AF)(p:Nat)(v:AV)(T:Ba):Prop:=∃us O,B8 s v T.length 2 us O∧(∀j∈O,ow j=(p,12,0))∧(∀j,Cn v=some j→ow j=(p,12,0)∧j<s.next)∧Bg s.next s us T∧∀u∈us,∀j,Cn u=some j→ow j=(p,13,0)∧j<s.next
structure Ah(ow:Ow)(s:AF)(p:Nat)(x:Sf)(v:Sv):Prop where
 box:DM s p (Dd x v)
 tag:ow p=(p,0,0)
 lt:p<s.next
 w:oP ow s p x.w v.watches
 learned:Bc ow (p,3,0) s x.l (v.learned.map AK)
 value:Bc ow (p,4,0) s x.val (Ax v.value)
 level:Bc ow (p,5,0) s x.lev (Ax v.level)
 why:Bc ow (p,6,0) s x.why (v.why.map HN)
 heat:Bc ow (p,7,0) s x.heat (Ax v.heat)
 phase:Bc ow (p,8,0) s x.ph (Ax v.phase)
 trail:Bc ow (p,9,0) s x.tr (Ax v.trail)
 limits:Bc ow (p,10,0) s x.lim (Ax v.limits)
 model:Bc ow (p,11,0) s x.mo (Ax v.model)
 trace:N8 ow s p x.trc v.trace
 cls:∀c l,v.cl c=some l→Wg ow s p c l
def Bb(p:Nat)(t:Bh):Prop:=t.1=p
def BU(p:Nat)(t:Bh):Prop:=t.1=p∧t.2.1≠1∧t.2.1≠2∧t.2.1<16
def KK(p:Nat)(t:Bh):Prop:=t.1=p∧(t.2.1=1∨t.2.1=2)
theorem AH.w{p:Nat}{ow ow':Ow}{s s':AF}(h:AH (KK p) ow s ow' s'):AH (Bb p) ow s ow' s':=h.mono fun t ht=>ht.1
def Uw(p k:Nat)(t:Bh):Prop:=t=(p,0,0)∨t=(p,k,0)
theorem AH.n{p k:Nat}{ow ow':Ow}{s s':AF}(h:AH (Uw p k) ow s ow' s')(h1:k≠1)(h2:k≠2)(h3:k<16):AH (BU p) ow s ow' s':=h.mono fun t ht=>by
 rcases ht with e | e
 ·rw[e];exact⟨rfl,by simp,by simp,by simp⟩
 ·rw[e];exact⟨rfl,h1,h2,h3⟩
theorem AH.b{p:Nat}{ow ow':Ow}{s s':AF}(h:AH (BU p) ow s ow' s'):AH (Bb p) ow s ow' s':=h.mono fun t ht=>ht.1
theorem Wg.step{m:Bh→Prop}{ow ow':Ow}{s s':AF}{p c:Nat}{l:A6}(h:Wg ow s p c l)(k:AH m ow s ow' s')(h1:¬ m (p,14,c))(h2:¬ m (p,15,c)):Wg ow' s' p c l:=by
 obtain⟨u,g1,g2,g3,g4⟩:=h
 have hn:=k.next
 exact⟨u,g1.keep (k.heap c g3 (by rw[g2];exact h1)),by rw[k.tags c g3 (by rw[g2];exact h1)];exact g2,by omega,g4.step k h2⟩
theorem oP.step{m:Bh→Prop}{ow ow':Ow}{s s':AF}{p:Nat}{v:AV}{ws:List (List Nat)}(h:oP ow s p v ws)(k:AH m ow s ow' s')(h1:¬ m (p,1,0))(h2:∀j,¬ m (p,2,j)):oP ow' s' p v ws:=by
 obtain⟨us,g1,g2,g3⟩:=h
 exact⟨us,g1,g2.step k h1,fun j L hj=>let ⟨u,q1,q2⟩:=g3 j L hj;⟨u,q1,q2.step k (h2 j)⟩⟩
theorem N8.step{m:Bh→Prop}{ow ow':Ow}{s s':AF}{p:Nat}{v:AV}{T:Ba}(h:N8 ow s p v T)(k:AH m ow s ow' s')(h1:¬ m (p,12,0))(h2:¬ m (p,13,0)):N8 ow' s' p v T:=by
 obtain⟨us,O,g1,g2,g3,g4,g5⟩:=h
 have hn:=k.next
 refine⟨us,O,g1.frame k.next fun j hj=>k.heap j (g3 j hj).2 (by rw[(g3 j hj).1];exact h1),fun j hj=>by rw[k.tags j (g1.lt j hj) (by rw[g2 j hj];exact h1)];exact g2 j hj,fun j hj=>?_,(g4.mono hn).keep fun u hu j hj=>k.heap j (g5 u hu j hj).2 (by rw[(g5 u hu j hj).1];exact h2),fun u hu j hj=>?_⟩
 ·obtain⟨q1,q2⟩:=g3 j hj
  exact⟨by rw[k.tags j q2 (by rw[q1];exact h1)];exact q1,by omega⟩
 ·obtain⟨q1,q2⟩:=g5 u hu j hj
  exact⟨by rw[k.tags j q2 (by rw[q1];exact h2)];exact q1,by omega⟩
theorem DM.step{m:Bh→Prop}{ow ow':Ow}{s s':AF}{i:Nat}{cs:List AV}{T:Bh}(h:DM s i cs)(k:AH m ow s ow' s')(ht:ow i=T)(hl:i<s.next)(hm:¬ m T):DM s' i cs:=h.keep (k.heap i hl (by rw[ht];exact hm))
theorem CM{p a b i j:Nat}(h:a≠b):¬ ((p,a,i):Bh)=(p,b,j):=fun e=>by
 injection e with _ e
 injection e with e _
 exact h e
theorem Ah.keep{m:Bh→Prop}{ow ow':Ow}{s s':AF}{p:Nat}{x:Sf}{v:Sv}(h:Ah ow s p x v)(k:AH m ow s ow' s')(hm':∀t,m t→t.1≠p):Ah ow' s' p x v:=by
 have hm:∀a i,¬ m (p,a,i):=fun a i q=>hm' _ q rfl
 have hn:=k.next
 have hl:=h.lt
 exact { box:=h.box.step k h.tag h.lt (hm 0 0),tag:=by rw[k.tags p h.lt (by rw[h.tag];exact hm 0 0)];exact h.tag,lt:=by omega,w:=h.w.step k (hm 1 0) (fun j=>hm 2 j),learned:=h.learned.step k (hm 3 0),value:=h.value.step k (hm 4 0),level:=h.level.step k (hm 5 0),why:=h.why.step k (hm 6 0),heat:=h.heat.step k (hm 7 0),phase:=h.phase.step k (hm 8 0),trail:=h.trail.step k (hm 9 0),limits:=h.limits.step k (hm 10 0),model:=h.model.step k (hm 11 0),trace:=h.trace.step k (hm 12 0) (hm 13 0),cls:=fun c l hc=>(h.cls c l hc).step k (hm 14 c) (hm 15 c) }
theorem Ah.put_value{ow:Ow}{s:AF}{p:Nat}{x:Sf}{v:Sv}(h:Ah ow s p x v){k:Nat}(hk:k<v.value.length)(y:Int):
  ∃s',AM Try.prog s 3 (BA x.val k) (iv y)=some s'∧Ah ow s' p x { v with value:=v.value.set k y }∧AH (BU p) ow s ow s'∧s'.next=s.next:=by
 obtain⟨s',g1,g2,g3,g4⟩:=h.value.set (t:=3) Bt (k:=k) (x:=iv y) (by rw[qK];exact hk) rfl rfl
 have hm:∀a i,a≠4→¬ ((p,a,i):Bh)=(p,4,0):=fun a i ha=>CM ha
 have hl:=h.lt
 refine⟨s',g1,{ box:=h.box.step g3 h.tag h.lt (hm 0 0 (by decide)),tag:=h.tag,lt:=by omega,w:=h.w.step g3 (hm 1 0 (by decide)) (fun j=>hm 2 j (by decide)),learned:=h.learned.step g3 (hm 3 0 (by decide)),value:=by show Bc ow (p,4,0) s' x.val (List.map _ (List.set v.value k y));rw[rD];exact g2,level:=h.level.step g3 (hm 5 0 (by decide)),why:=h.why.step g3 (hm 6 0 (by decide)),heat:=h.heat.step g3 (hm 7 0 (by decide)),phase:=h.phase.step g3 (hm 8 0 (by decide)),trail:=h.trail.step g3 (hm 9 0 (by decide)),limits:=h.limits.step g3 (hm 10 0 (by decide)),model:=h.model.step g3 (hm 11 0 (by decide)),trace:=h.trace.step g3 (hm 12 0 (by decide)) (hm 13 0 (by decide)),cls:=fun c l hc=>(h.cls c l hc).step g3 (hm 14 c (by decide)) (hm 15 c (by decide)) },g3.mono fun t ht=>by rw[ht];exact⟨rfl,by simp,by simp,by simp⟩,g4⟩
theorem Ah.put_level{ow:Ow}{s:AF}{p:Nat}{x:Sf}{v:Sv}(h:Ah ow s p x v){k:Nat}(hk:k<v.level.length)(y:Int):
  ∃s',AM Try.prog s 3 (BA x.lev k) (iv y)=some s'∧Ah ow s' p x { v with level:=v.level.set k y }∧AH (BU p) ow s ow s'∧s'.next=s.next:=by
 obtain⟨s',g1,g2,g3,g4⟩:=h.level.set (t:=3) Bt (k:=k) (x:=iv y) (by rw[qK];exact hk) rfl rfl
 have hm:∀a i,a≠5→¬ ((p,a,i):Bh)=(p,5,0):=fun a i ha=>CM ha
 have hl:=h.lt
 refine⟨s',g1,{ box:=h.box.step g3 h.tag h.lt (hm 0 0 (by decide)),tag:=h.tag,lt:=by omega,w:=h.w.step g3 (hm 1 0 (by decide)) (fun j=>hm 2 j (by decide)),learned:=h.learned.step g3 (hm 3 0 (by decide)),value:=h.value.step g3 (hm 4 0 (by decide)),level:=by show Bc ow (p,5,0) s' x.lev (List.map _ (List.set v.level k y));rw[rD];exact g2,why:=h.why.step g3 (hm 6 0 (by decide)),heat:=h.heat.step g3 (hm 7 0 (by decide)),phase:=h.phase.step g3 (hm 8 0 (by decide)),trail:=h.trail.step g3 (hm 9 0 (by decide)),limits:=h.limits.step g3 (hm 10 0 (by decide)),model:=h.model.step g3 (hm 11 0 (by decide)),trace:=h.trace.step g3 (hm 12 0 (by decide)) (hm 13 0 (by decide)),cls:=fun c l hc=>(h.cls c l hc).step g3 (hm 14 c (by decide)) (hm 15 c (by decide)) },g3.mono fun t ht=>by rw[ht];exact⟨rfl,by simp,by simp,by simp⟩,g4⟩
theorem Ah.put_why{ow:Ow}{s:AF}{p:Nat}{x:Sf}{v:Sv}(h:Ah ow s p x v){k:Nat}(hk:k<v.why.length)(y:Option Nat):
  ∃s',AM Try.prog s 92 (BA x.why k) (HN y)=some s'∧Ah ow s' p x { v with why:=v.why.set k y }∧AH (BU p) ow s ow s'∧s'.next=s.next:=by
 obtain⟨s',g1,g2,g3,g4⟩:=h.why.set (t:=92) E5 (k:=k) (x:=HN y) (by rw[qK];exact hk) (by cases y<;>rfl) (by cases y<;>rfl)
 have hm:∀a i,a≠6→¬ ((p,a,i):Bh)=(p,6,0):=fun a i ha=>CM ha
 have hl:=h.lt
 refine⟨s',g1,{ box:=h.box.step g3 h.tag h.lt (hm 0 0 (by decide)),tag:=h.tag,lt:=by omega,w:=h.w.step g3 (hm 1 0 (by decide)) (fun j=>hm 2 j (by decide)),learned:=h.learned.step g3 (hm 3 0 (by decide)),value:=h.value.step g3 (hm 4 0 (by decide)),level:=h.level.step g3 (hm 5 0 (by decide)),why:=by show Bc ow (p,6,0) s' x.why (List.map _ (List.set v.why k y));rw[rD];exact g2,heat:=h.heat.step g3 (hm 7 0 (by decide)),phase:=h.phase.step g3 (hm 8 0 (by decide)),trail:=h.trail.step g3 (hm 9 0 (by decide)),limits:=h.limits.step g3 (hm 10 0 (by decide)),model:=h.model.step g3 (hm 11 0 (by decide)),trace:=h.trace.step g3 (hm 12 0 (by decide)) (hm 13 0 (by decide)),cls:=fun c l hc=>(h.cls c l hc).step g3 (hm 14 c (by decide)) (hm 15 c (by decide)) },g3.mono fun t ht=>by rw[ht];exact⟨rfl,by simp,by simp,by simp⟩,g4⟩
theorem Ah.put_heat{ow:Ow}{s:AF}{p:Nat}{x:Sf}{v:Sv}(h:Ah ow s p x v){k:Nat}(hk:k<v.heat.length)(y:Int):
  ∃s',AM Try.prog s 3 (BA x.heat k) (iv y)=some s'∧Ah ow s' p x { v with heat:=v.heat.set k y }∧AH (BU p) ow s ow s'∧s'.next=s.next:=by
 obtain⟨s',g1,g2,g3,g4⟩:=h.heat.set (t:=3) Bt (k:=k) (x:=iv y) (by rw[qK];exact hk) rfl rfl
 have hm:∀a i,a≠7→¬ ((p,a,i):Bh)=(p,7,0):=fun a i ha=>CM ha
 have hl:=h.lt
 refine⟨s',g1,{ box:=h.box.step g3 h.tag h.lt (hm 0 0 (by decide)),tag:=h.tag,lt:=by omega,w:=h.w.step g3 (hm 1 0 (by decide)) (fun j=>hm 2 j (by decide)),learned:=h.learned.step g3 (hm 3 0 (by decide)),value:=h.value.step g3 (hm 4 0 (by decide)),level:=h.level.step g3 (hm 5 0 (by decide)),why:=h.why.step g3 (hm 6 0 (by decide)),heat:=by show Bc ow (p,7,0) s' x.heat (List.map _ (List.set v.heat k y));rw[rD];exact g2,phase:=h.phase.step g3 (hm 8 0 (by decide)),trail:=h.trail.step g3 (hm 9 0 (by decide)),limits:=h.limits.step g3 (hm 10 0 (by decide)),model:=h.model.step g3 (hm 11 0 (by decide)),trace:=h.trace.step g3 (hm 12 0 (by decide)) (hm 13 0 (by decide)),cls:=fun c l hc=>(h.cls c l hc).step g3 (hm 14 c (by decide)) (hm 15 c (by decide)) },g3.mono fun t ht=>by rw[ht];exact⟨rfl,by simp,by simp,by simp⟩,g4⟩
theorem Ah.put_phase{ow:Ow}{s:AF}{p:Nat}{x:Sf}{v:Sv}(h:Ah ow s p x v){k:Nat}(hk:k<v.phase.length)(y:Int):
  ∃s',AM Try.prog s 3 (BA x.ph k) (iv y)=some s'∧Ah ow s' p x { v with phase:=v.phase.set k y }∧AH (BU p) ow s ow s'∧s'.next=s.next:=by
 obtain⟨s',g1,g2,g3,g4⟩:=h.phase.set (t:=3) Bt (k:=k) (x:=iv y) (by rw[qK];exact hk) rfl rfl
 have hm:∀a i,a≠8→¬ ((p,a,i):Bh)=(p,8,0):=fun a i ha=>CM ha
 have hl:=h.lt
 refine⟨s',g1,{ box:=h.box.step g3 h.tag h.lt (hm 0 0 (by decide)),tag:=h.tag,lt:=by omega,w:=h.w.step g3 (hm 1 0 (by decide)) (fun j=>hm 2 j (by decide)),learned:=h.learned.step g3 (hm 3 0 (by decide)),value:=h.value.step g3 (hm 4 0 (by decide)),level:=h.level.step g3 (hm 5 0 (by decide)),why:=h.why.step g3 (hm 6 0 (by decide)),heat:=h.heat.step g3 (hm 7 0 (by decide)),phase:=by show Bc ow (p,8,0) s' x.ph (List.map _ (List.set v.phase k y));rw[rD];exact g2,trail:=h.trail.step g3 (hm 9 0 (by decide)),limits:=h.limits.step g3 (hm 10 0 (by decide)),model:=h.model.step g3 (hm 11 0 (by decide)),trace:=h.trace.step g3 (hm 12 0 (by decide)) (hm 13 0 (by decide)),cls:=fun c l hc=>(h.cls c l hc).step g3 (hm 14 c (by decide)) (hm 15 c (by decide)) },g3.mono fun t ht=>by rw[ht];exact⟨rfl,by simp,by simp,by simp⟩,g4⟩
theorem Ah.set_head{ow:Ow}{s:AF}{p:Nat}{x:Sf}{v:Sv}(h:Ah ow s p x v)(y:Int):
  ∃s',AM Try.prog s 3 (.ptr (some (p,9))) (iv y)=some s'∧Ah ow s' p x { v with head:=y }∧AH (BU p) ow s ow s'∧s'.next=s.next:=by
 obtain⟨s',g1,g2,g3,g4⟩:=h.box.store (k:=9) (d:=iv y) (by simp) (t:=3) Bt rfl rfl
 have st:AH (· = (p,0,0)) ow s ow s':=⟨by omega,fun _ _ _=>rfl,fun y _ hm=>g4 y fun e=>hm (by rw[e];exact h.tag)⟩
 have hm:∀a i,a≠0→¬ ((p,a,i):Bh)=(p,0,0):=fun a i ha=>CM ha
 have hl:=h.lt
 refine⟨s',g1,{ box:=g2,tag:=h.tag,lt:=by omega,w:=h.w.step st (hm 1 0 (by decide)) (fun j=>hm 2 j (by decide)),learned:=h.learned.step st (hm 3 0 (by decide)),value:=h.value.step st (hm 4 0 (by decide)),level:=h.level.step st (hm 5 0 (by decide)),why:=h.why.step st (hm 6 0 (by decide)),heat:=h.heat.step st (hm 7 0 (by decide)),phase:=h.phase.step st (hm 8 0 (by decide)),trail:=h.trail.step st (hm 9 0 (by decide)),limits:=h.limits.step st (hm 10 0 (by decide)),model:=h.model.step st (hm 11 0 (by decide)),trace:=h.trace.step st (hm 12 0 (by decide)) (hm 13 0 (by decide)),cls:=fun c l hc=>(h.cls c l hc).step st (hm 14 c (by decide)) (hm 15 c (by decide)) },st.mono fun t ht=>by rw[ht];exact⟨rfl,by simp,by simp,by simp⟩,g3⟩
theorem Ah.set_many{ow:Ow}{s:AF}{p:Nat}{x:Sf}{v:Sv}(h:Ah ow s p x v)(y:Int):
  ∃s',AM Try.prog s 3 (.ptr (some (p,13))) (iv y)=some s'∧Ah ow s' p x { v with many:=y }∧AH (BU p) ow s ow s'∧s'.next=s.next:=by
 obtain⟨s',g1,g2,g3,g4⟩:=h.box.store (k:=13) (d:=iv y) (by simp) (t:=3) Bt rfl rfl
 have st:AH (· = (p,0,0)) ow s ow s':=⟨by omega,fun _ _ _=>rfl,fun y _ hm=>g4 y fun e=>hm (by rw[e];exact h.tag)⟩
 have hm:∀a i,a≠0→¬ ((p,a,i):Bh)=(p,0,0):=fun a i ha=>CM ha
 have hl:=h.lt
 refine⟨s',g1,{ box:=g2,tag:=h.tag,lt:=by omega,w:=h.w.step st (hm 1 0 (by decide)) (fun j=>hm 2 j (by decide)),learned:=h.learned.step st (hm 3 0 (by decide)),value:=h.value.step st (hm 4 0 (by decide)),level:=h.level.step st (hm 5 0 (by decide)),why:=h.why.step st (hm 6 0 (by decide)),heat:=h.heat.step st (hm 7 0 (by decide)),phase:=h.phase.step st (hm 8 0 (by decide)),trail:=h.trail.step st (hm 9 0 (by decide)),limits:=h.limits.step st (hm 10 0 (by decide)),model:=h.model.step st (hm 11 0 (by decide)),trace:=h.trace.step st (hm 12 0 (by decide)) (hm 13 0 (by decide)),cls:=fun c l hc=>(h.cls c l hc).step st (hm 14 c (by decide)) (hm 15 c (by decide)) },st.mono fun t ht=>by rw[ht];exact⟨rfl,by simp,by simp,by simp⟩,g3⟩
theorem Ah.set_room{ow:Ow}{s:AF}{p:Nat}{x:Sf}{v:Sv}(h:Ah ow s p x v)(y:Int):
  ∃s',AM Try.prog s 3 (.ptr (some (p,14))) (iv y)=some s'∧Ah ow s' p x { v with room:=y }∧AH (BU p) ow s ow s'∧s'.next=s.next:=by
 obtain⟨s',g1,g2,g3,g4⟩:=h.box.store (k:=14) (d:=iv y) (by simp) (t:=3) Bt rfl rfl
 have st:AH (· = (p,0,0)) ow s ow s':=⟨by omega,fun _ _ _=>rfl,fun y _ hm=>g4 y fun e=>hm (by rw[e];exact h.tag)⟩
 have hm:∀a i,a≠0→¬ ((p,a,i):Bh)=(p,0,0):=fun a i ha=>CM ha
 have hl:=h.lt
 refine⟨s',g1,{ box:=g2,tag:=h.tag,lt:=by omega,w:=h.w.step st (hm 1 0 (by decide)) (fun j=>hm 2 j (by decide)),learned:=h.learned.step st (hm 3 0 (by decide)),value:=h.value.step st (hm 4 0 (by decide)),level:=h.level.step st (hm 5 0 (by decide)),why:=h.why.step st (hm 6 0 (by decide)),heat:=h.heat.step st (hm 7 0 (by decide)),phase:=h.phase.step st (hm 8 0 (by decide)),trail:=h.trail.step st (hm 9 0 (by decide)),limits:=h.limits.step st (hm 10 0 (by decide)),model:=h.model.step st (hm 11 0 (by decide)),trace:=h.trace.step st (hm 12 0 (by decide)) (hm 13 0 (by decide)),cls:=fun c l hc=>(h.cls c l hc).step st (hm 14 c (by decide)) (hm 15 c (by decide)) },st.mono fun t ht=>by rw[ht];exact⟨rfl,by simp,by simp,by simp⟩,g3⟩
theorem Ah.set_learned{ow:Ow}{s:AF}{p:Nat}{x:Sf}{v:Sv}(h:Ah ow s p x v){u:AV}{y:List Nat}(hu:Bc ow (p,3,0) s u (y.map AK)):
  ∃s',AM Try.prog s 89 (.ptr (some (p,1))) u=some s'∧Ah ow s' p { x with l:=u } { v with learned:=y }∧AH (BU p) ow s ow s'∧s'.next=s.next:=by
 obtain⟨s',g1,g2,g3,g4⟩:=h.box.store (k:=1) (d:=u) (by simp) (t:=89) I6 hu.isCell.1 hu.isCell.2
 have st:AH (· = (p,0,0)) ow s ow s':=⟨by omega,fun _ _ _=>rfl,fun y _ hm=>g4 y fun e=>hm (by rw[e];exact h.tag)⟩
 have hm:∀a i,a≠0→¬ ((p,a,i):Bh)=(p,0,0):=fun a i ha=>CM ha
 have hl:=h.lt
 refine⟨s',g1,{ box:=g2,tag:=h.tag,lt:=by omega,w:=h.w.step st (hm 1 0 (by decide)) (fun j=>hm 2 j (by decide)),learned:=hu.step st (hm 3 0 (by decide)),value:=h.value.step st (hm 4 0 (by decide)),level:=h.level.step st (hm 5 0 (by decide)),why:=h.why.step st (hm 6 0 (by decide)),heat:=h.heat.step st (hm 7 0 (by decide)),phase:=h.phase.step st (hm 8 0 (by decide)),trail:=h.trail.step st (hm 9 0 (by decide)),limits:=h.limits.step st (hm 10 0 (by decide)),model:=h.model.step st (hm 11 0 (by decide)),trace:=h.trace.step st (hm 12 0 (by decide)) (hm 13 0 (by decide)),cls:=fun c l hc=>(h.cls c l hc).step st (hm 14 c (by decide)) (hm 15 c (by decide)) },st.mono fun t ht=>by rw[ht];exact⟨rfl,by simp,by simp,by simp⟩,g3⟩
theorem Ah.set_trail{ow:Ow}{s:AF}{p:Nat}{x:Sf}{v:Sv}(h:Ah ow s p x v){u:AV}{y:List Int}(hu:Bc ow (p,9,0) s u (Ax y)):
  ∃s',AM Try.prog s 23 (.ptr (some (p,7))) u=some s'∧Ah ow s' p { x with tr:=u } { v with trail:=y }∧AH (BU p) ow s ow s'∧s'.next=s.next:=by
 obtain⟨s',g1,g2,g3,g4⟩:=h.box.store (k:=7) (d:=u) (by simp) (t:=23) CL hu.isCell.1 hu.isCell.2
 have st:AH (· = (p,0,0)) ow s ow s':=⟨by omega,fun _ _ _=>rfl,fun y _ hm=>g4 y fun e=>hm (by rw[e];exact h.tag)⟩
 have hm:∀a i,a≠0→¬ ((p,a,i):Bh)=(p,0,0):=fun a i ha=>CM ha
 have hl:=h.lt
 refine⟨s',g1,{ box:=g2,tag:=h.tag,lt:=by omega,w:=h.w.step st (hm 1 0 (by decide)) (fun j=>hm 2 j (by decide)),learned:=h.learned.step st (hm 3 0 (by decide)),value:=h.value.step st (hm 4 0 (by decide)),level:=h.level.step st (hm 5 0 (by decide)),why:=h.why.step st (hm 6 0 (by decide)),heat:=h.heat.step st (hm 7 0 (by decide)),phase:=h.phase.step st (hm 8 0 (by decide)),trail:=hu.step st (hm 9 0 (by decide)),limits:=h.limits.step st (hm 10 0 (by decide)),model:=h.model.step st (hm 11 0 (by decide)),trace:=h.trace.step st (hm 12 0 (by decide)) (hm 13 0 (by decide)),cls:=fun c l hc=>(h.cls c l hc).step st (hm 14 c (by decide)) (hm 15 c (by decide)) },st.mono fun t ht=>by rw[ht];exact⟨rfl,by simp,by simp,by simp⟩,g3⟩
theorem Ah.set_limits{ow:Ow}{s:AF}{p:Nat}{x:Sf}{v:Sv}(h:Ah ow s p x v){u:AV}{y:List Int}(hu:Bc ow (p,10,0) s u (Ax y)):
  ∃s',AM Try.prog s 23 (.ptr (some (p,8))) u=some s'∧Ah ow s' p { x with lim:=u } { v with limits:=y }∧AH (BU p) ow s ow s'∧s'.next=s.next:=by
 obtain⟨s',g1,g2,g3,g4⟩:=h.box.store (k:=8) (d:=u) (by simp) (t:=23) CL hu.isCell.1 hu.isCell.2
 have st:AH (· = (p,0,0)) ow s ow s':=⟨by omega,fun _ _ _=>rfl,fun y _ hm=>g4 y fun e=>hm (by rw[e];exact h.tag)⟩
 have hm:∀a i,a≠0→¬ ((p,a,i):Bh)=(p,0,0):=fun a i ha=>CM ha
 have hl:=h.lt
 refine⟨s',g1,{ box:=g2,tag:=h.tag,lt:=by omega,w:=h.w.step st (hm 1 0 (by decide)) (fun j=>hm 2 j (by decide)),learned:=h.learned.step st (hm 3 0 (by decide)),value:=h.value.step st (hm 4 0 (by decide)),level:=h.level.step st (hm 5 0 (by decide)),why:=h.why.step st (hm 6 0 (by decide)),heat:=h.heat.step st (hm 7 0 (by decide)),phase:=h.phase.step st (hm 8 0 (by decide)),trail:=h.trail.step st (hm 9 0 (by decide)),limits:=hu.step st (hm 10 0 (by decide)),model:=h.model.step st (hm 11 0 (by decide)),trace:=h.trace.step st (hm 12 0 (by decide)) (hm 13 0 (by decide)),cls:=fun c l hc=>(h.cls c l hc).step st (hm 14 c (by decide)) (hm 15 c (by decide)) },st.mono fun t ht=>by rw[ht];exact⟨rfl,by simp,by simp,by simp⟩,g3⟩
theorem Ah.set_model{ow:Ow}{s:AF}{p:Nat}{x:Sf}{v:Sv}(h:Ah ow s p x v){u:AV}{y:List Int}(hu:Bc ow (p,11,0) s u (Ax y)):
  ∃s',AM Try.prog s 23 (.ptr (some (p,11))) u=some s'∧Ah ow s' p { x with mo:=u } { v with model:=y }∧AH (BU p) ow s ow s'∧s'.next=s.next:=by
 obtain⟨s',g1,g2,g3,g4⟩:=h.box.store (k:=11) (d:=u) (by simp) (t:=23) CL hu.isCell.1 hu.isCell.2
 have st:AH (· = (p,0,0)) ow s ow s':=⟨by omega,fun _ _ _=>rfl,fun y _ hm=>g4 y fun e=>hm (by rw[e];exact h.tag)⟩
 have hm:∀a i,a≠0→¬ ((p,a,i):Bh)=(p,0,0):=fun a i ha=>CM ha
 have hl:=h.lt
 refine⟨s',g1,{ box:=g2,tag:=h.tag,lt:=by omega,w:=h.w.step st (hm 1 0 (by decide)) (fun j=>hm 2 j (by decide)),learned:=h.learned.step st (hm 3 0 (by decide)),value:=h.value.step st (hm 4 0 (by decide)),level:=h.level.step st (hm 5 0 (by decide)),why:=h.why.step st (hm 6 0 (by decide)),heat:=h.heat.step st (hm 7 0 (by decide)),phase:=h.phase.step st (hm 8 0 (by decide)),trail:=h.trail.step st (hm 9 0 (by decide)),limits:=h.limits.step st (hm 10 0 (by decide)),model:=hu.step st (hm 11 0 (by decide)),trace:=h.trace.step st (hm 12 0 (by decide)) (hm 13 0 (by decide)),cls:=fun c l hc=>(h.cls c l hc).step st (hm 14 c (by decide)) (hm 15 c (by decide)) },st.mono fun t ht=>by rw[ht];exact⟨rfl,by simp,by simp,by simp⟩,g3⟩
theorem Lm(j:Nat):AB Try.prog 91 (.ptr (some (j,0))) 0=some (.ptr (some (j,0))):=by
 simp[AB,Try.underlying91,mg,AI]
 rfl
theorem Oe(j:Nat):AB Try.prog 91 (.ptr (some (j,0))) 1=some (.ptr (some (j,1))):=by
 simp[AB,Try.underlying91,I6,AI]
 rfl
theorem En(j:Nat):AB Try.prog 91 (.ptr (some (j,0))) 2=some (.ptr (some (j,2))):=by
 simp[AB,Try.underlying91,CL,AI]
 rfl
theorem Jc(j:Nat):AB Try.prog 91 (.ptr (some (j,0))) 3=some (.ptr (some (j,3))):=by
 simp[AB,Try.underlying91,CL,AI]
 rfl
theorem Ln(j:Nat):AB Try.prog 91 (.ptr (some (j,0))) 4=some (.ptr (some (j,4))):=by
 simp[AB,Try.underlying91,I6,AI]
 rfl
theorem Lo(j:Nat):AB Try.prog 91 (.ptr (some (j,0))) 5=some (.ptr (some (j,5))):=by
 simp[AB,Try.underlying91,CL,AI]
 rfl
theorem TR(j:Nat):AB Try.prog 91 (.ptr (some (j,0))) 6=some (.ptr (some (j,6))):=by
 simp[AB,Try.underlying91,CL,AI]
 rfl
theorem FM(j:Nat):AB Try.prog 91 (.ptr (some (j,0))) 7=some (.ptr (some (j,7))):=by
 simp[AB,Try.underlying91,CL,AI]
 rfl
theorem G2(j:Nat):AB Try.prog 91 (.ptr (some (j,0))) 8=some (.ptr (some (j,8))):=by
 simp[AB,Try.underlying91,CL,AI]
 rfl
theorem Lp(j:Nat):AB Try.prog 91 (.ptr (some (j,0))) 9=some (.ptr (some (j,9))):=by
 simp[AB,Try.underlying91,Bt,AI]
 rfl
theorem GQ(j:Nat):AB Try.prog 91 (.ptr (some (j,0))) 10=some (.ptr (some (j,10))):=by
 simp[AB,Try.underlying91,We,AI]
 rfl
theorem Of(j:Nat):AB Try.prog 91 (.ptr (some (j,0))) 11=some (.ptr (some (j,11))):=by
 simp[AB,Try.underlying91,CL,AI]
 rfl
theorem HU(j:Nat):AB Try.prog 91 (.ptr (some (j,0))) 12=some (.ptr (some (j,12))):=by
 simp[AB,Try.underlying91,cM,AI]
 rfl
theorem eB(j:Nat):AB Try.prog 91 (.ptr (some (j,0))) 13=some (.ptr (some (j,13))):=by
 simp[AB,Try.underlying91,Bt,AI]
 rfl
theorem Um(j:Nat):AB Try.prog 91 (.ptr (some (j,0))) 14=some (.ptr (some (j,14))):=by
 simp[AB,Try.underlying91,Bt,AI]
 rfl
theorem DD(j:Nat):AB Try.prog 104 (.ptr (some (j,0))) 0=some (.ptr (some (j,0))):=by
 simp[AB,Try.underlying104,CL,AI]
 rfl
theorem GP(j:Nat):AB Try.prog 104 (.ptr (some (j,0))) 2=some (.ptr (some (j,2))):=by
 simp[AB,Try.underlying104,We,AI]
 rfl
theorem AG(a:Nat×Nat):AE (.ptr (some a))=some (.ptr (some a)):=rfl
theorem Ah.ld_w{ow:Ow}{s:AF}{p:Nat}{x:Sf}{v:Sv}(h:Ah ow s p x v):AD Try.prog s 88 (.ptr (some (p,0)))=some x.w:=h.box.load rfl nM
theorem Ah.ld_l{ow:Ow}{s:AF}{p:Nat}{x:Sf}{v:Sv}(h:Ah ow s p x v):AD Try.prog s 89 (.ptr (some (p,1)))=some x.l:=h.box.load rfl Kb
theorem Ah.ld_val{ow:Ow}{s:AF}{p:Nat}{x:Sf}{v:Sv}(h:Ah ow s p x v):AD Try.prog s 23 (.ptr (some (p,2)))=some x.val:=h.box.load rfl DN
theorem Ah.ld_lev{ow:Ow}{s:AF}{p:Nat}{x:Sf}{v:Sv}(h:Ah ow s p x v):AD Try.prog s 23 (.ptr (some (p,3)))=some x.lev:=h.box.load rfl DN
theorem Ah.ld_why{ow:Ow}{s:AF}{p:Nat}{x:Sf}{v:Sv}(h:Ah ow s p x v):AD Try.prog s 89 (.ptr (some (p,4)))=some x.why:=h.box.load rfl Kb
theorem Ah.ld_heat{ow:Ow}{s:AF}{p:Nat}{x:Sf}{v:Sv}(h:Ah ow s p x v):AD Try.prog s 23 (.ptr (some (p,5)))=some x.heat:=h.box.load rfl DN
theorem Ah.ld_ph{ow:Ow}{s:AF}{p:Nat}{x:Sf}{v:Sv}(h:Ah ow s p x v):AD Try.prog s 23 (.ptr (some (p,6)))=some x.ph:=h.box.load rfl DN
theorem Ah.ld_tr{ow:Ow}{s:AF}{p:Nat}{x:Sf}{v:Sv}(h:Ah ow s p x v):AD Try.prog s 23 (.ptr (some (p,7)))=some x.tr:=h.box.load rfl DN
theorem Ah.ld_lim{ow:Ow}{s:AF}{p:Nat}{x:Sf}{v:Sv}(h:Ah ow s p x v):AD Try.prog s 23 (.ptr (some (p,8)))=some x.lim:=h.box.load rfl DN
theorem Ah.ld_mo{ow:Ow}{s:AF}{p:Nat}{x:Sf}{v:Sv}(h:Ah ow s p x v):AD Try.prog s 23 (.ptr (some (p,11)))=some x.mo:=h.box.load rfl DN
theorem Ah.ld_trc{ow:Ow}{s:AF}{p:Nat}{x:Sf}{v:Sv}(h:Ah ow s p x v):AD Try.prog s 33 (.ptr (some (p,12)))=some x.trc:=h.box.load rfl om
theorem Ah.ld_head{ow:Ow}{s:AF}{p:Nat}{x:Sf}{v:Sv}(h:Ah ow s p x v):AD Try.prog s 3 (.ptr (some (p,9)))=some (iv v.head):=h.box.load rfl Dg
theorem Ah.ld_broken{ow:Ow}{s:AF}{p:Nat}{x:Sf}{v:Sv}(h:Ah ow s p x v):AD Try.prog s 4 (.ptr (some (p,10)))=some (.bool v.broken):=h.box.load rfl kT
theorem Ah.ld_many{ow:Ow}{s:AF}{p:Nat}{x:Sf}{v:Sv}(h:Ah ow s p x v):AD Try.prog s 3 (.ptr (some (p,13)))=some (iv v.many):=h.box.load rfl Dg
theorem Ah.ld_room{ow:Ow}{s:AF}{p:Nat}{x:Sf}{v:Sv}(h:Ah ow s p x v):AD Try.prog s 3 (.ptr (some (p,14)))=some (iv v.room):=h.box.load rfl Dg
theorem UD:CC Try.prog 92 1=true:=by simp[CC,UE,AV.cells]
theorem mm:CC Try.prog 89 1=true:=by simp[CC,oO,AV.cells]
theorem RE:BI Try.prog 89=true:=Ke 89 92 Try.underlying89
theorem oK:BI Try.prog 88=true:=Ke 88 89 Try.underlying88
theorem Mf:BI Try.prog 23=true:=Ke 23 3 Try.underlying23
theorem Ah.push_learned{ow:Ow}{s:AF}{p:Nat}{x:Sf}{v:Sv}(h:Ah ow s p x v)(hl:v.learned.length≤1000000000)(y:Nat){q:Nat}{ty sz':Nat}(hq:s.heap.get q=some (AO ty sz' [AK y])):
  ∃u s' s'' ow',Af Try.prog s [89,89] [x.l,.slice (some (q,0)) 1 (some 1)]=some (u,s')∧AM Try.prog s' 89 (.ptr (some (p,1))) u=some s''∧Ah ow' s'' p { x with l:=u } { v with learned:=v.learned++[y] }∧AH (Uw p 3) ow s ow' s'':=by
 obtain⟨u,s',ow',g1,g2,g3⟩:=h.learned.push (st:=89) (e:=92) Try.underlying89 E5 W1 (by decide) RE UD (by rw[qK];exact hl) (x:=AK y) rfl hq
 have hm:∀a i,a≠3→¬ ((p,a,i):Bh)=(p,3,0):=fun a i ha=>CM ha
 have hl:=h.lt
 have hn:=g3.next
 have hb:DM s' p (Dd x v):=h.box.step g3 h.tag h.lt (hm 0 0 (by decide))
 have ht:ow' p=(p,0,0):=by rw[g3.tags p h.lt (by rw[h.tag];exact hm 0 0 (by decide))];exact h.tag
 obtain⟨s'',k1,k2,k3,k4⟩:=hb.store (k:=1) (d:=u) (by simp) (t:=89) I6 g2.isCell.1 g2.isCell.2
 have st:AH (· = (p,0,0)) ow' s' ow' s'':=⟨by omega,fun _ _ _=>rfl,fun y _ hm=>k4 y fun e=>hm (by rw[e];exact ht)⟩
 have hm0:∀a i,a≠0→¬ ((p,a,i):Bh)=(p,0,0):=fun a i ha=>CM ha
 refine⟨u,s',s'',ow',g1,k1,{ box:=k2,tag:=ht,lt:=by omega,w:=(h.w.step g3 (hm 1 0 (by decide)) (fun j=>hm 2 j (by decide))).step st (hm0 1 0 (by decide)) (fun j=>hm0 2 j (by decide)),learned:=?_,value:=(h.value.step g3 (hm 4 0 (by decide))).step st (hm0 4 0 (by decide)),level:=(h.level.step g3 (hm 5 0 (by decide))).step st (hm0 5 0 (by decide)),why:=(h.why.step g3 (hm 6 0 (by decide))).step st (hm0 6 0 (by decide)),heat:=(h.heat.step g3 (hm 7 0 (by decide))).step st (hm0 7 0 (by decide)),phase:=(h.phase.step g3 (hm 8 0 (by decide))).step st (hm0 8 0 (by decide)),trail:=(h.trail.step g3 (hm 9 0 (by decide))).step st (hm0 9 0 (by decide)),limits:=(h.limits.step g3 (hm 10 0 (by decide))).step st (hm0 10 0 (by decide)),model:=(h.model.step g3 (hm 11 0 (by decide))).step st (hm0 11 0 (by decide)),trace:=(h.trace.step g3 (hm 12 0 (by decide)) (hm 13 0 (by decide))).step st (hm0 12 0 (by decide)) (hm0 13 0 (by decide)),cls:=fun c l hc=>((h.cls c l hc).step g3 (hm 14 c (by decide)) (hm 15 c (by decide))).step st (hm0 14 c (by decide)) (hm0 15 c (by decide)) },(g3.mono fun t ht=>.inr ht).trans (st.mono fun t ht=>.inl ht)⟩
 have e:(v.learned++[y]).map AK=v.learned.map AK++[AK y]:=by rw[qx];rfl
 show Bc ow' (p,3,0) s'' u ((v.learned++[y]).map AK)
 rw[e]
 exact g2.step st (hm0 3 0 (by decide))
theorem Ah.push_trail{ow:Ow}{s:AF}{p:Nat}{x:Sf}{v:Sv}(h:Ah ow s p x v)(hl:v.trail.length≤1000000000)(y:Int){q:Nat}{ty sz':Nat}(hq:s.heap.get q=some (AO ty sz' [iv y])):
  ∃u s' s'' ow',Af Try.prog s [23,23] [x.tr,.slice (some (q,0)) 1 (some 1)]=some (u,s')∧AM Try.prog s' 23 (.ptr (some (p,7))) u=some s''∧Ah ow' s'' p { x with tr:=u } { v with trail:=v.trail++[y] }∧AH (Uw p 9) ow s ow' s'':=by
 obtain⟨u,s',ow',g1,g2,g3⟩:=h.trail.push (st:=23) (e:=3) Try.underlying23 Bt W0 (by decide) Mf JA (by rw[qK];exact hl) (x:=iv y) rfl hq
 have hm:∀a i,a≠9→¬ ((p,a,i):Bh)=(p,9,0):=fun a i ha=>CM ha
 have hl:=h.lt
 have hn:=g3.next
 have hb:DM s' p (Dd x v):=h.box.step g3 h.tag h.lt (hm 0 0 (by decide))
 have ht:ow' p=(p,0,0):=by rw[g3.tags p h.lt (by rw[h.tag];exact hm 0 0 (by decide))];exact h.tag
 obtain⟨s'',k1,k2,k3,k4⟩:=hb.store (k:=7) (d:=u) (by simp) (t:=23) CL g2.isCell.1 g2.isCell.2
 have st:AH (· = (p,0,0)) ow' s' ow' s'':=⟨by omega,fun _ _ _=>rfl,fun y _ hm=>k4 y fun e=>hm (by rw[e];exact ht)⟩
 have hm0:∀a i,a≠0→¬ ((p,a,i):Bh)=(p,0,0):=fun a i ha=>CM ha
 refine⟨u,s',s'',ow',g1,k1,{ box:=k2,tag:=ht,lt:=by omega,w:=(h.w.step g3 (hm 1 0 (by decide)) (fun j=>hm 2 j (by decide))).step st (hm0 1 0 (by decide)) (fun j=>hm0 2 j (by decide)),learned:=(h.learned.step g3 (hm 3 0 (by decide))).step st (hm0 3 0 (by decide)),value:=(h.value.step g3 (hm 4 0 (by decide))).step st (hm0 4 0 (by decide)),level:=(h.level.step g3 (hm 5 0 (by decide))).step st (hm0 5 0 (by decide)),why:=(h.why.step g3 (hm 6 0 (by decide))).step st (hm0 6 0 (by decide)),heat:=(h.heat.step g3 (hm 7 0 (by decide))).step st (hm0 7 0 (by decide)),phase:=(h.phase.step g3 (hm 8 0 (by decide))).step st (hm0 8 0 (by decide)),trail:=?_,limits:=(h.limits.step g3 (hm 10 0 (by decide))).step st (hm0 10 0 (by decide)),model:=(h.model.step g3 (hm 11 0 (by decide))).step st (hm0 11 0 (by decide)),trace:=(h.trace.step g3 (hm 12 0 (by decide)) (hm 13 0 (by decide))).step st (hm0 12 0 (by decide)) (hm0 13 0 (by decide)),cls:=fun c l hc=>((h.cls c l hc).step g3 (hm 14 c (by decide)) (hm 15 c (by decide))).step st (hm0 14 c (by decide)) (hm0 15 c (by decide)) },(g3.mono fun t ht=>.inr ht).trans (st.mono fun t ht=>.inl ht)⟩
 have e:(v.trail++[y]).map iv=v.trail.map iv++[iv y]:=by rw[qx];rfl
 show Bc ow' (p,9,0) s'' u ((v.trail++[y]).map iv)
 rw[e]
 exact g2.step st (hm0 9 0 (by decide))
theorem Ah.push_limits{ow:Ow}{s:AF}{p:Nat}{x:Sf}{v:Sv}(h:Ah ow s p x v)(hl:v.limits.length≤1000000000)(y:Int){q:Nat}{ty sz':Nat}(hq:s.heap.get q=some (AO ty sz' [iv y])):
  ∃u s' s'' ow',Af Try.prog s [23,23] [x.lim,.slice (some (q,0)) 1 (some 1)]=some (u,s')∧AM Try.prog s' 23 (.ptr (some (p,8))) u=some s''∧Ah ow' s'' p { x with lim:=u } { v with limits:=v.limits++[y] }∧AH (Uw p 10) ow s ow' s'':=by
 obtain⟨u,s',ow',g1,g2,g3⟩:=h.limits.push (st:=23) (e:=3) Try.underlying23 Bt W0 (by decide) Mf JA (by rw[qK];exact hl) (x:=iv y) rfl hq
 have hm:∀a i,a≠10→¬ ((p,a,i):Bh)=(p,10,0):=fun a i ha=>CM ha
 have hl:=h.lt
 have hn:=g3.next
 have hb:DM s' p (Dd x v):=h.box.step g3 h.tag h.lt (hm 0 0 (by decide))
 have ht:ow' p=(p,0,0):=by rw[g3.tags p h.lt (by rw[h.tag];exact hm 0 0 (by decide))];exact h.tag
 obtain⟨s'',k1,k2,k3,k4⟩:=hb.store (k:=8) (d:=u) (by simp) (t:=23) CL g2.isCell.1 g2.isCell.2
 have st:AH (· = (p,0,0)) ow' s' ow' s'':=⟨by omega,fun _ _ _=>rfl,fun y _ hm=>k4 y fun e=>hm (by rw[e];exact ht)⟩
 have hm0:∀a i,a≠0→¬ ((p,a,i):Bh)=(p,0,0):=fun a i ha=>CM ha
 refine⟨u,s',s'',ow',g1,k1,{ box:=k2,tag:=ht,lt:=by omega,w:=(h.w.step g3 (hm 1 0 (by decide)) (fun j=>hm 2 j (by decide))).step st (hm0 1 0 (by decide)) (fun j=>hm0 2 j (by decide)),learned:=(h.learned.step g3 (hm 3 0 (by decide))).step st (hm0 3 0 (by decide)),value:=(h.value.step g3 (hm 4 0 (by decide))).step st (hm0 4 0 (by decide)),level:=(h.level.step g3 (hm 5 0 (by decide))).step st (hm0 5 0 (by decide)),why:=(h.why.step g3 (hm 6 0 (by decide))).step st (hm0 6 0 (by decide)),heat:=(h.heat.step g3 (hm 7 0 (by decide))).step st (hm0 7 0 (by decide)),phase:=(h.phase.step g3 (hm 8 0 (by decide))).step st (hm0 8 0 (by decide)),trail:=(h.trail.step g3 (hm 9 0 (by decide))).step st (hm0 9 0 (by decide)),limits:=?_,model:=(h.model.step g3 (hm 11 0 (by decide))).step st (hm0 11 0 (by decide)),trace:=(h.trace.step g3 (hm 12 0 (by decide)) (hm 13 0 (by decide))).step st (hm0 12 0 (by decide)) (hm0 13 0 (by decide)),cls:=fun c l hc=>((h.cls c l hc).step g3 (hm 14 c (by decide)) (hm 15 c (by decide))).step st (hm0 14 c (by decide)) (hm0 15 c (by decide)) },(g3.mono fun t ht=>.inr ht).trans (st.mono fun t ht=>.inl ht)⟩
 have e:(v.limits++[y]).map iv=v.limits.map iv++[iv y]:=by rw[qx];rfl
 show Bc ow' (p,10,0) s'' u ((v.limits++[y]).map iv)
 rw[e]
 exact g2.step st (hm0 10 0 (by decide))
theorem Ah.watch_in{ow:Ow}{s:AF}{p:Nat}{x:Sf}{v:Sv}(h:Ah ow s p x v){k:Nat}{L:List Nat}(hk:v.watches[k]? = some L)(hl:L.length≤1000000000)(c:Nat){q:Nat}{ty sz':Nat}(hq:s.heap.get q=some (AO ty sz' [AK c])):
  ∃u u' s' s'' ow',AC Try.prog 88 x.w (iv (k:Int))=some (BA x.w k)∧AD Try.prog s 89 (BA x.w k)=some u∧Af Try.prog s [89,89] [u,.slice (some (q,0)) 1 (some 1)]=some (u',s')∧AD Try.prog s' 88 (.ptr (some (p,0)))=some x.w∧AM Try.prog s' 89 (BA x.w k) u'=some s'' ∧
   Ah ow' s'' p x { v with watches:=v.watches.set k (L++[c]) }∧AH (KK p) ow s ow' s''∧∀j,j<v.watches.length→j≠k→AD Try.prog s'' 89 (BA x.w j)=AD Try.prog s 89 (BA x.w j):=by
 obtain⟨us,w1,w2,w3⟩:=h.w
 obtain⟨u,hu1,hu2⟩:=w3 k L hk
 have hkl:k<v.watches.length:=Ag hk
 obtain⟨u',s',ow',g1,g2,g3⟩:=hu2.push (st:=89) (e:=92) Try.underlying89 E5 W1 (by decide) RE UD (by rw[qK];exact hl) (x:=AK c) rfl hq
 have hm:∀a i,(a,i)≠(2,k)→¬ ((p,a,i):Bh)=(p,2,k):=fun a i ha e=>by
  injection e with _ e
  exact ha e
 have hm':∀a i,a≠2→¬ ((p,a,i):Bh)=(p,2,k):=fun a i ha=>CM ha
 have hlt:=h.lt
 have hn:=g3.next
 have w2':Bc ow' (p,1,0) s' x.w us:=w2.step g3 (hm' 1 0 (by decide))
 obtain⟨s'',k1,k2,k3,k4⟩:=w2'.set (t:=89) I6 (k:=k) (x:=u') (by omega) g2.isCell.1 g2.isCell.2
 have hm1:∀a i,a≠1→¬ ((p,a,i):Bh)=(p,1,0):=fun a i ha=>CM ha
 refine⟨u,u',s',s'',ow',w2.addr Try.underlying88 I6 (by omega),w2.get Kb hu1,g1,(h.box.step g3 h.tag h.lt (hm' 0 0 (by decide))).load rfl nM,k1,{ box:=(h.box.step g3 h.tag h.lt (hm' 0 0 (by decide))).step k3 (by rw[g3.tags p h.lt (by rw[h.tag];exact hm' 0 0 (by decide))];exact h.tag) (by omega) (hm1 0 0 (by decide)),tag:=by rw[g3.tags p h.lt (by rw[h.tag];exact hm' 0 0 (by decide))];exact h.tag,lt:=by omega,w:=?_,learned:=(h.learned.step g3 (hm' 3 0 (by decide))).step k3 (hm1 3 0 (by decide)),value:=(h.value.step g3 (hm' 4 0 (by decide))).step k3 (hm1 4 0 (by decide)),level:=(h.level.step g3 (hm' 5 0 (by decide))).step k3 (hm1 5 0 (by decide)),why:=(h.why.step g3 (hm' 6 0 (by decide))).step k3 (hm1 6 0 (by decide)),heat:=(h.heat.step g3 (hm' 7 0 (by decide))).step k3 (hm1 7 0 (by decide)),phase:=(h.phase.step g3 (hm' 8 0 (by decide))).step k3 (hm1 8 0 (by decide)),trail:=(h.trail.step g3 (hm' 9 0 (by decide))).step k3 (hm1 9 0 (by decide)),limits:=(h.limits.step g3 (hm' 10 0 (by decide))).step k3 (hm1 10 0 (by decide)),model:=(h.model.step g3 (hm' 11 0 (by decide))).step k3 (hm1 11 0 (by decide)),trace:=(h.trace.step g3 (hm' 12 0 (by decide)) (hm' 13 0 (by decide))).step k3 (hm1 12 0 (by decide)) (hm1 13 0 (by decide)),cls:=fun c l hc=>((h.cls c l hc).step g3 (hm' 14 c (by decide)) (hm' 15 c (by decide))).step k3 (hm1 14 c (by decide)) (hm1 15 c (by decide)) },(g3.mono fun t ht=>by rw[ht];exact⟨rfl,.inr rfl⟩).trans (k3.mono fun t ht=>by rw[ht];exact⟨rfl,.inl rfl⟩),fun j hj hne=>?_⟩
 rotate_left
 ·have hju:us[j]? = some us[j]:=qP (by omega)
  rw[w2.get Kb hju]
  exact k2.get Kb (by rw[qc,if_neg (fun e=>hne e.symm)];exact hju)
 refine⟨us.set k u',by rw[qQ,qQ,w1],k2,fun j M hj=>?_⟩
 rw[qc]at hj
 by_cases e:k=j
 ·subst e
  rw[if_pos rfl,if_pos hkl]at hj
  injection hj with hj
  subst hj
  refine⟨u',by rw[qc,if_pos rfl,if_pos (by omega)],?_⟩
  have e':Em (L++[c])=Em L++[AK c]:=by
   show List.map AK (L++[c])=List.map AK L++[AK c]
   rw[qx];rfl
  rw[e']
  exact g2.step k3 (hm1 2 k (by decide))
 ·rw[if_neg e]at hj
  obtain⟨w,q1,q2⟩:=w3 j M hj
  exact⟨w,by rw[qc,if_neg e];exact q1,(q2.step g3 (hm 2 j (fun q=>by injection q with _ q;exact e q.symm))).step k3 (hm1 2 j (by decide))⟩
theorem Ah.watch_set{ow:Ow}{s:AF}{p:Nat}{x:Sf}{v:Sv}(h:Ah ow s p x v){k:Nat}(hk:k<v.watches.length){u':AV}{L':List Nat}(hu:Bc ow (p,2,k) s u' (Em L')):
  ∃s'',AM Try.prog s 89 (BA x.w k) u'=some s''∧Ah ow s'' p x { v with watches:=v.watches.set k L' }∧AH (KK p) ow s ow s''∧s''.next=s.next:=by
 obtain⟨us,w1,w2,w3⟩:=h.w
 have hlt:=h.lt
 obtain⟨s'',k1,k2,k3,k4⟩:=w2.set (t:=89) I6 (k:=k) (x:=u') (by omega) hu.isCell.1 hu.isCell.2
 have hm1:∀a i,a≠1→¬ ((p,a,i):Bh)=(p,1,0):=fun a i ha=>CM ha
 refine⟨s'',k1,{ box:=h.box.step k3 h.tag h.lt (hm1 0 0 (by decide)),tag:=h.tag,lt:=by omega,w:=?_,learned:=h.learned.step k3 (hm1 3 0 (by decide)),value:=h.value.step k3 (hm1 4 0 (by decide)),level:=h.level.step k3 (hm1 5 0 (by decide)),why:=h.why.step k3 (hm1 6 0 (by decide)),heat:=h.heat.step k3 (hm1 7 0 (by decide)),phase:=h.phase.step k3 (hm1 8 0 (by decide)),trail:=h.trail.step k3 (hm1 9 0 (by decide)),limits:=h.limits.step k3 (hm1 10 0 (by decide)),model:=h.model.step k3 (hm1 11 0 (by decide)),trace:=h.trace.step k3 (hm1 12 0 (by decide)) (hm1 13 0 (by decide)),cls:=fun c l hc=>(h.cls c l hc).step k3 (hm1 14 c (by decide)) (hm1 15 c (by decide)) },k3.mono fun t ht=>by rw[ht];exact⟨rfl,.inl rfl⟩,k4⟩
 refine⟨us.set k u',by rw[qQ,qQ,w1],k2,fun j M hj=>?_⟩
 rw[qc]at hj
 by_cases e:k=j
 ·subst e
  rw[if_pos rfl,if_pos hk]at hj
  injection hj with hj
  subst hj
  exact⟨u',by rw[qc,if_pos rfl,if_pos (by omega)],hu.step k3 (hm1 2 k (by decide))⟩
 ·rw[if_neg e]at hj
  obtain⟨w,q1,q2⟩:=w3 j M hj
  exact⟨w,by rw[qc,if_neg e];exact q1,q2.step k3 (hm1 2 j (by decide))⟩
theorem Ah.put_lit{ow:Ow}{s:AF}{p:Nat}{x:Sf}{v:Sv}(h:Ah ow s p x v){c:Nat}{ls:List Int}{b:Bool×Bool}(hc:v.cl c=some (ls,b)){k:Nat}(hk:k<ls.length)(y:Int){u:AV}(hu:AD Try.prog s 23 (.ptr (some (c,0)))=some u):
  ∃s',AM Try.prog s 3 (BA u k) (iv y)=some s'∧Ah ow s' p x { v with cl:=fun d=>if d=c then some (ls.set k y,b)else v.cl d }∧AH (BU p) ow s ow s'∧s'.next=s.next∧AD Try.prog s' 23 (.ptr (some (c,0)))=some u:=by
 obtain⟨u',g1,g2,g3,g4⟩:=h.cls c _ hc
 have e:u'=u:=by
  have:=g1.load (k:=0) rfl (t:=23) DN
  rw[hu]at this
  injection this with this
  exact this.symm
 subst e
 obtain⟨s',k1,k2,k3,k4⟩:=g4.set (t:=3) Bt (k:=k) (x:=iv y) (by rw[qK];exact hk) rfl rfl
 have hm:∀a i,a≠15→¬ ((p,a,i):Bh)=(p,15,c):=fun a i ha=>CM ha
 have hlt:=h.lt
 have hbc:DM s' c [u',.bool b.1,.bool b.2]:=g1.step k3 g2 g3 (hm 14 c (by decide))
 refine⟨s',k1,{ box:=h.box.step k3 h.tag h.lt (hm 0 0 (by decide)),tag:=h.tag,lt:=by omega,w:=h.w.step k3 (hm 1 0 (by decide)) (fun j=>hm 2 j (by decide)),learned:=h.learned.step k3 (hm 3 0 (by decide)),value:=h.value.step k3 (hm 4 0 (by decide)),level:=h.level.step k3 (hm 5 0 (by decide)),why:=h.why.step k3 (hm 6 0 (by decide)),heat:=h.heat.step k3 (hm 7 0 (by decide)),phase:=h.phase.step k3 (hm 8 0 (by decide)),trail:=h.trail.step k3 (hm 9 0 (by decide)),limits:=h.limits.step k3 (hm 10 0 (by decide)),model:=h.model.step k3 (hm 11 0 (by decide)),trace:=h.trace.step k3 (hm 12 0 (by decide)) (hm 13 0 (by decide)),cls:=fun d l hd=>?_ },k3.mono fun t ht=>by rw[ht];exact⟨rfl,by simp,by simp,by simp⟩,k4,hbc.load (k:=0) rfl DN⟩
 have hd:(if d=c then some (ls.set k y,b)else v.cl d)=some l:=hd
 by_cases ed:d=c
 ·subst ed
  rw[if_pos rfl]at hd
  injection hd with hd
  subst hd
  exact⟨u',hbc,g2,by omega,by show Bc ow (p,15,d) s' u' (List.map _ (List.set ls k y));rw[rD];exact k2⟩
 ·rw[if_neg ed]at hd
  exact(h.cls d l hd).step k3 (hm 14 d (by decide)) (fun q=>by injection q with _ q;injection q with _ q;exact ed q)
theorem Ah.lits{ow:Ow}{s:AF}{p:Nat}{x:Sf}{v:Sv}(h:Ah ow s p x v){c:Nat}{l:A6}(hc:v.cl c=some l):∃u,AD Try.prog s 23 (.ptr (some (c,0)))=some u∧AD Try.prog s 4 (.ptr (some (c,1)))=some (.bool l.2.1)∧AD Try.prog s 4 (.ptr (some (c,2)))=some (.bool l.2.2)∧Bc ow (p,15,c) s u (Ax l.1)∧c<s.next:=by
 obtain⟨u,g1,g2,g3,g4⟩:=h.cls c l hc
 exact⟨u,g1.load rfl DN,g1.load rfl kT,g1.load rfl kT,g4,g3⟩
def GG(l:Int):Int:=if l<0 then -1 else 1
def place(l:Int):Nat:=if l<0 then 1+2 * l.natAbs else 2 * l.natAbs
def VL(n:Nat)(l:Int):Prop:=l≠0∧l.natAbs≤n
instance (n:Nat)(l:Int):Decidable (VL n l):=by unfold VL;exact inferInstance
theorem VL.place{n:Nat}{l:Int}(h:VL n l):place l<2 * n+2:=by
 obtain⟨h1,h2⟩:=h
 unfold Go.Proofs.Ytilhhmkdcoajnaa.Am.place
 split<;>omega
theorem EQ{l k:Int}(hl:l≠0)(hk:k≠0)(h:place l=place k):l=k:=by
 unfold Go.Proofs.Ytilhhmkdcoajnaa.Am.place at h
 split at h<;>split at h<;>omega
theorem OC{n:Nat}(hn:n<1000000000){l:Int}(h:VL n l):AL Try.prog .quo 3 (iv l) (iv (l.natAbs:Int))=some (iv (GG l)):=by
 obtain⟨h1,h2⟩:=h
 have hne:(l.natAbs:Int)≠0:=by omega
 have hq:l.tdiv (l.natAbs:Int)=GG l:=by
  unfold GG
  split
  ·have:l=-(l.natAbs:Int):=by omega
   generalize l.natAbs=m at *
   subst this
   rw[Int.neg_tdiv,Int.tdiv_self hne]
  ·have:l=(l.natAbs:Int):=by omega
   generalize l.natAbs=m at *
   subst this
   rw[Int.tdiv_self hne]
 have hk:BY .i64 .i64=true:=rfl
 show AI (BY .i64 .i64) ((ES Try.prog (Op.intDiv .quo .i64 l (l.natAbs:Int))).bind ofValue)=_
 rw[hk]
 unfold Op.intDiv
 rw[if_neg hne,hq]
 have hs:GG l=-1∨GG l=1:=by unfold GG;split<;>simp
 rcases hs with e | e<;>rw[e]<;>rfl
theorem C8{E:BN}(hE:Good E){s:AF}{l:Int}(hl:i64 (-l)):WF E 90 [iv l] (fun r s'=>r=iv (l.natAbs:Int)∧s=s') s:=by
 refine hE.go mD (by decide) rfl ?_
 have e:max l (-l)=(l.natAbs:Int):=by omega
 simp only[qA,jc,je,D8 _ l hl,eP,e,Qa,Qb,Qc,Qd,Qf,Qh,Qi,Qj,Qk,Ql,Qm,Qn,true_and,and_true,Qo,Qp,Qq,Qr,Qs,Qw,Rc,Re,Rf,Rg,Rh,Yc]
theorem GB{E:BN}(hE:Good E){s:AF}{l:Int}(hl:l.natAbs<1000000000):WF E 91 [iv l] (fun r s'=>r=iv (place l:Int)∧s=s') s:=by
 refine hE.go mE (by decide) rfl ?_
 have e1:=OB Try.prog 3 2 l ⟨by omega,by omega⟩
 have e2:=DZ Try.prog 3 1 (2 * l) ⟨by omega,by omega⟩
 by_cases h:l<0
 ·have e3:(1:Int) - 2 * l=(place l:Int):=by unfold place;rw[if_pos h];omega
  simp only[pH,Z2,Z3,jf,decide_eq_true h,e1,e2,e3,Qa,Qb,Qc,Qd,Qf,Qh,Qi,Qj,Qk,Ql,Qm,Qn,true_and,and_true,Qo,Qp,Qq,Qr,Qs,Qu,Qw,Qx,Rc,Re,Rf,Rg,Rh,Yc,Rq]
 ·have e3:(2:Int) * l=(place l:Int):=by unfold place;rw[if_neg h];omega
  simp only[pH,Z2,Z3,jg,decide_eq_false h,e1,Qa,Qb,Qc,Qd,Qf,Qh,Qi,Qj,Qk,Ql,Qm,Qn,true_and,and_true,Qo,Qp,Qq,Qr,Qs,Qv,Qw,Qx,Rc,Re,Rf,Rg,Rh,Yc,Rq]
  rw[e3]
def isV(val:List Int)(l:Int):Int:=if l<0 then -(val.getD l.natAbs 0)else val.getD l.natAbs 0
def Hf(val:List Int):Prop:=∀x∈val,x=-1∨x=0∨x=1
theorem Hf.get{val:List Int}(h:Hf val)(k:Nat):val.getD k 0=-1∨val.getD k 0=0∨val.getD k 0=1:=by
 rw[qe]
 cases hk:val[k]? with
 | none=>exact .inr (.inl rfl)
 | some x=>exact h x (qL hk)
theorem AR{α:Type}{l:List α}{k:Nat}{d:α}(h:k<l.length):l[k]? = some (l.getD k d):=by
 rw[qe,qP h];rfl
theorem KJ{E:BN}(hE:Good E){ow:Ow}{s:AF}{p:Nat}{x:Sf}{v:Sv}(h:Ah ow s p x v)(h3:Hf v.value){l:Int}(hl:l.natAbs<v.value.length)(hs:v.value.length<1000000000):WF E 77 [AK p,iv l] (fun r s'=>r=iv (isV v.value l)∧s=s') s:=by
  refine hE.go ly (by decide) rfl ?_
  have hg:=AR (d:=(0:Int)) hl
  have g1:=h.value.addr Try.underlying23 Bt (k:=l.natAbs) (by rw[qK];exact hl)
  have g2:=h.value.get (t:=3) Dg (k:=l.natAbs) (Au hg)
  have hv:=h3.get l.natAbs
  unfold isV
  by_cases hn:l<0
  · have e : -l = (l.natAbs : Int) := by omega
    have eN:=D8 Try.prog l ⟨by omega,by omega⟩
    rw[e]at eN
    have e2:=D8 Try.prog (v.value.getD l.natAbs 0) ⟨by omega,by omega⟩
    rw[if_pos hn]
    simp only[pE,ZU,ZV,jH,decide_eq_true hn,AK,AG,En,h.ld_val,eN,g1,g2,e2,Qa,Qb,Qc,Qd,Qf,Qh,Qi,Qj,Qk,Ql,Qm,Qn,true_and,and_true,Qo,Qp,Qq,Qr,Qs,Qu,Qw,Qx,Rc,Re,Rf,Rg,Rh,Yc,Rq]
  · have e:l=(l.natAbs:Int):=by omega
    rw[if_neg hn]
    have g1':AC Try.prog 23 x.val (iv l)=some (BA x.val l.natAbs):=by rw[← g1];congr 2;
    simp only[pE,ZU,ZV,jI,decide_eq_false hn,AK,AG,En,h.ld_val,g1',g2,Qa,Qb,Qc,Qd,Qf,Qh,Qi,Qj,Qk,Ql,Qm,Qn,true_and,and_true,Qo,Qp,Qq,Qr,Qs,Qv,Qw,Qx,Rc,Re,Rf,Rg,Rh,Yc,Rq]
def BR(v:Sv)(l:Int)(w:Option Nat):Sv:={ v with value:=v.value.set l.natAbs (GG l),level:=v.level.set l.natAbs (v.limits.length:Int),why:=v.why.set l.natAbs w,trail:=v.trail++[l] }
structure fP(n:Nat)(v:Sv):Prop where
 small:n<100000000
 w:v.watches.length=2 * n+2
 value:v.value.length=n+1
 level:v.level.length=n+1
 why:v.why.length=n+1
 heat:v.heat.length=n+1
 phase:v.phase.length=n+1
 trail:v.trail.length≤n
 limits:v.limits.length≤n
theorem F2{E:BN}(hE:Good E){ow:Ow}{s:AF}{p:Nat}{x:Sf}{v:Sv}(h:Ah ow s p x v){n:Nat}(hz:fP n v){l:Int}(hl:VL n l)(w:Option Nat):
  WF E 71 [AK p,iv l,HN w] (fun _ s'=>∃ow' x',Ah ow' s' p x' (BR v l w)∧AH (BU p) ow s ow' s'∧x'.w=x.w) s:=by
 have hn:=hz.small
 obtain⟨hl0,hl1⟩:=hl
 have hq:=OC (n:=n) (by omega) ⟨hl0,hl1⟩
 have hk:l.natAbs<n+1:=by omega
 refine hE.go lm (by decide) rfl ?_
 simp only[pq,ip,Qa,Qb,Qc,Qd,Qf,Qh,Qj,Qk,Ql,Qm,Qn,true_and,Qq,Qr,Qs,Qw,Rd,Re,Rf]
 refine(C8 hE (l:=l) ⟨by omega,by omega⟩).mono ?_
 rintro _ _ ⟨rfl,rfl⟩
 obtain⟨s1,a1,a2,a3,a4⟩:=h.put_value (k:=l.natAbs) (by rw[hz.value];exact hk) (GG l)
 obtain⟨s2,b1,b2,b3,b4⟩:=a2.put_level (k:=l.natAbs) (by show l.natAbs<v.level.length;rw[hz.level];exact hk) (v.limits.length:Int)
 obtain⟨s3,d1,d2,d3,d4⟩:=b2.put_why (k:=l.natAbs) (by show l.natAbs<v.why.length;rw[hz.why];exact hk) w
 have i1:=h.value.addr Try.underlying23 Bt (k:=l.natAbs) (by rw[qK,hz.value];exact hk)
 have i2:=h.level.addr Try.underlying23 Bt (k:=l.natAbs) (by rw[qK,hz.level];exact hk)
 have i3:=h.why.addr Try.underlying89 E5 (k:=l.natAbs) (by rw[qK,hz.why];exact hk)
 have ln:∀s,Aq Try.prog s 23 x.lim=some (iv (v.limits.length:Int)):=fun s=>by
  have:=h.limits.len Try.underlying23 s
  rw[qK]at this
  exact this
 have b:=Ck (P:=Try.prog) (t:=23) (v:=iv l) Try.underlying23 Bt RN rfl rfl
 have hms:∀ (m:Nat) (i:Nat),Made.val i (.slice m)=.slice (some (i,0)) m (some m):=fun _ _=>rfl
 have hst:AH (BU p) ow s3 (ext ow s3.next (0,0,0)) (newObj s3 (AO 3 1 [iv l])):=AH.new _ ow s3 _ _
 have d2':=d2.keep (AH.new (fun _=>False) ow s3 (AO 3 1 [iv l]) (0,0,0)) (fun _ q=>q.elim)
 obtain⟨u,s5,s6,ow',f1,f2,f3,f4⟩:=d2'.push_trail (by show v.trail.length≤_;have:=hz.trail;omega) l (q:=s3.next) (ty:=3) (sz':=1) (by rw[AQ,if_pos rfl])
 have ld:=d2'.ld_tr
 have ld3:=d2.ld_tr
 simp only[iq,AK,AG,En,Jc,Ln,G2,h.ld_val,h.ld_lev,h.ld_why,h.ld_lim,hq,ln,i1,i2,i3,BV,a1,b1,d1,AU,Kg,At,Qb,Qc,Qd,Qf,Qh,Qj,Qk,Qm,Qn,true_and,and_true,Qo,Qp,Qq,Qr,Qs]
 have hself:FY (iv (v.limits.length:Int)) (iv (v.limits.length:Int))=true:=by simp[FY,BY,Fs]
 simp only[hself,ir,AG,FM,ld3,b,hms,f1,BV,f2,AU,Qb,Qc,Qd,Qf,Qh,Qj,Qk,Qm,Qn,true_and,Qq,Qr,Qs,Yc]
 exact⟨ow',_,f3,(a3.trans (b3.trans d3)).trans (hst.trans (f4.n (by decide) (by decide) (by decide))),rfl⟩
theorem AX.elem{b:Nat}{s:AF}{u:AV}{cs:List AV}(h:AX b s u cs){t e:TypeId}(ht:Try.prog.underlying t=some (.slice e))(hs:BC Try.prog e=some 1)(ha:Fp Try.prog e=some false){k:Nat}{y:AV}(hk:cs[k]? = some y):
  AC Try.prog t u (iv (k:Int))=some (BA u k)∧AD Try.prog s e (BA u k)=some y:=by
 obtain⟨a,cap,rfl,hc⟩:=h
 obtain⟨i,o,rfl,_,hl⟩:=hc k y hk
 exact⟨Al ht hs (Ag hk),A4 ha (by rw[qa];exact hl)⟩
theorem AX.len{b:Nat}{s:AF}{u:AV}{cs:List AV}(h:AX b s u cs){t e:TypeId}(ht:Try.prog.underlying t=some (.slice e))(s':AF):Aq Try.prog s' t u=some (iv (cs.length:Int)):=by
 obtain⟨a,cap,rfl,_⟩:=h
 exact AW ht
def Cx(ws:List (List Nat))(k c:Nat):List (List Nat):=ws.set k (ws.getD k []++[c])
theorem C9(ws:List (List Nat))(k c:Nat):(Cx ws k c).length=ws.length:=qQ
def Ky(ws:List (List Nat)):Prop:=∀L∈ws,L.length≤100000000
def C7(v:Sv)(l:Int):Sv:={ v with phase:=v.phase.set l.natAbs (v.value.getD l.natAbs 0),value:=v.value.set l.natAbs 0,why:=v.why.set l.natAbs none }
def Gu(v:Sv)(at_ level:Nat):Sv:={ (v.trail.drop at_).foldl C7 v with trail:=v.trail.take at_,limits:=v.limits.take level,head:=at_ }
def Ab(v:Sv)(level:Nat):Sv:=if v.limits.length≤level then v else Gu v (v.limits.getD level 0).toNat level
theorem Ly:∀ (l:List Int)(v:Sv),(l.foldl C7 v).trail=v.trail∧(l.foldl C7 v).limits=v.limits∧(l.foldl C7 v).value.length=v.value.length∧(l.foldl C7 v).phase.length=v.phase.length∧(l.foldl C7 v).why.length=v.why.length
 | [],v=>⟨rfl,rfl,rfl,rfl,rfl⟩
 | x::l,v=>by
  obtain⟨h1,h2,h3,h4,h5⟩:=Ly l (C7 v x)
  exact⟨h1,h2,h3.trans qQ,h4.trans qQ,h5.trans qQ⟩
theorem c6{E:BN}(hE:Good E){p:Nat}{tr:List Int}{n at_:Nat}(hn:n<100000000)(htr:∀l∈tr,VL n l)(htl:tr.length≤n)(hat:at_≤tr.length){trv:AV}(v1 v2:AV){ow:Ow}{Q:A0→Prop}:
    ∀ (l : List Int) (k : Nat) (s : AF)  (x : Sf) (v : Sv) (x3 x4 x9 : AV), (tr.drop at_).drop k = l → k ≤ tr.length - at_ → Ah  ow s p x v → v.trail = tr → x.tr = trv → v.value.length = n + 1 → v.phase.length = n + 1 → v.why.length = n + 1 →
      (∀s' x' y3 y4 y8 y9,Ah ow s' p x' (l.foldl C7 v)→x'.tr=trv→x'.w=x.w→AH (BU p) ow s ow s'→Q ⟨.exit 0,[AK p,v1,v2,y3,y4,.bool false,ED trv at_,iv ((tr.length - at_:Nat):Int),y8,y9],[],s'⟩) →
      WC E none (.loop Pf) Q [AK p,v1,v2,x3,x4,.bool false,ED trv at_,iv ((tr.length - at_:Nat):Int),iv (k:Int),x9] [] s:=by
  intro l
  induction l with
  | nil =>
    intro k s x v x3 x4 x9 hd hk h h1 h2 h3 h4 h5 hq
    have hlk:k=tr.length - at_:=by
      have:=congrArg List.length hd
      simp at this
      omega
    subst hlk
    refine WC.loop' ?_
    simp only[Pf,Y6,qd,decide_false,Qa,Qb,Qc,Qd,Qf,Qh,Qj,Qm,Qn,true_and,Qo,Qp,Qq,Qr,Qs,Qv,Qw,Qy,Qz,Rq]
    exact hq s x _ _ _ _ h h2 rfl (AH.refl _ _ _)
  | cons y l ih =>
    intro k s x v x3 x4 x9 hd hk h h1 h2 h3 h4 h5 hq
    obtain⟨hlt,hy,hd'⟩:=Be hd
    rw[rB]at hlt
    have hyt:y∈tr:=sA (qL hy)
    obtain⟨hy0,hy1⟩:=htr y hyt
    have hkk:decide ((k:Int)<((tr.length - at_:Nat):Int))=true:=decide_eq_true (by omega)
    have e3:=Ai Try.prog 3 (k:Int) 1 ⟨by omega,by omega⟩
    have hcast:((k:Int)+1)=((k+1:Nat):Int):=by omega
    have hb:=h.trail
    rw[h1]at hb
    obtain⟨_,hrest⟩:=hb.rest Try.underlying23 Bt (k:=at_) (by rw[qK];exact hat)
    rw[h2,← rW]at hrest
    obtain⟨i1,i2⟩:=hrest.elem Try.underlying23 Bt Dg (Au hy)
    have hkv:y.natAbs<n+1:=by omega
    have hg:=AR (d:=(0:Int)) (show y.natAbs<v.value.length by omega)
    obtain⟨s1,a1,a2,a3,a4⟩:=h.put_phase (k:=y.natAbs) (by omega) (v.value.getD y.natAbs 0)
    obtain⟨s2,b1,b2,b3,b4⟩:=a2.put_value (k:=y.natAbs) (by show y.natAbs<v.value.length;omega) 0
    obtain⟨s3,d1,d2,d3,d4⟩:=b2.put_why (k:=y.natAbs) (by show y.natAbs<v.why.length;omega) none
    have j1:=h.value.addr Try.underlying23 Bt (k:=y.natAbs) (by rw[qK];omega)
    have j2:=h.value.get (t:=3) Dg (k:=y.natAbs) (Au hg)
    have j3:=h.phase.addr Try.underlying23 Bt (k:=y.natAbs) (by rw[qK];omega)
    have j4:=h.why.addr Try.underlying89 E5 (k:=y.natAbs) (by rw[qK];omega)
    refine WC.loop' ?_
    generalize hW:WC E none (Ac.loop Pf) Q=W
    simp only[Pf,Y6,hY,hZ,hkk,i1,i2,Qa,Qb,Qc,Qd,Qf,Qh,Qj,Qk,Qm,Qn,true_and,Qo,Qp,Qq,Qr,Qs,Qu,Qw,Qy,Qz,Rq]
    refine(C8 hE (l:=y) ⟨by omega,by omega⟩).mono ?_
    rintro _ _ ⟨rfl,rfl⟩
    have hwn:HN none=.ptr none:=rfl
    rw[hwn]at d1
    simp only[iA,AK,AG,TR,En,Ln,h.ld_ph,h.ld_val,h.ld_why,j1,j2,j3,j4,BV,a1,b1,d1,AU,iB,e3,hcast,Qb,Qc,Qd,Qf,Qh,Qi,Qj,Qk,Qm,Qn,true_and,Qo,Qp,Qq,Qr,Qs]
    rw[← hW]
    have hst:AH (BU p) ow s ow s3:=a3.trans (b3.trans d3)
    refine ih (k+1) s3 x (C7 v y) _ _ _ ?_ (by omega) d2 h1 h2 ?_ ?_ ?_ fun s' x' y3 y4 y8 y9 q1 q2 q4 q3=>hq s' x' y3 y4 y8 y9 q1 q2 q4 (hst.trans q3)
    · exact hd'
    · show(v.value.set _ _).length=_;rw[qQ];exact h3
    · show(v.phase.set _ _).length=_;rw[qQ];exact h4
    · show(v.why.set _ _).length=_;rw[qQ];exact h5
structure Mt(n:Nat)(v:Sv):Prop where
 siz:fP n v
 val:Hf v.value
 lits:∀l∈v.trail,VL n l
 lims:∀x∈v.limits,0≤x∧x≤v.trail.length
theorem DR{E:BN}(hE:Good E){ow:Ow}{s:AF}{p:Nat}{x:Sf}{v:Sv}(h:Ah ow s p x v){n:Nat}(hf:Mt n v){level:Nat}(hlev:level<100000000):
    WF E 63 [AK p,iv (level:Int)] (fun _ s'=>∃x',Ah ow s' p x' (Ab v level)∧AH (BU p) ow s ow s'∧x'.w=x.w) s:=by
  have hz:=hf.siz
  have hn:=hz.small
  have hll:=hz.limits
  have ln:∀s,Aq Try.prog s 23 x.lim=some (iv (v.limits.length:Int)):=fun s=>by
    have:=h.limits.len Try.underlying23 s
    rw[qK]at this
    exact this
  refine hE.go lZ (by decide) rfl ?_
  by_cases hle:v.limits.length≤level
  · have hd : decide ((v.limits.length : Int) ≤ (level : Int)) = true := decide_eq_true (by omega)
    have hb:Ab v level=v:=if_pos hle
    simp only[pA,Y5,AK,AG,G2,h.ld_lim,ln,hd,Qa,Qb,Qc,Qd,Qf,Qh,Qj,Qk,Ql,Qm,Qn,true_and,Qo,Qp,Qq,Qr,Qs,Qu,Qw,Qx,Rc,Rd,Re,Rf,Rt]
    rw[hb]
    exact⟨x,h,AH.refl _ _ _,rfl⟩
  · have hd : decide ((v.limits.length : Int) ≤ (level : Int)) = false := decide_eq_false (by omega)
    have hb:Ab v level=Gu v (v.limits.getD level 0).toNat level:=if_neg hle
    have hg:=AR (d:=(0:Int)) (show level<v.limits.length by omega)
    have hlim:=hf.lims _ (qL hg)
    have hat:v.limits.getD level 0=(((v.limits.getD level 0).toNat:Nat):Int):=by omega
    rw[hb]
    generalize hae:(v.limits.getD level 0).toNat=at_ at hat
    rw[hat]at hg hlim
    have hatl:at_≤v.trail.length:=by omega
    have i1:=h.limits.addr Try.underlying23 Bt (k:=level) (by rw[qK];omega)
    have i2:=h.limits.get (t:=3) Dg (k:=level) (Au hg)
    obtain⟨r1,r2⟩:=h.trail.rest Try.underlying23 Bt (k:=at_) (by rw[qK];exact hatl)
    have r3:=r2.len Try.underlying23 s
    rw[← rW,qK,rB]at r3
    simp only[pA,Y5,gz,hH,AK,AG,G2,FM,h.ld_lim,h.ld_tr,ln,hd,i1,i2,r1,r3,Qa,Qb,Qc,Qd,Qf,Qh,Qi,Qj,Qk,Ql,Qm,Qn,true_and,Qo,Qp,Qq,Qr,Qs,Qv,Qw,Qx,Rc,Rd,Rf,Rt]
    refine c6 hE (p:=p) hn hf.lits hz.trail hatl _ _ (v.trail.drop at_) 0 s x v _ _ _ rfl (qO _) h rfl rfl hz.value hz.phase hz.why ?_
    intro s1 x1 y3 y4 y8 y9 k1 k2 k4 k3
    obtain⟨f1,f2,_,_,_⟩:=Ly (v.trail.drop at_) v
    generalize hv1:(v.trail.drop at_).foldl C7 v=v1 at k1 f1 f2
    have hbt:Gu v at_ level={ v1 with trail:=v.trail.take at_,limits:=v.limits.take level,head:=(at_:Int) }:=by unfold Gu;rw[hv1]
    have c1:=k1.trail.cut_op Try.underlying23 Bt (k:=at_) (by rw[qK,f1];exact hatl)
    have c2:=k1.limits.cut_op Try.underlying23 Bt (k:=level) (by rw[qK,f2];omega)
    have c1':=k1.trail.cut (k:=at_) (by rw[qK,f1];exact hatl)
    have c2':=k1.limits.cut (k:=level) (by rw[qK,f2];omega)
    rw[← rS]at c1' c2'
    obtain⟨s2,a1,a2,a3,a4⟩:=k1.set_trail (y:=v1.trail.take at_) c1'
    have c2'':Bc ow (p,10,0) s2 (FZ x1.lim level) (Ax (v1.limits.take level)):=by
      have:=a2.limits.cut (k:=level) (by rw[qK];show level≤v1.limits.length;rw[f2];omega)
      rw[← rS]at this
      exact this
    have c2o:=a2.limits.cut_op Try.underlying23 Bt (k:=level) (by rw[qK];show level≤v1.limits.length;rw[f2];omega)
    obtain⟨s3,b1,b2,b3,b4⟩:=a2.set_limits (y:=v1.limits.take level) c2''
    obtain⟨s4,d1,d2,d3,d4⟩:=b2.set_head (at_:Int)
    have hself:FY (FZ x1.lim level) (FZ x1.lim level)=true:=c2'.self
    simp only[if_true,iC,AK,AG,FM,G2,Lp,k1.ld_tr,k1.ld_lim,c1,c2,BV,a1,b1,d1,AU,Kg,At,c2o,hself,Qb,Qc,Qd,Qf,Qh,Qj,Qk,Qm,Qn,true_and,and_true,Qq,Qr,Qs,Qw,Qy,Rb,Re]
    rw[hbt]
    rw[f1,f2]at d2
    exact⟨_,d2,k3.trans (a3.trans (b3.trans d3)),k4⟩
def Fg(u:AV)(m:Nat):AV:=match u with
 | .slice (some (i,o)) n _=>.slice (some (i,o)) m (some n)
 | _=>.slice none 0 (some 0)
theorem Bc.kept{ow:Ow}{T:Bh}{s:AF}{u:AV}{cs:List AV}(h:Bc ow T s u cs){m:Nat}(hm:m≤cs.length):Bc ow T s (Fg u m) (cs.take m):=by
 rcases h with⟨rfl,rfl⟩ | ⟨i,o,cap,r,rfl,h2,h3,h4,h5⟩
 ·have:m=0:=by simpa using hm
  subst this
  exact .inl ⟨rfl,rfl⟩
 ·have hl:(cs.take m).length=m:=by rw[qb];omega
  refine .inr ⟨i,o,some cs.length,r,by rw[hl];rfl,h2,fun j u hj=>?_,by omega,by rw[hl];exact⟨hm,h4⟩⟩
  rw[rZ]at hj
  split at hj
  ·exact h3 j u hj
  ·cases hj
theorem Bc.kept_op{ow:Ow}{T:Bh}{s:AF}{u:AV}{cs:List AV}(h:Bc ow T s u cs){t e:TypeId}(ht:Try.prog.underlying t=some (.slice e))(hs:BC Try.prog e=some 1):
  Ad Try.prog t false true true s [u,iv 0,iv (cs.length:Int)]=some (Fg u 0):=by
 have hb0:∀m,BD (.int .i64 0) m=some 0:=fun m=>by simp[BD,Eb,QH,AI,BS (qO m)]
 rcases h with⟨rfl,rfl⟩ | ⟨i,o,cap,r,rfl,h2,h3,h4,h5⟩
 ·have hb:BD (.int .i64 0) 0=some 0:=rfl
  show Ar Try.prog s t (.slice none 0 (some 0)) none (some (iv 0)) (some (iv (([]:List AV).length:Int)))=_
  simp[Ar,ht,hs,hb,AI,Fg]
 ·cases cap with
  | some c =>
   have hb:BD (iv (cs.length:Int)) c=some cs.length:=by simp[BD,Eb,Cc,AI,BS h5.1]
   show Ar Try.prog s t (.slice (some (i,o)) cs.length (some c)) none (some (iv 0)) (some (iv (cs.length:Int)))=_
   cases hz:Nat.beq cs.length 0<;>simp[Ar,ht,hs,hb,hb0,AI,Fg]
  | none =>
   obtain⟨h5,h6⟩:=h5
   subst h5
   have hb:BD (iv (cs.length:Int)) r.n=some cs.length:=by simp[BD,Eb,Cc,AI,BS (show cs.length≤r.n by omega)]
   have hrow:rowAt s i=some r:=by simp[rowAt,h2.get]
   show Ar Try.prog s t (.slice (some (i,0)) cs.length none) none (some (iv 0)) (some (iv (cs.length:Int)))=_
   cases hz:Nat.beq cs.length 0<;>simp[Ar,ht,hs,hrow,h2.sz,AI,hb,hb0,BS (qO r.n),show Nat.beq 1 0=false from rfl,kX h6,Fg]
theorem Bc.kept_put  {ow : Ow} {T : Bh}  {s : AF}  {u : AV} {cs : List AV} (h : Bc  ow T s u cs) {st e : TypeId} {by_ : Nat} (ht : Try.prog.underlying st = some (.slice e)) (hs : BC    Try.prog e = some 1) (hb : CQ     Try.prog e = some by_) (hby : by_ ≤ 100) (hx : BI           Try.prog st = true)
    (hl:cs.length≤1000000000) {m:Nat} {add:List AV} (hm:m+add.length≤cs.length) (hc:Ak add=true) {w:AV} {b:Nat} (hw:AX b s w add):
    ∃s',Af Try.prog s [st,st] [Fg u m,w]=some (Fg u (m+add.length),s')∧Bc ow T s' u (cs.take m++add++cs.drop (m+add.length))∧AH (· = T) ow s ow s'∧s'.next=s.next:=by
  have hsrc:BZ Try.prog s e 1 w=some (add.length,add)∧∃aw cw,w=.slice aw add.length cw:=by
    obtain⟨aw,cw,rfl,hcw⟩:=hw
    refine⟨?_,aw,cw,rfl⟩
    cases add with
    | nil=>cases aw with
      | none=>rfl
      | some io=>obtain⟨i,o⟩:=io;rfl
    | cons y add=>exact AX.src hcw rfl (by simp)
  obtain⟨hsrc,aw,cw,rfl⟩:=hsrc
  have hmul:(m+add.length) * by_≤(m+add.length) * 100:=rn _ hby
  rcases h with⟨rfl,rfl⟩ | ⟨i,o,cap,r,rfl,h2,h3,h4,h5⟩
  · have h0 : m + add.length ≤ 0 := hm
    have hm0:m=0:=by omega
    have ha0:add=[]:=List.length_eq_zero_iff.1 (by omega)
    subst hm0;subst ha0
    refine⟨s,?_,.inl ⟨rfl,rfl⟩,AH.refl _ _ _,rfl⟩
    show Af Try.prog s [st,st] [.slice none 0 (some 0),_]=_
    rw[CB ht hs hb (by decide) hx hsrc hc (by simp) (by simp)]
    rfl
  · have happ:=CB (st:=st) (xt:=st) (a:=some (i,o)) (n:=m) (cap:=some cs.length) ht hs hb (by decide) hx hsrc hc (by omega) (by omega)
    show ∃s',Af Try.prog s [st,st] [.slice (some (i,o)) m (some cs.length),.slice aw add.length cw]=some (.slice (some (i,o)) (m+add.length) (some cs.length),s')∧_
    rw[happ]
    simp only[appTo,DP,BS hm,cond_true]
    cases ha:add with
    | nil =>
      refine⟨s,rfl,.inr ⟨i,o,cap,r,by simp,h2,fun k u hk=>?_,by simpa using h4,by simpa using h5⟩,AH.refl _ _ _,rfl⟩
      refine h3 k u ?_
      simpa using hk
    | cons y ys =>
      rw[← ha]
      obtain⟨s',g1,g2,g3,g4⟩:=h2.store (o:=o+m * 1) (vs:=add) (by rw[ha];simp) (by omega) hc
      have hlen:(cs.take m++add++cs.drop (m+add.length)).length=cs.length:=by simp;omega
      refine⟨s',by rw[g1];rfl,.inr ⟨i,o,cap,_,by rw[hlen],g2,fun k u hk=>?_,by rw[hlen];exact h4,by rw[hlen];exact h5⟩,g3,g4⟩
      show(Aj.fill r.c (o+m * 1) add).get (o+k)=some u
      rw[qa]
      have hmt:(cs.take m).length=m:=by rw[qb];omega
      rw[qz]at hk
      rcases qN k m with h' | h'
      · rw [FO       (by omega)]
        rw[qX (by omega),qq h']at hk
        exact h3 k u hk
      · rw [qY                         (by omega), hmt] at hk
        rcases qN (k - m) add.length with h'' | h''
        · rw [qX                        h''] at hk
          rw[show o+k=o+m+(k - m) by omega]
          exact C4 hk
        · rw [qY                         h'', qk]                 at hk
          rw[Aj.get_fill,if_neg (by omega)]
          refine h3 k u ?_
          rw[← hk]
          congr 1
          omega
theorem Ah.watch_buf{ow:Ow}{s:AF}{p:Nat}{x:Sf}{v:Sv}(h:Ah ow s p x v){k:Nat}{L:List Nat}(hk:v.watches[k]? = some L):
  ∃u,AC Try.prog 88 x.w (iv (k:Int))=some (BA x.w k)∧AD Try.prog s 89 (BA x.w k)=some u∧Bc ow (p,2,k) s u (Em L):=by
 obtain⟨us,w1,w2,w3⟩:=h.w
 obtain⟨u,hu1,hu2⟩:=w3 k L hk
 have hkl:=Ag hk
 exact⟨u,w2.addr Try.underlying88 I6 (by omega),w2.get Kb hu1,hu2⟩
theorem Ah.watch_put{ow:Ow}{s s':AF}{p:Nat}{x:Sf}{v:Sv}(h:Ah ow s p x v){k:Nat}{L L':List Nat}(hk:v.watches[k]? = some L){u:AV}(hu:AD Try.prog s 89 (BA x.w k)=some u)(hb:Bc ow (p,2,k) s' u (Em L'))(st:AH (· = (p,2,k)) ow s ow s')(hn:s'.next=s.next):
  Ah ow s' p x { v with watches:=v.watches.set k L' }∧AD Try.prog s' 89 (BA x.w k)=some u:=by
 obtain⟨us,w1,w2,w3⟩:=h.w
 have hkl:=Ag hk
 obtain⟨u0,hu1,hu2⟩:=w3 k L hk
 have e:u0=u:=by
  have:=w2.get Kb hu1
  rw[hu]at this
  injection this with this
  exact this.symm
 subst e
 have hm:∀a i,(a,i)≠(2,k)→¬ ((p,a,i):Bh)=(p,2,k):=fun a i ha e=>by
  injection e with _ e
  exact ha e
 have hm':∀a i,a≠2→¬ ((p,a,i):Bh)=(p,2,k):=fun a i ha=>CM ha
 have hlt:=h.lt
 have w2':Bc ow (p,1,0) s' x.w us:=w2.step st (hm' 1 0 (by decide))
 refine⟨{ box:=h.box.step st h.tag h.lt (hm' 0 0 (by decide)),tag:=h.tag,lt:=by omega,w:=?_,learned:=h.learned.step st (hm' 3 0 (by decide)),value:=h.value.step st (hm' 4 0 (by decide)),level:=h.level.step st (hm' 5 0 (by decide)),why:=h.why.step st (hm' 6 0 (by decide)),heat:=h.heat.step st (hm' 7 0 (by decide)),phase:=h.phase.step st (hm' 8 0 (by decide)),trail:=h.trail.step st (hm' 9 0 (by decide)),limits:=h.limits.step st (hm' 10 0 (by decide)),model:=h.model.step st (hm' 11 0 (by decide)),trace:=h.trace.step st (hm' 12 0 (by decide)) (hm' 13 0 (by decide)),cls:=fun c l hc=>(h.cls c l hc).step st (hm' 14 c (by decide)) (hm' 15 c (by decide)) },w2'.get Kb hu1⟩
 refine⟨us,by rw[w1,qQ],w2',fun j M hj=>?_⟩
 rw[qc]at hj
 by_cases e:k=j
 ·subst e
  rw[if_pos rfl,if_pos hkl]at hj
  injection hj with hj
  subst hj
  exact⟨u0,hu1,hb⟩
 ·rw[if_neg e]at hj
  obtain⟨w,q1,q2⟩:=w3 j M hj
  exact⟨w,q1,q2.step st (hm 2 j (fun q=>by injection q with _ q;exact e q.symm))⟩
theorem Ah.clause{ow:Ow}{s:AF}{p:Nat}{x:Sf}{v:Sv}(h:Ah ow s p x v){c:Nat}(hc:v.cl c=none){l:A6}(hn:Wg ow s p c l):Ah ow s p x { v with cl:=fun d=>if d=c then some l else v.cl d }:=by
 refine { box:=h.box,tag:=h.tag,lt:=h.lt,w:=h.w,learned:=h.learned,value:=h.value,level:=h.level,why:=h.why,heat:=h.heat,phase:=h.phase,trail:=h.trail,limits:=h.limits,model:=h.model,trace:=h.trace,cls:=fun d l' hd=>?_ }
 have hd:(if d=c then some l else v.cl d)=some l':=hd
 by_cases e:d=c
 ·rw[if_pos e]at hd
  injection hd with hd
  subst hd
  rw[e]
  exact hn
 ·rw[if_neg e]at hd
  exact h.cls d l' hd
theorem Ob(a:Int):FY (iv a) (iv a)=true:=by simp[FY,BY,Fs]
theorem D4{P:Program}{s s':AF}{t:TypeId}{i k:Nat}(h:s'.heap.get i=s.heap.get i):AD P s' t (.ptr (some (i,k)))=AD P s t (.ptr (some (i,k))):=by
 have hr:rowAt s' i=rowAt s i:=by unfold rowAt;rw[h]
 simp only[AD,loadN,load1,hr]
def Cg(val:List Int):List Int→Nat→Option Nat
 | [],_=>none
 | x::l,k=>if 0≤isV val x then some k else Cg val l (k+1)
def Ap(ls:List Int)(i j:Nat):List Int:=(ls.set i (ls.getD j 0)).set j (ls.getD i 0)
theorem DH(ls:List Int)(i j:Nat):(Ap ls i j).length=ls.length:=by unfold Ap;rw[qQ,qQ]
def AP(cl:Nat→Option A6)(c:Nat)(l:A6):Nat→Option A6:=fun d=>if d=c then some l else cl d
theorem JY(cl:Nat→Option A6)(c:Nat)(l l':A6):AP (AP cl c l) c l'=AP cl c l':=by
 funext d
 unfold AP
 by_cases h:d=c
 ·rw[if_pos h,if_pos h]
 ·rw[if_neg h,if_neg h,if_neg h]
theorem Ao(cl:Nat→Option A6)(c:Nat)(l:A6):AP cl c l c=some l:=if_pos rfl
def HK(x x':Sf)(v v':Sv)(s s':AF):Prop:=x'.w=x.w∧∀j,j<v.watches.length→v'.watches[j]? = v.watches[j]?→AD Try.prog s' 89 (BA x.w j)=AD Try.prog s 89 (BA x.w j)
theorem HK.refl(x:Sf)(v v':Sv)(s:AF):HK x x v v' s s:=⟨rfl,fun _ _ _=>rfl⟩
theorem HK.ofB{ow ow':Ow}{s s':AF}{p:Nat}{x x':Sf}{v v':Sv}(h:Ah ow s p x v)(k:AH (BU p) ow s ow' s')(hx:x'.w=x.w):HK x x' v v' s s':=by
 refine⟨hx,fun j hj _=>?_⟩
 obtain⟨us,w1,w2,_⟩:=h.w
 have hju:us[j]? = some us[j]:=qP (by omega)
 rw[w2.get Kb hju]
 exact(w2.step k (fun q=>q.2.1 rfl)).get Kb hju
def Cv(v:Sv)(c:Nat)(ls:List Int)(b:Bool×Bool)(i:Nat):Sv:={ v with cl:=AP v.cl c (Ap ls 1 i,b),watches:=Cx v.watches (place (ls.getD i 0)) c }
def A9(n:Nat)(ls:List Int):Prop:=(∀l∈ls,VL n l)∧ls.length<100000000
theorem A9.get{n:Nat}{ls:List Int}(h:A9 n ls){k:Nat}(hk:k<ls.length):VL n (ls.getD k 0):=h.1 _ (qL (AR hk))
theorem QF{ls:List Int}{i j:Nat}{x:Int}(hi:i<ls.length)(hj:j<ls.length)(h:x∈Ap ls i j):x∈ls:=by
  unfold Ap at h
  rcases rT h with h | h
  · rcases rT                        h with h | h
    · exact h
    · rw[h];exact qL (AR hj)
  · rw[h];exact qL (AR hi)
theorem A9.swap{n:Nat}{ls:List Int}(h:A9 n ls){i j:Nat}(hi:i<ls.length)(hj:j<ls.length):A9 n (Ap ls i j):=
 ⟨fun x hx=>h.1 x (QF hi hj hx),by rw[DH];exact h.2⟩
theorem Vs        {E : BN}  (hE : Good E) {ow : Ow} {s : AF}  {p : Nat} {x : Sf} {v : Sv} (h : Ah  ow s p x v) {n : Nat} (hf : Mt  n v) (hs : Ky    v.watches) {c : Nat} {ls : List Int} {b : Bool × Bool} (hc : v.cl c = some (ls, b)) (hl : A9    n ls) (h2 : 2 ≤ ls.length) {Q : A0   → Prop} :
    ∀ (l : List Int) (k : Nat) (x2 x4 x5 : AV), ls.drop k = l → 2 ≤ k → k ≤ ls.length →
      (∀y2 y3 y4 y5,Cg v.value l k=none→Q ⟨.exit 0,[AK p,AK c,y2,y3,y4,y5],[],s⟩) →
      (∀i s' ow' x' y3 y4 y5,Cg v.value l k=some i→i<ls.length→2≤i→Ah ow' s' p x' (Cv v c ls b i)→AH (Bb p) ow s ow' s'→HK x x' v (Cv v c ls b i) s s'→Q ⟨.ret,[AK p,AK c,.bool true,y3,y4,y5],[],s'⟩) →
      WC E none (.loop K4) Q [AK p,AK c,x2,iv (k:Int),x4,x5] [] s:=by
  obtain⟨hz,h3,ht,hlim⟩:=hf
  have hn:=hz.small
  obtain⟨u,u1,u2,u3,u4,u5⟩:=h.lits hc
  have u4:Bc ow (p,15,c) s u (Ax ls):=u4
  have ul:∀s,Aq Try.prog s 23 u=some (iv (ls.length:Int)):=fun s=>by
    have:=u4.len Try.underlying23 s
    rw[qK]at this
    exact this
  intro l
  induction l with
  | nil =>
    intro k x2 x4 x5 hd hk2 hk hno hyes
    have:=CH hd hk
    subst this
    refine WC.loop' ?_
    simp only[K4,Rz,AK,AG,DD,u1,ul,qd,decide_false,Qa,Qb,Qc,Qd,Qf,Qh,Qj,Qk,Qm,Qn,true_and,Qo,Qp,Qq,Qr,Qs,Qv,Qw,Qx,Qy,Qz,Ra,Rq]
    exact hno _ _ _ _ rfl
  | cons y l ih =>
    intro k x2 x4 x5 hd hk2 hk hno hyes
    obtain⟨hlt,hy,hd'⟩:=Be hd
    have hll:=hl.2
    obtain⟨hy0,hy1⟩:=hl.1 y (qL hy)
    have hkk:decide ((k:Int)<(ls.length:Int))=true:=decide_eq_true (by omega)
    have e3:=Ai Try.prog 3 (k:Int) 1 ⟨by omega,by omega⟩
    have hcast:((k:Int)+1)=((k+1:Nat):Int):=by omega
    have i1:=u4.addr Try.underlying23 Bt (k:=k) (by rw[qK];exact hlt)
    have i2:=u4.get (t:=3) Dg (k:=k) (Au hy)
    have j1:=u4.addr Try.underlying23 Bt (k:=1) (by rw[qK];omega)
    have hg1:=AR (d:=(0:Int)) (show 1<ls.length by omega)
    have j2:=u4.get (t:=3) Dg (k:=1) (Au hg1)
    have j1':AC Try.prog 23 u (iv 1)=some (BA u 1):=j1
    refine WC.loop' ?_
    generalize hW:WC E none (Ac.loop K4) Q=W
    simp only[K4,Rz,XN,AK,AG,DD,u1,ul,hkk,i1,i2,Qa,Qb,Qc,Qd,Qf,Qh,Qi,Qj,Qk,Qm,Qn,true_and,Qo,Qp,Qq,Qr,Qs,Qu,Qw,Qx,Qy,Qz,Ra,Rq]
    refine(KJ hE h h3 (l:=y) (by rw[hz.value];omega) (by rw[hz.value];omega)).mono ?_
    rintro _ _ ⟨rfl,rfl⟩
    have hgy:ls.getD k 0=y:=by rw[qe,hy];rfl
    by_cases hge:0≤isV v.value y
    · have hfm:Cg v.value (y::l) k=some k:=by unfold Cg;rw[if_pos hge]
      obtain⟨s1,a1,a2,a3,a4,a5⟩:=h.put_lit hc (k:=1) (by omega) y u1
      have hc1:(AP v.cl c (ls.set 1 y,b)) c=some (ls.set 1 y,b):=Ao _ _ _
      have a2':Ah ow s1 p x { v with cl:=AP v.cl c (ls.set 1 y,b) }:=a2
      obtain⟨s2,b1,b2,b3,b4,b5⟩:=a2'.put_lit hc1 (k:=k) (by rw[qQ];exact hlt) (ls.getD 1 0) a5
      have hsw:(ls.set 1 y).set k (ls.getD 1 0)=Ap ls 1 k:=by unfold Ap;rw[hgy]
      rw[hsw]at b2
      have b2':Ah ow s2 p x { v with cl:=AP v.cl c (Ap ls 1 k,b) }:=by
        have e:=JY v.cl c (ls.set 1 y,b) (Ap ls 1 k,b)
        have:Ah ow s2 p x { v with cl:=AP (AP v.cl c (ls.set 1 y,b)) c (Ap ls 1 k,b) }:=b2
        rw[e]at this
        exact this
      have hst:AH (fun _=>False) ow s2 (ext ow s2.next (0,0,0)) (newObj s2 (AO 92 1 [AK c])):=AH.new _ ow s2 _ _
      have d2:=b2'.keep hst (fun _ q=>q.elim)
      have hpl:=VL.place ⟨hy0,hy1⟩
      have hwk:v.watches[place y]? = some (v.watches.getD (place y) []):=AR (by rw[hz.w];exact hpl)
      obtain⟨w1,w1',s3,s4,ow',f1,f2,f3,ldw3,f4,f5,f6,f7⟩:=d2.watch_in (k:=place y) hwk (by have:=hs _ (qL hwk);omega) c (q:=s2.next) (ty:=92) (sz':=1) (by rw[AQ,if_pos rfl])
      have hc2:(AP v.cl c (Ap ls 1 k,b)) c=some (Ap ls 1 k,b):=Ao _ _ _
      obtain⟨u',q1,q2,q3,q4,q5⟩:=b2'.lits hc2
      have huu:u'=u:=by rw[b5]at q1;injection q1 with q1;exact q1.symm
      subst huu
      have hs1:(Ap ls 1 k)[1]? = some y:=by
        unfold Ap
        rw[qc,if_neg (by omega),qc,if_pos rfl,if_pos (by omega),hgy]
      have r2:=q4.get (t:=3) Dg (k:=1) (Au hs1)
      have hcx:c<s2.next:=q5
      have e5:AD Try.prog (newObj s2 (AO 92 1 [AK c])) 23 (.ptr (some (c,0)))=some u':=(D4 (s:=s2) (by rw[AQ,if_neg (by omega)])).trans b5
      have q4':=q4.step hst (fun q=>q.elim)
      have r2':=q4'.get (t:=3) Dg (k:=1) (Au hs1)
      have bl:=Ck (P:=Try.prog) (t:=89) (v:=AK c) Try.underlying89 E5 UE rfl rfl
      have hms:∀ (m:Nat) (i:Nat),Made.val i (.slice m)=.slice (some (i,0)) m (some m):=fun _ _=>rfl
      have hself:FY x.w x.w=true:=by obtain⟨us,_,w2,_⟩:=b2'.w;exact w2.self
      have hselfu:FY u' u'=true:=q4.self
      have g1:=decide_eq_true hge
      have ldw:=b2'.ld_w
      have ldw':=d2.ld_w
      simp only[AK]at bl f1 f2 f3 f4 e5 r2' ldw'
      simp only[g1,XO,AG,DD,Lm,u1,i1,i2,j1',j2,BV,a1,b1,AU,XP,ldw,b5,r2,bl,hms,Qb,Qc,Qd,Qf,Qh,Qi,Qj,Qk,Qm,Qn,true_and,and_true,Qo,Qp,Qq,Qr,Qs,Qu,Yc,Ru]
      refine(GB hE (l:=y) (by omega)).mono ?_
      rintro _ _ ⟨rfl,rfl⟩
      simp only[BX,At,r2',Ob,e5,hselfu,ldw',hself,Qd,Qk,Qn,true_and,and_true,Qq,Qr]
      refine(GB hE (l:=y) (by omega)).mono ?_
      rintro _ _ ⟨rfl,rfl⟩
      simp only[BX,At,ldw',hself,f1,f2,f3,ldw3,f4,XQ,Qb,Qc,Qd,Qf,Qh,Qi,Qk,Qm,Qn,true_and,and_true,Qo,Qp,Qq,Qr,Qs]
      refine hyes k s4 ow' x _ _ _ hfm hlt hk2 ?_ ((a3.trans b3).b.trans ((hst.mono fun _ q=>q.elim).trans f6.w)) ⟨rfl,fun j hj he=>?_⟩
      rotate_left
      · have hjk:j≠place y:=fun e=>by
          subst e
          have e1:(Cv v c ls b k).watches[place y]? = some (v.watches.getD (place y) []++[c]):=by
            show(v.watches.set (place (ls.getD k 0)) _)[place y]? = _
            rw[hgy,qc,if_pos rfl,if_pos hj]
          rw[e1,hwk]at he
          injection he with he
          have:=congrArg List.length he
          simp at this
        rw[f7 j hj hjk]
        obtain⟨us,w1,w2,_⟩:=h.w
        have hju:us[j]? = some us[j]:=qP (by omega)
        rw[w2.get Kb hju]
        exact((w2.step (a3.trans b3) (fun q=>q.2.1 rfl)).step hst (fun q=>q.elim)).get Kb hju
      have:Cv v c ls b k={ { v with cl:=AP v.cl c (Ap ls 1 k,b) }with watches:=v.watches.set (place y) (v.watches.getD (place y) []++[c]) }:=by unfold Cv Cx;rw[hgy]
      rw[this]
      exact f5
    · have hfm:Cg v.value (y::l) k=Cg v.value l (k+1):=by conv=>lhs;unfold Cg;rw[if_neg hge]
      rw[hfm]at hno hyes
      have g1:=decide_eq_false hge
      simp only[g1,XR,e3,hcast,Qb,Qc,Qd,Qf,Qh,Qi,Qj,Qk,Qm,Qn,true_and,Qo,Qp,Qq,Qr,Qs,Qv,Ru]
      rw[← hW]
      exact ih (k+1) _ _ _ hd' (by omega) hlt hno hyes
theorem eS{E:BN}(hE:Good E){ow:Ow}{s:AF}{p:Nat}{x:Sf}{v:Sv}(h:Ah ow s p x v){n:Nat}(hf:Mt n v)(hs:Ky v.watches){c:Nat}{ls:List Int}{b:Bool×Bool}(hc:v.cl c=some (ls,b))(hl:A9 n ls)(h2:2≤ls.length):
  WF E 110 [AK p,AK c] (fun r s'=>(Cg v.value (ls.drop 2) 2=none∧r=.bool false∧s'=s)∨∃i ow' x',Cg v.value (ls.drop 2) 2=some i∧i<ls.length∧2≤i∧r=.bool true∧Ah ow' s' p x' (Cv v c ls b i)∧AH (Bb p) ow s ow' s'∧HK x x' v (Cv v c ls b i) s s') s:=by
 refine hE.go du (by decide) rfl ?_
 simp only[nV,XL,XM,Qa,Qb,Qc,Qd,Qf,Qh,Qi,Qj,Ql,Qm,Qn,true_and,Qo,Qp,Qs,Qw,Rc,Rf,Rg,Rh,Yc]
 refine Vs hE h hf hs hc hl h2 (ls.drop 2) 2 _ _ _ rfl (qI _) h2 ?_ ?_
 ·intro y2 y3 y4 y5 hno
  simp only[if_true,XS,Qb,Qc,Qd,Qf,Qh,Qi,Qm,Qn,true_and,and_true,Qo,Qp,Qq,Qr,Qs,Qw,Qy,Rb,Re]
  exact .inl hno
 ·intro i s' ow' x' y3 y4 y5 h1 h3 h4 h5 h6 h7
  simp only[Qj,Qm,true_and,Qq,Qr,Qx,Ra,Rc,Re,Rf,Rg,Rh,Yc]
  exact .inr ⟨i,ow',x',h1,h3,h4,h5,h6,h7⟩
def AZ(v:Sv)(c:Nat)(l:Int)(ls:List Int)(b:Bool×Bool):Bool×Bool×Sv:=
 if b.2=true then (false,false,v)else
 let ls1:=if ls.getD 0 0=l then Ap ls 0 1 else ls
 let v1:Sv:={ v with cl:=AP v.cl c (ls1,b) }
 if 0<isV v.value (ls1.getD 0 0)then (true,false,v1)else
 match Cg v.value (ls1.drop 2) 2 with
 | some i=>(false,false,Cv v1 c ls1 b i)
 | none=>if isV v.value (ls1.getD 0 0)<0 then (true,true,v1)else (true,false,BR v1 (ls1.getD 0 0) (some c))
theorem Pk{cl:Nat→Option A6}{c:Nat}{l:A6}(h:cl c=some l):AP cl c l=cl:=by
 funext d
 unfold AP
 by_cases e:d=c
 ·rw[if_pos e,e,h]
 ·rw[if_neg e]
theorem Mk         {E : BN}  (hE : Good E) {ow : Ow} {s : AF}  {p : Nat} {x : Sf} {v : Sv} (h : Ah  ow s p x v) {n : Nat} (hf : Mt  n v) (hs : Ky    v.watches) {c : Nat} {ls : List Int} {b : Bool × Bool} (hc : v.cl c = some (ls, b)) (hl : A9    n ls) (h2 : 2 ≤ ls.length) (l5 l6 x3 x4 x5 : AV) {Q : AV → AF  → Prop}
    (hq:∀a f s' ow' x' v',(if 0<isV v.value (ls.getD 0 0)then (true,false,v)else
      match Cg v.value (ls.drop 2) 2 with
      | some i=>(false,false,Cv v c ls b i)
      | none=>if isV v.value (ls.getD 0 0)<0 then (true,true,v)else (true,false,BR v (ls.getD 0 0) (some c)))=(a,f,v')→Ah ow' s' p x' v'→AH (Bb p) ow s ow' s'→HK x x' v v' s s'→Q (.tuple [.bool a,.bool f]) s'):
    Qa E none (.seq (.block 0 (.seq (.ops Z5) (.cond (.var 7) (.seq (.ops Z6) .ret) (.seq (.ops Z7) (.cond (.var 8) (.seq (.ops Z8) .ret) (.seq (.ops Z9) (.cond (.var 9) (.seq (.ops TE) .ret) .skip))))))) (.seq (.ops TF) (.seq (.ops TG) .ret)))
      (Ends Try.prog [((.var 3),none),((.var 4),none)] Q) [AK p,AK c,l5,.bool false,.bool false,l6,x3,x4,x5,BJ] [] s:=by
  have hz:=hf.siz
  have hn:=hz.small
  have hV0:=hl.get (k:=0) (by omega)
  obtain⟨u,u1,u2,u3,u4,u5⟩:=h.lits hc
  have u4:Bc ow (p,15,c) s u (Ax ls):=u4
  have hg0:=AR (d:=(0:Int)) (show 0<ls.length by omega)
  have i1:=u4.addr Try.underlying23 Bt (k:=0) (by rw[qK];omega)
  have i1':AC Try.prog 23 u (iv 0)=some (BA u 0):=i1
  have i2:=u4.get (t:=3) Dg (k:=0) (Au hg0)
  generalize hl0:ls.getD 0 0=l0 at hV0 i2 hq
  have hlen:l0.natAbs<v.value.length:=by rw[hz.value];have:=hV0.2;omega
  have hlen2:v.value.length<1000000000:=by rw[hz.value];omega
  simp only[Z5,AK,AG,DD,u1,i1',i2,Qa,Qb,Qc,Qd,Qf,Qh,Qi,Qj,Qk,Qm,Qn,true_and,Qq,Qr,Qs,Qw,Qx,Qz,Ra,Rc,Rf,Rg,Rj,Yc]
  refine(KJ hE h hf.val hlen hlen2).mono ?_
  rintro _ _ ⟨rfl,rfl⟩
  by_cases hp:0<isV v.value l0
  · rw[if_pos hp]at hq
    simp only[decide_eq_true hp,Z6,Qb,Qc,Qd,Qf,Qh,Qi,Qm,Qn,true_and,Qo,Qp,Qq,Qr,Qs,Qu,Re,Rs]
    exact hq _ _ _ _ _ _ rfl h (AH.refl _ _ _) (HK.refl _ _ _ _)
  · rw[if_neg hp]at hq
    simp only[decide_eq_false hp,Z7,Qb,Qc,Qd,Qf,Qh,Qj,Qk,Qm,Qn,true_and,Qo,Qp,Qq,Qr,Qs,Qv,Rs]
    refine(eS hE h hf hs hc hl h2).mono ?_
    rintro r s1 (⟨g1,rfl,rfl⟩ | ⟨i,ow',x',g1,_,_,rfl,g2,g3,g4⟩)
    · rw[g1]at hq
      simp only[Z9,AG,DD,u1,i1',i2,Qb,Qc,Qd,Qf,Qh,Qi,Qj,Qk,Qm,Qn,true_and,Qo,Qp,Qq,Qr,Qs,Qv]
      refine(KJ hE h hf.val hlen hlen2).mono ?_
      rintro _ _ ⟨rfl,rfl⟩
      by_cases hm:isV v.value l0<0
      · simp only [if_pos hm] at hq
        simp only[decide_eq_true hm,TE,Qb,Qc,Qd,Qf,Qh,Qi,Qm,Qn,true_and,Qo,Qp,Qq,Qr,Qs,Qu,Re,Rq]
        exact hq _ _ _ _ _ _ rfl h (AH.refl _ _ _) (HK.refl _ _ _ _)
      · simp only [if_neg hm] at hq
        simp only[decide_eq_false hm,TF,AG,DD,u1,i1',i2,Qb,Qc,Qd,Qf,Qh,Qi,Qj,Qk,Qm,Qn,true_and,Qo,Qp,Qq,Qr,Qs,Qv,Re,Rq]
        refine(F2 hE h hz hV0 (some c)).mono ?_
        rintro _ s2 ⟨ow',x',k1,k2,k3⟩
        simp only[TG,Qb,Qc,Qd,Qf,Qh,Qi,Qm,Qn,true_and,Qo,Qp,Qq,Qr,Qs]
        exact hq _ _ _ _ _ _ rfl k1 k2.b (HK.ofB h k2 k3)
    · rw[g1]at hq
      simp only[Z8,Qb,Qc,Qd,Qf,Qh,Qi,Qm,Qn,true_and,Qo,Qp,Qq,Qr,Qs,Qu,Re]
      exact hq _ _ _ _ _ _ rfl g2 g3 g4
theorem cR       {E : BN}  (hE : Good E) {ow : Ow} {s : AF}  {p : Nat} {x : Sf} {v : Sv} (h : Ah  ow s p x v) {n : Nat} (hf : Mt  n v) (hs : Ky    v.watches) {c : Nat} {ls : List Int} {b : Bool × Bool} (hc : v.cl c = some (ls, b)) (hl : A9    n ls) (h2 : 2 ≤ ls.length) (l : Int) :
    WF E 92 [AK p,AK c,iv l] (fun r s'=>∃a f v' ow' x',AZ v c l ls b=(a,f,v')∧r=.tuple [.bool a,.bool f]∧Ah ow' s' p x' v'∧AH (Bb p) ow s ow' s'∧HK x x' v v' s s') s:=by
  obtain⟨u,u1,u2,u3,u4,u5⟩:=h.lits hc
  have u4:Bc ow (p,15,c) s u (Ax ls):=u4
  have u3:AD Try.prog s 4 (.ptr (some (c,2)))=some (.bool b.2):=u3
  have hg0:=AR (d:=(0:Int)) (show 0<ls.length by omega)
  have hg1:=AR (d:=(0:Int)) (show 1<ls.length by omega)
  have i1:AC Try.prog 23 u (iv 0)=some (BA u 0):=u4.addr Try.underlying23 Bt (k:=0) (by rw[qK];omega)
  have i2:=u4.get (t:=3) Dg (k:=0) (Au hg0)
  have j1:AC Try.prog 23 u (iv 1)=some (BA u 1):=u4.addr Try.underlying23 Bt (k:=1) (by rw[qK];omega)
  have j2:=u4.get (t:=3) Dg (k:=1) (Au hg1)
  refine hE.go mF (by decide) rfl ?_
  cases hb:b.2 with
  | true =>
    rw[hb]at u3
    have ht:AZ v c l ls b=(false,false,v):=by unfold AZ;rw[if_pos hb]
    simp only[oU,Ue,Uf,jh,AK,AG,GP,u3,Qa,Qb,Qc,Qd,Qf,Qh,Qi,Qj,Qk,Ql,Qm,Qn,true_and,Qo,Qp,Qq,Qr,Qs,Qu,Qw,Qx,Qz,Ra,Rc,Re,Rf,Rg,Rj,Yc]
    exact⟨false,false,v,ow,x,ht,rfl,h,AH.refl _ _ _,HK.refl _ _ _ _⟩
  | false =>
    rw[hb]at u3
    by_cases he:ls.getD 0 0=l
    · obtain⟨s1,a1,a2,a3,a4,a5⟩:=h.put_lit hc (k:=0) (by omega) (ls.getD 1 0) u1
      have hc1:(AP v.cl c (ls.set 0 (ls.getD 1 0),b)) c=some (ls.set 0 (ls.getD 1 0),b):=Ao _ _ _
      have a2':Ah ow s1 p x { v with cl:=AP v.cl c (ls.set 0 (ls.getD 1 0),b) }:=a2
      obtain⟨s2,b1,b2,b3,b4,b5⟩:=a2'.put_lit hc1 (k:=1) (by rw[qQ];omega) (ls.getD 0 0) a5
      have b2':Ah ow s2 p x { v with cl:=AP v.cl c (Ap ls 0 1,b) }:=by
        have e:=JY v.cl c (ls.set 0 (ls.getD 1 0),b) (Ap ls 0 1,b)
        have:Ah ow s2 p x { v with cl:=AP (AP v.cl c (ls.set 0 (ls.getD 1 0),b)) c (Ap ls 0 1,b) }:=b2
        rw[e]at this
        exact this
      have hf2:Mt n { v with cl:=AP v.cl c (Ap ls 0 1,b) }:=⟨⟨hf.siz.small,hf.siz.w,hf.siz.value,hf.siz.level,hf.siz.why,hf.siz.heat,hf.siz.phase,hf.siz.trail,hf.siz.limits⟩,hf.val,hf.lits,hf.lims⟩
      have hd:=decide_eq_true he
      have fin:=fun(l5:AV)=>Mk hE b2' hf2 hs (c:=c) (ls:=Ap ls 0 1) (b:=b) (Ao _ _ _) (hl.swap (by omega) (by omega)) (by rw[DH];exact h2) l5 (.bool false) (.bool true) BJ BJ (Q:=fun r s'=>∃a f v' ow' x',AZ v c l ls b=(a,f,v')∧r=.tuple [.bool a,.bool f]∧Ah ow' s' p x' v'∧AH (Bb p) ow s ow' s'∧HK x x' v v' s s')
        (fun a f s' ow' x' v' e k1 k2 k3=>⟨a,f,v',ow',x',by unfold AZ;rw[if_neg (by rw[hb];decide)];simp only[if_pos he];exact e,rfl,k1,(a3.trans b3).b.trans k2,k3.1,fun j hj hw=>(k3.2 j hj hw).trans ((HK.ofB (x':=x) (v':=v) h (a3.trans b3) rfl).2 j hj rfl)⟩)
      have fin:=fin (iv l)
      simp only[AK,Qa,Qj,Qm,Qw,Qx,Qz,Ra,Rc,Rf,Rg,Rj,Yc]at fin
      simp only[oU,Ue,Uf,Z4,jj,AK,AG,GP,DD,u3,u1,i1,i2,j1,j2,hd,BV,a1,b1,AU,Qa,Qb,Qc,Qd,Qf,Qh,Qi,Qj,Qk,Ql,Qm,Qn,true_and,Qo,Qp,Qq,Qr,Qs,Qu,Qv,Qw,Qx,Qz,Ra,Rc,Rf,Rg,Rj,Yc,Rv]
      exact fin
    · have hd := decide_eq_false he
      have fin:=Mk hE h hf hs hc hl h2 (iv l) (.bool false) (.bool false) BJ BJ (Q:=fun r s'=>∃a f v' ow' x',AZ v c l ls b=(a,f,v')∧r=.tuple [.bool a,.bool f]∧Ah ow' s' p x' v'∧AH (Bb p) ow s ow' s'∧HK x x' v v' s s')
        (fun a f s' ow' x' v' e k1 k2 k3=>⟨a,f,v',ow',x',by
          unfold AZ
          rw[if_neg (by rw[hb];decide)]
          simp only[if_neg he]
          rw[Pk hc]
          exact e,rfl,k1,k2,k3⟩)
      simp only[AK,Qa,Qj,Qm,Qw,Qx,Qz,Ra,Rc,Rf,Rg,Rj,Yc]at fin
      simp only[oU,Ue,Uf,Z4,AK,AG,GP,DD,u3,u1,i1,i2,hd,Qa,Qb,Qc,Qd,Qf,Qh,Qi,Qj,Qk,Ql,Qm,Qn,true_and,Qo,Qp,Qq,Qr,Qs,Qv,Qw,Qx,Qz,Ra,Rc,Rf,Rg,Rj,Yc,Rv]
      exact fin
structure A7(n:Nat)(v:Sv):Prop where
 fit:Mt n v
 nodup:(v.trail.map Int.natAbs).Nodup
 holds:∀l∈v.trail,v.value.getD l.natAbs 0=GG l
 open_:∀k,(∀l∈v.trail,l.natAbs≠k)→v.value.getD k 0=0
 wc:∀L∈v.watches,∀c∈L,∃ls b,v.cl c=some (ls,b)∧A9 n ls∧2≤ls.length
def Df(B:Nat)(ws:List (List Nat)):Prop:=∀L∈ws,L.length≤B
theorem Df.mono{B C:Nat}{ws:List (List Nat)}(h:Df B ws)(hB:B≤C):Df C ws:=fun L hL=>qV (h L hL) hB
theorem Df.set{B:Nat}{ws:List (List Nat)}(h:Df B ws){k:Nat}{L:List Nat}(hL:L.length≤B):Df B (ws.set k L):=fun M hM=>by
 rcases rT hM with h' | h'
 ·exact h M h'
 ·rw[h'];exact hL
theorem Df.put{B:Nat}{ws:List (List Nat)}(h:Df B ws)(k c:Nat):Df (B+1) (Cx ws k c):=by
 refine Df.set (h.mono (by omega)) ?_
 have:(ws.getD k []).length≤B:=by
  rw[qe]
  cases hk:ws[k]? with
  | none=>simp
  | some L=>exact h L (qL hk)
 rw[qM,List.length_singleton]
 omega
theorem F5{α:Type}{l:List α}{k j:Nat}{a d:α}(hk:k<l.length):(l.set k a).getD j d=if j=k then a else l.getD j d:=by
 rw[qe,qe,qc]
 by_cases e:k=j
 ·subst e;rw[if_pos rfl,if_pos hk,if_pos rfl];rfl
 ·rw[if_neg e,if_neg (fun q=>e q.symm)]
theorem eQ{ws:List (List Nat)}{k c:Nat}{L:List Nat}(h:L∈Cx ws k c){d:Nat}(hd:d∈L):d=c∨∃M∈ws,d∈M:=by
  unfold Cx at h
  rcases rT h with h | h
  · exact .inr ⟨L,h,hd⟩
  · rw [h] at hd
    rcases List.mem_append.1 hd with hd | hd
    · rw[qe]at hd
      cases hk:ws[k]? with
      | none=>rw[hk]at hd;cases hd
      | some M=>rw[hk]at hd;exact .inr ⟨M,qL hk,hd⟩
    · exact .inl (List.mem_singleton.1 hd)
theorem DG        : ∀ {n : Nat} {l : List Nat}, l.Nodup → (∀ x ∈ l, 1 ≤ x ∧ x ≤ n) → l.length ≤ n
  | 0,l,h,hb=>by
    cases l with
    | nil=>exact qI _
    | cons x l=>have:=hb x qR;omega
  | n + 1, l, h, hb => by
    by_cases hm:n+1∈l
    · have h1:=DG (n:=n) (h.erase (n+1)) fun x hx=>by
        have hne:x≠n+1:=fun e=>by rw[e]at hx;exact h.not_mem_erase hx
        have:=hb x (List.mem_of_mem_erase hx)
        exact⟨this.1,by omega⟩
      rw[List.length_erase_of_mem hm]at h1
      omega
    · have h1:=DG (n:=n) h fun x hx=>by
        have hne:x≠n+1:=fun e=>by rw[e]at hx;exact hm hx
        have:=hb x hx
        exact⟨this.1,by omega⟩
      omega
theorem Ku(l:Int):GG l=-1∨GG l=1:=by unfold GG;split<;>simp
theorem F9{val:List Int}{l:Int}(h:isV val l=0):val.getD l.natAbs 0=0:=by
 unfold isV at h
 split at h<;>omega
theorem A7.assign{n:Nat}{v:Sv}(h:A7 n v){l:Int}(hl:VL n l)(ho:v.value.getD l.natAbs 0=0)(w:Option Nat):A7 n (BR v l w):=by
  obtain⟨⟨hz,hv,hli,hlm⟩,h2,h3,h4,h5⟩:=h
  have hkl:l.natAbs<v.value.length:=by rw[hz.value];have:=hl.2;omega
  have hno:∀y∈v.trail,y.natAbs≠l.natAbs:=fun y hy e=>by
    have:=h3 y hy
    rw[e,ho]at this
    rcases Ku y with q | q<;>omega
  have hnd:((v.trail++[l]).map Int.natAbs).Nodup:=by
    rw[qx,rH]
    refine⟨h2,by simp,fun a ha b hb=>?_⟩
    obtain⟨y,hy,rfl⟩:=List.mem_map.1 ha
    have:b=l.natAbs:=by simpa using hb
    rw[this]
    exact hno y hy
  have hmem:∀y∈v.trail++[l],VL n y:=fun y hy=>by
    rcases List.mem_append.1 hy with hy | hy
    · exact hli y hy
    · rw[List.mem_singleton.1 hy];exact hl
  have hlen:(v.trail++[l]).length≤n:=by
    have:=DG hnd (n:=n) fun x hx=>by
      obtain⟨y,hy,rfl⟩:=List.mem_map.1 hx
      obtain⟨q1,q2⟩:=hmem y hy
      exact⟨by omega,q2⟩
    simpa using this
  refine⟨⟨⟨hz.small,hz.w,?_,?_,?_,hz.heat,hz.phase,hlen,hz.limits⟩,fun x hx=>?_,hmem,fun x hx=>?_⟩,hnd,fun y hy=>?_,fun k hk=>?_,h5⟩
  · show(v.value.set _ _).length=_;rw[qQ];exact hz.value
  · show(v.level.set _ _).length=_;rw[qQ];exact hz.level
  · show(v.why.set _ _).length=_;rw[qQ];exact hz.why
  · rcases rT                        hx with q | q
    · exact hv x q
    · rw[q];rcases Ku l with e | e<;>rw[e]<;>simp
  · have:=hlm x hx
    refine⟨this.1,?_⟩
    show x≤((v.trail++[l]).length:Int)
    rw[qM]
    simp
    omega
  · show(v.value.set _ _).getD _ 0=_
    rw[F5 hkl]
    rcases List.mem_append.1 hy with hy | hy
    · rw[if_neg (hno y hy)];exact h3 y hy
    · rw[List.mem_singleton.1 hy,if_pos rfl]
  · show(v.value.set _ _).getD _ 0=_
    have hkl':k≠l.natAbs:=fun e=>hk l (ql _ qR) e.symm
    rw[F5 hkl,if_neg hkl']
    exact h4 k fun y hy=>hk y (qW _ hy)
theorem A7.swap{n:Nat}{v:Sv}(h:A7 n v){c:Nat}{ls ls':List Int}{b:Bool×Bool}(hc:v.cl c=some (ls,b))(hl:A9 n ls')(h2:2≤ls'.length):A7 n { v with cl:=AP v.cl c (ls',b) }:=by
 obtain⟨⟨hz,hv,hli,hlm⟩,g2,g3,g4,g5⟩:=h
 refine⟨⟨⟨hz.small,hz.w,hz.value,hz.level,hz.why,hz.heat,hz.phase,hz.trail,hz.limits⟩,hv,hli,hlm⟩,g2,g3,g4,fun L hL d hd=>?_⟩
 by_cases e:d=c
 ·subst e;exact⟨ls',b,Ao _ _ _,hl,h2⟩
 ·obtain⟨ls,b',q1,q2⟩:=g5 L hL d hd
  exact⟨ls,b',by show AP _ _ _ d=_;unfold AP;rw[if_neg e];exact q1,q2⟩
theorem A7.put{n:Nat}{v:Sv}(h:A7 n v){c:Nat}{ls:List Int}{b:Bool×Bool}(hc:v.cl c=some (ls,b))(hl:A9 n ls)(h2:2≤ls.length)(k:Nat):A7 n { v with watches:=Cx v.watches k c }:=by
 obtain⟨⟨hz,hv,hli,hlm⟩,g2,g3,g4,g5⟩:=h
 refine⟨⟨⟨hz.small,by show(Cx _ _ _).length=_;rw[C9];exact hz.w,hz.value,hz.level,hz.why,hz.heat,hz.phase,hz.trail,hz.limits⟩,hv,hli,hlm⟩,g2,g3,g4,fun L hL d hd=>?_⟩
 rcases eQ hL hd with rfl | ⟨M,hM,hd⟩
 ·exact⟨ls,b,hc,hl,h2⟩
 ·exact g5 M hM d hd
theorem Id{val:List Int}:∀ {l:List Int}{k i:Nat},Cg val l k=some i→k≤i∧i<k+l.length
 | [],k,i,h=>by cases h
 | x::l,k,i,h=>by
  unfold Cg at h
  split at h
  ·injection h with h;subst h;simp
  ·have:=Id h;simp;omega
theorem A7.move{n:Nat}{v:Sv}(h:A7 n v){c:Nat}{ls:List Int}{b:Bool×Bool}(hc:v.cl c=some (ls,b))(hl:A9 n ls)(h2:2≤ls.length){i:Nat}(hi:i<ls.length):A7 n (Cv v c ls b i):=
 (h.swap hc (hl.swap (i:=1) (j:=i) (by omega) hi) (by rw[DH];exact h2)).put (Ao _ _ _) (hl.swap (i:=1) (j:=i) (by omega) hi) (by rw[DH];exact h2) _
structure Kf(v v':Sv)(c:Nat):Prop where
 learned:v'.learned=v.learned
 heat:v'.heat=v.heat
 phase:v'.phase=v.phase
 limits:v'.limits=v.limits
 head:v'.head=v.head
 broken:v'.broken=v.broken
 model:v'.model=v.model
 trace:v'.trace=v.trace
 many:v'.many=v.many
 room:v'.room=v.room
 wlen:v'.watches.length=v.watches.length
 cl:∀d,d≠c→v'.cl d=v.cl d
theorem J9        {n B : Nat} {v : Sv} (h : A7   n v) (hs : Df     B v.watches) {c : Nat} {ls : List Int} {b : Bool × Bool} (hc : v.cl c = some (ls, b)) (hl : A9    n ls) (h2 : 2 ≤ ls.length) {l : Int} {a f : Bool} {v' : Sv} (ht : AZ     v c l ls b = (a, f, v')) :
    A7 n v'∧Df (B+1) v'.watches∧Kf v v' c∧∃ls',v'.cl c=some (ls',b)∧A9 n ls'∧ls'.length=ls.length:=by
  unfold AZ at ht
  have same:Kf v v c:=⟨rfl,rfl,rfl,rfl,rfl,rfl,rfl,rfl,rfl,rfl,rfl,fun _ _=>rfl⟩
  by_cases hb:b.2=true
  · rw[if_pos hb]at ht
    injection ht with h1 ht
    injection ht with h3 ht
    subst ht
    exact⟨h,hs.mono (by omega),same,ls,hc,hl,rfl⟩
  · rw[if_neg hb]at ht
    dsimp only at ht
    have hl1:A9 n (if ls.getD 0 0=l then Ap ls 0 1 else ls):=by
      split
      · exact hl.swap (by omega) (by omega)
      · exact hl
    have hlen:(if ls.getD 0 0=l then Ap ls 0 1 else ls).length=ls.length:=by
      split
      · exact DH _ _ _
      · rfl
    generalize (if ls.getD 0 0=l then Ap ls 0 1 else ls)=ls1 at ht hl1 hlen
    have hi1:=h.swap hc hl1 (by omega)
    have hc1:({ v with cl:=AP v.cl c (ls1,b) }:Sv).cl c=some (ls1,b):=Ao _ _ _
    have t1:Kf v { v with cl:=AP v.cl c (ls1,b) } c:=⟨rfl,rfl,rfl,rfl,rfl,rfl,rfl,rfl,rfl,rfl,rfl,fun d hd=>if_neg hd⟩
    generalize hv1:({ v with cl:=AP v.cl c (ls1,b) }:Sv)=v1 at ht hi1 hc1 t1
    have hw1:v1.watches=v.watches:=by rw[← hv1]
    have hval1:v1.value=v.value:=by rw[← hv1]
    split at ht
    · injection ht with h1 ht
      injection ht with h3 ht
      subst ht
      exact⟨hi1,by rw[hw1];exact hs.mono (by omega),t1,ls1,hc1,hl1,hlen⟩
    · rename_i hnp
      split at ht
      · rename_i i hfi
        injection ht with h1 ht
        injection ht with h3 ht
        subst ht
        have hil:=Id hfi
        rw[rB]at hil
        refine⟨hi1.move hc1 hl1 (by omega) (by omega),?_,?_,Ap ls1 1 i,Ao _ _ _,hl1.swap (by omega) (by omega),by rw[DH];exact hlen⟩
        · show Df (B+1) (Cx v1.watches _ _)
          rw[hw1]
          exact hs.put _ _
        · refine ⟨t1.learned, t1.heat, t1.phase, t1.limits, t1.head, t1.broken, t1.model, t1.trace, t1.many, t1.room, ?_, fun d hd => ?_⟩
          · show(Cx _ _ _).length=_;rw[C9];exact t1.wlen
          · show AP _ _ _ d=_;unfold AP;rw[if_neg hd];exact t1.cl d hd
      · rename_i hfn
        split at ht
        · injection ht with h1 ht
          injection ht with h3 ht
          subst ht
          exact⟨hi1,by rw[hw1];exact hs.mono (by omega),t1,ls1,hc1,hl1,hlen⟩
        · rename_i hnm
          injection ht with h1 ht
          injection ht with h3 ht
          subst ht
          have h0:isV v.value (ls1.getD 0 0)=0:=by omega
          refine⟨hi1.assign (hl1.get (by omega)) (by rw[hval1];exact F9 h0) _,?_,⟨t1.learned,t1.heat,t1.phase,t1.limits,t1.head,t1.broken,t1.model,t1.trace,t1.many,t1.room,t1.wlen,t1.cl⟩,ls1,hc1,hl1,hlen⟩
          show Df (B+1) v1.watches
          rw[hw1]
          exact hs.mono (by omega)
def setW(v:Sv)(W:List (List Nat)):Sv:={ v with watches:=W }
def HB(v:Sv)(l:Int)(ls:List Int)(b:Bool×Bool):Option Int:=
 if b.2=true then none else
 let ls1:=if ls.getD 0 0=l then Ap ls 0 1 else ls
 if 0<isV v.value (ls1.getD 0 0)then none else
 (Cg v.value (ls1.drop 2) 2).map fun i=>ls1.getD i 0
def oG(W:List (List Nat))(c:Nat):Option Int→List (List Nat)
 | none=>W
 | some y=>Cx W (place y) c
theorem VA      (v : Sv) (c : Nat) (l : Int) (ls : List Int) (b : Bool × Bool) (W : List (List Nat)) :
    (AZ v c l ls b).2.2.watches=oG v.watches c (HB v l ls b) ∧
    AZ (setW v W) c l ls b=((AZ v c l ls b).1,(AZ v c l ls b).2.1,setW (AZ v c l ls b).2.2 (oG W c (HB v l ls b)))∧((HB v l ls b).isSome=true→(AZ v c l ls b).1=false):=by
  unfold AZ HB
  by_cases hb:b.2=true
  · rw[if_pos hb,if_pos hb,if_pos hb];exact⟨rfl,rfl,fun h=>rfl⟩
  · rw[if_neg hb,if_neg hb,if_neg hb]
    dsimp only
    generalize (if ls.getD 0 0=l then Ap ls 0 1 else ls)=ls1
    by_cases hp:0<isV v.value (ls1.getD 0 0)
    · have hp':0<isV (setW v W).value (ls1.getD 0 0):=hp
      rw[if_pos hp,if_pos hp,if_pos hp'];exact⟨rfl,rfl,fun h=>by cases h⟩
    · have hp':¬ 0<isV (setW v W).value (ls1.getD 0 0):=hp
      rw[if_neg hp,if_neg hp,if_neg hp']
      have hv:(setW v W).value=v.value:=rfl
      rw[hv]
      cases hm:Cg v.value (ls1.drop 2) 2 with
      | some i=>exact⟨rfl,rfl,fun h=>rfl⟩
      | none =>
        dsimp only
        by_cases hn:isV v.value (ls1.getD 0 0)<0
        · simp only[if_pos hn];exact⟨rfl,rfl,fun h=>by cases h⟩
        · simp only[if_neg hn];exact⟨rfl,rfl,fun h=>by cases h⟩
theorem Jd{val:List Int}:∀ {l:List Int}{k i:Nat},Cg val l k=some i→∃y,l[i - k]? = some y∧k≤i∧0≤isV val y
 | [],k,i,h=>by cases h
 | x::l,k,i,h=>by
  unfold Cg at h
  split at h
  ·rename_i hx
   injection h with h;subst h;exact⟨x,by rw[rJ];rfl,qI _,hx⟩
  ·obtain⟨y,h1,h2,h3⟩:=Jd h
   refine⟨y,?_,by omega,h3⟩
   rw[show i - k=(i - (k+1))+1 by omega]
   exact h1
theorem Vu        {v : Sv} {l : Int} {ls : List Int} {b : Bool × Bool} {y : Int} (h : HB    v l ls b = some y) : 0 ≤ isV v.value y := by
  unfold HB at h
  split at h
  · cases h
  · dsimp only at h
    generalize (if ls.getD 0 0=l then Ap ls 0 1 else ls)=ls1 at h
    split at h
    · cases h
    · cases hm:Cg v.value (ls1.drop 2) 2 with
      | none=>rw[hm]at h;cases h
      | some i =>
        rw[hm]at h
        injection h with h
        obtain⟨z,h1,h2,h3⟩:=Jd hm
        rw[qk,show 2+(i - 2)=i by omega]at h1
        have:ls1.getD i 0=z:=by rw[qe,h1];rfl
        rw[← h]
        dsimp only
        rw[this]
        exact h3
theorem eq{W:List (List Nat)}{w k c:Nat}{M:List Nat}(h:k≠w):Cx (W.set w M) k c=(Cx W k c).set w M:=by
 unfold Cx
 have:(W.set w M).getD k []=W.getD k []:=by
  rw[qe,qe,qc,if_neg (fun e=>h e.symm)]
 rw[this,List.set_comm _ _ (fun e=>h e.symm)]
def WL(n:Nat)(v:Sv)(L:List Nat):Prop:=∀c∈L,∃ls b,v.cl c=some (ls,b)∧A9 n ls∧2≤ls.length
theorem bN{n:Nat}{v:Sv}{l:Int}(hl:isV v.value l<0){ls:List Int}{b:Bool×Bool}{y:Int}(hl0:l≠0)(hy0:y≠0)(h:HB v l ls b=some y):place y≠place l:=fun e=>by
 have:=Vu h
 have e:=EQ hy0 hl0 e
 rw[e]at this
 omega
theorem Vt        {n : Nat} {v : Sv} {l : Int} {ls : List Int} {b : Bool × Bool} {y : Int} (hc : A9    n ls) (h2 : 2 ≤ ls.length) (h : HB    v l ls b = some y) : y ∈ ls := by
  unfold HB at h
  split at h
  · cases h
  · dsimp only at h
    have hsub:∀y,y∈(if ls.getD 0 0=l then Ap ls 0 1 else ls)→y∈ls:=fun y hy=>by
      split at hy
      · exact QF (by omega) (by omega) hy
      · exact hy
    generalize (if ls.getD 0 0=l then Ap ls 0 1 else ls)=ls1 at h hsub
    split at h
    · cases h
    · cases hm:Cg v.value (ls1.drop 2) 2 with
      | none=>rw[hm]at h;cases h
      | some i =>
        rw[hm]at h
        injection h with h
        have hi:=Id hm
        rw[rB]at hi
        rw[← h]
        exact hsub _ (qL (AR (by omega)))
theorem Ml{n:Nat}{v:Sv}{c:Nat}{l:Int}{ls:List Int}{b:Bool×Bool}(hl:isV v.value l<0)(hl0:l≠0)(hc:A9 n ls)(h2:2≤ls.length)(M:List Nat):
  AZ (setW v (v.watches.set (place l) M)) c l ls b=((AZ v c l ls b).1,(AZ v c l ls b).2.1,setW (AZ v c l ls b).2.2 ((AZ v c l ls b).2.2.watches.set (place l) M))∧(AZ v c l ls b).2.2.watches[place l]? = v.watches[place l]? := by
 obtain⟨h1,h3,_⟩:=VA v c l ls b (v.watches.set (place l) M)
 rw[h3,h1]
 cases hm:HB v l ls b with
 | none=>exact⟨rfl,rfl⟩
 | some y =>
  have hne:=bN (n:=n) hl hl0 (hc.1 y (Vt hc h2 hm)).1 hm
  refine⟨?_,?_⟩
  ·show(_,_,setW _ (Cx (v.watches.set (place l) M) (place y) c))=_
   rw[eq hne];rfl
  ·show(v.watches.set _ _)[_]? = _
   rw[qc,if_neg hne]
def CV(W:List (List Nat)):Nat:=(W.map List.length).sum
theorem CV.set{W:List (List Nat)}:∀ {k:Nat}{L:List Nat}(M:List Nat),W[k]? = some L→CV (W.set k M)+L.length=CV W+M.length:=by
 induction W with
 | nil=>intro k L M h;simp at h
 | cons A W ih =>
  intro k L M h
  cases k with
  | zero =>
   have:A=L:=by simpa using h
   subst this
   simp[CV];omega
  | succ k =>
   have:=ih (k:=k) M (by simpa using h)
   simp[CV]at *;omega
theorem CV.le{W:List (List Nat)}{L:List Nat}(h:L∈W):L.length≤CV W:=by
 obtain⟨k,hk,hL⟩:=rU h
 have:=CV.set (W:=W) (k:=k) (L:=L) [] (by rw[qP hk,hL])
 have h0:([]:List Nat).length=0:=rfl
 omega
theorem CV.put(W:List (List Nat))(k c:Nat):CV (Cx W k c)≤CV W+1:=by
  unfold Cx
  rcases qN k W.length with h | h
  · have hg := AR       (d := ([] : List Nat)) h
    have:=CV.set (W.getD k []++[c]) hg
    rw[qM]at this
    have h1:[c].length=1:=rfl
    omega
  · rw[List.set_eq_of_length_le h];omega
theorem CV.short{W:List (List Nat)}(h:CV W≤100000000):Ky W:=fun L hL=>qV (CV.le hL) h
theorem CV.shortN(W:List (List Nat)):Df (CV W) W:=fun L hL=>CV.le hL
theorem Ny(v:Sv)(c:Nat)(l:Int)(ls:List Int)(b:Bool×Bool):CV (AZ v c l ls b).2.2.watches+(if (AZ v c l ls b).1=true then 1 else 0)≤CV v.watches+1:=by
 obtain⟨h1,_,h3⟩:=VA v c l ls b []
 rw[h1]
 cases hm:HB v l ls b with
 | none=>show CV v.watches+_≤_;split<;>omega
 | some y =>
  rw[hm]at h3
  rw[h3 rfl]
  have:=CV.put v.watches (place y) c
  show CV (Cx _ _ _)+0≤_
  omega
def A1(l:Int):List Nat→List Nat→Sv→List Nat×Option Nat×Sv
 | [],K,v=>(K,none,v)
 | c::rest,K,v=>match v.cl c with
  | none=>(K,none,v)
  | some (ls,b) =>
   let r:=AZ v c l ls b
   let K':=if r.1=true then K++[c]else K
   if r.2.1=true then (K'++rest,some c,r.2.2)else A1 l rest K' r.2.2
theorem HM{n:Nat}{v v':Sv}{c:Nat}(t:Kf v v' c)(hc:∃ls b,v'.cl c=some (ls,b)∧A9 n ls∧2≤ls.length){L:List Nat}(h:WL n v L):WL n v' L:=fun d hd=>by
 by_cases e:d=c
 ·rw[e];exact hc
 ·rw[t.cl d e];exact h d hd
theorem KV          {n : Nat} {v : Sv} (h : A7   n v) {c : Nat} {l y : Int} {ls : List Int} {b : Bool × Bool} (hy : isV v.value y ≠ 0) (hcl : A9    n ls) (h2 : 2 ≤ ls.length) : isV (AZ     v c l ls b).2.2.value y = isV v.value y := by
  unfold AZ
  split
  · rfl
  · dsimp only
    have hl1:A9 n (if ls.getD 0 0=l then Ap ls 0 1 else ls)∧(if ls.getD 0 0=l then Ap ls 0 1 else ls).length=ls.length:=by
      split
      · exact⟨hcl.swap (by omega) (by omega),DH _ _ _⟩
      · exact⟨hcl,rfl⟩
    generalize (if ls.getD 0 0=l then Ap ls 0 1 else ls)=ls1 at hl1
    split
    · rfl
    · rename_i hp
      cases hm:Cg v.value (ls1.drop 2) 2 with
      | some i=>rfl
      | none =>
        dsimp only
        split
        · rfl
        · rename_i hn
          have h0:isV v.value (ls1.getD 0 0)=0:=by omega
          have h0':=F9 h0
          show isV (v.value.set (ls1.getD 0 0).natAbs _) y=_
          have hlt:(ls1.getD 0 0).natAbs<v.value.length:=by
            have:=(hl1.1.get (k:=0) (by omega)).2
            rw[h.fit.siz.value];omega
          have hne:y.natAbs≠(ls1.getD 0 0).natAbs:=fun e=>by
            apply hy
            unfold isV
            rw[e,h0']
            split<;>rfl
          unfold isV
          rw[F5 hlt,if_neg hne]
theorem A7.setW{n:Nat}{v:Sv}(h:A7 n v){k:Nat}{M:List Nat}(hM:WL n v M):A7 n (setW v (v.watches.set k M)):=by
 obtain⟨⟨hz,hv,hli,hlm⟩,g2,g3,g4,g5⟩:=h
 refine⟨⟨⟨hz.small,by show(List.set _ _ _).length=_;rw[qQ];exact hz.w,hz.value,hz.level,hz.why,hz.heat,hz.phase,hz.trail,hz.limits⟩,hv,hli,hlm⟩,g2,g3,g4,fun L hL=>?_⟩
 rcases rT hL with h' | h'
 ·exact g5 L h'
 ·rw[h'];exact hM
structure kQ(n:Nat)(l:Int)(v v':Sv)(K':List Nat):Prop where
 inv:A7 n v'
 wl:WL n v' K'
 w:v'.watches[place l]? = v.watches[place l]?
 wlen:v'.watches.length=v.watches.length
 limits:v'.limits=v.limits
 head:v'.head=v.head
theorem Fk          {n : Nat} {l : Int} (hl0 : l ≠ 0) : ∀ (rest K : List Nat) (v : Sv), A7   n v → WL n v K → WL n v rest → isV v.value l < 0 →
    kQ n l v (A1 l rest K v).2.2 (A1 l rest K v).1∧CV (A1 l rest K v).2.2.watches+(A1 l rest K v).1.length≤CV v.watches+K.length+rest.length
  | [],K,v,hi,hK,hr,hf=>⟨⟨hi,hK,rfl,rfl,rfl,rfl⟩,by show CV v.watches+K.length≤CV v.watches+K.length+0;omega⟩
  | c::rest,K,v,hi,hK,hr,hf=>by
    obtain⟨ls,b,hc,hcl,h2⟩:=hr c qR
    have hti:=J9 hi (CV.shortN _) hc hcl h2 (l:=l) (a:=(AZ v c l ls b).1) (f:=(AZ v c l ls b).2.1) (v':=(AZ v c l ls b).2.2) rfl
    obtain⟨t1,t2,t3,ls',t4,t5,t6⟩:=hti
    have htot:=Ny v c l ls b
    have hw:=(Ml (c:=c) (b:=b) hf hl0 hcl h2 []).2
    have hfl:isV (AZ v c l ls b).2.2.value l<0:=by rw[KV hi (by omega) hcl h2];exact hf
    have hcc:∃ls1 b1,(AZ v c l ls b).2.2.cl c=some (ls1,b1)∧A9 n ls1∧2≤ls1.length:=⟨ls',b,t4,t5,by omega⟩
    have hr':WL n (AZ v c l ls b).2.2 rest:=HM t3 hcc fun d hd=>hr d (qS _ hd)
    have hK':WL n (AZ v c l ls b).2.2 K:=HM t3 hcc hK
    have hK2:WL n (AZ v c l ls b).2.2 (if (AZ v c l ls b).1=true then K++[c]else K):=by
      split
      · intro d hd
        rcases List.mem_append.1 hd with hd | hd
        · exact hK' d hd
        · rw[List.mem_singleton.1 hd];exact hcc
      · exact hK'
    have hKl:(if (AZ v c l ls b).1=true then K++[c]else K).length=K.length+(if (AZ v c l ls b).1=true then 1 else 0):=by
      split
      · rw[qM];rfl
      · rfl
    unfold A1
    rw[hc]
    dsimp only
    generalize (if (AZ v c l ls b).1=true then K++[c]else K)=K' at hK2 hKl
    generalize (if (AZ v c l ls b).1=true then 1 else 0)=d at hKl htot
    have hcl:(c::rest).length=rest.length+1:=rfl
    by_cases hff:(AZ v c l ls b).2.1=true
    · rw [if_pos hff]
      refine⟨⟨t1,fun d hd=>?_,hw,t3.wlen,t3.limits,t3.head⟩,?_⟩
      · rcases List.mem_append.1 hd with hd | hd
        · exact hK2 d hd
        · exact hr' d hd
      · show CV (AZ v c l ls b).2.2.watches+(K'++rest).length≤_
        rw[qM]
        omega
    · rw[if_neg hff]
      obtain⟨k1,k2⟩:=Fk hl0 rest K' _ t1 hK2 hr' hfl
      exact⟨⟨k1.inv,k1.wl,k1.w.trans hw,k1.wlen.trans t3.wlen,k1.limits.trans t3.limits,k1.head.trans t3.head⟩,by omega⟩
theorem md{s:AF}{t:TypeId}{z:Nat}{x:AV}:AX (s.next+1) (newObj s (AO t z [x])) (.slice (some (s.next,0)) 1 (some 1)) [x]:=by
 obtain⟨r,h1,h2,_⟩:=Br t z [x]
 refine⟨_,_,rfl,fun k u hk=>⟨s.next,0,rfl,by omega,?_⟩⟩
 have hk0:=Ag hk
 rw[qU]
 exact B1 (show(newObj s (AO t z [x])).heap.get s.next=some (.row r) by rw[AQ,if_pos rfl,h1]) (by rw[h2.1];exact hk0) (h2.2 k u hk)
theorem cQ       {v : Sv} {c : Nat} {l : Int} {ls : List Int} {b : Bool × Bool} (h : (AZ     v c l ls b).2.1 = true) : (AZ     v c l ls b).1 = true := by
  unfold AZ at *
  split
  · rename_i hb;rw[if_pos hb]at h;cases h
  · rename_i hb
    rw[if_neg hb]at h
    dsimp only at *
    generalize (if ls.getD 0 0=l then Ap ls 0 1 else ls)=ls1 at h
    split
    · rfl
    · rename_i hb
      rw[if_neg hb]at h
      split
      · rename_i i hm;rw[hm]at h;cases h
      · rename_i hm
        rw[hm]at h
        dsimp only at h
        split
        · rfl
        · rename_i hn;rw[if_neg hn]at h
theorem mW{ow ow':Ow}{s s':AF}{p:Nat}{x:Sf}{v:Sv}(h:Ah ow s p x v)(k:AH (fun _=>False) ow s ow' s'){j:Nat}(hj:j<v.watches.length){xw:AV}(hx:x.w=xw):AD Try.prog s' 89 (BA xw j)=AD Try.prog s 89 (BA xw j):=by
 have:=(HK.ofB (x':=x) (v':=v) h (k.mono fun _ q=>q.elim) rfl).2 j hj rfl
 rw[hx]at this
 exact this
theorem NH:∀ (L:List Nat),Ak (Em L)=true
 | []=>rfl
 | c::L=>NH L
theorem cO{E:BN}(hE:Good E){ow:Ow}{s:AF}{p:Nat}{x:Sf}{v:Sv}{w:Nat}{M:List Nat}(h:Ah ow s p x (setW v (v.watches.set w M))){n:Nat}(hi:A7 n v)(hM:WL n v M)(hw:w<v.watches.length)(hs:CV v.watches+M.length≤100000000){c:Nat}{ls:List Int}{b:Bool×Bool}(hc:v.cl c=some (ls,b))(hl:A9 n ls)(h2:2≤ls.length){l:Int}(hl0:l≠0)(hwl:w=place l)(hf:isV v.value l<0){u:AV}(hu:AD Try.prog s 89 (BA x.w w)=some u):
  WF E 92 [AK p,AK c,iv l] (fun r s'=>∃ow' x',r=.tuple [.bool (AZ v c l ls b).1,.bool (AZ v c l ls b).2.1]∧Ah ow' s' p x' (setW (AZ v c l ls b).2.2 ((AZ v c l ls b).2.2.watches.set w M))∧AH (Bb p) ow s ow' s'∧x'.w=x.w∧AD Try.prog s' 89 (BA x.w w)=some u) s:=by
 subst hwl
 have hi':=hi.setW (k:=place l) hM
 have hsh:Ky (setW v (v.watches.set (place l) M)).watches:=by
  refine CV.short (qV ?_ hs)
  have:=CV.set M (AR (d:=([]:List Nat)) hw)
  show CV (v.watches.set _ _)≤_
  omega
 refine(cR hE h hi'.fit hsh (c:=c) (ls:=ls) (b:=b) hc hl h2 l).mono ?_
 rintro _ s' ⟨a,f,v',ow',x',h1,rfl,h3,h4,h5,h6⟩
 obtain⟨t1,t2⟩:=Ml (n:=n) (c:=c) (b:=b) hf hl0 hl h2 M
 rw[t1]at h1
 injection h1 with h1 h7
 injection h7 with h7 h8
 subst h1;subst h7;subst h8
 refine⟨ow',x',rfl,h3,h4,h5,?_⟩
 rw[h6 (place l) (by show place l<(v.watches.set _ _).length;rw[qQ];exact hw) ?_]
 ·exact hu
 ·show((AZ v c l ls b).2.2.watches.set _ _)[_]? = (v.watches.set _ _)[_]?
  rw[qc,qc,if_pos rfl,if_pos rfl,if_pos hw,if_pos]
  have hg:=AR (d:=([]:List Nat)) hw
  rw[← t2]at hg
  exact Ag hg
theorem ee      {E : BN}  (hE : Good E) {p n w : Nat} {l : Int} (hl0 : l ≠ 0) (hwl : w = place l) {L : List Nat} {u xw : AV} {B : Nat} (hB : B ≤ 50000000) (hLB : L.length ≤ B) (r1 x10 x17 : AV) {Q : A0   → Prop} {ow0 : Ow} {s0 : AF}  :
    ∀ (rest:List Nat) (k:Nat) (K:List Nat) (s:AF) (ow:Ow) (x:Sf) (v:Sv) (x6 x7 x8 x9 x14 x15 x16:AV),L.drop k=rest→K.length≤k→k≤L.length→AH (Bb p) ow0 s0 ow s→Ah ow s p x (setW v (v.watches.set w (K++L.drop K.length)))→x.w=xw→AD Try.prog s 89 (BA xw w)=some u→w<v.watches.length →
      A7 n v→WL n v K→WL n v L→isV v.value l<0→CV v.watches+K.length+rest.length≤B →
      (∀s' ow' x' M y6 y7 y8 y9 y13 y14 y15 y16,Ah ow' s' p x' (setW (A1 l rest K v).2.2 ((A1 l rest K v).2.2.watches.set w M))→x'.w=xw→Bc ow' (p,2,w) s' (Fg u (A1 l rest K v).1.length) (Em (A1 l rest K v).1)→AH (Bb p) ow0 s0 ow' s' →
        Q ⟨.exit 2,[AK p,r1,iv l,u,Fg u (A1 l rest K v).1.length,HN (A1 l rest K v).2.1,y6,y7,y8,y9,x10,u,iv (L.length:Int),y13,y14,y15,y16,x17],[],s'⟩) →
      WC E none (.loop LM) Q [AK p,r1,iv l,u,Fg u K.length,.ptr none,x6,x7,x8,x9,x10,u,iv (L.length:Int),iv (k:Int),x14,x15,x16,x17] [] s:=by
  intro rest
  induction rest with
  | nil =>
    intro k K s ow x v x6 x7 x8 x9 x14 x15 x16 hd hKk hk hst h hxw hu hw hi hK hr hf ht hq
    have hkl:=CH hd hk
    subst hkl
    refine WC.loop' ?_
    simp only[LM,ZG,qd,decide_false,Qa,Qb,Qc,Qd,Qf,Qh,Qj,Qm,Qn,true_and,Qo,Qp,Qq,Qr,Qs,Qv,Qw,Qy,Qz,Rb,Rq]
    obtain⟨u',w1,w2,w3⟩:=h.watch_buf (k:=w) (L:=K++L.drop K.length) (by show(v.watches.set _ _)[_]? = _;rw[qc,if_pos rfl,if_pos hw])
    rw[hxw]at w2
    rw[hu]at w2
    injection w2 with w2
    subst w2
    have hb:=w3.kept (m:=K.length) (by rw[qK];exact(List.prefix_append ..).length_le)
    rw[← rS,qm (qI _),qr]at hb
    exact hq s ow x _ _ _ _ _ _ _ _ _ h hxw hb hst
  | cons c rest ih =>
    intro k K s ow x v x6 x7 x8 x9 x14 x15 x16 hd hKk hk hst h hxw hu hw hi hK hr hf ht hq
    obtain⟨hlt,hcL,hd'⟩:=Be hd
    obtain⟨ls,b,hc,hcl,h2⟩:=hr c (qL hcL)
    have hkk:decide ((k:Int)<(L.length:Int))=true:=decide_eq_true (by omega)
    have e3:=Ai Try.prog 3 (k:Int) 1 ⟨by omega,by omega⟩
    have hcast:((k:Int)+1)=((k+1:Nat):Int):=by omega
    have hML:(K++L.drop K.length).length=L.length:=by rw[qM,rB];omega
    obtain⟨u',w1,w2,w3⟩:=h.watch_buf (k:=w) (L:=K++L.drop K.length) (by show(v.watches.set _ _)[_]? = _;rw[qc,if_pos rfl,if_pos hw])
    rw[hxw]at w2
    rw[hu]at w2
    injection w2 with w2
    subst w2
    have hMk:(K++L.drop K.length)[k]? = some c:=by
      rw[qY hKk,qk,show K.length+(k - K.length)=k by omega]
      exact hcL
    have hMk':(Em (K++L.drop K.length))[k]? = some (AK c):=by rw[qs,hMk];rfl
    have i1:=w3.addr Try.underlying89 E5 (k:=k) (by rw[qK,hML];exact hlt)
    have i2:=w3.get (t:=92) K0 hMk'
    have hMw:WL n v (K++L.drop K.length):=fun d hd=>by
      rcases List.mem_append.1 hd with hd | hd
      · exact hK d hd
      · exact hr d (sA hd)
    have hrl:(c::rest).length=rest.length+1:=rfl
    have hti:=J9 hi (CV.shortN _) hc hcl h2 (l:=l) (a:=(AZ v c l ls b).1) (f:=(AZ v c l ls b).2.1) (v':=(AZ v c l ls b).2.2) rfl
    obtain⟨t1,t2,t3,ls',t4,t5,t6⟩:=hti
    have hcc:∃ls1 b1,(AZ v c l ls b).2.2.cl c=some (ls1,b1)∧A9 n ls1∧2≤ls1.length:=⟨ls',b,t4,t5,by omega⟩
    have htot:=Ny v c l ls b
    have hfl:isV (AZ v c l ls b).2.2.value l<0:=by rw[KV hi (by omega) hcl h2];exact hf
    refine WC.loop' ?_
    generalize hW:WC E none (Ac.loop LM) Q=W
    simp only[LM,ZG,iI,hkk,i1,i2,Y8,Qa,Qb,Qc,Qd,Qf,Qh,Qj,Qk,Qm,Qn,true_and,Qo,Qp,Qq,Qr,Qs,Qu,Qw,Qy,Qz,Rb,Rp,Rq]
    refine(cO hE h hi hMw hw (by rw[hML];omega) hc hcl h2 hl0 hwl hf (by rw[hxw];exact hu)).mono ?_
    rintro _ s1 ⟨ow1,x1,rfl,g1,g2,g3,g4⟩
    have hpi:A1 l (c::rest) K v=(if (AZ v c l ls b).2.1=true then ((if (AZ v c l ls b).1=true then K++[c]else K)++rest,some c,(AZ v c l ls b).2.2)else A1 l rest (if (AZ v c l ls b).1=true then K++[c]else K) (AZ v c l ls b).2.2):=by
      conv=>lhs;unfold A1
      rw[hc]
    rw[hpi]at hq
    rw[hxw]at g3 g4
    generalize hv1:(AZ v c l ls b).2.2=v1 at *
    have hw1:w<v1.watches.length:=by rw[t3.wlen];exact hw
    have hK1:WL n v1 K:=HM t3 hcc hK
    have hr1:WL n v1 L:=HM t3 hcc hr
    have hstep:=hst.trans g2
    have hsingle:∀s':AF,s'.next=s'.next:=fun _=>rfl
    have bl:=Ck (P:=Try.prog) (t:=89) (v:=AK c) Try.underlying89 E5 UE rfl rfl
    have hms:∀ (m:Nat) (i:Nat),Made.val i (.slice m)=.slice (some (i,0)) m (some m):=fun _ _=>rfl
    cases ha:(AZ v c l ls b).1 with
    | false =>
      have hfb:(AZ v c l ls b).2.1=false:=by
        cases hfb:(AZ v c l ls b).2.1 with
        | false=>rfl
        | true=>exact absurd (cQ hfb) (by rw[ha];decide)
      rw[ha,hfb]at hq
      rw[ha]at htot
      have hq:=hq
      simp only[Bool.false_eq_true,if_false]at hq htot
      simp only[hfb,ON,OO,Sn,e3,hcast,Qb,Qc,Qd,Qf,Qh,Qi,Qj,Qk,Qm,Qn,true_and,Qo,Qp,Qq,Qr,Qs,Qv,Yd,Ye]
      rw[← hW]
      exact ih (k+1) K s1 ow1 x1 v1 _ _ _ _ _ _ _ hd' (by omega) hlt hstep g1 g3 g4 hw1 t1 hK1 hr1 hfl (by omega) hq
    | true =>
      rw[ha]at hq htot
      simp only[if_true]at hq htot
      have hst2:AH (fun _=>False) ow1 s1 (ext ow1 s1.next (0,0,0)) (newObj s1 (AO 92 1 [AK c])):=AH.new _ ow1 s1 _ _
      have d2:=g1.keep hst2 (fun _ q=>q.elim)
      have hlw:w<(setW v1 (v1.watches.set w (K++L.drop K.length))).watches.length:=by show w<(v1.watches.set _ _).length;rw[qQ];exact hw1
      have g4':AD Try.prog (newObj s1 (AO 92 1 [AK c])) 89 (BA xw w)=some u:=by
        rw[mW g1 hst2 hlw g3]
        exact g4
      obtain⟨u',q1,q2,q3⟩:=d2.watch_buf (k:=w) (L:=K++L.drop K.length) (by show(v1.watches.set _ _)[_]? = _;rw[qc,if_pos rfl,if_pos hw1])
      rw[g3,g4']at q2
      injection q2 with q2
      subst q2
      obtain⟨s3,a1,a2,a3,a4⟩:=q3.kept_put (st:=89) (e:=92) Try.underlying89 E5 W1 (by decide) RE (by rw[qK,hML];omega) (m:=K.length) (add:=[AK c]) (by rw[qK,hML];show K.length+1≤_;omega) rfl md
      have hbuf:List.take K.length (Em (K++L.drop K.length))++[AK c]++List.drop (K.length+[AK c].length) (Em (K++L.drop K.length))=Em ((K++[c])++L.drop (K++[c]).length):=by
        show _++_++List.drop (K.length+1) _=_
        rw[← rS,← rW,qm (qI _),qr,rq,rL,qM,rz (show K.length≤K.length+1 by omega),qo,show K.length+(K.length+1 - K.length)=K.length+[c].length by show _=K.length+1;omega]
        simp[Em]
      rw[hbuf]at a2
      obtain⟨b1,b2⟩:=d2.watch_put (k:=w) (L:=K++L.drop K.length) (L':=(K++[c])++L.drop (K++[c]).length) (by show(v1.watches.set _ _)[_]? = _;rw[qc,if_pos rfl,if_pos hw1]) (by rw[g3];exact g4') a2 a3 a4
      have b1':Ah (ext ow1 s1.next (0,0,0)) s3 p x1 (setW v1 (v1.watches.set w ((K++[c])++L.drop (K++[c]).length))):=by
        have e:(v1.watches.set w (K++L.drop K.length)).set w ((K++[c])++L.drop (K++[c]).length)=v1.watches.set w ((K++[c])++L.drop (K++[c]).length):=List.set_set ..
        have:Ah (ext ow1 s1.next (0,0,0)) s3 p x1 (setW v1 ((v1.watches.set w (K++L.drop K.length)).set w ((K++[c])++L.drop (K++[c]).length))):=b1
        rw[e]at this
        exact this
      rw[g3]at b2
      have hstep3:AH (Bb p) ow0 s0 (ext ow1 s1.next (0,0,0)) s3:=(hstep.trans (hst2.mono fun _ q=>q.elim)).trans (a3.mono fun t ht=>by rw[ht];rfl)
      have hK3:WL n v1 (K++[c]):=fun d hd=>by
        rcases List.mem_append.1 hd with hd | hd
        · exact hK1 d hd
        · rw[List.mem_singleton.1 hd];exact hcc
      have hKl:(K++[c]).length=K.length+1:=by rw[qM];rfl
      cases hfb:(AZ v c l ls b).2.1 with
      | false =>
        rw[hfb]at hq
        simp only[Bool.false_eq_true,if_false]at hq
        have a1':Af Try.prog (newObj s1 (AO 92 1 [AK c])) [89,89] [Fg u K.length,.slice (some (s1.next,0)) 1 (some 1)]=some (Fg u (K++[c]).length,s3):=by rw[hKl];exact a1
        simp only[AK]at bl a1'
        simp only[ON,Sm,OO,Sn,AK,bl,hms,a1',e3,hcast,Qb,Qc,Qd,Qf,Qh,Qi,Qj,Qk,Qm,Qn,true_and,Qo,Qp,Qq,Qr,Qs,Qu,Qv,Yc,Yd,Ye]
        rw[← hW]
        exact ih (k+1) (K++[c]) s3 _ x1 v1 _ _ _ _ _ _ _ hd' (by omega) hlt hstep3 b1' g3 b2 hw1 t1 hK3 hr1 hfl (by omega) hq
      | true =>
        rw[hfb]at hq
        simp only[if_true]at hq
        have a1':Af Try.prog (newObj s1 (AO 92 1 [AK c])) [89,89] [Fg u K.length,.slice (some (s1.next,0)) 1 (some 1)]=some (Fg u (K++[c]).length,s3):=by rw[hKl];exact a1
        have hML2:((K++[c])++L.drop (K++[c]).length).length=L.length:=by rw[qM,rB];omega
        obtain⟨r1',r2'⟩:=a2.rest Try.underlying89 E5 (k:=k+1) (by rw[qK,hML2];omega)
        have hdrop:List.drop (k+1) (Em ((K++[c])++L.drop (K++[c]).length))=Em rest:=by
          rw[← rW,rq,rz (by omega),qo,rL,show(K++[c]).length+(k+1 - (K++[c]).length)=k+1 by omega,hd']
        rw[hdrop]at r2'
        have hrk:rest.length=L.length - (k+1):=by rw[← hd',rB]
        obtain⟨s4,f1,f2,f3,f4⟩:=a2.kept_put (st:=89) (e:=92) Try.underlying89 E5 W1 (by decide) RE (by rw[qK,hML2];omega) (m:=(K++[c]).length) (add:=Em rest) (by rw[qK,qK,hML2];omega) (NH rest) r2'
        have hbuf2:List.take (K++[c]).length (Em ((K++[c])++L.drop (K++[c]).length))++Em rest++List.drop ((K++[c]).length+(Em rest).length) (Em ((K++[c])++L.drop (K++[c]).length))=Em ((K++[c])++rest++L.drop ((K++[c]).length+rest.length)):=by
          generalize K++[c]=K'
          have hr2:(Em rest).length=rest.length:=qK ..
          rw[← rS,← rW,qm (qI _),qr,hr2,rq,rz (show K'.length≤K'.length+rest.length by omega),qo,rL,show K'.length+(K'.length+rest.length - K'.length)=K'.length+rest.length by omega]
          simp[Em]
        rw[hbuf2]at f2
        obtain⟨e1,e2⟩:=b1'.watch_put (k:=w) (L:=(K++[c])++L.drop (K++[c]).length) (L':=(K++[c])++rest++L.drop ((K++[c]).length+rest.length)) (by show(v1.watches.set _ _)[_]? = _;rw[qc,if_pos rfl,if_pos hw1]) (by rw[g3];exact b2) f2 f3 f4
        have e1':Ah (ext ow1 s1.next (0,0,0)) s4 p x1 (setW v1 (v1.watches.set w ((K++[c])++rest++L.drop ((K++[c]).length+rest.length)))):=by
          have e:(v1.watches.set w ((K++[c])++L.drop (K++[c]).length)).set w ((K++[c])++rest++L.drop ((K++[c]).length+rest.length))=v1.watches.set w ((K++[c])++rest++L.drop ((K++[c]).length+rest.length)):=List.set_set ..
          have:Ah (ext ow1 s1.next (0,0,0)) s4 p x1 (setW v1 ((v1.watches.set w ((K++[c])++L.drop (K++[c]).length)).set w ((K++[c])++rest++L.drop ((K++[c]).length+rest.length)))):=e1
          rw[e]at this
          exact this
        simp only[AK]at bl a1'
        simp only[ON,Sm,OO,Y9,AK,bl,hms,a1',e3,hcast,r1',f1,Qb,Qc,Qd,Qf,Qh,Qi,Qj,Qk,Qm,Qn,true_and,Qo,Qp,Qq,Qr,Qs,Qu,Yc,Yd,Ye]
        have hrl2:(Em rest).length=rest.length:=qK ..
        have hlen:(K++[c]).length+(Em rest).length=(K++[c]++rest).length:=by rw[hrl2,← qM]
        have hb:=f2.kept (m:=(K++[c]++rest).length) (by rw[qK];exact(List.prefix_append ..).length_le)
        rw[← rS,qm (qI _),ry (qI _)]at hb
        rw[hlen]
        exact hq s4 _ x1 _ _ _ _ _ _ _ _ _ e1' g3 hb (hstep3.trans (f3.mono fun t ht=>by rw[ht];rfl))
end
end Go.Proofs.Ytilhhmkdcoajnaa.Am
