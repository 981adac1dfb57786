/- A loop over a map, in the model: whatever order is drawn, the abstract machine's rounds stand for it; conditions: told in 'CodeOk'. -/
import Derived.Maps.RangeRun
import Derived.Test.YtoaaclpjkelofaaGreatDoorAmM03
import Derived.ChangeSame
import Derived.Test.YtoaaclpjkelofaaGreatDoorAmM01
import Derived.Maps.Own
import Derived.Lib.SlMapMerge
import Derived.Test.YtoaaclpjkelofaaGreatDoorAmM02
set_option linter.all false
namespace Go.Proofs.YtoaaclpjkelofaaGreatDoor.Am
open Go
open Go.ChangeMaps (setBlock)
noncomputable section
mutual
theorem Cc.back{ρ σ:DV}(le:ρ.le σ){v:AV}{v' v0:Value}(h:Cc σ v v')(h0:Cc ρ v v0):Cc ρ v v':=by
 cases h with
 | bool b=>exact .bool b
 | int k n=>exact .int k n
 | str h=>exact .str h
 | ptrNil=>exact .ptrNil
 | ptr h=>cases h0 with
  | ptr k=>have:=le _ _ k;rw[h]at this;injection this with this;subst this;exact .ptr k
 | gptr g o=>exact .gptr g o
 | sliceNil=>exact .sliceNil
 | slice h hl=>cases h0 with
  | slice k _=>have:=le _ _ k;rw[h]at this;injection this with this;subst this;exact .slice k hl
 | sliceOpen h hs hl h1 h2=>cases h0 with
  | sliceOpen k _ _ _ _=>have:=le _ _ k;rw[h]at this;injection this with this;subst this;exact .sliceOpen k hs hl h1 h2
  | sliceEnd k _ _ _=>have:=le _ _ k;rw[h]at this;injection this with this;subst this;exact .sliceOpen k hs hl h1 h2
 | sliceEnd h hs h1 h2=>cases h0 with
  | sliceOpen k _ _ _ _=>have:=le _ _ k;rw[h]at this;injection this with this;subst this;exact .sliceEnd k hs h1 h2
  | sliceEnd k _ _ _=>have:=le _ _ k;rw[h]at this;injection this with this;subst this;exact .sliceEnd k hs h1 h2
 | mapNil=>exact .mapNil
 | map h=>cases h0 with
  | map k=>have:=le _ _ k;rw[h]at this;injection this with this;subst this;exact .map k
 | func ha hc=>cases h0 with
  | func ka kc=>exact .func (Cb.back le ha ka) (Cb.back le hc kc)
 | yield h=>cases h0 with
  | yield k=>have:=le _ _ k;rw[h]at this;injection this with this;subst this;exact .yield k
 | nilFunc=>exact .nilFunc
 | nilIface=>exact .nilIface
 | iface h=>cases h0 with
  | iface k=>exact .iface (Cc.back le h k)
 | agg h=>cases h0 with
  | agg k=>exact .agg (Cb.back le h k)
 | tuple h=>cases h0 with
  | tuple k=>exact .tuple (Cb.back le h k)
 | any h=>exact .any h
theorem Cb.back{ρ σ:DV}(le:ρ.le σ){v:List AV}{v' v0:List Value}(h:Cb σ v v')(h0:Cb ρ v v0):Cb ρ v v':=by
 cases h with
 | nil=>exact .nil
 | cons h hs=>cases h0 with
  | cons k ks=>exact .cons (Cc.back le h k) (Cb.back le hs ks)
end
theorem IA{σ:DV}{v:AV}{v':Value}(h:Dg v=true)(hv:Cc σ v v'):v'.cells.toList=[v']:=by
 cases hv<;>first | rfl | (cases h;done) | assumption
theorem Nn{a b:AV}(h:Fx a b=true):a=b:=by
 grind [Fx,HM]
def TE(X B:List AV):Prop:=X.length=B.length∧∀ (j:Nat)(x:AV),X[j]? = some x→B[j]? = some x∨Dg x=true∧B[j]? = some .junk
theorem TE.refl(X:List AV):TE X X:=⟨rfl,fun j x h=>.inl h⟩
theorem TE.trans{X Y Z:List AV}(h:TE X Y)(k:TE Y Z):TE X Z:=by
  refine⟨h.1.trans k.1,fun j x hx=>?_⟩
  rcases h.2 j x hx with h1 | ⟨h1,h2⟩
  · exact k.2 j x h1
  · rcases k.2 j _ h2 with h3 | ⟨_, h3⟩
    · exact .inr ⟨h1,h3⟩
    · exact .inr ⟨h1,h3⟩
theorem Q9:∀ {X B:List AV},Po X B=true→TE X B
 | [],[],_=>.refl _
 | x::l,b::m,h=>by
  simp only[Po,A9W]at h
  obtain⟨g1,g2⟩:=Q9 h.2
  refine⟨by simp[g1],fun j y hy=>?_⟩
  cases j with
  | zero =>
   simp at hy
   subst hy
   have h1:=h.1
   simp only[sE,A9X,A9W]at h1
   grind [Nn]
  | succ j=>grind
 | [],_::_,h=>by cases h
 | _::_,[],h=>by cases h
theorem SB:∀ {A X B:List AV},JM A X=some B→TE A B∧TE X B
  | [],[],B,h=>by injection h with h;subst h;exact⟨.refl _,.refl _⟩
  | a::l,x::m,B,h=>by
    unfold JM at h
    simp only[A8G]at h
    obtain⟨c,h1,r,h2,h3⟩:=h
    injection h3 with h3
    subst h3
    obtain⟨⟨g1,g2⟩,g3,g4⟩:=SB h2
    have hc:(c=a∨Dg a=true∧c=.junk)∧(c=x∨Dg x=true∧c=.junk):=by
      cases he:Fx a x with
      | true=>grind [Nn]
      | false =>
        rw[he]at h1
        obtain⟨h4,h5⟩:=CM h1
        grind
    refine⟨⟨by simp[g1],fun j y hy=>?_⟩,⟨by simp[g3],fun j y hy=>?_⟩⟩
    · grind
    grind
  | [],_::_,_,h=>by cases h
  | _::_,[],_,h=>by cases h
theorem No:∀ {a b:List Nat},HU a b=true→a=b
 | [],[],_=>rfl
 | a::l,b::m,h=>by
  simp only[HU,A9W]at h
  rw[A8R h.1,No h.2]
 | [],_::_,h=>by cases h
 | _::_,[],h=>by cases h
section
variable{P:Program}{ρ ρ1 ρ2:DV}{s s1 s2:CO}{w w1 w2:World}
theorem bE{fn:Func}{A X B:List AV}{t0 t1:Array Value}(h0:DF P ρ fn A t0)(h1:DF P ρ1 fn X t1)(le:ρ.le ρ1)(ha:TE A B)(hx:TE X B):DF P ρ fn B t1:=by
  refine⟨by rw[← ha.1];exact h0.len,fun t k hk=>?_,h1.size⟩
  obtain⟨_,a,k1,k2⟩:=h0.rel t k hk
  obtain⟨k3,x,k4,k5⟩:=h1.rel t k hk
  refine⟨k3,?_⟩
  rcases hx.2 k x k4 with e1 | ⟨e1,e2⟩
  · rcases ha.2 k a k1 with e3 | ⟨e3, e4⟩
    · grind [Cc.back]
    · rw[e4]at e1
      injection e1 with e1
      subst e1
      cases k5 with
      | any h=>exact⟨_,e4,.any h⟩
  · exact⟨_,e2,.any (IA e1 k5)⟩
theorem UW{v:AV}{v':Value}(hp:SZ v=true)(h:Cc ρ1 v v'):Cc ρ v v':=by
 cases h<;>first | (cases hp;done) | skip
 ·exact .bool _
 ·exact .int _ _
 ·rename_i h;exact .str h
theorem df:∀ {A X C:List AV},V4 A X=some C→X.length=C.length∧∀ (j:Nat)(x:AV),X[j]? = some x→∃c,C[j]? = some c∧(c=x∧(SZ x=true∨A[j]? = some x)∨c=.junk∧Dg x=true)
  | [],[],C,h=>by injection h with h;grind
  | a::l,x::m,C,h=>by
    unfold V4 at h
    simp only[A8G]at h
    obtain⟨c,h1,r,h2,h3⟩:=h
    injection h3 with h3
    subst h3
    obtain⟨g1,g2⟩:=df h2
    refine⟨by simp[g1],fun j y hy=>?_⟩
    cases j with
    | zero =>
      simp at hy
      subst hy
      refine⟨c,rfl,?_⟩
      cases hb:(SZ x || Fx a x)with
      | true =>
        rw[hb]at h1
        injection h1 with h1
        rw[A9X]at hb
        grind [Nn]
      | false =>
        grind [CM]
    | succ j=>grind
  | [],_::_,_,h=>by cases h
  | _::_,[],_,h=>by cases h
theorem qO{fn:Func}{A X C R:List AV}{t0 t1:Array Value}(h0:DF P ρ fn A t0)(h1:DF P ρ1 fn X t1)(le:ρ.le ρ1)(hc:V4 A X=some C)(hr:TE C R):DF P ρ fn R t1:=by
 obtain⟨g1,g2⟩:=df hc
 refine⟨by rw[← hr.1,← g1];exact h1.len,fun t k hk=>?_,h1.size⟩
 obtain⟨_,a,k1,k2⟩:=h0.rel t k hk
 obtain⟨k3,x,k4,k5⟩:=h1.rel t k hk
 refine⟨k3,?_⟩
 obtain⟨c,h2,h3⟩:=g2 k x k4
 rcases h3 with⟨rfl,h3⟩ | ⟨rfl,h3⟩
 ·have hx:Cc ρ c (t1.getD t undef):=by
   grind [UW,Cc.back]
  rcases hr.2 k c h2 with e | ⟨e1,e2⟩
  ·exact⟨_,e,hx⟩
  ·exact⟨_,e2,.any (IA e1 k5)⟩
 ·rcases hr.2 k _ h2 with e | ⟨_,e⟩<;>exact⟨_,e,.any (IA h3 k5)⟩
theorem qM{fn:Func}{A B:List AV}{t0:Array Value}(h0:DF P ρ fn A t0)(h:TE A B):DF P ρ fn B t0:=by
 refine⟨by rw[← h.1];exact h0.len,fun t k hk=>?_,h0.size⟩
 obtain⟨k3,a,k1,k2⟩:=h0.rel t k hk
 refine⟨k3,?_⟩
 rcases h.2 k a k1 with e | ⟨e1,e2⟩
 ·exact⟨_,e,k2⟩
 ·exact⟨_,e2,.any (IA e1 k2)⟩
theorem RZ:∀ {J:List Nat}{A B:List AV},RY J A=some B→TE A B
 | [],A,B,h=>by injection h with h;subst h;exact .refl _
 | j::l,A,B,h=>by
  unfold RY at h
  obtain⟨h1,h2⟩:=CM h
  refine TE.trans ⟨by rw[Iq,A9M],fun k x hx=>?_⟩ (RZ h2)
  grind [Ok,Iq]
theorem WN{fn:Func}{var:List AV}{tmps:Array Value}(h:DF P ρ fn var tmps){t:Tmp}{j:Nat}(hp:DM (Cu P fn) t=some j){v:AV}{v':Value}(hv:Cc ρ v v')(ht:t<tmps.size):DF P ρ fn (upd v var j) (tmps.setIfInBounds t v'):=by
 refine⟨by rw[Iq,A9M];exact h.len,fun u k hk=>?_,by rw[Array.size_setIfInBounds];exact h.size⟩
 obtain⟨g1,x,g2,g3⟩:=h.rel u k hk
 refine⟨by grind,?_⟩
 have hjl:j<var.length:=by rw[h.len];exact Gf hp
 by_cases e:u=t
 ·simp_all[Iq]
 ·have ejk:j≠k:=fun e'=>by grind [LN]
  simp_all[Iq,Ne.symm]
theorem N3{fn:Func}{var:List AV}{tmps:Array Value}(h:DF P ρ fn var tmps){t:Tmp}(hp:DM (Cu P fn) t=none)(v':Value):DF P ρ fn var (tmps.setIfInBounds t v'):=by
 refine⟨h.len,fun u k hk=>?_,by rw[Array.size_setIfInBounds];exact h.size⟩
 obtain⟨g1,x,g2,g3⟩:=h.rel u k hk
 refine⟨by grind,x,g2,?_⟩
 have e:u≠t:=fun e=>by grind
 simp_all[Ne.symm]
theorem UA:∀ {l:List Nat}{ds ds':List Deferred},ES ρ l ds→ES ρ1 l ds'→ρ.le ρ1→ds'=ds
 | [],ds,ds',h,h',_=>by
  have h:ds=[]:=h
  have h':ds'=[]:=h'
  rw[h,h']
 | i::l,ds,ds',⟨rb,d1,h1,h2,h3⟩,⟨rb',d2,k1,k2,k3⟩,le=>by
  have:=le _ _ h1
  rw[k1]at this
  injection this with this
  subst this
  rw[h2,k2,UA h3 k3 le]
theorem NK{n:Nat}{h:CT Cg}{i:Nat}{o:Cg}(hg:(frz n h).heap.get i=some o):∃o',h.get i=some o'∧MX o'=some o:=by
 grind [frz,CT.get_mapO,Option.bind_eq_some_iff]
theorem I2{o o':Cg}(h:MX o'=some o):wr o=false∧Hp o=Hp o'∧∀ {ρ:DV}{w:World}{rb:RB},Gq P ρ w o' rb→Gq P ρ w o rb:=by
 cases o' with
 | row r =>
  injection h with h
  subst h
  exact⟨rfl,rfl,fun {ρ w rb} hok=>by
   have hok:Dr ρ w r rb:=hok
   exact(show Dr ρ w { r with mode:=.ro,par:=none } rb from⟨hok.cells,hok.le,hok.sz,hok.tight,fun e=>absurd rfl e,hok.base,hok.gl,fun p e=>by cases e⟩)⟩
 | map kt es=>injection h with h;subst h;exact⟨rfl,rfl,fun hok=>hok⟩
 | mapRo kt es=>injection h with h;subst h;exact⟨rfl,rfl,fun hok=>hok⟩
 | loop l=>cases h
 | mark=>cases h
 | iter a b=>cases h
theorem DU.frz(h:DU P ρ s w)(n:Nat):DU P ρ (frz n s.heap) w:=by
 refine⟨fun i o rb hi hr=>?_,h.lt,fun i j oi oj ri rj hne hi hj hri hrj hb hw=>?_,fun i o g hi hg=>?_⟩
 ·obtain⟨o',h1,h2⟩:=NK hi
  exact(I2 h2).2.2 (h.obj i _ rb h1 hr)
 ·obtain⟨o',_,h2⟩:=NK hj
  rw[(I2 (P:=P) h2).1]at hw
  cases hw
 ·obtain⟨o',h1,h2⟩:=NK hi
  rw[(I2 (P:=P) h2).2.1]at hg
  exact h.glb i _ g h1 hg
theorem OV(Q0:Program)(n:Nat)(t:CT Cg)(b:Nat):¬ Hg ρ (frz n t) b:=by
 rintro⟨i,o,rb,h1,h2,_⟩
 obtain⟨o',_,h3⟩:=NK h1
 rw[(I2 (P:=Q0) h3).1]at h2
 cases h2
theorem DB.frz(h:DB ρ s):DB ρ (frz s.next s.heap):=fun i hi=>by
 refine⟨(h i hi).1,?_⟩
 unfold Am.frz
 simp only[CT.get_mapO]
 rw[(h i hi).2];rfl
structure Up(W:List Nat)(h h':CT Cg):Prop where
 inW:∀j∈W,h'.get j=h.get j∧∃r,h.get j=some (.row r)∧Fl r=true
 out:∀j,j ∉ W→h'.get j=(h.get j).bind MX
theorem GL{r:FP}(h:Fl r=true):FL r.mode=true∧r.par=none∧r.glob=none:=by
 simp_all[Fl]
theorem Ym{h:CT Cg}:∀ {W:List Nat}{t t':CT Cg},qG h W t=some t'→(∀j∈W,t'.get j=h.get j∧∃r,h.get j=some (.row r)∧Fl r=true)∧∀j,j ∉ W→t'.get j=t.get j
  | [],t,t',e=>by injection e with e;grind
  | i::l,t,t',e=>by
    unfold qG at e
    split at e
    · rename_i r hr
      obtain⟨e1,e2⟩:=CM e
      obtain⟨g1,g2⟩:=Ym e2
      refine⟨fun j hj=>?_,fun j hj=>?_⟩
      · by_cases hl : j ∈ l
        · exact g1 j hl
        simp_all[CT.get_set]
      simp_all[CT.get_set]
    · cases e
theorem fL{W:List Nat}{n:Nat}{h:CT Cg}{s':CO}(e:fK W n h=some s'):s'.next=n∧Up W h s'.heap:=by
 unfold fK at e
 simp only[A8G]at e
 obtain⟨t,h1,h2⟩:=e
 injection h2 with h2
 subst h2
 obtain⟨g1,g2⟩:=Ym h1
 exact⟨rfl,g1,fun j hj=>by grind [CT.get_mapO]⟩
theorem Up.wr{W:List Nat}{h h':CT Cg}(hs:Up W h h')(Q0:Program){j:Nat}{o:Cg}(hj:h'.get j=some o)(hw:wr o=true):j∈W∧h.get j=some o:=by
 by_cases hm:j∈W
 ·exact⟨hm,by rw[← (hs.inW j hm).1];exact hj⟩
 ·rw[hs.out j hm,A8G]at hj
  obtain⟨o',_,h3⟩:=hj
  rw[(I2 (P:=Q0) h3).1]at hw
  cases hw
theorem DU.semi{W:List Nat}{h':CT Cg}{n:Nat}(h:DU P ρ s w)(hs:Up W s.heap h'):DU P ρ ⟨n,h'⟩ w:=by
 refine⟨fun i o rb hi hr=>?_,h.lt,fun i j oi oj ri rj hne hi hj hri hrj hb hw=>?_,fun i o g hi hg=>?_⟩
 ·have hi:h'.get i=some o:=hi
  by_cases hm:i∈W
  ·exact h.obj i o rb (by rw[← (hs.inW i hm).1];exact hi) hr
  ·rw[hs.out i hm,A8G]at hi
   obtain⟨o',h1,h2⟩:=hi
   exact(I2 h2).2.2 (h.obj i _ rb h1 hr)
 ·have hi:h'.get i=some oi:=hi
  obtain⟨hm,hj'⟩:=hs.wr P hj hw
  obtain⟨_,r,hr,hp⟩:=hs.inW j hm
  rw[hr]at hj'
  injection hj' with hj'
  subst hj'
  by_cases hmi:i∈W
  ·exact h.sep i j oi _ ri rj hne (by rw[← (hs.inW i hmi).1];exact hi) hr hri hrj hb hw
  ·rw[hs.out i hmi,A8G]at hi
   obtain⟨o',h1,h2⟩:=hi
   exact⟨(h.sep i j o' _ ri rj hne h1 hr hri hrj hb hw).1,(I2 (P:=P) h2).1⟩
 ·have hi:h'.get i=some o:=hi
  by_cases hm:i∈W
  ·exact h.glb i o g (by rw[← (hs.inW i hm).1];exact hi) hg
  ·rw[hs.out i hm,A8G]at hi
   obtain⟨o',h1,h2⟩:=hi
   rw[(I2 (P:=P) h2).2.1]at hg
   exact h.glb i o' g h1 hg
theorem DB.semi{W:List Nat}{h':CT Cg}(h:DB ρ s)(hs:Up W s.heap h'):DB ρ ⟨s.next,h'⟩:=fun i hi=>by
 refine⟨(h i hi).1,?_⟩
 have hn:=(h i hi).2
 by_cases hm:i∈W
 ·obtain⟨_,r,hr,_⟩:=hs.inW i hm
  grind
 ·show h'.get i=none
  rw[hs.out i hm,hn];rfl
structure A3n(ρ:DV)(W:List Nat)(w0 w:World):Prop where
 lt:w0.heap.size<w.heap.size
 old:∀b,b<w0.heap.size→(∀j∈W,∀rb,ρ j=some rb→rb.b≠b)→w.heap[b]? = w0.heap[b]?
 os:w.os=w0.os
 tape:w.tape=w0.tape
 output:w.output=w0.output
structure Hd(ρ:DV)(s:CO)(W:List Nat)(w0 w:World)(bm clock:Nat)(seen:Array Nat):Prop extends A3n ρ W w0 w where
 wk:∀j∈W,∀r rb,s.heap.get j=some (.row r)→ρ j=some rb→Dr ρ w r rb
 it:∃c0,clock≤c0∧w.heap[w0.heap.size]? = some (.mapIter (some bm) clock seen c0)
def Dh(ρ:DV)(s:CO)(w0:World):DV:=EX ρ s.next ⟨w0.heap.size,0,0,0⟩
section
variable{W:List Nat}{bm clock:Nat}{seen:Array Nat}
structure iU(P:Program)(ρ:DV)(s:CO)(w0:World)(W:List Nat)(h':CT Cg)(w1:World):Prop where
 out:∀j,j ∉ W→h'.get j=s.heap.get j
 inW:∀j∈W,∃r r',s.heap.get j=some (.row r)∧Fl r=true∧h'.get j=some (.row r')∧Fl r'=true∧(∃rb,ρ j=some rb)∧∀rb,ρ j=some rb→Dr (Dh ρ s w0) w1 r' rb
theorem A3n.invN(hd:A3n ρ W w w1){h':CT Cg}(hn:iU P ρ s w W h' w1)(h:DU P ρ s w)(hf:DB ρ s):DU P (Dh ρ s w) ⟨s.next+1,h'⟩ w1:=by
  have hnx:=hf s.next (A8H _)
  have hle:ρ.le (Dh ρ s w):=Dc hnx.1
  have hsome:∀i o,h'.get i=some o→∃o',s.heap.get i=some o':=fun i o hi=>by
    by_cases hm:i∈W
    · obtain⟨r,_,h1,_⟩:=hn.inW i hm;exact⟨_,h1⟩
    · exact⟨o,by rw[← hn.out i hm];exact hi⟩
  have hr:∀i o rb,h'.get i=some o→Dh ρ s w i=some rb→ρ i=some rb:=fun i o rb hi hr=>by
    have:i≠s.next:=fun e=>by
      grind
    simp_all[Dh,CZ]
  refine⟨fun i o rb hi hri=>?_,fun i rb hri=>?_,fun i j oi oj ri rj hne hi hj hri hrj hb hw=>?_,fun i o g hi hg=>?_⟩
  · have hi : h'.get i = some o := hi
    have h1:=hr i o rb hi hri
    by_cases hm:i∈W
    · obtain⟨r,r',h2,h3,h4,h5,_,h6⟩:=hn.inW i hm
      rw[h4]at hi
      injection hi with hi
      subst hi
      exact h6 rb h1
    · have hi0:=hi
      rw[hn.out i hm]at hi0
      refine(h.obj i o rb hi0 h1).mono hle (hd.old _ (h.lt i rb h1) fun j hj rj hrj hb=>?_)
      obtain⟨r,_,h2,h3,_⟩:=hn.inW j hj
      obtain⟨h3a,h3b,_⟩:=GL h3
      have:=(h.sep i j o _ rb rj (fun e=>hm (by rw[e];exact hj)) hi0 h2 h1 hrj hb.symm h3a).1
      grind [Ih]
  · unfold Dh at hri
    by_cases e:i=s.next
    · subst e
      rw[Cf]at hri
      injection hri with hri
      subst hri
      exact hd.lt
    · rw[CZ _ e]at hri
      have:=h.lt i rb hri
      exact Nat.lt_trans this hd.lt
  · have hi : h'.get i = some oi := hi
    have hj:h'.get j=some oj:=hj
    have h1:=hr i oi ri hi hri
    have h2:=hr j oj rj hj hrj
    by_cases hmj:j∈W
    · obtain ⟨r, r', k2, k3, k4, k5, k6⟩ := hn.inW j hmj
      obtain⟨k3a,k3b,_⟩:=GL k3
      obtain⟨oi0,hi0⟩:=hsome i oi hi
      have:=(h.sep i j oi0 _ ri rj hne hi0 k2 h1 h2 hb k3a).1
      grind [Ih]
    · rw[hn.out j hmj]at hj
      by_cases hmi:i∈W
      · obtain⟨r,r',k2,k3,k4,k5,k6⟩:=hn.inW i hmi
        have:=(h.sep i j _ oj ri rj hne k2 hj h1 h2 hb hw).2
        grind [wr,GL]
      · rw[hn.out i hmi]at hi
        exact h.sep i j oi oj ri rj hne hi hj h1 h2 hb hw
  · have hi:h'.get i=some o:=hi
    by_cases hm:i∈W
    · obtain⟨r,r',k2,k3,k4,k5,k6⟩:=hn.inW i hm
      rw[k4]at hi
      injection hi with hi
      subst hi
      simp_all[Hp,GL]
    · rw[hn.out i hm]at hi
      obtain⟨rb,h1⟩:=h.glb i o g hi hg
      exact⟨rb,hle _ _ h1⟩
theorem Dr.mono{r:FP}{rb:RB}(h:Dr ρ w r rb)(le:ρ.le ρ1):Dr ρ1 w r rb:=(show Gq (default:Program) ρ w (.row r) rb from h).mono le rfl
theorem Hd.now(hd:Hd ρ s W w w1 bm clock seen)(hW:∀j∈W,(∃rb,ρ j=some rb)∧∃r,s.heap.get j=some (.row r)∧Fl r=true)(hf:DB ρ s):iU P ρ s w W s.heap w1:=
 ⟨fun _ _=>rfl,fun j hj=>let ⟨h0,r,h1,h2⟩:=hW j hj;⟨r,r,h1,h2,h1,h2,h0,fun rb hr=>(hd.wk j hj r rb h1 hr).mono (Dc (hf s.next (A8H _)).1)⟩⟩
theorem Zu(hf:DB ρ s){h':CT Cg}(hn:iU P ρ s w W h' w1):DB (Dh ρ s w) ⟨s.next+1,h'⟩:=fun i hi=>by
 have hi:s.next+1≤i:=hi
 have h2:=(hf i (by omega)).2
 refine⟨?_,?_⟩
 ·unfold Dh
  rw[CZ _ (by omega)]
  exact(hf i (by omega)).1
 ·show h'.get i=none
  by_cases hm:i∈W
  ·obtain⟨r,_,h1,_⟩:=hn.inW i hm;grind
  ·rw[hn.out i hm];exact h2
theorem A3n.frN(hd:A3n ρ W w w1){h':CT Cg}(hn:iU P ρ s w W h' w1)(hf:DB ρ s):Fr ρ s w (Dh ρ s w) ⟨s.next+1,h'⟩ w1:=by
 have hnx:=hf s.next (A8H _)
 refine⟨Dc hnx.1,fun i hi ho=>?_,A8s _,Nat.le_of_lt hd.lt,hd.os,hd.tape,hd.output,fun b hb ho=>hd.old b hb fun j hj rb hr e=>?_,fun b hb=>?_,fun i hi ho=>?_,fun i rb hi h0=>?_,fun i o rb hi h0=>?_⟩
 ·have ho:i<s.next∨s.next+1≤i:=ho
  unfold Dh
  grind [CZ]
 ·obtain⟨r,_,h1,h2,_⟩:=hn.inW j hj
  exact ho ⟨j,_,rb,h1,(GL h2).1,hr,e⟩
 ·obtain⟨i,o,rb,h1,h2,h3,h4⟩:=hb
  have h1:h'.get i=some o:=h1
  have hne:i≠s.next:=fun e=>by
   subst e
   by_cases hm:s.next∈W
   ·obtain⟨r,_,k1,_⟩:=hn.inW _ hm;grind
   ·rw[hn.out _ hm,hnx.2]at h1;cases h1
  unfold Dh at h3
  rw[CZ _ hne]at h3
  by_cases hm:i∈W
  ·obtain⟨r,_,k1,k2,_⟩:=hn.inW i hm
   exact .inl ⟨i,_,rb,k1,(GL k2).1,h3,h4⟩
  ·rw[hn.out i hm]at h1
   exact .inl ⟨i,o,rb,h1,h2,h3,h4⟩
 ·show h'.get i=s.heap.get i
  by_cases hm:i∈W
  ·obtain⟨r,r',k1,k2,k3,k4,⟨rb,k5⟩,_⟩:=hn.inW i hm
   grind
  ·exact hn.out i hm
 ·unfold Dh at hi
  by_cases e:i=s.next
  ·subst e;rw[Cf]at hi;grind
  grind [CZ]
 ·have hi:h'.get i=some o:=hi
  by_cases hm:i∈W
  ·obtain⟨r,_,k1,_⟩:=hn.inW i hm;exact⟨_,k1⟩
  ·rw[hn.out i hm]at hi;exact⟨o,hi⟩
theorem Hd.step{seen':Array Nat}(hd:Hd ρ s W w w1 bm clock seen)(hlt:∀i rb,ρ i=some rb→rb.b<w.heap.size){c1:Nat}(hc:clock≤c1)(hw:w2=w1∨w2=w1.drew):Hd ρ s W w (setBlock w2 w.heap.size (.mapIter (some bm) clock seen' c1)) bm clock seen':=by
 have e:w2.heap=w1.heap∧w2.os=w1.os∧w2.tape=w1.tape∧w2.output=w1.output:=by
  rcases hw with rfl | rfl<;>exact⟨rfl,rfl,rfl,rfl⟩
 have hk:∀b,b<w.heap.size→(setBlock w2 w.heap.size (.mapIter (some bm) clock seen' c1)).heap[b]? = w1.heap[b]? := fun b hb=>by
  show(w2.heap.setIfInBounds _ _)[b]? = _
  grind
 refine⟨⟨?_,fun b hb h=>(hk b hb).trans (hd.old b hb h),e.2.1.trans hd.os,e.2.2.1.trans hd.tape,e.2.2.2.trans hd.output⟩,fun j hj r rb hr hrb=>?_,c1,hc,?_⟩
 ·show w.heap.size<(w2.heap.setIfInBounds _ _).size
  rw[Array.size_setIfInBounds,e.1]
  exact hd.lt
 ·exact(show Gq (default:Program) ρ w1 (.row r) rb from hd.wk j hj r rb hr hrb).mono (DV.le_refl _) (hk _ (hlt j rb hrb))
 ·show(w2.heap.setIfInBounds _ _)[w.heap.size]? = _
  rw[e.1]
  simp[hd.lt]
theorem YF{r r':FP}{C:List AV}(h1:r.c.take 0 r.n=some C)(h2:r'.c.take 0 r.n=some C):∀k,k<r.n→r'.c.get k=r.c.get k:=fun k hk=>by
 have e1:=CT.take_get h1 k hk
 have e2:=CT.take_get h2 k hk
 grind
theorem SY{r q:FP}(h:KO r q=true):q.n=r.n∧q.elem=r.elem∧FL q.mode=true:=by
 simp_all[KO]
theorem YN{q:CO}:∀ {W:List Nat},Np s q W=true→∀j∈W,∃r r',s.heap.get j=some (.row r)∧q.heap.get j=some (.row r')∧KO r r'=true∧∀k,k<r.n→r'.c.get k=r.c.get k
 | [],_,j,hj=>by cases hj
 | i::l,h,j,hj=>by
  unfold Np at h
  simp only[A9W]at h
  rcases A8I.1 hj with e | hj
  ·subst e
   have h1:=h.1
   split at h1<;>first | (cases h1;done) | skip
   rename_i r r' hr hr'
   simp only[A9W]at h1
   grind [HM,DW,YF]
  ·exact YN h.2 j hj
theorem Dr.again{r r':FP}{rb:RB}(h0:Dr ρ w1 r rb)(hp:Fl r=true)(h':Dr ρ1 w2 r' rb)(le:ρ.le ρ1)(hs:KO r r'=true)(hc:∀k,k<r.n→r'.c.get k=r.c.get k):Dr ρ w2 r rb:=by
  obtain⟨e1,e2,e3⟩:=SY hs
  obtain⟨p1,p2,p3⟩:=GL hp
  refine⟨fun k v hk hv=>?_,h0.le,h0.sz,h0.tight,fun _=>?_,h0.base,fun g e=>(by rw[p3]at e;cases e),fun p e=>by rw[p2]at e;cases e⟩
  · obtain ⟨v', k1, k2⟩ := h'.cells k v (by omega) (by grind)
    obtain⟨v0,_,k3⟩:=h0.cells k v hk hv
    grind [Cc.back]
  · obtain⟨cs,k1,k2⟩:=h'.own (fun e=>by rw[e]at e3;cases e3)
    grind
theorem Hd.ended(Q0:Program)(hd:Hd ρ s W w w1 bm clock seen)(hnx:ρ s.next=none∧s.heap.get s.next=none)(hlt:∀i rb,ρ i=some rb→rb.b<w.heap.size){h':CT Cg}(hs:Up W s.heap h'){n:Nat}(hfr:Fr (Dh ρ s w) ⟨n,h'⟩ w1 ρ1 s1 w2):A3n ρ W w w2∧w2.heap[w.heap.size]? = w1.heap[w.heap.size]? := by
 have hk:∀b,b<w1.heap.size→(∀j∈W,∀rb,ρ j=some rb→rb.b≠b)→w2.heap[b]? = w1.heap[b]? := fun b hb h=>hfr.keep b hb (by
  rintro⟨i,o,rb,h1,h2,h3,h4⟩
  obtain⟨hm,h5⟩:=hs.wr Q0 h1 h2
  have hne:i≠s.next:=fun e=>by grind
  unfold Dh at h3
  grind [CZ])
 exact⟨⟨A8L hd.lt hfr.size,fun b hb h=>(hk b (Nat.lt_trans hb hd.lt) h).trans (hd.old b hb h),hfr.os.trans hd.os,hfr.tape.trans hd.tape,hfr.output.trans hd.output⟩,hk _ hd.lt fun j _ rb hr e=>by grind⟩
theorem Hd.round(Q0:Program)(hd:Hd ρ s W w w1 bm clock seen)(hnx:ρ s.next=none∧s.heap.get s.next=none)(hlt:∀i rb,ρ i=some rb→rb.b<w.heap.size){h':CT Cg}(hs:Up W s.heap h'){n:Nat}(hfr:Fr (Dh ρ s w) ⟨n,h'⟩ w1 ρ1 s1 w2)(hinv:DU P ρ1 s1 w2)(hW:Np ⟨n,h'⟩ s1 W=true):Hd ρ s W w w2 bm clock seen:=by
 have hle:ρ.le ρ1:=DV.le_trans (Dc hnx.1) hfr.le
 obtain⟨c0,h1,h2⟩:=hd.it
 obtain⟨hE,hI⟩:=hd.ended Q0 hnx hlt hs hfr
 refine⟨hE,fun j hj r rb hr hrb=>?_,c0,h1,hI.trans h2⟩
 obtain⟨r0,r',g1,g2,g3,g4⟩:=YN hW j hj
 obtain⟨k1,r1,k2,k3⟩:=hs.inW j hj
 have g1:h'.get j=some (.row r0):=g1
 rw[k1,hr]at g1
 injection g1 with g1
 injection g1 with g1
 subst g1
 rw[hr]at k2
 injection k2 with k2
 injection k2 with k2
 subst k2
 exact(hd.wk j hj r rb hr hrb).again k3 (hinv.obj j _ rb g2 (hle _ _ hrb)) hle g3 g4
theorem NT:∀ {a b:List AV},Jd a b=true→a.length=b.length∧∀ (k:Nat)(x:AV),b[k]? = some x→SZ x=true∨a[k]? = some x
 | [],[],_=>⟨rfl,fun k x hx=>(by simp at hx)⟩
 | a::l,b::m,h=>by
  simp only[Jd,A9W,A9X]at h
  obtain⟨g1,g2⟩:=NT h.2
  grind [Nn]
 | [],_::_,h=>by cases h
 | _::_,[],h=>by cases h
theorem dg{q:CO}:∀ {W:List Nat}{M:List (List AV)},YC s q W=some M→W.length=M.length∧∀ (k:Nat)(j:Nat)(C:List AV),W[k]? = some j→M[k]? = some C→∃r r' C0,s.heap.get j=some (.row r)∧q.heap.get j=some (.row r')∧KO r r'=true∧r.c.take 0 r.n=some C0∧r'.c.take 0 r.n=some C∧Jd C0 C=true
 | [],M,h=>by injection h with h;grind
 | i::l,M,h=>by
  unfold YC at h
  simp only[A8G]at h
  obtain⟨r,h1,r',h2,h3⟩:=h
  obtain⟨h4,h5⟩:=CM h3
  simp only[A8G]at h5
  obtain⟨a,h6,b,h7,h8⟩:=h5
  obtain⟨h9,h10⟩:=CM h8
  simp only[A8G]at h10
  obtain⟨m,h11,h12⟩:=h10
  injection h12 with h12
  subst h12
  obtain⟨g1,g2⟩:=dg h11
  grind [DW]
theorem dh:∀ {W:List Nat}{M:List (List AV)}{h1:CT Cg}{h':CT Cg},YR h1 W M=some h' →
    (∀j,j ∉ W→h'.get j=h1.get j)∧∀j∈W,∃ (r:FP) (k:Nat) (C:List AV),h1.get j=some (.row r)∧W[k]? = some j∧M[k]? = some C∧∃c,h'.get j=some (.row { r with c })∧∀i,i<C.length→c.get i=C[i]?
  | [],M,h1,h',h=>by
    cases M with
    | nil=>injection h with h;grind
    | cons _ _=>cases h
  | i::l,[],h1,h',h=>by cases h
  | i::l,C::m,h1,h',h=>by
    unfold YR at h
    split at h<;>first | (cases h;done) | skip
    rename_i r hr
    obtain⟨g1,g2⟩:=dh h
    refine⟨fun j hj=>?_,fun j hj=>?_⟩
    · simp_all[CT.get_set]
    · by_cases hl : j ∈ l
      · obtain⟨r2,k,C2,k1,k2,k3,c,k4,k5⟩:=g2 j hl
        rw[CT.get_set]at k1
        by_cases e:j=i
        · subst e
          rw[if_pos rfl]at k1
          injection k1 with k1
          injection k1 with k1
          subst k1
          exact⟨r,k+1,C2,hr,by simpa using k2,by simpa using k3,c,k4,k5⟩
        · rw[if_neg e]at k1
          exact⟨r2,k+1,C2,k1,by simpa using k2,by simpa using k3,c,k4,k5⟩
      · rcases A8I.1           hj with e | h'
        · subst e
          refine⟨r,0,C,hr,rfl,rfl,r.c.fill 0 C,by simp_all[CT.get_set],fun i hi=>?_⟩
          simp_all[CT.get_fill]
        · exact absurd h' hl
theorem tf(hd:Hd ρ s W w w1 bm clock seen)(hρ:∀j∈W,∃rb,ρ j=some rb)(hnx:ρ s.next=none∧s.heap.get s.next=none){h':CT Cg}(hs:Up W s.heap h'){n:Nat}(hle1:(Dh ρ s w).le ρ1)(hinv:DU P ρ1 s1 w2)
    {M N:List (List AV)} (hW:YC ⟨n,h'⟩ s1 W=some M) (hMN:M=N) {h2:CT Cg} (hset:YR s.heap W N=some h2):iU P ρ s w W h2 w2:=by
  subst hMN
  have hle:ρ.le ρ1:=DV.le_trans (Dc hnx.1) hle1
  obtain⟨e1,e2⟩:=dh hset
  obtain⟨_,f2⟩:=dg hW
  refine⟨e1,fun j hj=>?_⟩
  obtain⟨r,k,C,k1,k2,k3,c,k4,k5⟩:=e2 j hj
  obtain⟨r0,r',C0,g1,g2,g3,g4,g5,g6⟩:=f2 k j C k2 k3
  obtain⟨m1,r2,m2,m3⟩:=hs.inW j hj
  have g1:h'.get j=some (.row r0):=g1
  rw[m1,k1]at g1
  injection g1 with g1
  injection g1 with g1
  subst g1
  rw[k1]at m2
  injection m2 with m2
  injection m2 with m2
  subst m2
  refine⟨r,_,k1,m3,k4,m3,hρ j hj,fun rb hrb=>?_⟩
  obtain⟨q1,q2,q3⟩:=SY g3
  obtain⟨p1,p2,p3⟩:=GL m3
  have h0:=hd.wk j hj r rb k1 hrb
  have hr':Dr ρ1 w2 r' rb:=hinv.obj j _ rb g2 (hle _ _ hrb)
  have hlen:=CT.take_length g5
  refine⟨fun i v hi hv=>?_,h0.le,h0.sz,h0.tight,fun _=>?_,h0.base,fun g e=>(by
    grind),fun p e=>by
    grind⟩
  · have hi : i < r.n := hi
    have hv:c.get i=some v:=hv
    rw[k5 i (by omega)]at hv
    have e5:=CT.take_get g5 i hi
    simp only[A8V]at e5
    obtain⟨v',n1,n2⟩:=hr'.cells i v (by omega) (by rw[e5];exact hv)
    refine⟨v',n1,?_⟩
    rcases(NT g6).2 i v hv with h | h
    · exact UW h n2
    · have e4:=CT.take_get g4 i hi
      simp only[A8V]at e4
      obtain⟨v0,_,n3⟩:=h0.cells i v hi (by rw[e4];exact h)
      exact(Cc.back hle n2 n3).mono (Dc hnx.1)
  · obtain⟨cs,k1,k2⟩:=hr'.own (fun e=>by rw[e]at q3;cases q3)
    grind
end
end
section
variable{P:Program}{ρ ρ1 ρ2:DV}{s s1 s2:CO}{w w1 w2:World}{a:Act}{ops:Array Oper}{rnd:Option Nat}{Q:Exit→Act→World→Prop}
theorem Mg{i:Nat}{o:Oper}{v':Value}{w':World}{K:Act→World→Prop}(ho:ops[i]? = some o)(hg:o.guard=none)(hd:∀c,o.op≠.defer c)(hr:(execOp a.eval o).run P w=.ok (.value v') w')
  (hk:K (a.put o.dst v') w'):wpOpIn (NI rnd) 0 P ops Q i K a w:=by
 unfold wpOpIn
 rw[ho]
 simp only
 rw[if_pos (by grind [Region.wanted])]
 refine⟨fun _ _=>trivial,?_⟩
 rw[Oper.semAt_eq _ _ _ hd,hr]
 exact hk
theorem Fg{o:Oper}{x:Op×Tmp}(h:H8 o=some x):o.guard=none∧o.dst=some x.2∧o.op=x.1:=by
 unfold H8 at h
 grind
theorem Wj{o:Op}{x:TypeId×Operand}(h:Yy o=some x):o=.load x.1 x.2:=by
 unfold Yy at h
 grind
theorem Uw{o:Op}{x:TypeId×Tmp}(h:Uv o=some x):o=.range x.1 (.tmp x.2):=by
 unfold Uv at h
 grind
theorem Wk{o:Op}{x:Tmp}(h:Yz o=some x):o=.next (.tmp x) false:=by
 unfold Yz at h
 grind
theorem Uu{o:Op}{x:Tmp}(h:Ut o=some x):o=.entry (.tmp x):=by
 unfold Ut at h
 grind
theorem QO{o:Op}{x:Tmp}(h:bW o=some x):o=.extract (.tmp x) 0:=by
 unfold bW at h
 grind
theorem Y0{o:Op}{x:Tmp}(h:ii o=some x):o=.assign (.tmp x):=by
 unfold ii at h
 grind
theorem np(w:World)(o:Obj){r:Nat}(h:r<w.heap.size):(w.alloc o).heap[r]? = w.heap[r]? := by
 show(w.heap.push o)[r]? = _
 rw[Array.getElem?_push_lt h,Array.getElem?_eq_getElem h]
theorem Mi{l:List Oper}(h:ops.toList=l)(i:Nat):ops[i]? = l[i]? := by rw[← h];simp
theorem SM{l:List Oper}(h:ops.toList=l):ops.size=l.length:=by rw[← h];simp
structure qj(ops:Array Oper)(ty:TypeId)(ad:Operand)(tm it:Tmp):Prop where
 ex:∃o0 o1,ops.toList=[o0,o1]∧(o0.guard=none∧o0.dst=some tm∧o0.op=.load ty ad)∧(o1.guard=none∧o1.dst=some it∧o1.op=.range ty (.tmp tm))
structure Uo(ops:Array Oper)(it tn ok:Tmp):Prop where
 ex:∃o0 o1,ops.toList=[o0,o1]∧(o0.guard=none∧o0.dst=some tn∧o0.op=.next (.tmp it) false)∧(o1.guard=none∧o1.dst=some ok∧o1.op=.extract (.tmp tn) 0)
structure QC(ops:Array Oper)(it te tk key:Tmp):Prop where
 ex:∃o0 o1 o2,ops.toList=[o0,o1,o2]∧(o0.guard=none∧o0.dst=some te∧o0.op=.entry (.tmp it))∧(o1.guard=none∧o1.dst=some tk∧o1.op=.extract (.tmp te) 0)∧(o2.guard=none∧o2.dst=some key∧o2.op=.assign (.tmp tk))
theorem V6{x:TypeId×Operand×Tmp×Tmp}(h:V5 ops.toList=some x):qj ops x.1 x.2.1 x.2.2.1 x.2.2.2:=by
 unfold V5 at h
 split at h
 ·rename_i o0 o1 hl
  simp only[A8G]at h
  obtain⟨p0,h1,p1,h2,l,h3,r,h4,h5⟩:=h
  obtain⟨h6,h7⟩:=CM h5
  simp only[A9W]at h6
  injection h7 with h7
  subst h7
  obtain⟨a1,a2,a3⟩:=Fg h1
  obtain⟨b1,b2,b3⟩:=Fg h2
  rw[Wj h3]at a3
  rw[Uw h4,← Cv h6.1,← Cv h6.2]at b3
  exact⟨o0,o1,hl,⟨a1,a2,a3⟩,b1,b2,b3⟩
 ·cases h
theorem V8{it:Tmp}{x:Tmp×Tmp}(h:V7 it ops.toList=some x):Uo ops it x.1 x.2:=by
 unfold V7 at h
 split at h
 ·rename_i o0 o1 hl
  simp only[A8G]at h
  obtain⟨p0,h1,p1,h2,l,h3,r,h4,h5⟩:=h
  obtain⟨h6,h7⟩:=CM h5
  simp only[A9W]at h6
  injection h7 with h7
  subst h7
  obtain⟨a1,a2,a3⟩:=Fg h1
  obtain⟨b1,b2,b3⟩:=Fg h2
  rw[Wk h3,Cv h6.1]at a3
  rw[QO h4,Cv h6.2]at b3
  exact⟨o0,o1,hl,⟨a1,a2,a3⟩,b1,b2,b3⟩
 ·cases h
theorem Sy{it:Tmp}{x:Tmp×Tmp×Tmp}(h:SV it ops.toList=some x):QC ops it x.1 x.2.1 x.2.2:=by
 unfold SV at h
 split at h
 ·rename_i o0 o1 o2 hl
  simp only[A8G]at h
  obtain⟨p0,h1,p1,h2,p2,h0,l,h3,r,h4,k,h8,h5⟩:=h
  obtain⟨h6,h7⟩:=CM h5
  simp only[A9W]at h6
  injection h7 with h7
  subst h7
  obtain⟨a1,a2,a3⟩:=Fg h1
  obtain⟨b1,b2,b3⟩:=Fg h2
  obtain⟨c1,c2,c3⟩:=Fg h0
  rw[Uu h3,Cv h6.1]at a3
  rw[QO h4,Cv h6.2.1]at b3
  rw[Y0 h8,Cv h6.2.2]at c3
  exact⟨o0,o1,o2,hl,⟨a1,a2,a3⟩,⟨b1,b2,b3⟩,c1,c2,c3⟩
 ·cases h
theorem Fn{t:Tmp}{v:Value}(h:t<a.tmps.size):(a.put (some t) v).eval (.tmp t)=v:=by
 simp_all[Act.put,Act.eval]
theorem Xt{i2:Nat}{it tn ok:Tmp}{r0:Addr}(h:Uo ops it tn ok)(hit:a.eval (.tmp it)=.pointer (some r0))(htn:tn<a.tmps.size)
    (hrun:∀ty:TypeId,∃l b w',l[0]? = some b∧(Instr.next (.pointer (some r0)) false ty).run P w=.ok (.tuple l) w'∧Q .normal ((a.put (some tn) (.tuple l)).put (some ok) b) w'):
    (Code.region i2 ops false).wpIn (NI rnd) 0 P Q a w:=by
  obtain⟨o0,o1,hl,⟨a1,a2,a3⟩,b1,b2,b3⟩:=h.ex
  obtain⟨l,b,w',h1,h2,h3⟩:=hrun o0.type
  refine wpIn_region ?_
  rw[SM hl]
  show wpOpsIn (NI rnd) 0 P ops Q [0,1] a w
  rw[wpOpsIn_cons]
  refine Mg (Mi hl 0) a1 (fun c e=>by rw[a3]at e;cases e) (v':=.tuple l) (w':=w') ?_ ?_
  · grind [execOp,Sem.run_bind,Result.andThen,Sem.run_pure]
  · rw [wpOpsIn_cons, a2]
    refine Mg (Mi hl 1) b1 (fun c e=>by rw[b3]at e;cases e) (v':=b) (w':=w') ?_ ?_
    · grind [execOp,Fn,Instr.extract,Sem.run_pure]
    · rw[b2]
      exact h3
theorem VM{i3:Nat}{it te tk key:Tmp}{r0:Addr}{l:Array Value}{b:Value}(h:QC ops it te tk key)(hit:a.eval (.tmp it)=.pointer (some r0))(hte:te<a.tmps.size)(htk:tk<a.tmps.size)
    (hl0:l[0]? = some b) (hrun:(Instr.entry (.pointer (some r0))).run P w=.ok (.tuple l) w) (hq:Q .normal (((a.put (some te) (.tuple l)).put (some tk) b).put (some key) b) w):
    (Code.region i3 ops false).wpIn (NI rnd) 0 P Q a w:=by
  obtain⟨o0,o1,o2,hl,⟨a1,a2,a3⟩,⟨b1,b2,b3⟩,c1,c2,c3⟩:=h.ex
  refine wpIn_region ?_
  rw[SM hl]
  show wpOpsIn (NI rnd) 0 P ops Q [0,1,2] a w
  rw[wpOpsIn_cons]
  refine Mg (Mi hl 0) a1 (fun c e=>by rw[a3]at e;cases e) (v':=.tuple l) (w':=w) ?_ ?_
  · grind [execOp,Sem.run_bind,Result.andThen,Sem.run_pure]
  · rw [wpOpsIn_cons, a2]
    refine Mg (Mi hl 1) b1 (fun c e=>by rw[b3]at e;cases e) (v':=b) (w':=w) ?_ ?_
    · grind [execOp,Fn,Instr.extract,Sem.run_pure]
    · rw [wpOpsIn_cons, b2]
      refine Mg (Mi hl 2) c1 (fun c e=>by rw[c3]at e;cases e) (v':=b) (w':=w) ?_ ?_
      · grind [execOp,Fn,ED,Sem.run_pure]
      · rw[c2]
        exact hq
structure ql(ρi:DV)(es:Array MapEntry)(f:AV→Option QF)(S:Option (List AV×List (List AV)))(ch:MapEntry→AV×QF):Prop where
 ex:∀e∈es.toList,Cc ρi (ch e).1 e.key∧f (ch e).1=some (ch e).2∧∀X M,(ch e).2=.ret X M→∃Z,S=some (Z,M)∧TE X Z
theorem born_inj{l:List MapEntry}(h:(l.map (·.born)).Nodup){x y:MapEntry}(hx:x∈l)(hy:y∈l)(e:x.born=y.born):x=y:=by
 induction l with
 | nil=>cases hx
 | cons a l ih =>
  grind
theorem gR{id2 idb:Nat}{K:Act→World→Prop}{Q':Exit→Act→World→Prop}(h:Q' .ret a w):Exit.inBlock id2 (Exit.then K (Exit.inBlock idb Q')) (Ip .ret) a w:=h
theorem OQ{id2:Nat}{e:PB}{K:Act→World→Prop}{Q':Exit→Act→World→Prop}(h:LW id2 e=true)(hk:K a w):Exit.inBlock id2 (Exit.then K Q') (Ip e) a w:=by
 cases e with
 | normal=>exact hk
 | exit i =>
  have:i=id2:=Cv h
  show(if i=id2 then _ else _)
  rw[if_pos this]
  exact hk
 | ret=>cases h
variable{fn:Func}{A:List AV}{marks:List Nat}{bm clock:Nat}{es:Array MapEntry}{it tn ok te tk key:Tmp}{jt jok jk:Nat}
structure iV(P:Program)(fn:Func)(it tn ok te tk key:Tmp)(jt jok jk:Nat):Prop where
 hjt:DM (Cu P fn) it=some jt
 hjok:DM (Cu P fn) ok=some jok
 hjk:DM (Cu P fn) key=some jk
 ntn:DM (Cu P fn) tn=none
 nte:DM (Cu P fn) te=none
 ntk:DM (Cu P fn) tk=none
 ltn:tn<fn.ntmps
 lte:te<fn.ntmps
 ltk:tk<fn.ntmps
 lok:ok<fn.ntmps
 lkey:key<fn.ntmps
 d1:jt≠jok
 d2:jt≠jk
 d3:jok≠jk
theorem eC{ρi:DV}{A:List AV}{tmps:Array Value}(hs:iV P fn it tn ok te tk key jt jok jk)(hv:DF P ρi fn A tmps)(hj:Hw A jt=.ptr (some (s.next,0)))(hr:ρi s.next=some ⟨w.heap.size,0,0,0⟩):
  tmps.getD it undef=.pointer (some ⟨w.heap.size,0,none⟩):=by
 obtain⟨_,v,h1,h2⟩:=hv.rel it jt hs.hjt
 rw[Ok h1]at hj
 subst hj
 generalize tmps.getD it undef=x at h2
 cases h2 with
 | ptr h =>
  grind
theorem gT{F:Gm}(hcode:OE P F){f:FuncId}{ops2 ops3:Array Oper}{i2 i3 idb id2:Nat}{body:Code}{r:Ki}(hf:P.funcs[f]? = some fn)(hs:iV P fn it tn ok te tk key r.jt r.jok r.jk)(h2:Uo ops2 it tn ok)(h3:QC ops3 it te tk key)
    (hi:DU P ρ s w) (hfr:DB ρ s) (hm:w.heap[bm]? = some (.map es clock)) (hst:MapKept.Stamped es clock) {rd:Option Nat} (hrnd:QG ρ rd rnd) (hid:id2=r.id2)
    (hA:Hw A r.jt=.ptr (some (s.next,0))) {W:List Nat} {sf:CO} (hn1:sf.next=s.next+1) (hsm:Up W s.heap sf.heap) (hWρ:∀j∈W,∃rb,ρ j=some rb) {S:Option (List AV×List (List AV))} {ch:MapEntry→AV×QF}
    (hro:ql (Dh ρ s w) es (Eg F rd r (Ct P f fn.ntmps (Cu P fn) body) A W marks sf) S ch)
    (hq:S=none→∀a' w' seen',Hd ρ s W w w' bm clock seen'→DF P (Dh ρ s w) fn (upd (.bool false) A r.jok) a'.tmps→ES (Dh ρ s w) marks a'.defers→Q .normal a' w')
    (hqr:∀Z M,S=some (Z,M)→∀a' w3 w' seen' ρ1 s1,Hd ρ s W w w3 bm clock seen'→Fr (Dh ρ s w) sf w3 ρ1 s1 w'→DU P ρ1 s1 w'→YC sf s1 W=some M→DF P (Dh ρ s w) fn Z a'.tmps→ES (Dh ρ s w) marks a'.defers→Q .ret a' w'):
    ∀ (m:Nat) (a:Act) (w1:World) (seen:Array Nat),(leftOf es seen).size<m→(S=none∨∃e∈es.toList,seen.contains e.born=false∧∃X M,(ch e).2=.ret X M)→Hd ρ s W w w1 bm clock seen→DF P (Dh ρ s w) fn A a.tmps→ES (Dh ρ s w) marks a.defers →
      Code.roundsIn (NI rnd) 0 P (.seq (.region i2 ops2 false) (.seq (.cond (.tmp ok) .skip (.exit idb)) (.block id2 (.seq (.region i3 ops3 false) body)))) (Exit.inBlock idb Q) m a w1:=by
  have hWb:∀j∈W,∀rb,ρ j=some rb→rb.b≠bm:=fun j hj rb hr e=>by
    obtain⟨_,r,k1,k2⟩:=hsm.inW j hj
    obtain⟨cs,k3,_⟩:=(show Dr ρ w r rb from hi.obj j _ rb k1 hr).own (fun e=>by have:=(GL k2).1;rw[e]at this;cases this)
    grind
  have hltW:∀i rb,ρ i=some rb→rb.b<w.heap.size:=hi.lt
  have hWs:∀j∈W,(∃rb,ρ j=some rb)∧∃r,s.heap.get j=some (.row r)∧Fl r=true:=fun j hj=>⟨hWρ j hj,(hsm.inW j hj).2⟩
  have hnx:=hfr s.next (A8H _)
  intro m
  induction m with
  | zero=>grind
  | succ m ih =>
    intro a w1 seen hlt hS hd hv hmk
    have hlt0:bm<w.heap.size:=by
      grind
    have hn:=(hfr s.next (A8H _)).1
    have hrit:Dh ρ s w s.next=some ⟨w.heap.size,0,0,0⟩:=Cf _ _
    have hit:a.eval (.tmp it)=.pointer (some ⟨w.heap.size,0,none⟩):=eC hs hv hA hrit
    have hm1:w1.heap[bm]? = some (.map es clock):=by rw[hd.old bm hlt0 hWb];exact hm
    obtain⟨c0,hc0,hiter⟩:=hd.it
    have hst':=(MapKept.stamped_iff es clock).1 hst
    have hsz:fn.ntmps≤a.tmps.size:=hv.size
    rw[roundsIn_succ]
    refine wpIn_seq (Xt h2 hit (A8L hs.ltn hsz) fun ty=>?_)
    rcases run_next_at (P:=P) w1 ty w.heap.size bm clock c0 seen es clock hiter hm1 hst'.1 hc0 with⟨hz,hrun⟩ | ⟨e,he,w2,hw2,hrun⟩
    · refine⟨_,.bool false,w1,rfl,hrun,?_⟩
      have hSn:S=none:=by
        grind [all_seen]
      have hv1:DF P (Dh ρ s w) fn A (a.put (some tn) (.tuple #[.bool false])).tmps:=N3 hv hs.ntn _
      have hv2:DF P (Dh ρ s w) fn (upd (.bool false) A r.jok) ((a.put (some tn) (.tuple #[.bool false])).put (some ok) (.bool false)).tmps:=WN hv1 hs.hjok (.bool false) (by rw[ED];exact A8L hs.lok hsz)
      refine wpIn_seq (wpIn_cond (t:=false) ?_ ?_)
      · exact Fn (by rw[ED];exact A8L hs.lok hsz)
      · refine wpIn_exit ?_
        show(if idb=idb then Q .normal _ _ else _)
        rw[if_pos rfl]
        grind [GB]
    · refine⟨_,.bool true,_,rfl,hrun,?_⟩
      have ni:Hd ρ s W w (setBlock w2 w.heap.size (.mapIter (some bm) clock (seen.push e.born) clock)) bm clock (seen.push e.born):=hd.step hltW (A8H _) hw2
      have hit3:(setBlock w2 w.heap.size (.mapIter (some bm) clock (seen.push e.born) clock)).heap[w.heap.size]? = some (.mapIter (some bm) clock (seen.push e.born) clock):=by
        have e1:w2.heap=w1.heap:=by rcases hw2 with rfl | rfl<;>rfl
        have hl:=hd.lt
        show(w2.heap.setIfInBounds _ _)[w.heap.size]? = _
        rw[e1]
        simp[hl]
      generalize setBlock w2 w.heap.size (.mapIter (some bm) clock (seen.push e.born) clock)=w3 at ni hit3
      have hm3:w3.heap[bm]? = some (.map es clock):=by rw[ni.old bm hlt0 hWb];exact hm
      obtain⟨hes,_⟩:=mem_left he
      obtain⟨hk,hround,hret⟩:=hro.ex e hes
      generalize hke:(ch e).1=k at hk hround
      have hv1:DF P (Dh ρ s w) fn A (a.put (some tn) (.tuple #[.bool true,e.key,e.val])).tmps:=N3 hv hs.ntn _
      have hv2:DF P (Dh ρ s w) fn (upd (.bool true) A r.jok) ((a.put (some tn) (.tuple #[.bool true,e.key,e.val])).put (some ok) (.bool true)).tmps:=WN hv1 hs.hjok (.bool true) (by rw[ED];exact A8L hs.lok hsz)
      have hv1':DF P (Dh ρ s w) fn A a.tmps:=hv
      have hjA2:Hw (upd (.bool true) A r.jok) r.jt=.ptr (some (s.next,0)):=by rw[JN hs.d1];exact hA
      refine wpIn_seq (wpIn_cond (t:=true) ?_ (wpIn_skip ?_))
      · exact Fn (by rw[ED];exact A8L hs.lok hsz)
      show Code.wpIn (NI rnd) 0 P _ _ _ _
      have hmk2:ES (Dh ρ s w) marks ((a.put (some tn) (.tuple #[.bool true,e.key,e.val])).put (some ok) (.bool true)).defers:=by rw[GB,GB];exact hmk
      have hsz2:fn.ntmps≤((a.put (some tn) (.tuple #[.bool true,e.key,e.val])).put (some ok) (.bool true)).tmps.size:=hv2.size
      generalize (a.put (some tn) (.tuple #[.bool true,e.key,e.val])).put (some ok) (.bool true)=a2 at hv2 hmk2 hsz2
      refine wpIn_block (wpIn_seq (VM h3 (eC hs hv2 hjA2 hrit) (A8L hs.lte hsz2) (A8L hs.ltk hsz2) (l:=#[e.key,e.val]) (b:=e.key) rfl (run_entry_at w3 w.heap.size bm clock seen es clock e hit3 hm3 hes hst'.2.1) ?_))
      show Code.wpIn (NI rnd) 0 P _ _ _ _
      have hv3:DF P (Dh ρ s w) fn (upd k (upd (.bool true) A r.jok) r.jk) (((a2.put (some te) (.tuple #[e.key,e.val])).put (some tk) e.key).put (some key) e.key).tmps:=by
        have g1:DF P (Dh ρ s w) fn (upd (.bool true) A r.jok) (a2.put (some te) (.tuple #[e.key,e.val])).tmps:=N3 hv2 hs.nte _
        have g2:DF P (Dh ρ s w) fn (upd (.bool true) A r.jok) ((a2.put (some te) (.tuple #[e.key,e.val])).put (some tk) e.key).tmps:=N3 g1 hs.ntk _
        exact WN g2 hs.hjk hk (by rw[ED,ED];exact A8L hs.lkey hsz2)
      have hmk3:ES (Dh ρ s w) marks (((a2.put (some te) (.tuple #[e.key,e.val])).put (some tk) e.key).put (some key) e.key).defers:=by grind [GB]
      generalize ((a2.put (some te) (.tuple #[e.key,e.val])).put (some tk) e.key).put (some key) e.key=a3 at hv3 hmk3
      unfold Eg at hround
      simp only[A8G]at hround
      obtain⟨q,hq1,hq2⟩:=hround
      obtain⟨hq3,hq4⟩:=CM hq2
      have hmkq:=No hq3
      have hb1:DU P (Dh ρ s w) sf w3:=by
        have:=(ni.invN (ni.now hWs hfr) hi hfr).semi (n:=sf.next) hsm
        exact this
      have hb2:DB (Dh ρ s w) sf:=by
        have:=(Zu hfr (ni.now (P:=P) hWs hfr)).semi (W:=W) (h':=sf.heap) hsm
        have e:(⟨s.next+1,sf.heap⟩:CO)=sf:=by rw[← hn1]
        rw[← e];exact this
      refine hcode f fn body rd rnd _ marks sf q (Dh ρ s w) w3 a3 _ hf hq1 ⟨hb1,hb2,hv3,hmk3,hrnd.mono (Dc hn)⟩ ?_
      intro a4 w4 ρ4 g
      have hle4:=g.fr.le
      have hmk4:ES (Dh ρ s w) marks a4.defers:=by
        have:=g.marks
        grind [UA]
      subst hid
      have hgo:∀e',e'=q.exit→e'≠.ret→LW r.id2 e'=true→TE q.var A→Np sf q.st W=true→(ch e).2=.go→Exit.inBlock r.id2 (Exit.then (fun a w=>Code.roundsIn (NI rnd) 0 P (.seq (.region i2 ops2 false) (.seq (.cond (.tmp ok) .skip (.exit idb)) (.block r.id2 (.seq (.region i3 ops3 false) body)))) (Exit.inBlock idb Q) m a w) (Exit.inBlock idb Q)) (Ip e') a4 w4:=by
        intro e' _ _ h1 h2' hsW h3'
        have hd4:Hd ρ s W w w4 bm clock (seen.push e.born):=ni.round P hnx hltW hsm (n:=sf.next) g.fr g.inv hsW
        have hmg:DF P (Dh ρ s w) fn A a4.tmps:=bE hv1' g.vars hle4 (.refl _) h2'
        refine OQ h1 ?_
        refine ih a4 w4 (seen.push e.born) (by have:=left_shrinks es seen e he;omega) ?_ hd4 hmg hmk4
        rcases hS with h | ⟨e0,h4,h5,X,M,h6⟩
        · exact .inl h
        · refine .inr ⟨e0, h4, ?_, X, M, h6⟩
          rw[Array.contains_push,h5]
          simp only[Bool.false_or]
          grind [born_inj]
      cases hex:q.exit with
      | ret =>
        rw[hex]at hq4
        simp only[A8G]at hq4
        obtain⟨X,h4,M,h4',h5⟩:=hq4
        injection h5 with h5
        obtain⟨Z,h6,h7⟩:=hret X M h5.symm
        refine gR ?_
        exact hqr Z M h6 _ _ _ _ _ _ ni g.fr g.inv h4' (qO hv1' g.vars hle4 h4 h7) hmk4
      | normal =>
        rw[hex]at hq4
        obtain⟨h4,h5⟩:=CM hq4
        simp only[A9W]at h4
        injection h5 with h5
        exact hgo _ hex.symm (by simp) h4.1 (Q9 h4.2.1) h4.2.2 h5.symm
      | exit i =>
        rw[hex]at hq4
        obtain⟨h4,h5⟩:=CM hq4
        simp only[A9W]at h4
        injection h5 with h5
        exact hgo _ hex.symm (by simp) h4.1 (Q9 h4.2.1) h4.2.2 h5.symm
theorem Sc(o:Option Ki)(x y:Ck):Sb o x y=.seq x y∨∃r c,Sb o x y=.rangeMap r c∧o=some r∧Nk y=some c:=by
 unfold Sb
 grind
theorem nH:∀ {a b:List (List AV)},A0f a b=true→a=b
 | [],[],_=>rfl
 | x::l,y::m,h=>by
  simp only[A0f,A9W]at h
  have:=HM h.1
  injection this with this
  rw[this,nH h.2]
 | [],_::_,h=>by cases h
 | _::_,[],h=>by cases h
theorem I9{g:AV→Option QF}:∀ {l:List (AV×AV)}{R S:Option (List AV×List (List AV))},Ij g R l=some S →
    (∀x∈l,∃o,g x.1=some o∧∀X M,o=.ret X M→∃Z,S=some (Z,M)∧TE X Z)∧(∀Y,R=some Y→∃Z,S=some (Z,Y.2)∧TE Y.1 Z)∧(R=none→S=none∨∃x∈l,∃X M,g x.1=some (.ret X M))
  | [],R,S,h=>by injection h with h;subst h;exact⟨fun x hx=>(by cases hx),fun Y h=>⟨Y.1,h,.refl _⟩,fun h=>.inl h⟩
  | e::l,R,S,h=>by
    unfold Ij at h
    simp only[A8G]at h
    obtain⟨o,h1,h2⟩:=h
    cases o with
    | go =>
      obtain⟨g1,g2,g3⟩:=I9 h2
      grind
    | ret X M =>
      cases R with
      | none =>
        obtain⟨g1,g2,g3⟩:=I9 h2
        grind
      | some Y =>
        obtain⟨hb,h2⟩:=CM h2
        simp only[A8G]at h2
        obtain⟨Z,h3,h4⟩:=h2
        have hM:=nH hb
        obtain⟨m1,m2⟩:=SB h3
        obtain⟨g1,g2,g3⟩:=I9 h4
        obtain⟨Z',e1,e2⟩:=g2 _ rfl
        refine And.intro (fun x hx=>?_) (And.intro (fun Y' h=>(by injection h with h;subst h;exact⟨Z',e1,m1.trans e2⟩)) fun h=>(by cases h))
        rcases A8I.1 hx with rfl | hx
        · exact⟨_,h1,fun X' M' h=>(by injection h with h h';subst h h';exact⟨Z',by rw[← hM];exact e1,m2.trans e2⟩)⟩
        · exact g1 x hx
theorem LR{var:List AV}{i:Nat}:∀ {l:List CX},i∈Mu var l→∃j o,CX.var j∈l∧var[j]? = some (.ptr (some (i,o)))
  | [],h=>by cases h
  | .var j::l,h=>by
    unfold Mu at h
    split at h
    · rename_i i' o hj
      rcases A8I.1 h with rfl | h
      · grind
      · obtain⟨j',o',h1,h2⟩:=LR h;exact⟨j',o',A8J _ h1,h2⟩
    · obtain⟨j',o',h1,h2⟩:=LR h;exact⟨j',o',A8J _ h1,h2⟩
  | .loc _::l,h=>by obtain⟨j',o',h1,h2⟩:=LR (l:=l) h;exact⟨j',o',A8J _ h1,h2⟩
  | .const _::l,h=>by obtain⟨j',o',h1,h2⟩:=LR (l:=l) h;exact⟨j',o',A8J _ h1,h2⟩
theorem gQ{f:FuncId}{vars:List Tmp}{j:Nat}(h:CX.var j∈de P f vars):∃t,DM vars t=some j:=by
 grind [de,Option.map_eq_some_iff]
theorem F1.mem'{l:List (AV×AV)}{l':List MapEntry}(h:F1 ρ l l'):∀x∈l,∃e∈l',Cc ρ x.1 e.key:=by
 induction h with
 | nil=>intro e he;cases he
 | cons hk hv hs ih =>
  intro e he
  rcases A8I.1 he with rfl | he
  ·exact⟨_,A8M ..,hk⟩
  ·obtain⟨x,h1,h2⟩:=ih e he
   exact⟨x,A8J _ h1,h2⟩
theorem F1.mem{l:List (AV×AV)}{l':List MapEntry}(h:F1 ρ l l'):∀e∈l',∃x∈l,Cc ρ x.1 e.key:=by
 induction h with
 | nil=>intro e he;cases he
 | cons hk hv hs ih =>
  intro e he
  rcases A8I.1 he with rfl | he
  ·exact⟨_,A8M ..,hk⟩
  ·obtain⟨x,h1,h2⟩:=ih e he
   exact⟨x,A8J _ h1,h2⟩
theorem A3W{F:Gm}(hcode:OE P F){f:FuncId}{c b:Code}{r:Ki}{cb:Ck}{rd:Option Nat}{var:List AV}{res:Da}(hf:P.funcs[f]? = some fn)(hr:ML P f fn.ntmps (Cu P fn) c b=some r)
    (hcb:Nk (Ct P f fn.ntmps (Cu P fn) b)=some cb) (hc:eO F rd r cb var marks s=some res) (hb:MQ P fn ρ s w var marks rd rnd a)
    (hq:∀a' w' ρ',MR P fn ρ s w res a' w' ρ'→Q (Ip res.exit) a' w'):(Code.seq c b).wpIn (NI rnd) 0 P Q a w:=by
  unfold ML at hr
  split at hr<;>first | (cases hr;done) | skip
  rename_i b i1 ops1 d1
  simp only[A8G]at hr
  obtain⟨p,hp,hr⟩:=hr
  unfold ph at hp
  split at hp<;>first | (cases hp;done) | skip
  rename_i idb i2 ops2 tc ide id2 i3 ops3 body
  obtain⟨iL,hp⟩:=CM hp
  simp only[A8G]at hp
  obtain⟨h,hh,n,hn,e,he,hp⟩:=hp
  obtain⟨hg,hp⟩:=CM hp
  simp only[A9W]at hg
  injection hp with hpe
  have e1:=Cv hg.1
  have e2:=Cv hg.2
  subst e1
  subst e2
  cases d1 with
  | true=>cases iL
  | false =>
  have H1:=V6 hh
  have H2:=V8 hn
  have H3:=Sy he
  have hcb':cb=Ct P f fn.ntmps (Cu P fn) body:=by
    simp only[Ct]at hcb
    rcases Sc (ML P f fn.ntmps (Cu P fn) (.region i2 ops2 false) (.seq (.cond (.tmp n.2) .skip (.exit ide)) (.block id2 (.seq (.region i3 ops3 false) body)))) (Ct P f fn.ntmps (Cu P fn) (.region i2 ops2 false)) (Ct P f fn.ntmps (Cu P fn) (.seq (.cond (.tmp n.2) .skip (.exit ide)) (.block id2 (.seq (.region i3 ops3 false) body))))with h1 | ⟨r',c',h1,h2,_⟩
    · simp only[Ct]at h1
      rw[h1]at hcb
      rcases Sc (ML P f fn.ntmps (Cu P fn) (.region i3 ops3 false) body) (Ct P f fn.ntmps (Cu P fn) (.region i3 ops3 false)) (Ct P f fn.ntmps (Cu P fn) body)with h2 | ⟨r',c',h2,_,_⟩
      · grind [Ct,ML,Sb,Nk]
      · simp only[Ct]at h2
        rw[h2]at hcb
        simp_all[ML,Sb,Nk]
    grind [ML,ph]
  subst hcb'
  clear hcb
  unfold cV at hr
  simp only[A8G]at hr
  obtain⟨ad,hx,jt,hjt,jok,hjok,jk,hjk,hr⟩:=hr
  obtain⟨g1,hr⟩:=CM hr
  obtain⟨g2,hr⟩:=CM hr
  obtain⟨g3,hr⟩:=CM hr
  injection hr with hr
  subst hpe
  simp only at hx hjt hjok hjk g1 g2 g3 hr
  simp only[A9W,Option.isNone_iff_eq_none,A9Y]at g1 g2 g3
  have blt:∀ {x y:Nat},Nat.blt x y=true→x<y:=fun h=>A8z h
  have bne:∀ {x y:Nat},Nat.beq x y=false→x≠y:=fun h e=>by subst e;simp at h
  have hs:iV P fn h.2.2.2 n.1 n.2 e.1 e.2.1 e.2.2 r.jt r.jok r.jk:=by
    subst hr
    exact⟨hjt,hjok,hjk,g1.2.1,g1.2.2.1,g1.2.2.2,blt g2.2.1,blt g2.2.2.1,blt g2.2.2.2.1,blt g2.2.2.2.2.2.1,blt g2.2.2.2.2.2.2,bne g3.2.1,bne g3.2.2.1,bne g3.2.2.2⟩
  have hrid:id2=r.id2:=by subst hr;rfl
  have hrad:r.ad=ad:=by subst hr;rfl
  have hrres:r.res=de P f (Cu P fn):=by subst hr;rfl
  have hrrd:∀s v,r.rd s v=CJ P s h.1 v:=by subst hr;intro s v;rfl
  clear hr
  unfold eO at hc
  simp only[A8G]at hc
  obtain⟨m,hm,es,hes,hAF⟩:=hc
  rw[hrrd,hrad]at hm
  have hents:∃i kt es',m=.map (some i)∧es=es'∧(s.heap.get i=some (.map kt es')∨s.heap.get i=some (.mapRo kt es')):=by
    unfold P6 at hes
    grind
  obtain⟨i,kt,es',rfl,rfl,hget⟩:=hents
  clear hes
  obtain⟨v',hrun,hv',hdrop⟩:=R8 hb.inv hm (SK hb.vars hx)
  clear hdrop
  cases hv' with
  | map hρ =>
  rename_i rb
  obtain⟨esM,clock,hM,hst,⟨l,hperm,herel⟩,_⟩:=(show Kn P ρ w kt es rb from hget.elim (fun h=>hb.inv.obj i _ rb h hρ) (fun h=>hb.inv.obj i _ rb h hρ)).ex
  have hmt:∃k e,P.underlying h.1=some (.map k e):=by
    grind [OY]
  obtain⟨tk,te,hmt⟩:=hmt
  have hn0:=(hb.fresh s.next (A8H _)).1
  have hle:ρ.le (Dh ρ s w):=Dc hn0
  have hrit:Dh ρ s w s.next=some ⟨w.heap.size,0,0,0⟩:=Cf _ _
  obtain⟨o0,o1,hl,⟨a1,a2,a3⟩,b1,b2,b3⟩:=H1.ex
  have hsz:fn.ntmps≤a.tmps.size:=hb.vars.size
  refine wpIn_seq (wpIn_region ?_)
  rw[SM hl]
  show wpOpsIn (NI rnd) 0 P ops1 _ [0,1] a w
  rw[wpOpsIn_cons]
  refine Mg (Mi hl 0) a1 (fun c e=>by rw[a3]at e;cases e) (v':=.map (some rb.b)) (w':=w) ?_ ?_
  · grind [execOp,Sem.run_bind,Result.andThen,Sem.run_pure]
  rw[wpOpsIn_cons,a2]
  refine Mg (Mi hl 1) b1 (fun c e=>by rw[b3]at e;cases e) (v':=.pointer (some ⟨w.heap.size,0,none⟩)) (w':=w.alloc (.mapIter (some rb.b) clock #[] clock)) ?_ ?_
  · grind [execOp,Fn,Sem.run_bind,run_range_map,Result.andThen,Sem.run_pure]
  rw[b2]
  show Code.wpIn (NI rnd) 0 P _ _ _ _
  have hd0:∀W,(∀j∈W,∃r,s.heap.get j=some (.row r)∧Fl r=true)→Hd ρ s W w (w.alloc (.mapIter (some rb.b) clock #[] clock)) rb.b clock #[]:=fun W hW =>
    ⟨⟨by simp,fun b hb _=>np w _ hb,rfl,rfl,rfl⟩,fun j hj r rb' hr hrb=>(show Gq (default:Program) ρ w (.row r) rb' from hb.inv.obj j _ rb' hr hrb).mono (DV.le_refl _) (np w _ (hb.inv.lt j rb' hrb)),clock,A8H _,heap_alloc_new w _⟩
  have hv0:DF P (Dh ρ s w) fn (upd (.ptr (some (s.next,0))) var r.jt) ((a.put (some h.2.2.1) (.map (some rb.b))).put (some h.2.2.2) (.pointer (some ⟨w.heap.size,0,none⟩))).tmps:=by
    have k1:DF P (Dh ρ s w) fn var (a.put (some h.2.2.1) (.map (some rb.b))).tmps:=N3 (hb.vars.mono hle) g1.1 _
    exact WN k1 hs.hjt (Cc.ptr (rb:=⟨w.heap.size,0,0,0⟩) (o:=0) hrit) (by grind [ED])
  have hmk0:ES (Dh ρ s w) marks ((a.put (some h.2.2.1) (.map (some rb.b))).put (some h.2.2.2) (.pointer (some ⟨w.heap.size,0,none⟩))).defers:=by
    rw[GB,GB];exact hb.marks.mono hle
  generalize (a.put (some h.2.2.1) (.map (some rb.b))).put (some h.2.2.2) (.pointer (some ⟨w.heap.size,0,none⟩))=a0 at hv0 hmk0
  have hA0:Hw (upd (.ptr (some (s.next,0))) var r.jt) r.jt=.ptr (some (s.next,0)):=Nb (by rw[hb.vars.len];exact Gf hs.hjt)
  generalize hA0e:upd (.ptr (some (s.next,0))) var r.jt=A0 at hAF hv0 hA0
  unfold Mn at hAF
  simp only[A8G]at hAF
  obtain⟨J,_,A',hJ,hAF⟩:=hAF
  obtain⟨hjA,hAF⟩:=CM hAF
  simp only[A8G]at hAF
  obtain⟨sf,hsf,S',hS,hAF⟩:=hAF
  obtain⟨hn1,hsm⟩:=fL hsf
  simp only[A9W]at hjA
  have hjF:Hw A' r.jt=.ptr (some (s.next,0)):=HM hjA.1
  have hWρ:∀j∈Mu A0 r.res,∃rb,ρ j=some rb:=fun j hj=>by
    obtain⟨k,o,h1,h2⟩:=LR hj
    rw[hrres]at h1
    obtain⟨t,ht⟩:=gQ h1
    obtain⟨_,v,h3,h4⟩:=hv0.rel t k ht
    rw[h2]at h3
    injection h3 with h3
    subst h3
    obtain⟨_,r1,h5,_⟩:=hsm.inW j hj
    have hne:j≠s.next:=fun e=>by
      rw[e,(hb.fresh s.next (A8H _)).2]at h5;cases h5
    generalize a0.tmps.getD t undef=x at h4
    cases h4 with
    | ptr h =>
      simp_all[Dh,CZ]
  generalize Mu A0 r.res=W at *
  have hWs:∀j∈W,(∃rb,ρ j=some rb)∧∃r,s.heap.get j=some (.row r)∧Fl r=true:=fun j hj=>⟨hWρ j hj,(hsm.inW j hj).2⟩
  have hd0:=hd0 W fun j hj=>(hWs j hj).2
  have hvA:DF P (Dh ρ s w) fn A' a0.tmps:=qM hv0 (RZ hJ)
  obtain⟨k5,_,k7⟩:=I9 hS
  have k7:=k7 rfl
  have hch:∀e:MapEntry,∃c:AV×QF,e∈esM.toList→(Cc (Dh ρ s w) c.1 e.key∧(Eg F rd r (Ct P f fn.ntmps (Cu P fn) body) A' W marks sf) c.1=some c.2∧(∀X M,c.2=.ret X M→∃Z,S'=some (Z,M)∧TE X Z)) ∧
      ((∃x∈es,Cc (Dh ρ s w) x.1 e.key∧∃X M,(Eg F rd r (Ct P f fn.ntmps (Cu P fn) body) A' W marks sf) x.1=some (.ret X M))→∃X M,c.2=.ret X M):=by
    intro e
    by_cases he:e∈esM.toList
    · by_cases hr : ∃ x ∈ es, Cc   (Dh    ρ s w) x.1 e.key ∧ ∃ X M, (Eg       F rd r (Ct       P f fn.ntmps (Cu     P fn) body) A' W marks sf) x.1 = some (.ret X M)
      · obtain⟨x,hx1,hx2,X,M,hx3⟩:=hr
        refine⟨(x.1,.ret X M),fun _=>⟨⟨hx2,hx3,fun X' M' h=>?_⟩,fun _=>⟨X,M,rfl⟩⟩⟩
        grind
      · obtain ⟨x, hx1, hx2⟩ := herel.mem e (hperm.mem_iff.2 he)
        obtain⟨o,ho,ho2⟩:=k5 x hx1
        exact⟨(x.1,o),fun _=>⟨⟨hx2.mono hle,ho,ho2⟩,fun h=>absurd h hr⟩⟩
    · exact⟨(.junk,.go),fun h=>absurd h he⟩
  obtain⟨ch,hch⟩:=Classical.axiomOfChoice hch
  have hS0:S'=none∨∃e∈esM.toList,(#[]:Array Nat).contains e.born=false∧∃X M,(ch e).2=.ret X M:=by
    refine k7.imp id fun⟨x,hx,X,M,h⟩=>?_
    obtain⟨e,he,hv⟩:=herel.mem' x hx
    exact⟨e,hperm.mem_iff.1 he,by simp,(hch e (hperm.mem_iff.1 he)).2 ⟨x,hx,hv.mono hle,X,M,h⟩⟩
  refine wpIn_block (wpIn_loop_rounds ((leftOf esM #[]).size+1) ?_)
  refine gT hcode hf hs H2 H3 hb.inv hb.fresh hM hst hb.rnd hrid hjF hn1 hsm hWρ (S:=S') (ch:=ch) ⟨fun e he=>(hch e he).1⟩ ?_ ?_ _ a0 _ #[] (A8k _) hS0 hd0 hvA hmk0
  · intro hn a' w' seen' hd' hv' hmk'
    subst hn
    injection hAF with hAF
    subst hAF
    have hnow:=hd'.now (P:=P) hWs hb.fresh
    exact hq a' w' (Dh ρ s w) ⟨hd'.invN hnow hb.inv hb.fresh,Zu hb.fresh hnow,hd'.frN hnow hb.fresh,hv',hmk'⟩
  · intro Z M hn a' w3 w' seen' ρ1 s1 hd3 hfr1 hinv1 hret hv' hmk'
    subst hn
    simp only[A8G]at hAF
    obtain⟨h2,hset,hAF⟩:=hAF
    injection hAF with hAF
    subst hAF
    have hnx:=hb.fresh s.next (A8H _)
    have hnow:=tf (n:=sf.next) hd3 hWρ hnx hsm hfr1.le hinv1 hret rfl hset
    have hd':=(hd3.ended P hnx hb.inv.lt hsm (n:=sf.next) hfr1).1
    exact hq a' w' (Dh ρ s w) ⟨hd'.invN hnow hb.inv hb.fresh,Zu hb.fresh hnow,hd'.frN hnow hb.fresh,hv',hmk'⟩
end
end
end Go.Proofs.YtoaaclpjkelofaaGreatDoor.Am
set_option linter.all false
namespace Go.Proofs.YtoaaclpjkelofaaGreatDoor.Am
open Go
noncomputable section
section
variable{P:Program}{ρ ρ1 ρ2:DV}{s s1 s2:CO}{w w1 w2:World}
theorem pb(hng:Gp P){F:Gm}(hcall:Du P F.call){f:FuncId}{fn:Func}{g:Operand}{x:CX}{ps:Array Tmp}{assign body:Code}{rnd r:Option Nat}{var:List AV}{marks:List Nat}{s:CO}{res:Da}{ρ:DV}{w:World}{a:Act}{Q:Exit→Act→World→Prop}
    (hf:P.funcs[f]? = some fn) (hx:Hx (Cu P fn) ⟨[],0⟩ g=some x) (hc:Q5 F rnd f (Fz [] var x) ps assign body var marks s=some res) (hb:MQ P fn ρ s w var marks rnd r a)
    (hq:∀a' w' ρ',MR P fn ρ s w res a' w' ρ'→Q (Ip res.exit) a' w'):(Code.rangeFunc g ps assign body).wpIn (NI r) 0 P Q a w:=by
  have hgv:Cc ρ (Fz [] var x) (a.eval g):=SK hb.vars hx
  have res1:∀l:Nat,(resolve a.eval (rangeCall g l) 0:Sem Deferred)=Deferred.ofValue (a.eval g) #[.func (.yield l) #[] #[]]:=by
    intro l
    simp[resolve,Act.eval]
  refine wpIn_rangeFunc fun fn' _=>?_
  unfold Q5 at hc
  cases rnd with
  | some l =>
    simp only[A8G]at hc
    obtain⟨al,hl,hc⟩:=hc
    obtain⟨rb,h1,h2⟩:=hb.rnd
    subst h2
    have hgl:=Ie hl
    obtain⟨L,h0,_,_,_,_,_,⟨rd,iL,ni⟩,_⟩:=(hb.inv.obj _ _ _ hgl h1:Km P ρ w al rb).ex
    have hent:=Lt (P:=P) h0 fn' a.tmps ps assign body
    rw[ni]at hent
    obtain⟨d,f0,args,k1,k2,k3⟩:=SU (r:=some rb.b) (Q:=Q) hng hcall hf hc hb.inv hb.fresh hb.vars hb.marks hgv iL fn' fun w' ρ' h=>hq a w' ρ' h
    refine⟨_,_,_,d,_,f0,args,_,hent,?_,fun _ _=>trivial,k2 _,(fun e=>by cases e),k3⟩
    rw[res1,k1]
    rfl
  | none =>
    have hr:r=none:=hb.rnd
    subst hr
    let rb:RB:=⟨w.heap.size,0,0,0⟩
    have hn0:=(hb.fresh _ (A8H s.next)).1
    have hle:=Dc (rb:=rb) hn0
    obtain⟨hi1,hfr1⟩:=hb.inv.new (o:=.mark) (o':=.deferred (some [])) (rb:=rb) hn0 rfl (World.alloc_heap_new w _)
    have hff:=hb.fresh.new .mark rb
    have iL:EX ρ s.next rb s.next=some rb:=Cf _ _
    obtain⟨d,f0,args,k1,k2,k3⟩:=SU (r:=none) (Q:=Q) (a:={ a with defers:=[{ target:=.collected w.heap.size,args:=#[] }]++a.defers }) hng hcall hf hc hi1 hff (hb.vars.mono hle)
      ⟨rb,a.defers,iL,rfl,hb.marks.mono hle⟩ (hgv.mono hle) iL fn' fun w' ρ' h=>hq _ w' ρ' (MR.trans (r1:=res) (a1:=a) hfr1 h)
    have hsz:(w.alloc (.deferred (some []))).heap.size=w.heap.size+1:=by simp
    rw[hsz]at k1 k3
    refine⟨_,_,_,d,_,f0,args,_,run_enterLoop_outer fn' a.tmps ps assign body,?_,fun _ _=>trivial,k2 _,(fun e=>by cases e),k3⟩
    rw[res1,k1]
    rfl
theorem eg(hm:P.follows .mixedOrders=true)(hng:Gp P){F:Gm}{n:Nat}(h:WV P F n){call:FuncId→List AV→CO→Option (AV×CO)}{round:Nat→List AV→CO→Option (AV×CO)}:OE P ⟨FM F,call,round⟩:=by
  intro f fn c
  have hF:=h.fok hng
  induction c with
  | skip =>
    intro rnd r var marks s res ρ w a Q hf hc hb hq
    injection (show some (⟨.normal,var,marks,s⟩:Da)=some res from hc)with hc
    subst hc
    exact wpIn_skip (hq a w ρ ⟨hb.inv,hb.fresh,Fr.refl _ _ _,hb.vars,hb.marks⟩)
  | label l =>
    intro rnd r var marks s res ρ w a Q hf hc hb hq
    injection (show some (⟨.normal,var,marks,s⟩:Da)=some res from hc)with hc
    subst hc
    exact wpIn_label (hq a w ρ ⟨hb.inv,hb.fresh,Fr.refl _ _ _,hb.vars,hb.marks⟩)
  | ret =>
    intro rnd r var marks s res ρ w a Q hf hc hb hq
    injection (show some (⟨.ret,var,marks,s⟩:Da)=some res from hc)with hc
    subst hc
    exact wpIn_ret (hq a w ρ ⟨hb.inv,hb.fresh,Fr.refl _ _ _,hb.vars,hb.marks⟩)
  | exit id =>
    intro rnd r var marks s res ρ w a Q hf hc hb hq
    injection (show some (⟨.exit id,var,marks,s⟩:Da)=some res from hc)with hc
    subst hc
    exact wpIn_exit (hq a w ρ ⟨hb.inv,hb.fresh,Fr.refl _ _ _,hb.vars,hb.marks⟩)
  | goto l=>intro rnd r var marks s res ρ w a Q hf hc;cases hc
  | refuse u=>intro rnd r var marks s res ρ w a Q hf hc;cases hc
  | region id ops draw =>
    intro rnd r var marks s res ρ w a Q hf hc hb hq
    exact A3R hm hF hc hb hq
  | seq x y ihx ihy =>
    intro rnd r var marks s res ρ w a Q hf hc hb hq
    have hc:FM F rnd (Sb (ML P f fn.ntmps (Cu P fn) x y) (Ct P f fn.ntmps (Cu P fn) x) (Ct P f fn.ntmps (Cu P fn) y)) var marks s=some res:=hc
    rcases Sc (ML P f fn.ntmps (Cu P fn) x y) (Ct P f fn.ntmps (Cu P fn) x) (Ct P f fn.ntmps (Cu P fn) y)with hs | ⟨rm,cb,hs,hr1,hr2⟩
    case inr =>
      rw[hs]at hc
      exact A3W h.code hf hr1 hr2 hc hb hq
    rw[hs]at hc
    have hc:M9 F rnd (Ct P f fn.ntmps (Cu P fn) y) (F.code rnd (Ct P f fn.ntmps (Cu P fn) x) var marks s)=some res:=hc
    unfold M9 at hc
    split at hc<;>first | (cases hc;done) | skip
    rename_i r1 h1
    refine wpIn_seq (h.code f fn x rnd r var marks s r1 ρ w a _ hf h1 hb ?_)
    intro a' w' ρ' g
    unfold Lv at hc
    cases he:r1.exit with
    | normal =>
      rw[he]at hc
      refine h.code f fn y rnd r _ _ _ res ρ' w' a' Q hf hc (g.begins hb) ?_
      intro a2 w2 ρ2 g2
      exact hq a2 w2 ρ2 (MR.trans (r1:=r1) (a1:=a') g.fr g2)
    | exit id =>
      rw[he]at hc
      injection hc with hc
      subst hc
      have:=hq a' w' ρ' g
      rw[he]at this
      exact this
    | ret =>
      rw[he]at hc
      injection hc with hc
      subst hc
      have:=hq a' w' ρ' g
      rw[he]at this
      exact this
  | cond o x y ihx ihy =>
    intro rnd r var marks s res ρ w a Q hf hc hb hq
    simp only[Ct]at hc
    cases ho:Hx (Cu P fn) ⟨[],0⟩ o with
    | none=>rw[ho]at hc;cases hc
    | some z =>
      rw[ho]at hc
      have hc:W2 F rnd (Ct P f fn.ntmps (Cu P fn) x) (Ct P f fn.ntmps (Cu P fn) y) var marks s (Fz [] var z)=some res:=hc
      have hz:=SK hb.vars ho
      unfold W2 at hc
      split at hc<;>first | (cases hc;done) | skip
      rename_i t ht
      rw[ht]at hz
      have hev:a.eval o=.bool t:=by
        generalize a.eval o=y at hz
        cases hz;rfl
      refine wpIn_cond hev ?_
      cases t with
      | true=>exact h.code f fn x rnd r var marks s res ρ w a Q hf hc hb hq
      | false=>exact h.code f fn y rnd r var marks s res ρ w a Q hf hc hb hq
  | block id c ih =>
    intro rnd r var marks s res ρ w a Q hf hc hb hq
    have hc:Q4 id (F.code rnd (Ct P f fn.ntmps (Cu P fn) c) var marks s)=some res:=hc
    unfold Q4 at hc
    split at hc<;>first | (cases hc;done) | skip
    rename_i r1 h1
    refine wpIn_block (h.code f fn c rnd r var marks s r1 ρ w a _ hf h1 hb ?_)
    intro a' w' ρ' g
    unfold Pw at hc
    split at hc
    · rename_i id' he
      rw[he]
      simp only[Ip,Exit.inBlock]
      cases hbq:Nat.beq id' id with
      | true =>
        rw[hbq]at hc
        injection hc with hc
        subst hc
        rw[if_pos (Cv hbq)]
        exact hq a' w' ρ' ⟨g.inv,g.fresh,g.fr,g.vars,g.marks⟩
      | false =>
        rw[hbq]at hc
        injection hc with hc
        subst hc
        have:=hq a' w' ρ' g
        rw[he]at this
        rw[if_neg (fun e=>by subst e;simp at hbq)]
        exact this
    · rename_i hne
      injection hc with hc
      subst hc
      have:=hq a' w' ρ' g
      cases he:r1.exit with
      | normal=>rw[he]at this;exact this
      | ret=>rw[he]at this;exact this
      | exit id'=>exact absurd he (hne id')
  | loop c ih =>
    intro rnd r var marks s res ρ w a Q hf hc hb hq
    have hc:M9 F rnd (.loop (Ct P f fn.ntmps (Cu P fn) c)) (F.code rnd (Ct P f fn.ntmps (Cu P fn) c) var marks s)=some res:=hc
    refine wpIn_loop_rounds (n+1) ?_
    rw[roundsIn_succ]
    unfold M9 at hc
    split at hc<;>first | (cases hc;done) | skip
    rename_i r1 h1
    refine h.code f fn c rnd r var marks s r1 ρ w a _ hf h1 hb ?_
    intro a' w' ρ' g
    unfold Lv at hc
    cases he:r1.exit with
    | normal =>
      rw[he]at hc
      refine h.loop f fn c rnd r _ _ _ res ρ' w' a' Q hf hc (g.begins hb) ?_
      intro a2 w2 ρ2 g2
      exact hq a2 w2 ρ2 (MR.trans (r1:=r1) (a1:=a') g.fr g2)
    | exit id =>
      rw[he]at hc
      injection hc with hc
      subst hc
      have:=hq a' w' ρ' g
      rw[he]at this
      exact this
    | ret =>
      rw[he]at hc
      injection hc with hc
      subst hc
      have:=hq a' w' ρ' g
      rw[he]at this
      exact this
  | scope c ih =>
    intro rnd r var marks s res ρ w a Q hf hc hb hq
    refine bH (ih rnd r var marks s res ρ w a _ hf hc hb ?_)
    intro a' w' ρ' g
    have:=hq a' w' ρ' g
    cases he:res.exit with
    | normal=>rw[he]at this;exact this
    | ret=>rw[he]at this;exact this
    | exit id'=>rw[he]at this;exact this
  | rangeFunc g ps x y ihx ihy =>
    intro rnd r var marks s res ρ w a Q hf hc hb hq
    simp only[Ct]at hc
    cases ho:Hx (Cu P fn) ⟨[],0⟩ g with
    | none=>rw[ho]at hc;cases hc
    | some z =>
      rw[ho]at hc
      exact pb hng h.call hf ho hc hb hq
theorem fw{F:Gm}{n:Nat}(h:WV P F n){call:FuncId→List AV→CO→Option (AV×CO)}{round:Nat→List AV→CO→Option (AV×CO)}:bP P ⟨FM F,call,round⟩ (n+1):=by
  intro f fn c rnd r var marks s res ρ w a Q hf hc hb hq
  have hc:M9 F rnd (.loop (Ct P f fn.ntmps (Cu P fn) c)) (F.code rnd (Ct P f fn.ntmps (Cu P fn) c) var marks s)=some res:=hc
  rw[roundsIn_succ]
  unfold M9 at hc
  split at hc<;>first | (cases hc;done) | skip
  rename_i r1 h1
  refine h.code f fn c rnd r var marks s r1 ρ w a _ hf h1 hb ?_
  intro a' w' ρ' g
  unfold Lv at hc
  cases he:r1.exit with
  | normal =>
    rw[he]at hc
    refine h.loop f fn c rnd r _ _ _ res ρ' w' a' Q hf hc (g.begins hb) ?_
    intro a2 w2 ρ2 g2
    exact hq a2 w2 ρ2 (MR.trans (r1:=r1) (a1:=a') g.fr g2)
  | exit id =>
    rw[he]at hc
    injection hc with hc
    subst hc
    have:=hq a' w' ρ' g
    rw[he]at this
    exact this
  | ret =>
    rw[he]at hc
    injection hc with hc
    subst hc
    have:=hq a' w' ρ' g
    rw[he]at this
    exact this
theorem qx{F:Gm}(hcode:OE P F){f:FuncId}{aS:List AV}{v:AV}{as':Array Value}(hc:Ku P F aS s (CY P f)=some (v,s1))(hi:DU P ρ s w)(hfr:DB ρ s)(ha:Cb ρ aS as'.toList):
  (∃fn c,P.funcs[f]? = some fn∧fn.body=some c)∧CallsIn Fence.wide 0 P f as' w (Ey P ρ s w v s1):=by
 unfold Ku at hc
 simp only[A8G]at hc
 obtain⟨cf,h1,hc⟩:=hc
 unfold CY at h1
 simp only[A8G]at h1
 obtain⟨fn,h2,c,h3,h4⟩:=h1
 obtain⟨h5,h6⟩:=CM h4
 simp only[A8G]at h6
 obtain⟨cr,h7,h8⟩:=h6
 injection h8 with h8
 subst h8
 simp only at hc
 cases hb:Nat.beq aS.length (Gb fn)with
 | false=>rw[hb]at hc;cases hc
 | true =>
  rw[hb]at hc
  simp only[cond_true]at hc
  refine⟨⟨fn,c,h2,h3⟩,callsIn_of_wp_marks h2 h3 trivial ?_⟩
  unfold Px at hc
  simp only[A8G]at hc
  obtain⟨res,hr,hc⟩:=hc
  have hend:dS res.exit=true∧((EL res.st res.marks).bind fun s=>(Dj P s res.var cr).bind fun l=>some (DO l,s))=some (v,s1):=by
   cases he:dS res.exit with
   | true=>rw[he]at hc;exact⟨rfl,hc⟩
   | false=>rw[he]at hc;cases hc
  obtain⟨he,hc⟩:=hend
  simp only[A8G]at hc
  obtain⟨s2,hu,l,hl,hv⟩:=hc
  injection hv with hv
  injection hv with hv1 hv2
  subst hv1
  subst hv2
  have hvars:DF P ρ fn (Ql aS (Cu P fn).length) (as'++Array.replicate (fn.ntmps - as'.size) undef):=uL ha (Cv hb) (by simpa[A8Q]using h5)
  refine hcode f fn c none none _ [] s res ρ w _ _ h2 hr ⟨hi,hfr,hvars,rfl,rfl⟩ ?_
  intro a' w' ρ' g
  have hlv:LeavesInM Fence.wide 0 P fn a'.tmps (Ey P ρ s w (DO l) s2) a'.defers .returning w':=by
   refine Vk g.marks hu g.inv fun w2 k1 k2=>?_
   obtain⟨v',k3,k4⟩:=aT k1 g.vars.rel h7 hl
   exact⟨v',k3,ρ',k4,k1,g.fr.trans k2⟩
  cases hx:res.exit with
  | normal=>exact hlv
  | ret=>exact hlv
  | exit id=>rw[hx]at he;cases he
theorem pj(hng:Gp P){E:Dw}(hE:E.P=P){F:Gm}(hcode:OE P F){l:Nat}{rb:RB}{aS:List AV}{v:AV}{as':Array Value}(hc:Pj E F l aS s=some (v,s1))(hi:DU P ρ s w)(hfr:DB ρ s)(hl:ρ l=some rb)(ha:Cb ρ aS as'.toList):
    Gn P ρ s w v s1 ((Instr.yield rb.b as').run P w):=by
  unfold Pj at hc
  rw[hE]at hc
  simp only[A8G]at hc
  obtain⟨al,h1,var,h2,ca,h3,cb,h4,hc⟩:=hc
  have hg:=Ie h1
  obtain⟨L,h0,_,_,e1,e2,e3,_,hrel,hsz,hlen⟩:=(hi.obj _ _ _ hg hl:Km P ρ w al rb).ex
  unfold HL at h3 h4
  simp only[A8G]at h3 h4
  obtain⟨fn,hf,h3⟩:=h3
  obtain⟨fn2,hf2,h4⟩:=h4
  rw[hf]at hf2
  injection hf2 with hf2
  subst hf2
  injection h3 with h3
  injection h4 with h4
  subst h3
  subst h4
  have hvi:Fu P al.fn=Cu P fn:=by unfold Fu;rw[hf]
  rw[hvi]at hrel hlen h2
  obtain⟨z1,z2,z3,z4⟩:=WP (tmps:=L.tmps) h2 hrel hlen ha
  have hps:as'.size=L.params.size:=by rw[e1];simpa using z4.symm
  rw[run_yield h0 hps]
  refine .round (roundIn_of_wpIn trivial ?_)
  have hfold:(L.params.zip as').foldl (fun tmps (x:Tmp×Value)=>match x with | (t,a)=>tmps.setIfInBounds t a) L.tmps=(al.params.toList.zip as'.toList).foldl (fun tmps (p:Tmp×Value)=>tmps.setIfInBounds p.1 p.2) L.tmps:=by
    rw[← Array.foldl_toList,Array.toList_zip,e1]
  have hfold':(L.params.zip as').foldl (fun tmps (x:Tmp×Value)=>tmps.setIfInBounds x.1 x.2) L.tmps=(al.params.toList.zip as'.toList).foldl (fun tmps (p:Tmp×Value)=>tmps.setIfInBounds p.1 p.2) L.tmps:=hfold
  have hvars:DF P ρ fn var ((al.params.toList.zip as'.toList).foldl (fun tmps (p:Tmp×Value)=>tmps.setIfInBounds p.1 p.2) L.tmps):=⟨z2,z1,by rw[z3];exact hsz fn hf⟩
  unfold Lk at hc
  simp only[A8G]at hc
  obtain⟨q,hq1,hc⟩:=hc
  cases hn:K7 q.exit with
  | false=>rw[hn]at hc;cases hc
  | true =>
    rw[hn]at hc
    simp only[cond_true,A8G]at hc
    obtain⟨r2,hr2,hc⟩:=hc
    cases hrd:J7 r2.state with
    | false=>rw[hrd]at hc;cases hc
    | true =>
      rw[hrd]at hc
      simp only[cond_true]at hc
      unfold Nl at hc
      simp only[A8G]at hc
      obtain⟨q2,hq2,r3,hr3,hc⟩:=hc
      injection hc with hc
      injection hc with hv hs
      subst hv
      subst hs
      have hqn:q.exit=.normal:=by cases he:q.exit<;>rw[he]at hn<;>first | rfl | cases hn
      have hst:r2.state=.ready:=by
        cases he:r2.state<;>rw[he]at hrd<;>first | rfl | cases hrd
      rw[e2,e3]
      refine hcode al.fn fn al.assign (some l) (some rb.b) var [] s q ρ w _ _ hf hq1 ⟨hi,hfr,by first | exact hvars | (simp only[];rw[hfold];exact hvars),rfl,⟨rb,hl,rfl⟩⟩ ?_
      intro a1 w1 ρ1 g1
      rw[hqn]
      have hl1:ρ1 l=some rb:=g1.fr.le _ _ hl
      have hg2:=Ie hr2
      obtain⟨L1,k0,k1,_⟩:=(g1.inv.obj _ _ _ hg2 hl1:Km P ρ1 w1 r2 rb).ex
      obtain⟨i2,f2⟩:=R9 g1.inv hg2 hl1 (st:=.busy) (pd:=r2.pending) k0
      refine⟨_,run_beginRound k0 (by rw[k1,hst]),?_⟩
      have hpd:L1.pending=r2.pending:=by
        obtain⟨L1',k0',_,k2',_⟩:=(g1.inv.obj _ _ _ hg2 hl1:Km P ρ1 w1 r2 rb).ex
        rw[k0]at k0';injection k0' with k0';injection k0' with k0';subst k0';exact k2'
      have hL1:({ L1 with state:=.busy }:Loop)={ L1 with state:=.busy,pending:=r2.pending }:=by rw[← hpd]
      rw[hL1]
      have hal:({ r2 with state:=.busy }:Fv)={ r2 with state:=.busy,pending:=r2.pending }:=rfl
      refine hcode al.fn fn al.body (some l) (some rb.b) q.var q.marks _ q2 ρ1 _ a1 _ hf hq2 ⟨i2,g1.fresh.step f2,g1.vars,g1.marks,⟨rb,hl1,rfl⟩⟩ ?_
      intro a3 w3 ρ3 g3
      have hl3:ρ3 l=some rb:=g3.fr.le _ _ hl1
      have hg3:=Ie hr3
      obtain⟨L3,m0,m1,_⟩:=(g3.inv.obj _ _ _ hg3 hl3:Km P ρ3 w3 r3 rb).ex
      have tot:=g1.fr.trans (f2.trans g3.fr)
      have fin:∀jump:Option Code,Ef q2.exit=jump→∃v w',(Instr.endRound rb.b jump).run P w3=.ok v w'∧Ey P ρ s w (.bool (Ef q2.exit).isNone) (setObj q2.st l (.loop { r3 with state:=IC (Ef q2.exit),pending:=Ef q2.exit })) (.returned v) w':=by
        intro jump hj
        obtain⟨i4,f4⟩:=R9 g3.inv hg3 hl3 (st:=IC jump) (pd:=jump) m0
        refine⟨_,_,run_endRound jump m0,ρ3,?_,?_,?_⟩
        · rw[hj];exact .bool _
        · rw[hj]
          have:(if jump.isNone=true then LoopState.ready else .done)=IC jump:=by cases jump<;>rfl
          rw[this]
          exact i4
        · rw[hj]
          have:(if jump.isNone=true then LoopState.ready else .done)=IC jump:=by cases jump<;>rfl
          rw[this]
          exact tot.trans f4
      cases he:q2.exit with
      | normal=>have:=fin none (by rw[he];rfl);rw[he]at this;exact this
      | ret=>have:=fin (some .ret) (by rw[he];rfl);rw[he]at this;exact this
      | exit id=>have:=fin (some (.exit id)) (by rw[he];rfl);rw[he]at this;exact this
theorem A3r(hm:P.follows .mixedOrders=true)(hng:Gp P){E:Dw}(hE:E.P=P)(hnat:Du P E.nat):∀n,WV P (FI E n) n:=by
  intro n
  induction n with
  | zero =>
    refine⟨?_,?_,?_,?_⟩
    · intro f fn c rnd r var marks s res ρ w a Q hf hc;cases hc
    · intro f fn c rnd r var marks s res ρ w a Q hf hc;cases hc
    · intro ρ s w f aS v s1 as' hc;cases hc
    · intro ρ s w l rb aS v s1 as' hc;cases hc
  | succ n ih =>
    refine⟨eg hm hng ih,fw ih,?_,?_⟩
    · intro ρ s w f aS v s1 as' hc hi hfr ha
      have hc:Ke E (FI E n) f aS s=some (v,s1):=hc
      unfold Ke at hc
      split at hc
      · rename_i p hp
        injection hc with hc
        subst hc
        exact hnat ρ s w f aS _ _ as' hp hi hfr ha
      · rw[hE]at hc
        exact qx ih.code hc hi hfr ha
    · intro ρ s w l rb aS v s1 as' hc hi hfr hl ha
      exact pj hng hE ih.code hc hi hfr hl ha
end
def A0k:Gl:=fun _ _ _=>none
theorem pG(P:Program):Du P A0k:=fun _ _ _ _ _ _ _ _ hc=>by cases hc
def A8D(P:Program):Dw:=⟨P,A0k⟩
def SF (P : Program) : Bool := P.funcs.all fun fn => !(fn.name == "runtime.NumGoroutine")
theorem EI{P:Program}(h:SF P=true):Gp P:=by
 intro f fn hf
 unfold SF at h
 rw[Array.all_eq_true_iff_forall_mem]at h
 have:=h fn (Array.mem_of_getElem? hf)
 simpa using this
def pg:DV:=fun _=>none
def A0p:CO:=⟨0,.leaf⟩
structure Ul(W W':World):Prop where
 heap:∀b,b<W.heap.size→W'.heap[b]? = W.heap[b]?
 os:W'.os=W.os
 output:W'.output=W.output
 size:W.heap.size≤W'.heap.size
theorem sn{ρ ρ':DV}{s s':CO}{w w':World}(h:Fr ρ s w ρ' s' w')(hn:∀b,¬ Hg ρ s b):Ul w w':=
 ⟨fun b hb=>h.keep b hb (hn b),h.os,h.output,h.size⟩
theorem Ul.keptBut{W W':World}(h:Ul W W')(may:MemPlace→Prop):W.keptBut W' may:=by
 refine⟨h.os,h.output,fun i hi=>?_⟩
 rw[h.heap i hi]
 have:W.heap[i]? = some W.heap[i]:=Array.getElem?_eq_getElem hi
 rw[this]
 cases W.heap[i]with
 | cells c t fr=>exact⟨rfl,rfl,rfl,fun _ _=>rfl⟩
 | map es clock=>exact .inr ⟨rfl,rfl⟩
 | _=>rfl
theorem Ul.frozen{W W':World}(h:Ul W W')(a:Addr)(ha:a.block<W.heap.size):W'.frozen? a=W.frozen? a:=by simp[World.frozen?,h.heap _ ha]
section
open Go.ChangeShapes Go.WideShapes
theorem post_of_kept{H:Type}{enc:TypeId×Value→H}{P:Program}{f:Func}{s:ChangeSpec}{apart fresh handsOn again:Bool}{W W':World}{args:Array Value}{v:Value}{ds gs:List (DataW H)}{before pa pv:List MemPlace}
  (hW:DataW.Whole enc P f.params.toList s.vars apart W args.toList ds gs before)
  (hres:∀ (b:Nat) (sp:Nat→Bool) (hd:Bool),DataW.TrodAll enc P W' b sp hd f.resultTypes.toList (v.resultList f.resultTypes.size) (s.fn H (ds++gs)).results [])
  (hargs:∀sp:Nat→Bool,(∀p∈before,sp p.block=true)→DataW.TrodAll enc P W' 0 sp true f.params.toList args.toList (s.fn H (ds++gs)).args pa)
  (hvars:∀sp:Nat→Bool,(∀p∈before,sp p.block=true)→DataW.TrodVars enc P W' sp s.vars (s.fn H (ds++gs)).vars pv)
  (hps:before=pa++pv) (hk:Ul W W')
  (hok:∀ (j:Nat) (t:TypeId) (r:Value),f.resultTypes[j]? = some t→(v.resultList f.resultTypes.size)[j]? = some r→Value.okWide P W' .any 0 t r):
  s.post enc P f apart fresh handsOn again W args v W':=by
 have hold:∀p∈before,(fun b=>decide (b<W.heap.size)) p.block=true:=fun p hp=>by simpa using hW.lt p hp
 refine⟨ds,gs,before,[],pa,pv,hW,hres _ _ _,hargs _ hold,hvars _ hold,World.keptBut_mono (fun p hp=>⟨hp,?_⟩) (hk.keptBut _),fun _=>?_⟩
 ·rw[hps,A8q]at hp
  exact Or.inr hp
 ·have hlt:=hW.lt
  obtain⟨_,_,_,_,_,hz,hn⟩:=hW
  refine⟨hok,_,_,([]++pa)++pv,⟨[]++pa,pv,trodAll_append (hargs _ (fun _ _=>rfl)) (hres _ _ _),hvars _ (fun _ _=>rfl),rfl,?_,?_⟩,?_⟩
  ·intro b off hp
   have hp':MemPlace.cell b off∈before:=by rw[hps];simpa using hp
   rw[hk.frozen _ (hlt _ hp')]
   exact hz b off hp'
  ·intro ha
   have:=hn ha
   rw[hps]at this
   simpa using this
  ·intro p hp _
   rw[hps]
   simpa using hp
end
structure Gm.le(F G:Gm):Prop where
 code:∀ {rnd:Option Nat} {c:Ck} {var:List AV} {marks:List Nat} {s:CO} {r:Da},F.code rnd c var marks s=some r→G.code rnd c var marks s=some r
 call:∀ {f:FuncId} {aS:List AV} {s:CO} {p:AV×CO},F.call f aS s=some p→G.call f aS s=some p
 round:∀ {l:Nat} {aS:List AV} {s:CO} {p:AV×CO},F.round l aS s=some p→G.round l aS s=some p
section
variable{F G:Gm}
theorem Q7(h:F.le G){f:AV}{aS:List AV}{s:CO}{p:AV×CO}(hc:Kw F f aS s=some p):Kw G f aS s=some p:=by
 unfold Kw at hc ⊢
 split at hc
 ·exact h.call hc
 ·exact h.round hc
 ·cases hc
theorem YT(h:F.le G){sh:Sh}{xs:List CX}{loc var:List AV}{s:CO}{p:AV×CO}(hc:A3q F sh xs loc var s=some p):A3q G sh xs loc var s=some p:=by
 cases sh<;>first | exact hc | exact h.call hc | skip
 cases xs with
 | nil=>cases hc
 | cons x xs=>exact Q7 h hc
theorem K8(it:CK)(l:List CK)(loc var:List AV)(s:CO):Ia F (it::l) loc var s=PO F it (Ia F l) loc var s:=rfl
theorem NQ{k k':iS}(hk:∀loc var s p,k loc var s=some p→k' loc var s=some p){ag:List Kh}{d:OC}{loc var:List AV}{v:AV}{s:CO}{p:List AV×CO}(h:GJ ag d k loc var v s=some p):GJ ag d k' loc var v s=some p:=by
 cases d with
 | push =>
  grind [GJ]
 | set j =>
  grind [GJ]
theorem K9(h:F.le G):∀ (l:List CK)(loc var:List AV)(s:CO)(p:List AV×CO),Ia F l loc var s=some p→Ia G l loc var s=some p:=by
 intro l
 induction l with
 | nil=>intro loc var s p hp;exact hp
 | cons it l ih =>
  intro loc var s p hp
  rw[K8]at hp ⊢
  unfold PO at hp ⊢
  cases hj:iM loc var it.guard with
  | true=>grind
  | false =>
  rw[hj]at hp
  simp only at hp ⊢
  cases hw:EN loc var it.guard with
  | true =>
   rw[hw]at hp
   simp only at hp ⊢
   unfold P4 at hp ⊢
   grind [YT,NQ]
  | false =>
   grind [NQ]
theorem Q6(h:F.le G){rnd:Option Nat}{b:Ck}{r res:Da}(hc:Lv F rnd b r=some res):Lv G rnd b r=some res:=by
 unfold Lv at hc ⊢
 split at hc
 ·exact h.code hc
 ·exact hc
theorem VG(h:F.le G){var:List AV}{f:AV}{params:Array Tmp}{assign body:Code}{fn:FuncId}{dfr:Nat}{marks:List Nat}{s:CO}{res:Da}
  (hc:Ix F var f params assign body fn dfr marks s=some res):Ix G var f params assign body fn dfr marks s=some res:=by
 unfold Ix LV at hc ⊢
 simp only[A8G]at hc ⊢
 obtain⟨q,h1,rest⟩:=hc
 have h':Gm.le { F with round:=fun _ _ _=>none } { G with round:=fun _ _ _=>none }:=⟨h.code,h.call,fun h=>by cases h⟩
 grind [Q7]
theorem Sz(h:F.le G){rnd:Option Nat}{r:Ki}{body:Ck}{A:List AV}{W marks:List Nat}{s:CO}{k:AV}{B:QF}(hc:Eg F rnd r body A W marks s k=some B):Eg G rnd r body A W marks s k=some B:=by
 unfold Eg at hc ⊢
 simp only[A8G]at hc ⊢
 obtain⟨q,h1,h2⟩:=hc
 exact⟨q,h.code h1,h2⟩
theorem I8{f g:AV→Option QF}(hf:∀k B,f k=some B→g k=some B):∀ {l:List (AV×AV)}{R C:Option (List AV×List (List AV))},Ij f R l=some C→Ij g R l=some C
  | [],_,_,h=>h
  | e::l,R,C,h=>by
    unfold Ij at h ⊢
    simp only[A8G]at h ⊢
    obtain⟨X,h1,h2⟩:=h
    refine⟨X,hf _ _ h1,?_⟩
    cases X with
    | go=>exact I8 hf h2
    | ret X M =>
      cases R with
      | none=>exact I8 hf h2
      | some Y =>
        simp only at h2 ⊢
        cases hb:A0f Y.2 M with
        | false=>rw[hb]at h2;cases h2
        | true =>
          rw[hb]at h2
          simp only[CU,cond_true,A8G]at h2 ⊢
          obtain⟨Z,h3,h4⟩:=h2
          exact⟨Z,h3,I8 hf h4⟩
theorem YD(h:F.le G){rnd:Option Nat}{r:Ki}{body:Ck}{it:AV}{marks:List Nat}{n:Nat}{t:CT Cg}{A0:List AV}{l:List (AV×AV)}{C:Da}(hc:Mn F rnd r body it marks n t A0 l=some C):Mn G rnd r body it marks n t A0 l=some C:=by
 unfold Mn at hc ⊢
 simp only[A8G]at hc ⊢
 obtain⟨J,h1,A,h2,h3⟩:=hc
 refine⟨J,h1,A,h2,?_⟩
 cases hb:(IG (Hw A r.jt) it && IG (Hw A0 r.jt) it)with
 | false=>rw[hb]at h3;cases h3
 | true =>
  rw[hb]at h3
  simp only[CU,cond_true,A8G]at h3 ⊢
  grind [I8,Sz]
theorem am(h:F.le G){rnd:Option Nat}{c:Ck}{var:List AV}{marks:List Nat}{s:CO}{res:Da}(hc:FM F rnd c var marks s=some res):FM G rnd c var marks s=some res:=by
  cases c with
  | skip=>exact hc
  | ret=>exact hc
  | exit id=>exact hc
  | never=>exact hc
  | ops l =>
    simp only[FM,rK]at hc ⊢
    grind [K9]
  | seq a b =>
    simp only[FM]at hc ⊢
    unfold M9 at hc ⊢
    cases ha:F.code rnd a var marks s with
    | none=>grind
    | some r=>rw[ha]at hc;rw[h.code ha];exact Q6 h hc
  | cond x a b =>
    simp only[FM]at hc ⊢
    unfold W2 at hc ⊢
    split at hc
    · split at hc
      · exact h.code hc
      · exact h.code hc
    · cases hc
  | block id c =>
    simp only[FM]at hc ⊢
    unfold Q4 at hc ⊢
    cases ha:F.code rnd c var marks s with
    | none=>grind
    | some r=>rw[ha]at hc;rw[h.code ha];exact hc
  | loop c =>
    simp only[FM]at hc ⊢
    unfold M9 at hc ⊢
    cases ha:F.code rnd c var marks s with
    | none=>grind
    | some r=>rw[ha]at hc;rw[h.code ha];exact Q6 h hc
  | rangeFunc fn f params assign body =>
    simp only[FM]at hc ⊢
    unfold Q5 at hc ⊢
    grind [VG,Option.bind_eq_some_iff]
  | rangeMap r body =>
    grind [FM,eO,Option.bind_eq_some_iff,YD]
theorem ao(h:F.le G){E:Dw}{f:FuncId}{aS:List AV}{s:CO}{p:AV×CO}(hc:Ke E F f aS s=some p):Ke E G f aS s=some p:=by
 unfold Ke at hc ⊢
 cases hn:E.nat f aS s with
 | some q=>grind
 | none =>
  rw[hn]at hc
  simp only at hc ⊢
  unfold Ku at hc ⊢
  simp only[A8G]at hc ⊢
  obtain⟨cf,h1,h2⟩:=hc
  refine⟨cf,h1,?_⟩
  cases hb:Nat.beq aS.length cf.na with
  | false=>grind
  | true =>
   rw[hb]at h2
   simp only[cond_true]at h2 ⊢
   unfold Px at h2 ⊢
   simp only[A8G]at h2 ⊢
   obtain⟨r,h3,h4⟩:=h2
   exact⟨r,h.code h3,h4⟩
theorem aq(h:F.le G){E:Dw}{l:Nat}{aS:List AV}{s:CO}{p:AV×CO}(hc:Pj E F l aS s=some p):Pj E G l aS s=some p:=by
 unfold Pj at hc ⊢
 simp only[A8G]at hc ⊢
 obtain⟨r,h1,var,h2,ca,h3,cb,h4,hc⟩:=hc
 refine⟨r,h1,var,h2,ca,h3,cb,h4,?_⟩
 unfold Lk at hc ⊢
 simp only[A8G]at hc ⊢
 obtain⟨q,h5,hc⟩:=hc
 refine⟨q,h.code h5,?_⟩
 cases hn:K7 q.exit with
 | false=>grind
 | true =>
  rw[hn]at hc
  simp only[cond_true,A8G]at hc ⊢
  obtain⟨r2,h6,hc⟩:=hc
  refine⟨r2,h6,?_⟩
  cases hr:J7 r2.state with
  | false=>grind
  | true =>
   rw[hr]at hc
   simp only[cond_true]at hc ⊢
   unfold Nl at hc ⊢
   simp only[A8G]at hc ⊢
   obtain⟨q2,h7,rest⟩:=hc
   exact⟨q2,h.code h7,rest⟩
end
theorem V9(E:Dw):∀n,(FI E n).le (FI E (n+1)):=by
 intro n
 induction n with
 | zero=>exact⟨fun h=>(by cases h),fun h=>(by cases h),fun h=>(by cases h)⟩
 | succ n ih=>exact⟨fun h=>am ih h,fun h=>ao ih h,fun h=>aq ih h⟩
theorem Gm.le.refl(F:Gm):F.le F:=⟨id,id,id⟩
theorem Gm.le.trans{F G H:Gm}(h:F.le G)(k:G.le H):F.le H:=⟨fun x=>k.code (h.code x),fun x=>k.call (h.call x),fun x=>k.round (h.round x)⟩
theorem JA(E:Dw){n m:Nat}(h:n≤m):(FI E n).le (FI E m):=by
 induction h with
 | refl=>exact Gm.le.refl _
 | step _ ih=>exact ih.trans (V9 E _)
section
variable(E:Dw)
def WC(rnd:Option Nat)(c:Ck)(Q:Da→Prop)(var:List AV)(marks:List Nat)(s:CO):Prop:=∃n r,(FI E n).code rnd c var marks s=some r∧Q r
def WI(l:List CK)(K:List AV→CO→Prop)(loc var:List AV)(s:CO):Prop:=∃n p,Ia (FI E n) l loc var s=some p∧K p.1 p.2
def WF(f:FuncId)(aS:List AV)(K:AV→CO→Prop)(s:CO):Prop:=∃n p,(FI E n).call f aS s=some p∧K p.1 p.2
def WR(l:Nat)(aS:List AV)(K:AV→CO→Prop)(s:CO):Prop:=∃n p,(FI E n).round l aS s=some p∧K p.1 p.2
end
section
variable{E:Dw}{rnd:Option Nat}{Q Q':Da→Prop}{var loc:List AV}{marks:List Nat}{s:CO}{K K':AV→CO→Prop}{KI:List AV→CO→Prop}
theorem WC.mono{c:Ck}(h:WC E rnd c Q var marks s)(hq:∀r,Q r→Q' r):WC E rnd c Q' var marks s:=let ⟨n,r,h1,h2⟩:=h;⟨n,r,h1,hq r h2⟩
theorem WF.mono{f:FuncId}{aS:List AV}(h:WF E f aS K s)(hq:∀v s',K v s'→K' v s'):WF E f aS K' s:=let ⟨n,r,h1,h2⟩:=h;⟨n,r,h1,hq _ _ h2⟩
theorem WC.skip(h:Q ⟨.normal,var,marks,s⟩):WC E rnd .skip Q var marks s:=⟨1,_,rfl,h⟩
theorem WC.ret(h:Q ⟨.ret,var,marks,s⟩):WC E rnd .ret Q var marks s:=⟨1,_,rfl,h⟩
theorem WC.exit{id:Nat}(h:Q ⟨.exit id,var,marks,s⟩):WC E rnd (.exit id) Q var marks s:=⟨1,_,rfl,h⟩
def eG(E:Dw)(rnd:Option Nat)(b:Ck)(Q:Da→Prop)(r:Da):Prop:=match r.exit with
 | .normal=>WC E rnd b Q r.var r.marks r.st
 | _=>Q r
theorem YQ{a b:Ck}{n:Nat}{r:Da}(h1:(FI E n).code rnd a var marks s=some r)(h2:eG E rnd b Q r):∃m res,M9 (FI E m) rnd b ((FI E m).code rnd a var marks s)=some res∧Q res:=by
 unfold eG at h2
 cases he:r.exit with
 | normal =>
  rw[he]at h2
  obtain⟨m,res,h3,h4⟩:=h2
  refine⟨max n m,res,?_,h4⟩
  rw[(JA E (A9N n m)).code h1]
  simp only[M9,Lv,he]
  exact(JA E (Nat.le_max_right n m)).code h3
 | exit id=>grind [M9,Lv]
 | ret=>grind [M9,Lv]
theorem WC.seq{a b:Ck}(h:WC E rnd a (eG E rnd b Q) var marks s):WC E rnd (.seq a b) Q var marks s:=by
 obtain⟨n,r,h1,h2⟩:=h
 obtain⟨m,res,h3,h4⟩:=YQ h1 h2
 exact⟨m+1,res,h3,h4⟩
theorem WC.loop{c:Ck}(h:WC E rnd c (eG E rnd (.loop c) Q) var marks s):WC E rnd (.loop c) Q var marks s:=by
 obtain⟨n,r,h1,h2⟩:=h
 obtain⟨m,res,h3,h4⟩:=YQ h1 h2
 exact⟨m+1,res,h3,h4⟩
theorem WC.cond{x:CX}{a b:Ck}{t:Bool}(hx:Fz [] var x=.bool t)(h:WC E rnd (bif t then a else b) Q var marks s):WC E rnd (.cond x a b) Q var marks s:=by
 obtain⟨n,r,h1,h2⟩:=h
 refine⟨n+1,r,?_,h2⟩
 show FM (FI E n) rnd (.cond x a b) var marks s=some r
 grind [FM,W2]
def Cs(id:Nat)(Q:Da→Prop)(r:Da):Prop:=match r.exit with
 | .exit id'=>bif Nat.beq id' id then Q ⟨.normal,r.var,r.marks,r.st⟩else Q r
 | _=>Q r
theorem WC.block{id:Nat}{c:Ck}(h:WC E rnd c (Cs id Q) var marks s):WC E rnd (.block id c) Q var marks s:=by
 obtain⟨n,r,h1,h2⟩:=h
 unfold Cs at h2
 have:∃res,Pw id r=some res∧Q res:=by
  unfold Pw
  grind
 obtain⟨res,h3,h4⟩:=this
 refine⟨n+1,res,?_,h4⟩
 show FM (FI E n) rnd (.block id c) var marks s=some res
 grind [FM,Q4]
theorem WC.ops{l:List CK}(h:WI E l (fun v s'=>Q ⟨.normal,v,marks,s'⟩) [] var s):WC E rnd (.ops l) Q var marks s:=by
 obtain⟨n,p,h1,h2⟩:=h
 refine⟨n+1,⟨.normal,p.1,marks,p.2⟩,?_,h2⟩
 show FM (FI E n) rnd (.ops l) var marks s=_
 grind [FM,rK]
theorem WI.nil(h:KI var s):WI E [] KI loc var s:=⟨0,_,rfl,h⟩
def A3u(E:Dw)(ag:List Kh)(d:OC)(l:List CK)(KI:List AV→CO→Prop)(loc var:List AV)(v:AV)(s:CO):Prop:=match d with
 | .push=>JE s (v::loc) var ag=true∧WI E l KI (v::loc) var s
 | .set j=>JE s loc (upd v var j) ag=true∧WI E l KI loc (upd v var j) s
theorem cY{ag:List Kh}{d:OC}{l:List CK}{v:AV}(h:A3u E ag d l KI loc var v s):∃n p,(∀m,n≤m→GJ ag d (Ia (FI E m) l) loc var v s=some p)∧KI p.1 p.2:=by
 cases d with
 | push =>
  obtain⟨h1,n,p,h2,h3⟩:=h
  exact⟨n,p,fun m hm=>by simp only[GJ,h1,cond_true];exact K9 (JA E hm) _ _ _ _ _ h2,h3⟩
 | set j =>
  obtain⟨h1,n,p,h2,h3⟩:=h
  exact⟨n,p,fun m hm=>by simp only[GJ,h1,cond_true];exact K9 (JA E hm) _ _ _ _ _ h2,h3⟩
theorem WI.item{it:CK}{l:List CK}{n:Nat}{p:AV×CO}(hj:iM loc var it.guard=false)(hw:EN loc var it.guard=true)(hs:A3q (FI E n) it.sh it.xs loc var s=some p)(h:A3u E it.again it.dst l KI loc var p.1 p.2):WI E (it::l) KI loc var s:=by
 obtain⟨m,q,h1,h2⟩:=cY h
 refine⟨max n m,q,?_,h2⟩
 rw[K8]
 unfold PO
 rw[hj,hw]
 simp only[P4,YT (JA E (A9N n m)) hs]
 grind
theorem WI.off{it:CK}{l:List CK}(hj:iM loc var it.guard=false)(hw:EN loc var it.guard=false)(h:A3u E [] it.dst l KI loc var Cx s):WI E (it::l) KI loc var s:=by
 obtain⟨m,q,h1,h2⟩:=cY h
 refine⟨m,q,?_,h2⟩
 simp_all[K8,PO]
def Ends(P:Program)(rs:List (CX×Option TypeId))(K:AV→CO→Prop)(r:Da):Prop:=dS r.exit=true∧∃s',EL r.st r.marks=some s'∧∃l,Dj P s' r.var rs=some l∧K (DO l) s'
theorem WF.body{f:FuncId}{aS:List AV}{cf:Cr}(hn:E.nat f aS s=none)(hf:CY E.P f=some cf)(ha:aS.length=cf.na)(h:WC E none cf.body (Ends E.P cf.results K) (Ql aS cf.nv) [] s):WF E f aS K s:=by
 obtain⟨n,r,h1,h2,s',h3,l,h4,h5⟩:=h
 refine⟨n+1,(DO l,s'),?_,h5⟩
 show Ke E (FI E n) f aS s=_
 simp_all[Ke,Ku,Px]
theorem WF.nat{f:FuncId}{aS:List AV}{p:AV×CO}(hn:E.nat f aS s=some p)(h:K p.1 p.2):WF E f aS K s:=⟨1,p,by show Ke E (FI E 0) f aS s=_;simp[Ke,hn],h⟩
end
def Jj{α:Type}(x:Option α)(K:α→Prop):Prop:=match x with
 | some v=>K v
 | none=>False
theorem Qm{α:Type}(v:α)(K:α→Prop):Jj (some v) K=K v:=Eq.trans rfl rfl
section
variable(E:Dw)
def Qe(f:AV)(aS:List AV)(K:AV→CO→Prop)(s:CO):Prop:=match f with
 | .func f first cap=>WF E f (first++(aS++cap)) K s
 | .yield l=>WR E l aS K s
 | _=>False
def Qc(sh:Sh)(xs:List AV)(K:AV→CO→Prop)(s:CO):Prop:=match sh with
 | .p1 f=>match xs with
  | a::_=>Jj (f a) (fun v=>K v s)
  | []=>False
 | .p2 f=>match xs with
  | a::b::_=>Jj (f a b) (fun v=>K v s)
  | _=>False
 | .p f=>Jj (f xs) (fun v=>K v s)
 | .r1 f=>match xs with
  | a::_=>Jj (f s a) (fun v=>K v s)
  | []=>False
 | .r f=>Jj (f s xs) (fun v=>K v s)
 | .mk f=>Jj (f xs) (fun p=>K (p.2.val s.next) (newObj s p.1))
 | .e f=>Jj (f s xs) (fun p=>K p.1 p.2)
 | .call f=>WF E f xs K s
 | .callv=>match xs with
  | f::aS=>Qe E f aS K s
  | []=>False
def Qh (loc var:List AV):List CX→List AV
 | []=>[]
 | x::l=>Fz loc var x::Qh loc var l
def Qn(s:CO)(loc var:List AV):List Kh→Prop
 | []=>True
 | r::l=>JD s loc var r=true∧Qn s loc var l
def Qd(ag:List Kh)(d:OC)(loc var:List AV)(k:List AV→List AV→CO→Prop)(v:AV)(s:CO):Prop:=match d with
 | .push=>Qn s (v::loc) var ag∧k (v::loc) var s
 | .set j=>Qn s loc (upd v var j) ag∧k loc (upd v var j) s
def KU(v:AV)(x y:List AV→List Nat→CO→Prop)(var:List AV)(marks:List Nat)(s:CO):Prop:=match v with
 | .bool true=>x var marks s
 | .bool false=>y var marks s
 | _=>False
def Nr(k:List AV→List Nat→CO→Prop)(Q:Da→Prop)(r:Da):Prop:=match r.exit with
 | .normal=>k r.var r.marks r.st
 | _=>Q r
def A6k(j b:Bool)(sh:Sh)(xs:List AV)(ag:List Kh)(d:OC)(loc var:List AV)(k:List AV→List AV→CO→Prop)(s:CO):Prop:=match j,b with
 | true,_=>False
 | false,true=>Qc E sh xs (Qd ag d loc var k) s
 | false,false=>Qd [] d loc var k Cx s
def Qb:List CK→(List AV→CO→Prop)→List AV→List AV→CO→Prop
 | [],K,_,var,s=>K var s
 | it::l,K,loc,var,s=>A6k E (iM loc var it.guard) (EN loc var it.guard) it.sh (Qh loc var it.xs) it.again it.dst loc var (Qb l K) s
def Qa(rnd:Option Nat):Ck→(Da→Prop)→List AV→List Nat→CO→Prop
 | .skip,Q,var,marks,s=>Q ⟨.normal,var,marks,s⟩
 | .ret,Q,var,marks,s=>Q ⟨.ret,var,marks,s⟩
 | .exit id,Q,var,marks,s=>Q ⟨.exit id,var,marks,s⟩
 | .never,_,_,_,_=>False
 | .ops l,Q,var,marks,s=>Qb E l (fun v s'=>Q ⟨.normal,v,marks,s'⟩) [] var s
 | .seq a b,Q,var,marks,s=>Qa rnd a (Nr (Qa rnd b Q) Q) var marks s
 | .cond x a b,Q,var,marks,s=>KU (Fz [] var x) (Qa rnd a Q) (Qa rnd b Q) var marks s
 | .block id c,Q,var,marks,s=>Qa rnd c (Cs id Q) var marks s
 | .loop c,Q,var,marks,s=>WC E rnd (.loop c) Q var marks s
 | .rangeFunc fn f ps a b,Q,var,marks,s=>WC E rnd (.rangeFunc fn f ps a b) Q var marks s
 | .rangeMap r b,Q,var,marks,s=>WC E rnd (.rangeMap r b) Q var marks s
end
section
variable{E:Dw}{rnd:Option Nat}{Q Q':Da→Prop}{var loc:List AV}{marks:List Nat}{s:CO}{K K':AV→CO→Prop}{KI:List AV→CO→Prop}
theorem d8:∀ (l:List CX),Qh loc var l=HK loc var l
 | []=>rfl
 | x::l=>by show Fz loc var x::Qh loc var l=Fz loc var x::HK loc var l;rw[d8 l]
theorem QL:∀ {l:List Kh},Qn s loc var l→JE s loc var l=true
 | [],_=>rfl
 | r::l,h=>by show(JD s loc var r && JE s loc var l)=true;rw[h.1,QL h.2];rfl
theorem KG{α:Type}{x:Option α}{K:α→Prop}(h:Jj x K):∃v,x=some v∧K v:=by
 cases x with
 | none=>exact h.elim
 | some v=>exact⟨v,rfl,h⟩
theorem uO{f:AV}{aS:List AV}(h:Qe E f aS K s):∃n p,Kw (FI E n) f aS s=some p∧K p.1 p.2:=by
 cases f with
 | func f first cap=>obtain⟨n,p,h1,h2⟩:=h;exact⟨n,p,h1,h2⟩
 | yield l=>obtain⟨n,p,h1,h2⟩:=h;exact⟨n,p,h1,h2⟩
 | _=>exact h.elim
theorem uN{sh:Sh}{xs:List CX}(h:Qc E sh (Qh loc var xs) K s):∃n p,A3q (FI E n) sh xs loc var s=some p∧K p.1 p.2:=by
  rw[d8]at h
  cases sh with
  | p1 f =>
    cases xs with
    | nil=>exact h.elim
    | cons x l =>
      obtain⟨v,h1,h2⟩:=KG h
      exact⟨0,(v,s),by show HF s (f (Fz loc var x))=_;rw[h1];rfl,h2⟩
  | p2 f =>
    cases xs with
    | nil=>exact h.elim
    | cons x l =>
      cases l with
      | nil=>exact h.elim
      | cons y l =>
        obtain⟨v,h1,h2⟩:=KG h
        exact⟨0,(v,s),by show HF s (f (Fz loc var x) (Fz loc var y))=_;rw[h1];rfl,h2⟩
  | p f =>
    obtain⟨v,h1,h2⟩:=KG h
    exact⟨0,(v,s),by show HF s (f (HK loc var xs))=_;rw[h1];rfl,h2⟩
  | r1 f =>
    cases xs with
    | nil=>exact h.elim
    | cons x l =>
      obtain⟨v,h1,h2⟩:=KG h
      exact⟨0,(v,s),by show HF s (f s (Fz loc var x))=_;rw[h1];rfl,h2⟩
  | r f =>
    obtain⟨v,h1,h2⟩:=KG h
    exact⟨0,(v,s),by show HF s (f s (HK loc var xs))=_;rw[h1];rfl,h2⟩
  | mk f =>
    obtain⟨v,h1,h2⟩:=KG h
    exact⟨0,(v.2.val s.next,newObj s v.1),by show Xl s (f (HK loc var xs))=_;rw[h1];rfl,h2⟩
  | e f =>
    obtain⟨v,h1,h2⟩:=KG h
    exact⟨0,v,h1,h2⟩
  | call f=>obtain⟨n,p,h1,h2⟩:=h;exact⟨n,p,h1,h2⟩
  | callv =>
    cases xs with
    | nil=>exact h.elim
    | cons x l=>exact uO h
theorem uM:∀ {l:List CK}{loc var:List AV}{s:CO},Qb E l KI loc var s→WI E l KI loc var s:=by
 intro l
 induction l with
 | nil=>intro loc var s h;exact WI.nil h
 | cons it l ih =>
  intro loc var s h
  have dst:∀ {ag:List Kh} {v:AV} {s:CO},Qd ag it.dst loc var (Qb E l KI) v s→A3u E ag it.dst l KI loc var v s:=by
   intro ag v s h
   unfold Qd at h
   unfold A3u
   cases hd:it.dst with
   | push=>rw[hd]at h;exact⟨QL h.1,ih h.2⟩
   | set j=>rw[hd]at h;exact⟨QL h.1,ih h.2⟩
  unfold Qb at h
  cases hj:iM loc var it.guard with
  | true=>rw[hj]at h;exact h.elim
  | false =>
  rw[hj]at h
  cases hw:EN loc var it.guard with
  | true =>
   rw[hw]at h
   have h:Qc E it.sh (Qh loc var it.xs) (Qd it.again it.dst loc var (Qb E l KI)) s:=h
   obtain⟨n,p,h1,h2⟩:=uN h
   exact WI.item hj hw h1 (dst h2)
  | false =>
   rw[hw]at h
   have h:Qd [] it.dst loc var (Qb E l KI) Cx s:=h
   exact WI.off hj hw (dst h)
theorem HB:∀ {c:Ck}{Q:Da→Prop}{var:List AV}{marks:List Nat}{s:CO},Qa E rnd c Q var marks s→WC E rnd c Q var marks s:=by
 intro c
 induction c with
 | skip=>intro Q var marks s h;exact WC.skip h
 | ret=>intro Q var marks s h;exact WC.ret h
 | exit id=>intro Q var marks s h;exact WC.exit h
 | never=>intro Q var marks s h;exact h.elim
 | ops l=>intro Q var marks s h;exact WC.ops (uM h)
 | seq a b iha ihb =>
  intro Q var marks s h
  refine WC.seq ((iha h).mono ?_)
  intro r hr
  unfold Nr at hr
  unfold eG
  cases he:r.exit with
  | normal=>rw[he]at hr;exact ihb hr
  | exit id=>rw[he]at hr;exact hr
  | ret=>rw[he]at hr;exact hr
 | cond x a b iha ihb =>
  intro Q var marks s h
  unfold Qa KU at h
  split at h<;>first | exact h.elim | skip
  ·rename_i ht;exact WC.cond ht (iha h)
  ·rename_i ht;exact WC.cond ht (ihb h)
 | block id c ih=>intro Q var marks s h;exact WC.block (ih h)
 | loop c _=>intro Q var marks s h;exact h
 | rangeFunc fn f ps a b=>intro Q var marks s h;exact h
 | rangeMap r b _=>intro Q var marks s h;exact h
theorem WC.loop'{c:Ck}(h:Qa E rnd c (Nr (WC E rnd (.loop c) Q) Q) var marks s):WC E rnd (.loop c) Q var marks s:=by
 refine WC.loop ((HB h).mono ?_)
 intro r hr
 unfold Nr at hr
 unfold eG
 cases he:r.exit with
 | normal=>rw[he]at hr;exact hr
 | exit id=>rw[he]at hr;exact hr
 | ret=>rw[he]at hr;exact hr
theorem WF.body'{f:FuncId}{aS:List AV}{cf:Cr}(hn:E.nat f aS s=none)(hf:CY E.P f=some cf)(ha:aS.length=cf.na)(h:Qa E none cf.body (Ends E.P cf.results K) (Ql aS cf.nv) [] s):WF E f aS K s:=WF.body hn hf ha (HB h)
end
theorem Qq(a:AV)(l:List AV):Hw (a::l) 0=a:=rfl
theorem Qr(a:AV)(l:List AV)(n:Nat):Hw (a::l) (n+1)=Hw l n:=rfl
theorem Qo(v a:AV)(l:List AV):upd v (a::l) 0=v::l:=rfl
theorem Qp(v a:AV)(l:List AV)(n:Nat):upd v (a::l) (n+1)=a::upd v l n:=rfl
theorem Qk(loc var:List AV)(i:Nat):Fz loc var (.loc i)=Hw loc i:=rfl
theorem Qj(loc var:List AV)(i:Nat):Fz loc var (.var i)=Hw var i:=rfl
theorem Qi(loc var:List AV)(v:AV):Fz loc var (.const v)=v:=rfl
theorem Qf(loc var:List AV):EN loc var none=true:=rfl
theorem Qg(loc var:List AV)(x:CX)(b:Bool):EN loc var (some (x,b))=A3J b (Fz loc var x):=rfl
theorem Qs(E:Dw)(sh:Sh)(xs:List AV)(ag:List Kh)(d:OC)(loc var:List AV)(k:List AV→List AV→CO→Prop)(s:CO):A6k E false true sh xs ag d loc var k s=Qc E sh xs (Qd ag d loc var k) s:=rfl
theorem Qt(E:Dw)(sh:Sh)(xs:List AV)(ag:List Kh)(d:OC)(loc var:List AV)(k:List AV→List AV→CO→Prop)(s:CO):A6k E false false sh xs ag d loc var k s=Qd [] d loc var k Cx s:=rfl
theorem Qy(x y:List AV→List Nat→CO→Prop)(var:List AV)(m:List Nat)(s:CO):KU (.bool true) x y var m s=x var m s:=rfl
theorem Qz(x y:List AV→List Nat→CO→Prop)(var:List AV)(m:List Nat)(s:CO):KU (.bool false) x y var m s=y var m s:=rfl
theorem Ra(k:List AV→List Nat→CO→Prop)(Q:Da→Prop)(v:List AV)(m:List Nat)(s:CO):Nr k Q ⟨.normal,v,m,s⟩=k v m s:=rfl
theorem Rb(k:List AV→List Nat→CO→Prop)(Q:Da→Prop)(v:List AV)(m:List Nat)(s:CO):Nr k Q ⟨.ret,v,m,s⟩=Q ⟨.ret,v,m,s⟩:=rfl
theorem Rc(k:List AV→List Nat→CO→Prop)(Q:Da→Prop)(id:Nat)(v:List AV)(m:List Nat)(s:CO):Nr k Q ⟨.exit id,v,m,s⟩=Q ⟨.exit id,v,m,s⟩:=rfl
theorem Rd(id:Nat)(Q:Da→Prop)(v:List AV)(m:List Nat)(s:CO):Cs id Q ⟨.normal,v,m,s⟩=Q ⟨.normal,v,m,s⟩:=rfl
theorem Re(id:Nat)(Q:Da→Prop)(v:List AV)(m:List Nat)(s:CO):Cs id Q ⟨.ret,v,m,s⟩=Q ⟨.ret,v,m,s⟩:=rfl
theorem Rf(id id':Nat)(Q:Da→Prop)(v:List AV)(m:List Nat)(s:CO):Cs id Q ⟨.exit id',v,m,s⟩=if id'=id then Q ⟨.normal,v,m,s⟩else Q ⟨.exit id',v,m,s⟩:=by
 unfold Cs
 by_cases h:id'=id
 ·subst h;simp
 ·have:Nat.beq id' id=false:=by
   cases hb:Nat.beq id' id with
   | true=>exact absurd (A8R hb) h
   | false=>rfl
  simp[h,this]
theorem Rg(P:Program)(rs:List (CX×Option TypeId))(K:AV→CO→Prop)(v:List AV)(m:List Nat)(s:CO):Ends P rs K ⟨.ret,v,m,s⟩=Jj (EL s m) (fun s'=>Jj (Dj P s' v rs) (fun l=>K (DO l) s')):=by
 unfold Ends
 apply propext
 constructor
 ·rintro⟨_,s',h1,l,h2,h3⟩
  have h1:EL s m=some s':=h1
  have h2:Dj P s' v rs=some l:=h2
  rw[h1,Qm,h2,Qm];exact h3
 ·intro h
  obtain⟨s',h1,h⟩:=KG h
  obtain⟨l,h2,h3⟩:=KG h
  exact⟨rfl,s',h1,l,h2,h3⟩
theorem Rh(P:Program)(rs:List (CX×Option TypeId))(K:AV→CO→Prop)(v:List AV)(m:List Nat)(s:CO):Ends P rs K ⟨.normal,v,m,s⟩=Jj (EL s m) (fun s'=>Jj (Dj P s' v rs) (fun l=>K (DO l) s')):=by
 rw[← Rg];rfl
theorem Ri(s:CO):EL s []=some s:=rfl
theorem Rk(P:Program)(s:CO)(v:List AV):Dj P s v []=some []:=rfl
theorem Rm(P:Program)(s:CO)(v:List AV)(x:CX)(l:List (CX×Option TypeId)):Dj P s v ((x,none)::l)=(Dj P s v l).bind fun r=>some (Fz [] v x::r):=rfl
theorem Rn(v:AV):DO [v]=v:=rfl
theorem Ro:DO []=.tuple []:=rfl
theorem Rq(v w:AV)(l:List AV):DO (v::w::l)=.tuple (v::w::l):=rfl
theorem Qu(loc var:List AV):iM loc var none=false:=rfl
theorem Qv(loc var:List AV)(x:CX)(b:Bool):iM loc var (some (x,b))=A3K (Fz loc var x):=rfl
theorem Qw(b:Bool):A3K (.bool b)=false:=rfl
theorem Qx:A3K Cx=false:=rfl
theorem Rs(w:Bool):A3J w Cx=false:=rfl
theorem Rt(b:Bool):A3J true (.bool b)=b:=by cases b<;>rfl
theorem Ru(b:Bool):A3J false (.bool b)=!b:=by cases b<;>rfl
theorem Ya:(!true)=false:=rfl
theorem Yb:(!false)=true:=rfl
theorem Yc{α β:Type _}(a:α)(f:α→Option β):(some a).bind f=f a:=rfl
theorem Yd{α:Type _}(a:α)(l:List α):(a::l)[0]? = some a:=rfl
theorem Ye{α:Type _}(a:α)(l:List α)(i:Nat):(a::l)[i+1]? = l[i]? := rfl
abbrev iv(n:Int):AV:=.int .i64 n
def i64(n:Int):Prop:=-9223372036854775808≤n∧n<9223372036854775808
theorem qR{k:IntKind}{n:Int}(h:D7 k n=true):Kf k n=n:=by unfold Kf;rw[h];rfl
theorem Do{n:Int}(h:i64 n):D7 .i64 n=true:=by
 obtain⟨h1,h2⟩:=h
 cases n with
 | ofNat m=>simp only[D7,A8Q];simp at h2;omega
 | negSucc m=>simp only[D7,A8Q];omega
theorem Sm{n:Int}(h:i64 n):Kf .i64 n=n:=qR (Do h)
section
variable(P:Program)(t:TypeId)(a b:Int)
theorem Rz:Ch P .lss t (iv a) (iv b)=some (.bool (decide (a<b))):=by
 show some (AV.bool (WQ a b))=_
 rw[Hq]
theorem Wa:Ch P .gtr t (iv a) (iv b)=some (.bool (decide (b<a))):=by
 show some (AV.bool (WQ b a))=_
 rw[Hq]
theorem Wb:Ch P .leq t (iv a) (iv b)=some (.bool (decide (a≤b))):=by
 show some (AV.bool (!WQ b a))=_
 rw[Hq,← decide_not]
 congr 3
 exact propext Int.not_lt
theorem Wc:Ch P .geq t (iv a) (iv b)=some (.bool (decide (b≤a))):=by
 show some (AV.bool (!WQ a b))=_
 rw[Hq,← decide_not]
 congr 3
 exact propext Int.not_lt
theorem Wd:Ch P .eql t (iv a) (iv b)=some (.bool (decide (a=b))):=by
 show some (AV.bool (Zn a b))=_
 rw[Hn];rfl
theorem We:Ch P .neq t (iv a) (iv b)=some (.bool (decide (a≠b))):=by
 show some (AV.bool (!Zn a b))=_
 rw[Hn,decide_not];rfl
theorem Db(h:i64 (a+b)):Ch P .add t (iv a) (iv b)=some (iv (a+b)):=by
 show some (AV.int .i64 (Kf .i64 (a+b)))=_
 rw[Sm h]
theorem Pt(h:i64 (a - b)):Ch P .sub t (iv a) (iv b)=some (iv (a - b)):=by
 show some (AV.int .i64 (Kf .i64 (a - b)))=_
 rw[Sm h]
theorem Wf(c:Bool):Yu P .not (.bool c)=some (.bool (!c)):=rfl
end
def DL(b:Nat)(s s':CO):Prop:=s.next≤s'.next∧∀i,i<b→s'.heap.get i=s.heap.get i
theorem DL.refl(b:Nat)(s:CO):DL b s s:=⟨A8H _,fun _ _=>rfl⟩
theorem DL.trans{b:Nat}{s s1 s2:CO}(h:DL b s s1)(k:DL b s1 s2):DL b s s2:=⟨A8Z h.1 k.1,fun i hi=>(k.2 i hi).trans (h.2 i hi)⟩
theorem DL.mono{b b':Nat}{s s1:CO}(h:DL b s s1)(k:b'≤b):DL b' s s1:=⟨h.1,fun i hi=>h.2 i (A8L hi k)⟩
theorem DH(s:CO)(o:Cg)(j:Nat):(newObj s o).heap.get j=if j=s.next then some o else s.heap.get j:=CT.get_set _ _ _ _
theorem RU(s:CO)(i:Nat)(o:Cg)(j:Nat):(setObj s i o).heap.get j=if j=i then some o else s.heap.get j:=CT.get_set _ _ _ _
theorem RT(s:CO)(i j:Nat):(Eo s i).heap.get j=if j=i then none else s.heap.get j:=CT.get_del _ _ _
theorem DL.new(s:CO)(o:Cg):DL s.next s (newObj s o):=⟨A8s _,fun i hi=>by rw[DH,if_neg (by omega)]⟩
theorem Of{s:CO}{i o:Nat}{r:FP}{u:AV}(h:s.heap.get i=some (.row r))(ho:o<r.n)(hc:r.c.get o=some u):FQ s i o=some u:=by
 have hb:Nat.blt o r.n=true:=by simpa[A8Y]using ho
 simp[FQ,rowAt,h,CU,hb,hc]
def Jq(b:Nat)(s:CO)(a:Option (Nat×Nat))(cs:List AV):Prop:=∀k u,cs[k]? = some u→∃i o,a=some (i,o)∧i<b∧FQ s i (o+k)=some u
theorem Jq.nil{b:Nat}{s:CO}{a:Option (Nat×Nat)}:Jq b s a []:=fun k u h=>by simp at h
theorem UG(k:Nat):dY (k:Int)=some k:=rfl
theorem Cj{P:Program}{t e:TypeId}{n:Nat}(ht:P.underlying t=some (.slice e))(hs:DZ P e=some n){i o len k:Nat}{cap:Option Nat}(hk:k<len):
  CQ P t (.slice (some (i,o)) len cap) (iv (k:Int))=some (.ptr (some (i,o+k * n))):=by
 have hb:Nat.blt k len=true:=by simpa[A8Y]using hk
 simp[CQ,idxOf,UG,ht,hs,CU,hb]
theorem DQ{P:Program}{t e:TypeId}(ht:P.underlying t=some (.slice e)){s:CO}{a:Option (Nat×Nat)}{n:Nat}{cap:Option Nat}:D9 P s t (.slice a n cap)=some (iv (n:Int)):=by
 simp[D9,ht]
theorem EA{a b:Nat}(h:a≤b):Nat.ble a b=true:=by simpa[A8Q]using h
theorem OK{a b:Nat}(h:a<b):Nat.blt a b=true:=by simpa[A8Y]using h
theorem JF{a b:Nat}(h:a=b):Nat.beq a b=true:=by subst h;simp
theorem Iw{a b:Nat}(h:a≠b):Nat.beq a b=false:=by
 cases hb:Nat.beq a b with
 | true=>exact absurd (A8R hb) h
 | false=>rfl
theorem Pu{a b:Nat}(h:b<a):Nat.ble a b=false:=by
 cases hb:Nat.ble a b with
 | true=>rw[A8Q]at hb;omega
 | false=>rfl
theorem dw{t:CT AV}:∀ (cs:List AV)(k:Nat),(∀j u,cs[j]? = some u→t.get (k+j)=some u)→t.take k cs.length=some cs:=by
 intro cs
 induction cs with
 | nil=>intro k _;rfl
 | cons c cs ih =>
  intro k h
  have h0:=h 0 c rfl
  simp only[A8P,CT.take_succ]
  rw[show k+0=k from rfl]at h0
  rw[h0]
  simp only
  rw[ih (k+1) (fun j u hj=>by rw[show k+1+j=k+(j+1)from by omega];exact h (j+1) u (by simpa using hj))]
def Holds(r:FP)(cs:List AV):Prop:=r.n=cs.length∧∀k u,cs[k]? = some u→r.c.get k=some u
theorem Holds.take{r:FP}{cs:List AV}(h:Holds r cs)(o:Nat)(l:List AV)(hl:∀j u,l[j]? = some u→cs[o+j]? = some u):r.c.take o l.length=some l:=
 dw l o fun j u hj=>h.2 _ u (hl j u hj)
theorem Xj{s:CO}{i:Nat}{r:FP}{cs:List AV}(hg:s.heap.get i=some (.row r))(h:Holds r cs)(o:Nat)(l:List AV)(hle:o+l.length≤cs.length)(hl:∀j u,l[j]? = some u→cs[o+j]? = some u):
  Di s i o l.length=some l:=by
 simp[Di,rowAt,hg,CU,h.1,EA hle,h.take o l hl]
structure Jr(e:TypeId)(lo hi:Nat)(s:CO)(v:AV)(n sz:Nat)(cs:List AV)(i:Nat)(p:Option Nat):Prop where
 len:cs.length=n * sz
 ex:(v=.slice none 0 (some 0)∧n=0)∨(v=.slice (some (i,0)) n none∧lo≤i∧i<hi∧(∀q,p=some q→lo≤q∧q<hi∧q≠i) ∧
  ∃r,s.heap.get i=some (.row r)∧Holds r cs∧r.spare=true∧r.mode=.own∧r.sz=sz∧r.par=p∧r.elem=e)
theorem Jr.zero(e:TypeId)(lo hi:Nat)(s:CO)(sz:Nat)(i:Nat)(p:Option Nat):Jr e lo hi s (.slice none 0 (some 0)) 0 sz [] i p:=⟨by simp,.inl ⟨rfl,rfl⟩⟩
theorem Jr.frame{e:TypeId}{lo hi:Nat}{s s':CO}{v:AV}{n sz:Nat}{cs:List AV}{i:Nat}{p:Option Nat}(h:Jr e lo hi s v n sz cs i p)(k:lo≤i→i<hi→s'.heap.get i=s.heap.get i):Jr e lo hi s' v n sz cs i p:=by
 refine⟨h.len,?_⟩
 rcases h.ex with h1 | ⟨h1,h2,h3,h4,r,h5,h6⟩
 ·exact .inl h1
 ·exact .inr ⟨h1,h2,h3,h4,r,by rw[k h2 h3];exact h5,h6⟩
theorem Jr.mono{e:TypeId}{lo hi hi':Nat}{s:CO}{v:AV}{n sz:Nat}{cs:List AV}{i:Nat}{p:Option Nat}(h:Jr e lo hi s v n sz cs i p)(k:hi≤hi'):Jr e lo hi' s v n sz cs i p:=by
 refine⟨h.len,?_⟩
 rcases h.ex with h1 | ⟨h1,h2,h3,h4,rest⟩
 ·exact .inl h1
 ·exact .inr ⟨h1,h2,by omega,fun q hq=>⟨(h4 q hq).1,by have:=(h4 q hq).2.1;omega,(h4 q hq).2.2⟩,rest⟩
theorem Jr.cells{e:TypeId}{lo hi:Nat}{s:CO}{v:AV}{n sz:Nat}{cs:List AV}{i:Nat}{p:Option Nat}(h:Jr e lo hi s v n sz cs i p):∃a cap,v=.slice a n cap∧Jq hi s a cs:=by
 rcases h.ex with⟨rfl,rfl⟩ | ⟨rfl,h2,h3,h4,r,h5,h6,_⟩
 ·refine⟨none,some 0,rfl,?_⟩
  have:cs=[]:=by have:=h.len;simp at this;exact this
  subst this
  exact Jq.nil
 ·refine⟨_,_,rfl,fun k u hk=>⟨i,0,rfl,h3,?_⟩⟩
  have hlt:k<cs.length:=by
   rcases A8N k cs.length with h' | h'
   ·exact h'
   ·rw[A8W h']at hk;cases hk
  rw[A8V]
  exact Of h5 (by rw[h6.1];exact hlt) (h6.2 k u hk)
theorem KT:∀ {a b:List AV},C3 a=true→C3 b=true→C3 (a++b)=true
 | [],_,_,h=>h
 | x::a,b,h,k=>by simp only[C3,A9W,A8e]at h ⊢;exact⟨h.1,KT h.2 k⟩
def A3s(s s':CO)(i:Nat)(p:Option Nat):Prop:=s.next≤s'.next∧∀j,j<s.next→j≠i→p≠some j→s'.heap.get j=s.heap.get j
theorem Jr.appTo{P:Program}{e:TypeId}{lo hi:Nat}{s:CO}{v:AV}{n sz:Nat}{cs:List AV}{i:Nat}{p:Option Nat}(h:Jr e lo hi s v n sz cs i p)(hhi:hi≤s.next)(hlo:lo≤s.next)(hz:FU P e sz=true)(hsz:0<sz){m:Nat}{add:List AV}(ha:add.length=m * sz)(hm:0<m):
    ∃a cap v' s',v=.slice a n cap∧appTo P s e sz a n cap (m,add)=some (v',s')∧∃i' p',Jr e lo s'.next s' v' (n+m) sz (cs++add) i' p'∧A3s s s' i p∧lo≤s'.next∧(i'=s.next)∧(p'=none∨p'=some i)∧s'.next=s.next+1 ∧
      (∀cell,cell<cs.length→FQ s' i cell=FQ s i cell∨n=0):=by
  have hlen:(cs++add).length=(n+m) * sz:=by rw[A8X,h.len,ha,A8o]
  rcases h.ex with⟨rfl,rfl⟩ | ⟨rfl,h2,h3,h4,r,h5,h6,h7,h8,h9,h10,h11⟩
  · have hcs:cs=[]:=by have:=h.len;simp at this;exact this
    subst hcs
    refine⟨none,some 0,.slice (some (s.next,0)) m none,newObj s (GV e sz (CT.fill .leaf 0 add) add.length none true),rfl,?_,s.next,none,⟨by simpa using hlen,.inr ⟨by simp,hlo,A8k _,(fun q hq=>by cases hq),_,(by rw[DH,if_pos rfl];rfl),⟨rfl,?_⟩,rfl,rfl,rfl,rfl,rfl⟩⟩,
      ⟨A8s _,fun j hj _ _=>by rw[DH,if_neg (by omega)]⟩,Nat.le_succ_of_le hlo,rfl,.inl rfl,rfl,fun _ _=>.inr rfl⟩
    · simp[Am.appTo,FB,Iw (show m≠0 by omega),CU,hz]
    · intro k u hk
      show(CT.fill .leaf 0 add).get k=some u
      have hk':add[k]? = some u:=by simpa using hk
      have hlt:k<add.length:=by
        rcases A8N k add.length with h' | h'
        · exact h'
        · rw[A8W h']at hk';cases hk'
      rw[CT.get_fill,if_pos ⟨A8T _,by omega⟩]
      simpa using hk'
  · have hrow : rowAt s i = some r := by simp [rowAt, h5]
    have hrn:r.n=n * sz:=by rw[h6.1,h.len]
    have hload:Di s i 0 (n * sz)=some cs:=by
      have:=Xj h5 h6 0 cs (by omega) (fun j u hj=>by simpa using hj)
      rw[h.len]at this
      exact this
    have hgt:¬ (0+(n+m) * sz≤r.n):=by
      rw[hrn,A8o]
      have:0<m * sz:=Nat.mul_pos hm hsz
      omega
    let s2:=setObj (Dm s i r) i (.row { r with mode:=.sealed,par:=none })
    let s':=newObj s2 (GV e sz (r.c.fill (n * sz) add) (cs++add).length (some i) (r.bytes && Nat.beq 0 0))
    have hun:∀j,j≠i→p≠some j→(Dm s i r).heap.get j=s.heap.get j:=by
      intro j hj hp
      unfold Dm
      rw[h10]
      cases p with
      | none=>rfl
      | some q =>
        simp only
        rw[Iw (h4 q rfl).2.2,cond_false,RT,if_neg (fun e=>hp (by rw[e]))]
    have hnext:(Dm s i r).next=s.next:=by
      unfold Dm
      split
      · rfl
      · cases Nat.beq _ _<;>rfl
    have hs2n:s2.next=s.next:=hnext
    refine⟨_,_,.slice (some (s.next,0)) (n+m) none,s',rfl,?_,s.next,some i,⟨hlen,.inr ⟨rfl,hlo,by show s.next<s2.next+1;omega,?_,_,by rw[DH,if_pos hs2n.symm];rfl,⟨rfl,?_⟩,rfl,rfl,rfl,rfl,rfl⟩⟩,⟨by show s.next≤s2.next+1;omega,?_⟩,by show lo≤s2.next+1;omega,rfl,.inr rfl,by show s2.next+1=_;omega,?_⟩
    · simp only[Am.appTo]
      rw[hrow,Option.bind_some]
      unfold M1
      rw[h9,JF rfl]
      simp only[CU,cond_true]
      rw[show Nat.ble (0+(n+m) * sz) r.n=false from Pu (by omega),cond_false,hload,Option.bind_some,h7,cond_true]
      unfold Hi
      rw[h8,hz,JF h11,show Nat.beq (0+n * sz) r.n=true from JF (by omega)]
      simp only[FL,Bool.and_self,CU,cond_true,Fy,JF rfl]
      show some (AV.slice (some (s.next,0)) (n+m) none,newObj s2 _)=_
      rfl
    · intro q hq
      injection hq with hq
      subst hq
      refine⟨h2,?_,?_⟩
      · show i<s2.next+1
        omega
      · omega
    · intro k u hk
      show(r.c.fill (n * sz) add).get k=some u
      rw[CT.get_fill]
      by_cases hlt:k<cs.length
      · rw [if_neg (by rw [← h.len]; omega)]
        rw[A8d hlt]at hk
        exact h6.2 k u hk
      · rw[A8g (by omega)]at hk
        have hk2:k - cs.length<add.length:=by
          rcases A8N (k - cs.length) add.length with h' | h'
          · exact h'
          · rw[A8W h']at hk;cases hk
        rw[if_pos ⟨by rw[← h.len];omega,by rw[← h.len];omega⟩,← h.len]
        exact hk
    · intro j hj hji hp
      show s'.heap.get j=_
      rw[DH,if_neg (by omega),RU,if_neg hji]
      exact hun j hji hp
    · intro cell hc
      left
      have e1:s'.heap.get i=some (.row { r with mode:=.sealed,par:=none }):=by
        rw[DH,if_neg (by omega),RU,if_pos rfl]
      simp only[FQ,rowAt,e1,h5,Option.bind_some]
theorem Jo{s:CO}{i o n size:Nat}{l:List AV}(h:Di s i o (n * size)=some l):Pr s i o n size=some l:=by
 unfold Pr
 cases hn0:Nat.beq n 0 with
 | false=>exact h
 | true =>
  have:=A8R hn0
  subst this
  rw[A9H]at h
  unfold Di at h
  simp only[A8G]at h
  obtain⟨r,_,h⟩:=h
  cases hb:Nat.ble (o+0) r.n with
  | true=>rw[hb]at h;exact h
  | false=>rw[hb]at h;cases h
theorem HI{P:Program}{st xt e:TypeId}{size by_:Nat}(ht:P.underlying st=some (.slice e))(hs:DZ P e=some size)(hb:Fe P e=some by_)(h0:0<size)(hx:EE P xt=true){s:CO}{a ax:Option (Nat×Nat)}{n m:Nat}{cap cx:Option Nat}{add:List AV}
  (hsrc:FT P s e size (.slice ax m cx)=some (m,add)) (hc:C3 add=true) (h1:(n+m) * by_≤1099511627776) (h2:n+m≤1099511627776):
  DE P s [st,xt] [.slice a n cap,.slice ax m cx]=appTo P s e size a n cap (m,add):=by
 simp[DE,ht,hs,hb,CU,Iw (show size≠0 by omega),hx,hsrc,hc,EA h1,EA h2]
def Om:List (AV×AV)→List (AV×AV)→Option (List (AV×AV))
 | [],es=>some es
 | (k,v)::fs,es=>(Pp k v es).bind fun es'=>Om fs es'
section
variable{P:Program}{ρ ρ1 ρ2:DV}{s s1 s2:CO}{w w1 w2:World}
abbrev KV:=Value×Value
def kv(e:MapEntry):KV:=(e.key,e.val)
open Classical in
def Ji (k v:Value):List KV→List KV
 | []=>[(k,v)]
 | e::l=>if e.1=k then (k,v)::l else e::Ji k v l
inductive OH (ρ:DV):List (AV×AV)→List KV→Prop
 | nil:OH ρ [] []
 | cons {k v:AV} {e:KV} {l:List (AV×AV)} {l':List KV} (hk:Cc ρ k e.1) (hv:Cc ρ v e.2) (hs:OH ρ l l'):OH ρ ((k,v)::l) (e::l')
theorem F1.p{es:List (AV×AV)}{l:List MapEntry}(h:F1 ρ es l):OH ρ es (l.map kv):=by
 induction h with
 | nil=>exact .nil
 | cons hk hv _ ih=>exact .cons hk hv ih
theorem F1.of_p:∀ {es:List (AV×AV)}{l:List MapEntry},OH ρ es (l.map kv)→F1 ρ es l
 | _,[],h=>by cases h;exact .nil
 | _,e::l,h=>by
  cases h with
  | cons hk hv hs=>exact .cons hk hv (F1.of_p hs)
theorem sX{k:AV}{k':Value}(hk:Cc ρ k k'){v:AV}{v':Value}(hv:Cc ρ v v'):∀ {es:List (AV×AV)}{l:List KV}{i:Nat}{r:Option (Nat×AV)},Fw k es i=some r→OH ρ es l →
    match r with
    | none=>OH ρ (es++[(k,v)]) (Ji k' v' l)
    | some (j,_)=>i≤j∧OH ρ (setNth es (j - i) v) (Ji k' v' l):=by
  intro es l i r h he
  induction he generalizing i r with
  | nil=>simp[Fw]at h;subst h;exact .cons hk hv .nil
  | cons hk0 hv0 hs ih =>
    rename_i k0 v0 e0 l l'
    simp only[Fw,A8G]at h
    obtain⟨b,hb',h⟩:=h
    have hkv:=Tt hb' hk hk0
    cases b with
    | true =>
      simp only[A9b]at h
      subst h
      have:=hkv.1 rfl
      refine⟨A8H _,?_⟩
      simp only[Nat.sub_self,setNth,Ji,this,if_true]
      exact .cons (by rw[← this];exact hk0) hv hs
    | false =>
      have hne:e0.1≠k':=fun e=>by have:=hkv.2 e;cases this
      simp only at h
      have:=ih h
      simp only[Ji,hne,if_false]
      cases r with
      | none=>exact .cons hk0 hv0 this
      | some q =>
        obtain⟨h1,h2⟩:=this
        refine⟨by omega,?_⟩
        rw[show q.1 - i=(q.1 - (i+1))+1 from by omega]
        exact .cons hk0 hv0 h2
theorem A3U{k v:AV}{k' v':Value}(hk:Cc ρ k k')(hv:Cc ρ v v'){es es1:List (AV×AV)}{l:List KV}(h:Pp k v es=some es1)(he:OH ρ es l):OH ρ es1 (Ji k' v' l):=by
 unfold Pp at h
 simp only[A8G]at h
 obtain⟨r,hf,h⟩:=h
 have:=sX hk hv hf he
 cases r with
 | none=>injection h with h;subst h;exact this
 | some q=>injection h with h;subst h;exact this.2
def UE (l m:List KV):List KV:=m.foldl (fun l e=>Ji e.1 e.2 l) l
theorem X7:∀ {fs es es1:List (AV×AV)}{l m:List KV},Om fs es=some es1→OH ρ es l→OH ρ fs m→OH ρ es1 (UE l m)
 | [],es,es1,l,m,h,he,hf=>by cases hf;injection h with h;subst h;exact he
 | (k,v)::fs,es,es1,l,m,h,he,hf=>by
  cases hf with
  | cons hk hv hs =>
   simp only[Om,A8G]at h
   obtain⟨es',h1,h2⟩:=h
   exact X7 (l:=Ji _ _ l) h2 (A3U hk hv h1 he) hs
theorem Xn{k v:Value}:∀ {l:List KV},(l.map (·.1)).Nodup→((Ji k v l).map (·.1)).Nodup∧(∀p,p∈Ji k v l↔p=(k,v)∨p∈l∧p.1≠k)∧(∀x,x∈(Ji k v l).map (·.1)↔x=k∨x∈l.map (·.1))
  | [],_=>by
    refine⟨by simp[Ji],fun p=>by simp[Ji],fun x=>by simp[Ji]⟩
  | e::l,h=>by
    simp only[A8U,A8x]at h
    obtain⟨h1,h2,h3⟩:=Xn (k:=k) (v:=v) h.2
    by_cases he:e.1=k
    · have hm:Ji k v (e::l)=(k,v)::l:=by simp[Ji,he]
      rw[hm]
      have hno:∀p∈l,p.1≠k:=fun p hp hc=>h.1 (by rw[he,← hc];exact List.mem_map_of_mem hp)
      refine⟨by simp only[A8U,A8x];rw[← he];exact h,fun p=>?_,fun x=>by simp[← he]⟩
      simp only[A8I]
      constructor
      · rintro (h' | h')
        · exact .inl h'
        · exact .inr ⟨.inr h',hno p h'⟩
      · rintro (h' | ⟨h' | h', h''⟩)
        · exact .inl h'
        · subst h';exact absurd he h''
        · exact .inr h'
    · have hm:Ji k v (e::l)=e::Ji k v l:=by simp[Ji,he]
      rw[hm]
      refine⟨?_,fun p=>?_,fun x=>?_⟩
      · simp only[A8U,A8x]
        refine⟨fun hc=>?_,h1⟩
        rcases(h3 _).1 hc with hc | hc
        · exact he hc
        · exact h.1 hc
      · simp only[A8I,h2]
        constructor
        · rintro (h' | h' | ⟨h', h''⟩)
          · exact .inr ⟨.inl h',by rw[h'];exact he⟩
          · exact .inl h'
          · exact .inr ⟨.inr h',h''⟩
        · rintro (h' | ⟨h' | h', h''⟩)
          · exact .inr (.inl h')
          · exact .inl h'
          · exact .inr (.inr ⟨h',h''⟩)
      · simp only[A8U,A8I,h3]
        constructor
        · rintro (h' | h' | h')
          · exact .inr (.inl h')
          · exact .inl h'
          · exact .inr (.inr h')
        · rintro (h' | h' | h')
          · exact .inr (.inl h')
          · exact .inl h'
          · exact .inr (.inr h')
theorem UF:∀ {m l:List KV},(l.map (·.1)).Nodup→(m.map (·.1)).Nodup→((UE l m).map (·.1)).Nodup∧∀p,p∈UE l m↔p∈m∨p∈l∧p.1 ∉ m.map (·.1)
  | [],l,h,_=>by simpa[UE]using h
  | e::m,l,h,hm=>by
    simp only[A8U,A8x]at hm
    obtain⟨h1,h2,_⟩:=Xn (k:=e.1) (v:=e.2) h
    obtain⟨h3,h4⟩:=UF (m:=m) h1 hm.2
    refine⟨h3,fun p=>?_⟩
    show p∈UE (Ji e.1 e.2 l) m↔_
    rw[h4,h2]
    simp only[A8I,A8U,not_or]
    constructor
    · rintro (h' | ⟨h' | ⟨h', h''⟩, h3'⟩)
      · exact .inl (.inr h')
      · exact .inl (.inl h')
      · exact .inr ⟨h',h'',h3'⟩
    · rintro ((h' | h') | ⟨h', h'', h3'⟩)
      · exact .inr ⟨.inl h',by rw[h'];exact hm.1⟩
      · exact .inl h'
      · exact .inr ⟨.inr ⟨h',h''⟩,h3'⟩
theorem PZ{α:Type}:∀ {l m:List α},l.Nodup→m.Nodup→(∀x,x∈l↔x∈m)→l.Perm m
 | [],m,_,_,h=>by
  have:m=[]:=List.eq_nil_iff_forall_not_mem.2 fun x hx=>by have:=(h x).2 hx;cases this
  rw[this]
 | a::l,m,hl,hm,h=>by
  obtain⟨m1,m2,rfl⟩:=List.append_of_mem ((h a).1 A8M)
  have hp:(m1++a::m2).Perm (a::(m1++m2)):=List.perm_middle
  have hm':(a::(m1++m2)).Nodup:=hp.nodup_iff.1 hm
  simp only[A8x]at hl hm'
  refine List.Perm.trans (List.Perm.cons a (PZ hl.2 hm'.2 fun x=>?_)) hp.symm
  constructor
  ·intro hx
   have:=hp.mem_iff.1 ((h x).1 (A8J _ hx))
   rcases A8I.1 this with rfl | h'
   ·exact absurd hx hl.1
   ·exact h'
  ·intro hx
   have:=(h x).2 (hp.mem_iff.2 (A8J _ hx))
   rcases A8I.1 this with rfl | h'
   ·exact absurd hx hm'.1
   ·exact h'
theorem UO{α β:Type}(f:α→β):∀ {l:List β}{m:List α},l.Perm (m.map f)→∃l':List α,l'.Perm m∧l'.map f=l
 | [],m,h=>by
  have:m=[]:=by have:=h.length_eq;simp at this;exact A9O this.symm
  subst this
  exact⟨[],.refl _,rfl⟩
 | b::l,m,h=>by
  obtain⟨a,ha,rfl⟩:=List.mem_map.1 (h.mem_iff.1 A8M)
  obtain⟨m1,m2,rfl⟩:=List.append_of_mem ha
  have hp:(m1++a::m2).Perm (a::(m1++m2)):=List.perm_middle
  have:l.Perm ((m1++m2).map f):=(h.trans (hp.map f)).cons_inv
  obtain⟨l',h1,h2⟩:=UO f this
  exact⟨a::l',(h1.cons a).trans hp.symm,by simp[h2]⟩
theorem MI{l:List KV}(h:(l.map (·.1)).Nodup):l.Nodup:=by
 induction l with
 | nil=>exact A9A
 | cons a l ih =>
  simp only[A8U,A8x]at h
  exact A8x.2 ⟨fun hc=>h.1 (List.mem_map_of_mem hc),ih h.2⟩
def Rv(v:Value):Option (DataW Value×List MemPlace):=some (.held v,[])
def WX(P:Program)(kt:TypeId)(es:Array MapEntry):Prop:=∀e∈es.toList,∃l,keyOf P kt e.key=some l
theorem A3E{kt:TypeId}{es:Array MapEntry}{clock:Nat}(hst:MapKept.Stamped es clock)(hty:WX P kt es)(hsz:es.size≤maxLen):WideElems.Fit P kt Rv es clock:=
 ⟨hsz,hst,fun x hx=>let ⟨l,hl⟩:=hty x hx;⟨(l,.held x.val),by simp[WideElems.rd,hl,Rv]⟩⟩
theorem Vy{kt:TypeId}{es:Array MapEntry}{clock b:Nat}(hb:w.heap[b]? = some (.map es clock))(hst:MapKept.Stamped es clock)(hty:WX P kt es)(hsz:es.size≤maxLen):
  w.ownsMap P kt Rv b es.size (DataW.map ((es.toList.map (WideElems.rg P kt Rv)).foldr DataW.insert [])):=⟨es,clock,hb,A3E hst hty hsz,A8H _,rfl⟩
theorem pe{kt:TypeId}{e:MapEntry}{l:Lit}(h:keyOf P kt e.key=some l):WideElems.rg P kt Rv e=(l,.held e.val):=by simp[WideElems.rg,WideElems.rd,h,Rv]
theorem Oh{kt:TypeId}{es:Array MapEntry}(hty:WX P kt es)(q:Lit×DataW Value):
  q∈(es.toList.map (WideElems.rg P kt Rv)).foldr DataW.insert []↔∃e∈es.toList,∃l,keyOf P kt e.key=some l∧q=(l,.held e.val):=by
 rw[mem_sorted,List.mem_map]
 constructor
 ·rintro⟨e,he,rfl⟩
  obtain⟨l,hl⟩:=hty e he
  exact⟨e,he,l,hl,pe hl⟩
 ·rintro⟨e,he,l,hl,rfl⟩
  exact⟨e,he,pe hl⟩
end
section
variable{P:Program}{ρ ρ1 ρ2:DV}{s s1 s2:CO}{w w1 w2:World}
theorem DU.setG(h:DU P ρ s w){i:Nat}{o o1:Cg}{rb:RB}(hg:s.heap.get i=some o)(hr:ρ i=some rb)(hw:wr o=true)(hp:Ih o=none)
    (hp1:Ih o1=none) (hgr:w.grownBy w1 (some rb.b)) (ho:Gq P ρ w1 o1 rb):DU P ρ (setObj s i o1) w1∧Fr ρ s w ρ (setObj s i o1) w1:=by
  have hsep:∀j oj rj,j≠i→s.heap.get j=some oj→ρ j=some rj→rj.b≠rb.b:=by
    intro j oj rj hne hj hrj e
    have:=(h.sep j i oj o rj rb hne hj hg hrj hr e hw).1
    rw[hp]at this
    cases this
  refine⟨⟨?_,?_,?_,?_⟩,?_⟩
  · intro j oj rj hj hrj
    rw[EG]at hj
    by_cases e:j=i
    · subst e
      rw[if_pos rfl]at hj
      injection hj with hj
      subst hj
      rw[hr]at hrj
      injection hrj with hrj
      subst hrj
      exact ho
    · rw[if_neg e]at hj
      exact(h.obj j oj rj hj hrj).mono (DV.le_refl ρ) (hgr.block _ (h.lt j rj hrj) (fun q=>hsep j oj rj e hj hrj (Option.some.inj q)))
  · intro j rj hrj
    exact A8L (h.lt j rj hrj) hgr.size
  · intro j k oj ok rj rk hne hj hk hrj hrk hbb hwk
    rw[EG]at hj hk
    by_cases ej:j=i
    · subst ej
      have ek:k≠j:=fun e=>hne e.symm
      rw[if_neg ek]at hk
      rw[hr]at hrj
      injection hrj with hrj
      subst hrj
      exact absurd hbb.symm (hsep k ok rk ek hk hrk)
    · by_cases ek : k = i
      · subst ek
        rw[if_neg ej]at hj
        rw[hr]at hrk
        injection hrk with hrk
        subst hrk
        exact absurd hbb (hsep j oj rj ej hj hrj)
      · rw [if_neg ej] at hj
        rw[if_neg ek]at hk
        exact h.sep j k oj ok rj rk hne hj hk hrj hrk hbb hwk
  · intro j oj g hj hgo
    rw[EG]at hj
    by_cases e:j=i
    · subst e;exact⟨_,hr⟩
    · rw[if_neg e]at hj
      exact h.glb j oj g hj hgo
  · refine ⟨DV.le_refl  ρ, fun _ h _ => h, A8H         _, hgr.size, hgr.os, hgr.tape, hgr.output, ?_, ?_, ?_, fun i rb => SE    i rb, fun j oj rj hj _ => ?_⟩
    · intro b hb hno
      exact hgr.block b hb (fun e=>hno ⟨i,o,rb,hg,hw,hr,(Option.some.inj e).symm⟩)
    · rintro b ⟨j, oj, rj, hj, hwj, hrj, rfl⟩
      rw[EG]at hj
      by_cases e:j=i
      · subst e
        rw[hr]at hrj
        injection hrj with hrj
        subst hrj
        exact .inl ⟨j,o,rb,hg,hw,hr,rfl⟩
      · rw[if_neg e]at hj
        exact .inl ⟨j,oj,rj,hj,hwj,hrj,rfl⟩
    · intro j hrj _
      rw[EG,if_neg]
      intro e
      subst e
      rw[hr]at hrj
      cases hrj
    · rw[EG]at hj
      by_cases e:j=i
      · subst e;exact⟨o,hg⟩
      · rw[if_neg e]at hj;exact⟨oj,hj⟩
theorem DU.grown(h:DU P ρ s w)(hgr:w.grownBy w1 none):DU P ρ s w1∧Fr ρ s w ρ s w1:=by
 refine⟨⟨fun i o rb hi hr=>(h.obj i o rb hi hr).mono (DV.le_refl ρ) (hgr.block _ (h.lt i rb hr) (fun e=>by cases e)),fun i rb hr=>A8L (h.lt i rb hr) hgr.size,h.sep,h.glb⟩,
  ⟨DV.le_refl ρ,fun _ h _=>h,A8H _,hgr.size,hgr.os,hgr.tape,hgr.output,fun b hb _=>hgr.block b hb (fun e=>by cases e),fun b hb=>.inl hb,fun _ _ _=>rfl,fun i rb=>SE i rb,fun _ o _ h _=>⟨o,h⟩⟩⟩
open Go.Maps in
theorem tZ{k:Lit}{d:DataW Value}{E:List (Lit×DataW Value)}(hk:WideAt.IsKeyLit k):
  ∃E',(DataW.map E).put k d=.map E'∧∀q,q∈E'↔q=(k,d)∨q∈E∧q.1≠k:=by
 refine⟨_,rfl,fun q=>?_⟩
 rw[(Go.WideShapes.insert_perm _ _).mem_iff,A8I,List.mem_filter]
 have:=notKey_iff (H:=Value) (k:=k) (p:=q) hk
 unfold Go.ChangeMaps.notKey at this
 rw[this]
open Go.Maps in
theorem UD:∀ {Es Ed:List (Lit×DataW Value)},(∀p∈Es,WideAt.IsKeyLit p.1)→Es.Pairwise (fun p q=>p.1≠q.1) →
    ∃E',Es.foldl (fun D p=>DataW.put D p.1 p.2) (DataW.map Ed)=.map E'∧∀q,q∈E'↔q∈Es∨q∈Ed∧q.1 ∉ Es.map (·.1)
  | [],Ed,_,_=>⟨Ed,rfl,fun q=>by simp⟩
  | p::Es,Ed,hk,hd=>by
    obtain⟨E1,h1,h2⟩:=tZ (k:=p.1) (d:=p.2) (E:=Ed) (hk p A8M)
    rw[A9I]at hd
    obtain⟨E2,h3,h4⟩:=UD (Ed:=E1) (fun q hq=>hk q (A8J _ hq)) hd.2
    refine⟨E2,by rw[A9C,h1];exact h3,fun q=>?_⟩
    rw[h4,h2]
    simp only[A8I,A8U,not_or]
    constructor
    · rintro (h' | ⟨h' | ⟨h', h''⟩, h5⟩)
      · exact .inl (.inr h')
      · exact .inl (.inl h')
      · exact .inr ⟨h',h'',h5⟩
    · rintro ((h' | h') | ⟨h', h'', h5⟩)
      · refine .inr ⟨.inl h', ?_⟩
        rw[h']
        intro hc
        obtain⟨x,hx,e⟩:=List.mem_map.1 hc
        exact hd.1 x hx e.symm
      · exact .inl h'
      · exact .inr ⟨.inr ⟨h',h''⟩,h5⟩
def uU(P:Program)(f:FuncId)(kt:TypeId):Prop:=
 (∀ (bd bs nd ns:Nat) (Dd Ds:DataW Value) (w:World),w.ownsMap P kt Rv bd nd Dd→w.ownsMap P kt Rv bs ns Ds→bd≠bs→nd+Maps.size Ds≤maxLen →
  Calls P f #[.map (some bd),.map (some bs)] w fun e w'=>e=.returned (.tuple #[])∧w'.ownsMap P kt Rv bd (nd+Maps.size Ds) (Lib.mergeD Dd Ds)∧w'.ownsMap P kt Rv bs ns Ds∧w.grownBy w' (some bd)) ∧
 ∀ (pd:Option Nat) (w:World),Calls P f #[.map pd,.map none] w fun e w'=>e=.returned (.tuple #[])∧w'=w.alloc (.mapIter none 0 #[] 0)
def Jx(kt:TypeId)(s:CO):List AV→Option (AV×CO)
 | [.map _,.map none]=>some (.tuple [],s)
 | [.map (some i),.map (some j)]=>CU (!Nat.beq i j) <| (Jf s kt i).bind fun es=>(Jf s kt j).bind fun fs =>
  CU (Nat.ble (es.length+fs.length) 1000000) ((Om fs es).bind fun es'=>some (.tuple [],setObj s i (.map kt es')))
 | _=>none
theorem fA{f:FuncId}{kt:TypeId}(hko:Ib P kt=true)(hc:uU P f kt)(h:DU P ρ s w){aS:List AV}{as':Array Value}{v:AV}(hs:Jx kt s aS=some (v,s1))(has:Cb ρ aS as'.toList):
    CallsIn Fence.wide 0 P f as' w (Ey P ρ s w v s1):=by
  have K:=LB hko
  refine callsIn_wide.2 ?_
  unfold Jx at hs
  split at hs<;>first | (cases hs;done) | skip
  · injection hs with hs
    injection hs with e1 e2
    subst e1;subst e2
    obtain⟨l⟩:=as'
    cases has with
    | cons h1 h2 =>
    cases h2 with
    | cons h2 h3 =>
    cases h3
    cases h2
    cases h1<;>(
      refine(hc.2 _ w).mono ?_
      rintro e w' ⟨rfl,rfl⟩
      obtain⟨g1,g2⟩:=h.grown (w1:=w.alloc (.mapIter none 0 #[] 0)) ⟨rfl,rfl,rfl,by simp,fun b hb _=>JJ hb⟩
      exact⟨ρ,.tuple .nil,g1,g2⟩)
  · rename_i i j
    obtain⟨hij,hs⟩:=CM hs
    simp only[A8G]at hs
    obtain⟨es,hes,fs,hfs,hs⟩:=hs
    obtain⟨hlen,hs⟩:=CM hs
    simp only[A8G]at hs
    obtain⟨es1,hput,hs⟩:=hs
    injection hs with hs
    injection hs with e1 e2
    subst e1;subst e2
    have hlen:es.length+fs.length≤1000000:=by simpa[A8Q]using hlen
    have hne:i≠j:=fun e=>by subst e;simp at hij
    obtain⟨l⟩:=as'
    cases has with
    | cons h1 h2 =>
    cases h2 with
    | cons h2 h3 =>
    cases h3
    cases h1 with
    | map hri =>
    cases h2 with
    | map hrj =>
    rename_i ri rj
    have hgi:=IJ hes
    have hgj:=IJ hfs
    obtain⟨ed,cd,d1,d2,⟨ld,d3,d4⟩,d5⟩:=(show Kn P ρ w kt es ri from h.obj i _ ri hgi hri).ex
    obtain⟨ec,cc,c1,c2,⟨lc,c3,c4⟩,c5⟩:=(show Kn P ρ w kt fs rj from h.obj j _ rj hgj hrj).ex
    have hbne:ri.b≠rj.b:=fun e=>by
      have:=(h.sep i j _ _ ri rj hne hgi hgj hri hrj e rfl).1
      cases this
    have sd:ed.size=es.length:=by have:=d4.length;have:=d3.length_eq;simp at this;omega
    have sc:ec.size=fs.length:=by have:=c4.length;have:=c3.length_eq;simp at this;omega
    have hmax:(1000000:Nat)≤maxLen:=by unfold maxLen;omega
    have od:=Vy d1 d2 d5 (by omega)
    have oc:=Vy c1 c2 c5 (by omega)
    have hsz:Maps.size (DataW.map ((ec.toList.map (WideElems.rg P kt Rv)).foldr DataW.insert []))=ec.size:=by
      show((ec.toList.map (WideElems.rg P kt Rv)).foldr DataW.insert []).length=_
      rw[(Go.WideShapes.sorted_perm _).length_eq]
      simp
    refine(hc.1 _ _ _ _ _ _ w od oc hbne (by rw[hsz];omega)).mono ?_
    rintro e w' ⟨rfl,o1,_,hgr⟩
    refine⟨ρ,.tuple .nil,?_⟩
    obtain⟨e2,k2,q1,q2,_,q4⟩:=o1
    have hty2:WX P kt e2:=fun x hx=>let ⟨y,hy⟩:=q2.reads x hx;⟨y.1,WideElems.rd_key hy⟩
    have hcanon:=oc.canonK K
    obtain⟨E,hE,hsorted,hkeys⟩:=hcanon
    have hE:(ec.toList.map (WideElems.rg P kt Rv)).foldr DataW.insert []=E:=by injection hE
    have hkl:∀p∈E,WideAt.IsKeyLit p.1:=fun p hp=>let ⟨v,hv⟩:=hkeys p hp;K.key hv
    obtain⟨E',m1,m2⟩:=UD (Es:=E) (Ed:=(ed.toList.map (WideElems.rg P kt Rv)).foldr DataW.insert []) hkl (Go.Maps.apart_of_rising hsorted)
    have hE2:(e2.toList.map (WideElems.rg P kt Rv)).foldr DataW.insert []=E':=by
      have:Lib.mergeD (DataW.map ((ed.toList.map (WideElems.rg P kt Rv)).foldr DataW.insert [])) (DataW.map ((ec.toList.map (WideElems.rg P kt Rv)).foldr DataW.insert []))=.map E':=by
        rw[hE];exact m1
      rw[this]at q4
      injection q4 with q4
      exact q4.symm
    have memE:∀q,q∈E↔∃e∈ec.toList,∃l,keyOf P kt e.key=some l∧q=(l,.held e.val):=fun q=>by rw[← hE];exact Oh c5 q
    have mem2:∀p:KV,p∈e2.toList.map kv↔p∈ec.toList.map kv∨p∈ed.toList.map kv∧p.1 ∉ (ec.toList.map kv).map (·.1):=by
      have look:∀ {A:Array MapEntry} (hA:WX P kt A) {k v:Value} {lk:Lit},keyOf P kt k=some lk→((∃e∈A.toList,∃l,keyOf P kt e.key=some l∧(lk,DataW.held v)=(l,DataW.held e.val))↔(k,v)∈A.toList.map kv):=by
        intro A hA k v lk hk
        constructor
        · rintro⟨e,he,l,hl,hq⟩
          injection hq with q1 q2
          injection q2 with q2
          subst q1;subst q2
          exact List.mem_map.2 ⟨e,he,by rw[K.inj hk hl];rfl⟩
        · intro hm
          obtain⟨e,he,hq⟩:=List.mem_map.1 hm
          injection hq with q1 q2
          subst q1;subst q2
          exact⟨e,he,lk,hk,rfl⟩
      have main:∀ (k v:Value) (lk:Lit),keyOf P kt k=some lk→((k,v)∈e2.toList.map kv↔(k,v)∈ec.toList.map kv∨(k,v)∈ed.toList.map kv∧k ∉ (ec.toList.map kv).map (·.1)):=by
        intro k v lk hk
        rw[← look hty2 hk,← Oh hty2,hE2,m2,memE,Oh d5,look c5 hk,look d5 hk]
        refine or_congr Iff.rfl (and_congr Iff.rfl (not_congr ?_))
        constructor
        · intro hm
          obtain⟨q,hq,hqe⟩:=List.mem_map.1 hm
          obtain⟨e,he,l,hl,rfl⟩:=(memE q).1 hq
          simp only at hqe
          subst hqe
          refine List.mem_map.2 ⟨kv e,List.mem_map_of_mem he,?_⟩
          exact(K.inj hk hl).symm
        · intro hm
          obtain⟨q,hq,hqe⟩:=List.mem_map.1 hm
          obtain⟨e,he,rfl⟩:=List.mem_map.1 hq
          refine List.mem_map.2 ⟨(lk,.held e.val),(memE _).2 ⟨e,he,lk,?_,rfl⟩,rfl⟩
          have:e.key=k:=hqe
          rw[this];exact hk
      intro p
      constructor
      · intro hm
        obtain⟨e,he,hp⟩:=List.mem_map.1 hm
        obtain⟨l,hl⟩:=hty2 e he
        subst hp
        exact(main _ _ l hl).1 hm
      · intro hm
        have:∃l,keyOf P kt p.1=some l:=by
          rcases hm with hm | ⟨hm,_⟩
          · obtain ⟨e, he, hp⟩ := List.mem_map.1 hm
            obtain⟨l,hl⟩:=c5 e he
            subst hp;exact⟨l,hl⟩
          · obtain ⟨e, he, hp⟩ := List.mem_map.1 hm
            obtain⟨l,hl⟩:=d5 e he
            subst hp;exact⟨l,hl⟩
        obtain⟨l,hl⟩:=this
        exact(main p.1 p.2 l hl).2 hm
    have nd:∀ {A:Array MapEntry} {c:Nat},MapKept.Stamped A c→((A.toList.map kv).map (·.1)).Nodup:=fun hst=>by
      rw[List.map_map];exact hst.2.2
    have ndd:((ld.map kv).map (·.1)).Nodup:=((d3.map kv).map (·.1)).nodup_iff.2 (nd d2)
    have ndc:((lc.map kv).map (·.1)).Nodup:=((c3.map kv).map (·.1)).nodup_iff.2 (nd c2)
    obtain⟨u1,u2⟩:=UF ndd ndc
    have hperm:(UE (ld.map kv) (lc.map kv)).Perm (e2.toList.map kv):=by
      refine PZ (MI u1) (MI (nd q2.stamped)) fun p=>?_
      rw[u2,mem2,(c3.map kv).mem_iff,(d3.map kv).mem_iff,((c3.map kv).map (·.1)).mem_iff]
    obtain⟨l2,p1,p2⟩:=UO kv hperm
    have her:F1 ρ es1 l2:=F1.of_p (by rw[p2];exact X7 hput d4.p c4.p)
    exact h.setG hgi hri rfl rfl rfl hgr ⟨e2,k2,q1,q2.stamped,⟨l2,p1,her⟩,hty2⟩
end
end
end Go.Proofs.YtoaaclpjkelofaaGreatDoor.Am
