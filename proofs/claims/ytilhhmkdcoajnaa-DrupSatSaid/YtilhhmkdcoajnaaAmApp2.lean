/- append, joined; copy and clear; conditions: none. -/
import Derived.Test.YtilhhmkdcoajnaaAmApp
set_option linter.unusedVariables false
set_option linter.unusedSimpArgs false
namespace Go.Proofs.Ytilhhmkdcoajnaa.Am
open Go
noncomputable section
section
variable{P:Program}{ρ ρ1 ρ2:Rho}{s s1 s2:ASt}{w w1 w2:World}
theorem Cz{i o len:Nat}{cap:Option Nat}{v':Value}(h:Aa ρ (.slice (some (i,o)) len cap) v'):
    ∃rb a c,ρ i=some rb∧v'=.slice (some a) len c∧len≤c∧(∀k,cap=some k→c=k∧a=⟨rb.b,rb.off+o,none⟩) ∧
      (cap=none→0<rb.sz∧((a=⟨rb.b,rb.off+o,none⟩∧o+c * rb.sz≤rb.N∧rb.N<o+(c+1) * rb.sz)∨(len=0∧c=0∧o≤rb.N∧rb.N<o+rb.sz))):=by
  cases h with
  | slice hr hl=>exact⟨_,_,_,hr,rfl,hl,(fun k hk=>by injection hk with hk;exact⟨hk,rfl⟩),fun hk=>by cases hk⟩
  | sliceOpen hr hs hl h1 h2=>exact⟨_,_,_,hr,rfl,hl,(fun k hk=>by cases hk),fun _=>⟨hs,.inl ⟨rfl,h1,h2⟩⟩⟩
  | sliceEnd hr hs h1 h2=>exact⟨_,_,_,hr,rfl,oD _,(fun k hk=>by cases hk),fun _=>⟨hs,.inr ⟨rfl,rfl,h1,h2⟩⟩⟩
theorem E6(a:Addr)(w:World):(loadCells a 0).run P w=.ok #[] w:=rfl
theorem KC(h:Inv P ρ s w){st xt ty e:TypeId}{size by_ n sLen sCap:Nat}{base:Option Addr}{x':Value}{old:List Value}{oldA:List AV}{new:Array Value}
    (hu:P.underlying st=some (.slice e)) (hs:BB P e=some size) (hby:CM P e=some by_) (hsz:size≠0)
    (hb:(sLen+n) * by_≤1099511627776) (hb2:sLen+n≤1099511627776)
    (hx:TL P e xt size n x' new w) (hgt:sCap<sLen+n) (hz:By P e size=true)
    (hold:∀w1:World,w1.heap=w.heap→(Builtin.firstCells size sLen (.slice base sLen sCap)).run P w1=.ok old.toArray w1):
    ∃newCap rest,sLen+n≤newCap∧Array.size rest=(newCap - (sLen+n)) * size∧(Builtin.append_ #[st,xt] ty #[.slice base sLen sCap,x']).run P w =
      .ok (.slice (some ⟨w.heap.size,0,none⟩) (sLen+n) newCap) (World.alloc { w with drawn:=w.drawn+1 } (.cells ((old.toArray++new)++rest) e)):=by
  obtain⟨z,z',_,_,h2,h3,_⟩:=Ju ρ hz
  obtain⟨newCap,g1,g2⟩:=J0 (ty:=ty) hu hs hby hsz hb hb2 hx hgt h2 (old:=old.toArray) (fun d=>hold _ rfl)
  exact⟨newCap,_,g1,by simp[Builtin.zeroCells,h3],g2⟩
theorem P8         (h : Inv P ρ s w) (hf : ρ s.next = none) {st xt ty : TypeId} {a x v : AV} {a' x' : Value} (hs : AY      P s [st, xt] [a, x] = some (v, s1)) (ha : Aa   ρ a a') (hx : Aa   ρ x x') :
    TG P ρ s w (Builtin.append_ #[st,xt] ty #[a',x']) v s1:=by
  unfold AY at hs
  split at hs<;>first | (cases hs;done) | skip
  rename_i st0 xt0 a0 len cap x0 hty hargs
  injection hty with e1 e2
  injection e2 with e2 _
  injection hargs with e3 e4
  injection e4 with e4 _
  subst e1;subst e2;subst e3;subst e4
  split at hs<;>first | (cases hs;done) | skip
  rename_i e hu
  simp only[oE]at hs
  obtain⟨size,hsize,by_,hby,hs⟩:=hs
  obtain⟨hg,hsA⟩:=AJ hs
  clear hs
  simp only[Bool.and_eq_true]at hg
  obtain⟨hg0,hg1⟩:=hg
  have hsz:size≠0:=by intro e0;rw[e0]at hg0;cases hg0
  simp only[oE]at hsA
  obtain⟨src,hsrc,hsB⟩:=hsA
  obtain⟨hg2,hs⟩:=AJ hsB
  clear hsB
  simp only[Bool.and_eq_true,oQ]at hg2
  obtain⟨⟨hall,hb⟩,hb2⟩:=hg2
  obtain⟨new,hnew,hsok,hns⟩:=Pt h hg1 hsrc hx
  have hone:=hnew.oneCell hall
  have hsrclen:src.2.length=src.1 * size:=by have:=hnew.length;simp only[Array.length_toList]at this;omega
  unfold appTo at hs
  split at hs
  ·
    cases ha
    cases hk:Nat.beq src.1 0 with
    | true =>
      rw[hk]at hs
      simp only[cond_true]at hs
      injection hs with hs
      injection hs with hs1 hs2
      subst hs1;subst hs2
      have hk:=A5 hk
      have:=DL (w:=w) (w1:=w) (ty:=ty) (base:=none) (sLen:=0) (sCap:=0) hu hsize hby hsz (by simpa using hb) hsok (by rw[hk];exact oD _) rfl
      rw[hk]at this
      exact⟨.slice none 0 0,w,ρ,this,.sliceNil,h,Fr.refl _ _ _⟩
    | false =>
      rw[hk]at hs
      simp only[cond_false]at hs
      have hk:src.1≠0:=fun e0=>by rw[e0]at hk;cases hk
      have hz:By P e size=true:=by unfold BV at hs;exact(AJ hs).1
      obtain⟨newCap,rest,g1,g2,g3⟩:=KC (ty:=ty) (oldA:=[]) (base:=none) (sLen:=0) (sCap:=0) h hu hsize hby hsz hb hb2 hsok (by omega) hz (old:=[]) (fun w1 _=>rfl)
      simp only[oN]at g1 g2 g3
      obtain⟨ρ',f1,f2,f3⟩:=GT (h.drawn (w.drawn+1)) hf hs (newCap:=newCap) (cs:=[].toArray++new) (rest:=rest) (by simpa using hnew) (by simpa using hns) (by omega) g1 g2
      exact⟨_,_,ρ',g3,f1,f2,(Fr.drawn' (w.drawn+1)).trans f3⟩
  · rename_i i o
    obtain⟨rb,ad,c,hr,hv,hlc,hexact,hopen⟩:=Cz ha
    subst hv
    split at hs
    ·
      rename_i c0
      obtain⟨rfl,rfl⟩:=hexact c0 rfl
      unfold Cw at hs
      cases hfit:Nat.ble (len+src.1) c with
      | true =>
        rw[hfit]at hs
        simp only[cond_true,oE]at hs
        obtain⟨s',hst,hs⟩:=hs
        injection hs with hs
        injection hs with hs1 hs2
        subst hs1;subst hs2
        have hfit:len+src.1≤c:=by simpa[oQ]using hfit
        obtain⟨w1,k1,k2,k3⟩:=HG h hr hst hnew
        have:=DL (w:=w) (w1:=w1) (ty:=ty) (base:=some ⟨rb.b,rb.off+o,none⟩) (sLen:=len) (sCap:=c) hu hsize hby hsz hb hsok hfit (by simp only[Cg];rw[show rb.off+o+len * size=rb.off+(o+len * size)from by omega];exact k1)
        exact⟨_,w1,ρ,this,.slice (k3.le _ _ hr) hfit,k2,k3⟩
      | false =>
        rw[hfit]at hs
        simp only[cond_false,oE]at hs
        obtain⟨old,hold,hs⟩:=hs
        have hfit:c<len+src.1:=by
          rcases oI c (len+src.1)with h' | h'
          · exact h'
          · rw[Nat.ble_eq_true_of_le h']at hfit;cases hfit
        obtain⟨old',o1,o2,o3⟩:=EL h hr hold
        have hz:By P e size=true:=by unfold BV at hs;exact(AJ hs).1
        obtain⟨newCap,rest,g1,g2,g3⟩:=KC (ty:=ty) (oldA:=old) h hu hsize hby hsz hb hb2 hsok hfit hz (old:=old') (base:=some ⟨rb.b,rb.off+o,none⟩) (fun w1 hw1=>o3 w1 hw1)
        obtain⟨ρ',f1,f2,f3⟩:=GT (h.drawn (w.drawn+1)) hf hs (cs:=old'.toArray++new) (rest:=rest) (by rw[Array.toList_append];exact o1.append hnew) (by simp[hns,o2,pC]) (by omega) g1 g2
        exact⟨_,_,ρ',g3,f1,f2,(Fr.drawn' (w.drawn+1)).trans f3⟩
    ·
      obtain⟨hsz0,hcases⟩:=hopen rfl
      simp only[oE]at hs
      obtain⟨r,hrow,hs⟩:=hs
      have hok:Fe ρ w r rb:=h.obj i _ rb (Cn hrow) hr
      unfold C2 at hs
      obtain⟨hgs,hsC⟩:=AJ hs
      clear hs
      have hs:=hsC
      clear hsC
      have hgs:=A5 hgs
      have hrs:rb.sz=size:=by rw[← hok.sz];exact hgs.symm
      rw[hrs]at hcases hsz0
      cases hfit:Nat.ble (o+(len+src.1) * size) r.n with
      | true =>
        rw[hfit]at hs
        simp only[cond_true,oE]at hs
        obtain⟨s',hst,hs⟩:=hs
        injection hs with hs
        injection hs with hs1 hs2
        subst hs1;subst hs2
        have hfit:o+(len+src.1) * size≤r.n:=by simpa[oQ]using hfit
        have hfit2:o+(len+src.1) * size≤rb.N:=oS hfit hok.le
        obtain⟨w1,k1,k2,k3⟩:=HG h hr hst hnew
        rcases hcases with⟨rfl,c1,c2⟩ | ⟨rfl,rfl,c1,c2⟩
        · have hle:len+src.1≤c:=by
            rcases oI c (len+src.1)with h' | h'
            · have:(c+1) * size≤(len+src.1) * size:=pT _ h'
              omega
            · exact h'
          have:=DL (w:=w) (w1:=w1) (ty:=ty) (base:=some ⟨rb.b,rb.off+o,none⟩) (sLen:=len) (sCap:=c) hu hsize hby hsz hb hsok hle (by simp only[Cg];rw[show rb.off+o+len * size=rb.off+(o+len * size)from by omega];exact k1)
          exact⟨_,w1,ρ,this,.sliceOpen (k3.le _ _ hr) (by rw[hrs];exact hsz0) hle (by rw[hrs];exact c1) (by rw[hrs];exact c2),k2,k3⟩
        · have hk0:src.1=0:=by
            rcases pO src.1 with h' | h'
            · exact h'
            · have:1 * size≤(0+src.1) * size:=pT _ (by omega)
              omega
          have hnew0:new.toList=[]:=by
            have:new.size=0:=by rw[hns,hk0];simp
            simpa using this
          have hs20:src.2=[]:=by
            have:src.2.length=0:=by rw[hsrclen,hk0];simp
            simpa using this
          have hst0:s'=s:=by rw[hs20]at hst;simp[CJ]at hst;exact hst.symm
          subst hst0
          have:=DL (w:=w) (w1:=w) (ty:=ty) (base:=some ad) (sLen:=0) (sCap:=0) hu hsize hby hsz hb hsok (by omega) (by simp only[hnew0];rfl)
          rw[hk0]at this ⊢
          exact⟨_,w,ρ,this,.sliceEnd hr (by rw[hrs];exact hsz0) c1 (by rw[hrs];exact c2),h,Fr.refl _ _ _⟩
      | false =>
        rw[hfit]at hs
        simp only[cond_false,oE]at hs
        obtain⟨old,hold,hs⟩:=hs
        have hgt:r.n<o+(len+src.1) * size:=by
          rcases oI r.n (o+(len+src.1) * size)with h' | h'
          · exact h'
          · rw[Nat.ble_eq_true_of_le h']at hfit;cases hfit
        obtain⟨old',o1,o2,o3⟩:=EL h hr hold
        obtain⟨hle1,htake⟩:=JJ hrow hold
        have hold':∀w1:World,w1.heap=w.heap→(Builtin.firstCells size len (.slice (some ad) len c)).run P w1=.ok old'.toArray w1:=by
          intro w1 hw1
          rcases hcases with⟨rfl,_,_⟩ | ⟨rfl,rfl,_,_⟩
          · exact o3 w1 hw1
          · have:old'=[]:=by simpa using o2
            subst this
            simp[Builtin.firstCells,E6]
        have hcsrel:AU ρ (old++src.2) (old'.toArray++new).toList:=by rw[Array.toList_append];exact o1.append hnew
        have hcssz:(old'.toArray++new).size=(len+src.1) * size:=by simp[hns,o2,pC]
        cases hsp:r.spare with
        | true =>
          rw[hsp]at hs
          simp only[cond_true]at hs
          have hz:By P e size=true:=by
            unfold DF at hs
            have:=(AJ hs).1
            simp only[Bool.and_eq_true]at this
            exact this.2
          rcases oI c (len+src.1)with hlt | hge
          · obtain ⟨newCap, rest, g1, g2, g3⟩ := KC      (ty := ty) (oldA := old) h hu hsize hby hsz hb hb2 hsok hlt hz hold'
            obtain⟨ρ',f1,f2,f3⟩:=NL (h.drawn (w.drawn+1)) hf hs hrow hr hold hcsrel hcssz (by omega) g1 g2
            exact⟨_,_,ρ',g3,f1,f2,(Fr.drawn' (w.drawn+1)).trans f3⟩
          · rcases hcases with ⟨rfl, c1, c2⟩ | ⟨rfl, rfl, c1, c2⟩
            · obtain⟨w1,ρ',k1,k2,k3,k4⟩:=OU h hf hs hrow hr hold hnew hns hall (by omega) hge c1 c2 hgt
              have:=DL (w:=w) (w1:=w1) (ty:=ty) (base:=some ⟨rb.b,rb.off+o,none⟩) (sLen:=len) (sCap:=c) hu hsize hby hsz hb hsok hge (by simp only[Cg];exact k1)
              exact⟨_,w1,ρ',this,k2,k3,k4⟩
            · have hk0:src.1=0:=by omega
              rw[hk0]at hgt
              simp at hgt hle1
              omega
        | false =>
          rw[hsp]at hs
          simp only[cond_false]at hs
          have htight:=hok.tight hsp
          have hlt:c<len+src.1:=by
            rcases oI c (len+src.1)with h' | h'
            · exact h'
            · rcases hcases with ⟨rfl, c1, c2⟩ | ⟨rfl, rfl, c1, c2⟩
              · have:(len+src.1) * size≤c * size:=pT _ h'
                omega
              · have hk0:src.1=0:=by omega
                rw[hk0]at hgt
                simp at hgt hle1
                omega
          have hz:By P e size=true:=by unfold BV at hs;exact(AJ hs).1
          obtain⟨newCap,rest,g1,g2,g3⟩:=KC (ty:=ty) (oldA:=old) h hu hsize hby hsz hb hb2 hsok hlt hz hold'
          obtain⟨ρ',f1,f2,f3⟩:=GT (h.drawn (w.drawn+1)) hf hs hcsrel hcssz (by omega) g1 g2
          exact⟨_,_,ρ',g3,f1,f2,(Fr.drawn' (w.drawn+1)).trans f3⟩
end
end
end Go.Proofs.Ytilhhmkdcoajnaa.Am
