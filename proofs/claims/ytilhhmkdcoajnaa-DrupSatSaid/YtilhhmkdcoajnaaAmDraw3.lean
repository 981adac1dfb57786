/- A region that draws its order does what its plan does; conditions: none. -/
import Derived.Test.YtilhhmkdcoajnaaAmDraw2
set_option linter.unusedVariables false
set_option linter.unusedSimpArgs false
namespace Go.Proofs.Ytilhhmkdcoajnaa.Am
open Go
noncomputable section
def Dn(π:List Nat)(listed:Array Bool)(p:Nat):Prop:=∃i:Nat,π[p]? = some i∧listed[i]? = some true
def Sh.isMk:Sh→Bool
  | .mk _=>true
  | _=>false
theorem So{P:Program}{ops:Array Oper}{b:Array Nat}{π:List Nat}(h:FA P ops b [] π=true):∀p i j:Nat,π[p]? = some i→j<ops.size→(b.getD i 0).testBit j=true→∃q:Nat,q<p∧π[q]? = some j:=by
  intro p i j hp hj ht
  have:=(Li h).2 p i hp
  unfold OI at this
  simp only[Bool.and_eq_true,List.all_eq_true,Bool.or_eq_true,Bool.not_eq_true']at this
  have:=this.1.1.1.1.2 j (List.mem_range.2 hj)
  rcases this with h' | h'
  · rw[ht]at h';cases h'
  · simpa using Fm.1 (List.contains_iff_mem.1 h')
theorem PT.regs_at {P : Program} {F : Fns} {ops : Array Oper} {nt : Nat} {b : Array Nat} {π : List Nat} {D : MP}    (ht : PT P F ops nt b π D) : ∀ p, p ≤ π.length → ∀ t x, D.R p t = some x →
    (∃q,q<p∧(D.o q).dst=some t∧x=D.v q)∨((∀q,q<p→(D.o q).dst≠some t)∧D.R 0 t=some x):=by
  intro p
  induction p with
  | zero=>intro _ t x h;exact .inr ⟨fun q hq=>by omega,h⟩
  | succ p ih =>
    intro hp t x h
    rw[(ht.step p (by omega)).put]at h
    have old:D.R p t=some x→(D.o p).dst≠some t→(∃q,q<p+1∧(D.o q).dst=some t∧x=D.v q)∨((∀q,q<p+1→(D.o q).dst≠some t)∧D.R 0 t=some x):=by
      intro h hne
      rcases ih (by omega) t x h with⟨q,h1,h2,h3⟩ | ⟨h1,h2⟩
      · exact .inl ⟨q,by omega,h2,h3⟩
      · refine .inr ⟨fun q hq => ?_, h2⟩
        rcases oI q p with h' | h'
        · exact h1 q h'
        · have:q=p:=by omega
          subst this;exact hne
    cases hd:(D.o p).dst with
    | none=>rw[hd]at h;exact old h (by rw[hd];simp)
    | some d =>
      rw[hd]at h
      by_cases e:t=d
      · subst e
        simp only[CA.put,if_true,Option.some.injEq]at h
        exact .inl ⟨p,by omega,hd,h.symm⟩
      · simp only[CA.put,if_neg e]at h
        exact old h (by rw[hd];intro e';injection e' with e';exact e e'.symm)
theorem Ig{R R':CA}:∀ {xs:List Operand},(∀t,Operand.tmp t∈xs→R' t=R t)→D8 R' xs=D8 R xs
  | [],_=>rfl
  | x::l,h=>by
    have h1:Pg R' x=Pg R x:=by
      cases x with
      | tmp t=>exact h t oH
      | _=>rfl
    simp only[D8,h1,Ig fun t ht=>h t (oJ _ ht)]
structure DJ(P:Program)(ops:Array Oper)(b:Array Nat)(π:List Nat)(D:MP)(ρ0:Rho)(w0:World)(a0:Act)(listed:Array Bool)(k:Nat)(ρ:Rho)(a:Act)(w:World):Prop where
  lsz:listed.size=ops.size
  kle:k≤π.length
  dlt:∀p,Dn π listed p→p<k
  eff:∀p,p<k→(D.sh p).isEff=true→Dn π listed p
  anc:∀p i:Nat,π[p]? = some i→Dn π listed p→∀j:Nat,j<ops.size→(b.getD i 0).testBit j=true→listed[j]? = some true
  inv:Inv P ρ (D.st k) w
  fresh:Bb ρ (D.st k)
  fr:Fr ρ0 (D.st 0) w0 ρ (D.st k) w
  unb:∀p,p<k→¬ Dn π listed p→D.want p=true→∀f,D.sh p=.mk f→∃ob m,f (D.as p)=some (ob,m)∧D.v p=m.val (D.st p).next∧ρ (D.st p).next=none ∧
    (D.st k).heap.get (D.st p).next=some ob∧(D.st 0).next≤(D.st p).next∧(D.st p).next<(D.st k).next
  dis:∀p q,p<q→q<k→¬ Dn π listed p→¬ Dn π listed q→D.want p=true→D.want q=true→(D.sh p).isMk=true→(D.sh q).isMk=true→(D.st p).next≠(D.st q).next
  rds:∀q,q<k→¬ Dn π listed q→D.want q=true→(D.sh q).isRead=true→Eb (D.sh q) (D.as q) (D.st k)=some (D.v q)
  sz:a.tmps.size=a0.tmps.size
  dfr:a.defers=a0.defers
  rw:∀p,Dn π listed p→∀d,(D.o p).dst=some d→Aa ρ (D.v p) (a.tmps.getD d undef)
  ri:∀t,(∀p,Dn π listed p→(D.o p).dst≠some t)→∀x,D.R 0 t=some x→Aa ρ x (a.tmps.getD t undef)
section
variable{P:Program}{F:Fns}{ops:Array Oper}{nt:Nat}{b:Array Nat}{π:List Nat}{D:MP}{ρ0 ρ ρ1:Rho}{w0 w w1:World}{a0 a:Act}{listed:Array Bool}{k:Nat}{rnd:Option Nat}{Q:Exit→Act→World→Prop}
theorem DJ.adv1 (ht : PT P F ops nt b π D) (J : DJ P ops b π D ρ0 w0 a0 listed k ρ a w) (hk : k < π.length) (hne : (D.sh k).isEff = false) : DJ P ops b π D ρ0 w0 a0 listed (k + 1) ρ a w := by
  have hs:=ht.step k hk
  obtain⟨xs,hsh,has⟩:=hs.shape
  have lt1:∀p,Dn π listed p→p<k+1:=fun p h=>pk (J.dlt p h)
  have eff1:∀p,p<k+1→(D.sh p).isEff=true→Dn π listed p:=by
    intro p hp he
    rcases oI p k with h' | h'
    · exact J.eff p h' he
    · have:p=k:=by omega
      subst this;rw[he]at hne;cases hne
  have key:(D.st (k+1)=D.st k∧((D.sh k).isMk=true→D.want k=false)∧((D.sh k).isRead=true→D.want k=true→Eb (D.sh k) (D.as k) (D.st k)=some (D.v k))) ∨
      ∃f ob m,D.sh k=.mk f∧D.want k=true∧f (D.as k)=some (ob,m)∧D.v k=m.val (D.st k).next∧D.st (k+1)=AH (D.st k) ob:=by
    cases hw:D.want k with
    | false =>
      obtain⟨_,h2⟩:=hs.no hw
      exact .inl ⟨h2,fun _=>rfl,fun _ e=>by cases e⟩
    | true =>
      have hy:=hs.yes hw
      cases he:D.sh k with
      | p1 f =>
        rw[he]at hy
        have hy:shL (.p1 f) (D.as k) (D.st k)=some (D.v k,D.st (k+1)):=hy
        refine .inl ⟨?_,fun e=>(by cases e),fun e=>(by cases e)⟩
        simp only[shL]at hy
        split at hy<;>first | (cases hy;done) | exact(CK hy).2
      | p2 f =>
        rw[he]at hy
        have hy:shL (.p2 f) (D.as k) (D.st k)=some (D.v k,D.st (k+1)):=hy
        refine .inl ⟨?_,fun e=>(by cases e),fun e=>(by cases e)⟩
        simp only[shL]at hy
        split at hy<;>first | (cases hy;done) | exact(CK hy).2
      | p f=>rw[he]at hy;exact .inl ⟨(M6 (show shL (.p f) _ _=_ from hy)).2,fun e=>(by cases e),fun e=>(by cases e)⟩
      | r1 f =>
        rw[he]at hy hsh
        have:=Jn hsh has rfl (show shL (.r1 f) _ _=_ from hy)
        exact .inl ⟨this.2,fun e=>(by cases e),fun _ _=>this.1⟩
      | r f =>
        rw[he]at hy hsh
        have:=Jn hsh has rfl (show shL (.r f) _ _=_ from hy)
        exact .inl ⟨this.2,fun e=>(by cases e),fun _ _=>this.1⟩
      | mk f =>
        rw[he]at hy
        obtain⟨ob,m,h1,h2,h3⟩:=JS (show shL (.mk f) _ _=_ from hy)
        exact .inr ⟨f,ob,m,rfl,rfl,h1,h2,h3⟩
      | e f=>rw[he]at hne;cases hne
      | call f=>rw[he]at hne;cases hne
      | callv=>rw[he]at hne;cases hne
  have ndk:¬ Dn π listed k:=fun h=>absurd (J.dlt k h) (Nat.lt_irrefl k)
  have split1:∀p,p<k+1→p<k∨p=k:=fun p h=>by omega
  rcases key with⟨e,hm,hrd⟩ | ⟨f,ob,m,he,hw,h1,h2,e⟩
  · refine ⟨J.lsz, hk, lt1, eff1, J.anc, by rw [e]; exact J.inv, by rw [e]; exact J.fresh, by rw [e]; exact J.fr, ?_, ?_, ?_, J.sz, J.dfr, J.rw, J.ri⟩
    · intro p hp hd hw f hf
      rcases split1 p hp with h' | rfl
      · rw[e];exact J.unb p h' hd hw f hf
      · rw[hm (by rw[hf];rfl)]at hw;cases hw
    · intro p q hpq hq d1 d2 w1 w2 m1 m2
      rcases split1 q hq with h' | rfl
      · exact J.dis p q hpq h' d1 d2 w1 w2 m1 m2
      · rw[hm m2]at w2;cases w2
    · intro q hq hd hw hr
      rw[e]
      rcases split1 q hq with h' | rfl
      · exact J.rds q h' hd hw hr
      · exact hrd hr hw
  · have hfr := J.fresh (D.st k).next (oD          _)
    have hg:∀i,i≠(D.st k).next→(AH (D.st k) ob).heap.get i=(D.st k).heap.get i:=fun i hi=>by rw[CH,if_neg hi]
    have hsame:∀i rb,ρ i=some rb→(AH (D.st k) ob).heap.get i=(D.st k).heap.get i:=fun i rb hi=>hg i (fun q=>by subst q;rw[hfr.1]at hi;cases hi)
    refine⟨J.lsz,hk,lt1,eff1,J.anc,?_,?_,?_,?_,?_,?_,J.sz,J.dfr,J.rw,J.ri⟩
    · rw[e];exact J.inv.same hsame
    · rw[e]
      intro i hi
      have hi:(D.st k).next+1≤i:=hi
      have:=J.fresh i (by omega)
      exact⟨this.1,by rw[hg i (by omega)];exact this.2⟩
    · rw [e]
      refine⟨J.fr.le,fun i hi h'=>J.fr.fresh i hi (h'.imp id fun(h'':(D.st k).next+1≤i)=>by omega),Nat.le_succ_of_le J.fr.next,J.fr.size,J.fr.os,J.fr.tape,J.fr.output,J.fr.keep,fun bb hb=>J.fr.own bb (hb.same hsame),?_⟩
      intro i hi h'
      have hn:i≠(D.st k).next:=by
        have:=J.fr.next
        rcases h' with h' | h'
        · omega
        · have h':(D.st k).next+1≤i:=h'
          omega
      rw[hg i hn]
      exact J.fr.unborn i hi (h'.imp id fun(h'':(D.st k).next+1≤i)=>by omega)
    · intro p hp hd hw' f' hf
      rw[e]
      rcases split1 p hp with h' | rfl
      · obtain⟨ob',m',g1,g2,g3,g4,g5,g6⟩:=J.unb p h' hd hw' f' hf
        exact⟨ob',m',g1,g2,g3,by rw[hg _ (by omega)];exact g4,g5,pk g6⟩
      · rw[he]at hf
        injection hf with hf
        subst hf
        exact⟨ob,m,h1,h2,hfr.1,by rw[CH,if_pos rfl],J.fr.next,pF _⟩
    · intro p q hpq hq d1 d2 w1 w2 m1 m2
      rcases split1 q hq with h' | rfl
      · exact J.dis p q hpq h' d1 d2 w1 w2 m1 m2
      · cases hsp:D.sh p with
        | mk fp=>obtain⟨_,_,_,_,_,_,_,g6⟩:=J.unb p hpq d1 w1 fp hsp;omega
        | _=>rw[hsp]at m1;cases m1
    · intro q hq hd hw' hr
      rw[e]
      rcases split1 q hq with h' | rfl
      · obtain⟨xq,hq1,_⟩:=(ht.step q (by omega)).shape
        exact VH (ASt.sub_new hfr.2 ob) hq1 (J.rds q h' hd hw' hr)
      · rw[he]at hr;cases hr
theorem DJ.adv(ht:PT P F ops nt b π D):∀ (n k:Nat),n=π.length - k→DJ P ops b π D ρ0 w0 a0 listed k ρ a w→∃k',DJ P ops b π D ρ0 w0 a0 listed k' ρ a w∧(k'=π.length∨(D.sh k').isEff=true):=by
  intro n
  induction n with
  | zero=>intro k hn J;exact⟨k,J,.inl (by have:=J.kle;omega)⟩
  | succ n ih =>
    intro k hn J
    cases he:(D.sh k).isEff with
    | true=>exact⟨k,J,.inr he⟩
    | false=>exact ih (k+1) (by omega) (J.adv1 ht (by omega) he)
theorem lI(hp:It P ops b π){p i q:Nat}(hi:π[p]? = some i)(hl:listed.size=ops.size):Dn π (listed.setIfInBounds i true) q↔Dn π listed q∨q=p:=by
  have hlt:=hp.lt p i hi
  constructor
  · rintro⟨j,h1,h2⟩
    by_cases e:j=i
    · subst e;exact .inr (hp.inj q p j h1 hi)
    · rw[Array.getElem?_setIfInBounds_ne (Ne.symm e)]at h2
      exact .inl ⟨j,h1,h2⟩
  · rintro (⟨j, h1, h2⟩ | rfl)
    · refine⟨j,h1,?_⟩
      by_cases e:j=i
      · subst e;simp[hl,hlt]
      · rw[Array.getElem?_setIfInBounds_ne (Ne.symm e)];exact h2
    · exact⟨i,hi,by simp[hl,hlt]⟩
theorem M0{a:Act}{d' d:Tmp}{v:Value}(h:d'≠d):(a.put (some d') v).tmps.getD d undef=a.tmps.getD d undef:=by
  simp[Act.put,Array.getD_eq_getD_getElem?,Array.getElem?_setIfInBounds_ne h]
theorem DJ.put (ht : PT P F ops nt b π D) (hp : It     P ops b π) (hnt : nt ≤ a0.tmps.size) (J : DJ P ops b π D ρ0 w0 a0 listed k ρ a w) {p i k' : Nat} (hi : π[p]? = some i) (hnd : ¬ Dn π listed p) (hpk : p < k') (hkk : k ≤ k') (hk'' : ∀ q, q < k' → q = p ∨ q < k) (hkn : k' ≤ π.length)
    (hanc:∀j:Nat,j<ops.size→(b.getD i 0).testBit j=true→listed[j]? = some true) {v':Value} (hv:Aa ρ1 (D.v p) v') (le:ρ.le ρ1)
    (inv:Inv P ρ1 (D.st k') w1) (fresh:Bb ρ1 (D.st k')) (fr:Fr ρ0 (D.st 0) w0 ρ1 (D.st k') w1)
    (unb:∀q,q<k→q≠p→¬ Dn π listed q→D.want q=true→∀f,D.sh q=.mk f→ρ1 (D.st q).next=none∧(D.st k').heap.get (D.st q).next=(D.st k).heap.get (D.st q).next∧(D.st q).next<(D.st k').next)
    (rds:∀q,q<k→q≠p→¬ Dn π listed q→D.want q=true→(D.sh q).isRead=true→Eb (D.sh q) (D.as q) (D.st k')=some (D.v q)):
    DJ P ops b π D ρ0 w0 a0 (listed.setIfInBounds i true) k' ρ1 (a.put (D.o p).dst v') w1:=by
  have hlt:=hp.lt p i hi
  have hpl:p<π.length:=by omega
  have dn:=fun q=>lI (listed:=listed) (q:=q) hp hi J.lsz
  have up:∀j:Nat,listed[j]? = some true→(listed.setIfInBounds i true)[j]? = some true:=by
    intro j h
    by_cases e:j=i
    · subst e;simp[J.lsz,hlt]
    · rw[Array.getElem?_setIfInBounds_ne (Ne.symm e)];exact h
  have uniq:∀q r d,q<r→r<π.length→(D.o q).dst=some d→(D.o r).dst=some d→False:=by
    intro q r d hqr hr h1 h2
    have hr':=oM hr
    have hq':=oM (show q<π.length by omega)
    exact(hp.wdst r q _ _ _ _ d hr' hq' hqr (ht.op r _ hr') (ht.op q _ hq') h2).1 h1
  have nd:∀q,¬ Dn π (listed.setIfInBounds i true) q→¬ Dn π listed q∧q≠p:=fun q h=>⟨fun h'=>h ((dn q).2 (.inl h')),fun h'=>h ((dn q).2 (.inr h'))⟩
  refine⟨by simp[J.lsz],hkn,?_,?_,?_,inv,fresh,fr,?_,?_,?_,by rw[Fb];exact J.sz,by rw[Lk];exact J.dfr,?_,?_⟩
  · intro q hq
    rcases(dn q).1 hq with h' | rfl
    · exact oh (J.dlt q h') hkk
    · exact hpk
  · intro q hq he
    rcases hk'' q hq with rfl | h'
    · exact(dn q).2 (.inr rfl)
    · exact(dn q).2 (.inl (J.eff q h' he))
  · intro q j hj hq l hl hb
    rcases(dn q).1 hq with h' | rfl
    · exact up l (J.anc q j hj h' l hl hb)
    · rw[hi]at hj
      injection hj with hj
      subst hj
      exact up l (hanc l hl hb)
  · intro q hq hd hw f hf
    obtain⟨d1,d2⟩:=nd q hd
    have hqk:=(hk'' q hq).resolve_left d2
    obtain⟨ob,m,g1,g2,g3,g4,g5,g6⟩:=J.unb q hqk d1 hw f hf
    obtain⟨u1,u2,u3⟩:=unb q hqk d2 d1 hw f hf
    exact⟨ob,m,g1,g2,u1,by rw[u2];exact g4,g5,u3⟩
  · intro q r hqr hr d1 d2 w1 w2 m1 m2
    obtain⟨d1,e1⟩:=nd q d1
    obtain⟨d2,e2⟩:=nd r d2
    exact J.dis q r hqr ((hk'' r hr).resolve_left e2) d1 d2 w1 w2 m1 m2
  · intro q hq hd hw hr
    obtain⟨d1,d2⟩:=nd q hd
    exact rds q ((hk'' q hq).resolve_left d2) d2 d1 hw hr
  · intro q hq d hd
    rcases(dn q).1 hq with h' | rfl
    · have hqn : q < π.length := oh                 (J.dlt q h') J.kle
      have hne:(D.o p).dst≠some d:=by
        intro e
        rcases pY q p with h'' | h'' | h''
        · exact uniq q p d h'' hpl hd e
        · subst h'';exact hnd h'
        · exact uniq p q d h'' hqn e hd
      have:=(J.rw q h' d hd).mono le
      cases hdp:(D.o p).dst with
      | none=>exact this
      | some d' =>
        rw[M0 fun e=>hne (by rw[hdp,e])]
        exact this
    · have hd':d<a.tmps.size:=by
        rw[J.sz];exact oh ((ht.step q hpl).lt d hd) hnt
      rw[hd]
      simpa[Act.put,Array.getD_eq_getD_getElem?,hd']using hv
  · intro t hq x hx
    have hne:(D.o p).dst≠some t:=hq p ((dn p).2 (.inr rfl))
    have:=(J.ri t (fun q h'=>hq q ((dn q).2 (.inl h'))) x hx).mono le
    cases hdp:(D.o p).dst with
    | none=>exact this
    | some d' =>
      rw[M0 fun e=>hne (by rw[hdp,e])]
      exact this
end
end
end Go.Proofs.Ytilhhmkdcoajnaa.Am
