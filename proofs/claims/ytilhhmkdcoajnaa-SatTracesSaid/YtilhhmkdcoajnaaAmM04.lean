/- A region that draws its order: each of its operations, and all of them; conditions: none. -/
import Derived.Test.YtilhhmkdcoajnaaAmM03
import Derived.LoopNIn
import Derived.ChangeSame
import Derived.Test.YtilhhmkdcoajnaaAmM02
import Derived.KernelRfl
import Derived.ChangeArms
import Derived.DataReads
import Derived.DataElems
import Derived.Test.YtilhhmkdcoajnaaAmM01
set_option linter.unusedVariables false
set_option linter.unusedSimpArgs false
namespace Go.Proofs.Ytilhhmkdcoajnaa.Am
open Go
noncomputable section
section
variable{P:Program}{F:EF}{ops:Array Oper}{nt:Nat}{b:Array Nat}{π:List Nat}{D:M9}{ρ0 ρ ρ1:Bp}{w0 w w1:World}{a0 a:Act}{listed:Array Bool}{k:Nat}{rnd:Option Nat}{Q:Exit→Act→World→Prop}
theorem DJ.ahead(hp:JG P ops (Region.before ops) π)(J:DJ P ops (Region.before ops) π D ρ0 w0 a0 listed k ρ a w){p i:Nat}(hi:π[p]? = some i){o:Oper}(ho:ops[i]? = some o)
  (hr:∀e∈o.after,Region.binds .any e=true→listed.getD e.on false=true):∀j:Nat,j<ops.size→((Region.before ops).getD i 0).testBit j=true→listed[j]? = some true:=by
 intro j hj ht
 have lst:∀x:Nat,listed.getD x false=true→listed[x]? = some true:=by
  intro x hx
  rw[Array.getD_eq_getD_getElem?]at hx
  cases h:listed[x]? with
  | none=>rw[h]at hx;cases hx
  | some v=>rw[h]at hx;simp at hx;rw[hx]
 obtain⟨o',ho',e,he,hb,h'⟩:=PS ops i j ht
 rw[ho]at ho'
 injection ho' with ho'
 subst ho'
 have hl:=lst _ (hr e he hb)
 rcases h' with rfl | h'
 ·exact hl
 ·obtain⟨q,_,hq⟩:=hp.edge p i o hi ho e he hb
  exact J.anc q e.on hq ⟨e.on,hq,hl⟩ j hj h'
def QG(P:Program)(ops:Array Oper)(o:Oper)(t:Tmp):Prop:=t∈GT P o∨∃ (j:Nat)(want:Bool)(u:Oper),o.guard=some (j,want)∧ops[j]? = some u∧u.dst=some t
open Classical in
def KW (P:Program) (ops:Array Oper) (o:Oper) (R:CJ):CJ:=fun t=>if QG P ops o t then R t else none
theorem RJ{o:Oper}{R:CJ}{t:Tmp}(h:QG P ops o t):KW P ops o R t=R t:=by unfold KW;rw[if_pos h]
theorem UB{o:Oper}{R:CJ}:I8 ops (KW P ops o R) o=I8 ops R o:=by
 unfold I8
 cases hg:o.guard with
 | none=>rfl
 | some g =>
  obtain⟨j,want⟩:=g
  simp only
  cases hj:ops[j]? with
  | none=>rfl
  | some u =>
   cases hd:u.dst with
   | none=>simp[hd]
   | some d=>simp only[Option.bind_some,hd];rw[RJ (.inr ⟨j,want,u,hg,hj,hd⟩)]
theorem DJ.view (ht : PT P F ops nt (Region.before ops) π D) (hpl : FU     P ops (Region.before ops) [] π = true) (hr0 : FF   ρ0 (D.R 0) a0.tmps) (hnt : nt ≤ a0.tmps.size)
    (J:DJ P ops (Region.before ops) π D ρ0 w0 a0 listed k ρ a w) {p i:Nat} (hi:π[p]? = some i) (hnd:¬ Dn π listed p)
    (hanc:∀j:Nat,j<ops.size→((Region.before ops).getD i 0).testBit j=true→listed[j]? = some true):FF ρ (KW P ops (D.o p) (D.R p)) a.tmps:=by
  have hp:=Ju hpl
  have hlt:=hp.lt p i hi
  have hpn:p<π.length:=by
    rcases qN p π.length with h' | h'
    · exact h'
    · rw[qZ h']at hi;cases hi
  have hoi:=ht.op p i hi
  have place:∀ (q:Nat) (h:q<π.length),π[q]? = some π[q]:=fun q hq=>qP hq
  have uniq:∀q r d,q<π.length→r<π.length→(D.o q).dst=some d→(D.o r).dst=some d→q=r:=by
    have one:∀q r d,q<r→r<π.length→(D.o q).dst=some d→(D.o r).dst=some d→False:=by
      intro q r d hqr hr h1 h2
      exact(hp.wdst r q _ _ _ _ d (place r hr) (place q (by omega)) hqr (ht.op r _ (place r hr)) (ht.op q _ (place q (by omega))) h2).1 h1
    intro q r d hq hr h1 h2
    rcases rP q r with h' | h' | h'
    · exact(one q r d h' hr h1 h2).elim
    · exact h'
    · exact(one r q d h' hq h2 h1).elim
  intro t x hx
  unfold KW at hx
  split at hx
  · rename_i hn
    have gd:∀ (j:Nat) (want:Bool) (u:Oper),(D.o p).guard=some (j,want)→ops[j]? = some u→u.dst=some t→∃q,q<p∧Dn π listed q∧(D.o q).dst=some t:=by
      intro j want u h1 h2 h3
      have hj:j<ops.size:=by
        rcases qN j ops.size with h' | h'
        · exact h'
        · rw[Array.getElem?_eq_none h']at h2;cases h2
      have hb:=hp.guard p i (D.o p) j want hi hoi h1
      obtain⟨q,hqp,hq⟩:=Tp hpl p i j hi hj hb
      refine⟨q,hqp,⟨j,hq,hanc j hj hb⟩,?_⟩
      have:=ht.op q j hq
      rw[h2]at this
      injection this with this
      rw[← this];exact h3
    have fin:∀ {y:AV},Aa ρ y (a.tmps.getD t undef)→t<a0.tmps.size→t<a.tmps.size∧Aa ρ y (a.tmps.getD t undef):=fun h1 h2=>⟨by rw[J.sz];exact h2,h1⟩
    rcases ht.regs_at p (Nat.le_of_lt hpn) t x hx with⟨q,hq,hd,rfl⟩ | ⟨hno,h0⟩
    · have hqn : q < π.length := by omega
      have dq:Dn π listed q:=by
        rcases hn with hn | ⟨j,want,u,h1,h2,h3⟩
        · have hb:=hp.rdst p q i _ _ _ t hi (place q hqn) hq hoi (ht.op q _ (place q hqn)) hd hn
          exact⟨π[q],place q hqn,hanc _ (hp.lt q _ (place q hqn)) hb⟩
        · obtain⟨r,hr1,hr2,hr3⟩:=gd j want u h1 h2 h3
          have:=uniq q r t hqn (by omega) hd hr3
          subst this;exact hr2
      exact fin (J.rw q dq t hd) (qi ((ht.step q hqn).lt t hd) hnt)
    · refine fin (J.ri t ?_ x h0) (hr0 t x h0).1
      intro q dq hd
      have hqn:q<π.length:=qi (J.dlt q dq) J.kle
      have hpq:p<q:=by
        rcases rP q p with h' | h' | h'
        · exact absurd hd (hno q h')
        · subst h';exact absurd dq hnd
        · exact h'
      rcases hn with hn | ⟨j,want,u,h1,h2,h3⟩
      · have hb:=(hp.wdst q p _ i _ _ t (place q hqn) hi hpq (ht.op q _ (place q hqn)) hoi hd).2 hn
        exact hnd ⟨i,hi,J.anc q _ (place q hqn) dq i hlt hb⟩
      · obtain⟨r,hr1,hr2,hr3⟩:=gd j want u h1 h2 h3
        exact absurd hr3 (hno r hr1)
  · cases hx
theorem OZ{o:Oper}{sh:Sh}{xs:List Operand}(h:BW P o.op=some (sh,xs)):Pp P o=sh.isEff:=by unfold Pp;rw[h]
theorem DJ.run (hF : cc  P F) (ht : PT P F ops nt (Region.before ops) π D) (hpl : FU     P ops (Region.before ops) [] π = true) (hr0 : FF   ρ0 (D.R 0) a0.tmps) (hnt : nt ≤ a0.tmps.size)
    (J:DJ P ops (Region.before ops) π D ρ0 w0 a0 listed k ρ a w) (htop:k=π.length∨(D.sh k).isEff=true) {p i:Nat} (hi:π[p]? = some i) (hnd:¬ Dn π listed p)
    (hanc:∀j:Nat,j<ops.size→((Region.before ops).getD i 0).testBit j=true→listed[j]? = some true) {K:Act→World→Prop}
    (hK:∀k' ρ' a' w',DJ P ops (Region.before ops) π D ρ0 w0 a0 (listed.setIfInBounds i true) k' ρ' a' w'→K a' w'):wpOpIn (Ps rnd) 0 P ops Q i K a w:=by
  have hp:=Ju hpl
  have hpn:p<π.length:=by
    rcases qN p π.length with h' | h'
    · exact h'
    · rw[qZ h']at hi;cases hi
  have place:∀ (q:Nat) (h:q<π.length),π[q]? = some π[q]:=fun q hq=>qP hq
  have hoi:=ht.op p i hi
  have hs:=ht.step p hpn
  obtain⟨xs,hsh,has⟩:=hs.shape
  have hv:=J.view ht hpl hr0 hnt hi hnd hanc
  have hkp:p≤k:=by
    rcases qN k p with h' | h'
    · have hkn : k < π.length := by omega
      have he:(D.sh k).isEff=true:=htop.resolve_left (by omega)
      obtain⟨xk,hk1,_⟩:=(ht.step k hkn).shape
      have hb:=hp.eff p k i _ _ hi (place k hkn) h' (ht.op k _ (place k hkn)) (by rw[OZ hk1];exact he)
      have:=J.dlt k ⟨π[k],place k hkn,hanc _ (hp.lt k _ (place k hkn)) hb⟩
      omega
    · exact h'
  have hno:p<k→(D.sh p).isEff=false:=fun h'=>by
    cases he:(D.sh p).isEff with
    | false=>rfl
    | true=>exact absurd (J.eff p h' he) hnd
  have hnt':nt≤a.tmps.size:=by rw[J.sz];exact hnt
  have has':ER (KW P ops (D.o p) (D.R p)) xs=some (D.aS p):=by
    rw[Iv fun t htx=>RJ (.inl (Vp hsh htx))];exact has
  have sok:∀ {s s1:AF},(D.want p=true→cY F (D.sh p) (D.aS p) s=some (D.v p,s1))→(D.want p=false→s1=s) →
      Kz P F ops nt (KW P ops (D.o p) (D.R p)) s (D.o p) (D.sh p) (D.want p) (D.aS p) (D.v p) ((KW P ops (D.o p) (D.R p)).put (D.o p).dst (D.v p)) s1:=fun h1 h2 =>
    ⟨⟨xs,hsh,has'⟩,by rw[UB];exact hs.wants,rfl,hs.lt,h1,fun hw=>⟨(hs.no hw).1,h2 hw⟩⟩
  rcases qN p k with hlt | hge
  ·
    have hne:=hno hlt
    have same:∀ {v':Value} {w':World} {ρ':Bp},Aa ρ' (D.v p) v'→Bu P ρ' (D.st k) w'→Fr ρ (D.st k) w ρ' (D.st k) w'→K (a.put (D.o p).dst v') w':=by
      intro v' w' ρ' h1 h2 h3
      refine hK k ρ' _ w' (J.put ht hp hnt hi hnd hlt (qI k) (fun q hq=>.inr hq) J.kle hanc h1 h3.le h2 (J.fresh.step h3) (J.fr.trans h3) ?_ ?_)
      · intro q hq _ hd hw f hf
        obtain⟨ob,m,g1,g2,g3,g4,g5,g6⟩:=J.unb q hq hd hw f hf
        exact⟨h3.fresh _ g3 (.inl g6),rfl,g6⟩
      · intro q hq _ hd hw hr
        exact J.rds q hq hd hw hr
    have quiet:(D.want p=true→cY F (D.sh p) (D.aS p) (D.st k)=some (D.v p,D.st k))→wpOpIn (Ps rnd) 0 P ops Q i K a w:=fun hy =>
      Me J.inv (J.fresh _ (qI _)).1 hoi (sok hy fun _=>rfl) hne hv hnt' fun v' w' ρ' h1 h2 h3=>same h1 h2 h3
    cases hw:D.want p with
    | false=>exact quiet (fun e=>by rw[hw]at e;cases e)
    | true =>
      have hy:=hs.yes hw
      cases he:D.sh p with
      | p1 f =>
        refine quiet fun _=>?_
        rw[he]at hy ⊢
        simp only[cY,J3]at hy ⊢
        split at hy<;>first | (cases hy;done) | (rw[(CU hy).1];rfl)
      | p2 f =>
        refine quiet fun _=>?_
        rw[he]at hy ⊢
        simp only[cY,J3]at hy ⊢
        split at hy<;>first | (cases hy;done) | (rw[(CU hy).1];rfl)
      | p f =>
        refine quiet fun _=>?_
        rw[he]at hy ⊢
        simp only[cY,J3]at hy ⊢
        rw[(CU hy).1];rfl
      | r1 f =>
        refine quiet fun _=>?_
        have:=KQ (J.rds p hlt hnd hw (by rw[he];rfl))
        rw[he]at this ⊢
        exact this
      | r f =>
        refine quiet fun _=>?_
        have:=KQ (J.rds p hlt hnd hw (by rw[he];rfl))
        rw[he]at this ⊢
        exact this
      | mk f =>
        obtain⟨ob,m,g1,g2,g3,g4,g5,g6⟩:=J.unb p hlt hnd hw f he
        let s':AF:={ next:=(D.st p).next,heap:=(D.st k).heap }
        have hinv:Bu P ρ s' w:=J.inv.same fun _ _ _=>rfl
        have hsame:∀x,(newObj s' ob).heap.get x=(D.st k).heap.get x:=by
          intro x
          rw[CR]
          by_cases e:x=s'.next
          · rw[if_pos e,e];exact g4.symm
          · rw[if_neg e]
        refine Me hinv g3 hoi (sok (s1:=newObj s' ob) (fun _=>?_) (fun e=>by rw[hw]at e;cases e)) hne hv hnt' ?_
        · rw[he]
          simp only[cY,J3,g1,QD,g2]
          rfl
        · intro v' w' ρ' h1 h2 h3
          have h2':Bu P ρ' (D.st k) w':=h2.same fun x _ _=>(hsame x).symm
          have hid:(D.st p).next+1≤(D.st k).next:=g6
          refine hK k ρ' _ w' (J.put ht hp hnt hi hnd hlt (qI k) (fun q hq=>.inr hq) J.kle hanc h1 h3.le h2' ?_ ?_ ?_ ?_)
          · intro x hx
            have:=J.fresh x hx
            exact⟨h3.fresh x this.1 (.inr (show(D.st p).next+1≤x by omega)),this.2⟩
          · refine ⟨Bp.le_trans  J.fr.le h3.le, ?_, J.fr.next, qV           J.fr.size h3.size, h3.os.trans J.fr.os, h3.tape.trans J.fr.tape, h3.output.trans J.fr.output, ?_, ?_, J.fr.unborn⟩
            · intro x hx h'
              refine h3.fresh x (J.fr.fresh x hx h') ?_
              rcases h' with h' | h'
              · exact .inl (show x<(D.st p).next by omega)
              · exact .inr (show(D.st p).next+1≤x by omega)
            · intro bb hb ho
              have hb':bb<w.heap.size:=qi hb J.fr.size
              refine(h3.keep bb hb' ?_).trans (J.fr.keep bb hb ho)
              intro ho'
              have ho'':Gs ρ (D.st k) bb:=ho'
              exact(J.fr.own bb ho'').elim ho (fun hge=>by omega)
            · intro bb hb
              have hb':Gs ρ' (newObj s' ob) bb:=hb.same fun x _ _=>(hsame x).symm
              rcases h3.own bb hb' with h' | h'
              · exact J.fr.own bb h'
              · exact .inr (qV J.fr.size h')
          · intro q hq hqp hd hwq fq hfq
            obtain⟨_,_,_,_,u3,_,_,u6⟩:=J.unb q hq hd hwq fq hfq
            have hne':(D.st q).next≠(D.st p).next:=by
              rcases rP q p with h' | h' | h'
              · exact J.dis q p h' hlt hd hnd hwq hw (by rw[hfq];rfl) (by rw[he];rfl)
              · exact absurd h' hqp
              · exact(J.dis p q h' hq hnd hd hw hwq (by rw[he];rfl) (by rw[hfq];rfl)).symm
            refine⟨h3.fresh _ u3 ?_,rfl,u6⟩
            rcases Nat.lt_or_gt_of_ne hne' with h' | h'
            · exact .inl h'
            · exact .inr h'
          · intro q hq _ hd hwq hr
            exact J.rds q hq hd hwq hr
      | e f=>rw[he]at hne;cases hne
      | call f=>rw[he]at hne;cases hne
      | callv=>rw[he]at hne;cases hne
  ·
    have hpk:p=k:=by omega
    subst hpk
    have hkn:p<π.length:=hpn
    have he:(D.sh p).isEff=true:=htop.resolve_left (by omega)
    refine U7 hF J.inv J.fresh hoi (sok (s1:=D.st (p+1)) hs.yes (fun e=>(hs.no e).2)) hv hnt' ?_
    intro v' w' ρ' h1 h2 h3
    refine hK (p+1) ρ' _ w' (J.put ht hp hnt hi hnd (qn p) (rR p) (fun q hq=>by omega) hkn hanc h1 h3.le h2 (J.fresh.step h3) (J.fr.trans h3) ?_ ?_)
    · intro q hq _ hd hw f hf
      obtain⟨ob,m,g1,g2,g3,g4,g5,g6⟩:=J.unb q hq hd hw f hf
      exact⟨h3.fresh _ g3 (.inl g6),h3.unborn _ g3 (.inl g6),qi g6 h3.next⟩
    · intro q hq _ hd hw hr
      have hqn:q<π.length:=by omega
      cases hwp:D.want p with
      | false=>rw[(hs.no hwp).2];exact J.rds q hq hd hw hr
      | true =>
        refine ht.ag p q i _ hi (place q hqn) hq he hwp hr ?_ hw
        cases hb:((Region.before ops).getD i 0).testBit π[q]with
        | false=>rfl
        | true=>exact absurd ⟨π[q],place q hqn,hanc _ (hp.lt q _ (place q hqn)) hb⟩ hd
theorem DJ.any (hF : cc  P F) (ht : PT P F ops nt (Region.before ops) π D) (hpl : FU     P ops (Region.before ops) [] π = true) (hr0 : FF   ρ0 (D.R 0) a0.tmps) (hnt : nt ≤ a0.tmps.size)
    (hq:∀a' w' ρ',Bu P ρ' (D.st π.length) w'→Bm ρ' (D.st π.length)→Fr ρ0 (D.st 0) w0 ρ' (D.st π.length) w'→FF ρ' (D.R π.length) a'.tmps→a'.tmps.size=a0.tmps.size→a'.defers=a0.defers→Q .normal a' w'):
    ∀ (fuel:Nat) (listed:Array Bool) (k:Nat) (ρ:Bp) (a:Act) (w:World),DJ P ops (Region.before ops) π D ρ0 w0 a0 listed k ρ a w→(∀l:List Nat,l.Nodup→(∀i∈l,listed[i]? = some false)→l.length≤fuel) →
      wpAnyIn (Ps rnd) 0 P .any ops Q fuel listed a w:=by
  have hp:=Ju hpl
  have place:∀ (q:Nat) (h:q<π.length),π[q]? = some π[q]:=fun q hq=>qP hq
  have bool:∀ {listed:Array Bool} {i:Nat},i<listed.size→listed[i]?≠some true→listed[i]? = some false:=by
    intro listed i hi h
    rw[Array.getElem?_eq_getElem hi]at h ⊢
    cases hb:listed[i]with
    | true=>rw[hb]at h;exact absurd rfl h
    | false=>rfl
  have all:∀ {listed:Array Bool} {k:Nat} {ρ:Bp} {a:Act} {w:World},DJ P ops (Region.before ops) π D ρ0 w0 a0 listed k ρ a w→Region.ready .any ops listed=[]→∀p,p<π.length→Dn π listed p:=by
    intro listed k ρ a w J hr p
    induction p using Nat.strongRecOn with
    | ind p ih =>
      intro hpn
      refine Classical.byContradiction fun hnd=>?_
      have hi:=place p hpn
      have hlt:=hp.lt p _ hi
      have hoi:=ht.op p _ hi
      have hf:listed[π[p]]? = some false:=bool (by rw[J.lsz];exact hlt) fun h=>hnd ⟨_,hi,h⟩
      have hm:π[p]∈Region.ready .any ops listed:=by
        refine mem_ready.2 ⟨by simp[Array.getD_eq_getD_getElem?,hf],D.o p,hoi,?_⟩
        intro e he hb
        obtain⟨q,hqp,hq'⟩:=hp.edge p _ _ hi hoi e he hb
        obtain⟨j,hj,hl⟩:=ih q hqp (by omega)
        rw[hq']at hj
        injection hj with hj
        subst hj
        simp[Array.getD_eq_getD_getElem?,hl]
      rw[hr]at hm
      cases hm
  have done:∀ {listed:Array Bool} {k:Nat} {ρ:Bp} {a:Act} {w:World},DJ P ops (Region.before ops) π D ρ0 w0 a0 listed k ρ a w→Region.ready .any ops listed=[]→Q .normal a w:=by
    intro listed k ρ a w J hr
    have hall:=all J hr
    have hk:k=π.length:=by
      rcases qN k π.length with h' | h'
      · have:=J.dlt k (hall k h');omega
      · have:=J.kle;omega
    subst hk
    refine hq a w ρ J.inv J.fresh J.fr ?_ J.sz J.dfr
    intro t x hx
    rcases ht.regs_at π.length (qI _) t x hx with⟨q,hqn,hd,rfl⟩ | ⟨hno,h0⟩
    · exact⟨by rw[J.sz];exact qi ((ht.step q hqn).lt t hd) hnt,J.rw q (hall q hqn) t hd⟩
    · exact⟨by rw[J.sz];exact(hr0 t x h0).1,J.ri t (fun q dq=>hno q (J.dlt q dq)) x h0⟩
  intro fuel
  induction fuel with
  | zero =>
    intro listed k ρ a w J hfu
    have hr:Region.ready .any ops listed=[]:=by
      cases hr:Region.ready .any ops listed with
      | nil=>rfl
      | cons i l =>
        have hm:i∈Region.ready .any ops listed:=by rw[hr];exact qR
        obtain⟨h1,o,ho,_⟩:=mem_ready.1 hm
        have hlt:i<ops.size:=by
          rcases qN i ops.size with h' | h'
          · exact h'
          · rw[Array.getElem?_eq_none h']at ho;cases ho
        have:=hfu [i] (by simp) (fun j hj=>by
          have:j=i:=by simpa using hj
          subst this
          refine bool (by rw[J.lsz];exact hlt) fun h=>?_
          simp[Array.getD_eq_getD_getElem?,h]at h1)
        simp at this
    exact⟨hr,done J hr⟩
  | succ fuel ih =>
    intro listed k ρ a w J hfu
    obtain⟨k,J,htop⟩:=J.adv ht _ k rfl
    refine⟨done J,fun i hm=>?_⟩
    obtain⟨h1,o,ho,hr⟩:=mem_ready.1 hm
    have hlt:i<ops.size:=by
      rcases qN i ops.size with h' | h'
      · exact h'
      · rw[Array.getElem?_eq_none h']at ho;cases ho
    obtain⟨p,hi⟩:=hp.onto hlt
    have hf:listed[i]?≠some true:=fun h=>by simp[Array.getD_eq_getD_getElem?,h]at h1
    have hnd:¬ Dn π listed p:=fun⟨j,hj,hl⟩=>by
      rw[hi]at hj
      injection hj with hj
      subst hj
      exact hf hl
    refine J.run hF ht hpl hr0 hnt htop hi hnd (J.ahead hp hi ho hr) ?_
    intro k' ρ' a' w' J'
    refine ih _ k' ρ' a' w' J' ?_
    intro l hn hl
    have hil:i ∉ l:=fun h=>by
      have:=hl i h
      simp[J.lsz,hlt]at this
    have:=hfu (i::l) (rf.2 ⟨hil,hn⟩) (fun j hj=>by
      rcases qp.1 hj with rfl | hj
      · exact bool (by rw[J.lsz];exact hlt) hf
      · have:=hl j hj
        rw[Array.getElem?_setIfInBounds_ne (fun e=>hil (by rw[e];exact hj))]at this
        exact this)
    simpa using this
theorem aX(hF:cc P F){R R2:CJ}{s s2:AF}(htr:Trace P F ops nt (Region.before ops) true π [] R s R2 s2)(hpl:FU P ops (Region.before ops) [] π=true)
  (h:Bu P ρ s w) (hf:Bm ρ s) (hr:FF ρ R a.tmps) (hnt:nt≤a.tmps.size)
  (hq:∀a' w' ρ',Bu P ρ' s2 w'→Bm ρ' s2→Fr ρ s w ρ' s2 w'→FF ρ' R2 a'.tmps→a'.tmps.size=a.tmps.size→a'.defers=a.defers→Q .normal a' w'):
  wpAnyIn (Ps rnd) 0 P .any ops Q ops.size (Array.replicate ops.size false) a w:=by
 obtain⟨D,ht,e1,e2,e3,e4,_⟩:=cS htr
 subst e1;subst e2;subst e3;subst e4
 have nodn:∀p,¬ Dn π (Array.replicate ops.size false) p:=by
  rintro p ⟨i,_,h⟩
  rw[Array.getElem?_replicate]at h
  split at h<;>cases h
 refine DJ.any hF ht hpl hr hnt hq ops.size _ 0 ρ a w ⟨by simp,qO _,fun p h=>(nodn p h).elim,fun p h=>by omega,fun p i _ h=>(nodn p h).elim,h,hf,Fr.refl _ _ _,fun p h=>by omega,fun p q _ h=>by omega,fun p h=>by omega,rfl,rfl,fun p h=>(nodn p h).elim,?_⟩ ?_
 ·intro t _ x hx
  exact(hr t x hx).2
 ·intro l hn hl
  refine QJ ops.size l hn fun i hi=>?_
  have:=hl i hi
  rw[Array.getElem?_replicate]at this
  split at this
  ·assumption
  ·cases this
end
section
variable{P:Program}{ρ ρ1 ρ2:Bp}{s s1 s2:AF}{w w1 w2:World}
theorem RD{b:Frame}{a:Act}{k:List Item}{cs:List Frame}{c:Code}:step P (lone (b.atR a (.code (.scope c)::k)) cs w)=.next (lone (b.atR a (.code c::.inScope c::k)) cs w):=
 step_lone_go (by simp[stepG,stepG.exec,Frame.atR])
theorem M6{b:Frame}{a:Act}{k:List Item}{cs:List Frame}{c:Code}:step P (lone (b.atR a (.inScope c::k)) cs w)=.next (lone (b.atR a k) cs w):=
 step_lone_go (by simp[stepG,stepG.exec,Frame.atR])
def eX(Q:Exit→Act→World→Prop):Exit→Act→World→Prop
 | .goto _,_,_=>False
 | e,a,w=>Q e a w
theorem UC{F:Fence}{n:Nat}{Q:Exit→Act→World→Prop}{a:Act}{c:Code}(h:c.wpIn F n P (eX Q) a w):(Code.scope c).wpIn F n P Q a w:=by
 intro b k cs hro hb hr
 obtain⟨e,a₁,w₁,hq,harr⟩:=h b (.inScope c::k) cs hro hb hr
 have h1:StepsIn (Machine.fenced P F) P (lone (b.atR a (.code (.scope c)::k)) cs w) (lone (b.atR a (.code c::.inScope c::k)) cs w):=.one (fenced_calm hb hr rfl) RD
 cases e with
 | normal=>exact⟨.normal,a₁,w₁,hq,h1.trans (StepsIn.trans harr (.one (fenced_calm hb hr rfl) M6))⟩
 | exit id=>exact⟨.exit id,a₁,w₁,hq,.of_steps h1 ⟨fun k' hk=>harr.1 k' (by simpa[exitTo]using hk),fun h2 hk=>harr.2 h2 (by simpa[exitTo]using hk)⟩⟩
 | goto l=>exact hq.elim
 | ret=>exact⟨.ret,a₁,w₁,hq,ArrivesIn.of_steps (k:=k) (e:=.ret) h1 harr⟩
 | panic ch=>exact⟨.panic ch,a₁,w₁,hq,ArrivesIn.of_steps (k:=k) (e:=.panic ch) h1 harr⟩
 | outgrown=>exact⟨.outgrown,a₁,w₁,hq,ArrivesIn.of_steps (k:=k) (e:=.outgrown) h1 harr⟩
structure DY(P:Program)(ρ:Bp)(fn:Func)(var:List AV)(tmps:Array Value):Prop where
 len:var.length=(BT P fn).length
 rel:EV ρ (BT P fn) var tmps
 size:fn.ntmps≤tmps.size
theorem DY.mono{fn:Func}{var:List AV}{tmps:Array Value}(h:DY P ρ fn var tmps)(le:ρ.le ρ1):DY P ρ1 fn var tmps:=⟨h.len,h.rel.mono le,h.size⟩
def Jw(vars:List Tmp)(var:List AV):CJ:=fun t=>(CA vars t).bind fun k=>var[k]?
theorem KP{vars:List Tmp}{var:List AV}(h:var.length=vars.length):Ej vars ⟨[],0⟩ [] var (Jw vars var):=by
 refine⟨h,fun t p e=>(by cases e),fun t x e=>(by cases e),?_⟩
 intro t x hx
 unfold Ew at hx
 simp only[Et]at hx
 simp only[qJ]at hx
 obtain⟨j,h1,h2⟩:=hx
 injection h2 with h2
 subst h2
 have hj:j<var.length:=by rw[h];exact FT h1
 simp only[Jw,h1,Option.bind_some,Cf,Du]
 rw[qP hj,O1 (qP hj)]
theorem HH{fn:Func}{var:List AV}{tmps:Array Value}(h:DY P ρ fn var tmps):FF ρ (Jw (BT P fn) var) tmps:=by
 intro t v hv
 simp only[Jw,qJ]at hv
 obtain⟨k,h1,h2⟩:=hv
 obtain⟨h3,v',h4,h5⟩:=h.rel t k h1
 rw[h2]at h4
 injection h4 with h4
 subst h4
 exact⟨h3,h5⟩
theorem WZ{fn:Func}{c:cZ}{loc var:List AV}{R:CJ}{tmps:Array Value}(hc:Ej (BT P fn) c loc var R)(hr:FF ρ R tmps)(hs:fn.ntmps≤tmps.size):DY P ρ fn var tmps:=by
 refine⟨hc.vlen,?_,hs⟩
 intro t k hk
 have hl:Et c.map t=none:=by
  cases h:Et c.map t with
  | none=>rfl
  | some x=>have:=hc.keys t x h;rw[hk]at this;cases this
 have hx:Ew (BT P fn) c t=some (.var k):=by unfold Ew;rw[hl,hk];rfl
 have hv:=hc.val t _ hx
 have hj:k<var.length:=by rw[hc.vlen];exact FT hk
 obtain⟨h1,h2⟩:=hr t _ hv
 refine⟨h1,_,qP hj,?_⟩
 have e:Uz var k=var[k]:=O1 (qP hj)
 simp only[Cf,Du,e]at h2
 exact h2
theorem QM{fn:Func}{var:List AV}{a:Act}(h:DY P ρ fn var a.tmps){o:Operand}{x:CX}(hx:Fi (BT P fn) ⟨[],0⟩ o=some x):Aa ρ (Du [] var x) (a.eval o):=by
 have hc:=KP h.len
 have:=MM hc hx
 have e:Cf 0 x=x:=by
  cases x with
  | loc p=>exact absurd (ML hc hx p rfl) (Nat.not_lt_zero _)
  | _=>rfl
 rw[e]at this
 exact QS (HH h) this
theorem HD:∀ (n:Nat)(l:List AV),(Ql l n).length=n
 | 0,_=>rfl
 | n+1,[]=>by simp[Ql,HD n]
 | n+1,_::l=>by simp[Ql,HD n]
theorem MP:∀ (n:Nat)(l:List AV)(k:Nat),k<n→(Ql l n)[k]? = some (l.getD k BJ)
 | 0,_,k,h=>by omega
 | n+1,[],k,h=>by
  cases k with
  | zero=>rfl
  | succ k=>simpa[Ql]using MP n [] k (by omega)
 | n+1,a::l,k,h=>by
  cases k with
  | zero=>rfl
  | succ k=>simpa[Ql]using MP n l k (by omega)
theorem E0(m:Nat):∀ (n k x:Nat),x∈F3 m n k→k≤x∧x<k+n
 | 0,k,x,h=>by cases h
 | n+1,k,x,h=>by
  unfold F3 at h
  cases hb:m.testBit k with
  | true =>
   rw[hb]at h
   simp only[cond_true]at h
   rcases qp.1 h with rfl | h
   ·omega
   ·have:=E0 m n (k+1) x h;omega
  | false =>
   rw[hb]at h
   simp only[cond_false]at h
   have:=E0 m n (k+1) x h;omega
theorem fD      {fn : Func} {aS : List AV} {as' : Array Value} (ha : AY    ρ aS as'.toList) (hn : aS.length = Dh     fn) (hle : Dh     fn ≤ fn.ntmps) :
    DY P ρ fn (Ql aS (BT P fn).length) (as'++Array.replicate (fn.ntmps - as'.size) undef):=by
  have hsz:as'.size=Dh fn:=by have:=ha.length;simp at this;omega
  refine⟨HD _ _,?_,by simp;omega⟩
  intro t k hk
  have hg:=Fj hk
  have hlt:=FT hk
  refine⟨?_,_,MP _ _ k hlt,?_⟩
  all_goals unfold BT at hg
  · have hm:t∈(List.range (Dh fn)++match fn.body with
        | none=>[]
        | some c=>F3 (Nat.lor (E2 P c) (H0 fn.results.toList)) (fn.ntmps - Dh fn) (Dh fn)):=qL hg
    rcases List.mem_append.1 hm with h | h
    · have h9:(t:Nat)<Dh fn:=List.mem_range.1 h
      rw[Array.size_append,Array.size_replicate]
      exact qi h9 (by omega)
    · cases hb:fn.body with
      | none=>rw[hb]at h;cases h
      | some c =>
        rw[hb]at h
        have h9:=(E0 _ _ _ _ h).2
        rw[Array.size_append,Array.size_replicate]
        exact qi h9 (by omega)
  · by_cases hka : k < Dh     fn
    · rw [qX                        (by simpa using hka)] at hg
      rw[List.getElem?_range hka]at hg
      injection hg with hg
      subst hg
      obtain⟨v',h1,h2⟩:=ha.get (k:=k) (v:=aS[k]'(by omega)) (qP (by omega))
      have e1:aS.getD k BJ=aS[k]'(by omega):=by simp[show k<aS.length by omega]
      have e2:(as'++Array.replicate (fn.ntmps - as'.size) undef).getD k undef=v':=by
        have h1':as'[k]? = some v':=by simpa using h1
        have hk':k<as'.size:=by omega
        simp[Array.getD_eq_getD_getElem?,Array.getElem?_append_left hk',h1']
      rw[e1,e2]
      exact h2
    · rw[qY (by simpa using hka)]at hg
      have ht:Dh fn≤t:=by
        cases hb:fn.body with
        | none=>rw[hb]at hg;simp at hg
        | some c=>rw[hb]at hg;exact(E0 _ _ _ _ (qL hg)).1
      have e1:aS.getD k BJ=BJ:=by simp[show aS.length≤k by omega]
      have e2:(as'++Array.replicate (fn.ntmps - as'.size) undef).getD t undef=undef:=by
        rw[Array.getD_eq_getD_getElem?,Array.getElem?_append_right (by omega),Array.getElem?_replicate]
        split<;>rfl
      rw[e1,e2]
      exact Ds ρ
def Dw(ρ:Bp):List Nat→List Deferred→Prop
 | [],ds=>ds=[]
 | i::l,ds=>∃rb ds',ρ i=some rb∧ds={ target:=.collected rb.b,args:=#[] }::ds'∧Dw ρ l ds'
theorem Dw.mono:∀ {l:List Nat}{ds:List Deferred},Dw ρ l ds→ρ.le ρ1→Dw ρ1 l ds
 | [],_,h,_=>h
 | _::_,_,⟨rb,ds',h1,h2,h3⟩,le=>⟨rb,ds',le _ _ h1,h2,Dw.mono h3 le⟩
theorem Bu.unmark1(h:Bu P ρ s w){i:Nat}{rb:RB}(hg:s.heap.get i=some .mark)(hr:ρ i=some rb):
  Bu P ρ (Cl s i) (w.putObj rb.b (.deferred none))∧Fr ρ s w ρ (Cl s i) (w.putObj rb.b (.deferred none)):=by
 let o1:C0:=.row { elem:=default,sz:=rb.sz,n:=0,c:=.leaf,spare:=true,mode:=.ro,par:=none,bytes:=false }
 have ho:Gr P ρ (w.putObj rb.b (.deferred none)) o1 rb:=
  ⟨fun k v hk=>absurd hk (Nat.not_lt_zero k),qO _,rfl,(fun e=>by cases e),fun e=>absurd rfl e,fun p e=>by cases e⟩
 obtain⟨h1,h2⟩:=h.set (w1:=w.putObj rb.b (.deferred none)) (o1:=o1) hg hr rfl (fun p e=>by cases e) rfl World.putObj_size (fun b hb=>World.putObj_heap_other hb) rfl rfl rfl ho
 obtain⟨h3,h4⟩:=h1.del hr
 have e:∀x,(Cl (setObj s i o1) i).heap.get x=(Cl s i).heap.get x:=by
  intro x
  rw[Bn,Bn,Dk]
  by_cases h':x=i
  ·simp[h']
  ·simp[h']
 have h5:=h2.trans h4
 refine⟨h3.same fun x _ _=>(e x).symm,⟨h5.le,h5.fresh,h5.next,h5.size,h5.os,h5.tape,h5.output,h5.keep,fun b hb=>h5.own b (hb.same fun x _ _=>(e x).symm),fun x hx hy=>(e x).symm.trans (h5.unborn x hx hy)⟩⟩
theorem Oq{fn:Func}{tmps:Array Value}{R:Ending→World→Prop}:∀ {marks:List Nat}{ds:List Deferred}{s s':AF}{w:World},Dw ρ marks ds→unmark s marks=some s'→Bu P ρ s w →
  (∀w',Bu P ρ s' w'→Fr ρ s w ρ s' w'→∃v,(results fn tmps).run P w'=.ok v w'∧R (.returned v) w')→LeavesInM Fence.wide 0 P fn tmps R ds .returning w:=by
 intro marks
 induction marks with
 | nil =>
  intro ds s s' w hm hu hi hk
  have hm:ds=[]:=hm
  subst hm
  injection hu with hu
  subst hu
  exact hk w hi (Fr.refl _ _ _)
 | cons i l ih =>
  intro ds s s' w hm hu hi hk
  obtain⟨rb,ds',h1,rfl,h3⟩:=hm
  unfold unmark at hu
  split at hu
  ·rename_i hg
   obtain⟨h4,h5⟩:=hi.unmark1 hg h1
   have hb:w.heap[rb.b]? = some (.deferred (some [])):=hi.obj i _ rb hg h1
   refine⟨by simp,.inl ⟨rb.b,_,rfl,run_takeDeferred hb,?_⟩⟩
   exact ih h3 hu h4 fun w' g1 g2=>hk w' g1 (h5.trans g2)
  ·cases hu
def bo(tmps:Array Value):ResultVar→Sem Value
 | .tmp t=>Pure.pure (tmps.getD t undef)
 | .cell a t=>do loadVar t (← asAddr (tmps.getD a undef))
theorem Ts(fn:Func)(tmps:Array Value):results fn tmps=(do
  let vs ← fn.results.mapM (bo tmps)
  Pure.pure (if h:vs.size=1 then vs[0]else .tuple vs)):=by
 have:(fun r:ResultVar=>(match r with
   | .tmp t=>(Pure.pure (tmps.getD t undef):Sem Value)
   | .cell a t=>do loadVar t (← asAddr (tmps.getD a undef))))=bo tmps:=by funext r;cases r<;>rfl
 rw[← this]
 rfl
theorem O7           {vars : List Tmp} {var : List AV} {tmps : Array Value} (hI : Bu  P ρ s w) (hr : EV      ρ vars var tmps) : ∀ {rs : List ResultVar} {cr : List (CX × Option TypeId)} {l : List AV}, C1          vars rs = some cr → B7       P s var cr = some l →
    ∃l':List Value,(rs.mapM (bo tmps)).run P w=.ok l' w∧AY ρ l l':=by
  intro rs
  induction rs with
  | nil=>intro cr l hc ha;injection hc with hc;subst hc;injection ha with ha;subst ha;exact⟨[],rfl,.nil⟩
  | cons r rs ih =>
    intro cr l hc ha
    cases r with
    | tmp t =>
      simp only[C1,qJ]at hc
      obtain⟨j,h1,cr',h2,h3⟩:=hc
      injection h3 with h3
      subst h3
      simp only[B7,qJ]at ha
      obtain⟨l1,h4,h5⟩:=ha
      injection h5 with h5
      subst h5
      obtain⟨l',h6,h7⟩:=ih h2 h4
      obtain⟨h8,v,h9,h10⟩:=hr t j h1
      refine⟨tmps.getD t undef::l',?_,.cons ?_ h7⟩
      · rw[List.mapM_cons]
        simp[bo,h6,Result.andThen]
      · simp only[Du];rw[O1 h9];exact h10
    | cell t ty =>
      simp only[C1,qJ]at hc
      obtain⟨j,h1,cr',h2,h3⟩:=hc
      injection h3 with h3
      subst h3
      simp only[B7,qJ]at ha
      obtain⟨v,hv,l1,h4,h5⟩:=ha
      injection h5 with h5
      subst h5
      obtain⟨l',h6,h7⟩:=ih h2 h4
      obtain⟨h8,x,h9,h10⟩:=hr t j h1
      simp only[Du]at hv
      rw[O1 h9]at hv
      obtain⟨v',_,g2,ad,g3,g4⟩:=P7 hI hv h10
      refine⟨v'::l',?_,.cons g2 h7⟩
      rw[List.mapM_cons]
      simp only[bo]
      rw[g3]
      simp[Sem.run_bind,h6,Result.andThen,asAddr,g4]
theorem Tt         {fn : Func} {vars : List Tmp} {var : List AV} {tmps : Array Value} (hI : Bu  P ρ s w) (hr : EV      ρ vars var tmps) {cr : List (CX × Option TypeId)} {l : List AV}
    (hc:C1 vars fn.results.toList=some cr) (ha:B7 P s var cr=some l):∃v,(results fn tmps).run P w=.ok v w∧Aa ρ (Bo l) v:=by
  obtain⟨l',h1,h2⟩:=O7 hI hr hc ha
  refine⟨if h:l'.toArray.size=1 then l'.toArray[0]else .tuple l'.toArray,?_,?_⟩
  · rw[Ts,Array.mapM_eq_mapM_toList]
    simp[h1,Result.andThen,Sem.run_map]
  · cases h2 with
    | nil=>simp[Bo];exact .tuple .nil
    | cons h hs =>
      cases hs with
      | nil=>simpa[Bo]using h
      | cons h' hs' =>
        simp[Bo]
        exact .tuple (.cons h (.cons h' hs'))
theorem PJ           {vars : List Tmp} : ∀ {ts : List Tmp} {vs : List AV} {vs' : List Value} {var var' : List AV} {tmps : Array Value}, FC        vars var ts vs = some var' → EV      ρ vars var tmps → var.length = vars.length → AY    ρ vs vs' →
    EV ρ vars var' ((ts.zip vs').foldl (fun tmps (p:Tmp×Value)=>tmps.setIfInBounds p.1 p.2) tmps)∧var'.length=vars.length∧((ts.zip vs').foldl (fun tmps (p:Tmp×Value)=>tmps.setIfInBounds p.1 p.2) tmps).size=tmps.size∧ts.length=vs'.length:=by
  intro ts
  induction ts with
  | nil =>
    intro vs vs' var var' tmps hz hr hl hv
    cases vs with
    | nil=>cases hv;injection hz with hz;subst hz;exact⟨hr,hl,rfl,rfl⟩
    | cons=>cases hz
  | cons t ts ih =>
    intro vs vs' var var' tmps hz hr hl hv
    cases vs with
    | nil=>cases hz
    | cons v vs =>
      cases hv with
      | cons h hs =>
        rename_i v' vs'
        simp only[FC,qJ]at hz
        obtain⟨j,hj,hz⟩:=hz
        have hjl:j<var.length:=by rw[hl];exact FT hj
        obtain⟨ht,_⟩:=hr t j hj
        have key:EV ρ vars (Mq v var j) (tmps.setIfInBounds t v'):=by
          intro u k hk
          obtain⟨g1,x,g2,g3⟩:=hr u k hk
          refine⟨by simpa using g1,?_⟩
          by_cases e:u=t
          · subst e
            rw[hj]at hk
            injection hk with hk
            subst hk
            refine⟨v,by rw[KA];simp[hjl],?_⟩
            simpa[Array.getD_eq_getD_getElem?,ht]using h
          · have ejk:j≠k:=fun e'=>by subst e';exact e (KM hk hj)
            refine⟨x,by rw[KA,rx ejk];exact g2,?_⟩
            have:(tmps.setIfInBounds t v').getD u undef=tmps.getD u undef:=by
              simp[Array.getD_eq_getD_getElem?,Array.getElem?_setIfInBounds_ne (Ne.symm e)]
            rw[this]
            exact g3
        obtain⟨h1,h2,h3,h4⟩:=ih (tmps:=tmps.setIfInBounds t v') hz key (by rw[KA,qQ];exact hl) hs
        exact⟨h1,h2,by simpa using h3,by simpa using h4⟩
end
def IC:M7→Exit
 | .normal=>.normal
 | .exit id=>.exit id
 | .ret=>.ret
def N5(ρ:Bp):Option Nat→Option Nat→Prop
 | none,r=>r=none
 | some l,r=>∃rb,ρ l=some rb∧r=some rb.b
theorem N5.mono{ρ ρ1:Bp}{rnd r:Option Nat}(h:N5 ρ rnd r)(le:ρ.le ρ1):N5 ρ1 rnd r:=by
 cases rnd with
 | none=>exact h
 | some l=>obtain⟨rb,h1,h2⟩:=h;exact⟨rb,le _ _ h1,h2⟩
structure IF(P:Program)(fn:Func)(ρ:Bp)(s:AF)(w:World)(r:A0)(a':Act)(w':World)(ρ':Bp):Prop where
 inv:Bu P ρ' r.st w'
 fresh:Bm ρ' r.st
 fr:Fr ρ s w ρ' r.st w'
 vars:DY P ρ' fn r.var a'.tmps
 marks:Dw ρ' r.marks a'.defers
structure JE(P:Program)(fn:Func)(ρ:Bp)(s:AF)(w:World)(var:List AV)(marks:List Nat)(rnd r:Option Nat)(a:Act):Prop where
 inv:Bu P ρ s w
 fresh:Bm ρ s
 vars:DY P ρ fn var a.tmps
 marks:Dw ρ marks a.defers
 rnd:N5 ρ rnd r
def N4(P:Program)(F:EF):Prop:=∀ (f:FuncId)(fn:Func)(c:Code)(rnd r:Option Nat)(var:List AV)(marks:List Nat)(s:AF)(res:A0)(ρ:Bp)(w:World)(a:Act)(Q:Exit→Act→World→Prop),
 P.funcs[f]? = some fn→F.code rnd (BK P f fn.ntmps (BT P fn) c) var marks s=some res→JE P fn ρ s w var marks rnd r a →
 (∀a' w' ρ',IF P fn ρ s w res a' w' ρ'→Q (IC res.exit) a' w')→c.wpIn (Ps r) 0 P Q a w
def UI(P:Program)(F:EF)(n:Nat):Prop:=∀ (f:FuncId)(fn:Func)(c:Code)(rnd r:Option Nat)(var:List AV)(marks:List Nat)(s:AF)(res:A0)(ρ:Bp)(w:World)(a:Act)(Q:Exit→Act→World→Prop),
 P.funcs[f]? = some fn→F.code rnd (.loop (BK P f fn.ntmps (BT P fn) c)) var marks s=some res→JE P fn ρ s w var marks rnd r a →
 (∀a' w' ρ',IF P fn ρ s w res a' w' ρ'→Q (IC res.exit) a' w')→Code.roundsIn (Ps r) 0 P c Q n a w
def Hp(P:Program)(call:FuncId→List AV→AF→Option (AV×AF)):Prop:=∀ (ρ:Bp)(s:AF)(w:World)(f:FuncId)(aS:List AV)(v:AV)(s1:AF)(as':Array Value),
 call f aS s=some (v,s1)→Bu P ρ s w→Bm ρ s→AY ρ aS as'.toList →
 (∃fn c,P.funcs[f]? = some fn∧fn.body=some c)∧CallsIn Fence.wide 0 P f as' w (GI P ρ s w v s1)
def Ey (P : Program) : Prop := ∀ (f : FuncId) (fn : Func), P.funcs[f]? = some fn → (fn.name == "runtime.NumGoroutine") = false
structure PO(P:Program)(F:EF)(n:Nat):Prop where
 code:N4 P F
 loop:UI P F n
 call:Hp P F.call
 round:∀ (ρ:Bp) (s:AF) (w:World) (l:Nat) (rb:RB) (aS:List AV) (v:AV) (s1:AF) (as':Array Value),F.round l aS s=some (v,s1)→Bu P ρ s w→Bm ρ s→ρ l=some rb→AY ρ aS as'.toList →
  Dx P ρ s w v s1 ((Instr.yield rb.b as').run P w)
section
variable{P:Program}{ρ ρ1 ρ2:Bp}{s s1 s2:AF}{w w1 w2:World}
theorem Gx(hng:Ey P){f:FuncId}{fn:Func}{c:Code}(hf:P.funcs[f]? = some fn)(hb:fn.body=some c)(args:Array Value)(w:World):(callFunc f args).run P w=.ok (.enter f args) w:=by
  have h1:=hng f fn hf
  have h2 : fn.name ≠ "runtime.NumGoroutine" := by simpa using h1
  simp[callFunc,hf,h2,hb]
theorem PO.fok(hng:Ey P){F:EF}{n:Nat}(h:PO P F n):cc P F where
 call:=fun ρ s w f aS v s1 as' hc hi hf ha=>by
  obtain⟨⟨fn,c,h1,h2⟩,h3⟩:=h.call ρ s w f aS v s1 as' hc hi hf ha
  rw[Gx hng h1 h2]
  exact .enter h3
 round:=h.round
theorem IF.trans{fn:Func}{s1:AF}{r1 r2:A0}{a1 a2:Act}(h1:Fr ρ s w ρ1 s1 w1)(h2:IF P fn ρ1 s1 w1 r2 a2 w2 ρ2):IF P fn ρ s w r2 a2 w2 ρ2:=
 ⟨h2.inv,h2.fresh,h1.trans h2.fr,h2.vars,h2.marks⟩
theorem IF.begins{fn:Func}{r:A0}{a1:Act}{var:List AV}{marks:List Nat}{rnd rr:Option Nat}{a:Act}(hb:JE P fn ρ s w var marks rnd rr a)(h:IF P fn ρ s w r a1 w1 ρ1):JE P fn ρ1 r.st w1 r.var r.marks rnd rr a1:=
 ⟨h.inv,h.fresh,h.vars,h.marks,hb.rnd.mono h.fr.le⟩
theorem ma     (hm : P.follows .mixedOrders = true) {F : EF}  (hF : cc  P F) {fn : Func} {f : FuncId} {id : Nat} {ops : Array Oper} {draw : Bool} {r rnd : Option Nat} {var : List AV} {marks : List Nat} {s : AF}  {res : A0}   {ρ : Bp}  {w : World} {a : Act} {Q : Exit → Act → World → Prop}
    (hc:DL F rnd (BK P f fn.ntmps (BT P fn) (.region id ops draw)) var marks s=some res) (hb:JE P fn ρ s w var marks rnd r a)
    (hq:∀a' w' ρ',IF P fn ρ s w res a' w' ρ'→Q (IC res.exit) a' w'):(Code.region id ops draw).wpIn (Ps r) 0 P Q a w:=by
  have fin:∀ {items:List AA} {b:Array Nat} {l:List Nat},E1 P fn.ntmps (BT P fn) ops b draw l ⟨[],0⟩ []=some items→DL F rnd (.ops items) var marks s=some res →
      ∃R' s',Trace P F ops fn.ntmps b draw l [] (Jw (BT P fn) var) s R' s'∧res.exit=.normal∧res.marks=marks∧res.st=s'∧∃c' loc',Ej (BT P fn) c' loc' res.var R':=by
    intro items b l hi hs
    simp only[DL,df]at hs
    split at hs<;>first | (cases hs;done) | skip
    rename_i p hp
    injection hs with hs
    subst hs
    obtain⟨R',h1,h2⟩:=TJ l ⟨[],0⟩ [] items [] var s p.1 p.2 (Jw (BT P fn) var) [] hi hp (KP hb.vars.len) .nil
    exact⟨R',p.2,h1,rfl,rfl,rfl,h2⟩
  have back:∀ {R':CJ} {a':Act} {w':World} {ρ':Bp},(∃c' loc',Ej (BT P fn) c' loc' res.var R')→res.exit=.normal→res.marks=marks→Bu P ρ' res.st w'→Bm ρ' res.st→Fr ρ s w ρ' res.st w'→FF ρ' R' a'.tmps→a'.tmps.size=a.tmps.size→a'.defers=a.defers→Q .normal a' w':=by
    intro R' a' w' ρ' ⟨c',loc',hcr⟩ he hmk h1 h2 h3 h4 h5 h6
    have:=hq a' w' ρ' ⟨h1,h2,h3,WZ hcr h4 (by rw[h5];exact hb.vars.size),by rw[hmk,h6];exact hb.marks.mono h3.le⟩
    rw[he]at this
    exact this
  cases draw with
  | false =>
    refine wpIn_region ?_
    simp only[BK]at hc
    cases hi:E1 P fn.ntmps (BT P fn) ops #[] false (List.range ops.size) ⟨[],0⟩ []with
    | none=>rw[hi]at hc;cases hc
    | some items =>
      rw[hi]at hc
      obtain⟨R',s',h1,h2,h3,h4,h5⟩:=fin hi hc
      subst h4
      exact WT hF h1 hb.inv hb.fresh (HH hb.vars) hb.vars.size fun a' w' ρ' g1 g2 g3 g4 g5 g6=>back h5 h2 h3 g1 g2 g3 g4 g5 g6
  | true =>
    refine wpIn_region_any hm ?_
    simp only[BK]at hc
    cases hpl:FU P ops (Region.before ops) [] (eb P ops)with
    | false=>rw[hpl]at hc;cases hc
    | true =>
      rw[hpl]at hc
      simp only[AI,cond_true]at hc
      cases hi:E1 P fn.ntmps (BT P fn) ops (Region.before ops) true (eb P ops) ⟨[],0⟩ []with
      | none=>rw[hi]at hc;cases hc
      | some items =>
        rw[hi]at hc
        obtain⟨R',s',h1,h2,h3,h4,h5⟩:=fin hi hc
        subst h4
        have hd:=Fr.drawn' (ρ:=ρ) (s:=s) (w:=w) (w.drawn+1)
        exact aX hF h1 hpl (hb.inv.drawn (w.drawn+1)) hb.fresh (HH hb.vars) hb.vars.size fun a' w' ρ' g1 g2 g3 g4 g5 g6=>back h5 h2 h3 g1 g2 (hd.trans g3) g4 g5 g6
theorem Hh{l:Nat}{L:Loop}(h:w.heap[l]? = some (.loop L))(fn:FuncId)(tmps:Array Value)(ps:Array Tmp)(assign body:Code):
  (Instr.enterLoop fn tmps ps assign body (some l)).run P w =
   .ok (w.heap.size,[]) (w.alloc (.loop { state:=.ready,pending:=none,fn,tmps,params:=ps,assign,body,defers:=L.defers })):=by
 unfold Instr.enterLoop
 simp only[Sem.run_bind,run_getLoop h,run_newObj_alloc,Result.andThen,Sem.run_pure]
theorem FS{l:Nat}{r:Gm}(h:B2 s l=some r):s.heap.get l=some (.loop r):=by
 unfold B2 at h
 split at h
 ·injection h with h;subst h;assumption
 ·cases h
theorem Bm.new(h:Bm ρ s)(o:C0)(rb:RB):Bm (Cw ρ s.next rb) (newObj s o):=by
 intro i hi
 have hi:s.next+1≤i:=hi
 have:=h i (by omega)
 exact⟨by rw[Az rb (by omega)];exact this.1,by rw[CR,if_neg (by omega)];exact this.2⟩
theorem MG(h:Bu P ρ s w){l:Nat}{r:Gm}{rb:RB}(hg:s.heap.get l=some (.loop r))(hr:ρ l=some rb){st:LoopState}{pd:Option Code}{L:Loop}(hL:w.heap[rb.b]? = some (.loop L)):
  Bu P ρ (setObj s l (.loop { r with state:=st,pending:=pd })) (w.putObj rb.b (.loop { L with state:=st,pending:=pd }))∧Fr ρ s w ρ (setObj s l (.loop { r with state:=st,pending:=pd })) (w.putObj rb.b (.loop { L with state:=st,pending:=pd })):=by
 have hlt:=h.lt l rb hr
 refine h.set hg hr rfl (fun p e=>by cases e) rfl World.putObj_size (fun b hb=>World.putObj_heap_other hb) rfl rfl rfl ?_
 obtain⟨L',h0,h1,h2,h4,h5,h6,h7,h8,h9,h10⟩:=(h.obj l _ rb hg hr:Gq P ρ w r rb).ex
 rw[hL]at h0
 injection h0 with h0
 injection h0 with h0
 subst h0
 exact⟨_,World.putObj_heap_same hlt,rfl,rfl,h4,h5,h6,h7,h8,h9,h10⟩
theorem eZ{r:Option Nat}{s':AF}{res:A0}{a:Act}{Q:Exit→Act→World→Prop}{var:List AV}{marks:List Nat}{pd:Option Code}
  (hp:Gv var marks s' pd=some res) (hq:res.var=var→res.marks=marks→res.st=s'→Q (IC res.exit) a w):
  (match (generalizing:=false) pd with
   | none=>Q .normal a w
   | some c=>c.wpIn (Ps r) 0 P Q a w):=by
 unfold Gv at hp
 split at hp<;>first | (cases hp;done) | skip
 ·injection hp with hp;subst hp;exact hq rfl rfl rfl
 ·injection hp with hp;subst hp;exact wpIn_ret (hq rfl rfl rfl)
 ·injection hp with hp;subst hp;exact wpIn_exit (hq rfl rfl rfl)
theorem MU         (hng : Ey      P) {F : EF}  (hcall : Hp     P F.call) {f : FuncId} {fn : Func} {var : List AV} {marks : List Nat} {s : AF}  {res : A0}   {ρ : Bp}  {w : World} {a : Act} {r : Option Nat} {Q : Exit → Act → World → Prop} {g : AV} {g' : Value} {ps : Array Tmp} {assign body : Code} {dfr : Nat} {rd : RB}
    (hf:P.funcs[f]? = some fn) (hc:Fe F var g ps assign body f dfr marks s=some res) (hi:Bu P ρ s w) (hfr:Bm ρ s) (hv:DY P ρ fn var a.tmps) (hmk:Dw ρ marks a.defers)
    (hg:Aa ρ g g') (hd:ρ dfr=some rd) (fn':FuncId)
    (hq:∀w' ρ',IF P fn ρ s w res a w' ρ'→Q (IC res.exit) a w'):
    ∃ (d : Deferred) (f0 : FuncId) (args : Array Value), Deferred.ofValue g' #[.func (.yield w.heap.size) #[] #[]] = Pure.pure d ∧
      (∀w1,(invoke d.target d.args).run P w1=.ok (.enter f0 args) w1) ∧
      CallsIn (Ps r) 0 P f0 args (w.alloc (.loop { state:=.ready,pending:=none,fn:=fn',tmps:=a.tmps,params:=ps,assign,body,defers:=rd.b })) (rangePost (Ps r) 0 P w.heap.size Q a):=by
  let L:Loop:={ state:=.ready,pending:=none,fn:=fn',tmps:=a.tmps,params:=ps,assign,body,defers:=rd.b }
  let al:Gm:={ state:=.ready,pending:=none,fn:=f,var,params:=ps,assign,body,dfr }
  let rb:RB:=⟨w.heap.size,0,0,0⟩
  have hvi:Fx P f=BT P fn:=by unfold Fx;rw[hf]
  have hn0:=(hfr _ (qI s.next)).1
  have hle:=Cs (rb:=rb) hn0
  obtain⟨hi1,hfr1⟩:=hi.new (o:=.loop al) (o':=.loop L) (rb:=rb) hn0 rfl
    ⟨L,World.alloc_heap_new w _,rfl,rfl,rfl,rfl,rfl,⟨rd,hle _ _ hd,rfl⟩,by rw[hvi];exact(hv.mono hle).rel,fun fn0 h0=>by
      have h0:P.funcs[f]? = some fn0:=h0
      rw[hf]at h0;injection h0 with h0;subst h0;exact hv.size,by rw[hvi];exact hv.len⟩
  have hff:=hfr.new (.loop al) rb
  unfold Fe HQ at hc
  simp only[qJ]at hc
  obtain⟨q,hcv,r2,hl2,hend⟩:=hc
  cases hbz:TX r2.state with
  | true=>rw[hbz]at hend;cases hend
  | false =>
    rw[hbz]at hend
    simp only[cond_false]at hend
    unfold Gy at hcv
    split at hcv<;>first | (cases hcv;done) | skip
    rename_i f0 first cap
    cases hg with
    | func ha hcp =>
      rename_i x c
      obtain⟨⟨fn0,c0,k1,k2⟩,k3⟩:=hcall _ _ _ f0 _ q.1 q.2 ((x++#[.func (.yield w.heap.size) #[] #[]])++c) hcv hi1 hff (by
        simp only[Array.toList_append]
        have hy:Aa (Cw ρ s.next rb) (.yield s.next) (.func (.yield w.heap.size) #[] #[]):=Aa.yield (rb:=rb) (A2 _ _)
        have:=(AY.mono hle ha).append ((AY.cons hy .nil).append (AY.mono hle hcp))
        simpa using this)
      refine⟨{ target:=.fn (.func f0) c,args:=x++#[.func (.yield w.heap.size) #[] #[]] },f0,_,rfl,fun w1=>?_,KD (CallsIn.mono k3 ?_)⟩
      · simp only[invoke]
        exact Gx hng k1 k2 _ _
      · intro e w3 he
        cases e with
        | panicked c=>exact he.elim
        | outgrown=>exact he.elim
        | returned v' =>
          obtain⟨ρ',_,g2,g3⟩:=he
          have hg2:=FS hl2
          have hr2:ρ' s.next=some rb:=g3.le _ _ (A2 _ _)
          obtain⟨L2,h0,h1,h2,_⟩:=(g2.obj _ _ _ hg2 hr2:Gq P ρ' w3 r2 rb).ex
          obtain⟨g4,g5⟩:=MG g2 hg2 hr2 (st:=.exhausted) (pd:=r2.pending) h0
          have hbz':L2.state≠.busy:=by rw[h1];intro e;rw[e]at hbz;cases hbz
          refine⟨L2.pending,_,run_endLoop h0 hbz',?_⟩
          rw[h2]
          refine eZ hend fun e1 e2 e3=>hq _ ρ' ?_
          have hall:=hfr1.trans (g3.trans g5)
          have hfresh:=(hff.step g3).step g5
          rw[h2.symm]at g4 g5 hall
          refine⟨?_,?_,?_,by rw[e1];exact hv.mono hall.le,by rw[e2];exact hmk.mono hall.le⟩
          · rw[e3,← h2];exact g4
          · rw[e3];exact hfresh
          · rw[e3,← h2];exact hall
end
section
variable{P:Program}{ρ ρ1 ρ2:Bp}{s s1 s2:AF}{w w1 w2:World}
theorem bk(hng:Ey P){F:EF}(hcall:Hp P F.call){f:FuncId}{fn:Func}{g:Operand}{x:CX}{ps:Array Tmp}{assign body:Code}{rnd r:Option Nat}{var:List AV}{marks:List Nat}{s:AF}{res:A0}{ρ:Bp}{w:World}{a:Act}{Q:Exit→Act→World→Prop}
    (hf:P.funcs[f]? = some fn) (hx:Fi (BT P fn) ⟨[],0⟩ g=some x) (hc:LZ F rnd f (Du [] var x) ps assign body var marks s=some res) (hb:JE P fn ρ s w var marks rnd r a)
    (hq:∀a' w' ρ',IF P fn ρ s w res a' w' ρ'→Q (IC res.exit) a' w'):(Code.rangeFunc g ps assign body).wpIn (Ps r) 0 P Q a w:=by
  have hgv:Aa ρ (Du [] var x) (a.eval g):=QM hb.vars hx
  have res1:∀l:Nat,(resolve a.eval (rangeCall g l) 0:Sem Deferred)=Deferred.ofValue (a.eval g) #[.func (.yield l) #[] #[]]:=by
    intro l
    simp[resolve,Act.eval]
  refine wpIn_rangeFunc fun fn' _=>?_
  unfold LZ at hc
  cases rnd with
  | some l =>
    simp only[qJ]at hc
    obtain⟨al,hl,hc⟩:=hc
    obtain⟨rb,h1,h2⟩:=hb.rnd
    subst h2
    have hgl:=FS hl
    obtain⟨L,h0,_,_,_,_,_,⟨rd,My,JB⟩,_⟩:=(hb.inv.obj _ _ _ hgl h1:Gq P ρ w al rb).ex
    have hent:=Hh (P:=P) h0 fn' a.tmps ps assign body
    rw[JB]at hent
    obtain⟨d,f0,args,k1,k2,k3⟩:=MU (r:=some rb.b) (Q:=Q) hng hcall hf hc hb.inv hb.fresh hb.vars hb.marks hgv My fn' fun w' ρ' h=>hq a w' ρ' h
    refine⟨_,_,_,d,_,f0,args,_,hent,?_,fun _ _=>trivial,k2 _,(fun e=>by cases e),k3⟩
    rw[res1,k1]
    rfl
  | none =>
    have hr:r=none:=hb.rnd
    subst hr
    let rb:RB:=⟨w.heap.size,0,0,0⟩
    have hn0:=(hb.fresh _ (qI s.next)).1
    have hle:=Cs (rb:=rb) hn0
    obtain⟨hi1,hfr1⟩:=hb.inv.new (o:=.mark) (o':=.deferred (some [])) (rb:=rb) hn0 rfl (World.alloc_heap_new w _)
    have hff:=hb.fresh.new .mark rb
    have My:Cw ρ s.next rb s.next=some rb:=A2 _ _
    obtain⟨d,f0,args,k1,k2,k3⟩:=MU (r:=none) (Q:=Q) (a:={ a with defers:=[{ target:=.collected w.heap.size,args:=#[] }]++a.defers }) hng hcall hf hc hi1 hff (hb.vars.mono hle)
      ⟨rb,a.defers,My,rfl,hb.marks.mono hle⟩ (hgv.mono hle) My fn' fun w' ρ' h=>hq _ w' ρ' (IF.trans (r1:=res) (a1:=a) hfr1 h)
    have hsz:(w.alloc (.deferred (some []))).heap.size=w.heap.size+1:=by simp
    rw[hsz]at k1 k3
    refine⟨_,_,_,d,_,f0,args,_,run_enterLoop_outer fn' a.tmps ps assign body,?_,fun _ _=>trivial,k2 _,(fun e=>by cases e),k3⟩
    rw[res1,k1]
    rfl
theorem VM        (hm : P.follows .mixedOrders = true) (hng : Ey      P) {F : EF}  {n : Nat} (h : PO    P F n) {call : FuncId → List AV → AF  → Option (AV × AF)}  {round : Nat → List AV → AF  → Option (AV × AF)}  : N4     P ⟨DL    F, call, round⟩ := by
  intro f fn c
  have hF:=h.fok hng
  induction c with
  | skip =>
    intro rnd r var marks s res ρ w a Q hf hc hb hq
    injection (show some (⟨.normal,var,marks,s⟩:A0)=some res from hc)with hc
    subst hc
    exact wpIn_skip (hq a w ρ ⟨hb.inv,hb.fresh,Fr.refl _ _ _,hb.vars,hb.marks⟩)
  | label l =>
    intro rnd r var marks s res ρ w a Q hf hc hb hq
    injection (show some (⟨.normal,var,marks,s⟩:A0)=some res from hc)with hc
    subst hc
    exact wpIn_label (hq a w ρ ⟨hb.inv,hb.fresh,Fr.refl _ _ _,hb.vars,hb.marks⟩)
  | ret =>
    intro rnd r var marks s res ρ w a Q hf hc hb hq
    injection (show some (⟨.ret,var,marks,s⟩:A0)=some res from hc)with hc
    subst hc
    exact wpIn_ret (hq a w ρ ⟨hb.inv,hb.fresh,Fr.refl _ _ _,hb.vars,hb.marks⟩)
  | exit id =>
    intro rnd r var marks s res ρ w a Q hf hc hb hq
    injection (show some (⟨.exit id,var,marks,s⟩:A0)=some res from hc)with hc
    subst hc
    exact wpIn_exit (hq a w ρ ⟨hb.inv,hb.fresh,Fr.refl _ _ _,hb.vars,hb.marks⟩)
  | goto l=>intro rnd r var marks s res ρ w a Q hf hc;cases hc
  | refuse u=>intro rnd r var marks s res ρ w a Q hf hc;cases hc
  | region id ops draw =>
    intro rnd r var marks s res ρ w a Q hf hc hb hq
    exact ma hm hF hc hb hq
  | seq x y ihx ihy =>
    intro rnd r var marks s res ρ w a Q hf hc hb hq
    have hc:IW F rnd (BK P f fn.ntmps (BT P fn) y) (F.code rnd (BK P f fn.ntmps (BT P fn) x) var marks s)=some res:=hc
    unfold IW at hc
    split at hc<;>first | (cases hc;done) | skip
    rename_i r1 h1
    refine wpIn_seq (h.code f fn x rnd r var marks s r1 ρ w a _ hf h1 hb ?_)
    intro a' w' ρ' g
    unfold Hi at hc
    cases he:r1.exit with
    | normal =>
      rw[he]at hc
      refine h.code f fn y rnd r _ _ _ res ρ' w' a' Q hf hc (g.begins hb) ?_
      intro a2 w2 ρ2 g2
      exact hq a2 w2 ρ2 (IF.trans (r1:=r1) (a1:=a') g.fr g2)
    | exit id =>
      rw[he]at hc
      injection hc with hc
      subst hc
      have:=hq a' w' ρ' g
      rw[he]at this
      exact this
    | ret =>
      rw[he]at hc
      injection hc with hc
      subst hc
      have:=hq a' w' ρ' g
      rw[he]at this
      exact this
  | cond o x y ihx ihy =>
    intro rnd r var marks s res ρ w a Q hf hc hb hq
    simp only[BK]at hc
    cases ho:Fi (BT P fn) ⟨[],0⟩ o with
    | none=>rw[ho]at hc;cases hc
    | some z =>
      rw[ho]at hc
      have hc:Pi F rnd (BK P f fn.ntmps (BT P fn) x) (BK P f fn.ntmps (BT P fn) y) var marks s (Du [] var z)=some res:=hc
      have hz:=QM hb.vars ho
      unfold Pi at hc
      split at hc<;>first | (cases hc;done) | skip
      rename_i t ht
      rw[ht]at hz
      have hev:a.eval o=.bool t:=by
        generalize a.eval o=y at hz
        cases hz;rfl
      refine wpIn_cond hev ?_
      cases t with
      | true=>exact h.code f fn x rnd r var marks s res ρ w a Q hf hc hb hq
      | false=>exact h.code f fn y rnd r var marks s res ρ w a Q hf hc hb hq
  | block id c ih =>
    intro rnd r var marks s res ρ w a Q hf hc hb hq
    have hc:LY id (F.code rnd (BK P f fn.ntmps (BT P fn) c) var marks s)=some res:=hc
    unfold LY at hc
    split at hc<;>first | (cases hc;done) | skip
    rename_i r1 h1
    refine wpIn_block (h.code f fn c rnd r var marks s r1 ρ w a _ hf h1 hb ?_)
    intro a' w' ρ' g
    unfold Ki at hc
    split at hc
    · rename_i id' he
      rw[he]
      simp only[IC,Exit.inBlock]
      cases hbq:Nat.beq id' id with
      | true =>
        rw[hbq]at hc
        injection hc with hc
        subst hc
        rw[if_pos (A3 hbq)]
        exact hq a' w' ρ' ⟨g.inv,g.fresh,g.fr,g.vars,g.marks⟩
      | false =>
        rw[hbq]at hc
        injection hc with hc
        subst hc
        have:=hq a' w' ρ' g
        rw[he]at this
        rw[if_neg (fun e=>by subst e;simp at hbq)]
        exact this
    · rename_i hne
      injection hc with hc
      subst hc
      have:=hq a' w' ρ' g
      cases he:r1.exit with
      | normal=>rw[he]at this;exact this
      | ret=>rw[he]at this;exact this
      | exit id'=>exact absurd he (hne id')
  | loop c ih =>
    intro rnd r var marks s res ρ w a Q hf hc hb hq
    have hc:IW F rnd (.loop (BK P f fn.ntmps (BT P fn) c)) (F.code rnd (BK P f fn.ntmps (BT P fn) c) var marks s)=some res:=hc
    refine wpIn_loop_rounds (n+1) ?_
    rw[roundsIn_succ]
    unfold IW at hc
    split at hc<;>first | (cases hc;done) | skip
    rename_i r1 h1
    refine h.code f fn c rnd r var marks s r1 ρ w a _ hf h1 hb ?_
    intro a' w' ρ' g
    unfold Hi at hc
    cases he:r1.exit with
    | normal =>
      rw[he]at hc
      refine h.loop f fn c rnd r _ _ _ res ρ' w' a' Q hf hc (g.begins hb) ?_
      intro a2 w2 ρ2 g2
      exact hq a2 w2 ρ2 (IF.trans (r1:=r1) (a1:=a') g.fr g2)
    | exit id =>
      rw[he]at hc
      injection hc with hc
      subst hc
      have:=hq a' w' ρ' g
      rw[he]at this
      exact this
    | ret =>
      rw[he]at hc
      injection hc with hc
      subst hc
      have:=hq a' w' ρ' g
      rw[he]at this
      exact this
  | scope c ih =>
    intro rnd r var marks s res ρ w a Q hf hc hb hq
    refine UC (ih rnd r var marks s res ρ w a _ hf hc hb ?_)
    intro a' w' ρ' g
    have:=hq a' w' ρ' g
    cases he:res.exit with
    | normal=>rw[he]at this;exact this
    | ret=>rw[he]at this;exact this
    | exit id'=>rw[he]at this;exact this
  | rangeFunc g ps x y ihx ihy =>
    intro rnd r var marks s res ρ w a Q hf hc hb hq
    simp only[BK]at hc
    cases ho:Fi (BT P fn) ⟨[],0⟩ g with
    | none=>rw[ho]at hc;cases hc
    | some z =>
      rw[ho]at hc
      exact bk hng h.call hf ho hc hb hq
theorem Vo{F:EF}{n:Nat}(h:PO P F n){call:FuncId→List AV→AF→Option (AV×AF)}{round:Nat→List AV→AF→Option (AV×AF)}:UI P ⟨DL F,call,round⟩ (n+1):=by
  intro f fn c rnd r var marks s res ρ w a Q hf hc hb hq
  have hc:IW F rnd (.loop (BK P f fn.ntmps (BT P fn) c)) (F.code rnd (BK P f fn.ntmps (BT P fn) c) var marks s)=some res:=hc
  rw[roundsIn_succ]
  unfold IW at hc
  split at hc<;>first | (cases hc;done) | skip
  rename_i r1 h1
  refine h.code f fn c rnd r var marks s r1 ρ w a _ hf h1 hb ?_
  intro a' w' ρ' g
  unfold Hi at hc
  cases he:r1.exit with
  | normal =>
    rw[he]at hc
    refine h.loop f fn c rnd r _ _ _ res ρ' w' a' Q hf hc (g.begins hb) ?_
    intro a2 w2 ρ2 g2
    exact hq a2 w2 ρ2 (IF.trans (r1:=r1) (a1:=a') g.fr g2)
  | exit id =>
    rw[he]at hc
    injection hc with hc
    subst hc
    have:=hq a' w' ρ' g
    rw[he]at this
    exact this
  | ret =>
    rw[he]at hc
    injection hc with hc
    subst hc
    have:=hq a' w' ρ' g
    rw[he]at this
    exact this
theorem c8{F:EF}(hcode:N4 P F){f:FuncId}{aS:List AV}{v:AV}{as':Array Value}(hc:Gw P F aS s (AS P f)=some (v,s1))(hi:Bu P ρ s w)(hfr:Bm ρ s)(ha:AY ρ aS as'.toList):
  (∃fn c,P.funcs[f]? = some fn∧fn.body=some c)∧CallsIn Fence.wide 0 P f as' w (GI P ρ s w v s1):=by
 unfold Gw at hc
 simp only[qJ]at hc
 obtain⟨cf,h1,hc⟩:=hc
 unfold AS at h1
 simp only[qJ]at h1
 obtain⟨fn,h2,c,h3,h4⟩:=h1
 obtain⟨h5,h6⟩:=AJ h4
 simp only[qJ]at h6
 obtain⟨cr,h7,h8⟩:=h6
 injection h8 with h8
 subst h8
 simp only at hc
 cases hb:Nat.beq aS.length (Dh fn)with
 | false=>rw[hb]at hc;cases hc
 | true =>
  rw[hb]at hc
  simp only[cond_true]at hc
  refine⟨⟨fn,c,h2,h3⟩,callsIn_of_wp_marks h2 h3 trivial ?_⟩
  unfold Kj at hc
  simp only[qJ]at hc
  obtain⟨res,hr,hc⟩:=hc
  have hend:Ur res.exit=true∧((unmark res.st res.marks).bind fun s=>(B7 P s res.var cr).bind fun l=>some (Bo l,s))=some (v,s1):=by
   cases he:Ur res.exit with
   | true=>rw[he]at hc;exact⟨rfl,hc⟩
   | false=>rw[he]at hc;cases hc
  obtain⟨he,hc⟩:=hend
  simp only[qJ]at hc
  obtain⟨s2,hu,l,hl,hv⟩:=hc
  injection hv with hv
  injection hv with hv1 hv2
  subst hv1
  subst hv2
  have hvars:DY P ρ fn (Ql aS (BT P fn).length) (as'++Array.replicate (fn.ntmps - as'.size) undef):=fD ha (A3 hb) (by simpa[qT]using h5)
  refine hcode f fn c none none _ [] s res ρ w _ _ h2 hr ⟨hi,hfr,hvars,rfl,rfl⟩ ?_
  intro a' w' ρ' g
  have hlv:LeavesInM Fence.wide 0 P fn a'.tmps (GI P ρ s w (Bo l) s2) a'.defers .returning w':=by
   refine Oq g.marks hu g.inv fun w2 k1 k2=>?_
   obtain⟨v',k3,k4⟩:=Tt k1 g.vars.rel h7 hl
   exact⟨v',k3,ρ',k4,k1,g.fr.trans k2⟩
  cases hx:res.exit with
  | normal=>exact hlv
  | ret=>exact hlv
  | exit id=>rw[hx]at he;cases he
theorem br       (hng : Ey      P) {E : BN}  (hE : E.P = P) {F : EF}  (hcode : N4     P F) {l : Nat} {rb : RB} {aS : List AV} {v : AV} {as' : Array Value} (hc : KT    E F l aS s = some (v, s1)) (hi : Bu  P ρ s w) (hfr : Bm     ρ s) (hl : ρ l = some rb) (ha : AY    ρ aS as'.toList) :
    Dx P ρ s w v s1 ((Instr.yield rb.b as').run P w):=by
  unfold KT at hc
  rw[hE]at hc
  simp only[qJ]at hc
  obtain⟨al,h1,var,h2,ca,h3,cb,h4,hc⟩:=hc
  have hg:=FS h1
  obtain⟨L,h0,_,_,e1,e2,e3,_,hrel,hsz,hlen⟩:=(hi.obj _ _ _ hg hl:Gq P ρ w al rb).ex
  unfold Hw at h3 h4
  simp only[qJ]at h3 h4
  obtain⟨fn,hf,h3⟩:=h3
  obtain⟨fn2,hf2,h4⟩:=h4
  rw[hf]at hf2
  injection hf2 with hf2
  subst hf2
  injection h3 with h3
  injection h4 with h4
  subst h3
  subst h4
  have hvi:Fx P al.fn=BT P fn:=by unfold Fx;rw[hf]
  rw[hvi]at hrel hlen h2
  obtain⟨z1,z2,z3,z4⟩:=PJ (tmps:=L.tmps) h2 hrel hlen ha
  have hps:as'.size=L.params.size:=by rw[e1];simpa using z4.symm
  rw[run_yield h0 hps]
  refine .round (roundIn_of_wpIn trivial ?_)
  have hfold:(L.params.zip as').foldl (fun tmps (x:Tmp×Value)=>match x with | (t,a)=>tmps.setIfInBounds t a) L.tmps=(al.params.toList.zip as'.toList).foldl (fun tmps (p:Tmp×Value)=>tmps.setIfInBounds p.1 p.2) L.tmps:=by
    rw[← Array.foldl_toList,Array.toList_zip,e1]
  have hfold':(L.params.zip as').foldl (fun tmps (x:Tmp×Value)=>tmps.setIfInBounds x.1 x.2) L.tmps=(al.params.toList.zip as'.toList).foldl (fun tmps (p:Tmp×Value)=>tmps.setIfInBounds p.1 p.2) L.tmps:=hfold
  have hvars:DY P ρ fn var ((al.params.toList.zip as'.toList).foldl (fun tmps (p:Tmp×Value)=>tmps.setIfInBounds p.1 p.2) L.tmps):=⟨z2,z1,by rw[z3];exact hsz fn hf⟩
  unfold Ha at hc
  simp only[qJ]at hc
  obtain⟨q,hq1,hc⟩:=hc
  cases hn:Ik q.exit with
  | false=>rw[hn]at hc;cases hc
  | true =>
    rw[hn]at hc
    simp only[cond_true,qJ]at hc
    obtain⟨r2,hr2,hc⟩:=hc
    cases hrd:Ko r2.state with
    | false=>rw[hrd]at hc;cases hc
    | true =>
      rw[hrd]at hc
      simp only[cond_true]at hc
      unfold Iy at hc
      simp only[qJ]at hc
      obtain⟨q2,hq2,r3,hr3,hc⟩:=hc
      injection hc with hc
      injection hc with hv hs
      subst hv
      subst hs
      have hqn:q.exit=.normal:=by cases he:q.exit<;>rw[he]at hn<;>first | rfl | cases hn
      have hst:r2.state=.ready:=by
        cases he:r2.state<;>rw[he]at hrd<;>first | rfl | cases hrd
      rw[e2,e3]
      refine hcode al.fn fn al.assign (some l) (some rb.b) var [] s q ρ w _ _ hf hq1 ⟨hi,hfr,by first | exact hvars | (simp only[];rw[hfold];exact hvars),rfl,⟨rb,hl,rfl⟩⟩ ?_
      intro a1 w1 ρ1 g1
      rw[hqn]
      have hl1:ρ1 l=some rb:=g1.fr.le _ _ hl
      have hg2:=FS hr2
      obtain⟨L1,k0,k1,_⟩:=(g1.inv.obj _ _ _ hg2 hl1:Gq P ρ1 w1 r2 rb).ex
      obtain⟨i2,f2⟩:=MG g1.inv hg2 hl1 (st:=.busy) (pd:=r2.pending) k0
      refine⟨_,run_beginRound k0 (by rw[k1,hst]),?_⟩
      have hpd:L1.pending=r2.pending:=by
        obtain⟨L1',k0',_,k2',_⟩:=(g1.inv.obj _ _ _ hg2 hl1:Gq P ρ1 w1 r2 rb).ex
        rw[k0]at k0';injection k0' with k0';injection k0' with k0';subst k0';exact k2'
      have hL1:({ L1 with state:=.busy }:Loop)={ L1 with state:=.busy,pending:=r2.pending }:=by rw[← hpd]
      rw[hL1]
      have hal:({ r2 with state:=.busy }:Gm)={ r2 with state:=.busy,pending:=r2.pending }:=rfl
      refine hcode al.fn fn al.body (some l) (some rb.b) q.var q.marks _ q2 ρ1 _ a1 _ hf hq2 ⟨i2,g1.fresh.step f2,g1.vars,g1.marks,⟨rb,hl1,rfl⟩⟩ ?_
      intro a3 w3 ρ3 g3
      have hl3:ρ3 l=some rb:=g3.fr.le _ _ hl1
      have hg3:=FS hr3
      obtain⟨L3,m0,m1,_⟩:=(g3.inv.obj _ _ _ hg3 hl3:Gq P ρ3 w3 r3 rb).ex
      have tot:=g1.fr.trans (f2.trans g3.fr)
      have fin:∀jump:Option Code,DT q2.exit=jump→∃v w',(Instr.endRound rb.b jump).run P w3=.ok v w'∧GI P ρ s w (.bool (DT q2.exit).isNone) (setObj q2.st l (.loop { r3 with state:=Hb (DT q2.exit),pending:=DT q2.exit })) (.returned v) w':=by
        intro jump hj
        obtain⟨i4,f4⟩:=MG g3.inv hg3 hl3 (st:=Hb jump) (pd:=jump) m0
        refine⟨_,_,run_endRound jump m0,ρ3,?_,?_,?_⟩
        · rw[hj];exact .bool _
        · rw[hj]
          have:(if jump.isNone=true then LoopState.ready else .done)=Hb jump:=by cases jump<;>rfl
          rw[this]
          exact i4
        · rw[hj]
          have:(if jump.isNone=true then LoopState.ready else .done)=Hb jump:=by cases jump<;>rfl
          rw[this]
          exact tot.trans f4
      cases he:q2.exit with
      | normal=>have:=fin none (by rw[he];rfl);rw[he]at this;exact this
      | ret=>have:=fin (some .ret) (by rw[he];rfl);rw[he]at this;exact this
      | exit id=>have:=fin (some (.exit id)) (by rw[he];rfl);rw[he]at this;exact this
theorem pP  (hm : P.follows .mixedOrders = true) (hng : Ey      P) {E : BN}  (hE : E.P = P) (hnat : Hp     P E.nat) : ∀ n, PO    P (Eh   E n) n := by
  intro n
  induction n with
  | zero =>
    refine⟨?_,?_,?_,?_⟩
    · intro f fn c rnd r var marks s res ρ w a Q hf hc;cases hc
    · intro f fn c rnd r var marks s res ρ w a Q hf hc;cases hc
    · intro ρ s w f aS v s1 as' hc;cases hc
    · intro ρ s w l rb aS v s1 as' hc;cases hc
  | succ n ih =>
    refine⟨VM hm hng ih,Vo ih,?_,?_⟩
    · intro ρ s w f aS v s1 as' hc hi hfr ha
      have hc:KS E (Eh E n) f aS s=some (v,s1):=hc
      unfold KS at hc
      split at hc
      · rename_i p hp
        injection hc with hc
        subst hc
        exact hnat ρ s w f aS _ _ as' hp hi hfr ha
      · rw[hE]at hc
        exact c8 ih.code hc hi hfr ha
    · intro ρ s w l rb aS v s1 as' hc hi hfr hl ha
      exact br hng hE ih.code hc hi hfr hl ha
end
def kG:cg:=fun _ _ _=>none
theorem bR(P:Program):Hp P kG:=fun _ _ _ _ _ _ _ _ hc=>by cases hc
def env(P:Program):BN:=⟨P,kG⟩
def MK (P : Program) : Bool := P.funcs.all fun fn => !(fn.name == "runtime.NumGoroutine")
theorem Hy{P:Program}(h:MK P=true):Ey P:=by
 intro f fn hf
 unfold MK at h
 rw[Array.all_eq_true_iff_forall_mem]at h
 have:=h fn (Array.mem_of_getElem? hf)
 simpa using this
def bp:Bp:=fun _=>none
def RA:AF:=⟨0,.leaf⟩
theorem oE(P:Program)(w:World):Bu P bp RA w:=⟨fun i o rb _ hr=>(by cases hr),fun i rb hr=>(by cases hr),fun i j oi oj ri rj _ _ _ hr=>(by cases hr)⟩
theorem ak:Bm bp RA:=fun i _=>⟨rfl,rfl⟩
structure Mv(W W':World):Prop where
 heap:∀b,b<W.heap.size→W'.heap[b]? = W.heap[b]?
 os:W'.os=W.os
 output:W'.output=W.output
 size:W.heap.size≤W'.heap.size
theorem Uu{ρ ρ':Bp}{s s':AF}{w w':World}(h:Fr ρ s w ρ' s' w')(hn:∀b,¬ Gs ρ s b):Mv w w':=
 ⟨fun b hb=>h.keep b hb (hn b),h.os,h.output,h.size⟩
theorem Vw(b:Nat):¬ Gs bp RA b:=fun⟨i,o,rb,hi,_⟩=>by cases hi
theorem Mv.keptBut{W W':World}(h:Mv W W')(may:MemPlace→Prop):W.keptBut W' may:=by
 refine⟨h.os,h.output,fun i hi=>?_⟩
 rw[h.heap i hi]
 have:W.heap[i]? = some W.heap[i]:=Array.getElem?_eq_getElem hi
 rw[this]
 cases W.heap[i]with
 | cells c t fr=>exact⟨rfl,rfl,rfl,fun _ _=>rfl⟩
 | map es clock=>exact .inr ⟨rfl,rfl⟩
 | _=>rfl
theorem Mv.frozen{W W':World}(h:Mv W W')(a:Addr)(ha:a.block<W.heap.size):W'.frozen? a=W.frozen? a:=by simp[World.frozen?,h.heap _ ha]
def Us:Option (AV×AF)→Bool
 | some (.bool b,_)=>b
 | _=>false
section
open Go.ChangeShapes Go.WideShapes
theorem post_of_kept{H:Type}{enc:TypeId×Value→H}{P:Program}{f:Func}{s:ChangeSpec}{apart fresh handsOn again:Bool}{W W':World}{args:Array Value}{v:Value}{ds gs:List (DataW H)}{before pa pv:List MemPlace}
  (hW:DataW.Whole enc P f.params.toList s.vars apart W args.toList ds gs before)
  (hres:∀ (b:Nat) (sp:Nat→Bool) (hd:Bool),DataW.TrodAll enc P W' b sp hd f.resultTypes.toList (v.resultList f.resultTypes.size) (s.fn H (ds++gs)).results [])
  (hargs:∀sp:Nat→Bool,(∀p∈before,sp p.block=true)→DataW.TrodAll enc P W' 0 sp true f.params.toList args.toList (s.fn H (ds++gs)).args pa)
  (hvars:∀sp:Nat→Bool,(∀p∈before,sp p.block=true)→DataW.TrodVars enc P W' sp s.vars (s.fn H (ds++gs)).vars pv)
  (hps:before=pa++pv) (hk:Mv W W')
  (hok:∀ (j:Nat) (t:TypeId) (r:Value),f.resultTypes[j]? = some t→(v.resultList f.resultTypes.size)[j]? = some r→Value.okWide P W' .any 0 t r):
  s.post enc P f apart fresh handsOn again W args v W':=by
 have hold:∀p∈before,(fun b=>decide (b<W.heap.size)) p.block=true:=fun p hp=>by simpa using hW.lt p hp
 refine⟨ds,gs,before,[],pa,pv,hW,hres _ _ _,hargs _ hold,hvars _ hold,World.keptBut_mono (fun p hp=>⟨hp,?_⟩) (hk.keptBut _),fun _=>?_⟩
 ·rw[hps,List.mem_append]at hp
  exact Or.inr hp
 ·have hlt:=hW.lt
  obtain⟨_,_,_,_,_,hz,hn⟩:=hW
  refine⟨hok,_,_,([]++pa)++pv,⟨[]++pa,pv,trodAll_append (hargs _ (fun _ _=>rfl)) (hres _ _ _),hvars _ (fun _ _=>rfl),rfl,?_,?_⟩,?_⟩
  ·intro b off hp
   have hp':MemPlace.cell b off∈before:=by rw[hps];simpa using hp
   rw[hk.frozen _ (hlt _ hp')]
   exact hz b off hp'
  ·intro ha
   have:=hn ha
   rw[hps]at this
   simpa using this
  ·intro p hp _
   rw[hps]
   simpa using hp
end
end
end Go.Proofs.Ytilhhmkdcoajnaa.Am
set_option linter.unusedVariables false
set_option linter.unusedSimpArgs false
namespace Go.Proofs.Ytilhhmkdcoajnaa.Am
open Go Go.Proofs
noncomputable section
def Oi:List AV→Option (List Int)
 | []=>some []
 | .int .i64 n::l=>AI (CD .i64 n) ((Oi l).bind fun r=>some (n::r))
 | _=>none
def HF(s:AF):AV→Option (List Int)
 | .slice none n _=>AI (Nat.beq n 0) (some [])
 | .slice (some (i,o)) n _=>AI (Nat.blt i s.next && Nat.ble n 1000) ((loadN s i o n).bind Oi)
 | _=>none
def MX(s:AF):List AV→Option (List (List Int))
 | []=>some []
 | v::l=>(HF s v).bind fun L=>(MX s l).bind fun r=>some (L::r)
def MV(s:AF):AV→Option (List (List Int))
 | .slice none n _=>AI (Nat.beq n 0) (some [])
 | .slice (some (i,o)) n _=>AI (Nat.blt i s.next && Nat.ble n 1000) ((loadN s i o n).bind (MX s))
 | _=>none
theorem Pz{n:Int}(h:CD .i64 n=true):i64 n:=by
 cases n with
 | ofNat m =>
  simp only[CD,qT]at h
  have e:Int.ofNat m=(m:Int):=rfl
  rw[e]
  exact⟨by omega,by omega⟩
 | negSucc m=>simp only[CD,qT]at h;exact⟨by omega,by omega⟩
theorem NY:∀ {l:List AV}{L:List Int},Oi l=some L→l=Ax L∧PM L
 | [],L,h=>by injection h with h;subst h;exact⟨rfl,(fun x hx=>by cases hx)⟩
 | v::l,L,h=>by
  unfold Oi at h
  split at h
  ·rename_i e;cases e
  ·rename_i n l' e
   injection e with e1 e2
   subst e1;subst e2
   obtain⟨h1,h2⟩:=AJ h
   simp only[qJ]at h2
   obtain⟨r,h3,h4⟩:=h2
   injection h4 with h4
   subst h4
   obtain⟨g1,g2⟩:=NY h3
   refine⟨by rw[g1];rfl,fun x hx=>?_⟩
   rcases qp.1 hx with rfl | hx
   ·exact Pz h1
   ·exact g2 x hx
  ·cases h
theorem Nf{s:AF}{i o n:Nat}{l:List AV}(h:loadN s i o n=some l):l.length=n∧∀k u,l[k]? = some u→load1 s i (o+k)=some u:=by
  unfold loadN at h
  simp only[qJ]at h
  obtain⟨r,h1,h2⟩:=h
  obtain⟨h3,h4⟩:=AJ h2
  have hl:=Aj.take_length h4
  refine⟨hl,fun k u hk=>?_⟩
  have hlt:k<n:=by
    rcases qN k n with h' | h'
    · exact h'
    · rw[qZ (by omega)]at hk;cases hk
  have h3:o+n≤r.n:=by simpa[qT]using h3
  exact B1        (by unfold rowAt at h1; split at h1; · injection h1 with h1; subst h1; assumption
                      · cases h1) (by omega) ((Aj.take_get h4 k hlt).trans hk)
theorem HG{s:AF}{v:AV}{L:List Int}(h:HF s v=some L):AX s.next s v (Ax L)∧PM L∧L.length≤1000:=by
 unfold HF at h
 split at h
 ·obtain⟨h1,h2⟩:=AJ h
  injection h2 with h2
  subst h2
  have:=qu h1
  subst this
  exact⟨⟨_,_,rfl,Ay.nil⟩,(fun x hx=>by cases hx),by decide⟩
 ·rename_i i o n c
  obtain⟨h1,h2⟩:=AJ h
  simp only[Bool.and_eq_true]at h1
  simp only[qJ]at h2
  obtain⟨l,h3,h4⟩:=h2
  obtain⟨g1,g2⟩:=NY h4
  obtain⟨g3,g4⟩:=Nf h3
  subst g1
  have hn:L.length=n:=by rw[← g3];simp
  refine⟨⟨some (i,o),c,by rw[g3],fun k u hk=>⟨i,o,rfl,by simpa[qj]using h1.1,g4 k u hk⟩⟩,g2,?_⟩
  rw[hn]
  simpa[qT]using h1.2
 ·cases h
theorem J0{s:AF}:∀ {l:List AV}{cs:List (List Int)},MX s l=some cs→l.length=cs.length∧(∀ (k:Nat)(L:List Int),cs[k]? = some L→∃u:AV,l[k]? = some u∧HF s u=some L)
 | [],cs,h=>by injection h with h;subst h;exact⟨rfl,fun k L hk=>by simp at hk⟩
 | v::l,cs,h=>by
  simp only[MX,qJ]at h
  obtain⟨L,h1,r,h2,h3⟩:=h
  injection h3 with h3
  subst h3
  obtain⟨g1,g2⟩:=J0 h2
  refine⟨by simp[g1],fun k L' hk=>?_⟩
  cases k with
  | zero=>simp at hk;subst hk;exact⟨v,rfl,h1⟩
  | succ k=>simpa using g2 k L' (by simpa using hk)
theorem VV{s:AF}{l:List AV}{cs:List (List Int)}(h:MX s l=some cs)(hl:l.length≤1000):Wj cs:=by
 obtain⟨g1,g2⟩:=J0 h
 refine⟨by omega,fun L hL=>?_⟩
 obtain⟨k,hk⟩:=List.mem_iff_getElem?.1 hL
 obtain⟨u,_,h2⟩:=g2 k L hk
 have:=HG h2
 exact⟨this.2.1,by have:=this.2.2;omega⟩
theorem QT{s:AF}{v:AV}{cs:List (List Int)}(h:MV s v=some cs):N6 s.next s v cs∧Wj cs:=by
 unfold MV at h
 split at h
 ·obtain⟨h1,h2⟩:=AJ h
  injection h2 with h2
  subst h2
  have:=qu h1
  subst this
  exact⟨⟨_,_,rfl,(fun k L hk=>by simp at hk)⟩,⟨by decide,(fun L hL=>by cases hL)⟩⟩
 ·rename_i i o n c
  obtain⟨h1,h2⟩:=AJ h
  simp only[Bool.and_eq_true]at h1
  simp only[qJ]at h2
  obtain⟨l,h3,h4⟩:=h2
  obtain⟨g3,g4⟩:=Nf h3
  obtain⟨g1,g2⟩:=J0 h4
  refine⟨⟨some (i,o),c,by rw[← g3,g1],fun k L hk=>?_⟩,VV h4 (by rw[g3];simpa[qT]using h1.2)⟩
  obtain⟨u,k1,k2⟩:=g2 k L hk
  exact⟨i,o,u,rfl,by simpa[qj]using h1.1,g4 k u k1,(HG k2).1⟩
 ·cases h
theorem GI.forget     {P : Program} {ρ : Bp}  {s s1 : AF}  {w w' : World} {v : AV} {e : Ending} {m : Nat} (h : GI     P ρ s w v s1 e w') (ho : BG  s.next s s1) (hm : s1.next ≤ m) (hf : Bm     ρ s) : GI     P ρ s w v ⟨m, s.heap⟩ e w' := by
  cases e with
  | panicked c=>exact h
  | outgrown=>exact h
  | returned v' =>
    obtain⟨ρ',h1,h2,h3⟩:=h
    have sub:∀i o,s.heap.get i=some o→s1.heap.get i=some o:=by
      intro i o hi
      have:i<s.next:=by
        rcases qN i s.next with h' | h'
        · exact h'
        · rw[(hf i h').2]at hi;cases hi
      rw[ho.2 i this];exact hi
    have hn:=ho.1
    refine⟨ρ',h1,⟨fun i o rb hi hr=>h2.obj i o rb (sub i o hi) hr,h2.lt,fun i j oi oj ri rj hne hi hj=>h2.sep i j oi oj ri rj hne (sub i oi hi) (sub j oj hj)⟩,
      ⟨h3.le,fun i hi hr=>h3.fresh i hi (hr.imp id fun(h':m≤i)=>by omega),qV hn hm,h3.size,h3.os,h3.tape,h3.output,h3.keep,?_,fun _ _ _=>rfl⟩⟩
    rintro b ⟨i,o,rb,k1,k2,k3,k4⟩
    exact h3.own b ⟨i,o,rb,sub i o k1,k2,k3,k4⟩
def mZ:cg:=fun f xs s=>bif Nat.beq f 17 then (match xs with
 | [v,u]=>(MV s v).bind fun cs=>(HF s u).bind fun c=>(Lz 100 cs c).bind fun b=>some (.bool b,⟨s.next+2,s.heap⟩)
 | _=>none)else none
theorem an:Good (env Try.prog):=⟨rfl,fun _ _ _ _=>rfl⟩
theorem eU(hm:Try.prog.follows .mixedOrders=true)(hng:Ey Try.prog):Hp Try.prog mZ:=by
 intro ρ s w f xs v s1 xs' h hi hf ha
 unfold mZ at h
 cases hb:Nat.beq f 17 with
 | false=>rw[hb]at h;cases h
 | true =>
  rw[hb]at h
  have:=qu hb
  subst this
  simp only[cond_true]at h
  split at h
  ·rename_i v0 u0
   simp only[qJ]at h
   obtain⟨cs,h1,c,h2,b,h3,h4⟩:=h
   injection h4 with h4
   injection h4 with h4 h5
   subst h4;subst h5
   obtain⟨g1,g2⟩:=QT h1
   obtain⟨g3,g4,g5⟩:=HG h2
   obtain⟨n,p,k1,k2,k3⟩:=TU an g2 g4 (by omega) g1 g3 h3
   have:=(pP hm hng rfl (bR Try.prog) n).call ρ s w 17 _ p.1 p.2 xs' k1 hi hf ha
   refine⟨this.1,CallsIn.mono this.2 fun e w' he=>?_⟩
   rw[k2]at he
   exact he.forget k3.1 (by rw[k3.2];exact qI _) hf
  ·cases h
def mR:BN:=⟨Try.prog,mZ⟩
theorem MN:Try.prog.follows .mixedOrders=true:=by kernel_rfl
theorem Jr:MK Try.prog=true:=by kernel_rfl
theorem Wb:Us ((Eh mR 100000).call 21 [] RA)=true:=by kernel_rfl
theorem OV           {n : Nat} {f : FuncId} (h : Us      ((Eh   mR   n).call f [] RA)  = true) (w : World) :
    (∃fn c,Try.prog.funcs[f]? = some fn∧fn.body=some c)∧CallsIn Fence.wide 0 Try.prog f #[] w fun e w'=>e=.returned (.bool true)∧Mv w w'∧w'.tape=w.tape:=by
  cases hr:(Eh mR n).call f [] RA with
  | none=>rw[hr]at h;cases h
  | some p =>
    obtain⟨v,s1⟩:=p
    rw[hr]at h
    cases v with
    | bool b =>
      have hb:b=true:=h
      subst hb
      have:=(pP MN (Hy Jr) rfl (eU MN (Hy Jr)) n).call bp RA w f [] _ _ #[] hr (oE _ w) ak .nil
      refine⟨this.1,CallsIn.mono this.2 ?_⟩
      intro e w' he
      cases e with
      | panicked c=>exact he.elim
      | outgrown=>exact he.elim
      | returned v' =>
        obtain⟨ρ',h1,h2,h3⟩:=he
        cases h1
        exact⟨rfl,Uu h3 Vw,h3.tape⟩
    | _=>cases h
def bP:cg:=fun f xs s=>bif Nat.beq f 21 then (match xs with
 | []=>some (.bool true,s)
 | _=>none)else none
theorem eV      : Hp     Try.prog bP   := by
  intro ρ s w f xs v s1 xs' h hi hf ha
  unfold bP at h
  cases hb:Nat.beq f 21 with
  | false=>rw[hb]at h;cases h
  | true =>
    rw[hb]at h
    have:=qu hb
    subst this
    simp only[cond_true]at h
    split at h
    · injection h with h
      injection h with h1 h2
      subst h1;subst h2
      have hx:xs'=#[]:=by
        have hl:=ha.length
        exact Array.eq_empty_of_size_eq_zero (by simpa using hl.symm)
      subst hx
      obtain⟨g1,g2⟩:=OV Wb w
      refine⟨g1,CallsIn.mono g2 fun e w' he=>?_⟩
      obtain⟨rfl,hk,ht⟩:=he
      refine⟨ρ,.bool true,⟨fun i o rb hi' hr=>(hi.obj i o rb hi' hr).mono (Bp.le_refl ρ) (hk.heap rb.b (hi.lt i rb hr)),fun i rb hr=>qi (hi.lt i rb hr) hk.size,hi.sep⟩,
        ⟨Bp.le_refl ρ,fun _ h _=>h,qI _,hk.size,hk.os,ht,hk.output,fun b hb _=>hk.heap b hb,fun b hb=>.inl hb,fun _ _ _=>rfl⟩⟩
    · cases h
def oD:BN:=⟨Try.prog,bP⟩
theorem VX:Good oD:=by
 refine⟨rfl,fun f xs s hf=>?_⟩
 show bP f xs s=none
 unfold bP
 have:Nat.beq f 21=false:=by
  cases hb:Nat.beq f 21 with
  | true=>exact absurd (qu hb) hf
  | false=>rfl
 rw[this];rfl
end
end Go.Proofs.Ytilhhmkdcoajnaa.Am
set_option linter.unusedVariables false
set_option linter.unusedSimpArgs false
namespace Go.Proofs.Ytilhhmkdcoajnaa.Am
open Go
noncomputable section
theorem QE{α β:Type}{f:α→Option β}:∀ {l:List α}{r:List β},l.mapM f=some r→r.length=l.length∧∀ (k:Nat)(a:α),l[k]? = some a→f a=r[k]?
 | [],r,h=>by
  simp at h
  subst h
  exact⟨rfl,fun k a hk=>by simp at hk⟩
 | x::l,r,h=>by
  rw[List.mapM_cons]at h
  simp only[bind,pure,qJ]at h
  obtain⟨y,h1,r',h2,h3⟩:=h
  injection h3 with h3
  subst h3
  obtain⟨g1,g2⟩:=QE h2
  refine⟨by simp[g1],fun k a hk=>?_⟩
  cases k with
  | zero=>simp at hk;subst hk;simpa using h1
  | succ k=>simpa using g2 k a (by simpa using hk)
theorem JW{w:World}{a:Addr}{n:Nat}{cs:List Value}(h:w.cells? 0 a n=some cs):cs.length=n∧∀j,j<n→w.cell? (a.add j)=cs[j]? := by
 unfold World.cells? at h
 rw[if_pos (qO _)]at h
 obtain⟨g1,g2⟩:=QE h
 exact⟨by simpa using g1,fun j hj=>g2 j j (by simp[hj])⟩
theorem dh{w:World}{a:Addr}{v:Value}(h:w.cell? a=some v):a.block<w.heap.size:=by
 unfold World.cell? at h
 cases hb:w.heap[a.block]? with
 | none=>rw[hb]at h;cases h
 | some o =>
  rcases qN a.block w.heap.size with h' | h'
  ·exact h'
  ·rw[Array.getElem?_eq_none h']at hb;cases hb
theorem UK(b off n:Nat):(⟨b,off,none⟩:Addr).add n=⟨b,off+n,none⟩:=by
 unfold Addr.add
 split
 ·rename_i h;subst h;rfl
 ·rfl
section
variable{H:Type}{enc:TypeId×Value→H}{P:Program}{w:World}{held:Bool}
theorem Tw         {t e : TypeId} {sz : Nat} (ht : P.underlying t = some (.slice e)) (hsz : P.cellsOf e = sz) (h0 : 0 < sz) {fuel : Nat} {cs : List Value} {x : DataW H × List MemPlace} (h : DataW.trod enc P w 0 (fun _ => true) held fuel t cs = some x) :
    cs=[.slice none 0 0]∨(∃a,cs=[.slice (some a) 0 0]) ∨
    ∃ (b off len cap n:Nat),cs=[.slice (some ⟨b,off,none⟩) len cap]∧len≤cap∧cap≤maxLen∧b<w.heap.size ∧
      ∀i,i<len→∃cs' y,DataW.trod enc P w 0 (fun _=>true) held n e cs'=some y∧cs'.length=sz∧∀j,j<sz→w.cell? ⟨b,off+i * sz+j,none⟩=cs'[j]? := by
  rcases DataW.trod_slice ht h with⟨h1,_⟩ | ⟨a,len,cap,elems,rest,n,h1,h2,h3,h4,h5,h6,h7,h8,h9,_⟩
  · exact .inl h1
  · rw[hsz]at h8 h9
    obtain⟨h9,h10⟩:=h9 rfl
    rcases rG cap with rfl | hcap
    · have:len=0:=by omega
      subst this
      exact .inr (.inl ⟨a,h2⟩)
    ·
      have first:∃v,w.cell? a=some v:=by
        rcases rG len with hl | hl
        · subst hl
          have:=h10 0 (by omega)
          have hlt:0<rest.length:=by omega
          rw[qP hlt]at this
          simp only[qJ]at this
          obtain⟨cs',g1,_⟩:=this
          obtain⟨g2,g3⟩:=JW g1
          have g4:=g3 0 h0
          rw[qP (show 0<cs'.length by omega)]at g4
          exact⟨_,by simpa[Addr.add]using g4⟩
        · have:=h8 0 hl
          rw[qP (show 0<elems.length by omega)]at this
          simp only[qJ]at this
          obtain⟨cs',g1,_⟩:=this
          obtain⟨g2,g3⟩:=JW g1
          have g4:=g3 0 h0
          rw[qP (show 0<cs'.length by omega)]at g4
          exact⟨_,by simpa[Addr.add]using g4⟩
      obtain⟨v,hv⟩:=first
      have hspot:=World.cell?_spot hv
      have hlt:=dh hv
      obtain⟨b,off,spot⟩:=a
      have hspot:spot=none:=hspot
      subst hspot
      refine .inr (.inr ⟨b,off,len,cap,n,h2,h5,h6,hlt,fun i hi=>?_⟩)
      have:=h8 i hi
      rw[qP (show i<elems.length by omega)]at this
      simp only[qJ]at this
      obtain⟨cs',g1,g2⟩:=this
      obtain⟨g3,g4⟩:=JW g1
      refine⟨cs',_,g2,g3,fun j hj=>?_⟩
      have:=g4 j hj
      rw[UK,UK]at this
      exact this
structure Gn(P:Program)(w:World)(ρ:Bp)(s:AF):Prop where
 inv:Bu P ρ s w
 fresh:Bm ρ s
 ro:∀i o,s.heap.get i=some o→wr o=false
theorem oC(P:Program)(w:World):Gn P w bp RA:=⟨oE P w,ak,fun i o h=>by cases h⟩
theorem Gn.notOwned{ρ:Bp}{s:AF}(h:Gn P w ρ s)(b:Nat):¬ Gs ρ s b:=fun⟨i,o,rb,h1,h2,_⟩=>by rw[h.ro i o h1]at h2;cases h2
def kM(e:TypeId)(sz:Nat)(cs:List AV):C0:=.row { elem:=e,sz,n:=cs.length,c:=Aj.fill .leaf 0 cs,spare:=false,mode:=.ro,par:=none,bytes:=false }
theorem bq{cs:List AV}{k:Nat}{u:AV}(h:cs[k]? = some u):(Aj.fill .leaf 0 cs).get k=some u:=by
 have hlt:k<cs.length:=by
  rcases qN k cs.length with h' | h'
  ·exact h'
  ·rw[qZ h']at h;cases h
 rw[Aj.get_fill,if_pos ⟨qO _,by omega⟩]
 simpa using h
theorem Gn.row{ρ:Bp}{s:AF}(h:Gn P w ρ s)(e:TypeId)(sz b off:Nat)(cs:List AV)(hb:b<w.heap.size)(hc:∀k u,cs[k]? = some u→∃v,w.cell? ⟨b,off+k,none⟩=some v∧Aa ρ u v):
    ∃ρ',Gn P w ρ' (newObj s (kM e sz cs))∧ρ.le ρ'∧ρ' s.next=some ⟨b,off,cs.length,sz⟩:=by
  have hf:=h.fresh s.next (qI _)
  have hle:=Cs (rb:=⟨b,off,cs.length,sz⟩) hf.1
  refine⟨Cw ρ s.next ⟨b,off,cs.length,sz⟩,⟨⟨?_,?_,?_⟩,?_,?_⟩,hle,A2 _ _⟩
  · intro i o rb hi hr
    rw[AQ]at hi
    by_cases e':i=s.next
    · subst e'
      rw[if_pos rfl]at hi
      injection hi with hi
      subst hi
      rw[A2]at hr
      injection hr with hr
      subst hr
      refine⟨fun k v hk hv=>?_,qI _,rfl,fun _=>rfl,fun hm=>absurd rfl hm,fun p hp=>by cases hp⟩
      have hk:k<cs.length:=hk
      have hv:(Aj.fill .leaf 0 cs).get k=some v:=hv
      have hu:cs[k]? = some cs[k]:=qP hk
      rw[bq hu]at hv
      injection hv with hv
      subst hv
      obtain⟨v',h1,h2⟩:=hc k _ hu
      exact⟨v',h1,h2.mono hle⟩
    · rw [if_neg e'] at hi
      rw[Az _ e']at hr
      exact(h.inv.obj i o rb hi hr).mono hle rfl
  · intro i rb hr
    by_cases e':i=s.next
    · subst e'
      rw[A2]at hr
      injection hr with hr
      subst hr
      exact hb
    · rw[Az _ e']at hr
      exact h.inv.lt i rb hr
  · intro i j oi oj ri rj _ _ hj _ _ _ hw
    rw[AQ]at hj
    by_cases e':j=s.next
    · rw[if_pos e']at hj
      injection hj with hj
      subst hj
      cases hw
    · rw [if_neg e'] at hj
      rw[h.ro j oj hj]at hw
      cases hw
  · intro i hi
    have hi:s.next+1≤i:=hi
    refine⟨?_,?_⟩
    · rw[Az _ (by omega)];exact(h.fresh i (by omega)).1
    · rw[AQ,if_neg (by omega)];exact(h.fresh i (by omega)).2
  · intro i o hi
    rw[AQ]at hi
    by_cases e':i=s.next
    · rw[if_pos e']at hi
      injection hi with hi
      subst hi
      rfl
    · rw[if_neg e']at hi
      exact h.ro i o hi
def PL(P:Program)(w:World){α:Type}(p:AF→List AV→α→Prop)(cs:List Value)(ρ:Bp)(s:AF):Prop:=
 ∃ρ' s' us x,Gn P w ρ' s'∧ρ.le ρ'∧BG s.next s s'∧AY ρ' us cs∧p s' us x
theorem TQ         {α : Type} {p : AF  → List AV → α → Prop} (hp : ∀ s s' us x, p s us x → BG  s.next s s' → p s' us x) {sz b off len : Nat}
    (hel:∀i,i<len→∃cs':List Value,cs'.length=sz∧(∀j,j<sz→w.cell? ⟨b,off+i * sz+j,none⟩=cs'[j]?)∧∀ρ s,Gn P w ρ s→PL P w p cs' ρ s):
    ∀ (m : Nat), m ≤ len → ∀ ρ s, Gn   P w ρ s → ∃ (ρ' : Bp)  (s' : AF)  (us : List AV) (xs : List α), Gn   P w ρ' s' ∧ ρ.le ρ' ∧ BG  s.next s s' ∧ us.length = m * sz ∧ xs.length = m ∧
      (∀k u,us[k]? = some u→∃v,w.cell? ⟨b,off+k,none⟩=some v∧Aa ρ' u v)∧∀ (k:Nat) (x:α),xs[k]? = some x→p s' ((us.drop (k * sz)).take sz) x:=by
  intro m
  induction m with
  | zero=>intro _ ρ s h;exact⟨ρ,s,[],[],h,Bp.le_refl ρ,BG.refl _ _,by simp,rfl,fun k u hk=>by simp at hk,fun k x hk=>by simp at hk⟩
  | succ m ih =>
    intro hm ρ s h
    obtain⟨ρ1,s1,us,xs,g1,g2,g3,g4,g5,g6,g7⟩:=ih (by omega) ρ s h
    obtain⟨cs',k1,k2,k3⟩:=hel m (by omega)
    obtain⟨ρ2,s2,vs,y,q1,q2,q3,q4,q5⟩:=k3 ρ1 s1 g1
    have hvl:vs.length=sz:=by rw[q4.length,k1]
    refine⟨ρ2,s2,us++vs,xs++[y],q1,Bp.le_trans g2 q2,g3.trans (q3.mono g3.1),by rw[qM,g4,hvl,qt,Nat.one_mul],by simp[g5],fun k u hk=>?_,fun k x hk=>?_⟩
    · rcases qN           k us.length with hlt | hge
      · rw[qX hlt]at hk
        obtain⟨v,e1,e2⟩:=g6 k u hk
        exact⟨v,e1,e2.mono q2⟩
      · rw[qY hge]at hk
        have hj:k - us.length<sz:=by
          rcases qN (k - us.length) vs.length with h' | h'
          · omega
          · rw[qZ h']at hk;cases hk
        obtain⟨v,e1,e2⟩:=q4.get hk
        refine⟨v,?_,e2⟩
        have:=k2 (k - us.length) hj
        rw[e1]at this
        rw[show off+k=off+m * sz+(k - us.length) by omega]
        exact this
    · rcases qN           k m with hlt | hge
      · rw[qX (by omega)]at hk
        have:=hp s1 s2 _ _ (g7 k x hk) q3
        have hks:(k+1) * sz≤m * sz:=rO _ hlt
        rw[qt,Nat.one_mul]at hks
        rw[List.drop_append_of_le_length (by omega),qm (by rw[rB];omega)]
        exact this
      · rw[qY (by omega)]at hk
        have hk0:k=m:=by
          rcases qN (k - xs.length) 1 with h' | h'
          · omega
          · rw[qZ (by simpa using h')]at hk;cases hk
        subst hk0
        have hxy:y=x:=by simpa[g5]using hk
        subst hxy
        rw[← g4,List.drop_left' rfl,ry (by omega)]
        exact q5
def mu(s:AF)(a:Option (Nat×Nat))(cap:Option Nat)(n sz:Nat):Prop:=(∃c,cap=some c∧n≤c∧(a=none→c=0))∨(n=0∧cap=none∧∃i r,a=some (i,0)∧i<s.next∧s.heap.get i=some (.row r)∧r.sz=sz)
def N7{α:Type}(p:AF→List AV→α→Prop)(sz:Nat)(s:AF)(us:List AV)(xs:List α):Prop:=
 ∃a cap,us=[.slice a xs.length cap]∧xs.length≤maxLen∧mu s a cap xs.length sz∧∀ (k:Nat) (x:α),xs[k]? = some x→∃i o vs,a=some (i,o)∧i<s.next∧vs.length=sz∧(∀j u,vs[j]? = some u→load1 s i (o+k * sz+j)=some u)∧p s vs x
theorem Pq          {α : Type} {p : AF  → List AV → α → Prop} (hp : ∀ s s' us x, p s us x → BG  s.next s s' → p s' us x) {t e : TypeId} {sz : Nat} (ht : P.underlying t = some (.slice e)) (hsz : P.cellsOf e = sz) (h0 : 0 < sz)
    (hel:0<w.heap.size→∀ (n:Nat) (cs:List Value) (y:DataW H×List MemPlace),DataW.trod enc P w 0 (fun _=>true) held n e cs=some y→cs.length=sz→∀ρ s,Gn P w ρ s→PL P w p cs ρ s)
    {fuel:Nat} {cs:List Value} {x:DataW H×List MemPlace} (h:DataW.trod enc P w 0 (fun _=>true) held fuel t cs=some x) (hw:∀a,cs=[.slice (some a) 0 0]→0<w.heap.size) {ρ:Bp} {s:AF} (hd:Gn P w ρ s):PL P w (N7 p sz) cs ρ s:=by
  rcases Tw ht hsz h0 h with rfl | ⟨a,rfl⟩ | ⟨b,off,len,cap,n,rfl,h1,h2,h3,h4⟩
  · exact⟨ρ,s,[.slice none 0 (some 0)],[],hd,Bp.le_refl ρ,BG.refl _ _,.cons .sliceNil .nil,none,some 0,rfl,qO _,.inl ⟨0,rfl,qI _,fun _=>rfl⟩,fun k x hk=>by simp at hk⟩
  · obtain⟨ρ',g1,g2,g3⟩:=hd.row e sz 0 0 [] (hw a rfl) (fun k u hk=>by simp at hk)
    exact⟨ρ',_,[.slice (some (s.next,0)) 0 none],[],g1,g2,BG.new s _,.cons (.sliceEnd g3 h0 (qI _) (by show 0<0+sz;omega)) .nil,_,_,rfl,qO _,.inr ⟨rfl,rfl,s.next,{ elem:=e,sz,n:=0,c:=Aj.fill .leaf 0 [],spare:=false,mode:=.ro,par:=none,bytes:=false },rfl,qn _,by rw[AQ,if_pos rfl];rfl,rfl⟩,fun k x hk=>by simp at hk⟩
  · obtain⟨ρ1,s1,us,xs,g1,g2,g3,g4,g5,g6,g7⟩:=TQ (w:=w) (P:=P) hp (sz:=sz) (b:=b) (off:=off) (len:=len) (fun i hi=>by
      obtain⟨cs',y,q1,q2,q3⟩:=h4 i hi
      exact⟨cs',q2,q3,fun ρ s hd=>hel (by omega) n cs' y q1 q2 ρ s hd⟩) len (qI _) ρ s hd
    obtain⟨ρ2,k1,k2,k3⟩:=g1.row e sz b off us h3 g6
    have o2:BG s1.next s1 (newObj s1 (kM e sz us)):=BG.new s1 _
    refine⟨ρ2,_,[.slice (some (s1.next,0)) xs.length (some cap)],xs,k1,Bp.le_trans g2 k2,g3.trans (o2.mono g3.1),?_,some (s1.next,0),some cap,rfl,by omega,.inl ⟨cap,rfl,by omega,fun h=>by cases h⟩,fun k x hk=>?_⟩
    · rw[g5]
      exact .cons (.slice k3 h1) .nil
    · have hkl:k<len:=by
        rcases qN k xs.length with h' | h'
        · omega
        · rw[qZ h']at hk;cases hk
      have hks:(k+1) * sz≤len * sz:=rO _ hkl
      rw[qt,Nat.one_mul]at hks
      refine⟨s1.next,0,(us.drop (k * sz)).take sz,rfl,qn _,by rw[qb,rB];omega,fun j u hj=>?_,hp s1 _ _ _ (g7 k x hk) o2⟩
      rw[rZ]at hj
      split at hj
      · rename_i hjs
        rw[qk]at hj
        rw[qU]
        exact B1 (r:={ elem:=e,sz,n:=us.length,c:=Aj.fill .leaf 0 us,spare:=false,mode:=.ro,par:=none,bytes:=false }) (by rw[AQ,if_pos rfl];rfl) (by show k * sz+j<us.length;omega) (bq hj)
      · cases hj
end
def B8(s:AF)(v:AV)(n sz:Nat)(cs:List AV)(O:List Nat):Prop:=
 (∃a,v=.slice a n (some n)∧O=[]∧cs.length=n * sz∧(a=none→n=0)∧∀i o,a=some (i,o)→i<s.next∧loadN s i o (n * sz)=some cs) ∨
 (∃i p,v=.slice (some (i,0)) n none∧Ka 0 s.next s v n sz cs i p∧O=i::p.toList)
theorem B8.nil(s:AF)(sz:Nat):B8 s (.slice none 0 (some 0)) 0 sz [] []:=.inl ⟨none,rfl,rfl,by simp,fun _=>rfl,fun i o h=>by cases h⟩
theorem B8.len{s:AF}{v:AV}{n sz:Nat}{cs:List AV}{O:List Nat}(h:B8 s v n sz cs O):cs.length=n * sz:=by
 rcases h with⟨a,h1,h2,h3,h4⟩ | ⟨i,p,h1,h2,h3⟩
 ·exact h3
 ·exact h2.len
theorem MD{s s':AF}{i o n:Nat}(h:s'.heap.get i=s.heap.get i):loadN s' i o n=loadN s i o n:=by unfold loadN rowAt;rw[h]
theorem B8.lt   {s : AF}  {v : AV} {n sz : Nat} {cs : List AV} {O : List Nat} (h : B8   s v n sz cs O) : ∀ j ∈ O, j < s.next := by
  rcases h with⟨a,h1,h2,h3,h4⟩ | ⟨i,p,h1,h2,h3⟩
  · subst h2;intro j hj;cases hj
  · subst h3
    intro j hj
    rcases h2.ex with⟨e,_⟩ | ⟨_,_,k2,k3,_⟩
    · rw[h1]at e;cases e
    · rcases qp.1            hj with rfl | hj
      · exact k2
      · cases p with
        | none=>cases hj
        | some q =>
          have:j=q:=by simpa using hj
          rw[this]
          exact(k3 q rfl).2.1
def Cn:AV→Option Nat
 | .slice (some (i,_)) _ _=>some i
 | _=>none
theorem B8.frame{s s':AF}{v:AV}{n sz:Nat}{cs:List AV}{O:List Nat}(h:B8 s v n sz cs O)(hn:s.next≤s'.next)(hf:∀j,Cn v=some j→s'.heap.get j=s.heap.get j):B8 s' v n sz cs O:=by
 rcases h with⟨a,rfl,h2,h3,h4,h5⟩ | ⟨i,p,rfl,h2,h3⟩
 ·refine .inl ⟨a,rfl,h2,h3,h4,fun i o e=>?_⟩
  obtain⟨k1,k2⟩:=h5 i o e
  subst e
  exact⟨by omega,by rw[MD (hf i rfl)];exact k2⟩
 ·exact .inr ⟨i,p,rfl,(h2.mono hn).frame fun _ _=>hf i rfl,h3⟩
theorem B8.cells   {s : AF}  {v : AV} {n sz : Nat} {cs : List AV} {O : List Nat} (h : B8   s v n sz cs O) : ∃ a cap, v = .slice a n cap ∧ Ay      s.next s a cs := by
  rcases h with⟨a,rfl,h2,h3,h4,h5⟩ | ⟨i,p,rfl,h2,h3⟩
  · refine⟨a,_,rfl,fun k u hk=>?_⟩
    have hlt:k<cs.length:=by
      rcases qN k cs.length with h | h
      · exact h
      · rw[qZ h]at hk;cases hk
    cases a with
    | none=>rw[h4 rfl]at h3;simp at h3;subst h3;simp at hlt
    | some io =>
      obtain⟨i,o⟩:=io
      obtain⟨k1,k2⟩:=h5 i o rfl
      refine⟨i,o,rfl,k1,?_⟩
      unfold loadN at k2
      simp only[qJ]at k2
      obtain⟨r,g1,g2⟩:=k2
      have g3:Nat.ble (o+n * sz) r.n=true∧r.c.take o (n * sz)=some cs:=by
        cases hb:Nat.ble (o+n * sz) r.n with
        | true=>rw[hb]at g2;exact⟨rfl,g2⟩
        | false=>rw[hb]at g2;cases g2
      have g4:o+n * sz≤r.n:=by simpa[qT]using g3.1
      have g5:=Aj.take_get g3.2 k (by omega)
      rw[hk]at g5
      have g6:s.heap.get i=some (.row r):=by
        unfold rowAt at g1
        split at g1
        · injection g1 with g1;subst g1;assumption
        · cases g1
      exact B1 g6 (by omega) g5
  · obtain⟨a,cap,e,hc⟩:=h2.cells
    exact⟨a,cap,e,hc⟩
theorem B8.append   {P : Program} {st xt e : TypeId} {sz by_ : Nat} (ht : P.underlying st = some (.slice e)) (hs : BC    P e = some sz) (hb : CQ     P e = some by_) (h0 : 0 < sz) (hx : BI           P xt = true) (hz : CC     P e sz = true) {s : AF}  {v : AV} {n : Nat} {cs : List AV} {O : List Nat} (h : B8   s v n sz cs O)
    {ax:Option (Nat×Nat)} {m:Nat} {cx:Option Nat} {add:List AV} (hsrc:BZ P s e sz (.slice ax m cx)=some (m,add)) (ha:add.length=m * sz) (hc:Ak add=true) (h1:(n+m) * by_≤1099511627776) (h2:n+m≤1099511627776):
    ∃v' s' O',Af P s [st,xt] [v,.slice ax m cx]=some (v',s')∧B8 s' v' (n+m) sz (cs++add) O'∧s.next≤s'.next∧s'.next≤s.next+1∧(∀j,j<s.next→j ∉ O→s'.heap.get j=s.heap.get j)∧(∀j∈O',j∈O∨s.next≤j)∧(∀j,Cn v'=some j→Cn v=some j∨s.next≤j):=by
  have hlen:=h.len
  rcases rG m with rfl | hm
  ·
    have hadd:add=[]:=by simp at ha;exact ha
    subst hadd
    rw[re,rN]
    rcases h with⟨a,rfl,rfl,h3,h4,h5⟩ | ⟨i,p,rfl,h6,h7⟩
    · refine ⟨.slice a n (some n), s, [], ?_, .inl ⟨a, rfl, rfl, h3, h4, h5⟩, qI          _, rR          _, fun _ _ _ => rfl, fun j hj => (by cases hj), fun j hj => .inl hj⟩
      rw[CB ht hs hb h0 hx hsrc hc h1 h2]
      cases a with
      | none=>rw[h4 rfl];rfl
      | some io =>
        obtain⟨i,o⟩:=io
        simp only[appTo,DP,rN,BS (qI n),cond_true,CK,Option.bind_some]
    · refine ⟨.slice (some (i, 0)) n none, s, O, ?_, .inr ⟨i, p, rfl, h6, h7⟩, qI          _, rR          _, fun _ _ _ => rfl, fun j hj => .inl hj, fun j hj => .inl hj⟩
      rw[CB ht hs hb h0 hx hsrc hc h1 h2]
      rcases h6.ex with⟨e',_⟩ | ⟨_,k1,k2,k3,r,k4,k5,k6,k7,k8,k9⟩
      · cases e'
      · have hrow : rowAt s i = some r := by simp [rowAt, k4]
        have hrn:r.n=n * sz:=by rw[k5.1,h6.len]
        simp only[appTo,hrow,Option.bind_some,Dz,k8,Di rfl,AI,cond_true,rN,qU]
        rw[show Nat.ble (n * sz) r.n=true from BS (by omega)]
        simp only[cond_true,CK,Option.bind_some]
  · rcases h with ⟨a, rfl, rfl, h3, h4, h5⟩ | ⟨i, p, rfl, h6, h7⟩
    ·
      refine⟨.slice (some (s.next,0)) (n+m) none,newObj s (Cp e sz (Aj.fill .leaf 0 (cs++add)) (cs++add).length none),[s.next],?_,?_,rR _,qI _,fun j hj _=>by rw[AQ,if_neg (by omega)],fun j hj=>by simp at hj;right;omega,fun j hj=>by simp[Cn]at hj;right;omega⟩
      · rw[CB ht hs hb h0 hx hsrc hc h1 h2]
        cases a with
        | none =>
          have hn0:=h4 rfl
          subst hn0
          have:cs=[]:=by simp at h3;exact h3
          subst this
          simp only[appTo,D0 (show m≠0 by omega),cond_false,Bv,AI,hz,cond_true,qo,qU]
        | some io =>
          obtain⟨i,o⟩:=io
          obtain⟨k1,k2⟩:=h5 i o rfl
          simp only[appTo,DP,GL (show n<n+m by omega),cond_false,k2,Option.bind_some,Bv,AI,hz,cond_true]
      · refine .inr ⟨s.next,none,rfl,⟨by rw[qM,h3,ha,qt],.inr ⟨rfl,qO _,qn _,fun q hq=>(by cases hq),_,by rw[AQ,if_pos rfl];rfl,⟨rfl,?_⟩,rfl,rfl,rfl,rfl⟩⟩,rfl⟩
        intro k u hk
        have hlt:k<(cs++add).length:=by
          rcases qN k (cs++add).length with h' | h'
          · exact h'
          · rw[qZ h']at hk;cases hk
        show(Aj.fill .leaf 0 (cs++add)).get k=some u
        rw[Aj.get_fill,if_pos ⟨qO _,by omega⟩]
        simpa using hk
    · obtain⟨a,cap,v',s',e1,e2,i',p',g1,g2,g3,g4,g5,g6,_⟩:=h6.appTo (qI _) (qO _) hz h0 ha hm
      injection e1 with e1 e3 e4
      subst e1;subst e4
      have hv':v'=.slice (some (i',0)) (n+m) none:=by
        rcases g1.ex with⟨_,e⟩ | ⟨e,_⟩
        · omega
        · exact e
      refine⟨v',s',i'::p'.toList,?_,.inr ⟨i',p',hv',g1,rfl⟩,g2.1,by omega,?_,?_,?_⟩
      · rw[CB ht hs hb h0 hx hsrc hc h1 h2]
        exact e2
      · intro j hj hO
        subst h7
        refine g2.2 j hj (fun e=>hO (by simp[e])) (fun e=>hO (by simp[e]))
      · intro j hj
        subst h7
        rcases qp.1 hj with rfl | hj
        · right;omega
        · rcases g5 with rfl | rfl
          · cases hj
          · simp at hj;left;simp[hj]
      · intro j hj
        rw[hv']at hj
        simp[Cn]at hj
        right;omega
theorem GY{P:Program}{e:TypeId}{s:AF}{i:Nat}{cs:List AV}{n:Nat}{cap:Option Nat}{sz:Nat}(ty:TypeId)(z:Nat)(hg:s.heap.get i=some (AO ty z cs))(hl:cs.length=n * sz):BZ P s e sz (.slice (some (i,0)) n cap)=some (n,cs):=by
 obtain⟨r,h1,h2,_⟩:=Br ty z cs
 rw[h1]at hg
 have:=Dq hg h2 0 cs (by omega) (fun j u hj=>by simpa using hj)
 rw[hl]at this
 simp[BZ,ET this]
end
end Go.Proofs.Ytilhhmkdcoajnaa.Am
set_option linter.unusedVariables false
set_option linter.unusedSimpArgs false
namespace Go.Proofs.Ytilhhmkdcoajnaa.Am
open Go Go.Proofs
noncomputable section
theorem Be{α:Type}{L l:List α}{k:Nat}{x:α}(h:L.drop k=x::l):k<L.length∧L[k]? = some x∧L.drop (k+1)=l:=by
 refine⟨?_,?_,?_⟩
 ·have:=congrArg List.length h
  simp at this;omega
 ·have:=congrArg (fun l=>l[0]?) h
  simpa using this
 ·rw[← rL,h];rfl
theorem CH{α:Type}{L:List α}{k:Nat}(h:L.drop k=[])(hk:k≤L.length):k=L.length:=by
 have:=congrArg List.length h
 simp at this;omega
theorem NP{ax:Option (Nat×Nat)}{n:Nat}{cx:Option Nat}(h:ax=none→∃c,cx=some c):FY (.slice ax n cx) (.slice ax n cx)=true:=by
 cases ax with
 | none=>obtain⟨c,rfl⟩:=h rfl;simp[FY]
 | some io=>obtain⟨i,o⟩:=io;cases cx<;>simp[FY]
theorem Kg(s:AF)(loc var:List AV)(f:AF→List AV→Option AV)(xs:List CX)(a:CX):GJ s loc var ⟨none,.r f,xs,a⟩=U6 (f s (Qh loc var xs)) (Du loc var a):=by
 simp[GJ,PH,Ev,Bl]
theorem At(u v:AV):U6 (some u) v=FY u v:=rfl
theorem cE       {P : Program} {t e : TypeId} (ht : P.underlying t = some (.slice e)) (hs : BC    P e = some 1) {s : AF}  {v : AV} {n k : Nat} {cs : List AV} {O : List Nat} (h : B8   s v n 1 cs O) (hk : k ≤ n) :
    ∃ax cx,FY (.slice ax k cx) (.slice ax k cx)=true∧Ad P t false true false s [v,iv (k:Int)]=some (.slice ax k cx)∧(∀s',(∀j,Cn v=some j→s'.heap.get j=s.heap.get j)→Ad P t false true false s' [v,iv (k:Int)]=some (.slice ax k cx)∧BZ P s' e 1 (.slice ax k cx)=some (k,cs.take k)):=by
  have hb:BD (iv (k:Int)) n=some k:=by simp[BD,Eb,Cc,AI,BS hk]
  have main : ∃ ax cx, (ax = none → ∃ c, cx = some c) ∧ ∀ s', (∀ j, Cn   v = some j → s'.heap.get j = s.heap.get j) → Ad         P t false true false s' [v, iv (k : Int)] = some (.slice ax k cx) ∧ BZ       P s' e 1 (.slice ax k cx) = some (k, cs.take k) := by
    rcases h with⟨a,rfl,rfl,h3,h4,h5⟩ | ⟨i,p,rfl,h6,h7⟩
    · cases a with
      | none =>
        have hn:=h4 rfl
        subst hn
        have hk0:k=0:=by omega
        subst hk0
        have:cs=[]:=by simp at h3;exact h3
        subst this
        refine⟨none,some 0,(fun _=>⟨0,rfl⟩),fun s' _=>⟨?_,rfl⟩⟩
        show Ar P s' t (.slice none 0 (some 0)) none (some (iv ((0:Nat):Int))) none=_
        simp only[Ar,ht,hs,Option.bind_some,hb]
      | some io =>
        obtain⟨i,o⟩:=io
        obtain⟨k1,k2⟩:=h5 i o rfl
        refine⟨some (i,o),some n,(fun e=>by cases e),fun s' hs'=>⟨?_,?_⟩⟩
        · show Ar     P s' t (.slice (some (i, o)) n (some n)) none (some (iv (k : Int))) none = _
          simp only[Ar,ht,hs,Option.bind_some,hb,rV]
          cases hbb:Nat.beq n 0<;>rfl
        · have k2' : loadN s' i o (n * 1) = some cs := by rw [MD       (hs' i rfl)]; exact k2
          have:loadN s' i o (k * 1)=some (cs.take k):=by
            unfold loadN at k2' ⊢
            simp only[qJ]at k2' ⊢
            obtain⟨r,g1,g2⟩:=k2'
            refine⟨r,g1,?_⟩
            have g3:Nat.ble (o+n * 1) r.n=true∧r.c.take o (n * 1)=some cs:=by
              cases hb:Nat.ble (o+n * 1) r.n with
              | true=>rw[hb]at g2;exact⟨rfl,g2⟩
              | false=>rw[hb]at g2;cases g2
            have g4:o+n * 1≤r.n:=by simpa[qT]using g3.1
            rw[BS (show o+k * 1≤r.n by omega)]
            have hl:(cs.take k).length=k * 1:=by simp;omega
            rw[← hl]
            refine He _ _ fun j u hj=>?_
            have hjk:j<k:=by
              rcases qN j k with h' | h'
              · exact h'
              · rw[qZ (by simp;omega)]at hj;cases hj
            rw[qq hjk]at hj
            exact(Aj.take_get g3.2 j (by omega)).trans hj
          simp[BZ,ET this]
    · rcases h6.ex with ⟨e', _⟩ | ⟨_, q1, q2, q3, r, q4, q5, q6, q7, q8, q9⟩
      · cases e'
      · have hrn:r.n=n * 1:=by rw[q5.1,h6.len]
        refine⟨some (i,0),none,(fun e=>by cases e),fun s' hs'=>?_⟩
        have hg:s'.heap.get i=some (.row r):=by rw[hs' i rfl];exact q4
        have hrow:rowAt s' i=some r:=by simp[rowAt,hg]
        refine⟨?_,?_⟩
        · show Ar P s' t (.slice (some (i,0)) n none) none (some (iv (k:Int))) none=_
          have hfar:(r.n - 0) / 1=n:=by omega
          simp only[Ar,ht,hs,Option.bind_some,hrow,BS (qO r.n),q8,AI,Di rfl,Bool.true_and,hfar]
          rw[show Nat.beq 1 0=false from rfl]
          simp only[Bool.not_false,cond_true,Option.bind_some,hb,rV,Nat.zero_mul,rN]
        · have hl : (cs.take k).length = k * 1 := by have := h6.len; simp; omega
          have:=Dq hg q5 0 (cs.take k) (by simp;omega) (fun j u hj=>by
            have hjk:j<k:=by
              rcases qN j k with h' | h'
              · exact h'
              · rw[qZ (by simp;omega)]at hj;cases hj
            rw[qq hjk]at hj
            simpa using hj)
          rw[hl]at this
          simp[BZ,ET this]
  obtain⟨ax,cx,hne,hm⟩:=main
  exact⟨ax,cx,NP hne,(hm s fun _ _=>rfl).1,hm⟩
theorem cF       {P : Program} {t e : TypeId} (ht : P.underlying t = some (.slice e)) (hs : BC    P e = some 1) {s : AF}  {v : AV} {n k : Nat} {cs : List AV} {O : List Nat} (h : B8   s v n 1 cs O) (hk : k ≤ n) :
    ∃ax cx,FY (.slice ax (n - k) cx) (.slice ax (n - k) cx)=true∧Ad P t true false false s [v,iv (k:Int)]=some (.slice ax (n - k) cx)∧(∀s',(∀j,Cn v=some j→s'.heap.get j=s.heap.get j)→Ad P t true false false s' [v,iv (k:Int)]=some (.slice ax (n - k) cx)∧BZ P s' e 1 (.slice ax (n - k) cx)=some (n - k,cs.drop k)):=by
  have hb:BD (iv (k:Int)) n=some k:=by simp[BD,Eb,Cc,AI,BS hk]
  have main : ∃ ax cx, (ax = none → ∃ c, cx = some c) ∧ ∀ s', (∀ j, Cn   v = some j → s'.heap.get j = s.heap.get j) → Ad         P t true false false s' [v, iv (k : Int)] = some (.slice ax (n - k) cx) ∧ BZ       P s' e 1 (.slice ax (n - k) cx) = some (n - k, cs.drop k) := by
    rcases h with⟨a,rfl,rfl,h3,h4,h5⟩ | ⟨i,p,rfl,h6,h7⟩
    · cases a with
      | none =>
        have hn:=h4 rfl
        subst hn
        have hk0:k=0:=by omega
        subst hk0
        have:cs=[]:=by simp at h3;exact h3
        subst this
        refine⟨none,some 0,(fun _=>⟨0,rfl⟩),fun s' _=>⟨?_,rfl⟩⟩
        show Ar P s' t (.slice none 0 (some 0)) (some (iv ((0:Nat):Int))) none none=_
        simp only[Ar,ht,hs,Option.bind_some,hb]
      | some io =>
        obtain⟨i,o⟩:=io
        obtain⟨k1,k2⟩:=h5 i o rfl
        refine⟨bif Nat.beq n k then some (i,o)else some (i,o+k * 1),some (n - k),(fun _=>⟨_,rfl⟩),fun s' hs'=>⟨?_,?_⟩⟩
        · show Ar     P s' t (.slice (some (i, o)) n (some n)) (some (iv (k : Int))) none none = _
          simp only[Ar,ht,hs,Option.bind_some,hb]
        · have k2' : loadN s' i o (n * 1) = some cs := by rw [MD       (hs' i rfl)]; exact k2
          have gen:∀q,(q=o+k∨n - k=0∧q≤o+n)→loadN s' i q (n - k)=some (cs.drop k):=by
            intro q hq
            unfold loadN at k2' ⊢
            simp only[qJ]at k2' ⊢
            obtain⟨r,g1,g2⟩:=k2'
            refine⟨r,g1,?_⟩
            have g3:Nat.ble (o+n * 1) r.n=true∧r.c.take o (n * 1)=some cs:=by
              cases hb:Nat.ble (o+n * 1) r.n with
              | true=>rw[hb]at g2;exact⟨rfl,g2⟩
              | false=>rw[hb]at g2;cases g2
            have g4:o+n * 1≤r.n:=by simpa[qT]using g3.1
            rw[BS (show q+(n - k)≤r.n by omega)]
            have hl:(cs.drop k).length=n - k:=by simp;omega
            rw[← hl]
            refine He _ _ fun j u hj=>?_
            have hjk:j<n - k:=by
              rcases qN j (n - k)with h' | h'
              · exact h'
              · rw[qZ (by omega)]at hj;cases hj
            rw[qk]at hj
            have:=(Aj.take_get g3.2 (k+j) (by omega)).trans hj
            have hqo:q+j=o+(k+j):=by omega
            rw[hqo]
            exact this
          cases hbb:Nat.beq n k with
          | true =>
            have:=qu hbb
            simp only[cond_true,BZ]
            rw[ET (size:=1) (by rw[qa];exact gen o (.inr ⟨by omega,by omega⟩))]
            rfl
          | false =>
            simp only[cond_false,BZ,qa]
            rw[ET (size:=1) (by rw[qa];exact gen (o+k) (.inl rfl))]
            rfl
    · rcases h6.ex with ⟨e', _⟩ | ⟨_, q1, q2, q3, r, q4, q5, q6, q7, q8, q9⟩
      · cases e'
      · have hrn:r.n=n * 1:=by rw[q5.1,h6.len]
        refine⟨some (i,0+k * 1),none,(fun e=>by cases e),fun s' hs'=>?_⟩
        have hg:s'.heap.get i=some (.row r):=by rw[hs' i rfl];exact q4
        have hrow:rowAt s' i=some r:=by simp[rowAt,hg]
        refine⟨?_,?_⟩
        · show Ar P s' t (.slice (some (i,0)) n none) (some (iv (k:Int))) none none=_
          have hfar:(r.n - 0) / 1=n:=by omega
          simp only[Ar,ht,hs,Option.bind_some,hrow,BS (qO r.n),q8,AI,Di rfl,Bool.true_and,hfar,hb]
          rw[show Nat.beq 1 0=false from rfl]
          simp only[Bool.not_false,cond_true,Option.bind_some]
        · have hl : (cs.drop k).length = n - k := by have := h6.len; simp; omega
          have:=Dq hg q5 (0+k * 1) (cs.drop k) (by have:=h6.len;simp;omega) (fun j u hj=>by
            rw[qk]at hj
            rw[← hj];congr 1;omega)
          rw[hl]at this
          simp only[BZ]
          rw[ET (size:=1) (by rw[qa (n - k)];exact this)]
          rfl
  obtain⟨ax,cx,hne,hm⟩:=main
  exact⟨ax,cx,NP hne,(hm s fun _ _=>rfl).1,hm⟩
theorem Ck{P:Program}{t e:TypeId}(ht:P.underlying t=some (.slice e))(hs:BC P e=some 1){z v:AV}(hz:CY P e=some z)(hzc:z.cells.length=1)(hv:v.cells=[v]):
  Ae P t 1 (zipIdx [0] [v])=some (AO e 1 [v]):=by
 have hzl:(Jx z.cells 1).length=1:=by simp[Jx,hzc]
 have:∃c,Jx z.cells 1=[c]:=List.length_eq_one_iff.1 hzl
 obtain⟨c,hc⟩:=this
 simp[Ae,ht,hs,AI,hz,hzc,zipIdx,Dp,hv,hc]
 rfl
theorem K2{P:Program}{t e:TypeId}(ht:P.underlying t=some (.slice e))(hs:BC P e=some 1){z:AV}(hz:CY P e=some z)(hzc:z.cells.length=1):
  Ae P t 0 (zipIdx [] [])=some (AO e 1 []):=by
 simp[Ae,ht,hs,AI,hz,hzc,zipIdx,Dp,Jx]
 rfl
theorem JA:CC Try.prog 3 1=true:=by simp[CC,RN,AV.cells]
theorem Ke(t:TypeId)(e:TypeId)(h:Try.prog.underlying t=some (.slice e)):BI Try.prog t=true:=by simp[BI,h]
theorem NG(L:List Int):Ak (Ax L)=true:=by
 induction L with
 | nil=>rfl
 | cons x l ih=>simpa[Ak,AV.isCell]using ih
theorem B8.slot_lt{s:AF}{v:AV}{n sz:Nat}{cs:List AV}{O:List Nat}(hd:B8 s v n sz cs O):∀j,Cn v=some j→j<s.next:=by
 intro j hj
 rcases hd with⟨a,rfl,h2,h3,h4,h5⟩ | ⟨i,p,rfl,h2,h3⟩
 ·cases a with
  | none=>cases hj
  | some io=>obtain⟨i,o⟩:=io;simp[Cn]at hj;subst hj;exact(h5 i o rfl).1
 ·simp[Cn]at hj;subst hj
  rcases h2.ex with⟨e,_⟩ | ⟨_,_,k2,_⟩
  ·cases e
  ·exact k2
theorem B8.new{s:AF}{v:AV}{n sz:Nat}{cs:List AV}{O:List Nat}(hd:B8 s v n sz cs O)(o:C0):B8 (newObj s o) v n sz cs O:=
 hd.frame (rR _) fun j hj=>by rw[AQ,if_neg (by have:=hd.slot_lt j hj;omega)]
theorem B8.slice{s:AF}{v:AV}{n:Nat}{cs:List AV}{O:List Nat}(hd:B8 s v n 1 cs O):AX s.next s v cs:=by
 obtain⟨a,cap,h1,h2⟩:=hd.cells
 have:=hd.len
 exact⟨a,cap,by rw[this,qa];exact h1,h2⟩
def An(b:Nat)(s:AF)(us:List AV)(cs:List (List Int)):Prop:=us.length=cs.length∧∀ (k:Nat)(L:List Int),cs[k]? = some L→∃u:AV,us[k]? = some u∧AX b s u (Ax L)
theorem An.old{b:Nat}{s s':AF}{us:List AV}{cs:List (List Int)}(h:An b s us cs)(k:BG b s s'):An b s' us cs:=
 ⟨h.1,fun j L hj=>let ⟨u,h1,h2⟩:=h.2 j L hj;⟨u,h1,h2.old k (qI _)⟩⟩
theorem An.mono{b b':Nat}{s:AF}{us:List AV}{cs:List (List Int)}(h:An b s us cs)(k:b≤b'):An b' s us cs:=
 ⟨h.1,fun j L hj=>let ⟨u,h1,h2⟩:=h.2 j L hj;⟨u,h1,h2.mono k⟩⟩
theorem An.nil(b:Nat)(s:AF):An b s [] []:=⟨rfl,fun k L h=>by simp at h⟩
theorem An.append{b:Nat}{s:AF}{us us':List AV}{cs cs':List (List Int)}(h:An b s us cs)(h':An b s us' cs'):An b s (us++us') (cs++cs'):=by
 refine⟨by simp[h.1,h'.1],fun k L hk=>?_⟩
 rcases qN k cs.length with hlt | hge
 ·rw[qX hlt]at hk
  obtain⟨u,h1,h2⟩:=h.2 k L hk
  exact⟨u,by rw[qX (by rw[h.1];exact hlt)];exact h1,h2⟩
 ·rw[qY hge]at hk
  obtain⟨u,h1,h2⟩:=h'.2 _ L hk
  exact⟨u,by rw[qY (by rw[h.1];exact hge),h.1];exact h1,h2⟩
theorem An.take{b:Nat}{s:AF}{us:List AV}{cs:List (List Int)}(h:An b s us cs)(n:Nat):An b s (us.take n) (cs.take n):=by
 refine⟨by simp[h.1],fun k L hk=>?_⟩
 rcases qN k n with hlt | hge
 ·rw[qq hlt]at hk
  obtain⟨u,h1,h2⟩:=h.2 k L hk
  exact⟨u,by rw[qq hlt];exact h1,h2⟩
 ·rw[qZ (by simp;omega)]at hk;cases hk
theorem An.drop{b:Nat}{s:AF}{us:List AV}{cs:List (List Int)}(h:An b s us cs)(n:Nat):An b s (us.drop n) (cs.drop n):=by
 refine⟨by simp[h.1],fun k L hk=>?_⟩
 rw[qk]at hk
 obtain⟨u,h1,h2⟩:=h.2 _ L hk
 exact⟨u,by rw[qk];exact h1,h2⟩
theorem An.one{b:Nat}{s:AF}{u:AV}{L:List Int}(h:AX b s u (Ax L)):An b s [u] [L]:=by
 refine⟨rfl,fun k L' hk=>?_⟩
 cases k with
 | zero=>simp at hk;subst hk;exact⟨u,rfl,h⟩
 | succ k=>simp at hk
theorem An.cells{b:Nat}{s:AF}{us:List AV}{cs:List (List Int)}(h:An b s us cs):Ak us=true:=by
 have:∀ (l:List AV),(∀u∈l,u.isCell=true)→Ak l=true:=by
  intro l
  induction l with
  | nil=>intro _;rfl
  | cons u l ih=>intro hl;simp only[Ak,Bool.and_eq_true];exact⟨hl u qR,ih fun x hx=>hl x (qS _ hx)⟩
 refine this us fun u hu=>?_
 obtain⟨k,hk⟩:=List.mem_iff_getElem?.1 hu
 have hlt:k<us.length:=by
  rcases qN k us.length with h' | h'
  ·exact h'
  ·rw[qZ h']at hk;cases hk
 have hlt2:k<cs.length:=by rw[← h.1];exact hlt
 obtain⟨u',h1,a,cap,h2,_⟩:=h.2 k cs[k] (qP hlt2)
 rw[hk]at h1
 injection h1 with h1
 subst h1;subst h2
 rfl
theorem An.rows{b c:Nat}{s:AF}{us:List AV}{cs:List (List Int)}(h:An b s us cs){a:Option (Nat×Nat)}(hc:Ay c s a us)(hbc:b≤c):EG c s a cs:=by
 intro k L hk
 obtain⟨u,h1,h2⟩:=h.2 k L hk
 obtain⟨i,o,h3,h4,h5⟩:=hc k u h1
 exact⟨i,o,u,h3,h4,h5,h2.mono hbc⟩
theorem Ms:CC Try.prog 23 1=true:=by simp[CC,Wd,AV.cells]
def oW{α:Type}(l:List α):Option Nat→List α
 | none=>l
 | some i=>l.take i++l.drop (i+1)
theorem Lf{s:AF}{ty:TypeId}:B8 (newObj s (AO ty 1 [])) (.slice (some (s.next,0)) 0 (some 0)) 0 1 [] []:=by
 refine .inl ⟨_,rfl,rfl,rfl,fun e=>(by cases e),fun i o e=>?_⟩
 injection e with e
 injection e with e1 e2
 subst e1;subst e2
 refine⟨qn _,?_⟩
 obtain⟨r,h1,h2,_⟩:=Br ty 1 []
 exact Dq (s:=newObj s (AO ty 1 [])) (i:=s.next) (by rw[AQ,if_pos rfl,h1]) h2 0 [] (qI _) (fun j u hj=>by simp at hj)
theorem GK{P:Program}{t:TypeId}{k:IntKind}{a b:Int}(ha:0≤a)(hb:0<b):AL P .rem t (.int k a) (.int k b)=some (.int k (a % b)):=by
 have hne:b≠0:=by omega
 have e1:a.tmod b=a % b:=Int.tmod_eq_emod_of_nonneg ha
 have hk:BY k k=true:=by cases k<;>rfl
 show AI (BY k k) ((ES P (Op.intDiv .rem k a b)).bind ofValue)=_
 rw[hk]
 unfold Op.intDiv
 rw[if_neg hne,e1]
 rfl
def i8(n:Int):Prop:=-128≤n∧n≤127
theorem eP(a b:Int):EO true (iv a) [iv b]=some (iv (max a b)):=by
 show AI true (some (AV.int .i64 (bif QA a b then b else a)))=_
 rw[EM]
 by_cases h:a<b
 ·rw[decide_eq_true h];simp only[cond_true,AI];rw[Int.max_eq_right (by omega)]
 ·rw[decide_eq_false h];simp only[cond_false,AI,cond_true];rw[Int.max_eq_left (by omega)]
theorem AX.keep{b:Nat}{s s':AF}{u:AV}{cs:List AV}(h:AX b s u cs)(k:∀j,Cn u=some j→s'.heap.get j=s.heap.get j):AX b s' u cs:=by
 obtain⟨a,cap,rfl,hc⟩:=h
 refine⟨a,cap,rfl,fun x y hy=>?_⟩
 obtain⟨i,o,rfl,h2,h3⟩:=hc x y hy
 exact⟨i,o,rfl,h2,by rw[CO (k i rfl)];exact h3⟩
theorem An.keep{b:Nat}{s s':AF}{us:List AV}{cs:List (List Int)}(h:An b s us cs)(k:∀u∈us,∀j,Cn u=some j→s'.heap.get j=s.heap.get j):An b s' us cs:=
 ⟨h.1,fun j L hj=>let ⟨u,h1,h2⟩:=h.2 j L hj;⟨u,h1,h2.keep (k u (qL h1))⟩⟩
theorem V5{st e:TypeId}{by_:Nat}(ht:Try.prog.underlying st=some (.slice e))(hs:BC Try.prog e=some 1)(hb:CQ Try.prog e=some by_)(hby:by_≤100)(hx:BI Try.prog st=true)(hz:CC Try.prog e 1=true){s:AF}{v:AV}{n:Nat}{us:List AV}{O:List Nat}(hd:B8 s v n 1 us O)(hl:n≤1000000000){x:AV}(hc:x.isCell=true):
  ∃v' s' O',Af Try.prog (newObj s (AO e 1 [x])) [st,st] [v,.slice (some (s.next,0)) 1 (some 1)]=some (v',s')∧B8 s' v' (n+1) 1 (us++[x]) O'∧s.next≤s'.next ∧
   (∀j,j<s.next→j ∉ O→s'.heap.get j=s.heap.get j)∧(∀j∈O',j∈O∨s.next<j):=by
 have c1:=GY (P:=Try.prog) (e:=e) (s:=newObj s (AO e 1 [x])) (n:=1) (cap:=some 1) (sz:=1) e 1 (by rw[AQ,if_pos rfl]) rfl
 have hmul:(n+1) * by_≤(n+1) * 100:=rn _ hby
 obtain⟨v',s',O',h1,h2,h3,h4,h5,h6,h7⟩:=(hd.new (AO e 1 [x])).append (P:=Try.prog) (st:=st) (xt:=st) ht hs hb (by decide) hx hz c1 rfl (by simp[Ak,hc]) (by omega) (by omega)
 have hn:(newObj s (AO e 1 [x])).next=s.next+1:=rfl
 refine⟨v',s',O',h1,h2,by omega,?_,?_⟩
 ·intro j hj ho
  rw[h5 j (by omega) ho,AQ,if_neg (by omega)]
 ·intro j hj
  exact(h6 j hj).imp id (fun h=>by omega)
theorem V6{s:AF}{v:AV}{L:List Int}{O:List Nat}(hd:B8 s v L.length 1 (Ax L) O)(hl:L.length≤1000000000)(x:Int):
  ∃v' s' O',Af Try.prog (newObj s (AO 3 1 [iv x])) [23,23] [v,.slice (some (s.next,0)) 1 (some 1)]=some (v',s')∧B8 s' v' (L++[x]).length 1 (Ax (L++[x])) O'∧s.next≤s'.next ∧
   (∀j,j<s.next→j ∉ O→s'.heap.get j=s.heap.get j)∧(∀j∈O',j∈O∨s.next≤j)∧(∀j,Cn v'=some j→Cn v=some j∨s.next≤j):=by
 have c1:=GY (P:=Try.prog) (e:=3) (s:=newObj s (AO 3 1 [iv x])) (n:=1) (cap:=some 1) (sz:=1) 3 1 (by rw[AQ,if_pos rfl]) rfl
 obtain⟨v',s',O',h1,h2,h3,h4,h5,h6,h7⟩:=(hd.new (AO 3 1 [iv x])).append (P:=Try.prog) (st:=23) (xt:=23) Try.underlying23 Bt W0 (by decide) (Ke 23 3 Try.underlying23) JA c1 rfl rfl (by omega) (by omega)
 have hn:(newObj s (AO 3 1 [iv x])).next=s.next+1:=rfl
 refine⟨v',s',O',h1,?_,by omega,?_,?_,?_⟩
 ·simpa using h2
 ·intro j hj ho
  rw[h5 j (by omega) ho,AQ,if_neg (by omega)]
 ·intro j hj
  exact(h6 j hj).imp id (fun h=>by omega)
 ·intro j hj
  exact(h7 j hj).imp id (fun h=>by omega)
structure JF(lo:Nat)(s:AF)(v:AV)(us:List AV)(cs:List (List Int))(O:List Nat):Prop where
 dest:B8 s v us.length 1 us O
 rows:An s.next s us cs
 slots:∀u∈us,∀j,Cn u=some j→lo≤j∧j<s.next∧j ∉ O
 own:∀j∈O,lo≤j
theorem B8.isSlice{s:AF}{v:AV}{n sz:Nat}{cs:List AV}{O:List Nat}(h:B8 s v n sz cs O):v.isCell=true:=by
 obtain⟨a,cap,rfl,_⟩:=h.cells
 rfl
theorem Od(j o:Nat):AB Try.prog 27 (.ptr (some (j,o))) 0=some (.ptr (some (j,o))):=by
 simp[AB,Try.underlying27,We,AI]
 rfl
theorem Ll(j o:Nat):AB Try.prog 27 (.ptr (some (j,o))) 1=some (.ptr (some (j,o+1))):=by
 simp[AB,Try.underlying27,CL,AI]
 rfl
def KY(s:AF)(j:Nat)(c0 c1:AV):Prop:=∃r,s.heap.get j=some (.row r)∧IJ r [c0,c1]∧r.mode=.own∧r.par=none
theorem KY.keep{s s':AF}{j:Nat}{c0 c1:AV}(h:KY s j c0 c1)(k:s'.heap.get j=s.heap.get j):KY s' j c0 c1:=by
 obtain⟨r,h1,h2⟩:=h
 exact⟨r,by rw[k];exact h1,h2⟩
theorem KY.load0{s:AF}{j:Nat}{c0 c1:AV}(h:KY s j c0 c1):load1 s j 0=some c0:=by
 obtain⟨r,h1,h2,_⟩:=h
 exact B1 h1 (by rw[h2.1];simp) (h2.2 0 c0 rfl)
theorem KY.load1{s:AF}{j:Nat}{c0 c1:AV}(h:KY s j c0 c1):load1 s j 1=some c1:=by
 obtain⟨r,h1,h2,_⟩:=h
 exact B1 h1 (by rw[h2.1];simp) (h2.2 1 c1 rfl)
theorem H9{s:AF}{i o:Nat}{r:EY}{vs:List AV}(hg:s.heap.get i=some (.row r))(hm:r.mode=.own)(hp:r.par=none)(hne:vs≠[])(ho:o+vs.length≤r.n)(hc:Ak vs=true):
  CK s i o vs=some (setObj s i (.row { r with c:=r.c.fill o vs,par:=none })):=by
 cases vs with
 | nil=>exact absurd rfl hne
 | cons v vs =>
  have hb:=BS ho
  simp only[CK,rowAt,hg,Option.bind_some,hm,Ec,hb,hc,Bool.and_self,AI,cond_true,Av,hp]
theorem KY.store{s:AF}{j:Nat}{c0 c1 d0 d1:AV}(h:KY s j c0 c1)(h0:d0.isCell=true)(h1:d1.isCell=true):
  ∃s',AM Try.prog s 27 (.ptr (some (j,0))) (.agg [d0,d1])=some s'∧KY s' j d0 d1∧s'.next=s.next∧∀x,x≠j→s'.heap.get x=s.heap.get x:=by
 obtain⟨r,g1,g2,g3,g4⟩:=h
 refine⟨setObj s j (.row { r with c:=r.c.fill 0 [d0,d1],par:=none }),?_,⟨{ r with c:=r.c.fill 0 [d0,d1],par:=none },by rw[BL,if_pos rfl],⟨g2.1,?_⟩,g3,rfl⟩,rfl,fun x hx=>by rw[BL,if_neg hx]⟩
 ·simp[AM,PE,AV.cells,AI,H9 (vs:=[d0,d1]) (o:=0) g1 g3 g4 (by simp) (by rw[g2.1];exact qI _) (by simp[Ak,h0,h1])]
 ·intro k u hk
  have hlt:k<2:=by
   rcases qN k 2 with h' | h'
   ·exact h'
   ·rw[qZ (by simpa using h')]at hk;cases hk
  show(Aj.fill r.c 0 [d0,d1]).get k=some u
  rw[Aj.get_fill,if_pos ⟨qO _,by simpa using hlt⟩]
  simpa using hk
abbrev Ba:=List (Bool×List Int)
def Bg(b:Nat)(s:AF)(us:List AV)(T:Ba):Prop:=us.length=T.length * 2∧∀ (k:Nat)(d:Bool)(L:List Int),T[k]? = some (d,L)→us[k * 2]? = some (.bool d)∧∃u:AV,us[k * 2+1]? = some u∧AX b s u (Ax L)
theorem Bg.mono{b b':Nat}{s:AF}{us:List AV}{T:Ba}(h:Bg b s us T)(k:b≤b'):Bg b' s us T:=
 ⟨h.1,fun j d L hj=>let ⟨h0,u,h1,h2⟩:=h.2 j d L hj;⟨h0,u,h1,h2.mono k⟩⟩
theorem Bg.keep{b:Nat}{s s':AF}{us:List AV}{T:Ba}(h:Bg b s us T)(k:∀u∈us,∀j,Cn u=some j→s'.heap.get j=s.heap.get j):Bg b s' us T:=
 ⟨h.1,fun j d L hj=>let ⟨h0,u,h1,h2⟩:=h.2 j d L hj;⟨h0,u,h1,h2.keep (k u (qL h1))⟩⟩
theorem Bg.nil(b:Nat)(s:AF):Bg b s [] []:=⟨rfl,fun k d L h=>by simp at h⟩
theorem Bg.snoc{b:Nat}{s:AF}{us:List AV}{T:Ba}(h:Bg b s us T){d:Bool}{u:AV}{L:List Int}(hu:AX b s u (Ax L)):Bg b s (us++[.bool d,u]) (T++[(d,L)]):=by
 refine⟨by simp[h.1];omega,fun k d' L' hk=>?_⟩
 rcases qN k T.length with hlt | hge
 ·rw[qX hlt]at hk
  obtain⟨h0,u',h1,h2⟩:=h.2 k d' L' hk
  have hl:=h.1
  exact⟨by rw[qX (by omega)];exact h0,u',by rw[qX (by omega)];exact h1,h2⟩
 ·rw[qY hge]at hk
  have hk0:k=T.length:=by
   rcases qN (k - T.length) 1 with h' | h'
   ·omega
   ·rw[qZ (by simpa using h')]at hk;cases hk
  subst hk0
  rw[rJ]at hk
  simp at hk
  obtain⟨rfl,rfl⟩:=hk
  have hl:=h.1
  refine⟨?_,u,?_,hu⟩
  ·rw[qY (by omega),hl,rJ];rfl
  ·rw[qY (by omega),hl,show T.length * 2+1 - T.length * 2=1 from by omega];rfl
def u8(n:Int):Prop:=0≤n∧n≤255
theorem HR{s:AF}{n:Int}(h:u8 n):CN Try.prog s 5 3 (.int .u8 n)=some (iv n):=by
 obtain⟨h1,h2⟩:=h
 simp[CN,Try.underlying5,Try.underlying3,EA (n:=n) ⟨by omega,by omega⟩]
theorem cV:CC Try.prog 27 2=true:=by simp[CC,RM,AV.cells]
theorem IT{d:Bool}{u:AV}:Ae Try.prog 33 1 (zipIdx [0] [.agg [.bool d,u]])=some (AO 27 2 [.bool d,u]):=by
 simp[Ae,Try.underlying33,PE,AI,RM,zipIdx,Dp,Jx,AV.cells]
 rfl
theorem cu:Bi Try.prog 27=some (AO 27 0 [.bool false,.slice none 0 (some 0)],.ptr):=by simp[Bi,RM,AV.cells]
theorem AX.isCell{b:Nat}{s:AF}{u:AV}{cs:List AV}(h:AX b s u cs):u.isCell=true∧u.cells=[u]:=by
 obtain⟨a,cap,rfl,_⟩:=h
 exact⟨rfl,rfl⟩
def XJ:List AA:=[
 ⟨none,.p1 some,[(.const (.int .i64 (0)))],(.set 1),[]⟩]
def kl:List AA:=[
 ⟨none,.r1 (fun s x=>CN Try.prog s 133 145 x),[.var 0],.push,[]⟩,
 ⟨none,.call 126,[.loc 0],.push,[]⟩,
 ⟨none,.p1 some,[.loc 0],(.set 1),[]⟩]
def XK:List AA:=[
 ⟨none,.call 127,[.var 0],.push,[]⟩,
 ⟨none,.p1 some,[.loc 0],(.set 1),[]⟩]
def nU:Aw:=⟨1,2,(.seq (.ops XJ) (.seq (.cond (.const (.bool false))
 (.seq (.ops kl) .ret)
 .skip) (.seq (.ops XK) .ret))),[((.var 1),none)]⟩
def X0:List AA:=[
 ⟨none,.p1 some,[(.const (.bool false))],(.set 2),[]⟩]
def X1:List AA:=[
 ⟨none,.call 134,[.var 0],.push,[]⟩,
 ⟨(some ((.loc 0),true)),.p1 some,[.var 1],.push,[]⟩,
 ⟨(some ((.loc 1),true)),.call 134,[.loc 0],.push,[]⟩,
 ⟨(some ((.loc 2),true)),.p1 (GZ Try.prog Go.UnOp.not),[.loc 0],.push,[]⟩,
 ⟨none,.p Rn,[(.loc 3),(.loc 0),(.const (.bool false))],.push,[]⟩,
 ⟨(some ((.loc 0),false)),.p1 some,[.var 0],.push,[]⟩,
 ⟨(some ((.loc 1),false)),.p1 some,[.var 1],.push,[]⟩,
 ⟨(some ((.loc 2),false)),.p2 (AL Try.prog .lss 3),[.loc 1,.loc 0],.push,[]⟩,
 ⟨none,.p Rn,[(.loc 3),(.const (.bool true)),(.loc 0)],.push,[]⟩,
 ⟨none,.p1 some,[.loc 0],(.set 2),[]⟩]
def ng:Aw:=⟨2,3,(.seq (.ops X0) (.seq (.ops X1) .ret)),[((.var 2),none)]⟩
def X2:List AA:=[
 ⟨none,.p1 some,[(.const (.int .i64 (0)))],(.set 1),[]⟩]
def X3:List AA:=[
 ⟨none,.p2 (AL Try.prog .geq 147),[(.var 0),(.const (.int .u64 (4294967296)))],(.set 2),[]⟩]
def ku:List AA:=[
 ⟨none,.p1 some,[.var 0],.push,[]⟩,
 ⟨none,.p2 (AL Try.prog .shr 147),[(.loc 0),(.const (.int .u64 (32)))],.push,[]⟩,
 ⟨none,.p1 some,[.loc 0],(.set 0),[]⟩]
def kv:List AA:=[
 ⟨none,.p1 some,[(.const (.int .i64 (32)))],(.set 1),[]⟩]
def X4:List AA:=[
 ⟨none,.p2 (AL Try.prog .geq 147),[(.var 0),(.const (.int .u64 (65536)))],(.set 3),[]⟩]
def kx:List AA:=[
 ⟨none,.p1 some,[.var 0],.push,[]⟩,
 ⟨none,.p2 (AL Try.prog .shr 147),[(.loc 0),(.const (.int .u64 (16)))],.push,[]⟩,
 ⟨none,.p1 some,[.loc 0],(.set 0),[]⟩]
def ky:List AA:=[
 ⟨none,.p1 some,[.var 1],.push,[]⟩,
 ⟨none,.p2 (AL Try.prog .add 3),[(.loc 0),(.const (.int .i64 (16)))],.push,[]⟩,
 ⟨none,.p1 some,[.loc 0],(.set 1),[]⟩]
def X5:List AA:=[
 ⟨none,.p2 (AL Try.prog .geq 147),[(.var 0),(.const (.int .u64 (256)))],(.set 4),[]⟩]
def kz:List AA:=[
 ⟨none,.p1 some,[.var 0],.push,[]⟩,
 ⟨none,.p2 (AL Try.prog .shr 147),[(.loc 0),(.const (.int .u64 (8)))],.push,[]⟩,
 ⟨none,.p1 some,[.loc 0],(.set 0),[]⟩]
def lA:List AA:=[
 ⟨none,.p1 some,[.var 1],.push,[]⟩,
 ⟨none,.p2 (AL Try.prog .add 3),[(.loc 0),(.const (.int .i64 (8)))],.push,[]⟩,
 ⟨none,.p1 some,[.loc 0],(.set 1),[]⟩]
def UR:List AA:=[
 ⟨none,.p1 some,[.var 1],.push,[]⟩,
 ⟨none,.r1 (fun s x=>CN Try.prog s 147 5 x),[.var 0],.push,[]⟩,
 ⟨none,.p2 (Hx Try.prog 9),[(.const (.str [0,1,2,2,3,3,3,3,4,4,4,4,4,4,4,4,5,5,5,5,5,5,5,5,5,5,5,5,5,5,5,5,6,6,6,6,6,6,6,6,6,6,6,6,6,6,6,6,6,6,6,6,6,6,6,6,6,6,6,6,6,6,6,6,7,7,7,7,7,7,7,7,7,7,7,7,7,7,7,7,7,7,7,7,7,7,7,7,7,7,7,7,7,7,7,7,7,7,7,7,7,7,7,7,7,7,7,7,7,7,7,7,7,7,7,7,7,7,7,7,7,7,7,7,7,7,7,7,8,8,8,8,8,8,8,8,8,8,8,8,8,8,8,8,8,8,8,8,8,8,8,8,8,8,8,8,8,8,8,8,8,8,8,8,8,8,8,8,8,8,8,8,8,8,8,8,8,8,8,8,8,8,8,8,8,8,8,8,8,8,8,8,8,8,8,8,8,8,8,8,8,8,8,8,8,8,8,8,8,8,8,8,8,8,8,8,8,8,8,8,8,8,8,8,8,8,8,8,8,8,8,8,8,8,8,8,8,8,8,8,8,8,8,8,8,8,8,8,8,8,8,8,8,8,8,8])),(.loc 0)],.push,[]⟩,
 ⟨none,.r1 (fun s x=>CN Try.prog s 5 3 x),[.loc 0],.push,[]⟩,
 ⟨none,.p2 (AL Try.prog .add 3),[.loc 3,.loc 0],.push,[]⟩,
 ⟨none,.p1 some,[.loc 0],(.set 1),[]⟩]
def nh:Aw:=⟨1,5,(.seq (.ops X2) (.seq (.seq (.ops X3) (.cond (.var 2)
 (.seq (.ops ku) (.ops kv))
 .skip)) (.seq (.seq (.ops X4) (.cond (.var 3)
 (.seq (.ops kx) (.ops ky))
 .skip)) (.seq (.seq (.ops X5) (.cond (.var 4)
 (.seq (.ops kz) (.ops lA))
 .skip)) (.seq (.ops UR) .ret))))),[((.var 1),none)]⟩
def X6:List AA:=[
 ⟨none,.p1 some,[(.const (.bool false))],(.set 1),[]⟩]
def X7:List AA:=[
 ⟨none,.p2 (AL Try.prog .neq 3),[.var 0,.var 0],.push,[]⟩,
 ⟨none,.p1 some,[.loc 0],(.set 1),[]⟩]
def ni:Aw:=⟨1,2,(.seq (.ops X6) (.seq (.ops X7) .ret)),[((.var 1),none)]⟩
theorem dr:AS Try.prog 109=some nU:=by kernel_rfl
theorem d7:AS Try.prog 123=some ng:=by kernel_rfl
theorem d8:AS Try.prog 127=some nh:=by kernel_rfl
theorem d9:AS Try.prog 134=some ni:=by kernel_rfl
def BP(s:AF)(i:Nat)(cs:List AV):Prop:=∃r,s.heap.get i=some (.row r)∧IJ r cs∧r.mode=.own∧r.par=none∧r.sz=1
theorem BP.keep{s s':AF}{i:Nat}{cs:List AV}(h:BP s i cs)(k:s'.heap.get i=s.heap.get i):BP s' i cs:=by
 obtain⟨r,h1,h2⟩:=h
 exact⟨r,k.trans h1,h2⟩
theorem Ag{α:Type}{l:List α}{k:Nat}{u:α}(h:l[k]? = some u):k<l.length:=by
 rcases qN k l.length with h' | h'
 ·exact h'
 ·rw[qZ h']at h;cases h
theorem BP.load1{s:AF}{i k:Nat}{cs:List AV}{u:AV}(h:BP s i cs)(hk:cs[k]? = some u):load1 s i k=some u:=by
 obtain⟨r,h1,h2,_⟩:=h
 exact B1 h1 (by rw[h2.1];exact Ag hk) (h2.2 k u hk)
theorem BP.load{s:AF}{i k:Nat}{cs:List AV}{u:AV}(h:BP s i cs)(hk:cs[k]? = some u):AD Try.prog s 3 (.ptr (some (i,0+k * 1)))=some u:=by
 rw[qU,qa];exact A4 Dg (h.load1 hk)
theorem BP.fill    {s : AF}  {i o : Nat} {cs vs : List AV} (h : BP    s i cs) (hne : vs ≠ []) (ho : o + vs.length ≤ cs.length) (hc : Ak       vs = true) :
    ∃s',CK s i o vs=some s'∧BP s' i (cs.take o++vs++cs.drop (o+vs.length))∧s'.next=s.next∧∀x,x≠i→s'.heap.get x=s.heap.get x:=by
  obtain⟨r,h1,h2,h3,h4,h5⟩:=h
  refine⟨_,H9 h1 h3 h4 hne (by rw[h2.1];exact ho) hc,⟨{ r with c:=r.c.fill o vs,par:=none },by rw[BL,if_pos rfl],⟨?_,?_⟩,h3,rfl,h5⟩,rfl,fun x hx=>by rw[BL,if_neg hx]⟩
  · show r.n=_
    rw[h2.1];simp;omega
  · intro k u hk
    show(Aj.fill r.c o vs).get k=some u
    rw[Aj.get_fill]
    by_cases hin:o≤k∧k<o+vs.length
    · rw [if_pos hin]
      rw[qz,qY (by simp;omega),qX (by simp;omega)]at hk
      have:(cs.take o).length=o:=by simp;omega
      rw[this]at hk
      exact hk
    · rw [if_neg hin]
      refine h2.2 k u ?_
      rcases qN k o with hlt | hge
      · rw[qz,qX (by simp;omega),rZ,if_pos hlt]at hk
        exact hk
      · rw[qY (by simp;omega),qk]at hk
        have e:o+vs.length+(k - (cs.take o++vs).length)=k:=by simp;omega
        rw[e]at hk
        exact hk
theorem BP.store{s:AF}{i k:Nat}{A B:List AV}{w u:AV}(h:BP s i (A++w::B))(hk:A.length=k)(h1:u.isCell=true)(h2:u.cells=[u]):
  ∃s',AM Try.prog s 3 (.ptr (some (i,0+k * 1))) u=some s'∧BP s' i (A++u::B)∧s'.next=s.next∧∀x,x≠i→s'.heap.get x=s.heap.get x:=by
 subst hk
 obtain⟨s',g1,g2,g3,g4⟩:=h.fill (o:=A.length) (vs:=[u]) (by simp) (by simp) (by simp[Ak,h1])
 refine⟨s',?_,?_,g3,g4⟩
 ·simp[AM,Bt,h2,AI,g1]
 ·have e:(A++w::B).take A.length++[u]++(A++w::B).drop (A.length+[u].length)=A++u::B:=by
   rw[List.take_left',rq]
   ·simp
   ·rfl
  rw[e]at g2
  exact g2
theorem TZ(A B:List Int):Ax (A++B)=Ax A++Ax B:=by simp
theorem EW(A:List Int):(Ax A).length=A.length:=by simp
theorem Ff{A B:List AV}{w:AV}{k:Nat}(hk:A.length=k):(A++w::B)[k]? = some w:=by
 subst hk;simp
theorem mY{E:BN}(hE:Good E){s:AF}(x:Int):WF E 134 [iv x] (fun r s'=>r=.bool false∧s=s') s:=by
 refine hE.go d9 (by decide) rfl ?_
 simp only[ni,X6,X7,ne_eq,not_true,decide_false,Qa,Qb,Qc,Qd,Qf,Qh,Qi,Qj,Qk,Ql,Qm,Qn,true_and,and_true,Qo,Qp,Qq,Qr,Qs,Qw,Rc,Re,Rf,Rg,Rh,Yc,Rw]
theorem eM{E:BN}(hE:Good E){s:AF}(x y:Int):WF E 123 [iv x,iv y] (fun r s'=>r=.bool (decide (x<y))∧s=s') s:=by
 refine hE.go d7 (by decide) rfl ?_
 simp only[ng,X0,X1,Qa,Qb,Qc,Qd,Qf,Qg,Qh,Qi,Qj,Qk,Ql,Qm,Qn,true_and,Qo,Qp,Qq,Qs,Qw,Rc,Re,Rf,Rg,Rh,Yc,Rn,Ro]
 refine(mY hE x).mono ?_
 rintro _ _ ⟨rfl,rfl⟩
 simp only[Qc,Qd,Qm,Qn,true_and,and_true,Qo,Qp,Qq,Qr,Qs,Qt,Rl,Rm,Yb,Rq]
theorem eC(t:TypeId)(a b:Int):AL Try.prog .geq t (.int .u64 a) (.int .u64 b)=some (.bool (decide (b≤a))):=by
 show some (AV.bool (!QA a b))=_
 rw[EM,← decide_not]
 congr 3
 exact propext Int.not_lt
theorem kF{n:Int}(h:u8 n):CD .u8 n=true:=by
 obtain⟨h1,h2⟩:=h
 cases n with
 | ofNat m =>
  have h3:(m:Int)≤255:=h2
  simp[CD];omega
 | negSucc m=>omega
theorem mT{n:Int}(h:u8 n):CD .u64 n=true:=by
 obtain⟨h1,h2⟩:=h
 cases n with
 | ofNat m =>
  have h3:(m:Int)≤255:=h2
  simp[CD];omega
 | negSucc m=>omega
theorem mh{l:List Nat}{n m:Nat}(h:l[n]? = some m):Hx Try.prog 9 (.str l) (.int .u8 (n:Int))=some (.int .u8 (m:Int)):=by
 simp[Hx,Eb,Cc,Try.underlying9,h]
def kO:List Nat:=[0,1,2,2,3,3,3,3,4,4,4,4,4,4,4,4,5,5,5,5,5,5,5,5,5,5,5,5,5,5,5,5,6,6,6,6,6,6,6,6,6,6,6,6,6,6,6,6,6,6,6,6,6,6,6,6,6,6,6,6,6,6,6,6,7,7,7,7,7,7,7,7,7,7,7,7,7,7,7,7,7,7,7,7,7,7,7,7,7,7,7,7,7,7,7,7,7,7,7,7,7,7,7,7,7,7,7,7,7,7,7,7,7,7,7,7,7,7,7,7,7,7,7,7,7,7,7,7,8,8,8,8,8,8,8,8,8,8,8,8,8,8,8,8,8,8,8,8,8,8,8,8,8,8,8,8,8,8,8,8,8,8,8,8,8,8,8,8,8,8,8,8,8,8,8,8,8,8,8,8,8,8,8,8,8,8,8,8,8,8,8,8,8,8,8,8,8,8,8,8,8,8,8,8,8,8,8,8,8,8,8,8,8,8,8,8,8,8,8,8,8,8,8,8,8,8,8,8,8,8,8,8,8,8,8,8,8,8,8,8,8,8,8,8,8,8,8,8,8,8,8,8,8,8,8,8]
set_option maxRecDepth 20000 in
theorem bG{E:BN}(hE:Good E){s:AF}(n:Nat)(hn:n≤12):WF E 127 [.int .u64 (n:Int)] (fun r s'=>(∃m:Int,r=iv m)∧s=s') s:=by
 refine hE.go d8 (by decide) rfl ?_
 have g1:decide ((4294967296:Int)≤(n:Int))=false:=decide_eq_false (by omega)
 have g2:decide ((65536:Int)≤(n:Int))=false:=decide_eq_false (by omega)
 have g3:decide ((256:Int)≤(n:Int))=false:=decide_eq_false (by omega)
 have g4:CN Try.prog s 147 5 (.int .u64 (n:Int))=some (.int .u8 (n:Int)):=by
  simp[CN,Try.underlying147,Try.underlying5,I9 (kF (n:=n) ⟨by omega,by omega⟩)]
 have g5:∃m:Nat,m≤4∧Hx Try.prog 9 (.str kO) (.int .u8 (n:Int))=some (.int .u8 (m:Int)):=by
  have:n=0∨n=1∨n=2∨n=3∨n=4∨n=5∨n=6∨n=7∨n=8∨n=9∨n=10∨n=11∨n=12:=by omega
  rcases this with rfl | rfl | rfl | rfl | rfl | rfl | rfl | rfl | rfl | rfl | rfl | rfl | rfl<;>exact⟨_,by decide,mh rfl⟩
 obtain⟨m,hm,g5⟩:=g5
 have g6:CN Try.prog s 5 3 (.int .u8 (m:Int))=some (iv (m:Int)):=HR ⟨by omega,by omega⟩
 have g7:=Ai Try.prog 3 0 (m:Int) ⟨by omega,by omega⟩
 unfold kO at g5
 simp only[nh,X2,X3,X4,X5,UR,eC,g1,g2,g3,g4,g5,g6,g7,Qa,Qb,Qc,Qd,Qf,Qh,Qi,Qj,Qk,Ql,Qm,Qn,true_and,and_true,Qo,Qp,Qq,Qr,Qs,Qv,Qw,Rc,Re,Rf,Rg,Rh,Yc]
 exact⟨_,rfl⟩
theorem mV{E:BN}(hE:Good E){s:AF}(n:Nat)(hn:n≤12):WF E 109 [.int .u64 (n:Int)] (fun r s'=>(∃m:Int,r=iv m)∧s=s') s:=by
 refine hE.go dr (by decide) rfl ?_
 simp only[nU,XJ,XK,Qa,Qb,Qc,Qd,Qf,Qh,Qi,Qj,Qk,Ql,Qm,Qn,true_and,Qo,Qp,Qq,Qs,Qv,Qw,Qx,Rc,Re,Rf,Rg,Rh,Yc]
 refine(bG hE n hn).mono ?_
 rintro _ _ ⟨⟨m,rfl⟩,rfl⟩
 simp only[Qd,Qn,true_and,and_true,Qo,Qp,Qq,Qr]
 exact⟨_,rfl⟩
def FJ(x:Int):List Int→List Int
 | []=>[x]
 | y::q=>if x<y then y::FJ x q else x::y::q
def Ge(L:List Int):List Int:=(L.foldl (fun q x=>FJ x q) []).reverse
theorem IZ(x:Int):∀q,(FJ x q).length=q.length+1
 | []=>rfl
 | y::q=>by
  unfold FJ
  split
  ·simp[IZ x q]
  ·simp
set_option maxRecDepth 8000 in
theorem ey      {E : BN}  (hE : Good E) {lo i n m : Nat} (hlo : lo ≤ i) (hn : n ≤ 1000) (x : Int) {Q : A0   → Prop} :
    ∀ (p T : List Int) (s : AF)  (x5 x6 : AV), p.length < n → n ≤ p.length + 1 + T.length → BP    s i (Ax  (p.reverse ++ x :: T)) →
      (∀s' y4 y6,BP s' i (Ax ((FJ x p).reverse++T))→s'.next=s.next→(∀z,z≠i→s'.heap.get z=s.heap.get z)→Q ⟨.exit 2,[.slice (some (i,0)) n none,iv 0,iv (n:Int),iv (m:Int),y4,x5,y6],[],s'⟩) →
      WC E none (.loop K8) Q [.slice (some (i,0)) n none,iv 0,iv (n:Int),iv (m:Int),iv (p.length:Int),x5,x6] [] s:=by
  intro p
  induction p with
  | nil =>
    intro T s x5 x6 h1 h2 hr hq
    refine WC.loop' ?_
    simp only[K8,SB,rC,show((0:Nat):Int)=0 from rfl,qd,decide_false,Qa,Qb,Qc,Qd,Qf,Qg,Qh,Qi,Qj,Qk,Qm,Qn,true_and,Qo,Qp,Qq,Qr,Qs,Qt,Qv,Qw,Qy,Qz,Rl,Rn,Ro,Rs]
    exact hq s _ _ hr rfl fun _ _=>rfl
  | cons y q ih =>
    intro T s x5 x6 h1 h2 hr hq
    have hj:(y::q).length=q.length+1:=rfl
    rw[hj]at h1 h2 ⊢
    have hcells:Ax ((y::q).reverse++x::T)=Ax q.reverse++iv y::(iv x::Ax T):=by simp
    have hcells2:Ax ((y::q).reverse++x::T)=(Ax q.reverse++[iv y])++iv x::Ax T:=by simp
    have hql:(Ax q.reverse).length=q.length:=by simp
    have hql2:(Ax q.reverse++[iv y]).length=q.length+1:=by simp
    have hgt:decide ((0:Int)<((q.length+1:Nat):Int))=true:=decide_eq_true (by omega)
    have a1:AC Try.prog 23 (.slice (some (i,0)) n none) (iv ((q.length+1:Nat):Int))=some (.ptr (some (i,0+(q.length+1) * 1))):=Al Try.underlying23 Bt (by omega)
    have a0:AC Try.prog 23 (.slice (some (i,0)) n none) (iv ((q.length:Nat):Int))=some (.ptr (some (i,0+q.length * 1))):=Al Try.underlying23 Bt (by omega)
    have l1:AD Try.prog s 3 (.ptr (some (i,0+(q.length+1) * 1)))=some (iv x):=hr.load (by rw[hcells2];exact Ff hql2)
    have l0:AD Try.prog s 3 (.ptr (some (i,0+q.length * 1)))=some (iv y):=hr.load (by rw[hcells];exact Ff hql)
    have hs:=DZ Try.prog 3 ((q.length+1:Nat):Int) 1 ⟨by omega,by omega⟩
    have hs1:(((q.length+1:Nat):Int) - 1)=((q.length:Nat):Int):=by omega
    rw[hs1]at hs
    refine WC.loop' ?_
    generalize hW:WC E none (Ac.loop K8) Q=W
    simp only[K8,SB,hgt,a1,l1,hs,a0,l0,Qa,Qb,Qc,Qd,Qf,Qg,Qh,Qi,Qj,Qk,Qm,Qn,true_and,Qq,Qr,Qs,Qw,Qy,Qz,Rl,Rn,Ro,Rs]
    refine(eM hE x y).mono ?_
    rintro _ _ ⟨rfl,rfl⟩
    by_cases h:x<y
    · rw[hcells2]at hr
      obtain⟨s1,g1,g2,g3,g4⟩:=hr.store (k:=q.length+1) (u:=iv y) hql2 rfl rfl
      have e1:(Ax q.reverse++[iv y])++iv y::Ax T=Ax q.reverse++iv y::(iv y::Ax T):=by simp
      rw[e1]at g2
      obtain⟨s2,k1,k2,k3,k4⟩:=g2.store (k:=q.length) (u:=iv x) hql rfl rfl
      simp only[h,decide_true,Xl,Xm,a1,l1,hs,a0,l0,BV,g1,k1,AU,Qb,Qc,Qd,Qf,Qh,Qi,Qj,Qk,Qm,Qn,true_and,Qo,Qp,Qq,Qr,Qs,Qu]
      rw[← hW]
      have e2:FJ x (y::q)=y::FJ x q:=by simp[FJ,h]
      refine ih (y::T) s2 x5 _ (by omega) (by simp;omega) ?_ ?_
      · have e3:Ax (q.reverse++x::(y::T))=Ax q.reverse++iv x::(iv y::Ax T):=by simp
        rw[e3];exact k2
      · intro s' y4 y6 f1 f2 f3
        refine hq s' y4 y6 ?_ (by omega) fun z hz=>(f3 z hz).trans ((k4 z hz).trans (g4 z hz))
        rw[e2]
        have e4:(y::FJ x q).reverse++T=(FJ x q).reverse++(y::T):=by simp
        rw[e4];exact f1
    · have e2:FJ x (y::q)=x::y::q:=by simp[FJ,h]
      simp only[h,decide_false,Qd,Qm,Qn,true_and,Qo,Qp,Qq,Qr,Qv]
      refine hq s _ _ ?_ rfl fun _ _=>rfl
      rw[e2]
      have e4:(x::y::q).reverse++T=(y::q).reverse++x::T:=by simp
      rw[e4];exact hr
def De(lo:Nat)(s:AF)(v:AV)(L:List Int):Prop:=(∃a,v=.slice a 0 (some 0)∧L=[])∨∃i,v=.slice (some (i,0)) L.length none∧lo≤i∧i<s.next∧BP s i (Ax L)
theorem De.len{lo:Nat}{s:AF}{v:AV}{L:List Int}(h:De lo s v L):Aq Try.prog s 23 v=some (iv (L.length:Int)):=by
 rcases h with⟨a,rfl,rfl⟩ | ⟨i,rfl,_⟩
 ·exact AW Try.underlying23
 ·exact AW Try.underlying23
set_option maxRecDepth 8000 in
theorem cH{E:BN}(hE:Good E){lo i n:Nat}(hlo:lo≤i)(hn:n≤1000){Q:A0→Prop}:
    ∀ (R q : List Int) (s : AF)  (m : Nat) (x4 x5 x6 : AV), q.length = m → n = q.length + R.length → BP    s i (Ax  (q.reverse ++ R)) →
      (∀s' y3 y4 y5 y6,BP s' i (Ax (R.foldl (fun q x=>FJ x q) q).reverse)→s'.next=s.next→(∀z,z≠i→s'.heap.get z=s.heap.get z)→Q ⟨.exit 0,[.slice (some (i,0)) n none,iv 0,iv (n:Int),y3,y4,y5,y6],[],s'⟩) →
      WC E none (.loop Hv) Q [.slice (some (i,0)) n none,iv 0,iv (n:Int),iv (m:Int),x4,x5,x6] [] s:=by
  intro R
  induction R with
  | nil =>
    intro q s m x4 x5 x6 hm hq hr hk
    subst hm
    have hlt:decide (((q.length:Nat):Int)<(n:Int))=false:=decide_eq_false (by simp at hq;omega)
    refine WC.loop' ?_
    simp only[Hv,K9,hlt,Qa,Qb,Qc,Qd,Qf,Qh,Qj,Qm,Qn,true_and,Qo,Qp,Qq,Qr,Qs,Qv,Qw,Qy,Rq]
    exact hk s _ _ _ _ (by simpa using hr) rfl fun _ _=>rfl
  | cons x T ih =>
    intro q s m x4 x5 x6 hm hq hr hk
    subst hm
    have hR:(x::T).length=T.length+1:=rfl
    rw[hR]at hq
    have hlt:decide (((q.length:Nat):Int)<(n:Int))=true:=decide_eq_true (by omega)
    have e3:=Ai Try.prog 3 ((q.length:Nat):Int) 1 ⟨by omega,by omega⟩
    have hcast:(((q.length:Nat):Int)+1)=((q.length+1:Nat):Int):=by omega
    refine WC.loop' ?_
    generalize hW:WC E none (Ac.loop Hv) Q=W
    simp only[Hv,K9,Xk,hlt,Qa,Qb,Qc,Qd,Qf,Qh,Qj,Qm,Qn,true_and,Qo,Qp,Qq,Qr,Qs,Qu,Qw,Qy,Rq]
    refine ey hE hlo hn x q T s _ _ (by omega) (by omega) hr ?_
    intro s' y4 y6 g1 g2 g3
    simp only[Xn,e3,hcast,if_true,Qb,Qc,Qd,Qf,Qh,Qi,Qj,Qk,Qm,Qn,true_and,Qo,Qp,Qq,Qr,Qs,Qw,Qy,Qz,Rb]
    rw[← hW]
    refine ih (FJ x q) s' (q.length+1) _ _ _ (IZ x q) (by rw[IZ];omega) g1 ?_
    intro s2 y3 y4' y5 y6' h1 h2 h3
    exact hk s2 y3 y4' y5 y6' h1 (by omega) fun z hz=>(h3 z hz).trans (g3 z hz)
theorem aR{s:AF}{n:Nat}(h:n≤12):CN Try.prog s 3 133 (iv (n:Int))=some (.int .u64 (n:Int)):=by
 simp[CN,Try.underlying3,Try.underlying133,I9 (mT (n:=n) ⟨by omega,by omega⟩)]
end
end Go.Proofs.Ytilhhmkdcoajnaa.Am
