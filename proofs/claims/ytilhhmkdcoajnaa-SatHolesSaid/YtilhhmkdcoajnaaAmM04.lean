/- A region that draws its order: each of its operations, and all of them; conditions: none. -/
import Derived.Test.YtilhhmkdcoajnaaAmM03
import Derived.LoopNIn
import Derived.ChangeSame
import Derived.Test.YtilhhmkdcoajnaaAmM02
import Derived.KernelRfl
import Derived.ChangeArms
import Derived.DataReads
import Derived.DataElems
import Derived.Test.YtilhhmkdcoajnaaAmM01
import Derived.WideKeyArgs
set_option linter.unusedVariables false
set_option linter.unusedSimpArgs false
namespace Go.Proofs.Ytilhhmkdcoajnaa.Am
open Go
noncomputable section
section
variable{P:Program}{F:Dy}{ops:Array Oper}{nt:Nat}{b:Array Nat}{π:List Nat}{D:L0}{ρ0 ρ ρ1:Bp}{w0 w w1:World}{a0 a:Act}{listed:Array Bool}{k:Nat}{rnd:Option Nat}{Q:Exit→Act→World→Prop}
theorem DJ.ahead(hp:Ig P ops (Region.before ops) π)(J:DJ P ops (Region.before ops) π D ρ0 w0 a0 listed k ρ a w){p i:Nat}(hi:π[p]? = some i){o:Oper}(ho:ops[i]? = some o)
  (hr:∀e∈o.after,Region.binds .any e=true→listed.getD e.on false=true):∀j:Nat,j<ops.size→((Region.before ops).getD i 0).testBit j=true→listed[j]? = some true:=by
 intro j hj ht
 have lst:∀x:Nat,listed.getD x false=true→listed[x]? = some true:=by
  intro x hx
  rw[Array.getD_eq_getD_getElem?]at hx
  cases h:listed[x]? with
  | none=>rw[h]at hx;cases hx
  | some v=>rw[h]at hx;simp at hx;rw[hx]
 obtain⟨o',ho',e,he,hb,h'⟩:=N2 ops i j ht
 rw[ho]at ho'
 injection ho' with ho'
 subst ho'
 have hl:=lst _ (hr e he hb)
 rcases h' with rfl | h'
 ·exact hl
 ·obtain⟨q,_,hq⟩:=hp.edge p i o hi ho e he hb
  exact J.anc q e.on hq ⟨e.on,hq,hl⟩ j hj h'
def Ou(P:Program)(ops:Array Oper)(o:Oper)(t:Tmp):Prop:=t∈F7 P o∨∃ (j:Nat)(want:Bool)(u:Oper),o.guard=some (j,want)∧ops[j]? = some u∧u.dst=some t
open Classical in
def Jm (P:Program) (ops:Array Oper) (o:Oper) (R:B5):B5:=fun t=>if Ou P ops o t then R t else none
theorem PZ{o:Oper}{R:B5}{t:Tmp}(h:Ou P ops o t):Jm P ops o R t=R t:=by unfold Jm;rw[if_pos h]
theorem SN{o:Oper}{R:B5}:Ic ops (Jm P ops o R) o=Ic ops R o:=by
 unfold Ic
 cases hg:o.guard with
 | none=>rfl
 | some g =>
  obtain⟨j,want⟩:=g
  simp only
  cases hj:ops[j]? with
  | none=>rfl
  | some u =>
   cases hd:u.dst with
   | none=>simp[hd]
   | some d=>simp only[Option.bind_some,hd];rw[PZ (.inr ⟨j,want,u,hg,hj,hd⟩)]
theorem DJ.view (ht : PT P F ops nt (Region.before ops) π D) (hpl : E9     P ops (Region.before ops) [] π = true) (hr0 : Eu   ρ0 (D.R 0) a0.tmps) (hnt : nt ≤ a0.tmps.size)
    (J:DJ P ops (Region.before ops) π D ρ0 w0 a0 listed k ρ a w) {p i:Nat} (hi:π[p]? = some i) (hnd:¬ Dn π listed p)
    (hanc:∀j:Nat,j<ops.size→((Region.before ops).getD i 0).testBit j=true→listed[j]? = some true):Eu ρ (Jm P ops (D.o p) (D.R p)) a.tmps:=by
  have hp:=JC hpl
  have hlt:=hp.lt p i hi
  have hpn:p<π.length:=by
    rcases ks p π.length with h' | h'
    · exact h'
    · rw[lQ h']at hi;cases hi
  have hoi:=ht.op p i hi
  have place:∀ (q:Nat) (h:q<π.length),π[q]? = some π[q]:=fun q hq=>ky hq
  have uniq:∀q r d,q<π.length→r<π.length→(D.o q).dst=some d→(D.o r).dst=some d→q=r:=by
    have one:∀q r d,q<r→r<π.length→(D.o q).dst=some d→(D.o r).dst=some d→False:=by
      intro q r d hqr hr h1 h2
      exact(hp.wdst r q _ _ _ _ d (place r hr) (place q (by omega)) hqr (ht.op r _ (place r hr)) (ht.op q _ (place q (by omega))) h2).1 h1
    intro q r d hq hr h1 h2
    rcases mM q r with h' | h' | h'
    · exact(one q r d h' hr h1 h2).elim
    · exact h'
    · exact(one r q d h' hq h2 h1).elim
  intro t x hx
  unfold Jm at hx
  split at hx
  · rename_i hn
    have gd:∀ (j:Nat) (want:Bool) (u:Oper),(D.o p).guard=some (j,want)→ops[j]? = some u→u.dst=some t→∃q,q<p∧Dn π listed q∧(D.o q).dst=some t:=by
      intro j want u h1 h2 h3
      have hj:j<ops.size:=by
        rcases ks j ops.size with h' | h'
        · exact h'
        · rw[Array.getElem?_eq_none h']at h2;cases h2
      have hb:=hp.guard p i (D.o p) j want hi hoi h1
      obtain⟨q,hqp,hq⟩:=R8 hpl p i j hi hj hb
      refine⟨q,hqp,⟨j,hq,hanc j hj hb⟩,?_⟩
      have:=ht.op q j hq
      rw[h2]at this
      injection this with this
      rw[← this];exact h3
    have fin:∀ {y:AV},AZ ρ y (a.tmps.getD t undef)→t<a0.tmps.size→t<a.tmps.size∧AZ ρ y (a.tmps.getD t undef):=fun h1 h2=>⟨by rw[J.sz];exact h2,h1⟩
    rcases ht.regs_at p (Nat.le_of_lt hpn) t x hx with⟨q,hq,hd,rfl⟩ | ⟨hno,h0⟩
    · have hqn : q < π.length := by omega
      have dq:Dn π listed q:=by
        rcases hn with hn | ⟨j,want,u,h1,h2,h3⟩
        · have hb:=hp.rdst p q i _ _ _ t hi (place q hqn) hq hoi (ht.op q _ (place q hqn)) hd hn
          exact⟨π[q],place q hqn,hanc _ (hp.lt q _ (place q hqn)) hb⟩
        · obtain⟨r,hr1,hr2,hr3⟩:=gd j want u h1 h2 h3
          have:=uniq q r t hqn (by omega) hd hr3
          subst this;exact hr2
      exact fin (J.rw q dq t hd) (lR ((ht.step q hqn).lt t hd) hnt)
    · refine fin (J.ri t ?_ x h0) (hr0 t x h0).1
      intro q dq hd
      have hqn:q<π.length:=lR (J.dlt q dq) J.kle
      have hpq:p<q:=by
        rcases mM q p with h' | h' | h'
        · exact absurd hd (hno q h')
        · subst h';exact absurd dq hnd
        · exact h'
      rcases hn with hn | ⟨j,want,u,h1,h2,h3⟩
      · have hb:=(hp.wdst q p _ i _ _ t (place q hqn) hi hpq (ht.op q _ (place q hqn)) hoi hd).2 hn
        exact hnd ⟨i,hi,J.anc q _ (place q hqn) dq i hlt hb⟩
      · obtain⟨r,hr1,hr2,hr3⟩:=gd j want u h1 h2 h3
        exact absurd hr3 (hno r hr1)
  · cases hx
theorem NJ{o:Oper}{sh:Sh}{xs:List Operand}(h:BK P o.op=some (sh,xs)):OU P o=sh.isEff:=by unfold OU;rw[h]
theorem DJ.run (hF : Y5  P F) (ht : PT P F ops nt (Region.before ops) π D) (hpl : E9     P ops (Region.before ops) [] π = true) (hr0 : Eu   ρ0 (D.R 0) a0.tmps) (hnt : nt ≤ a0.tmps.size)
    (J:DJ P ops (Region.before ops) π D ρ0 w0 a0 listed k ρ a w) (htop:k=π.length∨(D.sh k).isEff=true) {p i:Nat} (hi:π[p]? = some i) (hnd:¬ Dn π listed p)
    (hanc:∀j:Nat,j<ops.size→((Region.before ops).getD i 0).testBit j=true→listed[j]? = some true) {K:Act→World→Prop}
    (hK:∀k' ρ' a' w',DJ P ops (Region.before ops) π D ρ0 w0 a0 (listed.setIfInBounds i true) k' ρ' a' w'→K a' w'):wpOpIn (OW rnd) 0 P ops Q i K a w:=by
  have hp:=JC hpl
  have hpn:p<π.length:=by
    rcases ks p π.length with h' | h'
    · exact h'
    · rw[lQ h']at hi;cases hi
  have place:∀ (q:Nat) (h:q<π.length),π[q]? = some π[q]:=fun q hq=>ky hq
  have hoi:=ht.op p i hi
  have hs:=ht.step p hpn
  obtain⟨xs,hsh,has⟩:=hs.shape
  have hv:=J.view ht hpl hr0 hnt hi hnd hanc
  have hkp:p≤k:=by
    rcases ks k p with h' | h'
    · have hkn : k < π.length := by omega
      have he:(D.sh k).isEff=true:=htop.resolve_left (by omega)
      obtain⟨xk,hk1,_⟩:=(ht.step k hkn).shape
      have hb:=hp.eff p k i _ _ hi (place k hkn) h' (ht.op k _ (place k hkn)) (by rw[NJ hk1];exact he)
      have:=J.dlt k ⟨π[k],place k hkn,hanc _ (hp.lt k _ (place k hkn)) hb⟩
      omega
    · exact h'
  have hno:p<k→(D.sh p).isEff=false:=fun h'=>by
    cases he:(D.sh p).isEff with
    | false=>rfl
    | true=>exact absurd (J.eff p h' he) hnd
  have hnt':nt≤a.tmps.size:=by rw[J.sz];exact hnt
  have has':EA (Jm P ops (D.o p) (D.R p)) xs=some (D.aS p):=by
    rw[IS fun t htx=>PZ (.inl (Tx hsh htx))];exact has
  have sok:∀ {s s1:AG},(D.want p=true→Y2 F (D.sh p) (D.aS p) s=some (D.v p,s1))→(D.want p=false→s1=s) →
      KJ P F ops nt (Jm P ops (D.o p) (D.R p)) s (D.o p) (D.sh p) (D.want p) (D.aS p) (D.v p) ((Jm P ops (D.o p) (D.R p)).put (D.o p).dst (D.v p)) s1:=fun h1 h2 =>
    ⟨⟨xs,hsh,has'⟩,by rw[SN];exact hs.wants,rfl,hs.lt,h1,fun hw=>⟨(hs.no hw).1,h2 hw⟩⟩
  rcases ks p k with hlt | hge
  ·
    have hne:=hno hlt
    have same:∀ {v':Value} {w':World} {ρ':Bp},AZ ρ' (D.v p) v'→Bf P ρ' (D.st k) w'→Fr ρ (D.st k) w ρ' (D.st k) w'→K (a.put (D.o p).dst v') w':=by
      intro v' w' ρ' h1 h2 h3
      refine hK k ρ' _ w' (J.put ht hp hnt hi hnd hlt (kp k) (fun q hq=>.inr hq) J.kle hanc h1 h3.le h2 (J.fresh.step h3) (J.fr.trans h3) ?_ ?_)
      · intro q hq _ hd hw f hf
        obtain⟨ob,m,g1,g2,g3,g4,g5,g6⟩:=J.unb q hq hd hw f hf
        exact⟨h3.fresh _ g3 (.inl g6),rfl,g6⟩
      · intro q hq _ hd hw hr
        exact J.rds q hq hd hw hr
    have quiet:(D.want p=true→Y2 F (D.sh p) (D.aS p) (D.st k)=some (D.v p,D.st k))→wpOpIn (OW rnd) 0 P ops Q i K a w:=fun hy =>
      LX J.inv (J.fresh _ (kp _)).1 hoi (sok hy fun _=>rfl) hne hv hnt' fun v' w' ρ' h1 h2 h3=>same h1 h2 h3
    cases hw:D.want p with
    | false=>exact quiet (fun e=>by rw[hw]at e;cases e)
    | true =>
      have hy:=hs.yes hw
      cases he:D.sh p with
      | p1 f =>
        refine quiet fun _=>?_
        rw[he]at hy ⊢
        simp only[Y2,JH]at hy ⊢
        split at hy<;>first | (cases hy;done) | (rw[(CC hy).1];rfl)
      | p2 f =>
        refine quiet fun _=>?_
        rw[he]at hy ⊢
        simp only[Y2,JH]at hy ⊢
        split at hy<;>first | (cases hy;done) | (rw[(CC hy).1];rfl)
      | p f =>
        refine quiet fun _=>?_
        rw[he]at hy ⊢
        simp only[Y2,JH]at hy ⊢
        rw[(CC hy).1];rfl
      | r1 f =>
        refine quiet fun _=>?_
        have:=Jg (J.rds p hlt hnd hw (by rw[he];rfl))
        rw[he]at this ⊢
        exact this
      | r f =>
        refine quiet fun _=>?_
        have:=Jg (J.rds p hlt hnd hw (by rw[he];rfl))
        rw[he]at this ⊢
        exact this
      | mk f =>
        obtain⟨ob,m,g1,g2,g3,g4,g5,g6⟩:=J.unb p hlt hnd hw f he
        let s':AG:={ next:=(D.st p).next,heap:=(D.st k).heap }
        have hinv:Bf P ρ s' w:=J.inv.same fun _ _ _=>rfl
        have hsame:∀x,(newObj s' ob).heap.get x=(D.st k).heap.get x:=by
          intro x
          rw[CB]
          by_cases e:x=s'.next
          · rw[if_pos e,e];exact g4.symm
          · rw[if_neg e]
        refine LX hinv g3 hoi (sok (s1:=newObj s' ob) (fun _=>?_) (fun e=>by rw[hw]at e;cases e)) hne hv hnt' ?_
        · rw[he]
          simp only[Y2,JH,g1,Oq,g2]
          rfl
        · intro v' w' ρ' h1 h2 h3
          have h2':Bf P ρ' (D.st k) w':=h2.same fun x _ _=>(hsame x).symm
          have hid:(D.st p).next+1≤(D.st k).next:=g6
          refine hK k ρ' _ w' (J.put ht hp hnt hi hnd hlt (kp k) (fun q hq=>.inr hq) J.kle hanc h1 h3.le h2' ?_ ?_ ?_ ?_)
          · intro x hx
            have:=J.fresh x hx
            exact⟨h3.fresh x this.1 (.inr (show(D.st p).next+1≤x by omega)),this.2⟩
          · refine ⟨Bp.le_trans  J.fr.le h3.le, ?_, J.fr.next, lF           J.fr.size h3.size, h3.os.trans J.fr.os, h3.tape.trans J.fr.tape, h3.output.trans J.fr.output, ?_, ?_, J.fr.unborn⟩
            · intro x hx h'
              refine h3.fresh x (J.fr.fresh x hx h') ?_
              rcases h' with h' | h'
              · exact .inl (show x<(D.st p).next by omega)
              · exact .inr (show(D.st p).next+1≤x by omega)
            · intro bb hb ho
              have hb':bb<w.heap.size:=lR hb J.fr.size
              refine(h3.keep bb hb' ?_).trans (J.fr.keep bb hb ho)
              intro ho'
              have ho'':GS ρ (D.st k) bb:=ho'
              exact(J.fr.own bb ho'').elim ho (fun hge=>by omega)
            · intro bb hb
              have hb':GS ρ' (newObj s' ob) bb:=hb.same fun x _ _=>(hsame x).symm
              rcases h3.own bb hb' with h' | h'
              · exact J.fr.own bb h'
              · exact .inr (lF J.fr.size h')
          · intro q hq hqp hd hwq fq hfq
            obtain⟨_,_,_,_,u3,_,_,u6⟩:=J.unb q hq hd hwq fq hfq
            have hne':(D.st q).next≠(D.st p).next:=by
              rcases mM q p with h' | h' | h'
              · exact J.dis q p h' hlt hd hnd hwq hw (by rw[hfq];rfl) (by rw[he];rfl)
              · exact absurd h' hqp
              · exact(J.dis p q h' hq hnd hd hw hwq (by rw[he];rfl) (by rw[hfq];rfl)).symm
            refine⟨h3.fresh _ u3 ?_,rfl,u6⟩
            rcases Nat.lt_or_gt_of_ne hne' with h' | h'
            · exact .inl h'
            · exact .inr h'
          · intro q hq _ hd hwq hr
            exact J.rds q hq hd hwq hr
      | e f=>rw[he]at hne;cases hne
      | call f=>rw[he]at hne;cases hne
      | callv=>rw[he]at hne;cases hne
  ·
    have hpk:p=k:=by omega
    subst hpk
    have hkn:p<π.length:=hpn
    have he:(D.sh p).isEff=true:=htop.resolve_left (by omega)
    refine TE hF J.inv J.fresh hoi (sok (s1:=D.st (p+1)) hs.yes (fun e=>(hs.no e).2)) hv hnt' ?_
    intro v' w' ρ' h1 h2 h3
    refine hK (p+1) ρ' _ w' (J.put ht hp hnt hi hnd (lW p) (mG p) (fun q hq=>by omega) hkn hanc h1 h3.le h2 (J.fresh.step h3) (J.fr.trans h3) ?_ ?_)
    · intro q hq _ hd hw f hf
      obtain⟨ob,m,g1,g2,g3,g4,g5,g6⟩:=J.unb q hq hd hw f hf
      exact⟨h3.fresh _ g3 (.inl g6),h3.unborn _ g3 (.inl g6),lR g6 h3.next⟩
    · intro q hq _ hd hw hr
      have hqn:q<π.length:=by omega
      cases hwp:D.want p with
      | false=>rw[(hs.no hwp).2];exact J.rds q hq hd hw hr
      | true =>
        refine ht.ag p q i _ hi (place q hqn) hq he hwp hr ?_ hw
        cases hb:((Region.before ops).getD i 0).testBit π[q]with
        | false=>rfl
        | true=>exact absurd ⟨π[q],place q hqn,hanc _ (hp.lt q _ (place q hqn)) hb⟩ hd
theorem DJ.any (hF : Y5  P F) (ht : PT P F ops nt (Region.before ops) π D) (hpl : E9     P ops (Region.before ops) [] π = true) (hr0 : Eu   ρ0 (D.R 0) a0.tmps) (hnt : nt ≤ a0.tmps.size)
    (hq:∀a' w' ρ',Bf P ρ' (D.st π.length) w'→BX ρ' (D.st π.length)→Fr ρ0 (D.st 0) w0 ρ' (D.st π.length) w'→Eu ρ' (D.R π.length) a'.tmps→a'.tmps.size=a0.tmps.size→a'.defers=a0.defers→Q .normal a' w'):
    ∀ (fuel:Nat) (listed:Array Bool) (k:Nat) (ρ:Bp) (a:Act) (w:World),DJ P ops (Region.before ops) π D ρ0 w0 a0 listed k ρ a w→(∀l:List Nat,l.Nodup→(∀i∈l,listed[i]? = some false)→l.length≤fuel) →
      wpAnyIn (OW rnd) 0 P .any ops Q fuel listed a w:=by
  have hp:=JC hpl
  have place:∀ (q:Nat) (h:q<π.length),π[q]? = some π[q]:=fun q hq=>ky hq
  have bool:∀ {listed:Array Bool} {i:Nat},i<listed.size→listed[i]?≠some true→listed[i]? = some false:=by
    intro listed i hi h
    rw[Array.getElem?_eq_getElem hi]at h ⊢
    cases hb:listed[i]with
    | true=>rw[hb]at h;exact absurd rfl h
    | false=>rfl
  have all:∀ {listed:Array Bool} {k:Nat} {ρ:Bp} {a:Act} {w:World},DJ P ops (Region.before ops) π D ρ0 w0 a0 listed k ρ a w→Region.ready .any ops listed=[]→∀p,p<π.length→Dn π listed p:=by
    intro listed k ρ a w J hr p
    induction p using Nat.strongRecOn with
    | ind p ih =>
      intro hpn
      refine Classical.byContradiction fun hnd=>?_
      have hi:=place p hpn
      have hlt:=hp.lt p _ hi
      have hoi:=ht.op p _ hi
      have hf:listed[π[p]]? = some false:=bool (by rw[J.lsz];exact hlt) fun h=>hnd ⟨_,hi,h⟩
      have hm:π[p]∈Region.ready .any ops listed:=by
        refine mem_ready.2 ⟨by simp[Array.getD_eq_getD_getElem?,hf],D.o p,hoi,?_⟩
        intro e he hb
        obtain⟨q,hqp,hq'⟩:=hp.edge p _ _ hi hoi e he hb
        obtain⟨j,hj,hl⟩:=ih q hqp (by omega)
        rw[hq']at hj
        injection hj with hj
        subst hj
        simp[Array.getD_eq_getD_getElem?,hl]
      rw[hr]at hm
      cases hm
  have done:∀ {listed:Array Bool} {k:Nat} {ρ:Bp} {a:Act} {w:World},DJ P ops (Region.before ops) π D ρ0 w0 a0 listed k ρ a w→Region.ready .any ops listed=[]→Q .normal a w:=by
    intro listed k ρ a w J hr
    have hall:=all J hr
    have hk:k=π.length:=by
      rcases ks k π.length with h' | h'
      · have:=J.dlt k (hall k h');omega
      · have:=J.kle;omega
    subst hk
    refine hq a w ρ J.inv J.fresh J.fr ?_ J.sz J.dfr
    intro t x hx
    rcases ht.regs_at π.length (kp _) t x hx with⟨q,hqn,hd,rfl⟩ | ⟨hno,h0⟩
    · exact⟨by rw[J.sz];exact lR ((ht.step q hqn).lt t hd) hnt,J.rw q (hall q hqn) t hd⟩
    · exact⟨by rw[J.sz];exact(hr0 t x h0).1,J.ri t (fun q dq=>hno q (J.dlt q dq)) x h0⟩
  intro fuel
  induction fuel with
  | zero =>
    intro listed k ρ a w J hfu
    have hr:Region.ready .any ops listed=[]:=by
      cases hr:Region.ready .any ops listed with
      | nil=>rfl
      | cons i l =>
        have hm:i∈Region.ready .any ops listed:=by rw[hr];exact kx
        obtain⟨h1,o,ho,_⟩:=mem_ready.1 hm
        have hlt:i<ops.size:=by
          rcases ks i ops.size with h' | h'
          · exact h'
          · rw[Array.getElem?_eq_none h']at ho;cases ho
        have:=hfu [i] (by simp) (fun j hj=>by
          have:j=i:=by simpa using hj
          subst this
          refine bool (by rw[J.lsz];exact hlt) fun h=>?_
          simp[Array.getD_eq_getD_getElem?,h]at h1)
        simp at this
    exact⟨hr,done J hr⟩
  | succ fuel ih =>
    intro listed k ρ a w J hfu
    obtain⟨k,J,htop⟩:=J.adv ht _ k rfl
    refine⟨done J,fun i hm=>?_⟩
    obtain⟨h1,o,ho,hr⟩:=mem_ready.1 hm
    have hlt:i<ops.size:=by
      rcases ks i ops.size with h' | h'
      · exact h'
      · rw[Array.getElem?_eq_none h']at ho;cases ho
    obtain⟨p,hi⟩:=hp.onto hlt
    have hf:listed[i]?≠some true:=fun h=>by simp[Array.getD_eq_getD_getElem?,h]at h1
    have hnd:¬ Dn π listed p:=fun⟨j,hj,hl⟩=>by
      rw[hi]at hj
      injection hj with hj
      subst hj
      exact hf hl
    refine J.run hF ht hpl hr0 hnt htop hi hnd (J.ahead hp hi ho hr) ?_
    intro k' ρ' a' w' J'
    refine ih _ k' ρ' a' w' J' ?_
    intro l hn hl
    have hil:i ∉ l:=fun h=>by
      have:=hl i h
      simp[J.lsz,hlt]at this
    have:=hfu (i::l) (mV.2 ⟨hil,hn⟩) (fun j hj=>by
      rcases lM.1 hj with rfl | hj
      · exact bool (by rw[J.lsz];exact hlt) hf
      · have:=hl j hj
        rw[Array.getElem?_setIfInBounds_ne (fun e=>hil (by rw[e];exact hj))]at this
        exact this)
    simpa using this
theorem Xj(hF:Y5 P F){R R2:B5}{s s2:AG}(htr:Trace P F ops nt (Region.before ops) true π [] R s R2 s2)(hpl:E9 P ops (Region.before ops) [] π=true)
  (h:Bf P ρ s w) (hf:BX ρ s) (hr:Eu ρ R a.tmps) (hnt:nt≤a.tmps.size)
  (hq:∀a' w' ρ',Bf P ρ' s2 w'→BX ρ' s2→Fr ρ s w ρ' s2 w'→Eu ρ' R2 a'.tmps→a'.tmps.size=a.tmps.size→a'.defers=a.defers→Q .normal a' w'):
  wpAnyIn (OW rnd) 0 P .any ops Q ops.size (Array.replicate ops.size false) a w:=by
 obtain⟨D,ht,e1,e2,e3,e4,_⟩:=Yv htr
 subst e1;subst e2;subst e3;subst e4
 have nodn:∀p,¬ Dn π (Array.replicate ops.size false) p:=by
  rintro p ⟨i,_,h⟩
  rw[Array.getElem?_replicate]at h
  split at h<;>cases h
 refine DJ.any hF ht hpl hr hnt hq ops.size _ 0 ρ a w ⟨by simp,ku _,fun p h=>(nodn p h).elim,fun p h=>by omega,fun p i _ h=>(nodn p h).elim,h,hf,Fr.refl _ _ _,fun p h=>by omega,fun p q _ h=>by omega,fun p h=>by omega,rfl,rfl,fun p h=>(nodn p h).elim,?_⟩ ?_
 ·intro t _ x hx
  exact(hr t x hx).2
 ·intro l hn hl
  refine Oy ops.size l hn fun i hi=>?_
  have:=hl i hi
  rw[Array.getElem?_replicate]at this
  split at this
  ·assumption
  ·cases this
end
section
variable{P:Program}{ρ ρ1 ρ2:Bp}{s s1 s2:AG}{w w1 w2:World}
theorem PS{b:Frame}{a:Act}{k:List Item}{cs:List Frame}{c:Code}:step P (lone (b.atR a (.code (.scope c)::k)) cs w)=.next (lone (b.atR a (.code c::.inScope c::k)) cs w):=
 step_lone_go (by simp[stepG,stepG.exec,Frame.atR])
theorem Lx{b:Frame}{a:Act}{k:List Item}{cs:List Frame}{c:Code}:step P (lone (b.atR a (.inScope c::k)) cs w)=.next (lone (b.atR a k) cs w):=
 step_lone_go (by simp[stepG,stepG.exec,Frame.atR])
def aM(Q:Exit→Act→World→Prop):Exit→Act→World→Prop
 | .goto _,_,_=>False
 | e,a,w=>Q e a w
theorem SO{F:Fence}{n:Nat}{Q:Exit→Act→World→Prop}{a:Act}{c:Code}(h:c.wpIn F n P (aM Q) a w):(Code.scope c).wpIn F n P Q a w:=by
 intro b k cs hro hb hr
 obtain⟨e,a₁,w₁,hq,harr⟩:=h b (.inScope c::k) cs hro hb hr
 have h1:StepsIn (Machine.fenced P F) P (lone (b.atR a (.code (.scope c)::k)) cs w) (lone (b.atR a (.code c::.inScope c::k)) cs w):=.one (fenced_calm hb hr rfl) PS
 cases e with
 | normal=>exact⟨.normal,a₁,w₁,hq,h1.trans (StepsIn.trans harr (.one (fenced_calm hb hr rfl) Lx))⟩
 | exit id=>exact⟨.exit id,a₁,w₁,hq,.of_steps h1 ⟨fun k' hk=>harr.1 k' (by simpa[exitTo]using hk),fun h2 hk=>harr.2 h2 (by simpa[exitTo]using hk)⟩⟩
 | goto l=>exact hq.elim
 | ret=>exact⟨.ret,a₁,w₁,hq,ArrivesIn.of_steps (k:=k) (e:=.ret) h1 harr⟩
 | panic ch=>exact⟨.panic ch,a₁,w₁,hq,ArrivesIn.of_steps (k:=k) (e:=.panic ch) h1 harr⟩
 | outgrown=>exact⟨.outgrown,a₁,w₁,hq,ArrivesIn.of_steps (k:=k) (e:=.outgrown) h1 harr⟩
structure DH(P:Program)(ρ:Bp)(fn:Func)(var:List AV)(tmps:Array Value):Prop where
 len:var.length=(BH P fn).length
 rel:EE ρ (BH P fn) var tmps
 size:fn.ntmps≤tmps.size
theorem DH.mono{fn:Func}{var:List AV}{tmps:Array Value}(h:DH P ρ fn var tmps)(le:ρ.le ρ1):DH P ρ1 fn var tmps:=⟨h.len,h.rel.mono le,h.size⟩
def JE(vars:List Tmp)(var:List AV):B5:=fun t=>(Br vars t).bind fun k=>var[k]?
theorem Jf{vars:List Tmp}{var:List AV}(h:var.length=vars.length):EQ vars ⟨[],0⟩ [] var (JE vars var):=by
 refine⟨h,fun t p e=>(by cases e),fun t x e=>(by cases e),?_⟩
 intro t x hx
 unfold Ec at hx
 simp only[EZ]at hx
 simp only[km]at hx
 obtain⟨j,h1,h2⟩:=hx
 injection h2 with h2
 subst h2
 have hj:j<var.length:=by rw[h];exact E8 h1
 simp only[JE,h1,Option.bind_some,CN,Da]
 rw[ky hj,Nf (ky hj)]
theorem Gw{fn:Func}{var:List AV}{tmps:Array Value}(h:DH P ρ fn var tmps):Eu ρ (JE (BH P fn) var) tmps:=by
 intro t v hv
 simp only[JE,km]at hv
 obtain⟨k,h1,h2⟩:=hv
 obtain⟨h3,v',h4,h5⟩:=h.rel t k h1
 rw[h2]at h4
 injection h4 with h4
 subst h4
 exact⟨h3,h5⟩
theorem UW{fn:Func}{c:Y4}{loc var:List AV}{R:B5}{tmps:Array Value}(hc:EQ (BH P fn) c loc var R)(hr:Eu ρ R tmps)(hs:fn.ntmps≤tmps.size):DH P ρ fn var tmps:=by
 refine⟨hc.vlen,?_,hs⟩
 intro t k hk
 have hl:EZ c.map t=none:=by
  cases h:EZ c.map t with
  | none=>rfl
  | some x=>have:=hc.keys t x h;rw[hk]at this;cases this
 have hx:Ec (BH P fn) c t=some (.var k):=by unfold Ec;rw[hl,hk];rfl
 have hv:=hc.val t _ hx
 have hj:k<var.length:=by rw[hc.vlen];exact E8 hk
 obtain⟨h1,h2⟩:=hr t _ hv
 refine⟨h1,_,ky hj,?_⟩
 have e:S8 var k=var[k]:=Nf (ky hj)
 simp only[CN,Da,e]at h2
 exact h2
theorem O1{fn:Func}{var:List AV}{a:Act}(h:DH P ρ fn var a.tmps){o:Operand}{x:CX}(hx:FK (BH P fn) ⟨[],0⟩ o=some x):AZ ρ (Da [] var x) (a.eval o):=by
 have hc:=Jf h.len
 have:=LJ hc hx
 have e:CN 0 x=x:=by
  cases x with
  | loc p=>exact absurd (LH hc hx p rfl) (Nat.not_lt_zero _)
  | _=>rfl
 rw[e]at this
 exact O7 (Gw h) this
theorem Gs:∀ (n:Nat)(l:List AV),(Ql l n).length=n
 | 0,_=>rfl
 | n+1,[]=>by simp[Ql,Gs n]
 | n+1,_::l=>by simp[Ql,Gs n]
theorem LM:∀ (n:Nat)(l:List AV)(k:Nat),k<n→(Ql l n)[k]? = some (l.getD k BE)
 | 0,_,k,h=>by omega
 | n+1,[],k,h=>by
  cases k with
  | zero=>rfl
  | succ k=>simpa[Ql]using LM n [] k (by omega)
 | n+1,a::l,k,h=>by
  cases k with
  | zero=>rfl
  | succ k=>simpa[Ql]using LM n l k (by omega)
theorem Eg(m:Nat):∀ (n k x:Nat),x∈Fb m n k→k≤x∧x<k+n
 | 0,k,x,h=>by cases h
 | n+1,k,x,h=>by
  unfold Fb at h
  cases hb:m.testBit k with
  | true =>
   rw[hb]at h
   simp only[cond_true]at h
   rcases lM.1 h with rfl | h
   ·omega
   ·have:=Eg m n (k+1) x h;omega
  | false =>
   rw[hb]at h
   simp only[cond_false]at h
   have:=Eg m n (k+1) x h;omega
theorem af      {fn : Func} {aS : List AV} {as' : Array Value} (ha : AS    ρ aS as'.toList) (hn : aS.length = DN     fn) (hle : DN     fn ≤ fn.ntmps) :
    DH P ρ fn (Ql aS (BH P fn).length) (as'++Array.replicate (fn.ntmps - as'.size) undef):=by
  have hsz:as'.size=DN fn:=by have:=ha.length;simp at this;omega
  refine⟨Gs _ _,?_,by simp;omega⟩
  intro t k hk
  have hg:=FL hk
  have hlt:=E8 hk
  refine⟨?_,_,LM _ _ k hlt,?_⟩
  all_goals unfold BH at hg
  · have hm:t∈(List.range (DN fn)++match fn.body with
        | none=>[]
        | some c=>Fb (Nat.lor (Ei P c) (Hc fn.results.toList)) (fn.ntmps - DN fn) (DN fn)):=kq hg
    rcases List.mem_append.1 hm with h | h
    · have h9:(t:Nat)<DN fn:=List.mem_range.1 h
      rw[Array.size_append,Array.size_replicate]
      exact lR h9 (by omega)
    · cases hb:fn.body with
      | none=>rw[hb]at h;cases h
      | some c =>
        rw[hb]at h
        have h9:=(Eg _ _ _ _ h).2
        rw[Array.size_append,Array.size_replicate]
        exact lR h9 (by omega)
  · by_cases hka : k < DN     fn
    · rw [lG                        (by simpa using hka)] at hg
      rw[List.getElem?_range hka]at hg
      injection hg with hg
      subst hg
      obtain⟨v',h1,h2⟩:=ha.get (k:=k) (v:=aS[k]'(by omega)) (ky (by omega))
      have e1:aS.getD k BE=aS[k]'(by omega):=by simp[show k<aS.length by omega]
      have e2:(as'++Array.replicate (fn.ntmps - as'.size) undef).getD k undef=v':=by
        have h1':as'[k]? = some v':=by simpa using h1
        have hk':k<as'.size:=by omega
        simp[Array.getD_eq_getD_getElem?,Array.getElem?_append_left hk',h1']
      rw[e1,e2]
      exact h2
    · rw[lL (by simpa using hka)]at hg
      have ht:DN fn≤t:=by
        cases hb:fn.body with
        | none=>rw[hb]at hg;simp at hg
        | some c=>rw[hb]at hg;exact(Eg _ _ _ _ (kq hg)).1
      have e1:aS.getD k BE=BE:=by simp[show aS.length≤k by omega]
      have e2:(as'++Array.replicate (fn.ntmps - as'.size) undef).getD t undef=undef:=by
        rw[Array.getD_eq_getD_getElem?,Array.getElem?_append_right (by omega),Array.getElem?_replicate]
        split<;>rfl
      rw[e1,e2]
      exact DY ρ
def Dd(ρ:Bp):List Nat→List Deferred→Prop
 | [],ds=>ds=[]
 | i::l,ds=>∃rb ds',ρ i=some rb∧ds={ target:=.collected rb.b,args:=#[] }::ds'∧Dd ρ l ds'
theorem Dd.mono:∀ {l:List Nat}{ds:List Deferred},Dd ρ l ds→ρ.le ρ1→Dd ρ1 l ds
 | [],_,h,_=>h
 | _::_,_,⟨rb,ds',h1,h2,h3⟩,le=>⟨rb,ds',le _ _ h1,h2,Dd.mono h3 le⟩
theorem Bf.unmark1(h:Bf P ρ s w){i:Nat}{rb:RB}(hg:s.heap.get i=some .mark)(hr:ρ i=some rb):
  Bf P ρ (CV s i) (w.putObj rb.b (.deferred none))∧Fr ρ s w ρ (CV s i) (w.putObj rb.b (.deferred none)):=by
 let o1:Cl:=.row { elem:=default,sz:=rb.sz,n:=0,c:=.leaf,spare:=true,mode:=.ro,par:=none,bytes:=false }
 have ho:GR P ρ (w.putObj rb.b (.deferred none)) o1 rb:=
  ⟨fun k v hk=>absurd hk (Nat.not_lt_zero k),ku _,rfl,(fun e=>by cases e),fun e=>absurd rfl e,fun p e=>by cases e⟩
 obtain⟨h1,h2⟩:=h.set (w1:=w.putObj rb.b (.deferred none)) (o1:=o1) hg hr rfl (fun p e=>by cases e) rfl World.putObj_size (fun b hb=>World.putObj_heap_other hb) rfl rfl rfl ho
 obtain⟨h3,h4⟩:=h1.del hr
 have e:∀x,(CV (setObj s i o1) i).heap.get x=(CV s i).heap.get x:=by
  intro x
  rw[BZ,BZ,DQ]
  by_cases h':x=i
  ·simp[h']
  ·simp[h']
 have h5:=h2.trans h4
 refine⟨h3.same fun x _ _=>(e x).symm,⟨h5.le,h5.fresh,h5.next,h5.size,h5.os,h5.tape,h5.output,h5.keep,fun b hb=>h5.own b (hb.same fun x _ _=>(e x).symm),fun x hx hy=>(e x).symm.trans (h5.unborn x hx hy)⟩⟩
theorem NX{fn:Func}{tmps:Array Value}{R:Ending→World→Prop}:∀ {marks:List Nat}{ds:List Deferred}{s s':AG}{w:World},Dd ρ marks ds→unmark s marks=some s'→Bf P ρ s w →
  (∀w',Bf P ρ s' w'→Fr ρ s w ρ s' w'→∃v,(results fn tmps).run P w'=.ok v w'∧R (.returned v) w')→LeavesInM Fence.wide 0 P fn tmps R ds .returning w:=by
 intro marks
 induction marks with
 | nil =>
  intro ds s s' w hm hu hi hk
  have hm:ds=[]:=hm
  subst hm
  injection hu with hu
  subst hu
  exact hk w hi (Fr.refl _ _ _)
 | cons i l ih =>
  intro ds s s' w hm hu hi hk
  obtain⟨rb,ds',h1,rfl,h3⟩:=hm
  unfold unmark at hu
  split at hu
  ·rename_i hg
   obtain⟨h4,h5⟩:=hi.unmark1 hg h1
   have hb:w.heap[rb.b]? = some (.deferred (some [])):=hi.obj i _ rb hg h1
   refine⟨by simp,.inl ⟨rb.b,_,rfl,run_takeDeferred hb,?_⟩⟩
   exact ih h3 hu h4 fun w' g1 g2=>hk w' g1 (h5.trans g2)
  ·cases hu
def YS(tmps:Array Value):ResultVar→Sem Value
 | .tmp t=>Pure.pure (tmps.getD t undef)
 | .cell a t=>do loadVar t (← asAddr (tmps.getD a undef))
theorem R9(fn:Func)(tmps:Array Value):results fn tmps=(do
  let vs ← fn.results.mapM (YS tmps)
  Pure.pure (if h:vs.size=1 then vs[0]else .tuple vs)):=by
 have:(fun r:ResultVar=>(match r with
   | .tmp t=>(Pure.pure (tmps.getD t undef):Sem Value)
   | .cell a t=>do loadVar t (← asAddr (tmps.getD a undef))))=YS tmps:=by funext r;cases r<;>rfl
 rw[← this]
 rfl
theorem Nj           {vars : List Tmp} {var : List AV} {tmps : Array Value} (hI : Bf  P ρ s w) (hr : EE      ρ vars var tmps) : ∀ {rs : List ResultVar} {cr : List (CX × Option TypeId)} {l : List AV}, Cm          vars rs = some cr → Bo       P s var cr = some l →
    ∃l':List Value,(rs.mapM (YS tmps)).run P w=.ok l' w∧AS ρ l l':=by
  intro rs
  induction rs with
  | nil=>intro cr l hc ha;injection hc with hc;subst hc;injection ha with ha;subst ha;exact⟨[],rfl,.nil⟩
  | cons r rs ih =>
    intro cr l hc ha
    cases r with
    | tmp t =>
      simp only[Cm,km]at hc
      obtain⟨j,h1,cr',h2,h3⟩:=hc
      injection h3 with h3
      subst h3
      simp only[Bo,km]at ha
      obtain⟨l1,h4,h5⟩:=ha
      injection h5 with h5
      subst h5
      obtain⟨l',h6,h7⟩:=ih h2 h4
      obtain⟨h8,v,h9,h10⟩:=hr t j h1
      refine⟨tmps.getD t undef::l',?_,.cons ?_ h7⟩
      · rw[List.mapM_cons]
        simp[YS,Sem.run_bind,h6,Result.andThen]
      · simp only[Da];rw[Nf h9];exact h10
    | cell t ty =>
      simp only[Cm,km]at hc
      obtain⟨j,h1,cr',h2,h3⟩:=hc
      injection h3 with h3
      subst h3
      simp only[Bo,km]at ha
      obtain⟨v,hv,l1,h4,h5⟩:=ha
      injection h5 with h5
      subst h5
      obtain⟨l',h6,h7⟩:=ih h2 h4
      obtain⟨h8,x,h9,h10⟩:=hr t j h1
      simp only[Da]at hv
      rw[Nf h9]at hv
      obtain⟨v',_,g2,ad,g3,g4⟩:=Ol hI hv h10
      refine⟨v'::l',?_,.cons g2 h7⟩
      rw[List.mapM_cons]
      simp only[YS]
      rw[g3]
      simp[Sem.run_bind,h6,Result.andThen,asAddr,g4]
theorem SA         {fn : Func} {vars : List Tmp} {var : List AV} {tmps : Array Value} (hI : Bf  P ρ s w) (hr : EE      ρ vars var tmps) {cr : List (CX × Option TypeId)} {l : List AV}
    (hc:Cm vars fn.results.toList=some cr) (ha:Bo P s var cr=some l):∃v,(results fn tmps).run P w=.ok v w∧AZ ρ (Ba l) v:=by
  obtain⟨l',h1,h2⟩:=Nj hI hr hc ha
  refine⟨if h:l'.toArray.size=1 then l'.toArray[0]else .tuple l'.toArray,?_,?_⟩
  · rw[R9,Array.mapM_eq_mapM_toList]
    simp[Sem.run_bind,h1,Result.andThen,Sem.run_map]
  · cases h2 with
    | nil=>simp[Ba];exact .tuple .nil
    | cons h hs =>
      cases hs with
      | nil=>simpa[Ba]using h
      | cons h' hs' =>
        simp[Ba]
        exact .tuple (.cons h (.cons h' hs'))
theorem Nu           {vars : List Tmp} : ∀ {ts : List Tmp} {vs : List AV} {vs' : List Value} {var var' : List AV} {tmps : Array Value}, Er        vars var ts vs = some var' → EE      ρ vars var tmps → var.length = vars.length → AS    ρ vs vs' →
    EE ρ vars var' ((ts.zip vs').foldl (fun tmps (p:Tmp×Value)=>tmps.setIfInBounds p.1 p.2) tmps)∧var'.length=vars.length∧((ts.zip vs').foldl (fun tmps (p:Tmp×Value)=>tmps.setIfInBounds p.1 p.2) tmps).size=tmps.size∧ts.length=vs'.length:=by
  intro ts
  induction ts with
  | nil =>
    intro vs vs' var var' tmps hz hr hl hv
    cases vs with
    | nil=>cases hv;injection hz with hz;subst hz;exact⟨hr,hl,rfl,rfl⟩
    | cons=>cases hz
  | cons t ts ih =>
    intro vs vs' var var' tmps hz hr hl hv
    cases vs with
    | nil=>cases hz
    | cons v vs =>
      cases hv with
      | cons h hs =>
        rename_i v' vs'
        simp only[Er,km]at hz
        obtain⟨j,hj,hz⟩:=hz
        have hjl:j<var.length:=by rw[hl];exact E8 hj
        obtain⟨ht,_⟩:=hr t j hj
        have key:EE ρ vars (Lj v var j) (tmps.setIfInBounds t v'):=by
          intro u k hk
          obtain⟨g1,x,g2,g3⟩:=hr u k hk
          refine⟨by simpa using g1,?_⟩
          by_cases e:u=t
          · subst e
            rw[hj]at hk
            injection hk with hk
            subst hk
            refine⟨v,by rw[JQ];simp[hjl],?_⟩
            simpa[Array.getD_eq_getD_getElem?,ht]using h
          · have ejk:j≠k:=fun e'=>by subst e';exact e (Jc hk hj)
            refine⟨x,by rw[JQ,md ejk];exact g2,?_⟩
            have:(tmps.setIfInBounds t v').getD u undef=tmps.getD u undef:=by
              simp[Array.getD_eq_getD_getElem?,Array.getElem?_setIfInBounds_ne (Ne.symm e)]
            rw[this]
            exact g3
        obtain⟨h1,h2,h3,h4⟩:=ih (tmps:=tmps.setIfInBounds t v') hz key (by rw[JQ,kv];exact hl) hs
        exact⟨h1,h2,by simpa using h3,by simpa using h4⟩
end
def Hi:Ly→Exit
 | .normal=>.normal
 | .exit id=>.exit id
 | .ret=>.ret
def Mt(ρ:Bp):Option Nat→Option Nat→Prop
 | none,r=>r=none
 | some l,r=>∃rb,ρ l=some rb∧r=some rb.b
theorem Mt.mono{ρ ρ1:Bp}{rnd r:Option Nat}(h:Mt ρ rnd r)(le:ρ.le ρ1):Mt ρ1 rnd r:=by
 cases rnd with
 | none=>exact h
 | some l=>obtain⟨rb,h1,h2⟩:=h;exact⟨rb,le _ _ h1,h2⟩
structure Hk(P:Program)(fn:Func)(ρ:Bp)(s:AG)(w:World)(r:Ar)(a':Act)(w':World)(ρ':Bp):Prop where
 inv:Bf P ρ' r.st w'
 fresh:BX ρ' r.st
 fr:Fr ρ s w ρ' r.st w'
 vars:DH P ρ' fn r.var a'.tmps
 marks:Dd ρ' r.marks a'.defers
structure Ie(P:Program)(fn:Func)(ρ:Bp)(s:AG)(w:World)(var:List AV)(marks:List Nat)(rnd r:Option Nat)(a:Act):Prop where
 inv:Bf P ρ s w
 fresh:BX ρ s
 vars:DH P ρ fn var a.tmps
 marks:Dd ρ marks a.defers
 rnd:Mt ρ rnd r
def Ms(P:Program)(F:Dy):Prop:=∀ (f:FuncId)(fn:Func)(c:Code)(rnd r:Option Nat)(var:List AV)(marks:List Nat)(s:AG)(res:Ar)(ρ:Bp)(w:World)(a:Act)(Q:Exit→Act→World→Prop),
 P.funcs[f]? = some fn→F.code rnd (BB P f fn.ntmps (BH P fn) c) var marks s=some res→Ie P fn ρ s w var marks rnd r a →
 (∀a' w' ρ',Hk P fn ρ s w res a' w' ρ'→Q (Hi res.exit) a' w')→c.wpIn (OW r) 0 P Q a w
def ST(P:Program)(F:Dy)(n:Nat):Prop:=∀ (f:FuncId)(fn:Func)(c:Code)(rnd r:Option Nat)(var:List AV)(marks:List Nat)(s:AG)(res:Ar)(ρ:Bp)(w:World)(a:Act)(Q:Exit→Act→World→Prop),
 P.funcs[f]? = some fn→F.code rnd (.loop (BB P f fn.ntmps (BH P fn) c)) var marks s=some res→Ie P fn ρ s w var marks rnd r a →
 (∀a' w' ρ',Hk P fn ρ s w res a' w' ρ'→Q (Hi res.exit) a' w')→Code.roundsIn (OW r) 0 P c Q n a w
def HQ(P:Program)(call:FuncId→List AV→AG→Option (AV×AG)):Prop:=∀ (ρ:Bp)(s:AG)(w:World)(f:FuncId)(aS:List AV)(v:AV)(s1:AG)(as':Array Value),
 call f aS s=some (v,s1)→Bf P ρ s w→BX ρ s→AS ρ aS as'.toList →
 (∃fn c,P.funcs[f]? = some fn∧fn.body=some c)∧CallsIn Fence.wide 0 P f as' w (Fu P ρ s w v s1)
def Ee (P : Program) : Prop := ∀ (f : FuncId) (fn : Func), P.funcs[f]? = some fn → (fn.name == "runtime.NumGoroutine") = false
structure Ny(P:Program)(F:Dy)(n:Nat):Prop where
 code:Ms P F
 loop:ST P F n
 call:HQ P F.call
 round:∀ (ρ:Bp) (s:AG) (w:World) (l:Nat) (rb:RB) (aS:List AV) (v:AV) (s1:AG) (as':Array Value),F.round l aS s=some (v,s1)→Bf P ρ s w→BX ρ s→ρ l=some rb→AS ρ aS as'.toList →
  De P ρ s w v s1 ((Instr.yield rb.b as').run P w)
section
variable{P:Program}{ρ ρ1 ρ2:Bp}{s s1 s2:AG}{w w1 w2:World}
theorem GY(hng:Ee P){f:FuncId}{fn:Func}{c:Code}(hf:P.funcs[f]? = some fn)(hb:fn.body=some c)(args:Array Value)(w:World):(callFunc f args).run P w=.ok (.enter f args) w:=by
  have h1:=hng f fn hf
  have h2 : fn.name ≠ "runtime.NumGoroutine" := by simpa using h1
  simp[callFunc,hf,h2,hb]
theorem Ny.fok(hng:Ee P){F:Dy}{n:Nat}(h:Ny P F n):Y5 P F where
 call:=fun ρ s w f aS v s1 as' hc hi hf ha=>by
  obtain⟨⟨fn,c,h1,h2⟩,h3⟩:=h.call ρ s w f aS v s1 as' hc hi hf ha
  rw[GY hng h1 h2]
  exact .enter h3
 round:=h.round
theorem Hk.trans{fn:Func}{s1:AG}{r1 r2:Ar}{a1 a2:Act}(h1:Fr ρ s w ρ1 s1 w1)(h2:Hk P fn ρ1 s1 w1 r2 a2 w2 ρ2):Hk P fn ρ s w r2 a2 w2 ρ2:=
 ⟨h2.inv,h2.fresh,h1.trans h2.fr,h2.vars,h2.marks⟩
theorem Hk.begins{fn:Func}{r:Ar}{a1:Act}{var:List AV}{marks:List Nat}{rnd rr:Option Nat}{a:Act}(hb:Ie P fn ρ s w var marks rnd rr a)(h:Hk P fn ρ s w r a1 w1 ρ1):Ie P fn ρ1 r.st w1 r.var r.marks rnd rr a1:=
 ⟨h.inv,h.fresh,h.vars,h.marks,hb.rnd.mono h.fr.le⟩
theorem gk     (hm : P.follows .mixedOrders = true) {F : Dy}  (hF : Y5  P F) {fn : Func} {f : FuncId} {id : Nat} {ops : Array Oper} {draw : Bool} {r rnd : Option Nat} {var : List AV} {marks : List Nat} {s : AG}  {res : Ar}   {ρ : Bp}  {w : World} {a : Act} {Q : Exit → Act → World → Prop}
    (hc:C7 F rnd (BB P f fn.ntmps (BH P fn) (.region id ops draw)) var marks s=some res) (hb:Ie P fn ρ s w var marks rnd r a)
    (hq:∀a' w' ρ',Hk P fn ρ s w res a' w' ρ'→Q (Hi res.exit) a' w'):(Code.region id ops draw).wpIn (OW r) 0 P Q a w:=by
  have fin:∀ {items:List AA} {b:Array Nat} {l:List Nat},Eh P fn.ntmps (BH P fn) ops b draw l ⟨[],0⟩ []=some items→C7 F rnd (.ops items) var marks s=some res →
      ∃R' s',Trace P F ops fn.ntmps b draw l [] (JE (BH P fn) var) s R' s'∧res.exit=.normal∧res.marks=marks∧res.st=s'∧∃c' loc',EQ (BH P fn) c' loc' res.var R':=by
    intro items b l hi hs
    simp only[C7,Zj]at hs
    split at hs<;>first | (cases hs;done) | skip
    rename_i p hp
    injection hs with hs
    subst hs
    obtain⟨R',h1,h2⟩:=RF l ⟨[],0⟩ [] items [] var s p.1 p.2 (JE (BH P fn) var) [] hi hp (Jf hb.vars.len) .nil
    exact⟨R',p.2,h1,rfl,rfl,rfl,h2⟩
  have back:∀ {R':B5} {a':Act} {w':World} {ρ':Bp},(∃c' loc',EQ (BH P fn) c' loc' res.var R')→res.exit=.normal→res.marks=marks→Bf P ρ' res.st w'→BX ρ' res.st→Fr ρ s w ρ' res.st w'→Eu ρ' R' a'.tmps→a'.tmps.size=a.tmps.size→a'.defers=a.defers→Q .normal a' w':=by
    intro R' a' w' ρ' ⟨c',loc',hcr⟩ he hmk h1 h2 h3 h4 h5 h6
    have:=hq a' w' ρ' ⟨h1,h2,h3,UW hcr h4 (by rw[h5];exact hb.vars.size),by rw[hmk,h6];exact hb.marks.mono h3.le⟩
    rw[he]at this
    exact this
  cases draw with
  | false =>
    refine wpIn_region ?_
    simp only[BB]at hc
    cases hi:Eh P fn.ntmps (BH P fn) ops #[] false (List.range ops.size) ⟨[],0⟩ []with
    | none=>rw[hi]at hc;cases hc
    | some items =>
      rw[hi]at hc
      obtain⟨R',s',h1,h2,h3,h4,h5⟩:=fin hi hc
      subst h4
      exact UR hF h1 hb.inv hb.fresh (Gw hb.vars) hb.vars.size fun a' w' ρ' g1 g2 g3 g4 g5 g6=>back h5 h2 h3 g1 g2 g3 g4 g5 g6
  | true =>
    refine wpIn_region_any hm ?_
    simp only[BB]at hc
    cases hpl:E9 P ops (Region.before ops) [] (aQ P ops)with
    | false=>rw[hpl]at hc;cases hc
    | true =>
      rw[hpl]at hc
      simp only[AI,cond_true]at hc
      cases hi:Eh P fn.ntmps (BH P fn) ops (Region.before ops) true (aQ P ops) ⟨[],0⟩ []with
      | none=>rw[hi]at hc;cases hc
      | some items =>
        rw[hi]at hc
        obtain⟨R',s',h1,h2,h3,h4,h5⟩:=fin hi hc
        subst h4
        have hd:=Fr.drawn' (ρ:=ρ) (s:=s) (w:=w) (w.drawn+1)
        exact Xj hF h1 hpl (hb.inv.drawn (w.drawn+1)) hb.fresh (Gw hb.vars) hb.vars.size fun a' w' ρ' g1 g2 g3 g4 g5 g6=>back h5 h2 h3 g1 g2 (hd.trans g3) g4 g5 g6
theorem HH{l:Nat}{L:Loop}(h:w.heap[l]? = some (.loop L))(fn:FuncId)(tmps:Array Value)(ps:Array Tmp)(assign body:Code):
  (Instr.enterLoop fn tmps ps assign body (some l)).run P w =
   .ok (w.heap.size,[]) (w.alloc (.loop { state:=.ready,pending:=none,fn,tmps,params:=ps,assign,body,defers:=L.defers })):=by
 unfold Instr.enterLoop
 simp only[Sem.run_bind,run_getLoop h,run_newObj_alloc,Result.andThen,Sem.run_pure]
theorem E7{l:Nat}{r:GO}(h:Bj s l=some r):s.heap.get l=some (.loop r):=by
 unfold Bj at h
 split at h
 ·injection h with h;subst h;assumption
 ·cases h
theorem BX.new(h:BX ρ s)(o:Cl)(rb:RB):BX (Cr ρ s.next rb) (newObj s o):=by
 intro i hi
 have hi:s.next+1≤i:=hi
 have:=h i (by omega)
 exact⟨by rw[A0 rb (by omega)];exact this.1,by rw[CB,if_neg (by omega)];exact this.2⟩
theorem LE(h:Bf P ρ s w){l:Nat}{r:GO}{rb:RB}(hg:s.heap.get l=some (.loop r))(hr:ρ l=some rb){st:LoopState}{pd:Option Code}{L:Loop}(hL:w.heap[rb.b]? = some (.loop L)):
  Bf P ρ (setObj s l (.loop { r with state:=st,pending:=pd })) (w.putObj rb.b (.loop { L with state:=st,pending:=pd }))∧Fr ρ s w ρ (setObj s l (.loop { r with state:=st,pending:=pd })) (w.putObj rb.b (.loop { L with state:=st,pending:=pd })):=by
 have hlt:=h.lt l rb hr
 refine h.set hg hr rfl (fun p e=>by cases e) rfl World.putObj_size (fun b hb=>World.putObj_heap_other hb) rfl rfl rfl ?_
 obtain⟨L',h0,h1,h2,h4,h5,h6,h7,h8,h9,h10⟩:=(h.obj l _ rb hg hr:GQ P ρ w r rb).ex
 rw[hL]at h0
 injection h0 with h0
 injection h0 with h0
 subst h0
 exact⟨_,World.putObj_heap_same hlt,rfl,rfl,h4,h5,h6,h7,h8,h9,h10⟩
theorem aO{r:Option Nat}{s':AG}{res:Ar}{a:Act}{Q:Exit→Act→World→Prop}{var:List AV}{marks:List Nat}{pd:Option Code}
  (hp:GW var marks s' pd=some res) (hq:res.var=var→res.marks=marks→res.st=s'→Q (Hi res.exit) a w):
  (match (generalizing:=false) pd with
   | none=>Q .normal a w
   | some c=>c.wpIn (OW r) 0 P Q a w):=by
 unfold GW at hp
 split at hp<;>first | (cases hp;done) | skip
 ·injection hp with hp;subst hp;exact hq rfl rfl rfl
 ·injection hp with hp;subst hp;exact wpIn_ret (hq rfl rfl rfl)
 ·injection hp with hp;subst hp;exact wpIn_exit (hq rfl rfl rfl)
theorem LR         (hng : Ee      P) {F : Dy}  (hcall : HQ     P F.call) {f : FuncId} {fn : Func} {var : List AV} {marks : List Nat} {s : AG}  {res : Ar}   {ρ : Bp}  {w : World} {a : Act} {r : Option Nat} {Q : Exit → Act → World → Prop} {g : AV} {g' : Value} {ps : Array Tmp} {assign body : Code} {dfr : Nat} {rd : RB}
    (hf:P.funcs[f]? = some fn) (hc:FG F var g ps assign body f dfr marks s=some res) (hi:Bf P ρ s w) (hfr:BX ρ s) (hv:DH P ρ fn var a.tmps) (hmk:Dd ρ marks a.defers)
    (hg:AZ ρ g g') (hd:ρ dfr=some rd) (fn':FuncId)
    (hq:∀w' ρ',Hk P fn ρ s w res a w' ρ'→Q (Hi res.exit) a w'):
    ∃ (d : Deferred) (f0 : FuncId) (args : Array Value), Deferred.ofValue g' #[.func (.yield w.heap.size) #[] #[]] = Pure.pure d ∧
      (∀w1,(invoke d.target d.args).run P w1=.ok (.enter f0 args) w1) ∧
      CallsIn (OW r) 0 P f0 args (w.alloc (.loop { state:=.ready,pending:=none,fn:=fn',tmps:=a.tmps,params:=ps,assign,body,defers:=rd.b })) (rangePost (OW r) 0 P w.heap.size Q a):=by
  let L:Loop:={ state:=.ready,pending:=none,fn:=fn',tmps:=a.tmps,params:=ps,assign,body,defers:=rd.b }
  let al:GO:={ state:=.ready,pending:=none,fn:=f,var,params:=ps,assign,body,dfr }
  let rb:RB:=⟨w.heap.size,0,0,0⟩
  have hvi:FU P f=BH P fn:=by unfold FU;rw[hf]
  have hn0:=(hfr _ (kp s.next)).1
  have hle:=C2 (rb:=rb) hn0
  obtain⟨hi1,hfr1⟩:=hi.new (o:=.loop al) (o':=.loop L) (rb:=rb) hn0 rfl
    ⟨L,World.alloc_heap_new w _,rfl,rfl,rfl,rfl,rfl,⟨rd,hle _ _ hd,rfl⟩,by rw[hvi];exact(hv.mono hle).rel,fun fn0 h0=>by
      have h0:P.funcs[f]? = some fn0:=h0
      rw[hf]at h0;injection h0 with h0;subst h0;exact hv.size,by rw[hvi];exact hv.len⟩
  have hff:=hfr.new (.loop al) rb
  unfold FG G5 at hc
  simp only[km]at hc
  obtain⟨q,hcv,r2,hl2,hend⟩:=hc
  cases hbz:RR r2.state with
  | true=>rw[hbz]at hend;cases hend
  | false =>
    rw[hbz]at hend
    simp only[cond_false]at hend
    unfold GZ at hcv
    split at hcv<;>first | (cases hcv;done) | skip
    rename_i f0 first cap
    cases hg with
    | func ha hcp =>
      rename_i x c
      obtain⟨⟨fn0,c0,k1,k2⟩,k3⟩:=hcall _ _ _ f0 _ q.1 q.2 ((x++#[.func (.yield w.heap.size) #[] #[]])++c) hcv hi1 hff (by
        simp only[Array.toList_append]
        have hy:AZ (Cr ρ s.next rb) (.yield s.next) (.func (.yield w.heap.size) #[] #[]):=AZ.yield (rb:=rb) (A4 _ _)
        have:=(AS.mono hle ha).append ((AS.cons hy .nil).append (AS.mono hle hcp))
        simpa using this)
      refine⟨{ target:=.fn (.func f0) c,args:=x++#[.func (.yield w.heap.size) #[] #[]] },f0,_,rfl,fun w1=>?_,JU (CallsIn.mono k3 ?_)⟩
      · simp only[invoke]
        exact GY hng k1 k2 _ _
      · intro e w3 he
        cases e with
        | panicked c=>exact he.elim
        | outgrown=>exact he.elim
        | returned v' =>
          obtain⟨ρ',_,g2,g3⟩:=he
          have hg2:=E7 hl2
          have hr2:ρ' s.next=some rb:=g3.le _ _ (A4 _ _)
          obtain⟨L2,h0,h1,h2,_⟩:=(g2.obj _ _ _ hg2 hr2:GQ P ρ' w3 r2 rb).ex
          obtain⟨g4,g5⟩:=LE g2 hg2 hr2 (st:=.exhausted) (pd:=r2.pending) h0
          have hbz':L2.state≠.busy:=by rw[h1];intro e;rw[e]at hbz;cases hbz
          refine⟨L2.pending,_,run_endLoop h0 hbz',?_⟩
          rw[h2]
          refine aO hend fun e1 e2 e3=>hq _ ρ' ?_
          have hall:=hfr1.trans (g3.trans g5)
          have hfresh:=(hff.step g3).step g5
          rw[h2.symm]at g4 g5 hall
          refine⟨?_,?_,?_,by rw[e1];exact hv.mono hall.le,by rw[e2];exact hmk.mono hall.le⟩
          · rw[e3,← h2];exact g4
          · rw[e3];exact hfresh
          · rw[e3,← h2];exact hall
end
section
variable{P:Program}{ρ ρ1 ρ2:Bp}{s s1 s2:AG}{w w1 w2:World}
theorem YQ(hng:Ee P){F:Dy}(hcall:HQ P F.call){f:FuncId}{fn:Func}{g:Operand}{x:CX}{ps:Array Tmp}{assign body:Code}{rnd r:Option Nat}{var:List AV}{marks:List Nat}{s:AG}{res:Ar}{ρ:Bp}{w:World}{a:Act}{Q:Exit→Act→World→Prop}
    (hf:P.funcs[f]? = some fn) (hx:FK (BH P fn) ⟨[],0⟩ g=some x) (hc:Kh F rnd f (Da [] var x) ps assign body var marks s=some res) (hb:Ie P fn ρ s w var marks rnd r a)
    (hq:∀a' w' ρ',Hk P fn ρ s w res a' w' ρ'→Q (Hi res.exit) a' w'):(Code.rangeFunc g ps assign body).wpIn (OW r) 0 P Q a w:=by
  have hgv:AZ ρ (Da [] var x) (a.eval g):=O1 hb.vars hx
  have res1:∀l:Nat,(resolve a.eval (rangeCall g l) 0:Sem Deferred)=Deferred.ofValue (a.eval g) #[.func (.yield l) #[] #[]]:=by
    intro l
    simp[resolve,rangeCall,Act.eval]
  refine wpIn_rangeFunc fun fn' _=>?_
  unfold Kh at hc
  cases rnd with
  | some l =>
    simp only[km]at hc
    obtain⟨al,hl,hc⟩:=hc
    obtain⟨rb,h1,h2⟩:=hb.rnd
    subst h2
    have hgl:=E7 hl
    obtain⟨L,h0,_,_,_,_,_,⟨rd,NP,Lr⟩,_⟩:=(hb.inv.obj _ _ _ hgl h1:GQ P ρ w al rb).ex
    have hent:=HH (P:=P) h0 fn' a.tmps ps assign body
    rw[Lr]at hent
    obtain⟨d,f0,args,k1,k2,k3⟩:=LR (r:=some rb.b) (Q:=Q) hng hcall hf hc hb.inv hb.fresh hb.vars hb.marks hgv NP fn' fun w' ρ' h=>hq a w' ρ' h
    refine⟨_,_,_,d,_,f0,args,_,hent,?_,fun _ _=>trivial,k2 _,(fun e=>by cases e),k3⟩
    rw[res1,k1]
    rfl
  | none =>
    have hr:r=none:=hb.rnd
    subst hr
    let rb:RB:=⟨w.heap.size,0,0,0⟩
    have hn0:=(hb.fresh _ (kp s.next)).1
    have hle:=C2 (rb:=rb) hn0
    obtain⟨hi1,hfr1⟩:=hb.inv.new (o:=.mark) (o':=.deferred (some [])) (rb:=rb) hn0 rfl (World.alloc_heap_new w _)
    have hff:=hb.fresh.new .mark rb
    have NP:Cr ρ s.next rb s.next=some rb:=A4 _ _
    obtain⟨d,f0,args,k1,k2,k3⟩:=LR (r:=none) (Q:=Q) (a:={ a with defers:=[{ target:=.collected w.heap.size,args:=#[] }]++a.defers }) hng hcall hf hc hi1 hff (hb.vars.mono hle)
      ⟨rb,a.defers,NP,rfl,hb.marks.mono hle⟩ (hgv.mono hle) NP fn' fun w' ρ' h=>hq _ w' ρ' (Hk.trans (r1:=res) (a1:=a) hfr1 h)
    have hsz:(w.alloc (.deferred (some []))).heap.size=w.heap.size+1:=by simp
    rw[hsz]at k1 k3
    refine⟨_,_,_,d,_,f0,args,_,run_enterLoop_outer fn' a.tmps ps assign body,?_,fun _ _=>trivial,k2 _,(fun e=>by cases e),k3⟩
    rw[res1,k1]
    rfl
theorem TW        (hm : P.follows .mixedOrders = true) (hng : Ee      P) {F : Dy}  {n : Nat} (h : Ny    P F n) {call : FuncId → List AV → AG  → Option (AV × AG)}  {round : Nat → List AV → AG  → Option (AV × AG)}  : Ms     P ⟨C7    F, call, round⟩ := by
  intro f fn c
  have hF:=h.fok hng
  induction c with
  | skip =>
    intro rnd r var marks s res ρ w a Q hf hc hb hq
    injection (show some (⟨.normal,var,marks,s⟩:Ar)=some res from hc)with hc
    subst hc
    exact wpIn_skip (hq a w ρ ⟨hb.inv,hb.fresh,Fr.refl _ _ _,hb.vars,hb.marks⟩)
  | label l =>
    intro rnd r var marks s res ρ w a Q hf hc hb hq
    injection (show some (⟨.normal,var,marks,s⟩:Ar)=some res from hc)with hc
    subst hc
    exact wpIn_label (hq a w ρ ⟨hb.inv,hb.fresh,Fr.refl _ _ _,hb.vars,hb.marks⟩)
  | ret =>
    intro rnd r var marks s res ρ w a Q hf hc hb hq
    injection (show some (⟨.ret,var,marks,s⟩:Ar)=some res from hc)with hc
    subst hc
    exact wpIn_ret (hq a w ρ ⟨hb.inv,hb.fresh,Fr.refl _ _ _,hb.vars,hb.marks⟩)
  | exit id =>
    intro rnd r var marks s res ρ w a Q hf hc hb hq
    injection (show some (⟨.exit id,var,marks,s⟩:Ar)=some res from hc)with hc
    subst hc
    exact wpIn_exit (hq a w ρ ⟨hb.inv,hb.fresh,Fr.refl _ _ _,hb.vars,hb.marks⟩)
  | goto l=>intro rnd r var marks s res ρ w a Q hf hc;cases hc
  | refuse u=>intro rnd r var marks s res ρ w a Q hf hc;cases hc
  | region id ops draw =>
    intro rnd r var marks s res ρ w a Q hf hc hb hq
    exact gk hm hF hc hb hq
  | seq x y ihx ihy =>
    intro rnd r var marks s res ρ w a Q hf hc hb hq
    have hc:Hu F rnd (BB P f fn.ntmps (BH P fn) y) (F.code rnd (BB P f fn.ntmps (BH P fn) x) var marks s)=some res:=hc
    unfold Hu at hc
    split at hc<;>first | (cases hc;done) | skip
    rename_i r1 h1
    refine wpIn_seq (h.code f fn x rnd r var marks s r1 ρ w a _ hf h1 hb ?_)
    intro a' w' ρ' g
    unfold HI at hc
    cases he:r1.exit with
    | normal =>
      rw[he]at hc
      refine h.code f fn y rnd r _ _ _ res ρ' w' a' Q hf hc (g.begins hb) ?_
      intro a2 w2 ρ2 g2
      exact hq a2 w2 ρ2 (Hk.trans (r1:=r1) (a1:=a') g.fr g2)
    | exit id =>
      rw[he]at hc
      injection hc with hc
      subst hc
      have:=hq a' w' ρ' g
      rw[he]at this
      exact this
    | ret =>
      rw[he]at hc
      injection hc with hc
      subst hc
      have:=hq a' w' ρ' g
      rw[he]at this
      exact this
  | cond o x y ihx ihy =>
    intro rnd r var marks s res ρ w a Q hf hc hb hq
    simp only[BB]at hc
    cases ho:FK (BH P fn) ⟨[],0⟩ o with
    | none=>rw[ho]at hc;cases hc
    | some z =>
      rw[ho]at hc
      have hc:ON F rnd (BB P f fn.ntmps (BH P fn) x) (BB P f fn.ntmps (BH P fn) y) var marks s (Da [] var z)=some res:=hc
      have hz:=O1 hb.vars ho
      unfold ON at hc
      split at hc<;>first | (cases hc;done) | skip
      rename_i t ht
      rw[ht]at hz
      have hev:a.eval o=.bool t:=by
        generalize a.eval o=y at hz
        cases hz;rfl
      refine wpIn_cond hev ?_
      cases t with
      | true=>exact h.code f fn x rnd r var marks s res ρ w a Q hf hc hb hq
      | false=>exact h.code f fn y rnd r var marks s res ρ w a Q hf hc hb hq
  | block id c ih =>
    intro rnd r var marks s res ρ w a Q hf hc hb hq
    have hc:Kg id (F.code rnd (BB P f fn.ntmps (BH P fn) c) var marks s)=some res:=hc
    unfold Kg at hc
    split at hc<;>first | (cases hc;done) | skip
    rename_i r1 h1
    refine wpIn_block (h.code f fn c rnd r var marks s r1 ρ w a _ hf h1 hb ?_)
    intro a' w' ρ' g
    unfold Jz at hc
    split at hc
    · rename_i id' he
      rw[he]
      simp only[Hi,Exit.inBlock]
      cases hbq:Nat.beq id' id with
      | true =>
        rw[hbq]at hc
        injection hc with hc
        subst hc
        rw[if_pos (Aq hbq)]
        exact hq a' w' ρ' ⟨g.inv,g.fresh,g.fr,g.vars,g.marks⟩
      | false =>
        rw[hbq]at hc
        injection hc with hc
        subst hc
        have:=hq a' w' ρ' g
        rw[he]at this
        rw[if_neg (fun e=>by subst e;simp at hbq)]
        exact this
    · rename_i hne
      injection hc with hc
      subst hc
      have:=hq a' w' ρ' g
      cases he:r1.exit with
      | normal=>rw[he]at this;exact this
      | ret=>rw[he]at this;exact this
      | exit id'=>exact absurd he (hne id')
  | loop c ih =>
    intro rnd r var marks s res ρ w a Q hf hc hb hq
    have hc:Hu F rnd (.loop (BB P f fn.ntmps (BH P fn) c)) (F.code rnd (BB P f fn.ntmps (BH P fn) c) var marks s)=some res:=hc
    refine wpIn_loop_rounds (n+1) ?_
    rw[roundsIn_succ]
    unfold Hu at hc
    split at hc<;>first | (cases hc;done) | skip
    rename_i r1 h1
    refine h.code f fn c rnd r var marks s r1 ρ w a _ hf h1 hb ?_
    intro a' w' ρ' g
    unfold HI at hc
    cases he:r1.exit with
    | normal =>
      rw[he]at hc
      refine h.loop f fn c rnd r _ _ _ res ρ' w' a' Q hf hc (g.begins hb) ?_
      intro a2 w2 ρ2 g2
      exact hq a2 w2 ρ2 (Hk.trans (r1:=r1) (a1:=a') g.fr g2)
    | exit id =>
      rw[he]at hc
      injection hc with hc
      subst hc
      have:=hq a' w' ρ' g
      rw[he]at this
      exact this
    | ret =>
      rw[he]at hc
      injection hc with hc
      subst hc
      have:=hq a' w' ρ' g
      rw[he]at this
      exact this
  | scope c ih =>
    intro rnd r var marks s res ρ w a Q hf hc hb hq
    refine SO (ih rnd r var marks s res ρ w a _ hf hc hb ?_)
    intro a' w' ρ' g
    have:=hq a' w' ρ' g
    cases he:res.exit with
    | normal=>rw[he]at this;exact this
    | ret=>rw[he]at this;exact this
    | exit id'=>rw[he]at this;exact this
  | rangeFunc g ps x y ihx ihy =>
    intro rnd r var marks s res ρ w a Q hf hc hb hq
    simp only[BB]at hc
    cases ho:FK (BH P fn) ⟨[],0⟩ g with
    | none=>rw[ho]at hc;cases hc
    | some z =>
      rw[ho]at hc
      exact YQ hng h.call hf ho hc hb hq
theorem Tw{F:Dy}{n:Nat}(h:Ny P F n){call:FuncId→List AV→AG→Option (AV×AG)}{round:Nat→List AV→AG→Option (AV×AG)}:ST P ⟨C7 F,call,round⟩ (n+1):=by
  intro f fn c rnd r var marks s res ρ w a Q hf hc hb hq
  have hc:Hu F rnd (.loop (BB P f fn.ntmps (BH P fn) c)) (F.code rnd (BB P f fn.ntmps (BH P fn) c) var marks s)=some res:=hc
  rw[roundsIn_succ]
  unfold Hu at hc
  split at hc<;>first | (cases hc;done) | skip
  rename_i r1 h1
  refine h.code f fn c rnd r var marks s r1 ρ w a _ hf h1 hb ?_
  intro a' w' ρ' g
  unfold HI at hc
  cases he:r1.exit with
  | normal =>
    rw[he]at hc
    refine h.loop f fn c rnd r _ _ _ res ρ' w' a' Q hf hc (g.begins hb) ?_
    intro a2 w2 ρ2 g2
    exact hq a2 w2 ρ2 (Hk.trans (r1:=r1) (a1:=a') g.fr g2)
  | exit id =>
    rw[he]at hc
    injection hc with hc
    subst hc
    have:=hq a' w' ρ' g
    rw[he]at this
    exact this
  | ret =>
    rw[he]at hc
    injection hc with hc
    subst hc
    have:=hq a' w' ρ' g
    rw[he]at this
    exact this
theorem ZD{F:Dy}(hcode:Ms P F){f:FuncId}{aS:List AV}{v:AV}{as':Array Value}(hc:GX P F aS s (AR P f)=some (v,s1))(hi:Bf P ρ s w)(hfr:BX ρ s)(ha:AS ρ aS as'.toList):
  (∃fn c,P.funcs[f]? = some fn∧fn.body=some c)∧CallsIn Fence.wide 0 P f as' w (Fu P ρ s w v s1):=by
 unfold GX at hc
 simp only[km]at hc
 obtain⟨cf,h1,hc⟩:=hc
 unfold AR at h1
 simp only[km]at h1
 obtain⟨fn,h2,c,h3,h4⟩:=h1
 obtain⟨h5,h6⟩:=AK h4
 simp only[km]at h6
 obtain⟨cr,h7,h8⟩:=h6
 injection h8 with h8
 subst h8
 simp only at hc
 cases hb:Nat.beq aS.length (DN fn)with
 | false=>rw[hb]at hc;cases hc
 | true =>
  rw[hb]at hc
  simp only[cond_true]at hc
  refine⟨⟨fn,c,h2,h3⟩,callsIn_of_wp_marks h2 h3 trivial ?_⟩
  unfold J0 at hc
  simp only[km]at hc
  obtain⟨res,hr,hc⟩:=hc
  have hend:Sz res.exit=true∧((unmark res.st res.marks).bind fun s=>(Bo P s res.var cr).bind fun l=>some (Ba l,s))=some (v,s1):=by
   cases he:Sz res.exit with
   | true=>rw[he]at hc;exact⟨rfl,hc⟩
   | false=>rw[he]at hc;cases hc
  obtain⟨he,hc⟩:=hend
  simp only[km]at hc
  obtain⟨s2,hu,l,hl,hv⟩:=hc
  injection hv with hv
  injection hv with hv1 hv2
  subst hv1
  subst hv2
  have hvars:DH P ρ fn (Ql aS (BH P fn).length) (as'++Array.replicate (fn.ntmps - as'.size) undef):=af ha (Aq hb) (by simpa[lA]using h5)
  refine hcode f fn c none none _ [] s res ρ w _ _ h2 hr ⟨hi,hfr,hvars,rfl,rfl⟩ ?_
  intro a' w' ρ' g
  have hlv:LeavesInM Fence.wide 0 P fn a'.tmps (Fu P ρ s w (Ba l) s2) a'.defers .returning w':=by
   refine NX g.marks hu g.inv fun w2 k1 k2=>?_
   obtain⟨v',k3,k4⟩:=SA k1 g.vars.rel h7 hl
   exact⟨v',k3,ρ',k4,k1,g.fr.trans k2⟩
  cases hx:res.exit with
  | normal=>exact hlv
  | ret=>exact hlv
  | exit id=>rw[hx]at he;cases he
theorem YU       (hng : Ee      P) {E : BJ}  (hE : E.P = P) {F : Dy}  (hcode : Ms     P F) {l : Nat} {rb : RB} {aS : List AV} {v : AV} {as' : Array Value} (hc : Jj    E F l aS s = some (v, s1)) (hi : Bf  P ρ s w) (hfr : BX     ρ s) (hl : ρ l = some rb) (ha : AS    ρ aS as'.toList) :
    De P ρ s w v s1 ((Instr.yield rb.b as').run P w):=by
  unfold Jj at hc
  rw[hE]at hc
  simp only[km]at hc
  obtain⟨al,h1,var,h2,ca,h3,cb,h4,hc⟩:=hc
  have hg:=E7 h1
  obtain⟨L,h0,_,_,e1,e2,e3,_,hrel,hsz,hlen⟩:=(hi.obj _ _ _ hg hl:GQ P ρ w al rb).ex
  unfold HV at h3 h4
  simp only[km]at h3 h4
  obtain⟨fn,hf,h3⟩:=h3
  obtain⟨fn2,hf2,h4⟩:=h4
  rw[hf]at hf2
  injection hf2 with hf2
  subst hf2
  injection h3 with h3
  injection h4 with h4
  subst h3
  subst h4
  have hvi:FU P al.fn=BH P fn:=by unfold FU;rw[hf]
  rw[hvi]at hrel hlen h2
  obtain⟨z1,z2,z3,z4⟩:=Nu (tmps:=L.tmps) h2 hrel hlen ha
  have hps:as'.size=L.params.size:=by rw[e1];simpa using z4.symm
  rw[run_yield h0 hps]
  refine .round (roundIn_of_wpIn trivial ?_)
  have hfold:(L.params.zip as').foldl (fun tmps (x:Tmp×Value)=>match x with | (t,a)=>tmps.setIfInBounds t a) L.tmps=(al.params.toList.zip as'.toList).foldl (fun tmps (p:Tmp×Value)=>tmps.setIfInBounds p.1 p.2) L.tmps:=by
    rw[← Array.foldl_toList,Array.toList_zip,e1]
  have hfold':(L.params.zip as').foldl (fun tmps (x:Tmp×Value)=>tmps.setIfInBounds x.1 x.2) L.tmps=(al.params.toList.zip as'.toList).foldl (fun tmps (p:Tmp×Value)=>tmps.setIfInBounds p.1 p.2) L.tmps:=hfold
  have hvars:DH P ρ fn var ((al.params.toList.zip as'.toList).foldl (fun tmps (p:Tmp×Value)=>tmps.setIfInBounds p.1 p.2) L.tmps):=⟨z2,z1,by rw[z3];exact hsz fn hf⟩
  unfold HC at hc
  simp only[km]at hc
  obtain⟨q,hq1,hc⟩:=hc
  cases hn:IF q.exit with
  | false=>rw[hn]at hc;cases hc
  | true =>
    rw[hn]at hc
    simp only[cond_true,km]at hc
    obtain⟨r2,hr2,hc⟩:=hc
    cases hrd:J4 r2.state with
    | false=>rw[hrd]at hc;cases hc
    | true =>
      rw[hrd]at hc
      simp only[cond_true]at hc
      unfold IV at hc
      simp only[km]at hc
      obtain⟨q2,hq2,r3,hr3,hc⟩:=hc
      injection hc with hc
      injection hc with hv hs
      subst hv
      subst hs
      have hqn:q.exit=.normal:=by cases he:q.exit<;>rw[he]at hn<;>first | rfl | cases hn
      have hst:r2.state=.ready:=by
        cases he:r2.state<;>rw[he]at hrd<;>first | rfl | cases hrd
      rw[e2,e3]
      refine hcode al.fn fn al.assign (some l) (some rb.b) var [] s q ρ w _ _ hf hq1 ⟨hi,hfr,by first | exact hvars | (simp only[];rw[hfold];exact hvars),rfl,⟨rb,hl,rfl⟩⟩ ?_
      intro a1 w1 ρ1 g1
      rw[hqn]
      have hl1:ρ1 l=some rb:=g1.fr.le _ _ hl
      have hg2:=E7 hr2
      obtain⟨L1,k0,k1,_⟩:=(g1.inv.obj _ _ _ hg2 hl1:GQ P ρ1 w1 r2 rb).ex
      obtain⟨i2,f2⟩:=LE g1.inv hg2 hl1 (st:=.busy) (pd:=r2.pending) k0
      refine⟨_,run_beginRound k0 (by rw[k1,hst]),?_⟩
      have hpd:L1.pending=r2.pending:=by
        obtain⟨L1',k0',_,k2',_⟩:=(g1.inv.obj _ _ _ hg2 hl1:GQ P ρ1 w1 r2 rb).ex
        rw[k0]at k0';injection k0' with k0';injection k0' with k0';subst k0';exact k2'
      have hL1:({ L1 with state:=.busy }:Loop)={ L1 with state:=.busy,pending:=r2.pending }:=by rw[← hpd]
      rw[hL1]
      have hal:({ r2 with state:=.busy }:GO)={ r2 with state:=.busy,pending:=r2.pending }:=rfl
      refine hcode al.fn fn al.body (some l) (some rb.b) q.var q.marks _ q2 ρ1 _ a1 _ hf hq2 ⟨i2,g1.fresh.step f2,g1.vars,g1.marks,⟨rb,hl1,rfl⟩⟩ ?_
      intro a3 w3 ρ3 g3
      have hl3:ρ3 l=some rb:=g3.fr.le _ _ hl1
      have hg3:=E7 hr3
      obtain⟨L3,m0,m1,_⟩:=(g3.inv.obj _ _ _ hg3 hl3:GQ P ρ3 w3 r3 rb).ex
      have tot:=g1.fr.trans (f2.trans g3.fr)
      have fin:∀jump:Option Code,DE q2.exit=jump→∃v w',(Instr.endRound rb.b jump).run P w3=.ok v w'∧Fu P ρ s w (.bool (DE q2.exit).isNone) (setObj q2.st l (.loop { r3 with state:=HD (DE q2.exit),pending:=DE q2.exit })) (.returned v) w':=by
        intro jump hj
        obtain⟨i4,f4⟩:=LE g3.inv hg3 hl3 (st:=HD jump) (pd:=jump) m0
        refine⟨_,_,run_endRound jump m0,ρ3,?_,?_,?_⟩
        · rw[hj];exact .bool _
        · rw[hj]
          have:(if jump.isNone=true then LoopState.ready else .done)=HD jump:=by cases jump<;>rfl
          rw[this]
          exact i4
        · rw[hj]
          have:(if jump.isNone=true then LoopState.ready else .done)=HD jump:=by cases jump<;>rfl
          rw[this]
          exact tot.trans f4
      cases he:q2.exit with
      | normal=>have:=fin none (by rw[he];rfl);rw[he]at this;exact this
      | ret=>have:=fin (some .ret) (by rw[he];rfl);rw[he]at this;exact this
      | exit id=>have:=fin (some (.exit id)) (by rw[he];rfl);rw[he]at this;exact this
theorem kA  (hm : P.follows .mixedOrders = true) (hng : Ee      P) {E : BJ}  (hE : E.P = P) (hnat : HQ     P E.nat) : ∀ n, Ny    P (EN   E n) n := by
  intro n
  induction n with
  | zero =>
    refine⟨?_,?_,?_,?_⟩
    · intro f fn c rnd r var marks s res ρ w a Q hf hc;cases hc
    · intro f fn c rnd r var marks s res ρ w a Q hf hc;cases hc
    · intro ρ s w f aS v s1 as' hc;cases hc
    · intro ρ s w l rb aS v s1 as' hc;cases hc
  | succ n ih =>
    refine⟨TW hm hng ih,Tw ih,?_,?_⟩
    · intro ρ s w f aS v s1 as' hc hi hfr ha
      have hc:Ji E (EN E n) f aS s=some (v,s1):=hc
      unfold Ji at hc
      split at hc
      · rename_i p hp
        injection hc with hc
        subst hc
        exact hnat ρ s w f aS _ _ as' hp hi hfr ha
      · rw[hE]at hc
        exact ZD ih.code hc hi hfr ha
    · intro ρ s w l rb aS v s1 as' hc hi hfr hl ha
      exact YU hng hE ih.code hc hi hfr hl ha
end
def ee:Y8:=fun _ _ _=>none
theorem YF(P:Program):HQ P ee:=fun _ _ _ _ _ _ _ _ hc=>by cases hc
def env(P:Program):BJ:=⟨P,ee⟩
def LG (P : Program) : Bool := P.funcs.all fun fn => !(fn.name == "runtime.NumGoroutine")
theorem Ha{P:Program}(h:LG P=true):Ee P:=by
 intro f fn hf
 unfold LG at h
 rw[Array.all_eq_true_iff_forall_mem]at h
 have:=h fn (Array.mem_of_getElem? hf)
 simpa using this
def YT:Bp:=fun _=>none
def PR:AG:=⟨0,.leaf⟩
theorem jI(P:Program)(w:World):Bf P YT PR w:=⟨fun i o rb _ hr=>(by cases hr),fun i rb hr=>(by cases hr),fun i j oi oj ri rj _ _ _ hr=>(by cases hr)⟩
theorem Xq:BX YT PR:=fun i _=>⟨rfl,rfl⟩
structure Ln(W W':World):Prop where
 heap:∀b,b<W.heap.size→W'.heap[b]? = W.heap[b]?
 os:W'.os=W.os
 output:W'.output=W.output
 size:W.heap.size≤W'.heap.size
theorem S2{ρ ρ':Bp}{s s':AG}{w w':World}(h:Fr ρ s w ρ' s' w')(hn:∀b,¬ GS ρ s b):Ln w w':=
 ⟨fun b hb=>h.keep b hb (hn b),h.os,h.output,h.size⟩
theorem T4(b:Nat):¬ GS YT PR b:=fun⟨i,o,rb,hi,_⟩=>by cases hi
theorem Ln.keptBut{W W':World}(h:Ln W W')(may:MemPlace→Prop):W.keptBut W' may:=by
 refine⟨h.os,h.output,fun i hi=>?_⟩
 rw[h.heap i hi]
 have:W.heap[i]? = some W.heap[i]:=Array.getElem?_eq_getElem hi
 rw[this]
 cases W.heap[i]with
 | cells c t fr=>exact⟨rfl,rfl,rfl,fun _ _=>rfl⟩
 | map es clock=>exact .inr ⟨rfl,rfl⟩
 | _=>rfl
theorem Ln.frozen{W W':World}(h:Ln W W')(a:Addr)(ha:a.block<W.heap.size):W'.frozen? a=W.frozen? a:=by simp[World.frozen?,h.heap _ ha]
def S0:Option (AV×AG)→Bool
 | some (.bool b,_)=>b
 | _=>false
section
open Go.ChangeShapes Go.WideShapes
theorem post_of_kept{H:Type}{enc:TypeId×Value→H}{P:Program}{f:Func}{s:ChangeSpec}{apart fresh handsOn again:Bool}{W W':World}{args:Array Value}{v:Value}{ds gs:List (DataW H)}{before pa pv:List MemPlace}
  (hW:DataW.Whole enc P f.params.toList s.vars apart W args.toList ds gs before)
  (hres:∀ (b:Nat) (sp:Nat→Bool) (hd:Bool),DataW.TrodAll enc P W' b sp hd f.resultTypes.toList (v.resultList f.resultTypes.size) (s.fn H (ds++gs)).results [])
  (hargs:∀sp:Nat→Bool,(∀p∈before,sp p.block=true)→DataW.TrodAll enc P W' 0 sp true f.params.toList args.toList (s.fn H (ds++gs)).args pa)
  (hvars:∀sp:Nat→Bool,(∀p∈before,sp p.block=true)→DataW.TrodVars enc P W' sp s.vars (s.fn H (ds++gs)).vars pv)
  (hps:before=pa++pv) (hk:Ln W W')
  (hok:∀ (j:Nat) (t:TypeId) (r:Value),f.resultTypes[j]? = some t→(v.resultList f.resultTypes.size)[j]? = some r→Value.okWide P W' .any 0 t r):
  s.post enc P f apart fresh handsOn again W args v W':=by
 have hold:∀p∈before,(fun b=>decide (b<W.heap.size)) p.block=true:=fun p hp=>by simpa using hW.lt p hp
 refine⟨ds,gs,before,[],pa,pv,hW,hres _ _ _,hargs _ hold,hvars _ hold,World.keptBut_mono (fun p hp=>⟨hp,?_⟩) (hk.keptBut _),fun _=>?_⟩
 ·rw[hps,List.mem_append]at hp
  exact Or.inr hp
 ·have hlt:=hW.lt
  obtain⟨_,_,_,_,_,hz,hn⟩:=hW
  refine⟨hok,_,_,([]++pa)++pv,⟨[]++pa,pv,trodAll_append (hargs _ (fun _ _=>rfl)) (hres _ _ _),hvars _ (fun _ _=>rfl),rfl,?_,?_⟩,?_⟩
  ·intro b off hp
   have hp':MemPlace.cell b off∈before:=by rw[hps];simpa using hp
   rw[hk.frozen _ (hlt _ hp')]
   exact hz b off hp'
  ·intro ha
   have:=hn ha
   rw[hps]at this
   simpa using this
  ·intro p hp _
   rw[hps]
   simpa using hp
end
end
end Go.Proofs.Ytilhhmkdcoajnaa.Am
set_option linter.unusedVariables false
set_option linter.unusedSimpArgs false
namespace Go.Proofs.Ytilhhmkdcoajnaa.Am
open Go Go.Proofs
noncomputable section
def NS:List AV→Option (List Int)
 | []=>some []
 | .int .i64 n::l=>AI (Bx .i64 n) ((NS l).bind fun r=>some (n::r))
 | _=>none
def Gu(s:AG):AV→Option (List Int)
 | .slice none n _=>AI (Nat.beq n 0) (some [])
 | .slice (some (i,o)) n _=>AI (Nat.blt i s.next && Nat.ble n 1000) ((loadN s i o n).bind NS)
 | _=>none
def LT(s:AG):List AV→Option (List (List Int))
 | []=>some []
 | v::l=>(Gu s v).bind fun L=>(LT s l).bind fun r=>some (L::r)
def LS(s:AG):AV→Option (List (List Int))
 | .slice none n _=>AI (Nat.beq n 0) (some [])
 | .slice (some (i,o)) n _=>AI (Nat.blt i s.next && Nat.ble n 1000) ((loadN s i o n).bind (LT s))
 | _=>none
theorem Oe{n:Int}(h:Bx .i64 n=true):i64 n:=by
 cases n with
 | ofNat m =>
  simp only[Bx,lA]at h
  have e:Int.ofNat m=(m:Int):=rfl
  rw[e]
  exact⟨by omega,by omega⟩
 | negSucc m=>simp only[Bx,lA]at h;exact⟨by omega,by omega⟩
theorem MP:∀ {l:List AV}{L:List Int},NS l=some L→l=A3 L∧Nw L
 | [],L,h=>by injection h with h;subst h;exact⟨rfl,(fun x hx=>by cases hx)⟩
 | v::l,L,h=>by
  unfold NS at h
  split at h
  ·rename_i e;cases e
  ·rename_i n l' e
   injection e with e1 e2
   subst e1;subst e2
   obtain⟨h1,h2⟩:=AK h
   simp only[km]at h2
   obtain⟨r,h3,h4⟩:=h2
   injection h4 with h4
   subst h4
   obtain⟨g1,g2⟩:=MP h3
   refine⟨by rw[g1];rfl,fun x hx=>?_⟩
   rcases lM.1 hx with rfl | hx
   ·exact Oe h1
   ·exact g2 x hx
  ·cases h
theorem MS{s:AG}{i o n:Nat}{l:List AV}(h:loadN s i o n=some l):l.length=n∧∀k u,l[k]? = some u→load1 s i (o+k)=some u:=by
  unfold loadN at h
  simp only[km]at h
  obtain⟨r,h1,h2⟩:=h
  obtain⟨h3,h4⟩:=AK h2
  have hl:=Ag.take_length h4
  refine⟨hl,fun k u hk=>?_⟩
  have hlt:k<n:=by
    rcases ks k n with h' | h'
    · exact h'
    · rw[lQ (by omega)]at hk;cases hk
  have h3:o+n≤r.n:=by simpa[lA]using h3
  exact B9        (by unfold rowAt at h1; split at h1; · injection h1 with h1; subst h1; assumption
                      · cases h1) (by omega) ((Ag.take_get h4 k hlt).trans hk)
theorem Gv{s:AG}{v:AV}{L:List Int}(h:Gu s v=some L):Ae s.next s v (A3 L)∧Nw L∧L.length≤1000:=by
 unfold Gu at h
 split at h
 ·obtain⟨h1,h2⟩:=AK h
  injection h2 with h2
  subst h2
  have:=lf h1
  subst this
  exact⟨⟨_,_,rfl,BM.nil⟩,(fun x hx=>by cases hx),by decide⟩
 ·rename_i i o n c
  obtain⟨h1,h2⟩:=AK h
  simp only[Bool.and_eq_true]at h1
  simp only[km]at h2
  obtain⟨l,h3,h4⟩:=h2
  obtain⟨g1,g2⟩:=MP h4
  obtain⟨g3,g4⟩:=MS h3
  subst g1
  have hn:L.length=n:=by rw[← g3];simp
  refine⟨⟨some (i,o),c,by rw[g3],fun k u hk=>⟨i,o,rfl,by simpa[lP]using h1.1,g4 k u hk⟩⟩,g2,?_⟩
  rw[hn]
  simpa[lA]using h1.2
 ·cases h
theorem JF{s:AG}:∀ {l:List AV}{cs:List (List Int)},LT s l=some cs→l.length=cs.length∧(∀ (k:Nat)(L:List Int),cs[k]? = some L→∃u:AV,l[k]? = some u∧Gu s u=some L)
 | [],cs,h=>by injection h with h;subst h;exact⟨rfl,fun k L hk=>by simp at hk⟩
 | v::l,cs,h=>by
  simp only[LT,km]at h
  obtain⟨L,h1,r,h2,h3⟩:=h
  injection h3 with h3
  subst h3
  obtain⟨g1,g2⟩:=JF h2
  refine⟨by simp[g1],fun k L' hk=>?_⟩
  cases k with
  | zero=>simp at hk;subst hk;exact⟨v,rfl,h1⟩
  | succ k=>simpa using g2 k L' (by simpa using hk)
theorem Te{s:AG}{l:List AV}{cs:List (List Int)}(h:LT s l=some cs)(hl:l.length≤1000):Uc cs:=by
 obtain⟨g1,g2⟩:=JF h
 refine⟨by omega,fun L hL=>?_⟩
 obtain⟨k,hk⟩:=List.mem_iff_getElem?.1 hL
 obtain⟨u,_,h2⟩:=g2 k L hk
 have:=Gv h2
 exact⟨this.2.1,by have:=this.2.2;omega⟩
theorem O8{s:AG}{v:AV}{cs:List (List Int)}(h:LS s v=some cs):Ui s.next s v cs∧Uc cs:=by
 unfold LS at h
 split at h
 ·obtain⟨h1,h2⟩:=AK h
  injection h2 with h2
  subst h2
  have:=lf h1
  subst this
  exact⟨⟨_,_,rfl,(fun k L hk=>by simp at hk)⟩,⟨by decide,(fun L hL=>by cases hL)⟩⟩
 ·rename_i i o n c
  obtain⟨h1,h2⟩:=AK h
  simp only[Bool.and_eq_true]at h1
  simp only[km]at h2
  obtain⟨l,h3,h4⟩:=h2
  obtain⟨g3,g4⟩:=MS h3
  obtain⟨g1,g2⟩:=JF h4
  refine⟨⟨some (i,o),c,by rw[← g3,g1],fun k L hk=>?_⟩,Te h4 (by rw[g3];simpa[lA]using h1.2)⟩
  obtain⟨u,k1,k2⟩:=g2 k L hk
  exact⟨i,o,u,rfl,by simpa[lP]using h1.1,g4 k u k1,(Gv k2).1⟩
 ·cases h
theorem Fu.forget     {P : Program} {ρ : Bp}  {s s1 : AG}  {w w' : World} {v : AV} {e : Ending} {m : Nat} (h : Fu     P ρ s w v s1 e w') (ho : B6  s.next s s1) (hm : s1.next ≤ m) (hf : BX     ρ s) : Fu     P ρ s w v ⟨m, s.heap⟩ e w' := by
  cases e with
  | panicked c=>exact h
  | outgrown=>exact h
  | returned v' =>
    obtain⟨ρ',h1,h2,h3⟩:=h
    have sub:∀i o,s.heap.get i=some o→s1.heap.get i=some o:=by
      intro i o hi
      have:i<s.next:=by
        rcases ks i s.next with h' | h'
        · exact h'
        · rw[(hf i h').2]at hi;cases hi
      rw[ho.2 i this];exact hi
    have hn:=ho.1
    refine⟨ρ',h1,⟨fun i o rb hi hr=>h2.obj i o rb (sub i o hi) hr,h2.lt,fun i j oi oj ri rj hne hi hj=>h2.sep i j oi oj ri rj hne (sub i oi hi) (sub j oj hj)⟩,
      ⟨h3.le,fun i hi hr=>h3.fresh i hi (hr.imp id fun(h':m≤i)=>by omega),lF hn hm,h3.size,h3.os,h3.tape,h3.output,h3.keep,?_,fun _ _ _=>rfl⟩⟩
    rintro b ⟨i,o,rb,k1,k2,k3,k4⟩
    exact h3.own b ⟨i,o,rb,sub i o k1,k2,k3,k4⟩
def gj:Y8:=fun f xs s=>bif Nat.beq f 17 then (match xs with
 | [v,u]=>(LS s v).bind fun cs=>(Gu s u).bind fun c=>(K1 100 cs c).bind fun b=>some (.bool b,⟨s.next+2,s.heap⟩)
 | _=>none)else none
theorem Xs:Good (env Try.prog):=⟨rfl,fun _ _ _ _=>rfl⟩
theorem aI(hm:Try.prog.follows .mixedOrders=true)(hng:Ee Try.prog):HQ Try.prog gj:=by
 intro ρ s w f xs v s1 xs' h hi hf ha
 unfold gj at h
 cases hb:Nat.beq f 17 with
 | false=>rw[hb]at h;cases h
 | true =>
  rw[hb]at h
  have:=lf hb
  subst this
  simp only[cond_true]at h
  split at h
  ·rename_i v0 u0
   simp only[km]at h
   obtain⟨cs,h1,c,h2,b,h3,h4⟩:=h
   injection h4 with h4
   injection h4 with h4 h5
   subst h4;subst h5
   obtain⟨g1,g2⟩:=O8 h1
   obtain⟨g3,g4,g5⟩:=Gv h2
   obtain⟨n,p,k1,k2,k3⟩:=RN Xs g2 g4 (by omega) g1 g3 h3
   have:=(kA hm hng rfl (YF Try.prog) n).call ρ s w 17 _ p.1 p.2 xs' k1 hi hf ha
   refine⟨this.1,CallsIn.mono this.2 fun e w' he=>?_⟩
   rw[k2]at he
   exact he.forget k3.1 (by rw[k3.2];exact kp _) hf
  ·cases h
def gc:BJ:=⟨Try.prog,gj⟩
theorem LK:Try.prog.follows .mixedOrders=true:=by kernel_rfl
theorem JA:LG Try.prog=true:=by kernel_rfl
theorem UX:S0 ((EN gc 100000).call 21 [] PR)=true:=by kernel_rfl
theorem NF           {n : Nat} {f : FuncId} (h : S0      ((EN   gc   n).call f [] PR)  = true) (w : World) :
    (∃fn c,Try.prog.funcs[f]? = some fn∧fn.body=some c)∧CallsIn Fence.wide 0 Try.prog f #[] w fun e w'=>e=.returned (.bool true)∧Ln w w'∧w'.tape=w.tape:=by
  cases hr:(EN gc n).call f [] PR with
  | none=>rw[hr]at h;cases h
  | some p =>
    obtain⟨v,s1⟩:=p
    rw[hr]at h
    cases v with
    | bool b =>
      have hb:b=true:=h
      subst hb
      have:=(kA LK (Ha JA) rfl (aI LK (Ha JA)) n).call YT PR w f [] _ _ #[] hr (jI _ w) Xq .nil
      refine⟨this.1,CallsIn.mono this.2 ?_⟩
      intro e w' he
      cases e with
      | panicked c=>exact he.elim
      | outgrown=>exact he.elim
      | returned v' =>
        obtain⟨ρ',h1,h2,h3⟩:=he
        cases h1
        exact⟨rfl,S2 h3 T4,h3.tape⟩
    | _=>cases h
def YD:Y8:=fun f xs s=>bif Nat.beq f 21 then (match xs with
 | []=>some (.bool true,s)
 | _=>none)else none
theorem aJ      : HQ     Try.prog YD   := by
  intro ρ s w f xs v s1 xs' h hi hf ha
  unfold YD at h
  cases hb:Nat.beq f 21 with
  | false=>rw[hb]at h;cases h
  | true =>
    rw[hb]at h
    have:=lf hb
    subst this
    simp only[cond_true]at h
    split at h
    · injection h with h
      injection h with h1 h2
      subst h1;subst h2
      have hx:xs'=#[]:=by
        have hl:=ha.length
        exact Array.eq_empty_of_size_eq_zero (by simpa using hl.symm)
      subst hx
      obtain⟨g1,g2⟩:=NF UX w
      refine⟨g1,CallsIn.mono g2 fun e w' he=>?_⟩
      obtain⟨rfl,hk,ht⟩:=he
      refine⟨ρ,.bool true,⟨fun i o rb hi' hr=>(hi.obj i o rb hi' hr).mono (Bp.le_refl ρ) (hk.heap rb.b (hi.lt i rb hr)),fun i rb hr=>lR (hi.lt i rb hr) hk.size,hi.sep⟩,
        ⟨Bp.le_refl ρ,fun _ h _=>h,kp _,hk.size,hk.os,ht,hk.output,fun b hb _=>hk.heap b hb,fun b hb=>.inl hb,fun _ _ _=>rfl⟩⟩
    · cases h
def jG:BJ:=⟨Try.prog,YD⟩
theorem Tg:Good jG:=by
 refine⟨rfl,fun f xs s hf=>?_⟩
 show YD f xs s=none
 unfold YD
 have:Nat.beq f 21=false:=by
  cases hb:Nat.beq f 21 with
  | true=>exact absurd (lf hb) hf
  | false=>rfl
 rw[this];rfl
end
end Go.Proofs.Ytilhhmkdcoajnaa.Am
set_option linter.unusedVariables false
set_option linter.unusedSimpArgs false
namespace Go.Proofs.Ytilhhmkdcoajnaa.Am
open Go
noncomputable section
section
variable{H:Type}{enc:TypeId×Value→H}{P:Program}{w:World}{held:Bool}
structure TJ(P:Program)(w:World)(ρ:Bp)(s:AG):Prop where
 inv:Bf P ρ s w
 fresh:BX ρ s
 ro:∀i o,s.heap.get i=some o→wr o=false
theorem jF(P:Program)(w:World):TJ P w YT PR:=⟨jI P w,Xq,fun i o h=>by cases h⟩
theorem TJ.notOwned{ρ:Bp}{s:AG}(h:TJ P w ρ s)(b:Nat):¬ GS ρ s b:=fun⟨i,o,rb,h1,h2,_⟩=>by rw[h.ro i o h1]at h2;cases h2
def hY(P:Program)(w:World){α:Type}(p:AG→List AV→α→Prop)(cs:List Value)(ρ:Bp)(s:AG):Prop:=
 ∃ρ' s' us x,TJ P w ρ' s'∧ρ.le ρ'∧B6 s.next s s'∧AS ρ' us cs∧p s' us x
end
def Dv(s:AG)(v:AV)(n sz:Nat)(cs:List AV)(O:List Nat):Prop:=
 (∃a,v=.slice a n (some n)∧O=[]∧cs.length=n * sz∧(a=none→n=0)∧∀i o,a=some (i,o)→i<s.next∧loadN s i o (n * sz)=some cs) ∨
 (∃i p,v=.slice (some (i,0)) n none∧Jp 0 s.next s v n sz cs i p∧O=i::p.toList)
theorem Dv.nil(s:AG)(sz:Nat):Dv s (.slice none 0 (some 0)) 0 sz [] []:=.inl ⟨none,rfl,rfl,by simp,fun _=>rfl,fun i o h=>by cases h⟩
theorem Dv.len{s:AG}{v:AV}{n sz:Nat}{cs:List AV}{O:List Nat}(h:Dv s v n sz cs O):cs.length=n * sz:=by
 rcases h with⟨a,h1,h2,h3,h4⟩ | ⟨i,p,h1,h2,h3⟩
 ·exact h3
 ·exact h2.len
theorem X7{s s':AG}{i o n:Nat}(h:s'.heap.get i=s.heap.get i):loadN s' i o n=loadN s i o n:=by unfold loadN rowAt;rw[h]
theorem Dv.lt   {s : AG}  {v : AV} {n sz : Nat} {cs : List AV} {O : List Nat} (h : Dv   s v n sz cs O) : ∀ j ∈ O, j < s.next := by
  rcases h with⟨a,h1,h2,h3,h4⟩ | ⟨i,p,h1,h2,h3⟩
  · subst h2;intro j hj;cases hj
  · subst h3
    intro j hj
    rcases h2.ex with⟨e,_⟩ | ⟨_,_,k2,k3,_⟩
    · rw[h1]at e;cases e
    · rcases lM.1            hj with rfl | hj
      · exact k2
      · cases p with
        | none=>cases hj
        | some q =>
          have:j=q:=by simpa using hj
          rw[this]
          exact(k3 q rfl).2.1
def EO:AV→Option Nat
 | .slice (some (i,_)) _ _=>some i
 | _=>none
theorem Dv.frame{s s':AG}{v:AV}{n sz:Nat}{cs:List AV}{O:List Nat}(h:Dv s v n sz cs O)(hn:s.next≤s'.next)(hf:∀j,EO v=some j→s'.heap.get j=s.heap.get j):Dv s' v n sz cs O:=by
 rcases h with⟨a,rfl,h2,h3,h4,h5⟩ | ⟨i,p,rfl,h2,h3⟩
 ·refine .inl ⟨a,rfl,h2,h3,h4,fun i o e=>?_⟩
  obtain⟨k1,k2⟩:=h5 i o e
  subst e
  exact⟨by omega,by rw[X7 (hf i rfl)];exact k2⟩
 ·exact .inr ⟨i,p,rfl,(h2.mono hn).frame fun _ _=>hf i rfl,h3⟩
theorem Dv.cells   {s : AG}  {v : AV} {n sz : Nat} {cs : List AV} {O : List Nat} (h : Dv   s v n sz cs O) : ∃ a cap, v = .slice a n cap ∧ BM      s.next s a cs := by
  rcases h with⟨a,rfl,h2,h3,h4,h5⟩ | ⟨i,p,rfl,h2,h3⟩
  · refine⟨a,_,rfl,fun k u hk=>?_⟩
    have hlt:k<cs.length:=by
      rcases ks k cs.length with h | h
      · exact h
      · rw[lQ h]at hk;cases hk
    cases a with
    | none=>rw[h4 rfl]at h3;simp at h3;subst h3;simp at hlt
    | some io =>
      obtain⟨i,o⟩:=io
      obtain⟨k1,k2⟩:=h5 i o rfl
      refine⟨i,o,rfl,k1,?_⟩
      unfold loadN at k2
      simp only[km]at k2
      obtain⟨r,g1,g2⟩:=k2
      have g3:Nat.ble (o+n * sz) r.n=true∧r.c.take o (n * sz)=some cs:=by
        cases hb:Nat.ble (o+n * sz) r.n with
        | true=>rw[hb]at g2;exact⟨rfl,g2⟩
        | false=>rw[hb]at g2;cases g2
      have g4:o+n * sz≤r.n:=by simpa[lA]using g3.1
      have g5:=Ag.take_get g3.2 k (by omega)
      rw[hk]at g5
      have g6:s.heap.get i=some (.row r):=by
        unfold rowAt at g1
        split at g1
        · injection g1 with g1;subst g1;assumption
        · cases g1
      exact B9 g6 (by omega) g5
  · obtain⟨a,cap,e,hc⟩:=h2.cells
    exact⟨a,cap,e,hc⟩
theorem Dv.append   {P : Program} {st xt e : TypeId} {sz by_ : Nat} (ht : P.underlying st = some (.slice e)) (hs : BD    P e = some sz) (hb : Cf     P e = some by_) (h0 : 0 < sz) (hx : BG           P xt = true) (hz : B8     P e sz = true) {s : AG}  {v : AV} {n : Nat} {cs : List AV} {O : List Nat} (h : Dv   s v n sz cs O)
    {ax:Option (Nat×Nat)} {m:Nat} {cx:Option Nat} {add:List AV} (hsrc:CK P s e sz (.slice ax m cx)=some (m,add)) (ha:add.length=m * sz) (hc:A7 add=true) (h1:(n+m) * by_≤1099511627776) (h2:n+m≤1099511627776):
    ∃v' s' O',Ad P s [st,xt] [v,.slice ax m cx]=some (v',s')∧Dv s' v' (n+m) sz (cs++add) O'∧s.next≤s'.next∧s'.next≤s.next+1∧(∀j,j<s.next→j ∉ O→s'.heap.get j=s.heap.get j)∧(∀j∈O',j∈O∨s.next≤j)∧(∀j,EO v'=some j→EO v=some j∨s.next≤j):=by
  have hlen:=h.len
  rcases mJ m with rfl | hm
  ·
    have hadd:add=[]:=by simp at ha;exact ha
    subst hadd
    rw[mE,mI]
    rcases h with⟨a,rfl,rfl,h3,h4,h5⟩ | ⟨i,p,rfl,h6,h7⟩
    · refine ⟨.slice a n (some n), s, [], ?_, .inl ⟨a, rfl, rfl, h3, h4, h5⟩, kp          _, mG          _, fun _ _ _ => rfl, fun j hj => (by cases hj), fun j hj => .inl hj⟩
      rw[Bs ht hs hb h0 hx hsrc hc h1 h2]
      cases a with
      | none=>rw[h4 rfl];rfl
      | some io =>
        obtain⟨i,o⟩:=io
        simp only[appTo,DA,mI,BY (kp n),cond_true,B7,Option.bind_some]
    · refine ⟨.slice (some (i, 0)) n none, s, O, ?_, .inr ⟨i, p, rfl, h6, h7⟩, kp          _, mG          _, fun _ _ _ => rfl, fun j hj => .inl hj, fun j hj => .inl hj⟩
      rw[Bs ht hs hb h0 hx hsrc hc h1 h2]
      rcases h6.ex with⟨e',_⟩ | ⟨_,k1,k2,k3,r,k4,k5,k6,k7,k8,k9⟩
      · cases e'
      · have hrow : rowAt s i = some r := by simp [rowAt, k4]
        have hrn:r.n=n * sz:=by rw[k5.1,h6.len]
        simp only[appTo,hrow,Option.bind_some,Dh,k8,D1 rfl,AI,cond_true,mI,lD]
        rw[show Nat.ble (n * sz) r.n=true from BY (by omega)]
        simp only[cond_true,B7,Option.bind_some]
  · rcases h with ⟨a, rfl, rfl, h3, h4, h5⟩ | ⟨i, p, rfl, h6, h7⟩
    ·
      refine⟨.slice (some (s.next,0)) (n+m) none,newObj s (Ca e sz (Ag.fill .leaf 0 (cs++add)) (cs++add).length none),[s.next],?_,?_,mG _,kp _,fun j hj _=>by rw[AY,if_neg (by omega)],fun j hj=>by simp at hj;right;omega,fun j hj=>by simp[EO]at hj;right;omega⟩
      · rw[Bs ht hs hb h0 hx hsrc hc h1 h2]
        cases a with
        | none =>
          have hn0:=h4 rfl
          subst hn0
          have:cs=[]:=by simp at h3;exact h3
          subst this
          simp only[appTo,Di (show m≠0 by omega),cond_false,Bg,AI,hz,cond_true,lZ,lD]
        | some io =>
          obtain⟨i,o⟩:=io
          obtain⟨k1,k2⟩:=h5 i o rfl
          simp only[appTo,DA,FF (show n<n+m by omega),cond_false,k2,Option.bind_some,Bg,AI,hz,cond_true]
      · refine .inr ⟨s.next,none,rfl,⟨by rw[kr,h3,ha,lj],.inr ⟨rfl,ku _,lW _,fun q hq=>(by cases hq),_,by rw[AY,if_pos rfl];rfl,⟨rfl,?_⟩,rfl,rfl,rfl,rfl⟩⟩,rfl⟩
        intro k u hk
        have hlt:k<(cs++add).length:=by
          rcases ks k (cs++add).length with h' | h'
          · exact h'
          · rw[lQ h']at hk;cases hk
        show(Ag.fill .leaf 0 (cs++add)).get k=some u
        rw[Ag.get_fill,if_pos ⟨ku _,by omega⟩]
        simpa using hk
    · obtain⟨a,cap,v',s',e1,e2,i',p',g1,g2,g3,g4,g5,g6,_⟩:=h6.appTo (kp _) (ku _) hz h0 ha hm
      injection e1 with e1 e3 e4
      subst e1;subst e4
      have hv':v'=.slice (some (i',0)) (n+m) none:=by
        rcases g1.ex with⟨_,e⟩ | ⟨e,_⟩
        · omega
        · exact e
      refine⟨v',s',i'::p'.toList,?_,.inr ⟨i',p',hv',g1,rfl⟩,g2.1,by omega,?_,?_,?_⟩
      · rw[Bs ht hs hb h0 hx hsrc hc h1 h2]
        exact e2
      · intro j hj hO
        subst h7
        refine g2.2 j hj (fun e=>hO (by simp[e])) (fun e=>hO (by simp[e]))
      · intro j hj
        subst h7
        rcases lM.1 hj with rfl | hj
        · right;omega
        · rcases g5 with rfl | rfl
          · cases hj
          · simp at hj;left;simp[hj]
      · intro j hj
        rw[hv']at hj
        simp[EO]at hj
        right;omega
theorem KB{P:Program}{e:TypeId}{s:AG}{i:Nat}{cs:List AV}{n:Nat}{cap:Option Nat}{sz:Nat}(ty:TypeId)(z:Nat)(hg:s.heap.get i=some (AO ty z cs))(hl:cs.length=n * sz):CK P s e sz (.slice (some (i,0)) n cap)=some (n,cs):=by
 obtain⟨r,h1,h2,_⟩:=CP ty z cs
 rw[h1]at hg
 have:=Gm hg h2 0 cs (by omega) (fun j u hj=>by simpa using hj)
 rw[hl]at this
 simp[CK,Mk this]
end
end Go.Proofs.Ytilhhmkdcoajnaa.Am
set_option linter.unusedVariables false
set_option linter.unusedSimpArgs false
namespace Go.Proofs.Ytilhhmkdcoajnaa.Am
open Go Go.Proofs
noncomputable section
theorem DP{α:Type}{L l:List α}{k:Nat}{x:α}(h:L.drop k=x::l):k<L.length∧L[k]? = some x∧L.drop (k+1)=l:=by
 refine⟨?_,?_,?_⟩
 ·have:=congrArg List.length h
  simp at this;omega
 ·have:=congrArg (fun l=>l[0]?) h
  simpa using this
 ·rw[← mB,h];rfl
theorem Fd{α:Type}{L:List α}{k:Nat}(h:L.drop k=[])(hk:k≤L.length):k=L.length:=by
 have:=congrArg List.length h
 simp at this;omega
theorem Mv(s:AG)(loc var:List AV)(f:AG→List AV→Option AV)(xs:List CX)(a:CX):Fx s loc var ⟨none,.r f,xs,a⟩=TD (f s (Qh loc var xs)) (Da loc var a):=by
 simp[Fx,Ns,Eb,BW]
theorem Ap(u v:AV):TD (some u) v=Fs u v:=rfl
theorem Cj{P:Program}{t e:TypeId}(ht:P.underlying t=some (.slice e))(hs:BD P e=some 1){z v:AV}(hz:CL P e=some z)(hzc:z.cells.length=1)(hv:v.cells=[v]):
  Ab P t 1 (zipIdx [0] [v])=some (AO e 1 [v]):=by
 have hzl:(J8 z.cells 1).length=1:=by simp[J8,hzc]
 have:∃c,J8 z.cells 1=[c]:=List.length_eq_one_iff.1 hzl
 obtain⟨c,hc⟩:=this
 simp[Ab,ht,hs,AI,hz,hzc,zipIdx,Dk,hv,hc]
 rfl
theorem Ut{P:Program}{t e:TypeId}(ht:P.underlying t=some (.slice e))(hs:BD P e=some 1){z:AV}(hz:CL P e=some z)(hzc:z.cells.length=1):
  Ab P t 0 (zipIdx [] [])=some (AO e 1 []):=by
 simp[Ab,ht,hs,AI,hz,hzc,zipIdx,Dk,J8]
 rfl
theorem Id:B8 Try.prog 3 1=true:=by simp[B8,Pd,AV.cells]
theorem UQ(t:TypeId)(e:TypeId)(h:Try.prog.underlying t=some (.slice e)):BG Try.prog t=true:=by simp[BG,h]
theorem L8(L:List Int):A7 (A3 L)=true:=by
 induction L with
 | nil=>rfl
 | cons x l ih=>simpa[A7,AV.isCell]using ih
theorem Dv.slot_lt{s:AG}{v:AV}{n sz:Nat}{cs:List AV}{O:List Nat}(hd:Dv s v n sz cs O):∀j,EO v=some j→j<s.next:=by
 intro j hj
 rcases hd with⟨a,rfl,h2,h3,h4,h5⟩ | ⟨i,p,rfl,h2,h3⟩
 ·cases a with
  | none=>cases hj
  | some io=>obtain⟨i,o⟩:=io;simp[EO]at hj;subst hj;exact(h5 i o rfl).1
 ·simp[EO]at hj;subst hj
  rcases h2.ex with⟨e,_⟩ | ⟨_,_,k2,_⟩
  ·cases e
  ·exact k2
theorem Dv.new{s:AG}{v:AV}{n sz:Nat}{cs:List AV}{O:List Nat}(hd:Dv s v n sz cs O)(o:Cl):Dv (newObj s o) v n sz cs O:=
 hd.frame (mG _) fun j hj=>by rw[AY,if_neg (by have:=hd.slot_lt j hj;omega)]
theorem Dv.slice{s:AG}{v:AV}{n:Nat}{cs:List AV}{O:List Nat}(hd:Dv s v n 1 cs O):Ae s.next s v cs:=by
 obtain⟨a,cap,h1,h2⟩:=hd.cells
 have:=hd.len
 exact⟨a,cap,by rw[this,lY];exact h1,h2⟩
def jZ{α:Type}(l:List α):Option Nat→List α
 | none=>l
 | some i=>l.take i++l.drop (i+1)
theorem Mz{P:Program}{t:TypeId}{k:IntKind}{a b:Int}(ha:0≤a)(hb:0<b):AM P .rem t (.int k a) (.int k b)=some (.int k (a % b)):=by
 have hne:b≠0:=by omega
 have e1:a.tmod b=a % b:=Int.tmod_eq_emod_of_nonneg ha
 have hk:Bb k k=true:=by cases k<;>rfl
 show AI (Bb k k) ((EX P (Op.intDiv .rem k a b)).bind ofValue)=_
 rw[hk]
 unfold Op.intDiv
 rw[if_neg hne,e1]
 rfl
def i8(n:Int):Prop:=-128≤n∧n≤127
theorem aD(a b:Int):D8 true (iv a) [iv b]=some (iv (max a b)):=by
 show AI true (some (AV.int .i64 (bif On a b then b else a)))=_
 rw[D7]
 by_cases h:a<b
 ·rw[decide_eq_true h];simp only[cond_true,AI];rw[Int.max_eq_right (by omega)]
 ·rw[decide_eq_false h];simp only[cond_false,AI,cond_true];rw[Int.max_eq_left (by omega)]
theorem Ae.keep{b:Nat}{s s':AG}{u:AV}{cs:List AV}(h:Ae b s u cs)(k:∀j,EO u=some j→s'.heap.get j=s.heap.get j):Ae b s' u cs:=by
 obtain⟨a,cap,rfl,hc⟩:=h
 refine⟨a,cap,rfl,fun x y hy=>?_⟩
 obtain⟨i,o,rfl,h2,h3⟩:=hc x y hy
 exact⟨i,o,rfl,h2,by rw[Fk (k i rfl)];exact h3⟩
theorem UC{s:AG}{v:AV}{L:List Int}{O:List Nat}(hd:Dv s v L.length 1 (A3 L) O)(hl:L.length≤1000000000)(x:Int):
  ∃v' s' O',Ad Try.prog (newObj s (AO 3 1 [iv x])) [23,23] [v,.slice (some (s.next,0)) 1 (some 1)]=some (v',s')∧Dv s' v' (L++[x]).length 1 (A3 (L++[x])) O'∧s.next≤s'.next ∧
   (∀j,j<s.next→j ∉ O→s'.heap.get j=s.heap.get j)∧(∀j∈O',j∈O∨s.next≤j)∧(∀j,EO v'=some j→EO v=some j∨s.next≤j):=by
 have c1:=KB (P:=Try.prog) (e:=3) (s:=newObj s (AO 3 1 [iv x])) (n:=1) (cap:=some 1) (sz:=1) 3 1 (by rw[AY,if_pos rfl]) rfl
 obtain⟨v',s',O',h1,h2,h3,h4,h5,h6,h7⟩:=(hd.new (AO 3 1 [iv x])).append (P:=Try.prog) (st:=23) (xt:=23) Try.underlying23 Be Y0 (by decide) (UQ 23 3 Try.underlying23) Id c1 rfl rfl (by omega) (by omega)
 have hn:(newObj s (AO 3 1 [iv x])).next=s.next+1:=rfl
 refine⟨v',s',O',h1,?_,by omega,?_,?_,?_⟩
 ·simpa using h2
 ·intro j hj ho
  rw[h5 j (by omega) ho,AY,if_neg (by omega)]
 ·intro j hj
  exact(h6 j hj).imp id (fun h=>by omega)
 ·intro j hj
  exact(h7 j hj).imp id (fun h=>by omega)
theorem LY{s:AG}{i o:Nat}{r:EI}{vs:List AV}(hg:s.heap.get i=some (.row r))(hm:r.mode=.own)(hp:r.par=none)(hne:vs≠[])(ho:o+vs.length≤r.n)(hc:A7 vs=true):
  B7 s i o vs=some (setObj s i (.row { r with c:=r.c.fill o vs,par:=none })):=by
 cases vs with
 | nil=>exact absurd rfl hne
 | cons v vs =>
  have hb:=BY ho
  simp only[B7,rowAt,hg,Option.bind_some,hm,EK,hb,hc,Bool.and_self,AI,cond_true,Al,hp]
abbrev Fw:=List (Bool×List Int)
def B1(b:Nat)(s:AG)(us:List AV)(T:Fw):Prop:=us.length=T.length * 2∧∀ (k:Nat)(d:Bool)(L:List Int),T[k]? = some (d,L)→us[k * 2]? = some (.bool d)∧∃u:AV,us[k * 2+1]? = some u∧Ae b s u (A3 L)
theorem B1.mono{b b':Nat}{s:AG}{us:List AV}{T:Fw}(h:B1 b s us T)(k:b≤b'):B1 b' s us T:=
 ⟨h.1,fun j d L hj=>let ⟨h0,u,h1,h2⟩:=h.2 j d L hj;⟨h0,u,h1,h2.mono k⟩⟩
theorem B1.keep{b:Nat}{s s':AG}{us:List AV}{T:Fw}(h:B1 b s us T)(k:∀u∈us,∀j,EO u=some j→s'.heap.get j=s.heap.get j):B1 b s' us T:=
 ⟨h.1,fun j d L hj=>let ⟨h0,u,h1,h2⟩:=h.2 j d L hj;⟨h0,u,h1,h2.keep (k u (kq h1))⟩⟩
theorem B1.nil(b:Nat)(s:AG):B1 b s [] []:=⟨rfl,fun k d L h=>by simp at h⟩
theorem B1.snoc{b:Nat}{s:AG}{us:List AV}{T:Fw}(h:B1 b s us T){d:Bool}{u:AV}{L:List Int}(hu:Ae b s u (A3 L)):B1 b s (us++[.bool d,u]) (T++[(d,L)]):=by
 refine⟨by simp[h.1];omega,fun k d' L' hk=>?_⟩
 rcases ks k T.length with hlt | hge
 ·rw[lG hlt]at hk
  obtain⟨h0,u',h1,h2⟩:=h.2 k d' L' hk
  have hl:=h.1
  exact⟨by rw[lG (by omega)];exact h0,u',by rw[lG (by omega)];exact h1,h2⟩
 ·rw[lL hge]at hk
  have hk0:k=T.length:=by
   rcases ks (k - T.length) 1 with h' | h'
   ·omega
   ·rw[lQ (by simpa using h')]at hk;cases hk
  subst hk0
  rw[mH]at hk
  simp at hk
  obtain⟨rfl,rfl⟩:=hk
  have hl:=h.1
  refine⟨?_,u,?_,hu⟩
  ·rw[lL (by omega),hl,mH];rfl
  ·rw[lL (by omega),hl,show T.length * 2+1 - T.length * 2=1 from by omega];rfl
def u8(n:Int):Prop:=0≤n∧n≤255
theorem NG{s:AG}{n:Int}(h:u8 n):Ck Try.prog s 5 3 (.int .u8 n)=some (iv n):=by
 obtain⟨h1,h2⟩:=h
 simp[Ck,Try.underlying5,Try.underlying3,EP (n:=n) ⟨by omega,by omega⟩]
theorem gu:B8 Try.prog 27 2=true:=by simp[B8,Yy,AV.cells]
theorem KM{d:Bool}{u:AV}:Ab Try.prog 33 1 (zipIdx [0] [.agg [.bool d,u]])=some (AO 27 2 [.bool d,u]):=by
 simp[Ab,Try.underlying33,jR,AI,Yy,zipIdx,Dk,J8,AV.cells]
 rfl
theorem Ae.isCell{b:Nat}{s:AG}{u:AV}{cs:List AV}(h:Ae b s u cs):u.isCell=true∧u.cells=[u]:=by
 obtain⟨a,cap,rfl,_⟩:=h
 exact⟨rfl,rfl⟩
def VB:List AA:=[
 ⟨none,.p1 some,[(.const (.int .i64 (0)))],(.set 1),[]⟩]
def fQ:List AA:=[
 ⟨none,.r1 (fun s x=>Ck Try.prog s 133 145 x),[.var 0],.push,[]⟩,
 ⟨none,.call 126,[.loc 0],.push,[]⟩,
 ⟨none,.p1 some,[.loc 0],(.set 1),[]⟩]
def VC:List AA:=[
 ⟨none,.call 127,[.var 0],.push,[]⟩,
 ⟨none,.p1 some,[.loc 0],(.set 1),[]⟩]
def iV:As:=⟨1,2,(.seq (.ops VB) (.seq (.cond (.const (.bool false))
 (.seq (.ops fQ) .ret)
 .skip) (.seq (.ops VC) .ret))),[((.var 1),none)]⟩
def Vh:List AA:=[
 ⟨none,.p1 some,[(.const (.bool false))],(.set 2),[]⟩]
def Vi:List AA:=[
 ⟨none,.call 134,[.var 0],.push,[]⟩,
 ⟨(some ((.loc 0),true)),.p1 some,[.var 1],.push,[]⟩,
 ⟨(some ((.loc 1),true)),.call 134,[.loc 0],.push,[]⟩,
 ⟨(some ((.loc 2),true)),.p1 (G3 Try.prog Go.UnOp.not),[.loc 0],.push,[]⟩,
 ⟨none,.p Rn,[(.loc 3),(.loc 0),(.const (.bool false))],.push,[]⟩,
 ⟨(some ((.loc 0),false)),.p1 some,[.var 0],.push,[]⟩,
 ⟨(some ((.loc 1),false)),.p1 some,[.var 1],.push,[]⟩,
 ⟨(some ((.loc 2),false)),.p2 (AM Try.prog .lss 3),[.loc 1,.loc 0],.push,[]⟩,
 ⟨none,.p Rn,[(.loc 3),(.const (.bool true)),(.loc 0)],.push,[]⟩,
 ⟨none,.p1 some,[.loc 0],(.set 2),[]⟩]
def ia:As:=⟨2,3,(.seq (.ops Vh) (.seq (.ops Vi) .ret)),[((.var 2),none)]⟩
def Vj:List AA:=[
 ⟨none,.p1 some,[(.const (.int .i64 (0)))],(.set 1),[]⟩]
def Vk:List AA:=[
 ⟨none,.p2 (AM Try.prog .geq 147),[(.var 0),(.const (.int .u64 (4294967296)))],(.set 2),[]⟩]
def fT:List AA:=[
 ⟨none,.p1 some,[.var 0],.push,[]⟩,
 ⟨none,.p2 (AM Try.prog .shr 147),[(.loc 0),(.const (.int .u64 (32)))],.push,[]⟩,
 ⟨none,.p1 some,[.loc 0],(.set 0),[]⟩]
def fU:List AA:=[
 ⟨none,.p1 some,[(.const (.int .i64 (32)))],(.set 1),[]⟩]
def Vl:List AA:=[
 ⟨none,.p2 (AM Try.prog .geq 147),[(.var 0),(.const (.int .u64 (65536)))],(.set 3),[]⟩]
def fV:List AA:=[
 ⟨none,.p1 some,[.var 0],.push,[]⟩,
 ⟨none,.p2 (AM Try.prog .shr 147),[(.loc 0),(.const (.int .u64 (16)))],.push,[]⟩,
 ⟨none,.p1 some,[.loc 0],(.set 0),[]⟩]
def fW:List AA:=[
 ⟨none,.p1 some,[.var 1],.push,[]⟩,
 ⟨none,.p2 (AM Try.prog .add 3),[(.loc 0),(.const (.int .i64 (16)))],.push,[]⟩,
 ⟨none,.p1 some,[.loc 0],(.set 1),[]⟩]
def Vm:List AA:=[
 ⟨none,.p2 (AM Try.prog .geq 147),[(.var 0),(.const (.int .u64 (256)))],(.set 4),[]⟩]
def fX:List AA:=[
 ⟨none,.p1 some,[.var 0],.push,[]⟩,
 ⟨none,.p2 (AM Try.prog .shr 147),[(.loc 0),(.const (.int .u64 (8)))],.push,[]⟩,
 ⟨none,.p1 some,[.loc 0],(.set 0),[]⟩]
def fY:List AA:=[
 ⟨none,.p1 some,[.var 1],.push,[]⟩,
 ⟨none,.p2 (AM Try.prog .add 3),[(.loc 0),(.const (.int .i64 (8)))],.push,[]⟩,
 ⟨none,.p1 some,[.loc 0],(.set 1),[]⟩]
def Sa:List AA:=[
 ⟨none,.p1 some,[.var 1],.push,[]⟩,
 ⟨none,.r1 (fun s x=>Ck Try.prog s 147 5 x),[.var 0],.push,[]⟩,
 ⟨none,.p2 (HX Try.prog 9),[(.const (.str [0,1,2,2,3,3,3,3,4,4,4,4,4,4,4,4,5,5,5,5,5,5,5,5,5,5,5,5,5,5,5,5,6,6,6,6,6,6,6,6,6,6,6,6,6,6,6,6,6,6,6,6,6,6,6,6,6,6,6,6,6,6,6,6,7,7,7,7,7,7,7,7,7,7,7,7,7,7,7,7,7,7,7,7,7,7,7,7,7,7,7,7,7,7,7,7,7,7,7,7,7,7,7,7,7,7,7,7,7,7,7,7,7,7,7,7,7,7,7,7,7,7,7,7,7,7,7,7,8,8,8,8,8,8,8,8,8,8,8,8,8,8,8,8,8,8,8,8,8,8,8,8,8,8,8,8,8,8,8,8,8,8,8,8,8,8,8,8,8,8,8,8,8,8,8,8,8,8,8,8,8,8,8,8,8,8,8,8,8,8,8,8,8,8,8,8,8,8,8,8,8,8,8,8,8,8,8,8,8,8,8,8,8,8,8,8,8,8,8,8,8,8,8,8,8,8,8,8,8,8,8,8,8,8,8,8,8,8,8,8,8,8,8,8,8,8,8,8,8,8,8,8,8,8,8,8])),(.loc 0)],.push,[]⟩,
 ⟨none,.r1 (fun s x=>Ck Try.prog s 5 3 x),[.loc 0],.push,[]⟩,
 ⟨none,.p2 (AM Try.prog .add 3),[.loc 3,.loc 0],.push,[]⟩,
 ⟨none,.p1 some,[.loc 0],(.set 1),[]⟩]
def ib:As:=⟨1,5,(.seq (.ops Vj) (.seq (.seq (.ops Vk) (.cond (.var 2)
 (.seq (.ops fT) (.ops fU))
 .skip)) (.seq (.seq (.ops Vl) (.cond (.var 3)
 (.seq (.ops fV) (.ops fW))
 .skip)) (.seq (.seq (.ops Vm) (.cond (.var 4)
 (.seq (.ops fX) (.ops fY))
 .skip)) (.seq (.ops Sa) .ret))))),[((.var 1),none)]⟩
def Vn:List AA:=[
 ⟨none,.p1 some,[(.const (.bool false))],(.set 1),[]⟩]
def Vo:List AA:=[
 ⟨none,.p2 (AM Try.prog .neq 3),[.var 0,.var 0],.push,[]⟩,
 ⟨none,.p1 some,[.loc 0],(.set 1),[]⟩]
def ic:As:=⟨1,2,(.seq (.ops Vn) (.seq (.ops Vo) .ret)),[((.var 1),none)]⟩
theorem Zr:AR Try.prog 109=some iV:=by kernel_rfl
theorem Zy:AR Try.prog 123=some ia:=by kernel_rfl
theorem Zz:AR Try.prog 127=some ib:=by kernel_rfl
theorem Z0:AR Try.prog 134=some ic:=by kernel_rfl
def Bq(s:AG)(i:Nat)(cs:List AV):Prop:=∃r,s.heap.get i=some (.row r)∧JR r cs∧r.mode=.own∧r.par=none∧r.sz=1
theorem Bq.keep{s s':AG}{i:Nat}{cs:List AV}(h:Bq s i cs)(k:s'.heap.get i=s.heap.get i):Bq s' i cs:=by
 obtain⟨r,h1,h2⟩:=h
 exact⟨r,k.trans h1,h2⟩
theorem Af{α:Type}{l:List α}{k:Nat}{u:α}(h:l[k]? = some u):k<l.length:=by
 rcases ks k l.length with h' | h'
 ·exact h'
 ·rw[lQ h']at h;cases h
theorem Bq.load1{s:AG}{i k:Nat}{cs:List AV}{u:AV}(h:Bq s i cs)(hk:cs[k]? = some u):load1 s i k=some u:=by
 obtain⟨r,h1,h2,_⟩:=h
 exact B9 h1 (by rw[h2.1];exact Af hk) (h2.2 k u hk)
theorem Bq.load{s:AG}{i k:Nat}{cs:List AV}{u:AV}(h:Bq s i cs)(hk:cs[k]? = some u):AC Try.prog s 3 (.ptr (some (i,0+k * 1)))=some u:=by
 rw[lD,lY];exact CG Df (h.load1 hk)
theorem Bq.fill    {s : AG}  {i o : Nat} {cs vs : List AV} (h : Bq    s i cs) (hne : vs ≠ []) (ho : o + vs.length ≤ cs.length) (hc : A7       vs = true) :
    ∃s',B7 s i o vs=some s'∧Bq s' i (cs.take o++vs++cs.drop (o+vs.length))∧s'.next=s.next∧∀x,x≠i→s'.heap.get x=s.heap.get x:=by
  obtain⟨r,h1,h2,h3,h4,h5⟩:=h
  refine⟨_,LY h1 h3 h4 hne (by rw[h2.1];exact ho) hc,⟨{ r with c:=r.c.fill o vs,par:=none },by rw[BL,if_pos rfl],⟨?_,?_⟩,h3,rfl,h5⟩,rfl,fun x hx=>by rw[BL,if_neg hx]⟩
  · show r.n=_
    rw[h2.1];simp;omega
  · intro k u hk
    show(Ag.fill r.c o vs).get k=some u
    rw[Ag.get_fill]
    by_cases hin:o≤k∧k<o+vs.length
    · rw [if_pos hin]
      rw[mD,lL (by simp;omega),lG (by simp;omega)]at hk
      have:(cs.take o).length=o:=by simp;omega
      rw[this]at hk
      exact hk
    · rw [if_neg hin]
      refine h2.2 k u ?_
      rcases ks k o with hlt | hge
      · rw[mD,lG (by simp;omega),mY,if_pos hlt]at hk
        exact hk
      · rw[lL (by simp;omega),lX]at hk
        have e:o+vs.length+(k - (cs.take o++vs).length)=k:=by simp;omega
        rw[e]at hk
        exact hk
theorem Bq.store{s:AG}{i k:Nat}{A B:List AV}{w u:AV}(h:Bq s i (A++w::B))(hk:A.length=k)(h1:u.isCell=true)(h2:u.cells=[u]):
  ∃s',AN Try.prog s 3 (.ptr (some (i,0+k * 1))) u=some s'∧Bq s' i (A++u::B)∧s'.next=s.next∧∀x,x≠i→s'.heap.get x=s.heap.get x:=by
 subst hk
 obtain⟨s',g1,g2,g3,g4⟩:=h.fill (o:=A.length) (vs:=[u]) (by simp) (by simp) (by simp[A7,h1])
 refine⟨s',?_,?_,g3,g4⟩
 ·simp[AN,Be,h2,AI,g1]
 ·have e:(A++w::B).take A.length++[u]++(A++w::B).drop (A.length+[u].length)=A++u::B:=by
   rw[List.take_left',List.drop_append]
   ·simp
   ·rfl
  rw[e]at g2
  exact g2
theorem RT(A B:List Int):A3 (A++B)=A3 A++A3 B:=by simp
theorem EG(A:List Int):(A3 A).length=A.length:=by simp
theorem FI{A B:List AV}{w:AV}{k:Nat}(hk:A.length=k):(A++w::B)[k]? = some w:=by
 subst hk;simp
theorem gi{E:BJ}(hE:Good E){s:AG}(x:Int):WF E 134 [iv x] (fun r s'=>r=.bool false∧s=s') s:=by
 refine hE.go Z0 (by decide) rfl ?_
 simp only[ic,Vn,Vo,ne_eq,not_true,decide_false,Qa,Qb,Qc,Qd,Qe,Qf,Qg,Qh,Qi,Qj,Qk,Ql,Qm,Qn,true_and,and_true,Qo,Qp,Qq,Qr,Qs,Qt,Qu,Qv,Qw,Qx,Qy,Qz,Ra,Rb,Rc,Rd,Re,Rf,Rg,Rh,Ri,Rj,Rk,Rl,Rm,Ya,Yb,Yc,Rn,Ro,Rp,Yd,Ye,Rq,Rs,Rt,Ru,Rv,Rw,Rx]
theorem aB{E:BJ}(hE:Good E){s:AG}(x y:Int):WF E 123 [iv x,iv y] (fun r s'=>r=.bool (decide (x<y))∧s=s') s:=by
 refine hE.go Zy (by decide) rfl ?_
 simp only[ia,Vh,Vi,Qa,Qb,Qc,Qd,Qe,Qf,Qg,Qh,Qi,Qj,Qk,Ql,Qm,Qn,true_and,and_true,Qo,Qp,Qq,Qr,Qs,Qt,Qu,Qv,Qw,Qx,Qy,Qz,Ra,Rb,Rc,Rd,Re,Rf,Rg,Rh,Ri,Rj,Rk,Rl,Rm,Ya,Yb,Yc,Rn,Ro,Rp,Yd,Ye,Rq,Rs,Rt,Ru,Rv,Rw,Rx]
 refine(gi hE x).mono ?_
 rintro _ _ ⟨rfl,rfl⟩
 simp only[Qa,Qb,Qc,Qd,Qe,Qf,Qg,Qh,Qi,Qj,Qk,Ql,Qm,Qn,true_and,and_true,Qo,Qp,Qq,Qr,Qs,Qt,Qu,Qv,Qw,Qx,Qy,Qz,Ra,Rb,Rc,Rd,Re,Rf,Rg,Rh,Ri,Rj,Rk,Rl,Rm,Ya,Yb,Yc,Rn,Ro,Rp,Yd,Ye,Rq,Rs,Rt,Ru,Rv,Rw,Rx]
theorem Z3(t:TypeId)(a b:Int):AM Try.prog .geq t (.int .u64 a) (.int .u64 b)=some (.bool (decide (b≤a))):=by
 show some (AV.bool (!On a b))=_
 rw[D7,← decide_not]
 congr 3
 exact propext Int.not_lt
theorem jH{n:Int}(h:u8 n):Bx .u8 n=true:=by
 obtain⟨h1,h2⟩:=h
 cases n with
 | ofNat m =>
  have h3:(m:Int)≤255:=h2
  simp[Bx];omega
 | negSucc m=>omega
theorem gf{n:Int}(h:u8 n):Bx .u64 n=true:=by
 obtain⟨h1,h2⟩:=h
 cases n with
 | ofNat m =>
  have h3:(m:Int)≤255:=h2
  simp[Bx];omega
 | negSucc m=>omega
theorem gp{l:List Nat}{n m:Nat}(h:l[n]? = some m):HX Try.prog 9 (.str l) (.int .u8 (n:Int))=some (.int .u8 (m:Int)):=by
 simp[HX,E5,C1,Try.underlying9,h]
def ey:List Nat:=[0,1,2,2,3,3,3,3,4,4,4,4,4,4,4,4,5,5,5,5,5,5,5,5,5,5,5,5,5,5,5,5,6,6,6,6,6,6,6,6,6,6,6,6,6,6,6,6,6,6,6,6,6,6,6,6,6,6,6,6,6,6,6,6,7,7,7,7,7,7,7,7,7,7,7,7,7,7,7,7,7,7,7,7,7,7,7,7,7,7,7,7,7,7,7,7,7,7,7,7,7,7,7,7,7,7,7,7,7,7,7,7,7,7,7,7,7,7,7,7,7,7,7,7,7,7,7,7,8,8,8,8,8,8,8,8,8,8,8,8,8,8,8,8,8,8,8,8,8,8,8,8,8,8,8,8,8,8,8,8,8,8,8,8,8,8,8,8,8,8,8,8,8,8,8,8,8,8,8,8,8,8,8,8,8,8,8,8,8,8,8,8,8,8,8,8,8,8,8,8,8,8,8,8,8,8,8,8,8,8,8,8,8,8,8,8,8,8,8,8,8,8,8,8,8,8,8,8,8,8,8,8,8,8,8,8,8,8,8,8,8,8,8,8,8,8,8,8,8,8,8,8,8,8,8,8]
set_option maxRecDepth 20000 in
theorem X5{E:BJ}(hE:Good E){s:AG}(n:Nat)(hn:n≤12):WF E 127 [.int .u64 (n:Int)] (fun r s'=>(∃m:Int,r=iv m)∧s=s') s:=by
 refine hE.go Zz (by decide) rfl ?_
 have g1:decide ((4294967296:Int)≤(n:Int))=false:=decide_eq_false (by omega)
 have g2:decide ((65536:Int)≤(n:Int))=false:=decide_eq_false (by omega)
 have g3:decide ((256:Int)≤(n:Int))=false:=decide_eq_false (by omega)
 have g4:Ck Try.prog s 147 5 (.int .u64 (n:Int))=some (.int .u8 (n:Int)):=by
  simp[Ck,Try.underlying147,Try.underlying5,Ll (jH (n:=n) ⟨by omega,by omega⟩)]
 have g5:∃m:Nat,m≤4∧HX Try.prog 9 (.str ey) (.int .u8 (n:Int))=some (.int .u8 (m:Int)):=by
  have:n=0∨n=1∨n=2∨n=3∨n=4∨n=5∨n=6∨n=7∨n=8∨n=9∨n=10∨n=11∨n=12:=by omega
  rcases this with rfl | rfl | rfl | rfl | rfl | rfl | rfl | rfl | rfl | rfl | rfl | rfl | rfl<;>exact⟨_,by decide,gp rfl⟩
 obtain⟨m,hm,g5⟩:=g5
 have g6:Ck Try.prog s 5 3 (.int .u8 (m:Int))=some (iv (m:Int)):=NG ⟨by omega,by omega⟩
 have g7:=Ao Try.prog 3 0 (m:Int) ⟨by omega,by omega⟩
 unfold ey at g5
 simp only[ib,Vj,Vk,Vl,Vm,Sa,Z3,g1,g2,g3,g4,g5,g6,g7,Qa,Qb,Qc,Qd,Qe,Qf,Qg,Qh,Qi,Qj,Qk,Ql,Qm,Qn,true_and,and_true,Qo,Qp,Qq,Qr,Qs,Qt,Qu,Qv,Qw,Qx,Qy,Qz,Ra,Rb,Rc,Rd,Re,Rf,Rg,Rh,Ri,Rj,Rk,Rl,Rm,Ya,Yb,Yc,Rn,Ro,Rp,Yd,Ye,Rq,Rs,Rt,Ru,Rv,Rw,Rx]
 exact⟨_,rfl⟩
theorem gg{E:BJ}(hE:Good E){s:AG}(n:Nat)(hn:n≤12):WF E 109 [.int .u64 (n:Int)] (fun r s'=>(∃m:Int,r=iv m)∧s=s') s:=by
 refine hE.go Zr (by decide) rfl ?_
 simp only[iV,VB,VC,Qa,Qb,Qc,Qd,Qe,Qf,Qg,Qh,Qi,Qj,Qk,Ql,Qm,Qn,true_and,and_true,Qo,Qp,Qq,Qr,Qs,Qt,Qu,Qv,Qw,Qx,Qy,Qz,Ra,Rb,Rc,Rd,Re,Rf,Rg,Rh,Ri,Rj,Rk,Rl,Rm,Ya,Yb,Yc,Rn,Ro,Rp,Yd,Ye,Rq,Rs,Rt,Ru,Rv,Rw,Rx]
 refine(X5 hE n hn).mono ?_
 rintro _ _ ⟨⟨m,rfl⟩,rfl⟩
 simp only[Qa,Qb,Qc,Qd,Qe,Qf,Qg,Qh,Qi,Qj,Qk,Ql,Qm,Qn,true_and,and_true,Qo,Qp,Qq,Qr,Qs,Qt,Qu,Qv,Qw,Qx,Qy,Qz,Ra,Rb,Rc,Rd,Re,Rf,Rg,Rh,Ri,Rj,Rk,Rl,Rm,Ya,Yb,Yc,Rn,Ro,Rp,Yd,Ye,Rq,Rs,Rt,Ru,Rv,Rw,Rx]
 exact⟨_,rfl⟩
def Ex(x:Int):List Int→List Int
 | []=>[x]
 | y::q=>if x<y then y::Ex x q else x::y::q
def GK(L:List Int):List Int:=(L.foldl (fun q x=>Ex x q) []).reverse
theorem Hy(x:Int):∀q,(Ex x q).length=q.length+1
 | []=>rfl
 | y::q=>by
  unfold Ex
  split
  ·simp[Hy x q]
  ·simp
set_option maxRecDepth 8000 in
theorem aa      {E : BJ}  (hE : Good E) {lo i n m : Nat} (hlo : lo ≤ i) (hn : n ≤ 1000) (x : Int) {Q : Ar   → Prop} :
    ∀ (p T : List Int) (s : AG)  (x5 x6 : AV), p.length < n → n ≤ p.length + 1 + T.length → Bq    s i (A3  (p.reverse ++ x :: T)) →
      (∀s' y4 y6,Bq s' i (A3 ((Ex x p).reverse++T))→s'.next=s.next→(∀z,z≠i→s'.heap.get z=s.heap.get z)→Q ⟨.exit 2,[.slice (some (i,0)) n none,iv 0,iv (n:Int),iv (m:Int),y4,x5,y6],[],s'⟩) →
      WC E none (.loop KS) Q [.slice (some (i,0)) n none,iv 0,iv (n:Int),iv (m:Int),iv (p.length:Int),x5,x6] [] s:=by
  intro p
  induction p with
  | nil =>
    intro T s x5 x6 h1 h2 hr hq
    refine WC.loop' ?_
    simp only[KS,Py,lm,show((0:Nat):Int)=0 from rfl,lT,decide_false,Qa,Qb,Qc,Qd,Qe,Qf,Qg,Qh,Qi,Qj,Qk,Ql,Qm,Qn,true_and,and_true,Qo,Qp,Qq,Qr,Qs,Qt,Qu,Qv,Qw,Qx,Qy,Qz,Ra,Rb,Rc,Rd,Re,Rf,Rg,Rh,Ri,Rj,Rk,Rl,Rm,Ya,Yb,Yc,Rn,Ro,Rp,Yd,Ye,Rq,Rs,Rt,Ru,Rv,Rw,Rx]
    exact hq s _ _ hr rfl fun _ _=>rfl
  | cons y q ih =>
    intro T s x5 x6 h1 h2 hr hq
    have hj:(y::q).length=q.length+1:=rfl
    rw[hj]at h1 h2 ⊢
    have hcells:A3 ((y::q).reverse++x::T)=A3 q.reverse++iv y::(iv x::A3 T):=by simp
    have hcells2:A3 ((y::q).reverse++x::T)=(A3 q.reverse++[iv y])++iv x::A3 T:=by simp
    have hql:(A3 q.reverse).length=q.length:=by simp
    have hql2:(A3 q.reverse++[iv y]).length=q.length+1:=by simp
    have hgt:decide ((0:Int)<((q.length+1:Nat):Int))=true:=decide_eq_true (by omega)
    have a1:AD Try.prog 23 (.slice (some (i,0)) n none) (iv ((q.length+1:Nat):Int))=some (.ptr (some (i,0+(q.length+1) * 1))):=Bc Try.underlying23 Be (by omega)
    have a0:AD Try.prog 23 (.slice (some (i,0)) n none) (iv ((q.length:Nat):Int))=some (.ptr (some (i,0+q.length * 1))):=Bc Try.underlying23 Be (by omega)
    have l1:AC Try.prog s 3 (.ptr (some (i,0+(q.length+1) * 1)))=some (iv x):=hr.load (by rw[hcells2];exact FI hql2)
    have l0:AC Try.prog s 3 (.ptr (some (i,0+q.length * 1)))=some (iv y):=hr.load (by rw[hcells];exact FI hql)
    have hs:=EF Try.prog 3 ((q.length+1:Nat):Int) 1 ⟨by omega,by omega⟩
    have hs1:(((q.length+1:Nat):Int) - 1)=((q.length:Nat):Int):=by omega
    rw[hs1]at hs
    refine WC.loop' ?_
    generalize hW:WC E none (Aa.loop KS) Q=W
    simp only[KS,Py,hgt,a1,l1,hs,a0,l0,Qa,Qb,Qc,Qd,Qe,Qf,Qg,Qh,Qi,Qj,Qk,Ql,Qm,Qn,true_and,and_true,Qo,Qp,Qq,Qr,Qs,Qt,Qu,Qv,Qw,Qx,Qy,Qz,Ra,Rb,Rc,Rd,Re,Rf,Rg,Rh,Ri,Rj,Rk,Rl,Rm,Ya,Yb,Yc,Rn,Ro,Rp,Yd,Ye,Rq,Rs,Rt,Ru,Rv,Rw,Rx]
    refine(aB hE x y).mono ?_
    rintro _ _ ⟨rfl,rfl⟩
    by_cases h:x<y
    · rw[hcells2]at hr
      obtain⟨s1,g1,g2,g3,g4⟩:=hr.store (k:=q.length+1) (u:=iv y) hql2 rfl rfl
      have e1:(A3 q.reverse++[iv y])++iv y::A3 T=A3 q.reverse++iv y::(iv y::A3 T):=by simp
      rw[e1]at g2
      obtain⟨s2,k1,k2,k3,k4⟩:=g2.store (k:=q.length) (u:=iv x) hql rfl rfl
      simp only[h,decide_true,Ve,Vf,a1,l1,hs,a0,l0,BU,g1,k1,AX,Qa,Qb,Qc,Qd,Qe,Qf,Qg,Qh,Qi,Qj,Qk,Ql,Qm,Qn,true_and,and_true,Qo,Qp,Qq,Qr,Qs,Qt,Qu,Qv,Qw,Qx,Qy,Qz,Ra,Rb,Rc,Rd,Re,Rf,Rg,Rh,Ri,Rj,Rk,Rl,Rm,Ya,Yb,Yc,Rn,Ro,Rp,Yd,Ye,Rq,Rs,Rt,Ru,Rv,Rw,Rx]
      rw[← hW]
      have e2:Ex x (y::q)=y::Ex x q:=by simp[Ex,h]
      refine ih (y::T) s2 x5 _ (by omega) (by simp;omega) ?_ ?_
      · have e3:A3 (q.reverse++x::(y::T))=A3 q.reverse++iv x::(iv y::A3 T):=by simp
        rw[e3];exact k2
      · intro s' y4 y6 f1 f2 f3
        refine hq s' y4 y6 ?_ (by omega) fun z hz=>(f3 z hz).trans ((k4 z hz).trans (g4 z hz))
        rw[e2]
        have e4:(y::Ex x q).reverse++T=(Ex x q).reverse++(y::T):=by simp
        rw[e4];exact f1
    · have e2:Ex x (y::q)=x::y::q:=by simp[Ex,h]
      simp only[h,decide_false,Qa,Qb,Qc,Qd,Qe,Qf,Qg,Qh,Qi,Qj,Qk,Ql,Qm,Qn,true_and,and_true,Qo,Qp,Qq,Qr,Qs,Qt,Qu,Qv,Qw,Qx,Qy,Qz,Ra,Rb,Rc,Rd,Re,Rf,Rg,Rh,Ri,Rj,Rk,Rl,Rm,Ya,Yb,Yc,Rn,Ro,Rp,Yd,Ye,Rq,Rs,Rt,Ru,Rv,Rw,Rx]
      refine hq s _ _ ?_ rfl fun _ _=>rfl
      rw[e2]
      have e4:(x::y::q).reverse++T=(y::q).reverse++x::T:=by simp
      rw[e4];exact hr
def Dz(lo:Nat)(s:AG)(v:AV)(L:List Int):Prop:=(∃a,v=.slice a 0 (some 0)∧L=[])∨∃i,v=.slice (some (i,0)) L.length none∧lo≤i∧i<s.next∧Bq s i (A3 L)
theorem Dz.len{lo:Nat}{s:AG}{v:AV}{L:List Int}(h:Dz lo s v L):A6 Try.prog s 23 v=some (iv (L.length:Int)):=by
 rcases h with⟨a,rfl,rfl⟩ | ⟨i,rfl,_⟩
 ·exact BV Try.underlying23
 ·exact BV Try.underlying23
set_option maxRecDepth 8000 in
theorem Yl{E:BJ}(hE:Good E){lo i n:Nat}(hlo:lo≤i)(hn:n≤1000){Q:Ar→Prop}:
    ∀ (R q : List Int) (s : AG)  (m : Nat) (x4 x5 x6 : AV), q.length = m → n = q.length + R.length → Bq    s i (A3  (q.reverse ++ R)) →
      (∀s' y3 y4 y5 y6,Bq s' i (A3 (R.foldl (fun q x=>Ex x q) q).reverse)→s'.next=s.next→(∀z,z≠i→s'.heap.get z=s.heap.get z)→Q ⟨.exit 0,[.slice (some (i,0)) n none,iv 0,iv (n:Int),y3,y4,y5,y6],[],s'⟩) →
      WC E none (.loop HU) Q [.slice (some (i,0)) n none,iv 0,iv (n:Int),iv (m:Int),x4,x5,x6] [] s:=by
  intro R
  induction R with
  | nil =>
    intro q s m x4 x5 x6 hm hq hr hk
    subst hm
    have hlt:decide (((q.length:Nat):Int)<(n:Int))=false:=decide_eq_false (by simp at hq;omega)
    refine WC.loop' ?_
    simp only[HU,KT,hlt,Qa,Qb,Qc,Qd,Qe,Qf,Qg,Qh,Qi,Qj,Qk,Ql,Qm,Qn,true_and,and_true,Qo,Qp,Qq,Qr,Qs,Qt,Qu,Qv,Qw,Qx,Qy,Qz,Ra,Rb,Rc,Rd,Re,Rf,Rg,Rh,Ri,Rj,Rk,Rl,Rm,Ya,Yb,Yc,Rn,Ro,Rp,Yd,Ye,Rq,Rs,Rt,Ru,Rv,Rw,Rx]
    exact hk s _ _ _ _ (by simpa using hr) rfl fun _ _=>rfl
  | cons x T ih =>
    intro q s m x4 x5 x6 hm hq hr hk
    subst hm
    have hR:(x::T).length=T.length+1:=rfl
    rw[hR]at hq
    have hlt:decide (((q.length:Nat):Int)<(n:Int))=true:=decide_eq_true (by omega)
    have e3:=Ao Try.prog 3 ((q.length:Nat):Int) 1 ⟨by omega,by omega⟩
    have hcast:(((q.length:Nat):Int)+1)=((q.length+1:Nat):Int):=by omega
    refine WC.loop' ?_
    generalize hW:WC E none (Aa.loop HU) Q=W
    simp only[HU,KT,Vd,hlt,Qa,Qb,Qc,Qd,Qe,Qf,Qg,Qh,Qi,Qj,Qk,Ql,Qm,Qn,true_and,and_true,Qo,Qp,Qq,Qr,Qs,Qt,Qu,Qv,Qw,Qx,Qy,Qz,Ra,Rb,Rc,Rd,Re,Rf,Rg,Rh,Ri,Rj,Rk,Rl,Rm,Ya,Yb,Yc,Rn,Ro,Rp,Yd,Ye,Rq,Rs,Rt,Ru,Rv,Rw,Rx]
    refine aa hE hlo hn x q T s _ _ (by omega) (by omega) hr ?_
    intro s' y4 y6 g1 g2 g3
    simp only[Vg,e3,hcast,if_true,Qa,Qb,Qc,Qd,Qe,Qf,Qg,Qh,Qi,Qj,Qk,Ql,Qm,Qn,true_and,and_true,Qo,Qp,Qq,Qr,Qs,Qt,Qu,Qv,Qw,Qx,Qy,Qz,Ra,Rb,Rc,Rd,Re,Rf,Rg,Rh,Ri,Rj,Rk,Rl,Rm,Ya,Yb,Yc,Rn,Ro,Rp,Yd,Ye,Rq,Rs,Rt,Ru,Rv,Rw,Rx]
    rw[← hW]
    refine ih (Ex x q) s' (q.length+1) _ _ _ (Hy x q) (by rw[Hy];omega) g1 ?_
    intro s2 y3 y4' y5 y6' h1 h2 h3
    exact hk s2 y3 y4' y5 y6' h1 (by omega) fun z hz=>(h3 z hz).trans (g3 z hz)
theorem Xe{s:AG}{n:Nat}(h:n≤12):Ck Try.prog s 3 133 (iv (n:Int))=some (.int .u64 (n:Int)):=by
 simp[Ck,Try.underlying3,Try.underlying133,Ll (gf (n:=n) ⟨by omega,by omega⟩)]
theorem Bq.loadAt{s:AG}{i k a:Nat}{cs:List AV}{u:AV}(h:Bq s i cs)(hk:cs[k]? = some u)(ha:a=k):AC Try.prog s 3 (.ptr (some (i,a)))=some u:=by
 subst ha;exact CG Df (h.load1 hk)
theorem YW{s:AG}{i n k:Nat}{cs:List AV}(h:Bq s i cs)(hn:n≤cs.length)(hk:k≤n):Ai Try.prog 23 true false false s [.slice (some (i,0)) n none,iv (k:Int)]=some (.slice (some (i,0+k * 1)) (n - k) none):=by
 obtain⟨r,h1,h2,h3,h4,h5⟩:=h
 have hb:BA (iv (k:Int)) n=some k:=by simp[BA,E5,C1,AI,BY hk]
 show A2 Try.prog s 23 (.slice (some (i,0)) n none) (some (iv (k:Int))) none none=_
 simp[A2,Try.underlying23,Be,rowAt,h1,h5,AI,hb,BY (ku r.n),show Nat.beq 1 0=false from rfl]
theorem gm{s:AG}{i n k:Nat}{cs:List AV}(h:Bq s i cs)(hk:k≤cs.length):Ai Try.prog 23 false true false s [.slice (some (i,0)) n none,iv (k:Int)]=some (.slice (some (i,0)) k none):=by
 obtain⟨r,h1,h2,h3,h4,h5⟩:=h
 have hb:BA (iv (k:Int)) r.n=some k:=by simp[BA,E5,C1,AI,h2.1,BY hk]
 show A2 Try.prog s 23 (.slice (some (i,0)) n none) none (some (iv (k:Int))) none=_
 simp[A2,Try.underlying23,Be,rowAt,h1,h5,AI,hb,BY (ku r.n),show Nat.beq 1 0=false from rfl]
theorem YR(m:Nat):J8 (AV.cells (.int .i64 0)) m=A3 (List.replicate m 0):=by
 induction m with
 | zero=>rfl
 | succ m ih=>show iv 0::J8 _ m=_;rw[ih];rfl
theorem UF        {s : AG}  {i m k : Nat} {A B : List AV} (h : Bq    s i (A ++ B)) (hA : A.length = k) (hB : B.length = m) :
    ∃s' Z,DO Try.prog s [23] [.slice (some (i,0+k * 1)) m none]=some (BE,s')∧Z.length=m∧Bq s' i (A++Z)∧s'.next=s.next∧∀x,x≠i→s'.heap.get x=s.heap.get x:=by
  subst hA;subst hB
  cases B with
  | nil=>exact⟨s,[],by simp[DO,Try.underlying23],rfl,h,rfl,fun _ _=>rfl⟩
  | cons b B =>
    obtain⟨s',g1,g2,g3,g4⟩:=h.fill (o:=A.length) (vs:=A3 (List.replicate (B.length+1) 0)) (by simp[me]) (by simp) (L8 _)
    refine⟨s',A3 (List.replicate (B.length+1) 0),?_,by simp,?_,g3,g4⟩
    · have hz:CL Try.prog 3=some (.int .i64 0):=Pd
      simp only[DO,Try.underlying23,lO,hz,Option.bind_some,YR,lD,lY,g1]
    · have e:(A++b::B).take A.length++A3 (List.replicate (B.length+1) 0)++(A++b::B).drop (A.length+(A3 (List.replicate (B.length+1) 0)).length)=A++A3 (List.replicate (B.length+1) 0):=by
        rw[List.take_left' rfl,mf (by simp)];simp
      rw[e]at g2
      exact g2
def dd(p:Int):List Int→List Int
 | []=>[]
 | x::r=>if x=p then dd p r else x::dd x r
def JV:List Int→List Int
 | []=>[]
 | x::r=>x::dd x r
set_option maxRecDepth 8000 in
theorem Z1      {E : BJ}  (hE : Good E) {lo i n k0 : Nat} (hlo : lo ≤ i) (hn : n ≤ 1000) (hk0 : 0 < k0) {Q : Ar   → Prop} (x1 x5 x6 x7 : AV) :
    ∀ (S W G : List Int) (p : Int) (s : AG)  (k2 : Nat) (x8 x9 : AV), 0 < k2 → k0 + k2 = W.length + G.length + 1 → n = W.length + G.length + 1 + S.length → k0 ≤ n → Bq    s i (A3  (W ++ (G ++ p :: S))) →
      (∀s' W' G' y4 y8 y9,W'=W++dd p S→W'.length+G'.length=n→Bq s' i (A3 (W'++G'))→s'.next=s.next→(∀z,z≠i→s'.heap.get z=s.heap.get z)→Q ⟨.exit 2,[.slice (some (i,0)) n none,x1,iv (W'.length:Int),.slice (some (i,0+k0 * 1)) (n - k0) none,y4,x5,x6,x7,y8,y9],[],s'⟩) →
      WC E none (.loop In) Q [.slice (some (i,0)) n none,x1,iv (W.length:Int),.slice (some (i,0+k0 * 1)) (n - k0) none,iv (k2:Int),x5,x6,x7,x8,x9] [] s:=by
  intro S
  induction S with
  | nil =>
    intro W G p s k2 x8 x9 hk2 hk hnn hkn hr hq
    have hlt:decide (((k2:Nat):Int)<((n - k0:Nat):Int))=false:=decide_eq_false (by simp at hnn;omega)
    refine WC.loop' ?_
    simp only[In,Sm,BV Try.underlying23,hlt,Qa,Qb,Qc,Qd,Qe,Qf,Qg,Qh,Qi,Qj,Qk,Ql,Qm,Qn,true_and,and_true,Qo,Qp,Qq,Qr,Qs,Qt,Qu,Qv,Qw,Qx,Qy,Qz,Ra,Rb,Rc,Rd,Re,Rf,Rg,Rh,Ri,Rj,Rk,Rl,Rm,Ya,Yb,Yc,Rn,Ro,Rp,Yd,Ye,Rq,Rs,Rt,Ru,Rv,Rw,Rx]
    exact hq s W (G++[p]) _ _ _ (by simp[dd]) (by simp at hnn ⊢;omega) hr rfl fun _ _=>rfl
  | cons x T ih =>
    intro W G p s k2 x8 x9 hk2 hk hnn hkn hr hq
    have hS:(x::T).length=T.length+1:=rfl
    rw[hS]at hnn
    have hlt:decide (((k2:Nat):Int)<((n - k0:Nat):Int))=true:=decide_eq_true (by omega)
    have a1:AD Try.prog 23 (.slice (some (i,0+k0 * 1)) (n - k0) none) (iv (k2:Int))=some (.ptr (some (i,0+k0 * 1+k2 * 1))):=Bc Try.underlying23 Be (by omega)
    have hs:=EF Try.prog 3 (k2:Int) 1 ⟨by omega,by omega⟩
    have hs1:((k2:Int) - 1)=((k2 - 1:Nat):Int):=by omega
    rw[hs1]at hs
    have a0:AD Try.prog 23 (.slice (some (i,0+k0 * 1)) (n - k0) none) (iv ((k2 - 1:Nat):Int))=some (.ptr (some (i,0+k0 * 1+(k2 - 1) * 1))):=Bc Try.underlying23 Be (by omega)
    have aw:AD Try.prog 23 (.slice (some (i,0)) n none) (iv (W.length:Int))=some (.ptr (some (i,0+W.length * 1))):=Bc Try.underlying23 Be (by omega)
    have c1:A3 (W++(G++p::x::T))=A3 (W++G++[p])++iv x::A3 T:=by simp
    have c0:A3 (W++(G++p::x::T))=A3 (W++G)++iv p::A3 (x::T):=by simp
    have l1:AC Try.prog s 3 (.ptr (some (i,0+k0 * 1+k2 * 1)))=some (iv x):=hr.loadAt (k:=W.length+G.length+1) (by rw[c1];exact FI (by simp;omega)) (by omega)
    have l0:AC Try.prog s 3 (.ptr (some (i,0+k0 * 1+(k2 - 1) * 1)))=some (iv p):=hr.loadAt (k:=W.length+G.length) (by rw[c0];exact FI (by simp)) (by omega)
    have e3:=Ao Try.prog 3 (k2:Int) 1 ⟨by omega,by omega⟩
    have e3':((k2:Int)+1)=((k2+1:Nat):Int):=by omega
    have e4:=Ao Try.prog 3 (W.length:Int) 1 ⟨by omega,by omega⟩
    have e4':((W.length:Int)+1)=((W.length+1:Nat):Int):=by omega
    refine WC.loop' ?_
    generalize hW:WC E none (Aa.loop In) Q=WW
    by_cases h:x=p
    · subst h
      simp only[In,Sm,W7,Q6,BV Try.underlying23,hlt,a1,a0,l1,hs,l0,e3,e3',ne_eq,not_true,decide_false,Qa,Qb,Qc,Qd,Qe,Qf,Qg,Qh,Qi,Qj,Qk,Ql,Qm,Qn,true_and,and_true,Qo,Qp,Qq,Qr,Qs,Qt,Qu,Qv,Qw,Qx,Qy,Qz,Ra,Rb,Rc,Rd,Re,Rf,Rg,Rh,Ri,Rj,Rk,Rl,Rm,Ya,Yb,Yc,Rn,Ro,Rp,Yd,Ye,Rq,Rs,Rt,Ru,Rv,Rw,Rx]
      rw[← hW]
      have hc:W++(G++x::x::T)=W++((G++[x])++x::T):=by simp
      rw[hc]at hr
      refine ih W (G++[x]) x s (k2+1) _ _ (by omega) (by simp;omega) (by simp;omega) hkn hr ?_
      intro s' W' G' y4 y8 y9 f1 f2 f3 f4 f5
      exact hq s' W' G' y4 y8 y9 (by rw[f1];simp[dd]) f2 f3 f4 f5
    · have hd:dd p (x::T)=x::dd x T:=by simp[dd,h]
      obtain⟨g0,tl,htl,hG⟩:∃g0 tl,G++p::x::T=g0::tl∧∃G1,tl=G1++x::T∧G1.length=G.length:=by
        cases G with
        | nil=>exact⟨p,x::T,rfl,[],rfl,rfl⟩
        | cons g G=>exact⟨g,G++p::x::T,rfl,G++[p],by simp,by simp⟩
      obtain⟨G1,rfl,hG1⟩:=hG
      have cw:A3 (W++(G++p::x::T))=A3 W++iv g0::A3 (G1++x::T):=by rw[htl];simp
      have hr2:=hr
      rw[cw]at hr2
      obtain⟨s1,g1,g2,g3,g4⟩:=hr2.store (k:=W.length) (u:=iv x) (by simp) rfl rfl
      simp only[In,Sm,W7,W3,W4,Q6,BV Try.underlying23,hlt,a1,a0,aw,l1,hs,l0,e3,e3',e4,e4',h,ne_eq,not_false_eq_true,decide_true,BU,g1,AX,Qa,Qb,Qc,Qd,Qe,Qf,Qg,Qh,Qi,Qj,Qk,Ql,Qm,Qn,true_and,and_true,Qo,Qp,Qq,Qr,Qs,Qt,Qu,Qv,Qw,Qx,Qy,Qz,Ra,Rb,Rc,Rd,Re,Rf,Rg,Rh,Ri,Rj,Rk,Rl,Rm,Ya,Yb,Yc,Rn,Ro,Rp,Yd,Ye,Rq,Rs,Rt,Ru,Rv,Rw,Rx]
      rw[← hW]
      have hr3:Bq s1 i (A3 ((W++[x])++(G1++x::T))):=by
        have:A3 ((W++[x])++(G1++x::T))=A3 W++iv x::A3 (G1++x::T):=by simp
        rw[this];exact g2
      have hwl:(W++[x]).length=W.length+1:=by simp
      have:=ih (W++[x]) G1 x s1 (k2+1) (.bool true) (.bool true) (by omega) (by rw[hwl];omega) (by rw[hwl];omega) hkn hr3 ?_
      · rw[hwl]at this
        exact this
      · intro s' W' G' y4 y8 y9 f1 f2 f3 f4 f5
        exact hq s' W' G' y4 y8 y9 (by rw[f1,hd];simp) f2 f3 (by omega) fun z hz=>(f5 z hz).trans (g4 z hz)
set_option maxRecDepth 8000 in
theorem Xc       {E : BJ}  (hE : Good E) {lo i n : Nat} (hlo : lo ≤ i) (hn : n ≤ 1000) {Q : Ar   → Prop} (x1 x5 : AV) :
    ∀ (R A : List Int) (y : Int) (s : AG)  (x3 x4 x6 x7 x8 x9 : AV), n = A.length + 1 + R.length → Bq    s i (A3  (A ++ y :: R)) →
      (∀e s' W' (G':List AV) y1 y2 y3 y4 y6 y7 y8 y9,(e=.ret∧y1=.slice (some (i,0)) W'.length none∨e=.exit 0∧y1=x1∧W'.length=n)→W'=A++y::dd y R→Bq s' i (A3 W'++G')→s'.next=s.next→(∀z,z≠i→s'.heap.get z=s.heap.get z) →
        Q ⟨e,[.slice (some (i,0)) n none,y1,y2,y3,y4,x5,y6,y7,y8,y9],[],s'⟩) →
      WC E none (.loop Io) Q [.slice (some (i,0)) n none,x1,iv ((A.length+1:Nat):Int),x3,x4,x5,x6,x7,x8,x9] [] s:=by
  intro R
  induction R with
  | nil =>
    intro A y s x3 x4 x6 x7 x8 x9 hnn hr hq
    have hlt:decide (((A.length+1:Nat):Int)<(n:Int))=false:=decide_eq_false (by simp at hnn;omega)
    refine WC.loop' ?_
    simp only[Io,Sl,BV Try.underlying23,hlt,Qa,Qb,Qc,Qd,Qe,Qf,Qg,Qh,Qi,Qj,Qk,Ql,Qm,Qn,true_and,and_true,Qo,Qp,Qq,Qr,Qs,Qt,Qu,Qv,Qw,Qx,Qy,Qz,Ra,Rb,Rc,Rd,Re,Rf,Rg,Rh,Ri,Rj,Rk,Rl,Rm,Ya,Yb,Yc,Rn,Ro,Rp,Yd,Ye,Rq,Rs,Rt,Ru,Rv,Rw,Rx]
    exact hq _ s (A++[y]) [] _ _ _ _ _ _ _ _ (.inr ⟨rfl,rfl,by simp at hnn ⊢;omega⟩) (by simp[dd]) (by simpa using hr) rfl fun _ _=>rfl
  | cons x T ih =>
    intro A y s x3 x4 x6 x7 x8 x9 hnn hr hq
    have hS:(x::T).length=T.length+1:=rfl
    rw[hS]at hnn
    have hlt:decide (((A.length+1:Nat):Int)<(n:Int))=true:=decide_eq_true (by omega)
    have a1:AD Try.prog 23 (.slice (some (i,0)) n none) (iv ((A.length+1:Nat):Int))=some (.ptr (some (i,0+(A.length+1) * 1))):=Bc Try.underlying23 Be (by omega)
    have hs:=EF Try.prog 3 ((A.length+1:Nat):Int) 1 ⟨by omega,by omega⟩
    have hs1:(((A.length+1:Nat):Int) - 1)=((A.length:Nat):Int):=by omega
    rw[hs1]at hs
    have a0:AD Try.prog 23 (.slice (some (i,0)) n none) (iv ((A.length:Nat):Int))=some (.ptr (some (i,0+A.length * 1))):=Bc Try.underlying23 Be (by omega)
    have c1:A3 (A++y::x::T)=A3 (A++[y])++iv x::A3 T:=by simp
    have c0:A3 (A++y::x::T)=A3 A++iv y::A3 (x::T):=by simp
    have l1:AC Try.prog s 3 (.ptr (some (i,0+(A.length+1) * 1)))=some (iv x):=hr.loadAt (k:=A.length+1) (by rw[c1];exact FI (by simp)) (by omega)
    have l0:AC Try.prog s 3 (.ptr (some (i,0+A.length * 1)))=some (iv y):=hr.loadAt (k:=A.length) (by rw[c0];exact FI (by simp)) (by omega)
    have e3:=Ao Try.prog 3 ((A.length+1:Nat):Int) 1 ⟨by omega,by omega⟩
    have e3':(((A.length+1:Nat):Int)+1)=((A.length+2:Nat):Int):=by omega
    refine WC.loop' ?_
    generalize hW:WC E none (Aa.loop Io) Q=WW
    by_cases h:x=y
    · subst h
      have hlen:(A3 (A++x::x::T)).length=n:=by simp;omega
      have s1:=YW (n:=n) (k:=A.length+1) hr (by omega) (by omega)
      simp only[Io,Sl,W6,dU,dV,BV Try.underlying23,hlt,a1,a0,l1,hs,l0,s1,decide_true,Qa,Qb,Qc,Qd,Qe,Qf,Qg,Qh,Qi,Qj,Qk,Ql,Qm,Qn,true_and,and_true,Qo,Qp,Qq,Qr,Qs,Qt,Qu,Qv,Qw,Qx,Qy,Qz,Ra,Rb,Rc,Rd,Re,Rf,Rg,Rh,Ri,Rj,Rk,Rl,Rm,Ya,Yb,Yc,Rn,Ro,Rp,Yd,Ye,Rq,Rs,Rt,Ru,Rv,Rw,Rx]
      have hc:A++x::x::T=(A++[x])++([]++x::T):=by simp
      rw[hc]at hr
      have hwl:(A++[x]).length=A.length+1:=by simp
      have:=Z1 hE (n:=n) (k0:=A.length+1) hlo hn (by omega) (Q:=EC 2 (IZ (Qa E none (.seq (.ops Q7) (.seq (.ops Q8) .ret)) (EC 1 (IZ (Qa E none (.ops NE) (IZ WW Q)) (IZ WW Q)))) (EC 1 (IZ (Qa E none (.ops NE) (IZ WW Q)) (IZ WW Q))))) x1 x5 (.bool true) (.bool true) T (A++[x]) [] x s 1 x8 x9 (by omega) (by rw[hwl];simp) (by rw[hwl];simp;omega) (by omega) hr ?_
      · rw[hwl]at this
        simp only[Qa,Qb,Qc,Qd,Qe,Qf,Qg,Qh,Qi,Qj,Qk,Ql,Qm,Qn,true_and,and_true,Qo,Qp,Qq,Qr,Qs,Qt,Qu,Qv,Qw,Qx,Qy,Qz,Ra,Rb,Rc,Rd,Re,Rf,Rg,Rh,Ri,Rj,Rk,Rl,Rm,Ya,Yb,Yc,Rn,Ro,Rp,Yd,Ye,Rq,Rs,Rt,Ru,Rv,Rw,Rx]at this
        exact this
      · intro s' W' G' y4 y8 y9 f1 f2 f3 f4 f5
        have hlen':(A3 (W'++G')).length=n:=by simp;omega
        have t1:=YW (n:=n) (k:=W'.length) f3 (by omega) (by omega)
        rw[RT]at f3
        obtain⟨s2,Z,g1,g2,g3,g4,g5⟩:=UF f3 (k:=W'.length) (m:=n - W'.length) (by simp) (by simp;omega)
        have t2:=gm (n:=n) (k:=W'.length) g3 (by simp)
        simp only[Q7,Q8,t1,g1,t2,if_true,Qa,Qb,Qc,Qd,Qe,Qf,Qg,Qh,Qi,Qj,Qk,Ql,Qm,Qn,true_and,and_true,Qo,Qp,Qq,Qr,Qs,Qt,Qu,Qv,Qw,Qx,Qy,Qz,Ra,Rb,Rc,Rd,Re,Rf,Rg,Rh,Ri,Rj,Rk,Rl,Rm,Ya,Yb,Yc,Rn,Ro,Rp,Yd,Ye,Rq,Rs,Rt,Ru,Rv,Rw,Rx]
        have hd:dd x (x::T)=dd x T:=by simp[dd]
        exact hq _ s2 W' Z _ _ _ _ _ _ _ _ (.inl ⟨rfl,rfl⟩) (by rw[f1,hd];simp) g3 (by omega) fun z hz=>(g5 z hz).trans (f5 z hz)
    · simp only[Io,Sl,W6,NE,BV Try.underlying23,hlt,a1,a0,l1,hs,l0,e3,e3',h,decide_false,Qa,Qb,Qc,Qd,Qe,Qf,Qg,Qh,Qi,Qj,Qk,Ql,Qm,Qn,true_and,and_true,Qo,Qp,Qq,Qr,Qs,Qt,Qu,Qv,Qw,Qx,Qy,Qz,Ra,Rb,Rc,Rd,Re,Rf,Rg,Rh,Ri,Rj,Rk,Rl,Rm,Ya,Yb,Yc,Rn,Ro,Rp,Yd,Ye,Rq,Rs,Rt,Ru,Rv,Rw,Rx]
      rw[← hW]
      have hwl:(A++[y]).length=A.length+1:=by simp
      have hc:A++y::x::T=(A++[y])++x::T:=by simp
      rw[hc]at hr
      have:=ih (A++[y]) x s x3 x4 (.bool true) (.bool false) x8 x9 (by rw[hwl];omega) hr ?_
      · rw[hwl]at this
        exact this
      · intro e s' W' G' y1 y2 y3 y4 y6 y7 y8 y9 f1 f2 f3 f4 f5
        exact hq e s' W' G' y1 y2 y3 y4 y6 y7 y8 y9 f1 (by rw[f2];simp[dd,h]) f3 f4 f5
theorem Gx{s:AG}{i o:Nat}{u:AV}(h:load1 s i o=some u):∃r,rowAt s i=some r∧o<r.n∧r.c.get o=some u:=by
 unfold load1 at h
 simp only[km]at h
 obtain⟨r,h1,h2⟩:=h
 cases hb:Nat.blt o r.n with
 | true=>rw[hb]at h2;exact⟨r,h1,by simpa[lP]using hb,h2⟩
 | false=>rw[hb]at h2;cases h2
theorem BM.loadN{b:Nat}{s:AG}{i o:Nat}{cs:List AV}(h:BM b s (some (i,o)) cs)(hne:cs≠[]):loadN s i o cs.length=some cs:=by
 have hp:∀k u,cs[k]? = some u→load1 s i (o+k)=some u:=by
  intro k u hk
  obtain⟨i',o',e,_,h2⟩:=h k u hk
  injection e with e;injection e with e1 e2;subst e1;subst e2
  exact h2
 have hpos:0<cs.length:=List.length_pos_iff.2 hne
 obtain⟨r,h1,h2,_⟩:=Gx (hp (cs.length - 1) cs[cs.length - 1] (ky (by omega)))
 unfold Go.Proofs.Ytilhhmkdcoajnaa.Am.loadN
 rw[h1]
 have hb:Nat.ble (o+cs.length) r.n=true:=BY (by omega)
 simp only[Option.bind_some,AI,hb,cond_true]
 refine KC _ _ fun j u hj=>?_
 obtain⟨r',g1,_,g3⟩:=Gx (hp j u hj)
 rw[h1]at g1;injection g1 with g1;subst g1
 exact g3
theorem Ae.src{b:Nat}{s:AG}{a:Option (Nat×Nat)}{n:Nat}{cap:Option Nat}{cs:List AV}(h:BM b s a cs)(hn:cs.length=n)(h0:0<n){e:TypeId}:CK Try.prog s e 1 (.slice a n cap)=some (n,cs):=by
 subst hn
 have hne:cs≠[]:=List.length_pos_iff.1 h0
 cases a with
 | none =>
  obtain⟨i,o,e,_⟩:=h 0 cs[0] (ky h0)
  cases e
 | some io =>
  obtain⟨i,o⟩:=io
  have:=Mk (size:=1) (by rw[lY];exact h.loadN hne)
  simp[CK,this]
theorem Ko{a:Option (Nat×Nat)}{n:Nat}{cap:Option Nat}:AM Try.prog .eql 23 (.slice a n cap) (.slice none 0 (some 0))=some (.bool a.isNone):=by
 have h:Fj Try.prog 23=true:=by simp[Fj,Try.underlying23]
 cases a<;>simp[AM,Y1,AI,h]
set_option maxRecDepth 8000 in
theorem Hw       {E : BJ}  (hE : Good E) {b : Nat} {s : AG}  {v : AV} {L : List Int} (hb : b ≤ s.next) (h : Ae      b s v (A3  L)) (hL : L.length ≤ 1000000) :
    WF E 60 [v] (fun r s'=>Dz s.next s' r L∧B6 s.next s s') s:=by
  obtain⟨a,cap,rfl,hc⟩:=h
  rw[EG]at *
  refine hE.go fu (by decide) rfl ?_
  cases ha:a with
  | none =>
    subst ha
    have hL0:L=[]:=by
      cases L with
      | nil=>rfl
      | cons x L=>obtain⟨i,o,e,_⟩:=hc 0 (iv x) rfl;cases e
    subst hL0
    simp only[jX,Sd,Se,cA,Ko,Option.isNone_none,Qa,Qb,Qc,Qd,Qe,Qf,Qg,Qh,Qi,Qj,Qk,Ql,Qm,Qn,true_and,and_true,Qo,Qp,Qq,Qr,Qs,Qt,Qu,Qv,Qw,Qx,Qy,Qz,Ra,Rb,Rc,Rd,Re,Rf,Rg,Rh,Ri,Rj,Rk,Rl,Rm,Ya,Yb,Yc,Rn,Ro,Rp,Yd,Ye,Rq,Rs,Rt,Ru,Rv,Rw,Rx]
    exact⟨.inl ⟨none,rfl,rfl⟩,B6.refl _ _⟩
  | some io =>
    obtain⟨i,o⟩:=io
    subst ha
    have b0:=Ut (P:=Try.prog) (t:=23) Try.underlying23 Be Pd rfl
    have hmv:∀ (m:Nat) (i:Nat),Made.val i (.slice m)=.slice (some (i,0)) m (some m):=fun _ _=>rfl
    generalize hs1:newObj s (AO 3 1 [])=s1
    have n1:s1.next=s.next+1:=by rw[← hs1];rfl
    have o1:B6 s.next s s1:=by rw[← hs1];exact B6.new s _
    have hld:loadN s1 s.next 0 (0 * 1)=some []:=by
      obtain⟨r,h1,h2,_⟩:=CP 3 1 []
      exact Gm (s:=s1) (i:=s.next) (by rw[← hs1,AY,if_pos rfl,h1]) h2 0 [] (kp _) (fun j u hj=>by simp at hj)
    have hx:BG Try.prog 23=true:=UQ 23 3 Try.underlying23
    cases hLc:L with
    | nil =>
      subst hLc
      have hsrc:CK Try.prog s1 3 1 (.slice (some (i,o)) 0 cap)=some (0,[]):=rfl
      have happ:Ad Try.prog s1 [23,23] [.slice (some (s.next,0)) 0 (some 0),.slice (some (i,o)) 0 cap]=some (.slice (some (s.next,0)) 0 (some 0),s1):=by
        rw[Bs Try.underlying23 Be Y0 (by decide) hx hsrc rfl (by omega) (by omega)]
        rfl
      simp only[jX,Sd,Se,WV,Ko,Option.isNone_some,lm,b0,hs1,hmv,happ,Qa,Qb,Qc,Qd,Qe,Qf,Qg,Qh,Qi,Qj,Qk,Ql,Qm,Qn,true_and,and_true,Qo,Qp,Qq,Qr,Qs,Qt,Qu,Qv,Qw,Qx,Qy,Qz,Ra,Rb,Rc,Rd,Re,Rf,Rg,Rh,Ri,Rj,Rk,Rl,Rm,Ya,Yb,Yc,Rn,Ro,Rp,Yd,Ye,Rq,Rs,Rt,Ru,Rv,Rw,Rx]
      exact⟨.inl ⟨_,rfl,rfl⟩,o1⟩
    | cons x T =>
      rw[← hLc]
      have hne:0<L.length:=by rw[hLc];simp
      have hc1:BM b s1 (some (i,o)) (A3 L):=hc.old o1 hb
      have hsrc:=Ae.src (e:=3) (cap:=cap) hc1 (EG L) hne
      have happ:Ad Try.prog s1 [23,23] [.slice (some (s.next,0)) 0 (some 0),.slice (some (i,o)) L.length cap]=some (.slice (some (s1.next,0)) L.length none,newObj s1 (Ca 3 1 (Ag.fill .leaf 0 (A3 L)) (A3 L).length none)):=by
        rw[Bs Try.underlying23 Be Y0 (by decide) hx hsrc (L8 L) (by omega) (by omega)]
        simp only[appTo,DA,show Nat.ble (0+L.length) 0=false from FF (by omega),lD,show Nat.ble L.length 0=false from FF (by omega),cond_false,hld,Option.bind_some,Bg,AI,Id,cond_true,lZ,lD]
      simp only[jX,Sd,Se,WV,Ko,Option.isNone_some,b0,hs1,hmv,happ,Qa,Qb,Qc,Qd,Qe,Qf,Qg,Qh,Qi,Qj,Qk,Ql,Qm,Qn,true_and,and_true,Qo,Qp,Qq,Qr,Qs,Qt,Qu,Qv,Qw,Qx,Qy,Qz,Ra,Rb,Rc,Rd,Re,Rf,Rg,Rh,Ri,Rj,Rk,Rl,Rm,Ya,Yb,Yc,Rn,Ro,Rp,Yd,Ye,Rq,Rs,Rt,Ru,Rv,Rw,Rx]
      refine⟨.inr ⟨s1.next,rfl,by omega,lW _,_,by rw[AY,if_pos rfl];rfl,⟨rfl,?_⟩,rfl,rfl,rfl⟩,o1.trans ((B6.new s1 _).mono (by omega))⟩
      intro k u hk
      have hlt:=Af hk
      show(Ag.fill .leaf 0 (A3 L)).get k=some u
      rw[Ag.get_fill,if_pos ⟨ku _,by omega⟩]
      simpa using hk
theorem Dz.slice{lo:Nat}{s:AG}{v:AV}{L:List Int}(h:Dz lo s v L):Ae s.next s v (A3 L):=by
 rcases h with⟨a,rfl,rfl⟩ | ⟨i,rfl,h1,h2,h3⟩
 ·exact⟨a,some 0,rfl,BM.nil⟩
 ·exact⟨some (i,0),none,by simp,fun k u hk=>⟨i,0,rfl,h2,by rw[lD];exact h3.load1 hk⟩⟩
theorem JK(L:List Int):(GK L).length=L.length:=by
 have:∀ (R q:List Int),(R.foldl (fun q x=>Ex x q) q).length=q.length+R.length:=by
  intro R
  induction R with
  | nil=>intro q;rfl
  | cons y R ih=>intro q;simp only[ll,ih,Hy,lO];omega
 unfold GK
 rw[List.length_reverse,this];simp
abbrev jf(l:List Int):Prop:=l.Pairwise (·<·)
abbrev Y6(l:List Int):Prop:=l.Pairwise (fun a b=>b≤a)
theorem Kn       (x z : Int) : ∀ q, z ∈ Ex   x q ↔ z = x ∨ z ∈ q
  | []=>by simp[Ex]
  | y::q=>by
    have ih:=Kn x z q
    unfold Ex
    split
    · simp only[lM,ih]
      constructor
      · rintro (h | h | h)
        · exact .inr (.inl h)
        · exact .inl h
        · exact .inr (.inr h)
      · rintro (h | h | h)
        · exact .inr (.inl h)
        · exact .inl h
        · exact .inr (.inr h)
    · simp only[lM]
theorem MC{x:Int}:∀ {q},Y6 q→Y6 (Ex x q)
  | [],_=>by simp[Ex]
  | y::q,h=>by
    obtain⟨h1,h2⟩:=ml.1 h
    unfold Ex
    split
    · rename_i hlt
      refine ml.2 ⟨fun z hz=>?_,MC h2⟩
      rcases(Kn x z q).1 hz with rfl | hz
      · omega
      · exact h1 z hz
    · rename_i hn
      refine ml.2 ⟨fun z hz=>?_,h⟩
      rcases lM.1 hz with rfl | hz
      · omega
      · have:=h1 z hz;omega
theorem Kz:∀ (R:List Int){q:List Int},Y6 q→Y6 (R.foldl (fun q x=>Ex x q) q)∧∀z,z∈R.foldl (fun q x=>Ex x q) q↔z∈q∨z∈R
  | [],q,h=>⟨h,fun z=>by simp⟩
  | x::R,q,h=>by
    obtain⟨h1,h2⟩:=Kz R (MC (x:=x) h)
    refine⟨h1,fun z=>?_⟩
    rw[ll,h2,Kn,lM]
    constructor
    · rintro ((h | h) | h)
      · exact .inr (.inl h)
      · exact .inl h
      · exact .inr (.inr h)
    · rintro (h | h | h)
      · exact .inl (.inr h)
      · exact .inl (.inl h)
      · exact .inr h
theorem NH      : ∀ (l : List Int) (p : Int), (p :: l).Pairwise (· ≤ ·) → jf   (p :: dd p l) ∧ ∀ z, z ∈ p :: dd p l ↔ z ∈ p :: l
  | [],p,_=>⟨by simp[dd],fun z=>by simp[dd]⟩
  | x::l,p,h=>by
    obtain⟨h1,h2⟩:=ml.1 h
    unfold dd
    split
    · rename_i e
      subst e
      obtain⟨k1,k2⟩:=NH l x h2
      refine⟨k1,fun z=>?_⟩
      rw[k2,lM,lM,lM]
      constructor
      · rintro (h | h)
        · exact .inl h
        · exact .inr (.inr h)
      · rintro (h | h | h)
        · exact .inl h
        · exact .inl h
        · exact .inr h
    · rename_i hne
      obtain⟨k1,k2⟩:=NH l x h2
      refine⟨ml.2 ⟨fun z hz=>?_,k1⟩,fun z=>?_⟩
      · have hpx:=h1 x kx
        rcases lM.1 ((k2 z).1 hz)with rfl | hz'
        · omega
        · have:=(ml.1 h2).1 z hz';omega
      · rw[lM,k2,lM (l:=x::l)]
def Nx(Q:Ar→Prop)(var:List AV)(marks:List Nat)(s:AG)(pd:Option Code):Prop:=match pd with
 | none=>Q ⟨.normal,var,marks,s⟩
 | some .ret=>Q ⟨.ret,var,marks,s⟩
 | some (.exit id)=>Q ⟨.exit id,var,marks,s⟩
 | some _=>False
theorem YL{Q:Ar→Prop}{var:List AV}{marks:List Nat}{s:AG}{pd:Option Code}(h:Nx Q var marks s pd):∃r,GW var marks s pd=some r∧Q r:=by
 unfold Nx at h
 unfold GW
 split at h
 ·exact⟨_,rfl,h⟩
 ·exact⟨_,rfl,h⟩
 ·exact⟨_,rfl,h⟩
 ·exact h.elim
def J7(fn:FuncId)(var:List AV)(ps:Array Tmp)(a b:Code)(dfr:Nat):GO:={ state:=.ready,pending:=none,fn,var,params:=ps,assign:=a,body:=b,dfr }
theorem WC.range{E:BJ}{Q:Ar→Prop}{var:List AV}{marks:List Nat}{s:AG}{fn:FuncId}{f:CX}{ps:Array Tmp}{a b:Code}{g:FuncId}{first cap:List AV}(hf:Da [] var f=.func g first cap)
  (h:WF E g (first++([.yield (s.next+1)]++cap)) (fun _ s'=>∃r,Bj s' (s.next+1)=some r∧RR r.state=false∧Nx Q var (s.next::marks) (setObj s' (s.next+1) (.loop { r with state:=.exhausted })) r.pending)
   (newObj (newObj s .mark) (.loop (J7 fn var ps a b s.next)))):WC E none (.rangeFunc fn f ps a b) Q var marks s:=by
 obtain⟨n,p,h1,r,h2,h3,h4⟩:=h
 obtain⟨res,h5,h6⟩:=YL h4
 refine⟨n+1,res,?_,h6⟩
 show C7 (EN E n) none (.rangeFunc fn f ps a b) var marks s=some res
 simp only[C7,Kh,FG,G5,hf,GZ]
 have e:(newObj s .mark).next=s.next+1:=rfl
 rw[e]
 have h1':=h1
 unfold J7 at h1'
 rw[h1']
 simp only[Option.bind_some,h2,h3,cond_false,h5]
theorem WR.round{E:BJ}{K:AV→AG→Prop}{l:Nat}{xs:List AV}{s:AG}{r:GO}{var:List AV}{ca cb:Aa}(h1:Bj s l=some r)(h2:Er (FU E.P r.fn) r.var r.params.toList xs=some var)
  (h3:HV E.P r.fn r.assign=some ca) (h4:HV E.P r.fn r.body=some cb)
  (h:WC E (some l) ca (fun q=>q.exit=.normal∧∃r',Bj q.st l=some r'∧J4 r'.state=true ∧
   WC E (some l) cb (fun q2=>∃r'',Bj q2.st l=some r''∧K (.bool (DE q2.exit).isNone) (setObj q2.st l (.loop { r'' with state:=HD (DE q2.exit),pending:=DE q2.exit }))) q.var q.marks (setObj q.st l (.loop { r' with state:=.busy }))) var [] s):WR E l xs K s:=by
 obtain⟨n,q,g1,g2,r',g3,g4,m,q2,g5,r'',g6,g7⟩:=h
 refine⟨max n m+1,(_,_),?_,g7⟩
 show Jj E (EN E (max n m)) l xs s=_
 simp only[Jj,h1,Option.bind_some,h2,h3,h4,HC,(GA E (Nat.le_max_left n m)).code g1,g2,IF,cond_true,g3,g4,IV,(GA E (Nat.le_max_right n m)).code g5,g6]
 rfl
def DU:Code→Option (Code×Code)
 | .seq x y=>match DU x with
  | some p=>some p
  | none=>DU y
 | .cond _ x y=>match DU x with
  | some p=>some p
  | none=>DU y
 | .block _ c=>DU c
 | .loop c=>DU c
 | .scope c=>DU c
 | .rangeFunc _ _ a b=>some (a,b)
 | _=>none
def TA (f:FuncId):Code×Code:=(((Try.prog.funcs[f]?).bind fun fn=>fn.body.bind DU)).getD (.skip,.skip)
def Ak(s:AG)(j:Nat)(c:AV):Prop:=∃r,s.heap.get j=some (.row r)∧JR r [c]∧r.mode=.own∧r.par=none
theorem Ak.keep{s s':AG}{j:Nat}{c:AV}(h:Ak s j c)(k:s'.heap.get j=s.heap.get j):Ak s' j c:=by
 obtain⟨r,h1,h2⟩:=h
 exact⟨r,k.trans h1,h2⟩
theorem Ak.load{s:AG}{j:Nat}{c:AV}(h:Ak s j c){t:TypeId}(ht:Fy Try.prog t=some false):AC Try.prog s t (.ptr (some (j,0)))=some c:=by
 obtain⟨r,h1,h2,_⟩:=h
 exact CG ht (B9 h1 (by rw[h2.1];simp) (h2.2 0 c rfl))
theorem Ak.store{s:AG}{j:Nat}{c d:AV}(h:Ak s j c){t:TypeId}(ht:BD Try.prog t=some 1)(h1:d.isCell=true)(h2:d.cells=[d]):
  ∃s',AN Try.prog s t (.ptr (some (j,0))) d=some s'∧Ak s' j d∧s'.next=s.next∧∀x,x≠j→s'.heap.get x=s.heap.get x:=by
 obtain⟨r,g1,g2,g3,g4⟩:=h
 refine⟨setObj s j (.row { r with c:=r.c.fill 0 [d],par:=none }),?_,⟨{ r with c:=r.c.fill 0 [d],par:=none },by rw[BL,if_pos rfl],⟨g2.1,?_⟩,g3,rfl⟩,rfl,fun x hx=>by rw[BL,if_neg hx]⟩
 ·simp[AN,ht,h2,AI,LY (vs:=[d]) (o:=0) g1 g3 g4 (by simp) (by rw[g2.1];simp) (by simp[A7,h1])]
 ·intro k u hk
  have:=Af hk
  show(Ag.fill r.c 0 [d]).get k=some u
  rw[Ag.get_fill,if_pos ⟨ku _,by simpa using this⟩]
  simpa using hk
theorem Ak.new{s:AG}{t:TypeId}{c:AV}:Ak (newObj s (AO t 0 [c])) s.next c:=by
 obtain⟨r,h1,h2,_,_,h5,h6⟩:=CP t 0 [c]
 exact⟨r,by rw[AY,if_pos rfl,h1],h2,h5,h6⟩
section
end
theorem Tv{s s':AG}{l:Nat}(h:s'.heap.get l=s.heap.get l):Bj s' l=Bj s l:=by unfold Bj;rw[h]
theorem LD(s:AG)(l:Nat)(r:GO):Bj (setObj s l (.loop r)) l=some r:=by unfold Bj;rw[BL,if_pos rfl]
theorem BP(s:AG)(loc var:List AV)(f:AG→AV→Option AV)(x a:CX):Fx s loc var ⟨none,.r1 f,[x],a⟩=TD (f s (Da loc var x)) (Da loc var a):=rfl
theorem IU(P:Program)(s:AG)(v:List AV)(x:CX)(t:TypeId)(l:List (CX×Option TypeId)):Bo P s v ((x,some t)::l)=(AC P s t (Da [] v x)).bind fun u=>(Bo P s v l).bind fun r=>some (u::r):=rfl
theorem SV:Bv Try.prog 23=some (AO 23 0 [.slice none 0 (some 0)],.ptr):=by simp[Bv,kD,AV.cells]
def Lit(x:Int):Prop:=x≠0∧-9223372036854775808<x∧x<9223372036854775808
section
variable{H:Type}{enc:TypeId×Value→H}{w:World}{held:Bool}
theorem ez{n:Int}(h:(Lit.int .u8 n).wf=true):u8 n:=by
 simp only[Lit.wf,Bool.and_eq_true,decide_eq_true_eq]at h
 exact h
def j6(f:Int→AV)(q:Int→Prop)(_:AG)(us:List AV)(x:Int):Prop:=us=[f x]∧q x
theorem MG{t:TypeId}{k:IntKind}(ht:Try.prog.underlying t=some (.int k)){q:Int→Prop}(hq:∀n,(Lit.int k n).wf=true→q n)(n:Nat)(cs:List Value)(y:DataW H×List MemPlace)
  (h:DataW.trod enc Try.prog w 0 (fun _=>true) held n t cs=some y) (ρ:Bp) (s:AG) (hd:TJ Try.prog w ρ s):hY Try.prog w (j6 (fun n=>.int k n) q) cs ρ s:=by
 obtain⟨m,rfl,_,h3⟩:=DataW.trod_int ht h
 exact⟨ρ,s,[.int k m],m,hd,Bp.le_refl ρ,B6.refl _ _,.cons (.int k m) .nil,rfl,hq m h3⟩
set_option maxRecDepth 16000
end
end
end Go.Proofs.Ytilhhmkdcoajnaa.Am
set_option linter.unusedVariables false
set_option linter.unusedSimpArgs false
set_option maxRecDepth 16000
namespace Go.Proofs.Ytilhhmkdcoajnaa.Am
open Go Go.Proofs
noncomputable section
theorem TR{W:World}{ρ:Bp}{s:AG}{f:FuncId}{xs:List AV}{args:Array Value}(hd:TJ Try.prog W ρ s)(ha:AS ρ xs args.toList)(h:WF jG f xs (fun r _=>r=.bool true) s):
  Calls Try.prog f args W fun e W'=>e=.returned (.bool true)∧Ln W W':=by
 obtain⟨n,p,h1,h2⟩:=h
 have:=((kA LK (Ha JA) rfl aJ n).call ρ s W f xs p.1 p.2 args h1 hd.inv hd.fresh ha).2
 refine callsIn_wide.1 (CallsIn.mono this ?_)
 intro e w' he
 cases e with
 | panicked c=>exact he.elim
 | outgrown=>exact he.elim
 | returned v' =>
  obtain⟨ρ',k1,k2,k3⟩:=he
  rw[h2]at k1
  cases k1
  exact⟨rfl,S2 k3 hd.notOwned⟩
theorem reads_again{H:Type}{enc:TypeId×Value→H}{P:Program}{t:TypeId}(hl:laidOutB P=true)(hr:P.readableRec t=true)(hrow:t<P.types.size){W W':World}{v:Value}{d:DataW H}{ps:List MemPlace}{sp:Nat→Bool}
  (h:DataW.Trod enc P W 0 (fun _=>true) true t v d ps) (hk:Ln W W') (hlt:∀x∈ps,x.block<W.heap.size) (hs:∀x∈ps,sp x.block=true):DataW.Trod enc P W' 0 sp true t v d ps:=
 WideElems.Trod_stays hl hr hrow h (fun x hx=>by
  have:=hlt x hx
  cases x with
  | cell b o=>exact World.cell?_of_block (w:=W) (hk.heap b this)
  | map b=>exact hk.heap b this) hs
end
end Go.Proofs.Ytilhhmkdcoajnaa.Am
